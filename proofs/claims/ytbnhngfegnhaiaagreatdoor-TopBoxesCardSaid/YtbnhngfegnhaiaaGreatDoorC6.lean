/- In how many ways: the drawn region. In how many ways: the closure. In how many ways; boxes that have a way. Small functions of an open heap; what a card fits. A heap of which one card takes one entry: the copy is made. share: in how many ways a card takes an entry. Share: the walk. Lost: the walk. -/
import Derived.Test.YtbnhngfegnhaiaaGreatDoorC5
namespace Go.Proofs.YtbnhngfegnhaiaaGreatDoor
open Go.RowKit
set_option linter.unusedVariables false
set_option linter.unusedSimpArgs false
theorem cf46h (args : Array Value) (w : World) : (callFunc 46 args).run Tryz.prog w = .ok (.enter 46 args) w := by simp [callFunc, Tryz.func46, Tryz.f46, go_sem]
theorem cf24h (args : Array Value) (w : World) : (callFunc 24 args).run Tryz.prog w = .ok (.enter 24 args) w := by simp [callFunc, Tryz.func24, Tryz.f24, go_sem]
attribute [local go_sem] Oper.semAt_some
noncomputable def cth11C : Code := (Tryz.f46.body.bind (regionAt 11)).getD .skip
set_option maxRecDepth 100000 in
set_option maxHeartbeats 8000000 in
theorem cth11 {bx fx a a1 u i tw u1 v x0 z N : Nat} {P0 P1 P2 P3 : World → Prop} {Q : Exit → Act → World → Prop} {W1 : World} (ha : IntKind.i64.wrap ((a : Int) + 1) = (a1 : Int)) (htw : IntKind.u64.wrap (2 ^ i) = (tw : Int)) (hi : (i : Int) < 12) (hz : IntKind.i64.wrap ((x0 : Int) + (v : Int)) = (z : Int)) (h0 : P0 W1.drew)
    (kl1 : Hid (∀ w : World, (P0 w ∨ P1 w ∨ P2 w ∨ P3 w) → w.cell? ⟨fx, 0, none⟩ = some (.func (.func 46) #[] #[.pointer (some ⟨bx, 0, none⟩), .pointer (some ⟨fx, 0, none⟩)])))
    (ka7 : Hid (∀ w : World, P0 w → w.heap.size = N ∧ P1 (w.alloc (.cells #[.int .u64 (u : Int), .int .u64 (tw : Int)] 71))))
    (kc8 : Hid (∀ w : World, P1 w → Calls Tryz.prog 25 #[.slice (some ⟨N, 0, none⟩) 2 2] w fun e w' => e = .returned (.int .u64 (u1 : Int)) ∧ P2 w'))
    (kc9 : Hid (∀ w : World, P2 w → Calls Tryz.prog 46 #[.int .i64 ((a1 : Int)), .int .u64 (u1 : Int), .pointer (some ⟨bx, 0, none⟩), .pointer (some ⟨fx, 0, none⟩)] w fun e w' => e = .returned (.int .i64 ((v : Int))) ∧ P3 w'))
    {s2 s4 s5 s7 s8 s9 s11 s12 s13 s14 s15 s16 s17 s18 s19 s20 s21 s22 s23 s24 s25 s26 s27 s28 s29 s30 s31 s32 s33 s34 s35 s36 s37 s38 s39 s40 s41 s42 s43 s44 s45 s46 s47 s48 s49 s50 s51 s52 s53 s54 s55 s56 s57 s58 s59 s60 s61 s62 s63 s64 s65 s66 s67 s68 s69 s70 s71 s72 s73 : Value} {dd : List Deferred}
    (hQ : ∀ w' : World, P3 w' → Q .normal { tmps := List.toArray (.int .i64 ((a : Int)) :: .int .u64 (u : Int) :: s2 :: .pointer (some ⟨fx, 0, none⟩) :: s4 :: s5 :: .int .i64 ((z : Int)) :: s7 :: s8 :: s9 :: .int .i64 ((i : Int)) :: s11 :: s12 :: s13 :: s14 :: s15 :: s16 :: s17 :: s18 :: s19 :: s20 :: s21 :: s22 :: s23 :: s24 :: s25 :: s26 :: s27 :: s28 :: s29 :: s30 :: s31 :: s32 :: s33 :: s34 :: s35 :: s36 :: s37 :: s38 :: s39 :: s40 :: s41 :: s42 :: s43 :: s44 :: s45 :: s46 :: s47 :: s48 :: s49 :: s50 :: s51 :: s52 :: .int .i64 ((x0 : Int)) :: .func (.func 46) #[] #[.pointer (some ⟨bx, 0, none⟩), .pointer (some ⟨fx, 0, none⟩)] :: .int .i64 ((a : Int)) :: .int .i64 ((a1 : Int)) :: .int .u64 (u : Int) :: .int .i64 ((i : Int)) :: .int .u64 (tw : Int) :: .slice (some ⟨N, 0, none⟩) 2 2 :: .int .u64 (u1 : Int) :: .int .i64 ((v : Int)) :: .int .i64 ((z : Int)) :: s64 :: s65 :: s66 :: s67 :: s68 :: s69 :: s70 :: s71 :: s72 :: s73 :: []),defers := dd } w') :
    Code.wpIn (wideAt none) 0 Tryz.prog cth11C Q { tmps := List.toArray (.int .i64 ((a : Int)) :: .int .u64 (u : Int) :: s2 :: .pointer (some ⟨fx, 0, none⟩) :: s4 :: s5 :: .int .i64 ((x0 : Int)) :: s7 :: s8 :: s9 :: .int .i64 ((i : Int)) :: s11 :: s12 :: s13 :: s14 :: s15 :: s16 :: s17 :: s18 :: s19 :: s20 :: s21 :: s22 :: s23 :: s24 :: s25 :: s26 :: s27 :: s28 :: s29 :: s30 :: s31 :: s32 :: s33 :: s34 :: s35 :: s36 :: s37 :: s38 :: s39 :: s40 :: s41 :: s42 :: s43 :: s44 :: s45 :: s46 :: s47 :: s48 :: s49 :: s50 :: s51 :: s52 :: s53 :: s54 :: s55 :: s56 :: s57 :: s58 :: s59 :: s60 :: s61 :: s62 :: s63 :: s64 :: s65 :: s66 :: s67 :: s68 :: s69 :: s70 :: s71 :: s72 :: s73 :: []),defers := dd } W1 := by
  have HQ := Lib.hid hQ
  clear hQ
  conv => arg 4; whnf
  refine wpIn_region_invG mixed (by kernel_rfl) (fun d_ a_ w' => a_ = { tmps := List.toArray (.int .i64 ((a : Int)) :: .int .u64 (u : Int) :: s2 :: .pointer (some ⟨fx, 0, none⟩) :: s4 :: s5 :: pk (d_ 11) (.int .i64 ((z : Int))) (.int .i64 ((x0 : Int))) :: s7 :: s8 :: s9 :: .int .i64 ((i : Int)) :: s11 :: s12 :: s13 :: s14 :: s15 :: s16 :: s17 :: s18 :: s19 :: s20 :: s21 :: s22 :: s23 :: s24 :: s25 :: s26 :: s27 :: s28 :: s29 :: s30 :: s31 :: s32 :: s33 :: s34 :: s35 :: s36 :: s37 :: s38 :: s39 :: s40 :: s41 :: s42 :: s43 :: s44 :: s45 :: s46 :: s47 :: s48 :: s49 :: s50 :: s51 :: s52 :: pk (d_ 0) (.int .i64 ((x0 : Int))) s53 :: pk (d_ 1) (.func (.func 46) #[] #[.pointer (some ⟨bx, 0, none⟩), .pointer (some ⟨fx, 0, none⟩)]) s54 :: pk (d_ 2) (.int .i64 ((a : Int))) s55 :: pk (d_ 3) (.int .i64 ((a1 : Int))) s56 :: pk (d_ 4) (.int .u64 (u : Int)) s57 :: pk (d_ 5) (.int .i64 ((i : Int))) s58 :: pk (d_ 6) (.int .u64 (tw : Int)) s59 :: pk (d_ 7) (.slice (some ⟨N, 0, none⟩) 2 2) s60 :: pk (d_ 8) (.int .u64 (u1 : Int)) s61 :: pk (d_ 9) (.int .i64 ((v : Int))) s62 :: pk (d_ 10) (.int .i64 ((z : Int))) s63 :: s64 :: s65 :: s66 :: s67 :: s68 :: s69 :: s70 :: s71 :: s72 :: s73 :: []),defers := dd } ∧ ch3 P0 P1 P2 P3 (d_ 7) (d_ 8) (d_ 9) w' ∧ OrdP [[], [], [], [2], [], [], [5], [4, 6], [7], [1, 3, 8], [0, 9], [0, 1, 2, 3, 4, 5, 6, 7, 8, 9, 10]] d_) ?_ ?_ ?_
  · exact ⟨rfl, h0, fun k h => by cases h⟩
  · refine ⟨?_,?_,?_,?_,?_,?_,?_,?_,?_,?_,?_,?_, trivial⟩
    all_goals
      rintro d_ a_ w1 K hd_ hdep ⟨rfl, F, O⟩ HK
      simp [Region.binds] at hdep
    · have HO : Hid (OrdP [[], [], [], [2], [], [], [5], [4, 6], [7], [1, 3, 8], [0, 9], [0, 1, 2, 3, 4, 5, 6, 7, 8, 9, 10]] (upd d_ 0)) := O.step (show ∀ e ∈ ([] : List Nat), d_ e = true by simp [hdep])
      have n11_ : d_ 11 = false := by
        cases e_ : d_ 11 with
        | false => rfl
        | true => have h2 := (O 11 e_ 0 (by decide)); rw [show d_ 0 = false from hd_] at h2; cases h2
      rw [pk_no n11_]
      clear O
      have HF := Lib.hid F
      clear F hdep
      go_simp
      refine HK.out _ _ ⟨?_, HF.out, HO.out⟩
      rw [pk_no (show upd d_ 0 11 = false from n11_)]
      all_goals rfl
    · have HO : Hid (OrdP [[], [], [], [2], [], [], [5], [4, 6], [7], [1, 3, 8], [0, 9], [0, 1, 2, 3, 4, 5, 6, 7, 8, 9, 10]] (upd d_ 1)) := O.step (show ∀ e ∈ ([] : List Nat), d_ e = true by simp [hdep])
      have kk := kl1.out w1 (ch3_or F)
      clear O
      have HF := Lib.hid F
      clear F hdep
      go_simp
      refine HK.out _ _ ⟨?_, HF.out, HO.out⟩
      all_goals rfl
    · have HO : Hid (OrdP [[], [], [], [2], [], [], [5], [4, 6], [7], [1, 3, 8], [0, 9], [0, 1, 2, 3, 4, 5, 6, 7, 8, 9, 10]] (upd d_ 2)) := O.step (show ∀ e ∈ ([] : List Nat), d_ e = true by simp [hdep])
      clear O
      have HF := Lib.hid F
      clear F hdep
      go_simp
      refine HK.out _ _ ⟨?_, HF.out, HO.out⟩
      all_goals rfl
    · have HO : Hid (OrdP [[], [], [], [2], [], [], [5], [4, 6], [7], [1, 3, 8], [0, 9], [0, 1, 2, 3, 4, 5, 6, 7, 8, 9, 10]] (upd d_ 3)) := O.step (show ∀ e ∈ ([2] : List Nat), d_ e = true by simp [hdep])
      have q2 : d_ 2 = true := by simp [hdep]
      clear O
      have ha2 := ha
      rw [pk_of q2]
      have HF := Lib.hid F
      clear F hdep
      go_simp
      refine HK.out _ _ ⟨?_, HF.out, HO.out⟩
      rw [pk_of (show upd d_ 3 2 = true from q2)]
      all_goals rfl
    · have HO : Hid (OrdP [[], [], [], [2], [], [], [5], [4, 6], [7], [1, 3, 8], [0, 9], [0, 1, 2, 3, 4, 5, 6, 7, 8, 9, 10]] (upd d_ 4)) := O.step (show ∀ e ∈ ([] : List Nat), d_ e = true by simp [hdep])
      clear O
      have HF := Lib.hid F
      clear F hdep
      go_simp
      refine HK.out _ _ ⟨?_, HF.out, HO.out⟩
      all_goals rfl
    · have HO : Hid (OrdP [[], [], [], [2], [], [], [5], [4, 6], [7], [1, 3, 8], [0, 9], [0, 1, 2, 3, 4, 5, 6, 7, 8, 9, 10]] (upd d_ 5)) := O.step (show ∀ e ∈ ([] : List Nat), d_ e = true by simp [hdep])
      clear O
      have HF := Lib.hid F
      clear F hdep
      go_simp
      refine HK.out _ _ ⟨?_, HF.out, HO.out⟩
      all_goals rfl
    · have HO : Hid (OrdP [[], [], [], [2], [], [], [5], [4, 6], [7], [1, 3, 8], [0, 9], [0, 1, 2, 3, 4, 5, 6, 7, 8, 9, 10]] (upd d_ 6)) := O.step (show ∀ e ∈ ([5] : List Nat), d_ e = true by simp [hdep])
      have q5 : d_ 5 = true := by simp [hdep]
      clear O
      have ht2 := htw
      have hi2 := hi
      rw [pk_of q5]
      have HF := Lib.hid F
      clear F hdep
      go_simp
      refine HK.out _ _ ⟨?_, HF.out, HO.out⟩
      rw [pk_of (show upd d_ 6 5 = true from q5)]
      all_goals rfl
    · have HO : Hid (OrdP [[], [], [], [2], [], [], [5], [4, 6], [7], [1, 3, 8], [0, 9], [0, 1, 2, 3, 4, 5, 6, 7, 8, 9, 10]] (upd d_ 7)) := O.step (show ∀ e ∈ ([4, 6] : List Nat), d_ e = true by simp [hdep])
      have q4 : d_ 4 = true := by simp [hdep]
      have q6 : d_ 6 = true := by simp [hdep]
      clear O
      rw [pk_of q4, pk_of q6]
      obtain ⟨hP, hN⟩ := ch3_s1 F hd_
      obtain ⟨hz_, hR⟩ := ka7.out w1 hP
      have HF := Lib.hid (hN _ hR)
      clear F hP hR hN hdep
      go_simp
      try rw [hz_]
      have HG := HF.out
      refine HK.out _ _ ⟨?_, HG, HO.out⟩
      rw [pk_of (show upd d_ 7 4 = true from q4), pk_of (show upd d_ 7 6 = true from q6)]
      all_goals rfl
    · have HO : Hid (OrdP [[], [], [], [2], [], [], [5], [4, 6], [7], [1, 3, 8], [0, 9], [0, 1, 2, 3, 4, 5, 6, 7, 8, 9, 10]] (upd d_ 8)) := O.step (show ∀ e ∈ ([7] : List Nat), d_ e = true by simp [hdep])
      have q7 : d_ 7 = true := by simp [hdep]
      clear O
      rw [pk_of q7]
      obtain ⟨hP, hN⟩ := ch3_s2 F (show d_ 7 = true by simp [hdep]) hd_
      have hc := kc8.out w1 hP
      have HN := Lib.hid hN
      clear F hP hN hdep
      go_simp
      refine ⟨trivial, rfl, wideAt_calls (hc.mono ?_)⟩
      rintro e w5 ⟨rfl, hR⟩
      have HG := HN.out w5 hR
      refine HK.out _ _ ⟨?_, HG, HO.out⟩
      rw [pk_of (show upd d_ 8 7 = true from q7)]
      all_goals rfl
    · have HO : Hid (OrdP [[], [], [], [2], [], [], [5], [4, 6], [7], [1, 3, 8], [0, 9], [0, 1, 2, 3, 4, 5, 6, 7, 8, 9, 10]] (upd d_ 9)) := O.step (show ∀ e ∈ ([1, 3, 8] : List Nat), d_ e = true by simp [hdep])
      have q1 : d_ 1 = true := by simp [hdep]
      have q3 : d_ 3 = true := by simp [hdep]
      have q8 : d_ 8 = true := by simp [hdep]
      clear O
      rw [pk_of q1, pk_of q3, pk_of q8]
      obtain ⟨hP, hN⟩ := ch3_s3 F (show d_ 8 = true by simp [hdep]) hd_
      have hc := kc9.out w1 hP
      have HN := Lib.hid hN
      clear F hP hN hdep
      have hcf := cf46h
      go_simp
      refine ⟨trivial, rfl, wideAt_calls (hc.mono ?_)⟩
      rintro e w5 ⟨rfl, hR⟩
      have HG := HN.out w5 hR
      refine HK.out _ _ ⟨?_, HG, HO.out⟩
      rw [pk_of (show upd d_ 9 1 = true from q1), pk_of (show upd d_ 9 3 = true from q3), pk_of (show upd d_ 9 8 = true from q8)]
      all_goals rfl
    · have HO : Hid (OrdP [[], [], [], [2], [], [], [5], [4, 6], [7], [1, 3, 8], [0, 9], [0, 1, 2, 3, 4, 5, 6, 7, 8, 9, 10]] (upd d_ 10)) := O.step (show ∀ e ∈ ([0, 9] : List Nat), d_ e = true by simp [hdep])
      have q0 : d_ 0 = true := by simp [hdep]
      have q9 : d_ 9 = true := by simp [hdep]
      clear O
      have hz2 := hz
      rw [pk_of q0, pk_of q9]
      have HF := Lib.hid F
      clear F hdep
      go_simp
      refine HK.out _ _ ⟨?_, HF.out, HO.out⟩
      rw [pk_of (show upd d_ 10 0 = true from q0), pk_of (show upd d_ 10 9 = true from q9)]
      all_goals rfl
    · have HO : Hid (OrdP [[], [], [], [2], [], [], [5], [4, 6], [7], [1, 3, 8], [0, 9], [0, 1, 2, 3, 4, 5, 6, 7, 8, 9, 10]] (upd d_ 11)) := O.step (show ∀ e ∈ ([0, 1, 2, 3, 4, 5, 6, 7, 8, 9, 10] : List Nat), d_ e = true by simp [hdep])
      have q10 : d_ 10 = true := by simp [hdep]
      clear O
      rw [pk_of q10]
      have HF := Lib.hid F
      clear F hdep
      go_simp
      refine HK.out _ _ ⟨?_, HF.out, HO.out⟩
      rw [pk_of (show upd d_ 11 10 = true from q10)]
      all_goals rfl
  · rintro d_ a_ w1 hall ⟨rfl, F, O⟩
    have hall' : ∀ k, k < 12 → d_ k = true := hall
    rw [hall' 7 (by decide), hall' 8 (by decide), hall' 9 (by decide)] at F
    have HF := Lib.hid F
    clear F
    rw [pk_of (hall' 0 (by decide)), pk_of (hall' 1 (by decide)), pk_of (hall' 2 (by decide)), pk_of (hall' 3 (by decide)), pk_of (hall' 4 (by decide)), pk_of (hall' 5 (by decide)), pk_of (hall' 6 (by decide)), pk_of (hall' 7 (by decide)), pk_of (hall' 8 (by decide)), pk_of (hall' 9 (by decide)), pk_of (hall' 10 (by decide)), pk_of (hall' 11 (by decide))]
    exact HQ.out w1 HF.out
end Go.Proofs.YtbnhngfegnhaiaaGreatDoor
namespace Go.Proofs.YtbnhngfegnhaiaaGreatDoor
open Go.RowKit
set_option linter.unusedVariables false
set_option linter.unusedSimpArgs false
theorem IsSets.same {w w' : World} {mb : Nat} {a : Option Addr} {l : List Nat} (h : IsSets w a l) (hm : ∃ es c, w.heap[mb]? = some (.map es c)) (hs : Same (fun k => k = mb) w w') : IsSets w' a l := fun i hi => by
  obtain ⟨b, off, e, hc⟩ := h i hi
  exact ⟨b, off, e, cell_same hm hs hc⟩
theorem Hp.same {m : Mx} {ab ac ae af : Option Addr} {cb cc E hb mb ce cf : Nat} {fs : List Nat} {w w' : World} (h : Hp m ab cb ac cc E fs hb mb ae ce af cf w) (hm : ∃ es c, w.heap[mb]? = some (.map es c)) (hs : Same (fun k => k = mb) w w') : Hp m ab cb ac cc E fs hb mb ae ce af cf w' :=
  ⟨heap_same hm hs h.h, h.ft.same hm hs⟩
/-- What the closure has captured. -/
structure CntH (m : Mx) (ab : Option Addr) (cb : Nat) (ac : Option Addr) (cc E : Nat) (fs : List Nat) (hb mb : Nat) (ae : Option Addr) (ce : Nat) (af : Option Addr) (cf bx fx : Nat) (w : World) : Prop where
  hx : w.heap[bx]? = some (.cells #[.pointer (some ⟨hb, 0, none⟩)] 65 (0, 0))
  fx : w.heap[fx]? = some (.cells #[.func (.func 46) #[] #[.pointer (some ⟨bx, 0, none⟩), .pointer (some ⟨fx, 0, none⟩)]] 68 (0, 0))
  hp : Hp m ab cb ac cc E fs hb mb ae ce af cf w
  kn : KnownH E fs w mb
theorem CntH.same {m : Mx} {ab ac ae af : Option Addr} {cb cc E hb mb ce cf bx fx : Nat} {fs : List Nat} {w w' : World} (h : CntH m ab cb ac cc E fs hb mb ae ce af cf bx fx w) (hs : Same (fun k => k = mb) w w') (hk : KnownH E fs w' mb) : CntH m ab cb ac cc E fs hb mb ae ce af cf bx fx w' :=
  ⟨heap_same h.kn.map hs h.hx, heap_same h.kn.map hs h.fx, h.hp.same h.kn.map hs, hk⟩
theorem CntH.below {m : Mx} {ab ac ae af : Option Addr} {cb cc E hb mb ce cf bx fx : Nat} {fs : List Nat} {w w' : World} (h : CntH m ab cb ac cc E fs hb mb ae ce af cf bx fx w) (hb' : Below w.heap.size w w') : CntH m ab cb ac cc E fs hb mb ae ce af cf bx fx w' :=
  h.same (Same.of_below _ hb') (h.kn.kept (hb'.block _ h.kn.lt))
set_option maxRecDepth 100000 in
set_option maxHeartbeats 32000000 in
theorem on46_step {m : Mx} {ab ac ae af : Option Addr} {cb cc E hb mb ce cf bx fx : Nat} {fs : List Nat} {w : World} {s : Nat × Nat} (hE : E ≤ 12) (hn : fs.length ≤ 8) (hnc : fs.length = m.cards.length) (hfs : ∀ k, k < fs.length → gn fs k < 2 ^ E)
    (hs : s.1 ≤ fs.length ∧ s.2 < 2 ^ E) (hC : CntH m ab cb ac cc E fs hb mb ae ce af cf bx fx w)
    (IH : ∀ (t : Nat × Nat) (w : World), t.1 = s.1 + 1 → t.1 ≤ fs.length → t.2 < 2 ^ E → CntH m ab cb ac cc E fs hb mb ae ce af cf bx fx w →
      Calls Tryz.prog 46 #[.int .i64 (t.1 : Int), .int .u64 (t.2 : Int), .pointer (some ⟨bx, 0, none⟩), .pointer (some ⟨fx, 0, none⟩)] w fun e w' => e = .returned (.int .i64 (valH E fs t : Int)) ∧ Same (fun k => k = mb) w w' ∧ KnownH E fs w' mb) :
    Calls Tryz.prog 46 #[.int .i64 (s.1 : Int), .int .u64 (s.2 : Int), .pointer (some ⟨bx, 0, none⟩), .pointer (some ⟨fx, 0, none⟩)] w fun e w' => e = .returned (.int .i64 (valH E fs s : Int)) ∧ Same (fun k => k = mb) w w' ∧ KnownH E fs w' mb := by
  obtain ⟨at_, used⟩ := s
  have hat : (at_ : Int) ≤ m.cards.length := by have := hs.1; omega
  have HC := Lib.hid hC
  have HI := Lib.hid IH
  have HL := Lib.hid (And.intro hE (And.intro hn (And.intro hnc (And.intro hfs hs))))
  have hl8 : (m.cards.length : Int) ≤ 8 := by omega
  have hpow : 2 ^ E ≤ 2 ^ 12 := Nat.pow_le_pow_right (by omega) hE
  have h12 : (2 : Nat) ^ 12 = 4096 := by decide
  have HU : Hid (used < 4096) := by have := hs.2; rw [Hid]; simp only at this; omega
  have hst : StOk (at_, used) := ⟨by have := hs.1; simp only at this ⊢; omega, by have := HU.out; show used < 2 ^ 62; omega⟩
  have HST := Lib.hid hst
  have m0 : w.cell? ⟨bx, 0, none⟩ = some (.pointer (some ⟨hb, 0, none⟩)) := by rw [cell_of_heap hC.hx]; rfl
  have m1 : w.cell? ⟨hb, 1, none⟩ = some (.slice ac m.cards.length cc) := by rw [cell_of_heap hC.hp.h]; rfl
  have m4 : w.cell? ⟨hb, 4, none⟩ = some (.map (some mb)) := by rw [cell_of_heap hC.hp.h]; rfl
  have m3 : w.cell? ⟨hb, 3, none⟩ = some (.slice af fs.length cf) := by rw [cell_of_heap hC.hp.h]; rfl
  have m2 : w.cell? ⟨hb, 2, none⟩ = some (.slice ae E ce) := by rw [cell_of_heap hC.hp.h]; rfl
  clear hC IH hE hn hnc hfs hs hpow h12 hst
  by_cases hend : at_ = m.cards.length
  · have HV : Hid (valH E fs (at_, used) = 1) := by
      have : fs.length ≤ at_ := by have := HL.out.2.2.1; omega
      show countL E (fs.drop at_) used = 1
      rw [List.drop_of_length_le this]
      rfl
    subst hend
    go_enter Tryz.func46, Tryz.ntmps46
    go_wp2_with fail
    go_ret
    exact ⟨by rw [HV.out]; rfl, Same.refl _ _, HC.out.kn⟩
  · have hne : ((at_ : Int) == (m.cards.length : Int)) = false := by simp; omega
    have hlt : (at_ : Int) < m.cards.length := by omega
    have HAT : Hid (at_ < fs.length) := by have := HL.out.2.2.1; rw [Hid]; omega
    clear hend
    obtain ⟨x, ok, hlk, hok⟩ := HC.out.kn.look HST.out
    have hlk1 := hlk w rfl
    have HOK := Lib.hid hok
    clear hlk hok
    go_enter Tryz.func46, Tryz.ntmps46
    refine wp_seq_hid ?_
    intro K1 HK1
    go_wp2_with fail
    refine HK1.out _ _ ?_
    clear HK1 K1
    cases ok with
    | true =>
      go_wp2_with fail
      go_ret
      exact ⟨by rw [← HOK.out (by first | trivial | rfl)]; rfl, Same.refl _ _, HC.out.kn⟩
    | false =>
      refine wp_seq_hid ?_
      intro K3 HK3
      go_wp2_with fail
      refine HK3.out _ _ ?_
      clear HK3 K3
      refine wp_seq_hid ?_
      intro K5 HK5
      go_wp2_with fail
      refine HK5.out _ _ ?_
      clear HK5 K5 hlk1 HOK
      obtain ⟨bs, os, rfl, c0⟩ := HC.out.hp.ft at_ HAT.out
      have HF := Lib.hid (HL.out.2.2.2.1 at_ HAT.out)
      have HDR := Lib.hid (drop_at HAT.out)
      have HPA : Hid (valH E fs (at_, used) = partH E (fs.drop (at_ + 1)) (gn fs at_) used E) := by
        show countL E (fs.drop at_) used = _
        rw [HDR.out, part_all]
      revert c0 HF HPA HDR
      generalize gn fs at_ = f
      intro c0 HF HDR HPA
      have HF2 : Hid (f < 2 ^ 62) := by
        have h1 := HF.out
        have h2 : 2 ^ E ≤ 2 ^ 12 := Nat.pow_le_pow_right (by omega) HL.out.1
        have h3 : (2 : Nat) ^ 12 = 4096 := by decide
        rw [Hid]; omega
      have HU2 : Hid (used < 2 ^ 62) := by have := HU.out; rw [Hid]; omega
      obtain ⟨fr, hfr, hfr2, hfr3⟩ := andNot_u64 f used HF2.out HU2.out
      have HFR := Lib.hid (And.intro hfr2 hfr3)
      clear hfr2 hfr3
      have hfsl : (at_ : Int) < fs.length := by have := HAT.out; omega
      have hmf : ∀ (fn : Fn) (first cap : Array Value) (w : World), (Instr.makeFunc fn first cap).run Tryz.prog w = .ok (.func fn first cap) w := fun _ _ _ _ => rfl
      refine wp_seq_hid ?_
      intro K6 HK6
      go_wp2_with fail
      refine HK6.out _ _ ?_
      clear HK6 K6 hfr c0 hmf m1 m3 m4
      refine wp_seq_hid ?_
      intro K7 HK7
      go_wp2_with fail
      clear m0 m2
      have hE12 : (E : Int) ≤ 12 := by have := HL.out.1; omega
      go_loopw [6, 47] (fun z i wr => ∃ k : Nat, k ≤ E ∧ i = .int .i64 (k : Int) ∧ z = .int .i64 (partH E (fs.drop (at_ + 1)) f used k : Int) ∧ Hid (Same (fun k => k = mb) w wr ∧ CntH m ab cb ac cc E fs hb mb ae ce (some ⟨bs, os, none⟩) cf bx fx wr)) (fun _ i _ => E - (intOf i).toNat)
      case atStart => exact ⟨0, Nat.zero_le _, rfl, rfl, Same.refl _ _, HC.out⟩
      case round =>
        obtain ⟨k, hk, rfl, rfl, HW⟩ := hrel
        by_cases hlt2 : k < E
        · have hk12 : (k : Int) < 12 := by omega
          have HFB := Lib.hid (HFR.out.2 k)
          have HNX : Hid (partH E (fs.drop (at_ + 1)) f used (k + 1) = partH E (fs.drop (at_ + 1)) f used k + if f.testBit k && !used.testBit k then countL E (fs.drop (at_ + 1)) (used ||| 2 ^ k) else 0) := rfl
          have hcf := cf24h
          have hfe : (∀ args w, (callFunc 24 args).run Tryz.prog w = .ok (.enter 24 args) w) := cf24h
          have HBD := Lib.hid (part_up E (fs.drop (at_ + 1)) f used (k + 1) (E - (k + 1)))
          go_wp2_with fail
          refine (has24 HFR.out.1 (by omega) wr).mono ?_
          rintro e w' ⟨rfl, rfl⟩
          rw [HFB.out]
          cases hbit : (f.testBit k && !used.testBit k)
          · have HSE : Hid (partH E (fs.drop (at_ + 1)) f used (k + 1) = partH E (fs.drop (at_ + 1)) f used k) := by rw [Hid, HNX.out, hbit]; simp
            clear hbit
            go_wp2_with fail
            go_roundw
            case rel => exact ⟨k + 1, by omega, by go_num, by rw [HSE.out], HW.out⟩
            case measure => simp [intOf]; omega
          · have HSE : Hid (partH E (fs.drop (at_ + 1)) f used (k + 1) = partH E (fs.drop (at_ + 1)) f used k + countL E (fs.drop (at_ + 1)) (used ||| 2 ^ k)) := by rw [Hid, HNX.out, hbit, if_pos rfl]
            clear hbit
            have hpart : partH E (fs.drop (at_ + 1)) f used (k + 1) ≤ 429981696 := by
              have h1 := HBD.out
              rw [show k + 1 + (E - (k + 1)) = E by omega, ← HPA.out] at h1
              exact Nat.le_trans h1 (count_big HL.out.1 (by simp; have := HL.out.2.1; omega) _)
            have HTK : Hid (used ||| 2 ^ k < 2 ^ E) := Nat.or_lt_two_pow HL.out.2.2.2.2.2 (Nat.pow_lt_pow_right (by omega) hlt2)
            have HPT := Lib.hid hpart
            clear hpart
            go_upto_region 11 with fail
            obtain ⟨W2, hW2⟩ : ∃ W2, W2 = wr.drew := ⟨_, rfl⟩
            have hb2 : Below wr.heap.size wr W2 := by rw [hW2]; exact (Below.refl _ wr).drew
            have hbA : Below wr.heap.size wr (W2.alloc (.cells #[.int .u64 (used : Int), .int .u64 ((2 ^ k : Nat) : Int)] 71)) := by rw [hW2]; exact (Below.refl _ wr).drew.alloc (Nat.le_refl _) _
            have hz2 : W2.heap.size = wr.heap.size := by rw [hW2]; rfl
            have hnew := World.alloc_heap_new W2 (.cells #[.int .u64 (used : Int), .int .u64 ((2 ^ k : Nat) : Int)] 71)
            rw [hz2] at hnew
            have HG := Lib.hid (And.intro (HW.out.2.below hb2) (And.intro (HW.out.2.below hbA) (And.intro (same_later HW.out.1 (Same.of_below (fun k => k = mb) hbA) (fun i e => .inl e)) (And.intro hnew (And.intro hz2 hW2)))))
            clear hb2 hbA hz2 hnew hW2
            refine wpIn_wide.1 (cth11 (bx := bx) (fx := fx) (a := at_) (a1 := at_ + 1) (u := used) (i := k) (tw := 2 ^ k) (u1 := used ||| 2 ^ k) (v := countL E (fs.drop (at_ + 1)) (used ||| 2 ^ k)) (x0 := partH E (fs.drop (at_ + 1)) f used k) (z := partH E (fs.drop (at_ + 1)) f used (k + 1)) (N := wr.heap.size)
              (P0 := fun v => v = W2) (P1 := fun v => v = W2.alloc (.cells #[.int .u64 (used : Int), .int .u64 ((2 ^ k : Nat) : Int)] 71)) (P2 := fun v => v = W2.alloc (.cells #[.int .u64 (used : Int), .int .u64 ((2 ^ k : Nat) : Int)] 71)) (P3 := fun v => Same (fun k => k = mb) w v ∧ CntH m ab cb ac cc E fs hb mb ae ce (some ⟨bs, os, none⟩) cf bx fx v)
              ?ha (two_wrap_u (by omega)) (by omega) ?hz HG.out.2.2.2.2.2.symm ?l1 ?a7 ?c8 ?c9 ?hQ)
            case ha => exact (IntWalk.i64_in _ (by omega)).trans (by omega)
            case hz =>
              have := HPT.out
              have h2 := HSE.out
              exact (IntWalk.i64_in _ (by omega)).trans (by omega)
            case l1 =>
              rintro v (rfl | rfl | rfl | h)
              · exact (cell_of_heap HG.out.1.fx).trans rfl
              · exact (cell_of_heap HG.out.2.1.fx).trans rfl
              · exact (cell_of_heap HG.out.2.1.fx).trans rfl
              · exact (cell_of_heap h.2.fx).trans rfl
            case a7 => rintro v rfl; exact ⟨HG.out.2.2.2.2.1, rfl⟩
            case c8 =>
              rintro v rfl
              refine (union25 HU2.out (two_ltH (by omega)) HG.out.2.2.2.1).mono ?_
              rintro e v' ⟨he, rfl⟩
              exact ⟨he, rfl⟩
            case c9 =>
              rintro v rfl
              refine (HI.out (at_ + 1, used ||| 2 ^ k) _ rfl (by have := HAT.out; show at_ + 1 ≤ fs.length; omega) HTK.out HG.out.2.1).mono ?_
              rintro e v' ⟨he, hs1, hk1⟩
              exact ⟨he, HG.out.2.2.1.trans hs1, HG.out.2.1.same hs1 hk1⟩
            intro w3 h3
            have H3 := Lib.hid h3
            clear h3 HG
            rename_i K11 hK11
            refine hK11 _ _ ?_
            clear hK11 K11
            go_wp2_with fail
            go_roundw
            case rel => exact ⟨k + 1, by omega, by go_num, rfl, H3.out⟩
            case measure => simp [intOf]; omega
        · obtain rfl : E = k := by omega
          go_wp2_with fail
          refine HK7.out _ _ ?_
          clear HK7
          have hv : partH E (fs.drop (at_ + 1)) f used E = valH E fs (at_, used) := HPA.out.symm
          rw [hv]
          obtain ⟨w8, hr, hs8, hk8⟩ := HW.out.2.kn.update HST.out
          have H8 := Lib.hid (And.intro (HW.out.1.trans hs8) hk8)
          have m0 : wr.cell? ⟨bx, 0, none⟩ = some (.pointer (some ⟨hb, 0, none⟩)) := by rw [cell_of_heap HW.out.2.hx]; rfl
          have m4 : wr.cell? ⟨hb, 4, none⟩ = some (.map (some mb)) := by rw [cell_of_heap HW.out.2.hp.h]; rfl
          clear hv hs8 hk8
          go_wp2_with fail
          go_ret
          exact ⟨rfl, H8.out.1, H8.out.2⟩
end Go.Proofs.YtbnhngfegnhaiaaGreatDoor
namespace Go.Proofs.YtbnhngfegnhaiaaGreatDoor
open Go.RowKit
set_option linter.unusedVariables false
set_option linter.unusedSimpArgs false
theorem on46 {m : Mx} {ab ac ae af : Option Addr} {cb cc E hb mb ce cf bx fx : Nat} {fs : List Nat} (hE : E ≤ 12) (hn : fs.length ≤ 8) (hnc : fs.length = m.cards.length) (hfs : ∀ k, k < fs.length → gn fs k < 2 ^ E) :
    ∀ (d : Nat) (s : Nat × Nat) (w : World), fs.length - s.1 ≤ d → s.1 ≤ fs.length → s.2 < 2 ^ E → CntH m ab cb ac cc E fs hb mb ae ce af cf bx fx w →
    Calls Tryz.prog 46 #[.int .i64 (s.1 : Int), .int .u64 (s.2 : Int), .pointer (some ⟨bx, 0, none⟩), .pointer (some ⟨fx, 0, none⟩)] w fun e w' => e = .returned (.int .i64 (valH E fs s : Int)) ∧ Same (fun k => k = mb) w w' ∧ KnownH E fs w' mb
  | 0, s, w, h, h1, h2, hc => on46_step hE hn hnc hfs ⟨h1, h2⟩ hc (fun t w' e1 e2 _ _ => by omega)
  | d + 1, s, w, h, h1, h2, hc => on46_step hE hn hnc hfs ⟨h1, h2⟩ hc (fun t w' e1 e2 e3 e4 => on46 hE hn hnc hfs d t w' (by omega) e2 e3 e4)
theorem CntH.call {m : Mx} {ab ac ae af : Option Addr} {cb cc E hb mb ce cf bx fx : Nat} {fs : List Nat} {w : World} (hC : CntH m ab cb ac cc E fs hb mb ae ce af cf bx fx w) (hE : E ≤ 12) (hn : fs.length ≤ 8) (hnc : fs.length = m.cards.length) (hfs : ∀ k, k < fs.length → gn fs k < 2 ^ E) (s : Nat × Nat) (h1 : s.1 ≤ fs.length) (h2 : s.2 < 2 ^ E) :
    Calls Tryz.prog 46 #[.int .i64 (s.1 : Int), .int .u64 (s.2 : Int), .pointer (some ⟨bx, 0, none⟩), .pointer (some ⟨fx, 0, none⟩)] w fun e w' => e = .returned (.int .i64 (valH E fs s : Int)) ∧ Same (fun k => k = mb) w w' ∧ CntH m ab cb ac cc E fs hb mb ae ce af cf bx fx w' :=
  (on46 hE hn hnc hfs _ s w (Nat.le_refl _) h1 h2 hC).mono fun e w' ⟨he, hs, hk⟩ => ⟨he, hs, hC.same hs hk⟩
/-- A closure that counts is returned. -/
def CntP (m : Mx) (ab : Option Addr) (cb : Nat) (ac : Option Addr) (cc E : Nat) (fs : List Nat) (hb mb : Nat) (ae : Option Addr) (ce : Nat) (af : Option Addr) (cf : Nat) (w : World) (e : Ending) (w' : World) : Prop :=
  ∃ bx fx : Nat, e = .returned (.func (.func 46) #[] #[.pointer (some ⟨bx, 0, none⟩), .pointer (some ⟨fx, 0, none⟩)]) ∧ CntH m ab cb ac cc E fs hb mb ae ce af cf bx fx w' ∧ Below w.heap.size w w'
set_option maxRecDepth 100000 in
set_option maxHeartbeats 4000000 in
theorem count23 {m : Mx} {ab ac ae af : Option Addr} {cb cc E hb mb ce cf : Nat} {fs : List Nat} {w : World} (hp : Hp m ab cb ac cc E fs hb mb ae ce af cf w) (hk : KnownH E fs w mb) :
    Calls Tryz.prog 23 #[.pointer (some ⟨hb, 0, none⟩)] w fun e w' => CntP m ab cb ac cc E fs hb mb ae ce af cf w e w' := by
  have hmf : ∀ (fn : Fn) (first cap : Array Value) (w : World), (Instr.makeFunc fn first cap).run Tryz.prog w = .ok (.func fn first cap) w := fun _ _ _ _ => rfl
  obtain ⟨x0, x1, x2⟩ := alloc2 w #[.pointer (some ⟨hb, 0, none⟩)] #[.nilFunc] 65 68
  have HX := Lib.hid (And.intro x0 (And.intro x1 x2))
  have HP := Lib.hid (And.intro hp hk)
  clear x0 x1 x2 hp hk
  go_enter Tryz.func23, Tryz.ntmps23
  refine wp_seq_hid ?_
  intro K0 HK0
  go_wp2_with fail
  refine HK0.out _ _ ?_
  clear HK0 K0
  refine wp_seq_hid ?_
  intro K1 HK1
  go_wp2_with fail
  refine HK1.out _ _ ?_
  clear HK1 K1
  revert HX
  generalize (w.alloc (.cells #[.pointer (some ⟨hb, 0, none⟩)] 65)).alloc (.cells #[.nilFunc] 68) = w1
  intro HX
  have c0 : w1.cell? ⟨w.heap.size + 1, 0, none⟩ = some .nilFunc := by rw [cell_of_heap HX.out.2.1]; rfl
  have f0 : w1.frozen? ⟨w.heap.size + 1, 0, none⟩ = false := frozen_of_heap HX.out.2.1
  refine wp_seq_hid ?_
  intro K2 HK2
  go_wp2_with fail
  refine HK2.out _ _ ?_
  clear HK2 K2 c0 f0 hmf
  have hb2 : Below w.heap.size w (w1.setCell ⟨w.heap.size + 1, 0, none⟩ (.func (.func 46) #[] #[.pointer (some ⟨w.heap.size, 0, none⟩), .pointer (some ⟨w.heap.size + 1, 0, none⟩)])) := HX.out.2.2.setCell (p := ⟨w.heap.size + 1, 0, none⟩) (Nat.le_succ _) _
  have hx2 : (w1.setCell ⟨w.heap.size + 1, 0, none⟩ (.func (.func 46) #[] #[.pointer (some ⟨w.heap.size, 0, none⟩), .pointer (some ⟨w.heap.size + 1, 0, none⟩)])).heap[w.heap.size]? = some (.cells #[.pointer (some ⟨hb, 0, none⟩)] 65 (0, 0)) := (Below.heap_setCell _ _ _ _ (show w.heap.size ≠ w.heap.size + 1 from Nat.ne_of_lt (Nat.lt_succ_self _))).trans HX.out.1
  have hf2 : (w1.setCell ⟨w.heap.size + 1, 0, none⟩ (.func (.func 46) #[] #[.pointer (some ⟨w.heap.size, 0, none⟩), .pointer (some ⟨w.heap.size + 1, 0, none⟩)])).heap[w.heap.size + 1]? = some (.cells #[.func (.func 46) #[] #[.pointer (some ⟨w.heap.size, 0, none⟩), .pointer (some ⟨w.heap.size + 1, 0, none⟩)]] 68 (0, 0)) := heap_setCell_at (k := 0) HX.out.2.1 _
  have HB := Lib.hid (And.intro hb2 (And.intro hx2 hf2))
  clear hb2 hx2 hf2 HX
  revert HB
  generalize w1.setCell ⟨w.heap.size + 1, 0, none⟩ (.func (.func 46) #[] #[.pointer (some ⟨w.heap.size, 0, none⟩), .pointer (some ⟨w.heap.size + 1, 0, none⟩)]) = w2
  intro HB
  have c0 : w2.cell? ⟨w.heap.size + 1, 0, none⟩ = some (.func (.func 46) #[] #[.pointer (some ⟨w.heap.size, 0, none⟩), .pointer (some ⟨w.heap.size + 1, 0, none⟩)]) := by rw [cell_of_heap HB.out.2.2]; rfl
  go_wp2_with fail
  go_ret
  exact ⟨w.heap.size, w.heap.size + 1, rfl, ⟨HB.out.2.1, HB.out.2.2, HP.out.1.mono HB.out.1, HP.out.2.kept (HB.out.1.block _ HP.out.2.lt)⟩, HB.out.1⟩
/-- Facts on what is looked at. -/
structure Mx.Facts (m : Mx) : Prop where
  e12 : m.ents.length ≤ 12
  n8 : m.fits.length ≤ 8
  nc : m.fits.length = m.cards.length
  fl : ∀ k, k < m.fits.length → gn m.fits k < 2 ^ m.ents.length
theorem facts_of {m : Mx} (h : m.Ok) : m.Facts := by
  have hl : m.fits.length = m.cards.length := by simp [Mx.fits]
  refine ⟨?_, by rw [hl]; exact h.nc, hl, fun k hk => ?_⟩
  · unfold Mx.ents
    rw [ents_len]
    exact h.ne
  · have e : gn m.fits k = fitE m.ents (gc m.cards k) := by
      rw [hl] at hk
      simp [gn, gc, Mx.fits, hk]
    rw [e]
    exact bitsN_lt _ _
/-- What is told of boxes that have a way. -/
def WaysP (m : Mx) (ab : Option Addr) (cb : Nat) (ac : Option Addr) (cc : Nat) (w : World) (e : Ending) (w' : World) : Prop :=
  ((countL m.ents.length m.fits 0 = 0 ∧ e = .returned (.tuple #[.pointer none, .int .i64 4])) ∨ (countL m.ents.length m.fits 0 ≠ 0 ∧ ∃ (hb mb : Nat) (ae : Option Addr) (ce : Nat) (af : Option Addr) (cf : Nat), e = .returned (.tuple #[.pointer (some ⟨hb, 0, none⟩), .int .i64 0]) ∧ Hp m ab cb ac cc m.ents.length m.fits hb mb ae ce af cf w' ∧ KnownH m.ents.length m.fits w' mb ∧ w.heap.size ≤ mb)) ∧ Below w.heap.size w w'
set_option maxRecDepth 100000 in
set_option maxHeartbeats 4000000 in
theorem ways22 {m : Mx} {ab ac : Option Addr} {cb cc : Nat} {w : World} (hm : m.Ok) (h1 : IsBxs w ab m.boxes) (h2 : IsTns w ac m.cards) :
    Calls Tryz.prog 22 #[m.v ab cb ac cc] w fun e w' => WaysP m ab cb ac cc w e w' := by
  have hab := alloc_below w (.cells (m.arr ab cb ac cc) 25)
  have HX := Lib.hid (And.intro (World.alloc_heap_new w (.cells (m.arr ab cb ac cc) 25)) (And.intro hab (And.intro (h1.mono hab) (h2.mono hab))))
  have HM := Lib.hid (And.intro hm (facts_of hm))
  have hcf := cf46h
  clear hab hm h1 h2
  go_enter Tryz.func22, Tryz.ntmps22
  refine wp_seq_hid ?_
  intro K0 HK0
  go_wp2_with fail
  refine HK0.out _ _ ?_
  clear HK0 K0
  revert HX
  generalize w.alloc (.cells (m.arr ab cb ac cc) 25) = w1
  generalize hb1 : w.heap.size = b1
  intro HX
  have HE := Lib.hid hb1
  have HL : Hid (Below w.heap.size w w1) := by rw [Hid, hb1]; exact HX.out.2.1
  clear hb1
  have m0 : w1.cell? ⟨b1, 0, none⟩ = some (.slice ab m.boxes.length cb) := by rw [cell_of_heap HX.out.1]; rfl
  have m1 : w1.cell? ⟨b1, 1, none⟩ = some (.slice ac m.cards.length cc) := by rw [cell_of_heap HX.out.1]; rfl
  have HO := Lib.hid (open36 (cb := cb) (cc := cc) HM.out.1 HX.out.2.2.1 HX.out.2.2.2)
  refine wp_seq_hid ?_
  intro K1 HK1
  go_wp2_with fail
  refine HO.out.mono ?_
  clear HO m0 m1
  rintro e w2 ⟨⟨hb, mb, ae, ce, af, cf, rfl, hp, hmp, hmb, hhb⟩, hbb⟩
  have HP := Lib.hid (And.intro hp (And.intro (KnownH.made m.ents.length m.fits hmp) (And.intro (Nat.le_trans HL.out.size hmb) (HL.out.trans (hbb.mono HL.out.size)))))
  clear hp hmp hmb hhb hbb
  go_wp2_with fail
  refine HK1.out _ _ ?_
  clear HK1 K1
  refine wp_seq_hid ?_
  intro K2 HK2
  go_wp2_with fail
  refine (count23 HP.out.1 HP.out.2.1).mono ?_
  rintro e w3 ⟨bx, fx, rfl, hc, hb3⟩
  have HC := Lib.hid (And.intro hc hb3)
  clear hc hb3
  have HCC := Lib.hid (HC.out.1.call HM.out.2.e12 HM.out.2.n8 HM.out.2.nc HM.out.2.fl (0, 0) (Nat.zero_le _) (Nat.two_pow_pos _))
  have hv : valH m.ents.length m.fits (0, 0) = countL m.ents.length m.fits 0 := rfl
  go_wp2_with fail
  refine HCC.out.mono ?_
  clear HCC
  rintro e w4 ⟨rfl, hs, hc⟩
  rw [hv]
  have hsz := HC.out.2.size
  have hmlt := HP.out.2.1.lt
  have hlow := HP.out.2.2.1
  have hbl := HP.out.2.2.2.trans (HC.out.2.mono HP.out.2.2.2.size)
  have H4 := Lib.hid (And.intro hc (And.intro (hbl.trans (hs.below (n := w.heap.size) hbl.size (fun k hk e => by omega))) hlow))
  clear hs hc hv hsz hmlt hlow hbl hcf
  by_cases hz : countL m.ents.length m.fits 0 = 0
  · have HZ := Lib.hid hz
    rw [hz]
    clear hz
    go_wp2_with fail
    refine bodyPost_ret (results_tmp2 rfl _ _ _) rfl ⟨.inl ⟨HZ.out, rfl⟩, H4.out.2.1⟩
  · have HZ := Lib.hid hz
    have hz2 : ((countL m.ents.length m.fits 0 : Nat) : Int) ≠ 0 := by omega
    revert hz2
    generalize hcn : ((countL m.ents.length m.fits 0 : Nat) : Int) = cn
    intro hz2
    have hz3 : (cn == 0) = false := by simpa using hz2
    clear hz hcn hz2
    go_wp2_with fail
    refine HK2.out _ _ ?_
    go_wp2_with fail
    refine bodyPost_ret (results_tmp2 rfl _ _ _) rfl ⟨.inr ⟨HZ.out, hb, mb, ae, ce, af, cf, rfl, H4.out.1.hp, H4.out.1.kn, H4.out.2.2⟩, H4.out.2.1⟩
end Go.Proofs.YtbnhngfegnhaiaaGreatDoor
namespace Go.Proofs.YtbnhngfegnhaiaaGreatDoor
open Go.RowKit
set_option linter.unusedVariables false
set_option linter.unusedSimpArgs false
theorem card37 {m : Mx} {ab ac ae af : Option Addr} {cb cc E hb mb ce cf : Nat} {fs : List Nat} {w : World} (hp : Hp m ab cb ac cc E fs hb mb ae ce af cf w) (hn : m.cards.length ≤ 8) (n : Int) :
    Calls Tryz.prog 37 #[.pointer (some ⟨hb, 0, none⟩), .int .i64 n] w fun e w' => e = .returned (.bool (inR n 0 ((m.cards.length : Int) - 1))) ∧ w = w' := by
  have c1 : w.cell? ⟨hb, 1, none⟩ = some (.slice ac m.cards.length cc) := by rw [cell_of_heap hp.h]; rfl
  clear hp
  have HW := Lib.hid (within41 n 0 ((m.cards.length : Int) - 1) w)
  go_enter Tryz.func37, Tryz.ntmps37
  go_wp2_with fail
  refine HW.out.mono ?_
  rintro e w' ⟨rfl, rfl⟩
  go_wp2_with fail
  go_ret
  exact ⟨rfl, rfl⟩
set_option maxRecDepth 100000 in
set_option maxHeartbeats 4000000 in
theorem fitsC11 {m : Mx} {ab ac : Option Addr} {cb cc c : Nat} {w : World} (hm : m.Ok) (h1 : IsBxs w ab m.boxes) (h2 : IsTns w ac m.cards) (hc : c < m.cards.length) :
    Calls Tryz.prog 11 #[m.v ab cb ac cc, .int .i64 (c : Int)] w fun e w' => e = .returned (.tuple #[.int .i64 (gn m.fits c : Int), .int .i64 0]) ∧ Below w.heap.size w w' := by
  have hab := alloc_below w (.cells (m.arr ab cb ac cc) 25)
  have HX := Lib.hid (And.intro (World.alloc_heap_new w (.cells (m.arr ab cb ac cc) 25)) (And.intro hab (And.intro (h1.mono hab) (h2.mono hab))))
  have HM := Lib.hid (And.intro hm (facts_of hm))
  have hcn := hm.nc
  clear hab hm h1 h2
  go_enter Tryz.func11, Tryz.ntmps11
  refine wp_seq_hid ?_
  intro K0 HK0
  go_wp2_with fail
  refine HK0.out _ _ ?_
  clear HK0 K0
  revert HX
  generalize w.alloc (.cells (m.arr ab cb ac cc) 25) = w1
  generalize hb1 : w.heap.size = b1
  intro HX
  have HE := Lib.hid hb1
  have HL : Hid (Below w.heap.size w w1) := by rw [Hid, hb1]; exact HX.out.2.1
  clear hb1
  have m0 : w1.cell? ⟨b1, 0, none⟩ = some (.slice ab m.boxes.length cb) := by rw [cell_of_heap HX.out.1]; rfl
  have m1 : w1.cell? ⟨b1, 1, none⟩ = some (.slice ac m.cards.length cc) := by rw [cell_of_heap HX.out.1]; rfl
  have HO := Lib.hid (open36 (cb := cb) (cc := cc) HM.out.1 HX.out.2.2.1 HX.out.2.2.2)
  refine wp_seq_hid ?_
  intro K1 HK1
  go_wp2_with fail
  refine HO.out.mono ?_
  clear HO m0 m1
  rintro e w2 ⟨⟨hb, mb, ae, ce, af, cf, rfl, hp, hmp, hmb, hhb⟩, hbb⟩
  have HP := Lib.hid (And.intro hp (And.intro (KnownH.made m.ents.length m.fits hmp) (And.intro (Nat.le_trans HL.out.size hmb) (HL.out.trans (hbb.mono HL.out.size)))))
  clear hp hmp hmb hhb hbb
  go_wp2_with fail
  refine HK1.out _ _ ?_
  clear HK1 K1
  refine wp_seq_hid ?_
  intro K2 HK2
  go_wp2_with fail
  refine (card37 HP.out.1 hcn (c : Int)).mono ?_
  rintro e w' ⟨rfl, rfl⟩
  have hin : inR (c : Int) 0 ((m.cards.length : Int) - 1) = true := by simp [inR]; omega
  rw [hin]
  clear hin
  go_wp2_with fail
  refine HK2.out _ _ ?_
  clear HK2 K2
  have hl := HM.out.2.nc
  have hcf : c < m.fits.length := by omega
  obtain ⟨bs, os, rfl, ct⟩ := HP.out.1.ft c hcf
  have hg := HM.out.2.fl c hcf
  have hg2 : (2 : Nat) ^ m.ents.length ≤ 2 ^ 12 := Nat.pow_le_pow_right (by omega) HM.out.2.e12
  have hg3 : gn m.fits c ≤ 4096 := by omega
  have f2 : w2.cell? ⟨hb, 2 + 1, none⟩ = some (.slice (some ⟨bs, os, none⟩) m.fits.length cf) := by rw [cell_of_heap HP.out.1.h]; rfl
  clear hg hg2
  revert ct hg3
  generalize hv : gn m.fits c = v
  intro ct hg3
  have HV := Lib.hid hv
  clear hv
  go_wp2_with fail
  have HD : Hid (Below b1 w w2) := by rw [← HE.out]; exact HP.out.2.2.2
  refine bodyPost_ret (results_tmp2 rfl _ _ _) rfl ⟨rfl, HD.out⟩
end Go.Proofs.YtbnhngfegnhaiaaGreatDoor
namespace Go.Proofs.YtbnhngfegnhaiaaGreatDoor
open Go.RowKit
set_option linter.unusedVariables false
set_option linter.unusedSimpArgs false
theorem infoS71b : (Tryz.prog.info? 71).map (fun i => (i.zero, i.size, i.bytes)) = some (some (.int .u64 0), 1, 8) := by kernel_rfl
set_option maxRecDepth 100000 in
set_option maxHeartbeats 4000000 in
theorem clone47 {w : World} {b off c : Nat} {l : List Nat} (hs : IsSets w (some ⟨b, off, none⟩) l) (h1 : 0 < l.length) (h8 : l.length ≤ 8) :
    Calls Tryz.prog 47 #[.slice (some ⟨b, off, none⟩) l.length c] w fun e w' => ∃ q : Nat × Nat, e = .returned (.slice (some ⟨q.1, 0, none⟩) l.length q.2) ∧ w'.ownsRow w.heap.size 71 1 (.slice (some ⟨q.1, 0, none⟩) l.length q.2) l.length (setsV l) ∧ Below w.heap.size w w' := by
  obtain ⟨i0, hi, hz0, hz1, hz2⟩ := info_parts infoS71b
  have q73 : ∀ (w : World) (a : Option Addr) (n c n' c' : Nat), (binOp .eql 73 (.slice a n c) (.slice none n' c')).run Tryz.prog w = .ok (.bool a.isNone) w := fun w a n c n' c' => Lib.run_eql_slice_nil w _ _ a n c n' c' Tryz.underlying73
  have u73 : ∀ w, Sem.run Tryz.prog (underlying 73) w = .ok (TypeDesc.slice 71) w := run_underlying Tryz.underlying73
  have A := Lib.hid (And.intro hs (And.intro h1 h8))
  clear hs h1 h8
  go_enter Tryz.func47, Tryz.ntmps47
  go_wp2_with (at_builtin; refine wpList_append_own _ rfl _ _ 73 rfl w.heap.size 71 i0 (.int .u64 0) 1 8 Tryz.underlying73 hi hz0 hz1 hz2 rfl (by decide) _ _ _ rfl (World.ownsRow_made w #[] 0 (Nat.le_refl _) (Nat.zero_le _) rfl) ⟨b, off, none⟩ l.length c (setsV l) rfl ?qc1 ?qc2 ?qc3 ?qc4 ?qc5 ?qc6 ?_)
  case qc1 => simp [setsV]
  case qc2 =>
    intro j u hj
    have hjl : j < l.length := by
      have := (List.getElem?_eq_some_iff.1 hj).1
      simpa [setsV] using this
    obtain ⟨b', off', e, hc⟩ := A.out.1 j hjl
    cases e
    rw [Addr.add_lit]
    refine Lib.cell?_alloc_some _ ?_
    rw [hc]
    have e : (setsV l)[j]? = some (.int .u64 (gn l j : Int)) := by simp [setsV, gn, hjl]
    rw [e] at hj
    exact hj
  case qc3 => intro u hu; obtain ⟨x, _, rfl⟩ := List.mem_map.1 hu; rfl
  case qc4 => have := A.out.2.2; unfold maxLen; omega
  case qc5 => have := A.out.2.2; omega
  case qc6 => simp
  intro v' w1 hown hgrow hnil
  have hb := ((Below.refl _ w).alloc (Nat.le_refl _) (.cells #[] 71)).grown hgrow (by simp) (by intro k hk; simp [Value.ownBlock] at hk; omega)
  have hown2 : w1.ownsRow w.heap.size 71 1 v' l.length (setsV l) := by simpa using hown
  obtain ⟨a', c', rfl, _⟩ := own_slice hown2
  obtain ⟨g, _, e, _⟩ := own_cell hown2 (by have := A.out.2.1; omega)
  cases e
  have HB := Lib.hid (And.intro hown2 hb)
  clear hown hgrow hown2 hb hnil
  go_wp2
  go_ret
  exact ⟨(g, _), rfl, HB.out.1, HB.out.2⟩
/-- What holds while the copy is made. -/
structure ShS (m : Mx) (ab : Option Addr) (cb : Nat) (ac : Option Addr) (cc E : Nat) (fs : List Nat) (hb : Nat) (ae : Option Addr) (ce bs os cf : Nat) (w0 : World) (f1 f2 f3 : Bool) (q : Nat × Nat) (M N : Nat) (w : World) : Prop where
  le : Below w0.heap.size w0 w
  cl : f1 = true → w.ownsRow w0.heap.size 71 1 (.slice (some ⟨q.1, 0, none⟩) fs.length q.2) fs.length (setsV fs)
  mp : f2 = true → w.heap[M]? = some (.map #[] 0) ∧ w0.heap.size ≤ M
  bx : f3 = true → w.heap[N]? = some (.cells #[.slice ab m.boxes.length cb, .slice ac m.cards.length cc, .slice ae E ce, .slice (some ⟨q.1, 0, none⟩) fs.length q.2, .map (some M)] 76 (0, 0)) ∧ w0.heap.size ≤ N
noncomputable def shr1C : Code := (Tryz.f26.body.bind (regionAt 1)).getD .skip
set_option maxRecDepth 100000 in
set_option maxHeartbeats 8000000 in
theorem shr1 {hb c e E cb cc ce bs os cf nb nc n : Nat} {ab ac ae : Option Addr} {R : Bool → Bool → Bool → Nat × Nat → Nat → Nat → World → Prop} {Q : Exit → Act → World → Prop} {W1 : World}  (h0 : R false false false (0, 0) 0 0 W1.drew)
    (kl3 : Hid (∀ (f12_ f13_ : Bool) (q : Nat × Nat) (M : Nat) (N : Nat) (w : World), R f12_ f13_ false q M N w → w.cell? ⟨hb, 0, none⟩ = some (.slice ab nb cb) ∧ w.cell? ⟨hb, 1, none⟩ = some (.slice ac nc cc)))
    (kl7 : Hid (∀ (f12_ f13_ : Bool) (q : Nat × Nat) (M : Nat) (N : Nat) (w : World), R f12_ f13_ false q M N w → w.cell? ⟨hb, 2, none⟩ = some (.slice ae E ce)))
    (kl11 : Hid (∀ (f13_ : Bool) (q : Nat × Nat) (M : Nat) (N : Nat) (w : World), R false f13_ false q M N w → w.cell? ⟨hb, 3, none⟩ = some (.slice (some ⟨bs, os, none⟩) n cf)))
    (kc12 : Hid (∀ (f13_ : Bool) (q : Nat × Nat) (M : Nat) (N : Nat) (w : World), R false f13_ false q M N w → Calls Tryz.prog 47 #[.slice (some ⟨bs, os, none⟩) n cf] w fun e w' => ∃ q' : Nat × Nat, e = .returned (.slice (some ⟨q'.1, 0, none⟩) n q'.2) ∧ R true f13_ false q' M N w'))
    (kr13 : Hid (∀ (f12_ : Bool) (q : Nat × Nat) (M : Nat) (N : Nat) (w : World), R f12_ false false q M N w → ∃ (w' : World) (M' : Nat), (Instr.makeMap 74 none).run Tryz.prog w = .ok (.map (some M')) w' ∧ R f12_ true false q M' N w'))
    (ka15 : Hid (∀  (q : Nat × Nat) (M : Nat) (N : Nat) (w : World), R true true false q M N w → R true true true q M w.heap.size (w.alloc (.cells #[.slice ab nb cb, .slice ac nc cc, .slice ae E ce, .slice (some ⟨q.1, 0, none⟩) n q.2, .map (some M)] 76))))
    {s3 s4 s5 s6 s7 s8 s9 s10 s11 s12 s13 s14 s15 s16 s17 s18 s19 s20 s21 s22 s23 s24 s25 s26 s27 s28 s29 s30 s31 s32 s33 s34 s35 s36 s37 : Value} {dd : List Deferred}
    (hQ : ∀ (q : Nat × Nat) (M : Nat) (N : Nat) (w' : World), R true true true q M N w' → Q .normal { tmps := List.toArray (.pointer (some ⟨hb, 0, none⟩) :: .int .i64 ((c : Int)) :: .int .i64 ((e : Int)) :: s3 :: s4 :: s5 :: s6 :: .pointer (some ⟨N, 0, none⟩) :: .pointer (some ⟨hb, 0, none⟩) :: .pointer (some ⟨hb, 0, none⟩) :: .pointer (some ⟨hb, 0, none⟩) :: .agg #[.slice ab nb cb, .slice ac nc cc] :: .pointer (some ⟨hb, 0, none⟩) :: .pointer (some ⟨hb, 0, none⟩) :: .pointer (some ⟨hb, 2, none⟩) :: .slice ae E ce :: .pointer (some ⟨hb, 0, none⟩) :: .pointer (some ⟨hb, 0, none⟩) :: .pointer (some ⟨hb, 3, none⟩) :: .slice (some ⟨bs, os, none⟩) n cf :: .slice (some ⟨q.1, 0, none⟩) n q.2 :: .map (some M) :: .agg #[.slice ab nb cb, .slice ac nc cc, .slice ae E ce, .slice (some ⟨q.1, 0, none⟩) n q.2, .map (some M)] :: .pointer (some ⟨N, 0, none⟩) :: s24 :: s25 :: s26 :: s27 :: s28 :: s29 :: s30 :: s31 :: s32 :: s33 :: s34 :: s35 :: s36 :: s37 :: []),defers := dd } w') :
    Code.wpIn (wideAt none) 0 Tryz.prog shr1C Q { tmps := List.toArray (.pointer (some ⟨hb, 0, none⟩) :: .int .i64 ((c : Int)) :: .int .i64 ((e : Int)) :: s3 :: s4 :: s5 :: s6 :: s7 :: s8 :: s9 :: s10 :: s11 :: s12 :: s13 :: s14 :: s15 :: s16 :: s17 :: s18 :: s19 :: s20 :: s21 :: s22 :: s23 :: s24 :: s25 :: s26 :: s27 :: s28 :: s29 :: s30 :: s31 :: s32 :: s33 :: s34 :: s35 :: s36 :: s37 :: []),defers := dd } W1 := by
  have HQ := Lib.hid hQ
  clear hQ
  conv => arg 4; whnf
  refine wpIn_region_invG mixed (by kernel_rfl) (fun d_ a_ w' => ∃ (q : Nat × Nat) (M : Nat) (N : Nat), a_ = { tmps := List.toArray (.pointer (some ⟨hb, 0, none⟩) :: .int .i64 ((c : Int)) :: .int .i64 ((e : Int)) :: s3 :: s4 :: s5 :: s6 :: pk (d_ 16) (.pointer (some ⟨N, 0, none⟩)) s7 :: pk (d_ 0) (.pointer (some ⟨hb, 0, none⟩)) s8 :: pk (d_ 1) (.pointer (some ⟨hb, 0, none⟩)) s9 :: pk (d_ 2) (.pointer (some ⟨hb, 0, none⟩)) s10 :: pk (d_ 3) (.agg #[.slice ab nb cb, .slice ac nc cc]) s11 :: pk (d_ 4) (.pointer (some ⟨hb, 0, none⟩)) s12 :: pk (d_ 5) (.pointer (some ⟨hb, 0, none⟩)) s13 :: pk (d_ 6) (.pointer (some ⟨hb, 2, none⟩)) s14 :: pk (d_ 7) (.slice ae E ce) s15 :: pk (d_ 8) (.pointer (some ⟨hb, 0, none⟩)) s16 :: pk (d_ 9) (.pointer (some ⟨hb, 0, none⟩)) s17 :: pk (d_ 10) (.pointer (some ⟨hb, 3, none⟩)) s18 :: pk (d_ 11) (.slice (some ⟨bs, os, none⟩) n cf) s19 :: pk (d_ 12) (.slice (some ⟨q.1, 0, none⟩) n q.2) s20 :: pk (d_ 13) (.map (some M)) s21 :: pk (d_ 14) (.agg #[.slice ab nb cb, .slice ac nc cc, .slice ae E ce, .slice (some ⟨q.1, 0, none⟩) n q.2, .map (some M)]) s22 :: pk (d_ 15) (.pointer (some ⟨N, 0, none⟩)) s23 :: s24 :: s25 :: s26 :: s27 :: s28 :: s29 :: s30 :: s31 :: s32 :: s33 :: s34 :: s35 :: s36 :: s37 :: []),defers := dd } ∧ R (d_ 12) (d_ 13) (d_ 15) q M N w' ∧ OrdP [[], [0], [1], [2], [], [4], [5], [6], [], [8], [9], [10], [11], [], [3, 7, 12, 13], [14], [0, 1, 2, 3, 4, 5, 6, 7, 8, 9, 10, 11, 12, 13, 14, 15]] d_) ?_ ?_ ?_
  · exact ⟨(0, 0), 0, 0, rfl, h0, fun k h => by cases h⟩
  · refine ⟨?_,?_,?_,?_,?_,?_,?_,?_,?_,?_,?_,?_,?_,?_,?_,?_,?_, trivial⟩
    all_goals
      rintro d_ a_ w1 K hd_ hdep ⟨q, M, N, rfl, F, O⟩ HK
      simp [Region.binds] at hdep
    · have HO : Hid (OrdP [[], [0], [1], [2], [], [4], [5], [6], [], [8], [9], [10], [11], [], [3, 7, 12, 13], [14], [0, 1, 2, 3, 4, 5, 6, 7, 8, 9, 10, 11, 12, 13, 14, 15]] (upd d_ 0)) := O.step (show ∀ e ∈ ([] : List Nat), d_ e = true by simp [hdep])
      have n15_ : d_ 15 = false := by
        cases e_ : d_ 15 with
        | false => rfl
        | true => have h2 := (O 1 (O 2 (O 3 (O 14 (O 15 e_ 14 (by decide)) 3 (by decide)) 2 (by decide)) 1 (by decide)) 0 (by decide)); rw [show d_ 0 = false from hd_] at h2; cases h2
      have F2 := F
      rw [n15_] at F2
      clear O
      clear n15_
      have HF := Lib.hid F
      clear F F2 hdep
      go_simp
      refine HK.out _ _ ⟨q, M, N, ?_, HF.out, HO.out⟩
      all_goals rfl
    · have HO : Hid (OrdP [[], [0], [1], [2], [], [4], [5], [6], [], [8], [9], [10], [11], [], [3, 7, 12, 13], [14], [0, 1, 2, 3, 4, 5, 6, 7, 8, 9, 10, 11, 12, 13, 14, 15]] (upd d_ 1)) := O.step (show ∀ e ∈ ([0] : List Nat), d_ e = true by simp [hdep])
      have q0 : d_ 0 = true := (show d_ 0 = true by simp [hdep])
      have n15_ : d_ 15 = false := by
        cases e_ : d_ 15 with
        | false => rfl
        | true => have h2 := (O 2 (O 3 (O 14 (O 15 e_ 14 (by decide)) 3 (by decide)) 2 (by decide)) 1 (by decide)); rw [show d_ 1 = false from hd_] at h2; cases h2
      have F2 := F
      rw [n15_] at F2
      clear O
      clear n15_
      rw [pk_of q0]
      have HF := Lib.hid F
      clear F F2 hdep
      go_simp
      refine HK.out _ _ ⟨q, M, N, ?_, HF.out, HO.out⟩
      rw [pk_of (show upd d_ 1 0 = true from q0)]
      all_goals rfl
    · have HO : Hid (OrdP [[], [0], [1], [2], [], [4], [5], [6], [], [8], [9], [10], [11], [], [3, 7, 12, 13], [14], [0, 1, 2, 3, 4, 5, 6, 7, 8, 9, 10, 11, 12, 13, 14, 15]] (upd d_ 2)) := O.step (show ∀ e ∈ ([1] : List Nat), d_ e = true by simp [hdep])
      have q1 : d_ 1 = true := (show d_ 1 = true by simp [hdep])
      have n15_ : d_ 15 = false := by
        cases e_ : d_ 15 with
        | false => rfl
        | true => have h2 := (O 3 (O 14 (O 15 e_ 14 (by decide)) 3 (by decide)) 2 (by decide)); rw [show d_ 2 = false from hd_] at h2; cases h2
      have F2 := F
      rw [n15_] at F2
      clear O
      clear n15_
      rw [pk_of q1]
      have HF := Lib.hid F
      clear F F2 hdep
      go_simp
      refine HK.out _ _ ⟨q, M, N, ?_, HF.out, HO.out⟩
      rw [pk_of (show upd d_ 2 1 = true from q1)]
      all_goals rfl
    · have HO : Hid (OrdP [[], [0], [1], [2], [], [4], [5], [6], [], [8], [9], [10], [11], [], [3, 7, 12, 13], [14], [0, 1, 2, 3, 4, 5, 6, 7, 8, 9, 10, 11, 12, 13, 14, 15]] (upd d_ 3)) := O.step (show ∀ e ∈ ([2] : List Nat), d_ e = true by simp [hdep])
      have q2 : d_ 2 = true := (show d_ 2 = true by simp [hdep])
      have n15_ : d_ 15 = false := by
        cases e_ : d_ 15 with
        | false => rfl
        | true => have h2 := (O 14 (O 15 e_ 14 (by decide)) 3 (by decide)); rw [show d_ 3 = false from hd_] at h2; cases h2
      have F2 := F
      rw [n15_] at F2
      have kk := kl3.out _ _ q M N w1 F2
      obtain ⟨kk0, kk1⟩ := kk
      clear O
      clear n15_
      rw [pk_of q2]
      have HF := Lib.hid F
      clear F F2 hdep
      go_simp
      refine HK.out _ _ ⟨q, M, N, ?_, HF.out, HO.out⟩
      rw [pk_of (show upd d_ 3 2 = true from q2)]
      all_goals rfl
    · have HO : Hid (OrdP [[], [0], [1], [2], [], [4], [5], [6], [], [8], [9], [10], [11], [], [3, 7, 12, 13], [14], [0, 1, 2, 3, 4, 5, 6, 7, 8, 9, 10, 11, 12, 13, 14, 15]] (upd d_ 4)) := O.step (show ∀ e ∈ ([] : List Nat), d_ e = true by simp [hdep])
      have n15_ : d_ 15 = false := by
        cases e_ : d_ 15 with
        | false => rfl
        | true => have h2 := (O 5 (O 6 (O 7 (O 14 (O 15 e_ 14 (by decide)) 7 (by decide)) 6 (by decide)) 5 (by decide)) 4 (by decide)); rw [show d_ 4 = false from hd_] at h2; cases h2
      have F2 := F
      rw [n15_] at F2
      clear O
      clear n15_
      have HF := Lib.hid F
      clear F F2 hdep
      go_simp
      refine HK.out _ _ ⟨q, M, N, ?_, HF.out, HO.out⟩
      all_goals rfl
    · have HO : Hid (OrdP [[], [0], [1], [2], [], [4], [5], [6], [], [8], [9], [10], [11], [], [3, 7, 12, 13], [14], [0, 1, 2, 3, 4, 5, 6, 7, 8, 9, 10, 11, 12, 13, 14, 15]] (upd d_ 5)) := O.step (show ∀ e ∈ ([4] : List Nat), d_ e = true by simp [hdep])
      have q4 : d_ 4 = true := (show d_ 4 = true by simp [hdep])
      have n15_ : d_ 15 = false := by
        cases e_ : d_ 15 with
        | false => rfl
        | true => have h2 := (O 6 (O 7 (O 14 (O 15 e_ 14 (by decide)) 7 (by decide)) 6 (by decide)) 5 (by decide)); rw [show d_ 5 = false from hd_] at h2; cases h2
      have F2 := F
      rw [n15_] at F2
      clear O
      clear n15_
      rw [pk_of q4]
      have HF := Lib.hid F
      clear F F2 hdep
      go_simp
      refine HK.out _ _ ⟨q, M, N, ?_, HF.out, HO.out⟩
      rw [pk_of (show upd d_ 5 4 = true from q4)]
      all_goals rfl
    · have HO : Hid (OrdP [[], [0], [1], [2], [], [4], [5], [6], [], [8], [9], [10], [11], [], [3, 7, 12, 13], [14], [0, 1, 2, 3, 4, 5, 6, 7, 8, 9, 10, 11, 12, 13, 14, 15]] (upd d_ 6)) := O.step (show ∀ e ∈ ([5] : List Nat), d_ e = true by simp [hdep])
      have q5 : d_ 5 = true := (show d_ 5 = true by simp [hdep])
      have n15_ : d_ 15 = false := by
        cases e_ : d_ 15 with
        | false => rfl
        | true => have h2 := (O 7 (O 14 (O 15 e_ 14 (by decide)) 7 (by decide)) 6 (by decide)); rw [show d_ 6 = false from hd_] at h2; cases h2
      have F2 := F
      rw [n15_] at F2
      clear O
      clear n15_
      rw [pk_of q5]
      have HF := Lib.hid F
      clear F F2 hdep
      go_simp
      refine HK.out _ _ ⟨q, M, N, ?_, HF.out, HO.out⟩
      rw [pk_of (show upd d_ 6 5 = true from q5)]
      all_goals rfl
    · have HO : Hid (OrdP [[], [0], [1], [2], [], [4], [5], [6], [], [8], [9], [10], [11], [], [3, 7, 12, 13], [14], [0, 1, 2, 3, 4, 5, 6, 7, 8, 9, 10, 11, 12, 13, 14, 15]] (upd d_ 7)) := O.step (show ∀ e ∈ ([6] : List Nat), d_ e = true by simp [hdep])
      have q6 : d_ 6 = true := (show d_ 6 = true by simp [hdep])
      have n15_ : d_ 15 = false := by
        cases e_ : d_ 15 with
        | false => rfl
        | true => have h2 := (O 14 (O 15 e_ 14 (by decide)) 7 (by decide)); rw [show d_ 7 = false from hd_] at h2; cases h2
      have F2 := F
      rw [n15_] at F2
      have kk := kl7.out _ _ q M N w1 F2
      clear O
      clear n15_
      rw [pk_of q6]
      have HF := Lib.hid F
      clear F F2 hdep
      go_simp
      refine HK.out _ _ ⟨q, M, N, ?_, HF.out, HO.out⟩
      rw [pk_of (show upd d_ 7 6 = true from q6)]
      all_goals rfl
    · have HO : Hid (OrdP [[], [0], [1], [2], [], [4], [5], [6], [], [8], [9], [10], [11], [], [3, 7, 12, 13], [14], [0, 1, 2, 3, 4, 5, 6, 7, 8, 9, 10, 11, 12, 13, 14, 15]] (upd d_ 8)) := O.step (show ∀ e ∈ ([] : List Nat), d_ e = true by simp [hdep])
      have n12_ : d_ 12 = false := by
        cases e_ : d_ 12 with
        | false => rfl
        | true => have h2 := (O 9 (O 10 (O 11 (O 12 e_ 11 (by decide)) 10 (by decide)) 9 (by decide)) 8 (by decide)); rw [show d_ 8 = false from hd_] at h2; cases h2
      have n15_ : d_ 15 = false := by
        cases e_ : d_ 15 with
        | false => rfl
        | true => have h2 := (O 9 (O 10 (O 11 (O 12 (O 14 (O 15 e_ 14 (by decide)) 12 (by decide)) 11 (by decide)) 10 (by decide)) 9 (by decide)) 8 (by decide)); rw [show d_ 8 = false from hd_] at h2; cases h2
      have F2 := F
      rw [n12_] at F2
      rw [n15_] at F2
      clear O
      clear n12_ n15_
      have HF := Lib.hid F
      clear F F2 hdep
      go_simp
      refine HK.out _ _ ⟨q, M, N, ?_, HF.out, HO.out⟩
      all_goals rfl
    · have HO : Hid (OrdP [[], [0], [1], [2], [], [4], [5], [6], [], [8], [9], [10], [11], [], [3, 7, 12, 13], [14], [0, 1, 2, 3, 4, 5, 6, 7, 8, 9, 10, 11, 12, 13, 14, 15]] (upd d_ 9)) := O.step (show ∀ e ∈ ([8] : List Nat), d_ e = true by simp [hdep])
      have q8 : d_ 8 = true := (show d_ 8 = true by simp [hdep])
      have n12_ : d_ 12 = false := by
        cases e_ : d_ 12 with
        | false => rfl
        | true => have h2 := (O 10 (O 11 (O 12 e_ 11 (by decide)) 10 (by decide)) 9 (by decide)); rw [show d_ 9 = false from hd_] at h2; cases h2
      have n15_ : d_ 15 = false := by
        cases e_ : d_ 15 with
        | false => rfl
        | true => have h2 := (O 10 (O 11 (O 12 (O 14 (O 15 e_ 14 (by decide)) 12 (by decide)) 11 (by decide)) 10 (by decide)) 9 (by decide)); rw [show d_ 9 = false from hd_] at h2; cases h2
      have F2 := F
      rw [n12_] at F2
      rw [n15_] at F2
      clear O
      clear n12_ n15_
      rw [pk_of q8]
      have HF := Lib.hid F
      clear F F2 hdep
      go_simp
      refine HK.out _ _ ⟨q, M, N, ?_, HF.out, HO.out⟩
      rw [pk_of (show upd d_ 9 8 = true from q8)]
      all_goals rfl
    · have HO : Hid (OrdP [[], [0], [1], [2], [], [4], [5], [6], [], [8], [9], [10], [11], [], [3, 7, 12, 13], [14], [0, 1, 2, 3, 4, 5, 6, 7, 8, 9, 10, 11, 12, 13, 14, 15]] (upd d_ 10)) := O.step (show ∀ e ∈ ([9] : List Nat), d_ e = true by simp [hdep])
      have q9 : d_ 9 = true := (show d_ 9 = true by simp [hdep])
      have n12_ : d_ 12 = false := by
        cases e_ : d_ 12 with
        | false => rfl
        | true => have h2 := (O 11 (O 12 e_ 11 (by decide)) 10 (by decide)); rw [show d_ 10 = false from hd_] at h2; cases h2
      have n15_ : d_ 15 = false := by
        cases e_ : d_ 15 with
        | false => rfl
        | true => have h2 := (O 11 (O 12 (O 14 (O 15 e_ 14 (by decide)) 12 (by decide)) 11 (by decide)) 10 (by decide)); rw [show d_ 10 = false from hd_] at h2; cases h2
      have F2 := F
      rw [n12_] at F2
      rw [n15_] at F2
      clear O
      clear n12_ n15_
      rw [pk_of q9]
      have HF := Lib.hid F
      clear F F2 hdep
      go_simp
      refine HK.out _ _ ⟨q, M, N, ?_, HF.out, HO.out⟩
      rw [pk_of (show upd d_ 10 9 = true from q9)]
      all_goals rfl
    · have HO : Hid (OrdP [[], [0], [1], [2], [], [4], [5], [6], [], [8], [9], [10], [11], [], [3, 7, 12, 13], [14], [0, 1, 2, 3, 4, 5, 6, 7, 8, 9, 10, 11, 12, 13, 14, 15]] (upd d_ 11)) := O.step (show ∀ e ∈ ([10] : List Nat), d_ e = true by simp [hdep])
      have q10 : d_ 10 = true := (show d_ 10 = true by simp [hdep])
      have n12_ : d_ 12 = false := by
        cases e_ : d_ 12 with
        | false => rfl
        | true => have h2 := (O 12 e_ 11 (by decide)); rw [show d_ 11 = false from hd_] at h2; cases h2
      have n15_ : d_ 15 = false := by
        cases e_ : d_ 15 with
        | false => rfl
        | true => have h2 := (O 12 (O 14 (O 15 e_ 14 (by decide)) 12 (by decide)) 11 (by decide)); rw [show d_ 11 = false from hd_] at h2; cases h2
      have F2 := F
      rw [n12_] at F2
      rw [n15_] at F2
      have kk := kl11.out _ q M N w1 F2
      clear O
      clear n12_ n15_
      rw [pk_of q10]
      have HF := Lib.hid F
      clear F F2 hdep
      go_simp
      refine HK.out _ _ ⟨q, M, N, ?_, HF.out, HO.out⟩
      rw [pk_of (show upd d_ 11 10 = true from q10)]
      all_goals rfl
    · have HO : Hid (OrdP [[], [0], [1], [2], [], [4], [5], [6], [], [8], [9], [10], [11], [], [3, 7, 12, 13], [14], [0, 1, 2, 3, 4, 5, 6, 7, 8, 9, 10, 11, 12, 13, 14, 15]] (upd d_ 12)) := O.step (show ∀ e ∈ ([11] : List Nat), d_ e = true by simp [hdep])
      have q11 : d_ 11 = true := (show d_ 11 = true by simp [hdep])
      have n15_ : d_ 15 = false := by
        cases e_ : d_ 15 with
        | false => rfl
        | true => have h2 := (O 14 (O 15 e_ 14 (by decide)) 12 (by decide)); rw [show d_ 12 = false from hd_] at h2; cases h2
      have n14_ : d_ 14 = false := by
        cases e_ : d_ 14 with
        | false => rfl
        | true => have h2 := (O 14 e_ 12 (by decide)); rw [show d_ 12 = false from hd_] at h2; cases h2
      have F2 := F
      rw [show d_ 12 = false from hd_] at F2
      rw [n15_] at F2
      clear O
      have HR : Hid (∀ (q : Nat × Nat) (M : Nat) (N : Nat) (w : World), R true (d_ 13) false q M N w → R (upd d_ 12 12) (upd d_ 12 13) (upd d_ 12 15) q M N w) := fun q M N w h => by
        rw [show upd d_ 12 15 = false from n15_]
        exact h
      clear n15_
      rw [pk_of q11]
      have hc := kc12.out _ q M N w1 F2
      clear F F2 hdep
      have n14_ := Lib.hid n14_
      rw [pk_no n14_.out]
      go_simp
      refine ⟨trivial, rfl, wideAt_calls (hc.mono ?_)⟩
      rintro e w5 ⟨q', rfl, HG⟩
      have HG := Lib.hid HG
      refine HK.out _ _ ⟨q', M, N, ?_, HR.out _ _ _ _ HG.out, HO.out⟩
      rw [pk_no (show upd d_ 12 14 = false from n14_.out)]
      rw [pk_of (show upd d_ 12 11 = true from q11)]
      all_goals rfl
    · have HO : Hid (OrdP [[], [0], [1], [2], [], [4], [5], [6], [], [8], [9], [10], [11], [], [3, 7, 12, 13], [14], [0, 1, 2, 3, 4, 5, 6, 7, 8, 9, 10, 11, 12, 13, 14, 15]] (upd d_ 13)) := O.step (show ∀ e ∈ ([] : List Nat), d_ e = true by simp [hdep])
      have n15_ : d_ 15 = false := by
        cases e_ : d_ 15 with
        | false => rfl
        | true => have h2 := (O 14 (O 15 e_ 14 (by decide)) 13 (by decide)); rw [show d_ 13 = false from hd_] at h2; cases h2
      have n14_ : d_ 14 = false := by
        cases e_ : d_ 14 with
        | false => rfl
        | true => have h2 := (O 14 e_ 13 (by decide)); rw [show d_ 13 = false from hd_] at h2; cases h2
      have F2 := F
      rw [show d_ 13 = false from hd_] at F2
      rw [n15_] at F2
      clear O
      have HR : Hid (∀ (q : Nat × Nat) (M : Nat) (N : Nat) (w : World), R (d_ 12) true false q M N w → R (upd d_ 13 12) (upd d_ 13 13) (upd d_ 13 15) q M N w) := fun q M N w h => by
        rw [show upd d_ 13 15 = false from n15_]
        exact h
      clear n15_
      obtain ⟨w5, M', kk, hR⟩ := kr13.out _ q M N w1 F2
      have HG := Lib.hid hR
      clear F F2 hR hdep
      have n14_ := Lib.hid n14_
      rw [pk_no n14_.out]
      go_simp
      refine HK.out _ _ ⟨q, M', N, ?_, HR.out _ _ _ _ HG.out, HO.out⟩
      rw [pk_no (show upd d_ 13 14 = false from n14_.out)]
      all_goals rfl
    · have HO : Hid (OrdP [[], [0], [1], [2], [], [4], [5], [6], [], [8], [9], [10], [11], [], [3, 7, 12, 13], [14], [0, 1, 2, 3, 4, 5, 6, 7, 8, 9, 10, 11, 12, 13, 14, 15]] (upd d_ 14)) := O.step (show ∀ e ∈ ([3, 7, 12, 13] : List Nat), d_ e = true by simp [hdep])
      have q3 : d_ 3 = true := (show d_ 3 = true by simp [hdep])
      have q7 : d_ 7 = true := (show d_ 7 = true by simp [hdep])
      have q12 : d_ 12 = true := (show d_ 12 = true by simp [hdep])
      have q13 : d_ 13 = true := (show d_ 13 = true by simp [hdep])
      have n15_ : d_ 15 = false := by
        cases e_ : d_ 15 with
        | false => rfl
        | true => have h2 := (O 15 e_ 14 (by decide)); rw [show d_ 14 = false from hd_] at h2; cases h2
      have F2 := F
      rw [q12] at F2
      rw [q13] at F2
      rw [n15_] at F2
      clear O
      clear n15_
      rw [pk_of q3, pk_of q7, pk_of q12, pk_of q13]
      have HF := Lib.hid F
      clear F F2 hdep
      go_simp
      refine HK.out _ _ ⟨q, M, N, ?_, HF.out, HO.out⟩
      rw [pk_of (show upd d_ 14 3 = true from q3), pk_of (show upd d_ 14 7 = true from q7), pk_of (show upd d_ 14 12 = true from q12), pk_of (show upd d_ 14 13 = true from q13)]
      all_goals rfl
    · have HO : Hid (OrdP [[], [0], [1], [2], [], [4], [5], [6], [], [8], [9], [10], [11], [], [3, 7, 12, 13], [14], [0, 1, 2, 3, 4, 5, 6, 7, 8, 9, 10, 11, 12, 13, 14, 15]] (upd d_ 15)) := O.step (show ∀ e ∈ ([14] : List Nat), d_ e = true by simp [hdep])
      have q14 : d_ 14 = true := (show d_ 14 = true by simp [hdep])
      have y12_ : d_ 12 = true := (O 14 (show d_ 14 = true by simp [hdep]) 12 (by decide))
      have y13_ : d_ 13 = true := (O 14 (show d_ 14 = true by simp [hdep]) 13 (by decide))
      have n16_ : d_ 16 = false := by
        cases e_ : d_ 16 with
        | false => rfl
        | true => have h2 := (O 16 e_ 15 (by decide)); rw [show d_ 15 = false from hd_] at h2; cases h2
      have F2 := F
      rw [y12_] at F2
      rw [y13_] at F2
      rw [show d_ 15 = false from hd_] at F2
      clear O
      have HR : Hid (∀ (q : Nat × Nat) (M : Nat) (N : Nat) (w : World), R true true true q M N w → R (upd d_ 15 12) (upd d_ 15 13) (upd d_ 15 15) q M N w) := fun q M N w h => by
        rw [show upd d_ 15 12 = true from y12_, show upd d_ 15 13 = true from y13_]
        exact h
      clear y12_ y13_
      rw [pk_of q14]
      have HG := Lib.hid (ka15.out q M N w1 F2)
      clear F F2 hdep
      have n16_ := Lib.hid n16_
      rw [pk_no n16_.out]
      go_simp
      refine HK.out _ _ ⟨q, M, _, ?_, HR.out _ _ _ _ HG.out, HO.out⟩
      rw [pk_no (show upd d_ 15 16 = false from n16_.out)]
      rw [pk_of (show upd d_ 15 14 = true from q14)]
      all_goals rfl
    · have HO : Hid (OrdP [[], [0], [1], [2], [], [4], [5], [6], [], [8], [9], [10], [11], [], [3, 7, 12, 13], [14], [0, 1, 2, 3, 4, 5, 6, 7, 8, 9, 10, 11, 12, 13, 14, 15]] (upd d_ 16)) := O.step (show ∀ e ∈ ([0, 1, 2, 3, 4, 5, 6, 7, 8, 9, 10, 11, 12, 13, 14, 15] : List Nat), d_ e = true by simp [hdep])
      have q15 : d_ 15 = true := (show d_ 15 = true by simp [hdep])
      have y12_ : d_ 12 = true := (show d_ 12 = true by simp [hdep])
      have y13_ : d_ 13 = true := (show d_ 13 = true by simp [hdep])
      have F2 := F
      rw [y12_] at F2
      rw [y13_] at F2
      rw [q15] at F2
      clear O
      clear y12_ y13_
      rw [pk_of q15]
      have HF := Lib.hid F
      clear F F2 hdep
      go_simp
      refine HK.out _ _ ⟨q, M, N, ?_, HF.out, HO.out⟩
      rw [pk_of (show upd d_ 16 15 = true from q15)]
      all_goals rfl
  · rintro d_ a_ w1 hall ⟨q, M, N, rfl, F, O⟩
    have hall' : ∀ k, k < 17 → d_ k = true := hall
    rw [hall' 12 (by decide), hall' 13 (by decide), hall' 15 (by decide)] at F
    have HF := Lib.hid F
    clear F
    rw [pk_of (hall' 0 (by decide)), pk_of (hall' 1 (by decide)), pk_of (hall' 2 (by decide)), pk_of (hall' 3 (by decide)), pk_of (hall' 4 (by decide)), pk_of (hall' 5 (by decide)), pk_of (hall' 6 (by decide)), pk_of (hall' 7 (by decide)), pk_of (hall' 8 (by decide)), pk_of (hall' 9 (by decide)), pk_of (hall' 10 (by decide)), pk_of (hall' 11 (by decide)), pk_of (hall' 12 (by decide)), pk_of (hall' 13 (by decide)), pk_of (hall' 14 (by decide)), pk_of (hall' 15 (by decide)), pk_of (hall' 16 (by decide))]
    exact HQ.out q M N w1 HF.out
end Go.Proofs.YtbnhngfegnhaiaaGreatDoor
namespace Go.Proofs.YtbnhngfegnhaiaaGreatDoor
open Go.RowKit
set_option linter.unusedVariables false
set_option linter.unusedSimpArgs false
noncomputable def shr2C : Code := (Tryz.f26.body.bind (regionAt 2)).getD .skip
set_option maxRecDepth 100000 in
set_option maxHeartbeats 8000000 in
theorem shr2 {hN gb gc c e f tw x n : Nat} {P0 P1 : World → Prop} {Q : Exit → Act → World → Prop} {W1 : World} (hc : (c : Int) < (n : Int)) (hc0 : (0 : Int) ≤ (c : Int)) (htw : IntKind.u64.wrap (2 ^ e) = (tw : Int)) (he : (e : Int) < 12) (hx : bits .and .u64 (f : Int) (tw : Int) = (x : Int)) (h0 : P0 W1.drew)
    (kl3 : Hid (∀ w : World, (P0 w ∨ P1 w) → w.cell? ⟨hN, 3, none⟩ = some (.slice (some ⟨gb, 0, none⟩) n gc)))
    (kl6 : Hid (∀ w : World, (P0 w) → w.cell? ⟨gb, c, none⟩ = some (.int .u64 (f : Int))))
    (ks11 : Hid (∀ w : World, P0 w → (∃ u, w.cell? ⟨gb, c, none⟩ = some u) ∧ w.frozen? ⟨gb, c, none⟩ = false ∧ P1 (w.setCell ⟨gb, c, none⟩ (.int .u64 (x : Int)))))
    {s0 s3 s4 s5 s6 s8 s9 s10 s11 s12 s13 s14 s15 s16 s17 s18 s19 s20 s21 s22 s23 s24 s25 s26 s27 s28 s29 s30 s31 s32 s33 s34 s35 s36 s37 : Value} {dd : List Deferred}
    (hQ : ∀ w' : World, P1 w' → Q .normal { tmps := List.toArray (s0 :: .int .i64 ((c : Int)) :: .int .i64 ((e : Int)) :: s3 :: s4 :: s5 :: s6 :: .pointer (some ⟨hN, 0, none⟩) :: s8 :: s9 :: s10 :: s11 :: s12 :: s13 :: s14 :: s15 :: s16 :: s17 :: s18 :: s19 :: s20 :: s21 :: s22 :: s23 :: .pointer (some ⟨hN, 0, none⟩) :: .pointer (some ⟨hN, 0, none⟩) :: .pointer (some ⟨hN, 3, none⟩) :: .slice (some ⟨gb, 0, none⟩) n gc :: .int .i64 ((c : Int)) :: .pointer (some ⟨gb, c, none⟩) :: .int .u64 (f : Int) :: .int .i64 ((e : Int)) :: .int .u64 (tw : Int) :: .int .u64 (x : Int) :: .pointer (some ⟨gb, c, none⟩) :: s35 :: s36 :: s37 :: []),defers := dd } w') :
    Code.wpIn (wideAt none) 0 Tryz.prog shr2C Q { tmps := List.toArray (s0 :: .int .i64 ((c : Int)) :: .int .i64 ((e : Int)) :: s3 :: s4 :: s5 :: s6 :: .pointer (some ⟨hN, 0, none⟩) :: s8 :: s9 :: s10 :: s11 :: s12 :: s13 :: s14 :: s15 :: s16 :: s17 :: s18 :: s19 :: s20 :: s21 :: s22 :: s23 :: s24 :: s25 :: s26 :: s27 :: s28 :: s29 :: s30 :: s31 :: s32 :: s33 :: s34 :: s35 :: s36 :: s37 :: []),defers := dd } W1 := by
  have HQ := Lib.hid hQ
  clear hQ
  conv => arg 4; whnf
  refine wpIn_region_invG mixed (by kernel_rfl) (fun d_ a_ w' => a_ = { tmps := List.toArray (s0 :: .int .i64 ((c : Int)) :: .int .i64 ((e : Int)) :: s3 :: s4 :: s5 :: s6 :: .pointer (some ⟨hN, 0, none⟩) :: s8 :: s9 :: s10 :: s11 :: s12 :: s13 :: s14 :: s15 :: s16 :: s17 :: s18 :: s19 :: s20 :: s21 :: s22 :: s23 :: pk (d_ 0) (.pointer (some ⟨hN, 0, none⟩)) s24 :: pk (d_ 1) (.pointer (some ⟨hN, 0, none⟩)) s25 :: pk (d_ 2) (.pointer (some ⟨hN, 3, none⟩)) s26 :: pk (d_ 3) (.slice (some ⟨gb, 0, none⟩) n gc) s27 :: pk (d_ 4) (.int .i64 ((c : Int))) s28 :: pk (d_ 5) (.pointer (some ⟨gb, c, none⟩)) s29 :: pk (d_ 6) (.int .u64 (f : Int)) s30 :: pk (d_ 7) (.int .i64 ((e : Int))) s31 :: pk (d_ 8) (.int .u64 (tw : Int)) s32 :: pk (d_ 9) (.int .u64 (x : Int)) s33 :: pk (d_ 10) (.pointer (some ⟨gb, c, none⟩)) s34 :: s35 :: s36 :: s37 :: []),defers := dd } ∧ ch1 P0 P1 (d_ 11) w' ∧ OrdP [[], [0], [1], [2], [], [3, 4], [5], [], [7], [6, 8], [0, 1, 2, 3, 4, 5, 6, 7, 8, 9], [0, 1, 2, 3, 4, 5, 6, 7, 8, 9, 10]] d_) ?_ ?_ ?_
  · exact ⟨rfl, h0, fun k h => by cases h⟩
  · refine ⟨?_,?_,?_,?_,?_,?_,?_,?_,?_,?_,?_,?_, trivial⟩
    all_goals
      rintro d_ a_ w1 K hd_ hdep ⟨rfl, F, O⟩ HK
      simp [Region.binds] at hdep
    · have HO : Hid (OrdP [[], [0], [1], [2], [], [3, 4], [5], [], [7], [6, 8], [0, 1, 2, 3, 4, 5, 6, 7, 8, 9], [0, 1, 2, 3, 4, 5, 6, 7, 8, 9, 10]] (upd d_ 0)) := O.step (show ∀ e ∈ ([] : List Nat), d_ e = true by simp [hdep])
      clear O
      have HF := Lib.hid F
      clear F hdep
      go_simp
      refine HK.out _ _ ⟨?_, HF.out, HO.out⟩
      all_goals rfl
    · have HO : Hid (OrdP [[], [0], [1], [2], [], [3, 4], [5], [], [7], [6, 8], [0, 1, 2, 3, 4, 5, 6, 7, 8, 9], [0, 1, 2, 3, 4, 5, 6, 7, 8, 9, 10]] (upd d_ 1)) := O.step (show ∀ e ∈ ([0] : List Nat), d_ e = true by simp [hdep])
      have q0 : d_ 0 = true := by simp [hdep]
      clear O
      rw [pk_of q0]
      have HF := Lib.hid F
      clear F hdep
      go_simp
      refine HK.out _ _ ⟨?_, HF.out, HO.out⟩
      rw [pk_of (show upd d_ 1 0 = true from q0)]
      all_goals rfl
    · have HO : Hid (OrdP [[], [0], [1], [2], [], [3, 4], [5], [], [7], [6, 8], [0, 1, 2, 3, 4, 5, 6, 7, 8, 9], [0, 1, 2, 3, 4, 5, 6, 7, 8, 9, 10]] (upd d_ 2)) := O.step (show ∀ e ∈ ([1] : List Nat), d_ e = true by simp [hdep])
      have q1 : d_ 1 = true := by simp [hdep]
      clear O
      rw [pk_of q1]
      have HF := Lib.hid F
      clear F hdep
      go_simp
      refine HK.out _ _ ⟨?_, HF.out, HO.out⟩
      rw [pk_of (show upd d_ 2 1 = true from q1)]
      all_goals rfl
    · have HO : Hid (OrdP [[], [0], [1], [2], [], [3, 4], [5], [], [7], [6, 8], [0, 1, 2, 3, 4, 5, 6, 7, 8, 9], [0, 1, 2, 3, 4, 5, 6, 7, 8, 9, 10]] (upd d_ 3)) := O.step (show ∀ e ∈ ([2] : List Nat), d_ e = true by simp [hdep])
      have q2 : d_ 2 = true := by simp [hdep]
      have kk := kl3.out w1 (ch1_or F)
      clear O
      rw [pk_of q2]
      have HF := Lib.hid F
      clear F hdep
      go_simp
      refine HK.out _ _ ⟨?_, HF.out, HO.out⟩
      rw [pk_of (show upd d_ 3 2 = true from q2)]
      all_goals rfl
    · have HO : Hid (OrdP [[], [0], [1], [2], [], [3, 4], [5], [], [7], [6, 8], [0, 1, 2, 3, 4, 5, 6, 7, 8, 9], [0, 1, 2, 3, 4, 5, 6, 7, 8, 9, 10]] (upd d_ 4)) := O.step (show ∀ e ∈ ([] : List Nat), d_ e = true by simp [hdep])
      clear O
      have HF := Lib.hid F
      clear F hdep
      go_simp
      refine HK.out _ _ ⟨?_, HF.out, HO.out⟩
      all_goals rfl
    · have HO : Hid (OrdP [[], [0], [1], [2], [], [3, 4], [5], [], [7], [6, 8], [0, 1, 2, 3, 4, 5, 6, 7, 8, 9], [0, 1, 2, 3, 4, 5, 6, 7, 8, 9, 10]] (upd d_ 5)) := O.step (show ∀ e ∈ ([3, 4] : List Nat), d_ e = true by simp [hdep])
      have q3 : d_ 3 = true := by simp [hdep]
      have q4 : d_ 4 = true := by simp [hdep]
      clear O
      have hc2 := hc
      have hc3 := hc0
      rw [pk_of q3, pk_of q4]
      have HF := Lib.hid F
      clear F hdep
      go_simp
      refine HK.out _ _ ⟨?_, HF.out, HO.out⟩
      rw [pk_of (show upd d_ 5 3 = true from q3), pk_of (show upd d_ 5 4 = true from q4)]
      all_goals rfl
    · have HO : Hid (OrdP [[], [0], [1], [2], [], [3, 4], [5], [], [7], [6, 8], [0, 1, 2, 3, 4, 5, 6, 7, 8, 9], [0, 1, 2, 3, 4, 5, 6, 7, 8, 9, 10]] (upd d_ 6)) := O.step (show ∀ e ∈ ([5] : List Nat), d_ e = true by simp [hdep])
      have q5 : d_ 5 = true := by simp [hdep]
      have F2 := F
      have n_ : d_ 11 = false := by
        cases e_ : d_ 11 with
        | false => rfl
        | true => have h2 := (O 11 e_ 6 (by decide)); rw [show d_ 6 = false from hd_] at h2; cases h2
      rw [n_] at F2
      have kk := kl6.out w1 (by
        have h3 := ch1_or F2
        simp_all [ch1])
      clear F2
      clear n_
      clear O
      rw [pk_of q5]
      have HF := Lib.hid F
      clear F hdep
      go_simp
      refine HK.out _ _ ⟨?_, HF.out, HO.out⟩
      rw [pk_of (show upd d_ 6 5 = true from q5)]
      all_goals rfl
    · have HO : Hid (OrdP [[], [0], [1], [2], [], [3, 4], [5], [], [7], [6, 8], [0, 1, 2, 3, 4, 5, 6, 7, 8, 9], [0, 1, 2, 3, 4, 5, 6, 7, 8, 9, 10]] (upd d_ 7)) := O.step (show ∀ e ∈ ([] : List Nat), d_ e = true by simp [hdep])
      clear O
      have HF := Lib.hid F
      clear F hdep
      go_simp
      refine HK.out _ _ ⟨?_, HF.out, HO.out⟩
      all_goals rfl
    · have HO : Hid (OrdP [[], [0], [1], [2], [], [3, 4], [5], [], [7], [6, 8], [0, 1, 2, 3, 4, 5, 6, 7, 8, 9], [0, 1, 2, 3, 4, 5, 6, 7, 8, 9, 10]] (upd d_ 8)) := O.step (show ∀ e ∈ ([7] : List Nat), d_ e = true by simp [hdep])
      have q7 : d_ 7 = true := by simp [hdep]
      clear O
      have ht2 := htw
      have he2 := he
      rw [pk_of q7]
      have HF := Lib.hid F
      clear F hdep
      go_simp
      refine HK.out _ _ ⟨?_, HF.out, HO.out⟩
      rw [pk_of (show upd d_ 8 7 = true from q7)]
      all_goals rfl
    · have HO : Hid (OrdP [[], [0], [1], [2], [], [3, 4], [5], [], [7], [6, 8], [0, 1, 2, 3, 4, 5, 6, 7, 8, 9], [0, 1, 2, 3, 4, 5, 6, 7, 8, 9, 10]] (upd d_ 9)) := O.step (show ∀ e ∈ ([6, 8] : List Nat), d_ e = true by simp [hdep])
      have q6 : d_ 6 = true := by simp [hdep]
      have q8 : d_ 8 = true := by simp [hdep]
      clear O
      have hx2 := hx
      rw [pk_of q6, pk_of q8]
      have HF := Lib.hid F
      clear F hdep
      go_simp
      refine HK.out _ _ ⟨?_, HF.out, HO.out⟩
      rw [pk_of (show upd d_ 9 6 = true from q6), pk_of (show upd d_ 9 8 = true from q8)]
      all_goals rfl
    · have HO : Hid (OrdP [[], [0], [1], [2], [], [3, 4], [5], [], [7], [6, 8], [0, 1, 2, 3, 4, 5, 6, 7, 8, 9], [0, 1, 2, 3, 4, 5, 6, 7, 8, 9, 10]] (upd d_ 10)) := O.step (show ∀ e ∈ ([0, 1, 2, 3, 4, 5, 6, 7, 8, 9] : List Nat), d_ e = true by simp [hdep])
      have q3 : d_ 3 = true := by simp [hdep]
      have q4 : d_ 4 = true := by simp [hdep]
      clear O
      have hc2 := hc
      have hc3 := hc0
      rw [pk_of q3, pk_of q4]
      have HF := Lib.hid F
      clear F hdep
      go_simp
      refine HK.out _ _ ⟨?_, HF.out, HO.out⟩
      rw [pk_of (show upd d_ 10 3 = true from q3), pk_of (show upd d_ 10 4 = true from q4)]
      all_goals rfl
    · have HO : Hid (OrdP [[], [0], [1], [2], [], [3, 4], [5], [], [7], [6, 8], [0, 1, 2, 3, 4, 5, 6, 7, 8, 9], [0, 1, 2, 3, 4, 5, 6, 7, 8, 9, 10]] (upd d_ 11)) := O.step (show ∀ e ∈ ([0, 1, 2, 3, 4, 5, 6, 7, 8, 9, 10] : List Nat), d_ e = true by simp [hdep])
      have q9 : d_ 9 = true := by simp [hdep]
      have q10 : d_ 10 = true := by simp [hdep]
      clear O
      rw [pk_of q9, pk_of q10]
      obtain ⟨hP, hN⟩ := ch1_s1 F hd_
      obtain ⟨⟨u0, c0⟩, z0, hR⟩ := ks11.out w1 hP
      have HF := Lib.hid (hN _ hR)
      clear F hP hR hN hdep
      go_simp
      have HG := HF.out
      refine HK.out _ _ ⟨?_, HG, HO.out⟩
      rw [pk_of (show upd d_ 11 9 = true from q9), pk_of (show upd d_ 11 10 = true from q10)]
      all_goals rfl
  · rintro d_ a_ w1 hall ⟨rfl, F, O⟩
    have hall' : ∀ k, k < 12 → d_ k = true := hall
    rw [hall' 11 (by decide)] at F
    have HF := Lib.hid F
    clear F
    rw [pk_of (hall' 0 (by decide)), pk_of (hall' 1 (by decide)), pk_of (hall' 2 (by decide)), pk_of (hall' 3 (by decide)), pk_of (hall' 4 (by decide)), pk_of (hall' 5 (by decide)), pk_of (hall' 6 (by decide)), pk_of (hall' 7 (by decide)), pk_of (hall' 8 (by decide)), pk_of (hall' 9 (by decide)), pk_of (hall' 10 (by decide))]
    exact HQ.out w1 HF.out
theorem gn_set {l : List Nat} {c x i : Nat} (hc : c < l.length) : gn (l.set c x) i = if i = c then x else gn l i := by
  unfold gn
  rw [List.getD_eq_getElem?_getD, List.getElem?_set, List.getD_eq_getElem?_getD]
  by_cases h : i = c
  · subst h; simp [hc]
  · rw [if_neg (fun e => h e.symm), if_neg h]
theorem withF_len (fs : List Nat) (c e : Nat) : (withF fs c e).length = fs.length := by simp [withF]
theorem withF_lt {E : Nat} {fs : List Nat} {c e : Nat} (hc : c < fs.length) (h : ∀ k, k < fs.length → gn fs k < 2 ^ E) : ∀ k, k < (withF fs c e).length → gn (withF fs c e) k < 2 ^ E := fun k hk => by
  rw [withF_len] at hk
  unfold withF
  rw [gn_set hc]
  by_cases hkc : k = c
  · rw [if_pos hkc]
    exact Nat.lt_of_le_of_lt Nat.and_le_left (h c hc)
  · rw [if_neg hkc]; exact h k hk
set_option maxRecDepth 100000 in
set_option maxHeartbeats 8000000 in
theorem share26 {m : Mx} {ab ac ae af : Option Addr} {cb cc E hb mb ce cf c e : Nat} {fs : List Nat} {w : World} (hp : Hp m ab cb ac cc E fs hb mb ae ce af cf w) (hE : E ≤ 12) (hn : fs.length ≤ 8) (hnc : fs.length = m.cards.length) (hfs : ∀ k, k < fs.length → gn fs k < 2 ^ E) (hc : c < fs.length) (he : e < E) :
    Calls Tryz.prog 26 #[.pointer (some ⟨hb, 0, none⟩), .int .i64 (c : Int), .int .i64 (e : Int)] w fun en w' => en = .returned (.int .i64 (shareL E fs c e : Int)) ∧ Below w.heap.size w w' := by
  obtain ⟨bs, os, rfl, hct⟩ := hp.ft c hc
  have HP := Lib.hid hp
  have HF := Lib.hid (And.intro hE (And.intro hn (And.intro hnc (And.intro hfs (And.intro hc he)))))
  have HS : Hid (ShS m ab cb ac cc E fs hb ae ce bs os cf w false false false (0, 0) 0 0 w) := ⟨Below.refl _ w, by simp, by simp, by simp⟩
  have HL := Lib.hid (heap_lt hp.h)
  have HT : Hid (IsSets w (some ⟨bs, os, none⟩) fs) := hp.ft
  clear hp hE hn hnc hfs hc he hct
  go_enter Tryz.func26, Tryz.ntmps26
  refine wp_seq_hid ?_
  intro K0 HK0
  go_wp2_with fail
  refine HK0.out _ _ ?_
  clear HK0 K0
  refine wp_seq_hid ?_
  intro K1 HK1
  refine wpIn_wide.1 (shr1 (cb := cb) (cc := cc) (ce := ce) (bs := bs) (os := os) (cf := cf) (nb := m.boxes.length) (nc := m.cards.length) (n := fs.length) (ab := ab) (ac := ac) (ae := ae) (e := e) (c := c) (hb := hb) (E := E)
    (R := ShS m ab cb ac cc E fs hb ae ce bs os cf w) ?h0 ?l3 ?l7 ?l11 ?c12 ?r13 ?a15 ?hQ)
  case h0 => exact ⟨HS.out.le.drew, by simp, by simp, by simp⟩
  case l3 =>
    intro f1 f2 q M N v hv
    have hh := (hv.le.block _ HL.out).trans HP.out.h
    exact ⟨(cell_of_heap hh).trans rfl, (cell_of_heap hh).trans rfl⟩
  case l7 => exact fun f1 f2 q M N v hv => (cell_of_heap ((hv.le.block _ HL.out).trans HP.out.h)).trans rfl
  case l11 => exact fun f2 q M N v hv => (cell_of_heap ((hv.le.block _ HL.out).trans HP.out.h)).trans rfl
  case c12 =>
    intro f2 q M N v hv
    refine (clone47 (c := cf) (HT.out.mono hv.le) (by have := HF.out; omega) HF.out.2.1).mono ?_
    rintro en v' ⟨q', rfl, ho, hb'⟩
    exact ⟨q', rfl, hv.le.trans (hb'.mono hv.le.size), fun _ => own_base ho hv.le.size, fun h => ⟨(hb'.block _ (heap_lt (hv.mp h).1)).trans (hv.mp h).1, (hv.mp h).2⟩, by simp⟩
  case r13 =>
    intro f1 q M N v hv
    have hb' := alloc_below v (.map #[] 0)
    exact ⟨_, _, makeMap74 v, hv.le.trans (hb'.mono hv.le.size), fun h => own_below (hv.cl h) hb', fun _ => ⟨World.alloc_heap_new v _, hv.le.size⟩, by simp⟩
  case a15 =>
    intro q M N v hv
    have hb' := alloc_below v (.cells #[.slice ab m.boxes.length cb, .slice ac m.cards.length cc, .slice ae E ce, .slice (some ⟨q.1, 0, none⟩) fs.length q.2, .map (some M)] 76)
    exact ⟨hv.le.trans (hb'.mono hv.le.size), fun h => own_below (hv.cl h) hb', fun h => ⟨(hb'.block _ (heap_lt (hv.mp h).1)).trans (hv.mp h).1, (hv.mp h).2⟩, fun _ => ⟨World.alloc_heap_new v _, hv.le.size⟩⟩
  intro q M hN w1 hS
  have HS1 := Lib.hid hS
  clear hS HS
  refine HK1.out _ _ ?_
  clear HK1 K1
  refine wp_seq_hid ?_
  intro K2 HK2
  obtain ⟨g1, g2, e0, hgb, hgl, _, _, hgc⟩ := own_cell (HS1.out.cl rfl) (by have := HF.out; omega)
  cases e0
  have hcc := hgc c (.int .u64 (gn fs c : Int)) (by have := HF.out.2.2.2.2.1; simp [setsV, gn, this])
  obtain ⟨_, cur, hcur⟩ := own_ty' (g := q.1) (HS1.out.cl rfl) (by simp [Value.ownBlock])
  have HG := Lib.hid (And.intro hgb (And.intro hcc (And.intro hcur hgc)))
  clear hgb hgl hgc hcc hcur
  have hne : q.1 ≠ hN := fun e => by
    have h1 := HG.out.2.2.1
    rw [e, (HS1.out.bx rfl).1] at h1
    simp only [Option.some.injEq, Obj.cells.injEq] at h1
    exact absurd h1.2.1 (by decide)
  have hnm : q.1 ≠ M := fun e => by
    have h1 := HG.out.2.2.1
    rw [e, (HS1.out.mp rfl).1] at h1
    simp at h1
  have HNE := Lib.hid (And.intro hne hnm)
  clear hne hnm
  have hg12 : gn fs c < 4096 := Nat.lt_of_lt_of_le (HF.out.2.2.2.1 c HF.out.2.2.2.2.1) (Nat.pow_le_pow_right (by omega) HF.out.1)
  have ht12 : 2 ^ e < 4096 := Nat.lt_of_lt_of_le (Nat.pow_lt_pow_right (show 1 < 2 by omega) HF.out.2.2.2.2.2) (Nat.le_trans (Nat.pow_le_pow_right (show 0 < 2 by omega) HF.out.1) (show 2 ^ 12 ≤ 4096 by omega))
  refine wpIn_wide.1 (shr2 (c := c) (e := e) (hN := hN) (gb := q.1) (gc := q.2) (n := fs.length) (f := gn fs c) (tw := 2 ^ e) (x := gn fs c &&& 2 ^ e) (P0 := fun v => v = w1.drew) (P1 := fun v => v = w1.drew.setCell ⟨q.1, c, none⟩ (.int .u64 ((gn fs c &&& 2 ^ e : Nat) : Int)))
    (show (c : Int) < (fs.length : Int) by have := HF.out; omega) (show (0 : Int) ≤ (c : Int) by omega) (two_wrap_u (show e ≤ 20 by have := HF.out; omega)) (show (e : Int) < 12 by have := HF.out; omega) (and_u64 (gn fs c) (2 ^ e) (by omega) (by omega)) rfl ?l3b ?l6b ?s11b ?hQb)
  case l3b =>
    have h3 : w1.cell? ⟨hN, 3, none⟩ = some (.slice (some ⟨q.1, 0, none⟩) fs.length q.2) := (cell_of_heap (HS1.out.bx rfl).1).trans rfl
    rintro v (rfl | rfl)
    · exact h3
    · have h4 := (Below.heap_setCell w1.drew ⟨q.1, c, none⟩ (.int .u64 ((gn fs c &&& 2 ^ e : Nat) : Int)) hN (fun e => HNE.out.1 e.symm)).trans (HS1.out.bx rfl).1
      exact (cell_of_heap h4).trans rfl
  case l6b =>
    rintro v rfl
    exact HG.out.2.1
  case s11b =>
    rintro v rfl
    exact ⟨⟨_, HG.out.2.1⟩, frozen_of_heap (w := w1.drew) HG.out.2.2.1, rfl⟩
  intro w' hw'
  have hH := heap_setCell_at (k := c) (w := w1.drew) HG.out.2.2.1 (.int .u64 ((gn fs c &&& 2 ^ e : Nat) : Int))
  have hB2 : Below w.heap.size w w' := by rw [hw']; exact (HS1.out.le.drew).setCell (p := ⟨q.1, c, none⟩) HG.out.1 _
  have hNh : w'.heap[hN]? = some (.cells #[.slice ab m.boxes.length cb, .slice ac m.cards.length cc, .slice ae E ce, .slice (some ⟨q.1, 0, none⟩) fs.length q.2, .map (some M)] 76 (0, 0)) := by
    rw [hw']; exact (Below.heap_setCell w1.drew _ _ hN (fun e => HNE.out.1 e.symm)).trans (HS1.out.bx rfl).1
  have hM : w'.heap[M]? = some (.map #[] 0) := by
    rw [hw']; exact (Below.heap_setCell w1.drew _ _ M (fun e => HNE.out.2 e.symm)).trans (HS1.out.mp rfl).1
  have hST : IsSets w' (some ⟨q.1, 0, none⟩) (withF fs c e) := fun i hi => by
    have hi2 := hi
    rw [withF_len] at hi2
    refine ⟨q.1, 0, rfl, ?_⟩
    rw [Nat.zero_add, hw', cell_of_heap hH]
    have hcell := HG.out.2.2.2 i (.int .u64 (gn fs i : Int)) (by simp [setsV, gn, hi2])
    have h5 : (w1.drew.cell? ⟨q.1, i, none⟩) = some (.int .u64 (gn fs i : Int)) := hcell
    rw [cell_of_heap (w := w1.drew) HG.out.2.2.1] at h5
    unfold withF
    rw [gn_set HF.out.2.2.2.2.1, Array.getElem?_setIfInBounds]
    have hsz : c < cur.size := by
      have h6 : (w1.drew.cell? ⟨q.1, c, none⟩) = some (.int .u64 (gn fs c : Int)) := HG.out.2.1
      rw [cell_of_heap (w := w1.drew) HG.out.2.2.1] at h6
      exact (Array.getElem?_eq_some_iff.1 h6).1
    by_cases hic : i = c
    · subst hic; simp [hsz]
    · rw [if_neg (fun e => hic e.symm), if_neg hic]; exact h5
  have HX := Lib.hid (And.intro (show Hp m ab cb ac cc E (withF fs c e) hN M ae ce (some ⟨q.1, 0, none⟩) q.2 w' from ⟨by rw [withF_len]; exact hNh, hST⟩) (And.intro (KnownH.made E (withF fs c e) hM) hB2))
  have HM2 := Lib.hid (HS1.out.mp rfl).2
  clear hw' hH hB2 hNh hM hST HG HS1 HNE hg12 ht12
  refine HK2.out _ _ ?_
  clear HK2 K2
  have hcf := cf46h
  refine wp_seq_hid ?_
  intro K3 HK3
  go_wp2_with fail
  refine (count23 HX.out.1 HX.out.2.1).mono ?_
  rintro en w3 ⟨bx, fx, rfl, hC, hb3⟩
  have HC := Lib.hid (And.intro hC hb3)
  clear hC hb3
  have HCC := Lib.hid (HC.out.1.call HF.out.1 (by rw [withF_len]; exact HF.out.2.1) (by rw [withF_len]; exact HF.out.2.2.1) (withF_lt HF.out.2.2.2.2.1 HF.out.2.2.2.1) (0, 0) (Nat.zero_le _) (Nat.two_pow_pos _))
  have hv : valH E (withF fs c e) (0, 0) = shareL E fs c e := rfl
  go_wp2_with fail
  refine HCC.out.mono ?_
  rintro en w4 ⟨rfl, hs, hc4⟩
  rw [hv]
  have hml := HX.out.2.1.lt
  have HE4 := Lib.hid (And.intro hs (And.intro hc4 hml))
  clear hs hc4 hml hv HCC hcf
  go_wp2_with fail
  refine HK3.out _ _ ?_
  clear HK3 K3
  have hB4 : Below w.heap.size w w4 := (HX.out.2.2.trans (HC.out.2.mono HX.out.2.2.size)).trans (HE4.out.1.below (n := w.heap.size) (Nat.le_trans HX.out.2.2.size HC.out.2.size) (fun k hk e => by have := HM2.out; omega))
  have HB4 := Lib.hid hB4
  clear hB4
  go_wp2_with fail
  go_ret
  exact ⟨rfl, HB4.out⟩
end Go.Proofs.YtbnhngfegnhaiaaGreatDoor
namespace Go.Proofs.YtbnhngfegnhaiaaGreatDoor
open Go.RowKit
set_option linter.unusedVariables false
set_option linter.unusedSimpArgs false
set_option maxRecDepth 100000 in
set_option maxHeartbeats 4000000 in
theorem share13 {m : Mx} {ab ac : Option Addr} {cb cc c e : Nat} {w : World} (hm : m.Ok) (h1 : IsBxs w ab m.boxes) (h2 : IsTns w ac m.cards) (hc : c < m.cards.length) (he : e < m.ents.length) :
    Calls Tryz.prog 13 #[m.v ab cb ac cc, .int .i64 (c : Int), .int .i64 (e : Int)] w fun en w' => en = .returned (.tuple #[.int .i64 (shareL m.ents.length m.fits c e : Int), .int .i64 0]) ∧ Below w.heap.size w w' := by
  have hab := alloc_below w (.cells (m.arr ab cb ac cc) 25)
  have HX := Lib.hid (And.intro (World.alloc_heap_new w (.cells (m.arr ab cb ac cc) 25)) (And.intro hab (And.intro (h1.mono hab) (h2.mono hab))))
  have HM := Lib.hid (And.intro hm (facts_of hm))
  have HB := Lib.hid (And.intro hc he)
  have hcn := hm.nc
  clear hc he
  clear hab hm h1 h2
  go_enter Tryz.func13, Tryz.ntmps13
  refine wp_seq_hid ?_
  intro K0 HK0
  go_wp2_with fail
  refine HK0.out _ _ ?_
  clear HK0 K0
  revert HX
  generalize w.alloc (.cells (m.arr ab cb ac cc) 25) = w1
  generalize hb1 : w.heap.size = b1
  intro HX
  have HE := Lib.hid hb1
  have HL : Hid (Below w.heap.size w w1) := by rw [Hid, hb1]; exact HX.out.2.1
  clear hb1
  have m0 : w1.cell? ⟨b1, 0, none⟩ = some (.slice ab m.boxes.length cb) := by rw [cell_of_heap HX.out.1]; rfl
  have m1 : w1.cell? ⟨b1, 1, none⟩ = some (.slice ac m.cards.length cc) := by rw [cell_of_heap HX.out.1]; rfl
  have HO := Lib.hid (open36 (cb := cb) (cc := cc) HM.out.1 HX.out.2.2.1 HX.out.2.2.2)
  refine wp_seq_hid ?_
  intro K1 HK1
  go_wp2_with fail
  refine HO.out.mono ?_
  clear HO m0 m1
  rintro e w2 ⟨⟨hb, mb, ae, ce, af, cf, rfl, hp, hmp, hmb, hhb⟩, hbb⟩
  have HP := Lib.hid (And.intro hp (And.intro (KnownH.made m.ents.length m.fits hmp) (And.intro (Nat.le_trans HL.out.size hmb) (HL.out.trans (hbb.mono HL.out.size)))))
  clear hp hmp hmb hhb hbb
  go_wp2_with fail
  refine HK1.out _ _ ?_
  clear HK1 K1
  refine wp_seq_hid ?_
  intro K2 HK2
  go_wp2_with fail
  refine (card37 HP.out.1 hcn (c : Int)).mono ?_
  rintro en w' ⟨rfl, rfl⟩
  have hin : inR (c : Int) 0 ((m.cards.length : Int) - 1) = true := by have := HB.out; simp [inR]; omega
  rw [hin]
  clear hin
  have c2 : w2.cell? ⟨hb, 2, none⟩ = some (.slice ae m.ents.length ce) := by rw [cell_of_heap HP.out.1.h]; rfl
  have he12 := HM.out.2.e12
  go_wp2_with fail
  refine (within41 (e : Int) 0 ((m.ents.length : Int) - 1) w2).mono ?_
  rintro en w' ⟨rfl, rfl⟩
  have hin : inR (e : Int) 0 ((m.ents.length : Int) - 1) = true := by have := HB.out; simp [inR]; omega
  rw [hin]
  clear hin c2 he12
  go_wp2_with fail
  refine HK2.out _ _ ?_
  clear HK2 K2
  have HSH := Lib.hid (share26 HP.out.1 HM.out.2.e12 HM.out.2.n8 HM.out.2.nc HM.out.2.fl (show c < m.fits.length by rw [HM.out.2.nc]; exact HB.out.1) HB.out.2)
  go_wp2_with fail
  refine HSH.out.mono ?_
  clear HSH
  rintro en w3 ⟨rfl, hb3⟩
  have HD : Hid (Below b1 w w3) := by rw [← HE.out]; exact HP.out.2.2.2.trans (hb3.mono HP.out.2.2.2.size)
  clear hb3
  go_wp2_with fail
  refine bodyPost_ret (results_tmp2 rfl _ _ _) rfl ⟨rfl, HD.out⟩
end Go.Proofs.YtbnhngfegnhaiaaGreatDoor
namespace Go.Proofs.YtbnhngfegnhaiaaGreatDoor
open Go.RowKit
set_option linter.unusedVariables false
set_option linter.unusedSimpArgs false
/-- How often one of the first cards takes the entry. -/
def lostK (E : Nat) (fs : List Nat) (e k : Nat) : Nat := ((List.range k).map fun c => shareL E fs c e).sum
theorem lostK_step (E : Nat) (fs : List Nat) (e k : Nat) : lostK E fs e (k + 1) = lostK E fs e k + shareL E fs k e := by simp [lostK, List.range_succ]
theorem lostK_big {E : Nat} {fs : List Nat} (hE : E ≤ 12) (hn : fs.length ≤ 8) (e : Nat) : ∀ k, lostK E fs e k ≤ k * 429981696
  | 0 => by simp [lostK]
  | k + 1 => by
    rw [lostK_step]
    have h1 := lostK_big hE hn e k
    have h2 : shareL E fs k e ≤ 429981696 := count_big hE (by rw [withF_len]; exact hn) 0
    omega
theorem two_wrap_s {n : Nat} (h : n ≤ 20) : IntKind.i64.wrap (2 ^ n) = ((2 ^ n : Nat) : Int) := by
  have h1 : 2 ^ n ≤ 2 ^ 20 := Nat.pow_le_pow_right (by omega) h
  have h2 : ((2 ^ n : Nat) : Int) = (2 : Int) ^ n := by simp
  have h3 : 2 ^ n ≤ 1048576 := h1
  rw [← h2]
  revert h3
  generalize (2 ^ n : Nat) = x
  intro h3
  exact IntWalk.i64_in _ (by omega)
theorem bits_dec (p : Nat → Bool) (k : Nat) (c : Prop) [Decidable c] (h : p k = decide c) : bitsN p (k + 1) = bitsN p k ||| (if c then 2 ^ k else 0) := by
  show _ ||| (if p k then 2 ^ k else 0) = _
  rw [h]
  by_cases hc : c <;> simp [hc]
def LostP (m : Mx) (w : World) (e : Ending) (w' : World) : Prop :=
  ((countL m.ents.length m.fits 0 = 0 ∧ e = .returned (.tuple #[.int .i64 0, .int .i64 0, .int .i64 4])) ∨
   (countL m.ents.length m.fits 0 ≠ 0 ∧ e = .returned (.tuple #[.int .i64 (bitsN (fun e => decide (lostN m.ents.length m.fits e = 0)) m.ents.length : Nat), .int .i64 (bitsN (fun e => decide (lostN m.ents.length m.fits e < countL m.ents.length m.fits 0)) m.ents.length : Nat), .int .i64 0]))) ∧ Below w.heap.size w w'
set_option maxRecDepth 100000 in
set_option maxHeartbeats 8000000 in
theorem lost8 {m : Mx} {ab ac : Option Addr} {cb cc : Nat} {w : World} (hm : m.Ok) (h1 : IsBxs w ab m.boxes) (h2 : IsTns w ac m.cards) :
    Calls Tryz.prog 8 #[m.v ab cb ac cc] w fun e w' => LostP m w e w' := by
  have hab := alloc_below w (.cells (m.arr ab cb ac cc) 25)
  have HX := Lib.hid (And.intro (World.alloc_heap_new w (.cells (m.arr ab cb ac cc) 25)) (And.intro hab (And.intro (h1.mono hab) (h2.mono hab))))
  have HM := Lib.hid (And.intro hm (facts_of hm))
  clear hab hm h1 h2
  go_enter Tryz.func8, Tryz.ntmps8
  refine wp_seq_hid ?_
  intro K0 HK0
  go_wp2_with fail
  refine HK0.out _ _ ?_
  clear HK0 K0
  revert HX
  generalize w.alloc (.cells (m.arr ab cb ac cc) 25) = w1
  generalize hb1 : w.heap.size = b1
  intro HX
  have HE := Lib.hid hb1
  have HL : Hid (Below w.heap.size w w1) := by rw [Hid, hb1]; exact HX.out.2.1
  clear hb1
  have m0 : w1.cell? ⟨b1, 0, none⟩ = some (.slice ab m.boxes.length cb) := by rw [cell_of_heap HX.out.1]; rfl
  have m1 : w1.cell? ⟨b1, 1, none⟩ = some (.slice ac m.cards.length cc) := by rw [cell_of_heap HX.out.1]; rfl
  have HO := Lib.hid (ways22 (cb := cb) (cc := cc) HM.out.1 HX.out.2.2.1 HX.out.2.2.2)
  refine wp_seq_hid ?_
  intro K1 HK1
  go_wp2_with fail
  refine HO.out.mono ?_
  clear HO m0 m1
  rintro e w2 ⟨hw, hbb⟩
  have HBB := Lib.hid (HL.out.trans (hbb.mono HL.out.size))
  clear hbb
  rcases hw with ⟨hz, rfl⟩ | ⟨hz, hb, mb, ae, ce, af, cf, rfl, hp, hkn, hmb⟩
  · have HZ := Lib.hid hz
    clear hz
    go_wp2_with fail
    refine HK1.out _ _ ?_
    go_wp2_with fail
    refine bodyPost_ret (results_tmp3 rfl _ _ _) rfl ⟨.inl ⟨HZ.out, rfl⟩, by rw [HE.out]; rw [← HE.out]; exact HBB.out⟩
  have HZ := Lib.hid hz
  have HP := Lib.hid (And.intro hp (And.intro hkn hmb))
  clear hz hp hkn hmb
  go_wp2_with fail
  refine HK1.out _ _ ?_
  clear HK1 K1
  refine wp_seq_hid ?_
  intro K2 HK2
  go_wp2_with fail
  refine HK2.out _ _ ?_
  clear HK2 K2
  have hcf := cf46h
  refine wp_seq_hid ?_
  intro K3 HK3
  go_wp2_with fail
  refine (count23 HP.out.1 HP.out.2.1).mono ?_
  rintro e w3 ⟨bx, fx, rfl, hc, hb3⟩
  have HC := Lib.hid (And.intro hc hb3)
  clear hc hb3
  have HCC := Lib.hid (HC.out.1.call HM.out.2.e12 HM.out.2.n8 HM.out.2.nc HM.out.2.fl (0, 0) (Nat.zero_le _) (Nat.two_pow_pos _))
  have hv : valH m.ents.length m.fits (0, 0) = countL m.ents.length m.fits 0 := rfl
  go_wp2_with fail
  refine HCC.out.mono ?_
  clear HCC
  rintro e w4 ⟨rfl, hs, hc⟩
  rw [hv]
  have H4 := Lib.hid (And.intro hc.hp ((HBB.out.trans (HC.out.2.mono HBB.out.size)).trans (hs.below (n := w.heap.size) (Nat.le_trans HBB.out.size HC.out.2.size) (fun k hk e => by have := HP.out.2.2; have := HL.out.size; omega))))
  clear hs hc hv hcf HC HP
  go_wp2_with fail
  refine HK3.out _ _ ?_
  clear HK3 K3
  obtain ⟨E, hEE⟩ : ∃ E, E = m.ents.length := ⟨_, rfl⟩
  obtain ⟨cnt, hcnt⟩ : ∃ cnt, cnt = countL m.ents.length m.fits 0 := ⟨_, rfl⟩
  rw [← hcnt]
  have HQ : Hid (E = m.ents.length ∧ cnt = countL m.ents.length m.fits 0) := ⟨hEE, hcnt⟩
  clear hEE hcnt
  refine wp_seq_hid ?_
  intro K4 HK4
  have m2 : w4.cell? ⟨hb, 2, none⟩ = some (.slice ae E ce) := by rw [cell_of_heap H4.out.1.h, HQ.out.1]; rfl
  have HE12 : Hid (E ≤ 12) := by rw [HQ.out.1]; exact HM.out.2.e12
  have he12 := HE12.out
  go_wp2_with fail
  clear m2
  go_loopw [26, 2, 3] (fun i x y wr => ∃ k : Nat, k ≤ E ∧ i = .int .i64 (k : Int) ∧ x = .int .i64 (bitsN (fun e => decide (lostN m.ents.length m.fits e = 0)) k : Nat) ∧ y = .int .i64 (bitsN (fun e => decide (lostN m.ents.length m.fits e < cnt)) k : Nat) ∧ Hid (Below w4.heap.size w4 wr)) (fun i _ _ _ => E - (intOf i).toNat)
  case atStart => exact ⟨0, Nat.zero_le _, rfl, rfl, rfl, Below.refl _ _⟩
  case round =>
    obtain ⟨k, hk, rfl, rfl, rfl, HW⟩ := hrel
    rename World => wo
    by_cases hlt : k < E
    · have HH := Lib.hid (H4.out.1.mono HW.out)
      have m1 : wo.cell? ⟨hb, 1, none⟩ = some (.slice ac m.cards.length cc) := by rw [cell_of_heap HH.out.h]; rfl
      have hcn := HM.out.1.nc
      go_wp2_with fail
      clear m1
      go_loopw [35, 8] (fun j z wr => ∃ q : Nat, q ≤ m.cards.length ∧ j = .int .i64 (q : Int) ∧ z = .int .i64 (lostK m.ents.length m.fits k q : Nat) ∧ Hid (Below wo.heap.size wo wr)) (fun j _ _ => m.cards.length - (intOf j).toNat)
      case atStart => exact ⟨0, Nat.zero_le _, rfl, rfl, Below.refl _ _⟩
      case round =>
        obtain ⟨q, hq, rfl, rfl, HV⟩ := hrel
        by_cases hql : q < m.cards.length
        · have hs := share26 (HH.out.mono HV.out) HM.out.2.e12 HM.out.2.n8 HM.out.2.nc HM.out.2.fl (c := q) (e := k) (show q < m.fits.length by rw [HM.out.2.nc]; exact hql) (by rw [← HQ.out.1]; exact hlt)
          have HB1 : Hid (lostK m.ents.length m.fits k q ≤ 4000000000) := Nat.le_trans (lostK_big HM.out.2.e12 HM.out.2.n8 k q) (by omega)
          have HB2 : Hid (shareL m.ents.length m.fits q k ≤ 429981696) := count_big HM.out.2.e12 (by rw [withF_len]; exact HM.out.2.n8) 0
          have HST := Lib.hid (lostK_step m.ents.length m.fits k q)
          revert HB1 HB2 HST hs
          generalize hz2 : lostK m.ents.length m.fits k (q + 1) = z2
          generalize lostK m.ents.length m.fits k q = z1
          generalize shareL m.ents.length m.fits q k = z3
          intro hs HB1 HB2 HST
          have HZ2 := Lib.hid hz2
          clear hz2
          have HS := Lib.hid hs
          have b1_ := HB1.out
          have b2_ := HB2.out
          clear hs
          go_wp2_with fail
          refine HS.out.mono ?_
          rintro e w6 ⟨rfl, hb6⟩
          have HB6 := Lib.hid hb6
          clear hb6 HS
          go_wp2_with fail
          go_roundw
          case rel => exact ⟨q + 1, by omega, by go_num, by rw [HZ2.out, HST.out]; go_num, HV.out.trans (HB6.out.mono HV.out.size)⟩
          case measure => simp [intOf]; omega
        · have hqe : q = m.cards.length := by omega
          subst hqe
          have e : lostN m.ents.length m.fits k = lostK m.ents.length m.fits k m.cards.length := by rw [← HM.out.2.nc]; rfl
          have HA := Lib.hid (bits_dec (fun e => decide (lostN m.ents.length m.fits e = 0)) k (lostK m.ents.length m.fits k m.cards.length = 0) (by show decide (lostN m.ents.length m.fits k = 0) = _; rw [e]))
          have HB := Lib.hid (bits_dec (fun e => decide (lostN m.ents.length m.fits e < cnt)) k (lostK m.ents.length m.fits k m.cards.length < cnt) (by show decide (lostN m.ents.length m.fits k < cnt) = _; rw [e]))
          clear e
          have h62 := two_ltH (f := k) (by omega)
          have hor1 := or_nat (bitsN (fun e => decide (lostN m.ents.length m.fits e = 0)) k) (2 ^ k) (Nat.lt_trans (bitsN_lt _ k) h62) h62
          have hor2 := or_nat (bitsN (fun e => decide (lostN m.ents.length m.fits e < cnt)) k) (2 ^ k) (Nat.lt_trans (bitsN_lt _ k) h62) h62
          have htw := two_wrap_s (n := k) (by omega)
          have hp2 : ((2 ^ k : Nat) : Int) = (2 : Int) ^ k := by simp
          rw [hp2] at hor1 hor2 htw
          clear hp2
          have hkk : (k : Int) < 12 := by omega
          have HWV := Lib.hid (HW.out.trans (HV.out.mono HW.out.size))
          clear h62
          revert HA HB hor1 hor2
          generalize hA2 : bitsN (fun e => decide (lostN m.ents.length m.fits e = 0)) (k + 1) = A2
          generalize bitsN (fun e => decide (lostN m.ents.length m.fits e = 0)) k = A1
          generalize hB2 : bitsN (fun e => decide (lostN m.ents.length m.fits e < cnt)) (k + 1) = B2
          generalize bitsN (fun e => decide (lostN m.ents.length m.fits e < cnt)) k = B1
          generalize lostK m.ents.length m.fits k m.cards.length = v
          intro HA HB hor1 hor2
          have HA2 := Lib.hid hA2
          have HB2 := Lib.hid hB2
          clear hA2 hB2
          have HOR := Lib.hid (And.intro hor1 hor2)
          clear hor1 hor2
          by_cases hv0 : v = 0
          · subst hv0
            have hA : A2 = A1 ||| 2 ^ k := HA.out
            by_cases hv1 : 0 < cnt
            · have hB : B2 = B1 ||| 2 ^ k := by rw [HB.out, if_pos hv1]
              have HAB := Lib.hid (And.intro hA hB)
              clear hA hB HA HB
              go_wp2_with fail
              go_roundw
              case rel => exact ⟨k + 1, by omega, by go_num, by rw [HA2.out, HAB.out.1, ← HOR.out.1], by rw [HB2.out, HAB.out.2, ← HOR.out.2], HWV.out⟩
              case measure => simp [intOf]; omega
            · have hB : B2 = B1 := by rw [HB.out, if_neg hv1, Nat.or_zero]
              have HAB := Lib.hid (And.intro hA hB)
              clear hA hB HA HB
              go_wp2_with fail
              go_roundw
              case rel => exact ⟨k + 1, by omega, by go_num, by rw [HA2.out, HAB.out.1, ← HOR.out.1], by rw [HB2.out, HAB.out.2], HWV.out⟩
              case measure => simp [intOf]; omega
          · have hA : A2 = A1 := by rw [HA.out, if_neg hv0, Nat.or_zero]
            have e0 : ((v : Int) == 0) = false := by simp; omega
            by_cases hv1 : v < cnt
            · have hB : B2 = B1 ||| 2 ^ k := by rw [HB.out, if_pos hv1]
              have HAB := Lib.hid (And.intro hA hB)
              clear hA hB HA HB
              go_wp2_with fail
              go_roundw
              case rel => exact ⟨k + 1, by omega, by go_num, by rw [HA2.out, HAB.out.1], by rw [HB2.out, HAB.out.2, ← HOR.out.2], HWV.out⟩
              case measure => simp [intOf]; omega
            · have hB : B2 = B1 := by rw [HB.out, if_neg hv1, Nat.or_zero]
              have HAB := Lib.hid (And.intro hA hB)
              clear hA hB HA HB
              go_wp2_with fail
              go_roundw
              case rel => exact ⟨k + 1, by omega, by go_num, by rw [HA2.out, HAB.out.1], by rw [HB2.out, HAB.out.2], HWV.out⟩
              case measure => simp [intOf]; omega
    · have hke : k = E := by omega
      subst hke
      go_wp2_with fail
      refine HK4.out _ _ ?_
      clear HK4
      go_wp2_with fail
      refine bodyPost_ret (results_tmp3 rfl _ _ _) rfl ⟨.inr ⟨HZ.out, by rw [← HQ.out.2, ← HQ.out.1]; rfl⟩, H4.out.2.trans (HW.out.mono H4.out.2.size)⟩
end Go.Proofs.YtbnhngfegnhaiaaGreatDoor
