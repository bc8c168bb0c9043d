/- The fewest originals: the drawn region. There always is a way: all are originals. Fewest. -/
import Derived.Test.YtnfhlbmapfoifaaW18
namespace Go.Proofs.Ytnfhlbmapfoifaa
open Go.RowKit
set_option linter.unusedVariables false

structure few3F (W1 : World) (b off n cap : Nat) (vf vx : Value) (at_ : Option Addr) (d : Nat → Bool) (x12 x13 x14 x15 x16 x17 x6 : Value) (w : World) : Prop where
  same : Below W1.heap.size W1 w
  f0 : d 0 = true → x12 = .slice (some ⟨b, off, none⟩) (n + 1) cap
  f1 : d 1 = true → x13 = .pointer (some ⟨b, off, none⟩)
  f2 : d 2 = true → x14 = vf
  f3 : d 3 = true → x15 = .slice (some ⟨b, off, none⟩) (n + 1) cap
  f4 : d 4 = true → x16 = .slice at_ n (cap - 1)
  f5 : d 5 = true → x17 = vx
  f6 : d 6 = true → x6 = vx
section
variable {W1 : World} {b off n cap : Nat} {vf vx : Value} {at_ : Option Addr} {d : Nat → Bool} {x12 x13 x14 x15 x16 x17 x6 : Value} {w w' : World}
theorem few3F.s0 (F : few3F W1 b off n cap vf vx at_ d x12 x13 x14 x15 x16 x17 x6 w) : few3F W1 b off n cap vf vx at_ (upd d 0) (.slice (some ⟨b, off, none⟩) (n + 1) cap) x13 x14 x15 x16 x17 x6 w := ⟨F.same, fun _ => rfl, F.f1, F.f2, F.f3, F.f4, F.f5, F.f6⟩
theorem few3F.s1 (F : few3F W1 b off n cap vf vx at_ d x12 x13 x14 x15 x16 x17 x6 w) : few3F W1 b off n cap vf vx at_ (upd d 1) x12 (.pointer (some ⟨b, off, none⟩)) x14 x15 x16 x17 x6 w := ⟨F.same, F.f0, fun _ => rfl, F.f2, F.f3, F.f4, F.f5, F.f6⟩
theorem few3F.s2 (F : few3F W1 b off n cap vf vx at_ d x12 x13 x14 x15 x16 x17 x6 w) : few3F W1 b off n cap vf vx at_ (upd d 2) x12 x13 (vf) x15 x16 x17 x6 w := ⟨F.same, F.f0, F.f1, fun _ => rfl, F.f3, F.f4, F.f5, F.f6⟩
theorem few3F.s3 (F : few3F W1 b off n cap vf vx at_ d x12 x13 x14 x15 x16 x17 x6 w) : few3F W1 b off n cap vf vx at_ (upd d 3) x12 x13 x14 (.slice (some ⟨b, off, none⟩) (n + 1) cap) x16 x17 x6 w := ⟨F.same, F.f0, F.f1, F.f2, fun _ => rfl, F.f4, F.f5, F.f6⟩
theorem few3F.s4 (F : few3F W1 b off n cap vf vx at_ d x12 x13 x14 x15 x16 x17 x6 w) : few3F W1 b off n cap vf vx at_ (upd d 4) x12 x13 x14 x15 (.slice at_ n (cap - 1)) x17 x6 w := ⟨F.same, F.f0, F.f1, F.f2, F.f3, fun _ => rfl, F.f5, F.f6⟩
theorem few3F.s5 (F : few3F W1 b off n cap vf vx at_ d x12 x13 x14 x15 x16 x17 x6 w) : few3F W1 b off n cap vf vx at_ (upd d 5) x12 x13 x14 x15 x16 (vx) x6 w := ⟨F.same, F.f0, F.f1, F.f2, F.f3, F.f4, fun _ => rfl, F.f6⟩
theorem few3F.s6 (F : few3F W1 b off n cap vf vx at_ d x12 x13 x14 x15 x16 x17 x6 w) : few3F W1 b off n cap vf vx at_ (upd d 6) x12 x13 x14 x15 x16 x17 (vx) w := ⟨F.same, F.f0, F.f1, F.f2, F.f3, F.f4, F.f5, fun _ => rfl⟩
theorem few3F.below (F : few3F W1 b off n cap vf vx at_ d x12 x13 x14 x15 x16 x17 x6 w) (hb : Below w.heap.size w w') : few3F W1 b off n cap vf vx at_ d x12 x13 x14 x15 x16 x17 x6 w' := by
  refine ⟨F.same.trans (hb.mono F.same.size), F.f0, F.f1, F.f2, F.f3, F.f4, F.f5, F.f6⟩
end
noncomputable def few3C : Code := (Try.f28.body.bind (regionAt 3)).getD .skip
set_option maxRecDepth 100000 in
set_option maxHeartbeats 4000000 in
theorem few3 {W1 : World} {b off n cap : Nat} {vf vx : Value} {at_ : Option Addr} {Q : Exit → Act → World → Prop} (hF : Hid (W1.cell? ⟨b, off, none⟩ = some vf)) (hcap : n + 1 ≤ cap) (hat : (if cap = 1 then some (⟨b, off, none⟩ : Addr) else some ⟨b, off + 1, none⟩) = at_) (hC : Hid (∀ w, Below W1.heap.size W1 w → Calls Try.prog 54 #[.func (.func 55) #[] #[], vf, .slice at_ n (cap - 1)] w fun e w' => e = .returned vx ∧ Below w.heap.size w w'))
    {s0 s1 s2 s3 s4 s6 s7 s8 s9 s10 s11 s12 s13 s14 s15 s16 s17 s18 s19 s20 : Value} {dd : List Deferred}
    (hQ : ∀ (x12 x13 x14 x15 x16 x17 x6 : Value) (w' : World), Below W1.heap.size W1 w' → x12 = .slice (some ⟨b, off, none⟩) (n + 1) cap → x13 = .pointer (some ⟨b, off, none⟩) → x14 = vf → x15 = .slice (some ⟨b, off, none⟩) (n + 1) cap → x16 = .slice at_ n (cap - 1) → x17 = vx → x6 = vx → Q .normal { tmps := #[s0, s1, s2, s3, s4, .slice (some ⟨b, off, none⟩) (n + 1) cap, x6, s7, s8, s9, s10, s11, x12, x13, x14, x15, x16, x17, s18, s19, s20], defers := dd } w') :
    Code.wp Try.prog few3C Q { tmps := #[s0, s1, s2, s3, s4, .slice (some ⟨b, off, none⟩) (n + 1) cap, s6, s7, s8, s9, s10, s11, s12, s13, s14, s15, s16, s17, s18, s19, s20], defers := dd } W1 := by
  have HQ := Lib.hid hQ
  clear hQ
  conv => arg 2; whnf
  refine wp_region_inv mixed (by kernel_rfl) (fun d_ a_ w' => ∃ x12 x13 x14 x15 x16 x17 x6, a_ = { tmps := #[s0, s1, s2, s3, s4, .slice (some ⟨b, off, none⟩) (n + 1) cap, x6, s7, s8, s9, s10, s11, x12, x13, x14, x15, x16, x17, s18, s19, s20], defers := dd } ∧ few3F W1 b off n cap vf vx at_ d_ x12 x13 x14 x15 x16 x17 x6 w') ?_ ?_ ?_
  · refine ⟨s12, s13, s14, s15, s16, s17, s6, rfl, (Below.refl _ W1).drew, ?_, ?_, ?_, ?_, ?_, ?_, ?_⟩ <;> (intro h; cases h)
  · refine ⟨?_, ?_, ?_, ?_, ?_, ?_, ?_, trivial⟩
    all_goals
      rintro d_ a_ w1 K hd_ hdep ⟨x12, x13, x14, x15, x16, x17, x6, rfl, F⟩ HK
      simp [Region.binds] at hdep
      have hb1 := F.same
    · have HF := Lib.hid F.s0
      clear F
      clear hb1
      go_simp
      exact HK.out _ _ ⟨_, _, _, _, _, _, _, rfl, HF.out⟩
    · obtain rfl := F.f0 (by simp [hdep])
      have HF := Lib.hid F.s1
      clear F
      clear hb1
      go_simp
      exact HK.out _ _ ⟨_, _, _, _, _, _, _, rfl, HF.out⟩
    · obtain rfl := F.f1 (by simp [hdep])
      have k := cell_stays hb1 hF.out
      have HF := Lib.hid F.s2
      clear F
      clear hb1
      go_simp
      exact HK.out _ _ ⟨_, _, _, _, _, _, _, rfl, HF.out⟩
    · have HF := Lib.hid F.s3
      clear F
      clear hb1
      go_simp
      exact HK.out _ _ ⟨_, _, _, _, _, _, _, rfl, HF.out⟩
    · obtain rfl := F.f3 (by simp [hdep])
      have h1 : (1 : Int) ≤ (n : Int) + 1 := by omega
      have HF := Lib.hid F.s4
      clear F
      clear hb1
      go_simp
      exact HK.out _ _ ⟨_, _, _, _, _, _, _, rfl, HF.out⟩
    · obtain rfl := F.f2 (by simp [hdep])
      obtain rfl := F.f4 (by simp [hdep])
      have F1 := F.same
      have HF := Lib.hid F
      clear F
      go_simp
      refine (hC.out w1 F1).mono ?_
      rintro e w5 ⟨rfl, hb5⟩
      exact HK.out _ _ ⟨_, _, _, _, _, _, _, rfl, (HF.out.below hb5).s5⟩
    · obtain rfl := F.f5 (by simp [hdep])
      have HF := Lib.hid F.s6
      clear F
      clear hb1
      go_simp
      exact HK.out _ _ ⟨_, _, _, _, _, _, _, rfl, HF.out⟩
  · rintro d_ a_ w1 hall ⟨x12, x13, x14, x15, x16, x17, x6, rfl, F⟩
    have hall' : ∀ k, k < 7 → d_ k = true := hall
    exact HQ.out _ _ _ _ _ _ _ w1 F.same (F.f0 (hall' 0 (by decide))) (F.f1 (hall' 1 (by decide))) (F.f2 (hall' 2 (by decide))) (F.f3 (hall' 3 (by decide))) (F.f4 (hall' 4 (by decide))) (F.f5 (hall' 5 (by decide))) (F.f6 (hall' 6 (by decide)))
end Go.Proofs.Ytnfhlbmapfoifaa

namespace Go.Proofs.Ytnfhlbmapfoifaa
set_option linter.unusedVariables false

theorem gi_rep {n k : Nat} (h : k < n) : gi (List.replicate n (-1)) k = -1 := by simp [gi, h]
theorem goW_rep {by_ : Int × Int} {rec : Nat → (Int × Int) × Bool} {n card : Nat} : ∀ (l : List Nat) (own : Int × Int), (∀ j ∈ l, j < n) → goW by_ rec (List.replicate n (-1)) card own l = (own, decide (own.1 ≤ own.2))
  | [], own, _ => rfl
  | j :: r, own, h => by
    have h1 : gi (List.replicate n (-1)) j = -1 := gi_rep (h j (by simp))
    unfold goW
    rw [h1, if_neg (by omega), goW_rep r own (fun x hx => h x (by simp [hx]))]
theorem upW_rep {n : Nat} : ∀ (m : Nat) (k : Int), (k = -1 ∨ (0 ≤ k ∧ k < n)) → upW (List.replicate n (-1)) (m + 1) k = -1
  | 0, k, h => by
    unfold upW upW
    rcases h with h | h
    · rw [if_pos h]
    · rw [if_neg (by omega)]; exact gi_rep (by omega)
  | m + 1, k, h => by
    unfold upW
    refine upW_rep m _ (.inl ?_)
    rcases h with h | h
    · rw [if_pos h]
    · rw [if_neg (by omega)]; exact gi_rep (by omega)
theorem card_ok {p : Prs} (hv : p.valid = true) {c : Nat} (hc : c < p.cards.length) : (gp p.cards c).slo ≤ (gp p.cards c).shi ∧ (gp p.cards c).wlo ≤ (gp p.cards c).whi := by
  unfold Prs.valid at hv
  simp only [Bool.and_eq_true, List.all_eq_true] at hv
  have e : gp p.cards c = p.cards[c] := by simp [gp, hc]
  have h := hv.1.1.2 _ (List.getElem_mem hc)
  rw [← e] at h
  simp [Prt.ok, spanOk] at h
  omega
theorem way_rep {p : Prs} (hv : p.valid = true) : isWayB p (List.replicate p.cards.length (-1)) = true := by
  have hcan : ∀ what, canB p (List.replicate p.cards.length (-1)) what = true := by
    intro what
    unfold canB
    rw [List.all_eq_true]
    intro c hc
    have hc' : c < p.cards.length := by simpa using hc
    have h1 : (whatF p (List.replicate p.cards.length (-1)) what ((List.replicate p.cards.length (-1 : Int)).length + 1) c).2 = true := by
      unfold whatF
      rw [goW_rep (n := p.cards.length) _ _ (fun j hj => by simpa using hj)]
      have := card_ok hv hc'
      cases what <;> simp [Prt.of] <;> omega
    rw [h1, Bool.or_true]
  have hround : roundB (List.replicate p.cards.length (-1)) = false := by
    unfold roundB
    rw [List.any_eq_false]
    intro c hc
    have hc' : c < p.cards.length := by simpa using hc
    obtain ⟨m, hm⟩ : ∃ m, p.cards.length = m + 1 := ⟨p.cards.length - 1, by omega⟩
    have := upW_rep (n := p.cards.length) m (c : Int) (.inr (by omega))
    rw [List.length_replicate]
    rw [← hm] at this
    simp [this]
  have hmarks : marksB p (List.replicate p.cards.length (-1)) = true := by
    unfold marksB
    rw [List.all_eq_true]
    intro c hc
    have hc' : c < p.cards.length := by simpa using hc
    rw [gi_rep hc']
    rfl
  unfold isWayB
  rw [hcan, hcan, hround, hmarks]
  rfl
theorem onW_rep {p : Prs} : ∀ (d : Nat) (pre : List Int), isWayB p (pre ++ List.replicate d (-1)) = true → pre ++ List.replicate d (-1) ∈ onW p d pre
  | 0, pre, h => by
    rw [onW_zero]
    simp at h ⊢
    simp [h]
  | d + 1, pre, h => by
    rw [onW_succ, List.mem_flatMap]
    have e : pre ++ List.replicate (d + 1) (-1) = (pre ++ [-1]) ++ List.replicate d (-1) := by simp [List.replicate_succ]
    rw [e] at h ⊢
    refine ⟨-1, ?_, ?_⟩
    · simp only [froms, List.mem_map, List.mem_range]
      exact ⟨0, by omega, rfl⟩
    · unfold onF
      rw [if_neg (by omega)]
      exact onW_rep d _ h
theorem ways_ne {p : Prs} (hv : p.valid = true) : waysL p ≠ [] := by
  have h := onW_rep (p := p) p.cards.length [] (by simpa using way_rep hv)
  intro e
  unfold waysL at e
  rw [e] at h
  cases h
theorem onW_all {p : Prs} : ∀ (d : Nat) (pre x : List Int), x ∈ onW p d pre → x.length = pre.length + d ∧ isWayB p x = true
  | 0, pre, x, h => by
    rw [onW_zero] at h
    split at h
    · rename_i h1
      simp at h
      subst h
      exact ⟨rfl, h1⟩
    · cases h
  | d + 1, pre, x, h => by
    rw [onW_succ, List.mem_flatMap] at h
    obtain ⟨f, _, h⟩ := h
    unfold onF at h
    split at h
    · cases h
    · have := onW_all d _ x h
      simp at this
      exact ⟨by omega, this.2⟩
theorem ways_all {p : Prs} {x : List Int} (h : x ∈ waysL p) : x.length = p.cards.length ∧ isWayB p x = true := by
  have := onW_all _ _ _ h
  simpa using this
end Go.Proofs.Ytnfhlbmapfoifaa

namespace Go.Proofs.Ytnfhlbmapfoifaa
open Go.RowKit
set_option linter.unusedVariables false

set_option maxRecDepth 100000 in
set_option maxHeartbeats 4000000 in
theorem fewest_no {p : Prs} {a : Option Addr} {cap : Nat} {w : World} (ha : IsPrts w a p.cards) (hn : p.cards.length ≤ 16) (hv : p.valid = false) :
    Calls Try.prog 28 #[p.v a cap] w fun e w' => e = .returned (.tuple #[.slice none 0 0, .int .i64 0, .int .i64 1]) ∧ Below w.heap.size w w' := by
  have hmf : ∀ (fn : Fn) (first cap : Array Value) (w : World), (Instr.makeFunc fn first cap).run Try.prog w = .ok (.func fn first cap) w := fun _ _ _ _ => rfl
  have cf77 : ∀ (args : Array Value) (w : World), (callFunc 77 args).run Try.prog w = .ok (.enter 77 args) w := fun args w => by simp [callFunc, Try.func77, Try.f77, go_sem]
  refine calls_of_wp_x Try.func28 rfl ?_
  simp only [Try.ntmps28, List.size_toArray, List.length_cons, List.length_nil, Nat.reduceAdd, Nat.reduceSub, Array.replicate_succ, Array.replicate_zero, List.push_toArray, List.append_toArray, List.nil_append, List.cons_append]
  have HC77 := Lib.hid cf77
  clear cf77
  go_wp2_with fail
  obtain ⟨W1, hW1⟩ : ∃ W1 : World, W1 = (w.alloc (.cells (p.cells a cap) 26)).alloc (.cells #[.int .i64 0] 29) := ⟨_, rfl⟩
  have hb1 : Below w.heap.size w W1 := by rw [hW1]; exact ((Below.refl _ w).alloc (Nat.le_refl _) _).alloc (by simp) _
  have hz1 : W1.heap.size = w.heap.size + 2 := by rw [hW1]; simp
  have q2 : W1.heap[w.heap.size + 1]? = some (.cells #[.int .i64 0] 29 (0, 0)) := by
    rw [hW1]
    have := World.alloc_heap_new (w.alloc (.cells (p.cells a cap) 26)) (.cells #[.int .i64 0] 29)
    rw [World.size_alloc] at this
    exact this
  have ha1 := ha.mono hb1
  rw [← hW1]
  clear hW1 ha
  have hE : openE p true = 1 := by unfold openE; rw [hv]; rfl
  refine (open_no ha1 hn true (by rw [hE]; decide)).mono ?_
  rintro e w2 ⟨rfl, hb2⟩
  have he2 := (hb2.block (w.heap.size + 1) (by omega)).trans q2
  have hc2 : w2.cell? ⟨w.heap.size + 1, 0, none⟩ = some (.int .i64 0) := by rw [cell_of_heap he2]; rfl
  have hb3 : Below w.heap.size w ((w2.alloc (.cells #[.int .i64 (openE p true)] 115)).setCell ⟨w.heap.size + 1, 0, none⟩ (.int .i64 (openE p true))) := by
    have h2 := hb1.trans (hb2.mono (by omega))
    exact (h2.alloc h2.size _).setCell (by simp) _
  have hcell := World.cell?_setCell_same (w2.alloc (.cells #[.int .i64 (openE p true)] 115)) ⟨w.heap.size + 1, 0, none⟩ (.int .i64 (openE p true)) (cell_stays ((Below.refl _ w2).alloc (Nat.le_refl _) _) hc2)
  refine ⟨[], _, rfl, leaves_no (recov77_no (openE p true) hc2 (frozen_of_heap he2)) rfl HC77.out (res_ttc rfl _ rfl hcell) ⟨?_, hb3⟩⟩
  rw [hE]
  rfl
set_option maxRecDepth 100000 in
set_option maxHeartbeats 4000000 in
theorem fewest_yes {p : Prs} {a : Option Addr} {cap : Nat} {w : World} (ha : IsPrts w a p.cards) (hn : p.cards.length ≤ 16) (hv : p.valid = true) :
    Calls Try.prog 28 #[p.v a cap] w fun e w' => ∃ av cv, e = .returned (.tuple #[.slice av (fewestW p).length cv, .int .i64 (origN (fewestW p)), .int .i64 0]) ∧ IsInts w' av (fewestW p) ∧ Below w.heap.size w w' := by
  have hmf : ∀ (fn : Fn) (first cap : Array Value) (w : World), (Instr.makeFunc fn first cap).run Try.prog w = .ok (.func fn first cap) w := fun _ _ _ _ => rfl
  have cf77 : ∀ (args : Array Value) (w : World), (callFunc 77 args).run Try.prog w = .ok (.enter 77 args) w := fun args w => by simp [callFunc, Try.func77, Try.f77, go_sem]
  refine calls_of_wp_x Try.func28 rfl ?_
  simp only [Try.ntmps28, List.size_toArray, List.length_cons, List.length_nil, Nat.reduceAdd, Nat.reduceSub, Array.replicate_succ, Array.replicate_zero, List.push_toArray, List.append_toArray, List.nil_append, List.cons_append]
  have HC77 := Lib.hid cf77
  clear cf77
  go_wp2_with fail
  obtain ⟨W1, hW1⟩ : ∃ W1 : World, W1 = (w.alloc (.cells (p.cells a cap) 26)).alloc (.cells #[.int .i64 0] 29) := ⟨_, rfl⟩
  have hb1 : Below w.heap.size w W1 := by rw [hW1]; exact ((Below.refl _ w).alloc (Nat.le_refl _) _).alloc (by simp) _
  have hz1 : W1.heap.size = w.heap.size + 2 := by rw [hW1]; simp
  have q2 : W1.heap[w.heap.size + 1]? = some (.cells #[.int .i64 0] 29 (0, 0)) := by
    rw [hW1]
    have := World.alloc_heap_new (w.alloc (.cells (p.cells a cap) 26)) (.cells #[.int .i64 0] 29)
    rw [World.size_alloc] at this
    exact this
  have ha1 := ha.mono hb1
  rw [← hW1]
  clear hW1 ha
  refine (open_yes ha1 hn hv).mono ?_
  rintro e w2 ⟨bp, g, rfl, hbp, hP, hb2⟩
  have q2' := (hb2.block (w.heap.size + 1) (by omega)).trans q2
  have hB2 := hb1.trans (hb2.mono (by omega))
  have HZ : Hid (w.heap.size + 2 ≤ w2.heap.size) := by have := hb2.size; rw [Hid]; omega
  have HV := Lib.hid hv
  clear hb1 hz1 q2 ha1 hb2 hbp hv
  have HP := Lib.hid (And.intro hP (And.intro hB2 q2'))
  clear hP hB2 q2'
  go_wp2_with fail
  refine ways_any.mono ?_
  rintro e w3 ⟨rfl, rfl⟩
  have HQ : Hid (∃ w3 : World, w3 = w2.alloc (.cells #[.pointer (some ⟨bp, 0, none⟩)] 79)) := ⟨_, rfl⟩
  have hb3 : Below w2.heap.size w2 (w2.alloc (.cells #[.pointer (some ⟨bp, 0, none⟩)] 79)) := (Below.refl _ _).alloc (Nat.le_refl _) _
  have q3 := World.alloc_heap_new w2 (.cells #[.pointer (some ⟨bp, 0, none⟩)] 79)
  have hP3 := HP.out.1.mono hb3
  have hB3 : Below w.heap.size w _ := HP.out.2.1.trans (hb3.mono HP.out.2.1.size)
  have q2 := (hb3.block (w.heap.size + 1) (by have := HZ.out; omega)).trans HP.out.2.2
  have hz3 : w2.heap.size ≤ (w2.alloc (.cells #[.pointer (some ⟨bp, 0, none⟩)] 79)).heap.size := hb3.size
  have HP3 := Lib.hid (And.intro hP3 (And.intro q3 (And.intro hB3 (And.intro q2 hz3))))
  clear hb3 q3 hP3 hB3 q2 hz3 HP HQ
  revert HP3
  generalize (w2.alloc (.cells #[.pointer (some ⟨bp, 0, none⟩)] 79)) = w3
  intro HP3
  go_wp2_with fail
  refine (collect_any HV.out HP3.out.2.1 HP3.out.1 (ways_len HV.out)).mono ?_
  rintro e w4 ⟨v, vs, rfl, h1, h2, hb4⟩
  obtain ⟨al, cl, rfl, hcl, L, hL1, hL2, hL3⟩ := rows_read h1 h2 rfl
  have HR : Hid (∃ x0 L0, L = x0 :: L0 ∧ (∃ b off, al = some ⟨b, off, none⟩ ∧ w4.cell? ⟨b, off, none⟩ = some x0.2 ∧ RowV w4 x0 ∧ IsRows w4 (some ⟨b, off + 1, none⟩) L0)) := by
    cases L with
    | nil => exact absurd (by rw [← hL1]; rfl) (ways_ne HV.out)
    | cons x0 L0 =>
      obtain ⟨b, off, rfl, k1, k2⟩ := hL3 0 (by simp)
      exact ⟨x0, L0, rfl, b, off, rfl, k1, k2, hL3.tail⟩
  obtain ⟨x0, L0, rfl, b, off, rfl, k1, k2, k3⟩ := HR.out
  clear HR hL3 h1 h2
  have hn5 : p.cards.length ≤ 5 := by
    have := HV.out
    unfold Prs.valid at this
    simp at this
    exact this.1.1.1
  have hall : ∀ x ∈ x0 :: L0, x.1.length = p.cards.length := fun x hx => (ways_all (by rw [← hL1]; exact List.mem_map_of_mem hx)).1
  have hfew : (leastP x0 L0).1 = fewestW p := by rw [leastP_fst]; unfold fewestW; rw [← hL1]; rfl
  have hN : L0.length + 1 = (waysL p).length := by rw [← hL2]; rfl
  have hNl := ways_len HV.out
  obtain ⟨at_, hat⟩ : ∃ at_ : Option Addr, (if cl = 1 then some (⟨b, off, none⟩ : Addr) else some ⟨b, off + 1, none⟩) = at_ := ⟨_, rfl⟩
  have k3' : IsRows w4 at_ L0 := by
    by_cases hc1 : cl = 1
    · intro i hi
      omega
    · rw [if_neg hc1] at hat
      rw [← hat]; exact k3
  have HL : Hid (∀ V, Below w4.heap.size w4 V → Calls Try.prog 54 #[.func (.func 55) #[] #[], x0.2, .slice at_ L0.length (cl - 1)] V fun e w' => e = .returned (leastP x0 L0).2 ∧ Below V.heap.size V w') := fun V hV =>
    (least_any (by omega) (hall x0 (by simp)) (fun x hx => hall x (by simp [hx])) (k2.mono hV) (k3'.mono hV) (by omega)).mono fun e w' h => ⟨h.1, by rw [← h.2]; exact Below.refl _ _⟩
  have hrow : RowV w4 (leastP x0 L0) := leastP_all (Q := RowV w4) L0 x0 k2 (fun x hx => by
    obtain ⟨i, hi, rfl⟩ := List.getElem_of_mem hx
    obtain ⟨_, _, _, _, k⟩ := k3 i hi
    have e : L0.getD i ([], undef) = L0[i] := by simp [hi]
    rw [e] at k
    exact k)
  obtain ⟨av, cv, hvx, hints⟩ := hrow
  rw [hfew] at hvx hints
  have hlen : (fewestW p).length ≤ 16 := by rw [← hfew, leastP_all (Q := fun x => x.1.length = p.cards.length) L0 x0 (hall x0 (by simp)) (fun x hx => hall x (by simp [hx]))]; omega
  have HK1 := Lib.hid k1
  have HB4 := Lib.hid (And.intro hb4 (And.intro hints (And.intro hlen (And.intro hvx hat))))
  have hcl' : L0.length + 1 ≤ cl := by omega
  have HCL := Lib.hid hcl'
  rw [← hN]
  clear k1 k2 k3 k3' hb4 hints hlen hvx hat hall hfew hN hNl hcl hcl' hL1 hL2 hn5
  go_wp2_with fail
  refine few3 HK1 HCL.out HB4.out.2.2.2.2 HL ?_
  intro x12 x13 x14 x15 x16 x17 x6 w5 hb5 e12 e13 e14 e15 e16 e17 e6
  clear e12 e13 e14 e15 e16 e17
  rw [HB4.out.2.2.2.1] at e6
  subst e6
  have hi5 := HB4.out.2.1.mono hb5
  have q5 : w5.heap[w.heap.size + 1]? = some (.cells #[.int .i64 0] 29 (0, 0)) :=
    (hb5.block _ (by have := HB4.out.1.size; have := HP3.out.2.2.2.2; have := HZ.out; omega)).trans ((HB4.out.1.block _ (by have := HP3.out.2.2.2.2; have := HZ.out; omega)).trans HP3.out.2.2.2.1)
  have hB5 : Below w.heap.size w w5 := (HP3.out.2.2.1.trans (HB4.out.1.mono HP3.out.2.2.1.size)).trans (hb5.mono (by have := HB4.out.1.size; have := HP3.out.2.2.1.size; omega))
  have H5 := Lib.hid (And.intro hi5 (And.intro q5 hB5))
  have c5 : w5.cell? ⟨w.heap.size + 1, 0, none⟩ = some (.int .i64 0) := by rw [cell_of_heap q5]; rfl
  have f5 : w5.frozen? ⟨w.heap.size + 1, 0, none⟩ = false := frozen_of_heap q5
  clear hi5 q5 hB5 hb5
  go_wp2_with fail
  refine (originals_any HB4.out.2.2.1 H5.out.1).mono ?_
  rintro e w6 ⟨rfl, rfl⟩
  go_wp2_with fail
  have hcell := World.cell?_setCell_same w5 ⟨w.heap.size + 1, 0, none⟩ (.int .i64 0) c5
  have hb6 : Below w5.heap.size w5 w5 := Below.refl _ _
  refine ⟨[], _, rfl, leaves_ok (recov77_ok _ _) HC77.out (res_ttc rfl _ rfl hcell) ⟨av, cv, rfl, ?_, H5.out.2.2.setCell (by show w.heap.size ≤ w.heap.size + 1; omega) _⟩⟩
  intro i hi
  obtain ⟨b', off', e1, e2⟩ := H5.out.1 i hi
  refine ⟨b', off', e1, ?_⟩
  by_cases h : (⟨w.heap.size + 1, 0, none⟩ : Addr) = ⟨b', off' + i, none⟩
  · rw [← h] at e2 ⊢
    rw [c5] at e2
    rw [hcell]
    exact e2
  · rw [World.cell?_setCell_other _ _ _ _ h]
    exact e2
end Go.Proofs.Ytnfhlbmapfoifaa

