/- First: the drawn region. First: the walk. The sample: boxes and a heap, a span. Two lists that are the same; the drawn region of awake11. Sets of small numbers; what is reached and what is true: plain Lean. The plain laws of cabinets: what is true of the truths. The plain laws of cabinets: sets, looks, less. A cabinet of which a card was taken out and put back: plain laws. What can follow when a card is put back: the iterator. -/
import Derived.Test.YtbnhngfegnhaiaaGreatDoorC6
namespace Go.Proofs.YtbnhngfegnhaiaaGreatDoor
open Go.RowKit
set_option linter.unusedVariables false
set_option linter.unusedSimpArgs false
noncomputable def fst13C : Code := (Tryz.f7.body.bind (regionAt 13)).getD .skip
set_option maxRecDepth 100000 in
set_option maxHeartbeats 8000000 in
theorem fst13 {k k1 i u u1 tw c0 : Nat} {g0 : Option Addr} {R : Bool → Bool → Bool → Bool → Nat → Option Addr × Nat → Nat → World → Prop} {Q : Exit → Act → World → Prop} {W1 : World} (htw : IntKind.u64.wrap (2 ^ i) = (tw : Int)) (hi : (i : Int) < 12) (h0 : R false false false false 0 (none, 0) 0 W1.drew)
    (ka2 : Hid (∀ (f7_ : Bool) (a : Nat) (q : Option Addr × Nat) (b : Nat) (w : World), R false false f7_ false a q b w → R true false f7_ false w.heap.size q b (w.alloc (.cells #[.int .i64 ((i : Int))] 3))))
    (kr3 : Hid (∀ (f7_ : Bool) (a : Nat) (q : Option Addr × Nat) (b : Nat) (w : World), R true false f7_ false a q b w → ∃ (w' : World) (q' : Option Addr × Nat), (Builtin.append_ #[30, 30] 30 #[.slice g0 k c0, .slice (some ⟨a, 0, none⟩) 1 1]).run Tryz.prog w = .ok (.slice q'.1 k1 q'.2) w' ∧ R true true f7_ false a q' b w'))
    (ka7 : Hid (∀ (f2_ f3_ : Bool) (a : Nat) (q : Option Addr × Nat) (b : Nat) (w : World), R f2_ f3_ false false a q b w → R f2_ f3_ true false a q w.heap.size (w.alloc (.cells #[.int .u64 (u : Int), .int .u64 (tw : Int)] 71))))
    (kc8 : Hid (∀  (a : Nat) (q : Option Addr × Nat) (b : Nat) (w : World), R true true true false a q b w → Calls Tryz.prog 25 #[.slice (some ⟨b, 0, none⟩) 2 2] w fun e w' => e = .returned (.int .u64 (u1 : Int)) ∧ R true true true true a q b w'))
    {s0 s1 s3 s4 s5 s7 s9 s10 s11 s12 s13 s14 s15 s16 s17 s18 s19 s20 s21 s22 s23 s24 s25 s26 s27 s28 s29 s30 s31 s32 s33 s34 s35 s36 s37 s38 s39 s40 s41 s42 s43 s44 s45 s46 s47 s48 s49 s50 s51 s52 s53 s54 s55 s56 s57 s58 s59 s60 s61 s62 s63 s64 s65 s66 s67 s68 s69 s70 : Value} {dd : List Deferred}
    (hQ : ∀ (a : Nat) (q : Option Addr × Nat) (b : Nat) (w' : World), R true true true true a q b w' → Q .normal { tmps := List.toArray (s0 :: s1 :: .slice q.1 k1 q.2 :: s3 :: s4 :: s5 :: .int .u64 (u1 : Int) :: s7 :: .int .i64 ((i : Int)) :: s9 :: s10 :: s11 :: s12 :: s13 :: s14 :: s15 :: s16 :: s17 :: s18 :: s19 :: s20 :: s21 :: s22 :: s23 :: s24 :: s25 :: s26 :: s27 :: s28 :: s29 :: s30 :: s31 :: s32 :: s33 :: s34 :: s35 :: s36 :: s37 :: s38 :: s39 :: s40 :: s41 :: s42 :: s43 :: s44 :: s45 :: s46 :: s47 :: s48 :: s49 :: s50 :: s51 :: s52 :: s53 :: s54 :: s55 :: s56 :: s57 :: s58 :: .slice g0 k c0 :: .int .i64 ((i : Int)) :: .slice (some ⟨a, 0, none⟩) 1 1 :: .slice q.1 k1 q.2 :: .int .u64 (u : Int) :: .int .i64 ((i : Int)) :: .int .u64 (tw : Int) :: .slice (some ⟨b, 0, none⟩) 2 2 :: .int .u64 (u1 : Int) :: s68 :: s69 :: s70 :: []),defers := dd } w') :
    Code.wpIn (wideAt none) 0 Tryz.prog fst13C Q { tmps := List.toArray (s0 :: s1 :: .slice g0 k c0 :: s3 :: s4 :: s5 :: .int .u64 (u : Int) :: s7 :: .int .i64 ((i : Int)) :: s9 :: s10 :: s11 :: s12 :: s13 :: s14 :: s15 :: s16 :: s17 :: s18 :: s19 :: s20 :: s21 :: s22 :: s23 :: s24 :: s25 :: s26 :: s27 :: s28 :: s29 :: s30 :: s31 :: s32 :: s33 :: s34 :: s35 :: s36 :: s37 :: s38 :: s39 :: s40 :: s41 :: s42 :: s43 :: s44 :: s45 :: s46 :: s47 :: s48 :: s49 :: s50 :: s51 :: s52 :: s53 :: s54 :: s55 :: s56 :: s57 :: s58 :: s59 :: s60 :: s61 :: s62 :: s63 :: s64 :: s65 :: s66 :: s67 :: s68 :: s69 :: s70 :: []),defers := dd } W1 := by
  have HQ := Lib.hid hQ
  clear hQ
  conv => arg 4; whnf
  refine wpIn_region_invG mixed (by kernel_rfl) (fun d_ a_ w' => ∃ (a : Nat) (q : Option Addr × Nat) (b : Nat), a_ = { tmps := List.toArray (s0 :: s1 :: pk (d_ 9) (.slice q.1 k1 q.2) (.slice g0 k c0) :: s3 :: s4 :: s5 :: pk (d_ 10) (.int .u64 (u1 : Int)) (.int .u64 (u : Int)) :: s7 :: .int .i64 ((i : Int)) :: s9 :: s10 :: s11 :: s12 :: s13 :: s14 :: s15 :: s16 :: s17 :: s18 :: s19 :: s20 :: s21 :: s22 :: s23 :: s24 :: s25 :: s26 :: s27 :: s28 :: s29 :: s30 :: s31 :: s32 :: s33 :: s34 :: s35 :: s36 :: s37 :: s38 :: s39 :: s40 :: s41 :: s42 :: s43 :: s44 :: s45 :: s46 :: s47 :: s48 :: s49 :: s50 :: s51 :: s52 :: s53 :: s54 :: s55 :: s56 :: s57 :: s58 :: pk (d_ 0) (.slice g0 k c0) s59 :: pk (d_ 1) (.int .i64 ((i : Int))) s60 :: pk (d_ 2) (.slice (some ⟨a, 0, none⟩) 1 1) s61 :: pk (d_ 3) (.slice q.1 k1 q.2) s62 :: pk (d_ 4) (.int .u64 (u : Int)) s63 :: pk (d_ 5) (.int .i64 ((i : Int))) s64 :: pk (d_ 6) (.int .u64 (tw : Int)) s65 :: pk (d_ 7) (.slice (some ⟨b, 0, none⟩) 2 2) s66 :: pk (d_ 8) (.int .u64 (u1 : Int)) s67 :: s68 :: s69 :: s70 :: []),defers := dd } ∧ R (d_ 2) (d_ 3) (d_ 7) (d_ 8) a q b w' ∧ OrdP [[], [], [1], [0, 2], [], [], [5], [4, 6], [3, 7], [0, 1, 2, 3, 8], [0, 1, 2, 3, 4, 5, 6, 7, 8, 9]] d_) ?_ ?_ ?_
  · exact ⟨0, (none, 0), 0, rfl, h0, fun k h => by cases h⟩
  · refine ⟨?_,?_,?_,?_,?_,?_,?_,?_,?_,?_,?_, trivial⟩
    all_goals
      rintro d_ a_ w1 K hd_ hdep ⟨a, q, b, rfl, F, O⟩ HK
      simp [Region.binds] at hdep
    · have HO : Hid (OrdP [[], [], [1], [0, 2], [], [], [5], [4, 6], [3, 7], [0, 1, 2, 3, 8], [0, 1, 2, 3, 4, 5, 6, 7, 8, 9]] (upd d_ 0)) := O.step (show ∀ e ∈ ([] : List Nat), d_ e = true by simp [hdep])
      have n3_ : d_ 3 = false := by
        cases e_ : d_ 3 with
        | false => rfl
        | true => have h2 := (O 3 e_ 0 (by decide)); rw [show d_ 0 = false from hd_] at h2; cases h2
      have n8_ : d_ 8 = false := by
        cases e_ : d_ 8 with
        | false => rfl
        | true => have h2 := (O 3 (O 8 e_ 3 (by decide)) 0 (by decide)); rw [show d_ 0 = false from hd_] at h2; cases h2
      have n9_ : d_ 9 = false := by
        cases e_ : d_ 9 with
        | false => rfl
        | true => have h2 := (O 9 e_ 0 (by decide)); rw [show d_ 0 = false from hd_] at h2; cases h2
      have F2 := F
      rw [n3_] at F2
      rw [n8_] at F2
      clear O
      clear n3_ n8_
      rw [pk_no n9_]
      have n9_ := Lib.hid n9_
      have HF := Lib.hid F
      clear F F2 hdep
      go_simp
      refine HK.out _ _ ⟨a, q, b, ?_, HF.out, HO.out⟩
      rw [pk_no (show upd d_ 0 9 = false from n9_.out)]
      all_goals rfl
    · have HO : Hid (OrdP [[], [], [1], [0, 2], [], [], [5], [4, 6], [3, 7], [0, 1, 2, 3, 8], [0, 1, 2, 3, 4, 5, 6, 7, 8, 9]] (upd d_ 1)) := O.step (show ∀ e ∈ ([] : List Nat), d_ e = true by simp [hdep])
      have n2_ : d_ 2 = false := by
        cases e_ : d_ 2 with
        | false => rfl
        | true => have h2 := (O 2 e_ 1 (by decide)); rw [show d_ 1 = false from hd_] at h2; cases h2
      have n3_ : d_ 3 = false := by
        cases e_ : d_ 3 with
        | false => rfl
        | true => have h2 := (O 2 (O 3 e_ 2 (by decide)) 1 (by decide)); rw [show d_ 1 = false from hd_] at h2; cases h2
      have n8_ : d_ 8 = false := by
        cases e_ : d_ 8 with
        | false => rfl
        | true => have h2 := (O 2 (O 3 (O 8 e_ 3 (by decide)) 2 (by decide)) 1 (by decide)); rw [show d_ 1 = false from hd_] at h2; cases h2
      have F2 := F
      rw [n2_] at F2
      rw [n3_] at F2
      rw [n8_] at F2
      clear O
      clear n2_ n3_ n8_
      have HF := Lib.hid F
      clear F F2 hdep
      go_simp
      refine HK.out _ _ ⟨a, q, b, ?_, HF.out, HO.out⟩
      all_goals rfl
    · have HO : Hid (OrdP [[], [], [1], [0, 2], [], [], [5], [4, 6], [3, 7], [0, 1, 2, 3, 8], [0, 1, 2, 3, 4, 5, 6, 7, 8, 9]] (upd d_ 2)) := O.step (show ∀ e ∈ ([1] : List Nat), d_ e = true by simp [hdep])
      have q1 : d_ 1 = true := (show d_ 1 = true by simp [hdep])
      have n3_ : d_ 3 = false := by
        cases e_ : d_ 3 with
        | false => rfl
        | true => have h2 := (O 3 e_ 2 (by decide)); rw [show d_ 2 = false from hd_] at h2; cases h2
      have n8_ : d_ 8 = false := by
        cases e_ : d_ 8 with
        | false => rfl
        | true => have h2 := (O 3 (O 8 e_ 3 (by decide)) 2 (by decide)); rw [show d_ 2 = false from hd_] at h2; cases h2
      have F2 := F
      rw [show d_ 2 = false from hd_] at F2
      rw [n3_] at F2
      rw [n8_] at F2
      clear O
      have HR : Hid (∀ (a : Nat) (q : Option Addr × Nat) (b : Nat) (w : World), R true false (d_ 7) false a q b w → R (upd d_ 2 2) (upd d_ 2 3) (upd d_ 2 7) (upd d_ 2 8) a q b w) := fun a q b w h => by
        rw [show upd d_ 2 3 = false from n3_, show upd d_ 2 8 = false from n8_]
        exact h
      clear n3_ n8_
      rw [pk_of q1]
      have HG := Lib.hid (ka2.out _ a q b w1 F2)
      clear F F2 hdep
      go_simp
      refine HK.out _ _ ⟨_, q, b, ?_, HR.out _ _ _ _ HG.out, HO.out⟩
      rw [pk_of (show upd d_ 2 1 = true from q1)]
      all_goals rfl
    · have HO : Hid (OrdP [[], [], [1], [0, 2], [], [], [5], [4, 6], [3, 7], [0, 1, 2, 3, 8], [0, 1, 2, 3, 4, 5, 6, 7, 8, 9]] (upd d_ 3)) := O.step (show ∀ e ∈ ([0, 2] : List Nat), d_ e = true by simp [hdep])
      have q0 : d_ 0 = true := (show d_ 0 = true by simp [hdep])
      have q2 : d_ 2 = true := (show d_ 2 = true by simp [hdep])
      have n8_ : d_ 8 = false := by
        cases e_ : d_ 8 with
        | false => rfl
        | true => have h2 := (O 8 e_ 3 (by decide)); rw [show d_ 3 = false from hd_] at h2; cases h2
      have n9_ : d_ 9 = false := by
        cases e_ : d_ 9 with
        | false => rfl
        | true => have h2 := (O 9 e_ 3 (by decide)); rw [show d_ 3 = false from hd_] at h2; cases h2
      have F2 := F
      rw [q2] at F2
      rw [show d_ 3 = false from hd_] at F2
      rw [n8_] at F2
      clear O
      have HR : Hid (∀ (a : Nat) (q : Option Addr × Nat) (b : Nat) (w : World), R true true (d_ 7) false a q b w → R (upd d_ 3 2) (upd d_ 3 3) (upd d_ 3 7) (upd d_ 3 8) a q b w) := fun a q b w h => by
        rw [show upd d_ 3 2 = true from q2, show upd d_ 3 8 = false from n8_]
        exact h
      clear n8_
      rw [pk_of q0, pk_of q2]
      obtain ⟨w5, q', kk, hR⟩ := kr3.out _ a q b w1 F2
      have HG := Lib.hid hR
      clear F F2 hR hdep
      have n9_ := Lib.hid n9_
      rw [pk_no n9_.out]
      rw [if_pos (by rfl)]
      refine wpInR_append_run (.tmp 59) (.tmp 61) 30 rfl _ _ _ _ rfl rfl kk ?_
      refine HK.out _ _ ⟨a, q', b, ?_, HR.out _ _ _ _ HG.out, HO.out⟩
      rw [pk_no (show upd d_ 3 9 = false from n9_.out)]
      rw [pk_of (show upd d_ 3 0 = true from q0), pk_of (show upd d_ 3 2 = true from q2)]
      all_goals rfl
    · have HO : Hid (OrdP [[], [], [1], [0, 2], [], [], [5], [4, 6], [3, 7], [0, 1, 2, 3, 8], [0, 1, 2, 3, 4, 5, 6, 7, 8, 9]] (upd d_ 4)) := O.step (show ∀ e ∈ ([] : List Nat), d_ e = true by simp [hdep])
      have n7_ : d_ 7 = false := by
        cases e_ : d_ 7 with
        | false => rfl
        | true => have h2 := (O 7 e_ 4 (by decide)); rw [show d_ 4 = false from hd_] at h2; cases h2
      have n8_ : d_ 8 = false := by
        cases e_ : d_ 8 with
        | false => rfl
        | true => have h2 := (O 7 (O 8 e_ 7 (by decide)) 4 (by decide)); rw [show d_ 4 = false from hd_] at h2; cases h2
      have n10_ : d_ 10 = false := by
        cases e_ : d_ 10 with
        | false => rfl
        | true => have h2 := (O 10 e_ 4 (by decide)); rw [show d_ 4 = false from hd_] at h2; cases h2
      have F2 := F
      rw [n7_] at F2
      rw [n8_] at F2
      clear O
      clear n7_ n8_
      rw [pk_no n10_]
      have n10_ := Lib.hid n10_
      have HF := Lib.hid F
      clear F F2 hdep
      go_simp
      refine HK.out _ _ ⟨a, q, b, ?_, HF.out, HO.out⟩
      rw [pk_no (show upd d_ 4 10 = false from n10_.out)]
      all_goals rfl
    · have HO : Hid (OrdP [[], [], [1], [0, 2], [], [], [5], [4, 6], [3, 7], [0, 1, 2, 3, 8], [0, 1, 2, 3, 4, 5, 6, 7, 8, 9]] (upd d_ 5)) := O.step (show ∀ e ∈ ([] : List Nat), d_ e = true by simp [hdep])
      have n7_ : d_ 7 = false := by
        cases e_ : d_ 7 with
        | false => rfl
        | true => have h2 := (O 6 (O 7 e_ 6 (by decide)) 5 (by decide)); rw [show d_ 5 = false from hd_] at h2; cases h2
      have n8_ : d_ 8 = false := by
        cases e_ : d_ 8 with
        | false => rfl
        | true => have h2 := (O 6 (O 7 (O 8 e_ 7 (by decide)) 6 (by decide)) 5 (by decide)); rw [show d_ 5 = false from hd_] at h2; cases h2
      have F2 := F
      rw [n7_] at F2
      rw [n8_] at F2
      clear O
      clear n7_ n8_
      have HF := Lib.hid F
      clear F F2 hdep
      go_simp
      refine HK.out _ _ ⟨a, q, b, ?_, HF.out, HO.out⟩
      all_goals rfl
    · have HO : Hid (OrdP [[], [], [1], [0, 2], [], [], [5], [4, 6], [3, 7], [0, 1, 2, 3, 8], [0, 1, 2, 3, 4, 5, 6, 7, 8, 9]] (upd d_ 6)) := O.step (show ∀ e ∈ ([5] : List Nat), d_ e = true by simp [hdep])
      have q5 : d_ 5 = true := (show d_ 5 = true by simp [hdep])
      have n7_ : d_ 7 = false := by
        cases e_ : d_ 7 with
        | false => rfl
        | true => have h2 := (O 7 e_ 6 (by decide)); rw [show d_ 6 = false from hd_] at h2; cases h2
      have n8_ : d_ 8 = false := by
        cases e_ : d_ 8 with
        | false => rfl
        | true => have h2 := (O 7 (O 8 e_ 7 (by decide)) 6 (by decide)); rw [show d_ 6 = false from hd_] at h2; cases h2
      have F2 := F
      rw [n7_] at F2
      rw [n8_] at F2
      clear O
      clear n7_ n8_
      have ht2 := htw
      have hi2 := hi
      rw [pk_of q5]
      have HF := Lib.hid F
      clear F F2 hdep
      go_simp
      refine HK.out _ _ ⟨a, q, b, ?_, HF.out, HO.out⟩
      rw [pk_of (show upd d_ 6 5 = true from q5)]
      all_goals rfl
    · have HO : Hid (OrdP [[], [], [1], [0, 2], [], [], [5], [4, 6], [3, 7], [0, 1, 2, 3, 8], [0, 1, 2, 3, 4, 5, 6, 7, 8, 9]] (upd d_ 7)) := O.step (show ∀ e ∈ ([4, 6] : List Nat), d_ e = true by simp [hdep])
      have q4 : d_ 4 = true := (show d_ 4 = true by simp [hdep])
      have q6 : d_ 6 = true := (show d_ 6 = true by simp [hdep])
      have n8_ : d_ 8 = false := by
        cases e_ : d_ 8 with
        | false => rfl
        | true => have h2 := (O 8 e_ 7 (by decide)); rw [show d_ 7 = false from hd_] at h2; cases h2
      have F2 := F
      rw [show d_ 7 = false from hd_] at F2
      rw [n8_] at F2
      clear O
      have HR : Hid (∀ (a : Nat) (q : Option Addr × Nat) (b : Nat) (w : World), R (d_ 2) (d_ 3) true false a q b w → R (upd d_ 7 2) (upd d_ 7 3) (upd d_ 7 7) (upd d_ 7 8) a q b w) := fun a q b w h => by
        rw [show upd d_ 7 8 = false from n8_]
        exact h
      clear n8_
      rw [pk_of q4, pk_of q6]
      have HG := Lib.hid (ka7.out _ _ a q b w1 F2)
      clear F F2 hdep
      go_simp
      refine HK.out _ _ ⟨a, q, _, ?_, HR.out _ _ _ _ HG.out, HO.out⟩
      rw [pk_of (show upd d_ 7 4 = true from q4), pk_of (show upd d_ 7 6 = true from q6)]
      all_goals rfl
    · have HO : Hid (OrdP [[], [], [1], [0, 2], [], [], [5], [4, 6], [3, 7], [0, 1, 2, 3, 8], [0, 1, 2, 3, 4, 5, 6, 7, 8, 9]] (upd d_ 8)) := O.step (show ∀ e ∈ ([3, 7] : List Nat), d_ e = true by simp [hdep])
      have q7 : d_ 7 = true := (show d_ 7 = true by simp [hdep])
      have y2_ : d_ 2 = true := (O 3 (show d_ 3 = true by simp [hdep]) 2 (by decide))
      have y3_ : d_ 3 = true := (show d_ 3 = true by simp [hdep])
      have F2 := F
      rw [y2_] at F2
      rw [y3_] at F2
      rw [q7] at F2
      rw [show d_ 8 = false from hd_] at F2
      clear O
      have HR : Hid (∀ (a : Nat) (q : Option Addr × Nat) (b : Nat) (w : World), R true true true true a q b w → R (upd d_ 8 2) (upd d_ 8 3) (upd d_ 8 7) (upd d_ 8 8) a q b w) := fun a q b w h => by
        rw [show upd d_ 8 2 = true from y2_, show upd d_ 8 3 = true from y3_, show upd d_ 8 7 = true from q7]
        exact h
      clear y2_ y3_
      rw [pk_of q7]
      have hc := kc8.out a q b w1 F2
      clear F F2 hdep
      go_simp
      refine ⟨trivial, rfl, wideAt_calls (hc.mono ?_)⟩
      rintro e w5 ⟨rfl, HG⟩
      have HG := Lib.hid HG
      refine HK.out _ _ ⟨a, q, b, ?_, HR.out _ _ _ _ HG.out, HO.out⟩
      rw [pk_of (show upd d_ 8 7 = true from q7)]
      all_goals rfl
    · have HO : Hid (OrdP [[], [], [1], [0, 2], [], [], [5], [4, 6], [3, 7], [0, 1, 2, 3, 8], [0, 1, 2, 3, 4, 5, 6, 7, 8, 9]] (upd d_ 9)) := O.step (show ∀ e ∈ ([0, 1, 2, 3, 8] : List Nat), d_ e = true by simp [hdep])
      have q3 : d_ 3 = true := (show d_ 3 = true by simp [hdep])
      have y2_ : d_ 2 = true := (show d_ 2 = true by simp [hdep])
      have y7_ : d_ 7 = true := (O 8 (show d_ 8 = true by simp [hdep]) 7 (by decide))
      have y8_ : d_ 8 = true := (show d_ 8 = true by simp [hdep])
      have F2 := F
      rw [y2_] at F2
      rw [q3] at F2
      rw [y7_] at F2
      rw [y8_] at F2
      clear O
      clear y2_ y7_ y8_
      rw [pk_of q3]
      have HF := Lib.hid F
      clear F F2 hdep
      go_simp
      refine HK.out _ _ ⟨a, q, b, ?_, HF.out, HO.out⟩
      rw [pk_of (show upd d_ 9 3 = true from q3)]
      all_goals rfl
    · have HO : Hid (OrdP [[], [], [1], [0, 2], [], [], [5], [4, 6], [3, 7], [0, 1, 2, 3, 8], [0, 1, 2, 3, 4, 5, 6, 7, 8, 9]] (upd d_ 10)) := O.step (show ∀ e ∈ ([0, 1, 2, 3, 4, 5, 6, 7, 8, 9] : List Nat), d_ e = true by simp [hdep])
      have q8 : d_ 8 = true := (show d_ 8 = true by simp [hdep])
      have y2_ : d_ 2 = true := (show d_ 2 = true by simp [hdep])
      have y3_ : d_ 3 = true := (show d_ 3 = true by simp [hdep])
      have y7_ : d_ 7 = true := (show d_ 7 = true by simp [hdep])
      have F2 := F
      rw [y2_] at F2
      rw [y3_] at F2
      rw [y7_] at F2
      rw [q8] at F2
      clear O
      clear y2_ y3_ y7_
      rw [pk_of q8]
      have HF := Lib.hid F
      clear F F2 hdep
      go_simp
      refine HK.out _ _ ⟨a, q, b, ?_, HF.out, HO.out⟩
      rw [pk_of (show upd d_ 10 8 = true from q8)]
      all_goals rfl
  · rintro d_ a_ w1 hall ⟨a, q, b, rfl, F, O⟩
    have hall' : ∀ k, k < 11 → d_ k = true := hall
    rw [hall' 2 (by decide), hall' 3 (by decide), hall' 7 (by decide), hall' 8 (by decide)] at F
    have HF := Lib.hid F
    clear F
    rw [pk_of (hall' 0 (by decide)), pk_of (hall' 1 (by decide)), pk_of (hall' 2 (by decide)), pk_of (hall' 3 (by decide)), pk_of (hall' 4 (by decide)), pk_of (hall' 5 (by decide)), pk_of (hall' 6 (by decide)), pk_of (hall' 7 (by decide)), pk_of (hall' 8 (by decide)), pk_of (hall' 9 (by decide)), pk_of (hall' 10 (by decide))]
    exact HQ.out a q b w1 HF.out
end Go.Proofs.YtbnhngfegnhaiaaGreatDoor
namespace Go.Proofs.YtbnhngfegnhaiaaGreatDoor
open Go.RowKit
set_option linter.unusedVariables false
set_option linter.unusedSimpArgs false
theorem first_hit {E f u i : Nat} {fs : List Nat} (hi : i < E) (hb : (f.testBit i && !u.testBit i) = true) (hp : 0 < countL E fs (u ||| 2 ^ i)) (hno : ∀ j, j < i → (f.testBit j && !u.testBit j) = true → countL E fs (u ||| 2 ^ j) = 0) :
    firstL E (f :: fs) u = i :: firstL E fs (u ||| 2 ^ i) := by
  have hf : (freeL E f u).find? (fun i => decide (0 < countL E fs (u ||| 2 ^ i))) = some i := by
    unfold freeL
    rw [List.find?_filter, List.find?_range_eq_some]
    refine ⟨by simp [hb, hp], by simp [hi], fun j hj => ?_⟩
    cases hbj : (f.testBit j && !u.testBit j)
    · simp
    · simp [hno j hj hbj]
  simp only [firstL, hf]
theorem first_some {E f u : Nat} {fs : List Nat} (h : 0 < countL E (f :: fs) u) : ∃ i, i < E ∧ (f.testBit i && !u.testBit i) = true ∧ 0 < countL E fs (u ||| 2 ^ i) := by
  obtain ⟨x, hx⟩ := List.exists_mem_of_length_pos h
  unfold waysL at hx
  obtain ⟨i, hi, hx⟩ := List.mem_flatMap.1 hx
  obtain ⟨y, hy, _⟩ := List.mem_map.1 hx
  obtain ⟨h1, h2, h3⟩ := mem_freeL.1 hi
  exact ⟨i, h1, by simp [h2, h3], List.length_pos_of_mem hy⟩
def intL (l : List Nat) : List Value := l.map fun (x : Nat) => (.int .i64 (x : Int) : Value)
/-- How far it is. -/
structure FirN (E : Nat) (fs : List Nat) (k U : Nat) (l : List Nat) : Prop where
  ln : l.length = k
  eq : firstL E fs 0 = l ++ firstL E (fs.drop k) U
  lt : U < 2 ^ E
  ps : 0 < countL E (fs.drop k) U
def FirstP (m : Mx) (w : World) (e : Ending) (w' : World) : Prop :=
  ((countL m.ents.length m.fits 0 = 0 ∧ e = .returned (.tuple #[.slice none 0 0, .int .i64 4])) ∨
   (countL m.ents.length m.fits 0 ≠ 0 ∧ ∃ q : Option Addr × Nat, e = .returned (.tuple #[.slice q.1 m.fits.length q.2, .int .i64 0]) ∧ w'.ownsRow w.heap.size 3 1 (.slice q.1 m.fits.length q.2) m.fits.length (intL (firstL m.ents.length m.fits 0)))) ∧ Below w.heap.size w w'
theorem app_int {w : World} {base ms x : Nat} {l : List Nat} {q : Option Addr × Nat} {n : Nat} (hn8 : n ≤ 100) (hb : base ≤ w.heap.size) (hx : w.ownsRow base 3 1 (.slice q.1 n q.2) n (intL l)) (hm : w.heap[ms]? = some (.cells #[.int .i64 (x : Int)] 3 (0, 0))) :
    ∃ (q1 : Option Addr × Nat) (w' : World), (Builtin.append_ #[30, 30] 30 #[.slice q.1 n q.2, .slice (some ⟨ms, 0, none⟩) 1 1]).run Tryz.prog w = .ok (.slice q1.1 (n + 1) q1.2) w' ∧ w'.ownsRow base 3 1 (.slice q1.1 (n + 1) q1.2) (n + 1) (intL (l ++ [x])) ∧ w.grownBy w' (Value.slice q.1 n q.2).ownBlock := by
  obtain ⟨i0, hi0, hz0, hz1, hz2⟩ := info_parts infoI
  obtain ⟨v', w', hr, hn, hg, _⟩ := append_keep (P := Tryz.prog) (w := w) base 30 30 3 i0 _ 8 Tryz.underlying30 hi0 hz0 hz1 hz2 rfl _ n _ hx ⟨ms, 0, none⟩ (.int .i64 (x : Int)) (cell_of_heap hm) rfl (by simp [maxLen]; omega) (by omega) hb
  have e : intL l ++ [.int .i64 (x : Int)] = intL (l ++ [x]) := by simp [intL]
  rw [e] at hn
  obtain ⟨a', c', rfl, _⟩ := own_slice hn
  exact ⟨(a', c'), w', hr, hn, hg⟩
/-- What holds while the region's entries come in some order. -/
structure FstS (E : Nat) (fs : List Nat) (mb k i U tw : Nat) (q0 : Option Addr × Nat) (l : List Nat) (w3 : World) (f2 f3 f7 f8 : Bool) (a : Nat) (q : Option Addr × Nat) (b : Nat) (v : World) : Prop where
  sm : Same (fun j => j = mb) w3 v
  kn : KnownH E fs v mb
  o : f3 = false → v.ownsRow w3.heap.size 3 1 (.slice q0.1 k q0.2) k (intL l)
  o2 : f3 = true → v.ownsRow w3.heap.size 3 1 (.slice q.1 (k + 1) q.2) (k + 1) (intL (l ++ [i]))
  a : f2 = true → f3 = false → v.heap[a]? = some (.cells #[.int .i64 (i : Int)] 3 (0, 0))
  b : f7 = true → v.heap[b]? = some (.cells #[.int .u64 (U : Int), .int .u64 (tw : Int)] 71 (0, 0))
set_option maxRecDepth 100000 in
set_option maxHeartbeats 8000000 in
theorem first7 {m : Mx} {ab ac : Option Addr} {cb cc : Nat} {w : World} (hm : m.Ok) (h1 : IsBxs w ab m.boxes) (h2 : IsTns w ac m.cards) :
    Calls Tryz.prog 7 #[m.v ab cb ac cc] w fun e w' => FirstP m w e w' := by
  have hab := alloc_below w (.cells (m.arr ab cb ac cc) 25)
  have HX := Lib.hid (And.intro (World.alloc_heap_new w (.cells (m.arr ab cb ac cc) 25)) (And.intro hab (And.intro (h1.mono hab) (h2.mono hab))))
  have HM := Lib.hid (And.intro hm (facts_of hm))
  clear hab hm h1 h2
  go_enter Tryz.func7, Tryz.ntmps7
  refine wp_seq_hid ?_
  intro K0 HK0
  go_wp2_with fail
  refine HK0.out _ _ ?_
  clear HK0 K0
  revert HX
  generalize w.alloc (.cells (m.arr ab cb ac cc) 25) = w1
  generalize hb1 : w.heap.size = b1
  intro HX
  have HE := Lib.hid hb1
  have HL : Hid (Below w.heap.size w w1) := by rw [Hid, hb1]; exact HX.out.2.1
  clear hb1
  have m0 : w1.cell? ⟨b1, 0, none⟩ = some (.slice ab m.boxes.length cb) := by rw [cell_of_heap HX.out.1]; rfl
  have m1 : w1.cell? ⟨b1, 1, none⟩ = some (.slice ac m.cards.length cc) := by rw [cell_of_heap HX.out.1]; rfl
  go_step3
  have HO := Lib.hid (ways22 (cb := cb) (cc := cc) HM.out.1 HX.out.2.2.1 HX.out.2.2.2)
  refine wp_seq_hid ?_
  intro K1 HK1
  go_wp2_with fail
  refine HO.out.mono ?_
  clear HO m0 m1
  rintro e w2 ⟨hw, hbb⟩
  have HBB := Lib.hid (HL.out.trans (hbb.mono HL.out.size))
  clear hbb
  rcases hw with ⟨hz, rfl⟩ | ⟨hz, hb, mb, ae, ce, af, cf, rfl, hp, hkn, hmb⟩
  · have HZ := Lib.hid hz
    clear hz
    go_wp2_with fail
    refine HK1.out _ _ ?_
    go_wp2_with fail
    simp only [Exit.noGoto]
    refine bodyPost_ret (results_tmp2 rfl _ _ _) rfl ⟨.inl ⟨HZ.out, rfl⟩, HBB.out⟩
  have HZ := Lib.hid hz
  have HP := Lib.hid (And.intro hp (And.intro hkn hmb))
  clear hz hp hkn hmb
  go_wp2_with fail
  refine HK1.out _ _ ?_
  clear HK1 K1
  refine wp_seq_hid ?_
  intro K2 HK2
  go_wp2_with fail
  refine HK2.out _ _ ?_
  clear HK2 K2
  refine wp_seq_hid ?_
  intro K3 HK3
  go_wp2_with fail
  refine (count23 HP.out.1 HP.out.2.1).mono ?_
  rintro e w3 ⟨bx, fx, rfl, hc, hb3⟩
  have H3 := Lib.hid (And.intro hc (And.intro (HBB.out.trans (hb3.mono HBB.out.size)) HP.out.2.2))
  clear hc hb3 HP HX
  go_wp2_with fail
  refine HK3.out _ _ ?_
  clear HK3 K3
  refine wp_seq_hid ?_
  intro K4 HK4
  go_wp2_with fail
  refine HK4.out _ _ ?_
  clear HK4 K4
  refine wp_seq_hid ?_
  intro KL HKL
  go_step3
  refine HKL.out _ _ ?_
  clear HKL KL
  refine wp_seq_hid ?_
  intro K5 HK5
  have m1 : w3.cell? ⟨hb, 1, none⟩ = some (.slice ac m.cards.length cc) := by rw [cell_of_heap H3.out.1.hp.h]; rfl
  have hcn := HM.out.1.nc
  go_wp2_with fail
  clear m1
  have HE12 : Hid (m.ents.length ≤ 12) := HM.out.2.e12
  have HNC : Hid (m.fits.length = m.cards.length) := HM.out.2.nc
  have HML : Hid (mb < w3.heap.size) := H3.out.1.kn.lt
  go_loopw [25, 2, 6] (fun i x u wr => ∃ (k U : Nat) (q : Option Addr × Nat) (l : List Nat), k ≤ m.cards.length ∧ i = .int .i64 (k : Int) ∧ x = .slice q.1 k q.2 ∧ u = .int .u64 (U : Int) ∧ Hid (FirN m.ents.length m.fits k U l ∧ Same (fun j => j = mb) w3 wr ∧ KnownH m.ents.length m.fits wr mb ∧ wr.ownsRow w3.heap.size 3 1 (.slice q.1 k q.2) k (intL l))) (fun i _ _ _ => m.cards.length - (intOf i).toNat)
  case atStart => exact ⟨0, 0, (none, 0), [], Nat.zero_le _, rfl, rfl, rfl, ⟨rfl, rfl, Nat.two_pow_pos _, Nat.pos_of_ne_zero HZ.out⟩, Same.refl _ _, H3.out.1.kn, World.ownsRow_nil _ _ _ _⟩
  case round =>
    obtain ⟨k, U, q0, l, hk, rfl, rfl, rfl, HW⟩ := hrel
    rename World => wo
    by_cases hlt : k < m.cards.length
    · have HCN := Lib.hid (H3.out.1.same HW.out.2.1 HW.out.2.2.1)
      have m2 : wo.cell? ⟨hb, 2, none⟩ = some (.slice ae m.ents.length ce) := by rw [cell_of_heap HCN.out.hp.h]; rfl
      have he12 := HE12.out
      have HKF : Hid (k < m.fits.length) := by rw [Hid, HNC.out]; exact hlt
      have HDR := Lib.hid (drop_at HKF.out)
      have HFL := Lib.hid (HM.out.2.fl k HKF.out)
      go_wp2_with fail
      clear m2
      go_loopw [33, 2, 6] (fun j x u wr => ∃ i : Nat, i ≤ m.ents.length ∧ j = .int .i64 (i : Int) ∧ x = .slice q0.1 k q0.2 ∧ u = .int .u64 (U : Int) ∧ Hid ((∀ j, j < i → ((gn m.fits k).testBit j && !U.testBit j) = true → countL m.ents.length (m.fits.drop (k + 1)) (U ||| 2 ^ j) = 0) ∧ Same (fun j => j = mb) w3 wr ∧ KnownH m.ents.length m.fits wr mb ∧ wr.ownsRow w3.heap.size 3 1 (.slice q0.1 k q0.2) k (intL l))) (fun j _ _ _ => m.ents.length - (intOf j).toNat)
      case atStart => exact ⟨0, Nat.zero_le _, rfl, rfl, rfl, fun j h => by omega, HW.out.2⟩
      case round =>
        obtain ⟨i, hi, rfl, rfl, rfl, HV⟩ := hrel
        by_cases hil : i < m.ents.length
        · have HCW := Lib.hid (H3.out.1.same HV.out.2.1 HV.out.2.2.1)
          have m3 : wr.cell? ⟨hb, 3, none⟩ = some (.slice af m.fits.length cf) := by rw [cell_of_heap HCW.out.hp.h]; rfl
          obtain ⟨bs, os, haf, c0⟩ := HCW.out.hp.ft k HKF.out
          rw [haf] at m3
          have HAF := Lib.hid haf
          clear haf
          have hf62 : gn m.fits k < 2 ^ 62 := Nat.lt_trans (Nat.lt_of_lt_of_le HFL.out (Nat.pow_le_pow_right (by omega) HE12.out)) (by decide)
          have hu62 : U < 2 ^ 62 := Nat.lt_trans (Nat.lt_of_lt_of_le HW.out.1.lt (Nat.pow_le_pow_right (by omega) HE12.out)) (by decide)
          obtain ⟨fr, hfr, hfr2, hfr3⟩ := andNot_u64 (gn m.fits k) U hf62 hu62
          have HFR := Lib.hid (And.intro hfr2 (And.intro hfr3 hu62))
          have hkf : (k : Int) < (m.fits.length : Int) := by have := HKF.out; omega
          have HTL := Lib.hid (two_ltH (f := i) (by omega))
          have hi12 : (i : Int) < 12 := by omega
          obtain ⟨tw, htw⟩ : ∃ tw, tw = 2 ^ i := ⟨_, rfl⟩
          have HTW := Lib.hid htw
          have hw : IntKind.u64.wrap (2 ^ i) = (tw : Int) := by rw [htw]; exact two_wrap_u (by omega)
          have hcf := cf24h
          have hcf2 := cf46h
          clear hfr2 hfr3 hf62 hu62 htw
          revert c0 hfr
          generalize hgf : gn m.fits k = f
          intro c0 hfr
          have HGF := Lib.hid hgf
          clear hgf
          have HHA := Lib.hid (And.intro (World.alloc_heap_new wr (.cells #[.int .u64 (U : Int), .int .u64 (tw : Int)] 71)) (alloc_below wr (.cells #[.int .u64 (U : Int), .int .u64 (tw : Int)] 71)))
          go_wp2_with fail
          refine (has24 (k := i) HFR.out.1 (by omega) wr).mono ?_
          rintro e w' ⟨rfl, rfl⟩
          rw [HFR.out.2.1 i, HGF.out]
          cases hbit : (f.testBit i && !U.testBit i)
          · have HBI := Lib.hid hbit
            have HN1 : Hid (∀ j, j < i + 1 → (f.testBit j && !U.testBit j) = true → countL m.ents.length (m.fits.drop (k + 1)) (U ||| 2 ^ j) = 0) := fun j hj hb => by
              rcases Nat.lt_succ_iff_lt_or_eq.1 hj with h | h
              · exact HV.out.1 j h (by rw [HGF.out]; exact hb)
              · rw [h, hbit] at hb; cases hb
            clear hbit
            go_wp2_with fail
            go_roundw
            case rel => exact ⟨i + 1, by omega, by go_num, rfl, rfl, HN1.out, HV.out.2⟩
            case measure => simp [intOf]; omega
          · have HBI := Lib.hid hbit
            clear hbit
            have HTW2 : Hid (tw < 2 ^ 62) := by rw [Hid, HTW.out]; exact HTL.out
            have HUL : Hid (U ||| tw < 2 ^ m.ents.length) := by rw [Hid, HTW.out]; exact Nat.or_lt_two_pow HW.out.1.lt (Nat.pow_lt_pow_right (by omega) hil)
            go_wp2_with fail
            refine (union25 (a := U) (c := tw) HFR.out.2.2 HTW2.out HHA.out.1).mono ?_
            rintro e w' ⟨rfl, rfl⟩
            have HCC := Lib.hid ((HCW.out.below HHA.out.2).call HM.out.2.e12 HM.out.2.n8 HM.out.2.nc HM.out.2.fl (k + 1, U ||| tw) (show k + 1 ≤ m.fits.length by have := HKF.out; omega) HUL.out)
            have hv : valH m.ents.length m.fits (k + 1, U ||| tw) = countL m.ents.length (m.fits.drop (k + 1)) (U ||| tw) := rfl
            go_wp2_with fail
            refine HCC.out.mono ?_
            clear HCC
            rintro e w6 ⟨rfl, hs6, hc6⟩
            rw [hv]
            have HS6 : Hid (Same (fun j => j = mb) w3 w6) := (same_later HV.out.2.1 (Same.of_below (fun j => j = mb) HHA.out.2) (fun i e => .inl e)).trans hs6
            have HO6 : Hid (w6.ownsRow w3.heap.size 3 1 (.slice q0.1 k q0.2) k (intL l)) := own_same (own_below HV.out.2.2.2 HHA.out.2) hs6 (fun j hj h => by
              obtain ⟨hbg, _⟩ := own_ty' (g := j) HV.out.2.2.2 h
              have := HML.out
              omega)
            have HK6 := Lib.hid hc6.kn
            have HV3 := Lib.hid (count_big (E := m.ents.length) (fs := m.fits.drop (k + 1)) HM.out.2.e12 (by simp; have := HM.out.2.n8; omega) (U ||| tw))
            clear hs6 hc6 hv
            revert HV3
            generalize hvc : countL m.ents.length (m.fits.drop (k + 1)) (U ||| tw) = v
            intro HV3
            have HVC := Lib.hid hvc
            clear hvc
            by_cases hv0 : v = 0
            · have HV0 := Lib.hid hv0
              subst hv0
              have HN1 : Hid (∀ j, j < i + 1 → (f.testBit j && !U.testBit j) = true → countL m.ents.length (m.fits.drop (k + 1)) (U ||| 2 ^ j) = 0) := fun j hj hb => by
                rcases Nat.lt_succ_iff_lt_or_eq.1 hj with h | h
                · exact HV.out.1 j h (by rw [HGF.out]; exact hb)
                · rw [h, ← HTW.out]; exact HVC.out
              go_wp2_with fail
              go_roundw
              case rel => exact ⟨i + 1, by omega, by go_num, rfl, rfl, HN1.out, HS6.out, HK6.out, HO6.out⟩
              case measure => simp [intOf]; omega
            · have hvp : (0 : Int) < (v : Int) := by omega
              have HVP := Lib.hid (Nat.pos_of_ne_zero hv0)
              clear hv0
              go_upto_region 13 with fail
              refine wpIn_wide.1 (fst13 (k := k) (k1 := k + 1) (i := i) (u := U) (u1 := U ||| tw) (tw := tw) (c0 := q0.2) (g0 := q0.1) (R := FstS m.ents.length m.fits mb k i U tw q0 l w3) hw hi12 ?h0 ?a2 ?r3 ?a7 ?c8 ?hQ)
              case h0 => exact ⟨same_later HS6.out (Same.of_below (fun j => j = mb) (Below.refl _ w6).drew) (fun i e => .inl e), HK6.out.kept rfl, fun _ => own_below HO6.out (Below.refl _ w6).drew, by simp, by simp, by simp⟩
              case a2 =>
                intro f7 a q b v h
                have hb' := alloc_below v (.cells #[.int .i64 (i : Int)] 3)
                exact ⟨h.sm.alloc _, h.kn.kept (hb'.block _ h.kn.lt), fun _ => own_below (h.o rfl) hb', by simp, fun _ _ => World.alloc_heap_new v _, fun e => (hb'.block _ (heap_lt (h.b e))).trans (h.b e)⟩
              case r3 =>
                intro f7 a q b v h
                obtain ⟨q1, v', hr, ho, hg⟩ := app_int (by omega) h.sm.size (h.o rfl) (h.a rfl rfl)
                refine ⟨v', q1, hr, h.sm.grown hg (fun g hg2 => .inr (own_ty' (h.o rfl) hg2).1), h.kn.kept (hg.block _ h.kn.lt (fun e => ?_)), by simp, fun _ => ho, by simp, fun e => (hg.block _ (heap_lt (h.b e)) (fun e2 => ?_)).trans (h.b e)⟩
                · have := (own_ty' (h.o rfl) e.symm).1
                  have := HML.out
                  omega
                · obtain ⟨_, cur, hcur⟩ := own_ty' (h.o rfl) e2.symm
                  rw [h.b e] at hcur
                  simp only [Option.some.injEq, Obj.cells.injEq] at hcur
                  exact absurd hcur.2.1 (by decide)
              case a7 =>
                intro f2 f3 a q b v h
                have hb' := alloc_below v (.cells #[.int .u64 (U : Int), .int .u64 (tw : Int)] 71)
                exact ⟨h.sm.alloc _, h.kn.kept (hb'.block _ h.kn.lt), fun e => own_below (h.o e) hb', fun e => own_below (h.o2 e) hb', fun e e2 => (hb'.block _ (heap_lt (h.a e e2))).trans (h.a e e2), fun _ => World.alloc_heap_new v _⟩
              case c8 =>
                intro a q b v h
                refine (union25 (a := U) (c := tw) HFR.out.2.2 HTW2.out (h.b rfl)).mono ?_
                rintro e v' ⟨he, rfl⟩
                exact ⟨he, h.sm, h.kn, h.o, h.o2, h.a, h.b⟩
              intro a q1 b w7 h7
              have H7 := Lib.hid (And.intro h7.sm (And.intro h7.kn (h7.o2 rfl)))
              have HN : Hid (FirN m.ents.length m.fits (k + 1) (U ||| tw) (l ++ [i])) := by
                refine ⟨by simp [HW.out.1.ln], ?_, HUL.out, by rw [HVC.out]; exact HVP.out⟩
                rw [HW.out.1.eq, HDR.out, HGF.out, first_hit hil HBI.out (by rw [← HTW.out, HVC.out]; exact HVP.out) (fun j hj hb => HV.out.1 j hj (by rw [HGF.out]; exact hb)), HTW.out]
                simp
              clear h7
              rename_i K13 hK13
              refine hK13 _ _ ?_
              clear hK13 K13
              go_wp2_with fail
              go_roundw
              case rel => exact ⟨k + 1, U ||| tw, q1, l ++ [i], by omega, by go_num, rfl, rfl, HN.out, H7.out⟩
              case measure => simp [intOf]; omega
        · exfalso
          have hie : i = m.ents.length := by omega
          have hps := HW.out.1.ps
          rw [HDR.out] at hps
          obtain ⟨j, h1, h2, h3⟩ := first_some hps
          have := HV.out.1 j (by omega) h2
          omega
    · obtain rfl : k = m.cards.length := by omega
      go_wp2_with fail
      refine HK5.out _ _ ?_
      go_wp2_with fail
      simp only [Exit.noGoto]
      have HR : Hid (wo.ownsRow w.heap.size 3 1 (.slice q0.1 m.fits.length q0.2) m.fits.length (intL (firstL m.ents.length m.fits 0))) := by
        have h1 := HW.out.1.eq
        rw [show m.fits.drop m.cards.length = [] by rw [← HNC.out]; simp] at h1
        rw [Hid, h1, HNC.out, show l ++ firstL m.ents.length [] U = l by simp [firstL]]
        exact own_base HW.out.2.2.2 H3.out.2.1.size
      refine bodyPost_ret (results_tmp2 rfl _ _ _) rfl ⟨.inr ⟨HZ.out, q0, ?_, HR.out⟩, H3.out.2.1.trans (HW.out.2.1.below (n := w.heap.size) H3.out.2.1.size (fun j hj e => by have := H3.out.2.2; have := HL.out.size; omega))⟩
      rw [HNC.out]; rfl
end Go.Proofs.YtbnhngfegnhaiaaGreatDoor
namespace Go.Proofs.YtbnhngfegnhaiaaGreatDoor
open Go.RowKit
set_option linter.unusedVariables false
set_option linter.unusedSimpArgs false
theorem span20 (a b : Int) (w : World) : Calls Tryz.prog 20 #[.int .i64 a, .int .i64 b] w fun e w' => e = .returned (.agg #[.int .i64 a, .int .i64 b]) ∧ Below w.heap.size w w' := by
  have hA := World.alloc_heap_new w (.cells #[.int .i64 a, .int .i64 b] 47)
  have HB := Lib.hid (alloc_below w (.cells #[.int .i64 a, .int .i64 b] 47))
  have c0 : (w.alloc (.cells #[.int .i64 a, .int .i64 b] 47)).cell? ⟨w.heap.size, 0, none⟩ = some (.int .i64 a) := by rw [cell_of_heap hA]; rfl
  have c1 : (w.alloc (.cells #[.int .i64 a, .int .i64 b] 47)).cell? ⟨w.heap.size, 1, none⟩ = some (.int .i64 b) := by rw [cell_of_heap hA]; rfl
  have HC := Lib.hid (And.intro c0 c1)
  clear hA c0 c1
  go_enter Tryz.func20, Tryz.ntmps20
  go_wp2
  have hr : (results Tryz.f20 #[.int .i64 a, .int .i64 b, undef, undef, .pointer (some ⟨w.heap.size, 0, none⟩), .int .i64 a, .int .i64 b, .agg #[.int .i64 a, .int .i64 b]]).run Tryz.prog (w.alloc (.cells #[.int .i64 a, .int .i64 b] 47)) = .ok (.agg #[.int .i64 a, .int .i64 b]) (w.alloc (.cells #[.int .i64 a, .int .i64 b] 47)) := by
    have d0 := HC.out.1
    have d1 := HC.out.2
    simp [results, show Tryz.f20.results = #[.cell 4 47] from rfl, go_sem, d0, d1]
  exact bodyPost_ret hr rfl ⟨rfl, HB.out⟩
/-- A world with five more blocks. -/
theorem alloc5 (w : World) (o1 o2 o3 o4 o5 : Obj) : (((((w.alloc o1).alloc o2).alloc o3).alloc o4).alloc o5).heap[w.heap.size]? = some o1 ∧ (((((w.alloc o1).alloc o2).alloc o3).alloc o4).alloc o5).heap[w.heap.size + 1]? = some o2 ∧
    (((((w.alloc o1).alloc o2).alloc o3).alloc o4).alloc o5).heap[w.heap.size + 1 + 1]? = some o3 ∧ (((((w.alloc o1).alloc o2).alloc o3).alloc o4).alloc o5).heap[w.heap.size + 1 + 1 + 1]? = some o4 ∧ (((((w.alloc o1).alloc o2).alloc o3).alloc o4).alloc o5).heap[w.heap.size + 1 + 1 + 1 + 1]? = some o5 ∧
    Below w.heap.size w (((((w.alloc o1).alloc o2).alloc o3).alloc o4).alloc o5) := by
  obtain ⟨v1, h1⟩ : ∃ v, v = w.alloc o1 := ⟨_, rfl⟩
  obtain ⟨v2, h2⟩ : ∃ v, v = v1.alloc o2 := ⟨_, rfl⟩
  obtain ⟨v3, h3⟩ : ∃ v, v = v2.alloc o3 := ⟨_, rfl⟩
  obtain ⟨v4, h4⟩ : ∃ v, v = v3.alloc o4 := ⟨_, rfl⟩
  obtain ⟨v5, h5⟩ : ∃ v, v = v4.alloc o5 := ⟨_, rfl⟩
  have z1 : v1.heap.size = w.heap.size + 1 := by rw [h1]; exact World.size_alloc _ _
  have z2 : v2.heap.size = w.heap.size + 1 + 1 := by rw [h2, World.size_alloc, z1]
  have z3 : v3.heap.size = w.heap.size + 1 + 1 + 1 := by rw [h3, World.size_alloc, z2]
  have z4 : v4.heap.size = w.heap.size + 1 + 1 + 1 + 1 := by rw [h4, World.size_alloc, z3]
  have a1 : v1.heap[w.heap.size]? = some o1 := by rw [h1]; exact World.alloc_heap_new _ _
  have a2 : v2.heap[w.heap.size + 1]? = some o2 := by rw [h2, ← z1]; exact World.alloc_heap_new _ _
  have a3 : v3.heap[w.heap.size + 1 + 1]? = some o3 := by rw [h3, ← z2]; exact World.alloc_heap_new _ _
  have a4 : v4.heap[w.heap.size + 1 + 1 + 1]? = some o4 := by rw [h4, ← z3]; exact World.alloc_heap_new _ _
  have a5 : v5.heap[w.heap.size + 1 + 1 + 1 + 1]? = some o5 := by rw [h5, ← z4]; exact World.alloc_heap_new _ _
  have b1 : Below w.heap.size w v1 := by rw [h1]; exact alloc_below _ _
  have b2 : Below v1.heap.size v1 v2 := by rw [h2]; exact alloc_below _ _
  have b3 : Below v2.heap.size v2 v3 := by rw [h3]; exact alloc_below _ _
  have b4 : Below v3.heap.size v3 v4 := by rw [h4]; exact alloc_below _ _
  have b5 : Below v4.heap.size v4 v5 := by rw [h5]; exact alloc_below _ _
  have b45 : Below v3.heap.size v3 v5 := b4.trans (b5.mono b4.size)
  have b35 : Below v2.heap.size v2 v5 := b3.trans (b45.mono b3.size)
  have b25 : Below v1.heap.size v1 v5 := b2.trans (b35.mono b2.size)
  rw [← h1, ← h2, ← h3, ← h4, ← h5]
  exact ⟨(b25.block _ (by omega)).trans a1, (b35.block _ (by omega)).trans a2, (b45.block _ (by omega)).trans a3, (b5.block _ (by omega)).trans a4, a5, b1.trans (b25.mono b1.size)⟩
set_option maxRecDepth 100000 in
set_option maxHeartbeats 4000000 in
theorem heap18 (w : World) : Calls Tryz.prog 18 #[] w fun e w' => ∃ (ab : Option Addr) (cb : Nat) (ac : Option Addr) (cc : Nat), e = .returned (heap11.v ab cb ac cc) ∧ IsBxs w' ab heap11.boxes ∧ IsTns w' ac heap11.cards ∧ Below w.heap.size w w' := by
  go_enter Tryz.func18, Tryz.ntmps18
  go_wp2_with fail
  obtain ⟨a1, a2, a3, a4, a5, hb⟩ := alloc5 w (.cells #[.slice (some ⟨w.heap.size + 1 + 1 + 1, 0, none⟩) 2 2, .slice (some ⟨w.heap.size + 1 + 1 + 1 + 1, 0, none⟩) 3 3] 25) (.cells #[.string { data := #[102, 97, 108, 108, 115] }, .string { data := #[109, 105, 108, 108] }, .string { data := #[112, 97, 115, 115] }] 9)
    (.cells #[.string { data := #[109, 105, 108, 108] }, .string { data := #[108, 97, 107, 101] }] 9)
    (.cells #[.int .i64 1, .slice (some ⟨w.heap.size + 1, 0, none⟩) 3 3, .int .i64 2, .slice (some ⟨w.heap.size + 1 + 1, 0, none⟩) 2 2] 54)
    (.cells #[.int .i64 0, .string { data := #[63] }, .string { data := #[109, 105, 42] }, .int .i64 0, .string { data := #[42] }, .string { data := #[109, 105, 108, 108] }, .int .i64 0, .string { data := #[50] }, .string { data := #[63, 97, 42] }] 58)
  revert a1 a2 a3 a4 a5 hb
  generalize (((((w.alloc (.cells #[.slice (some ⟨w.heap.size + 1 + 1 + 1, 0, none⟩) 2 2, .slice (some ⟨w.heap.size + 1 + 1 + 1 + 1, 0, none⟩) 3 3] 25)).alloc (.cells #[.string { data := #[102, 97, 108, 108, 115] }, .string { data := #[109, 105, 108, 108] }, .string { data := #[112, 97, 115, 115] }] 9)).alloc
    (.cells #[.string { data := #[109, 105, 108, 108] }, .string { data := #[108, 97, 107, 101] }] 9)).alloc
    (.cells #[.int .i64 1, .slice (some ⟨w.heap.size + 1, 0, none⟩) 3 3, .int .i64 2, .slice (some ⟨w.heap.size + 1 + 1, 0, none⟩) 2 2] 54)).alloc
    (.cells #[.int .i64 0, .string { data := #[63] }, .string { data := #[109, 105, 42] }, .int .i64 0, .string { data := #[42] }, .string { data := #[109, 105, 108, 108] }, .int .i64 0, .string { data := #[50] }, .string { data := #[63, 97, 42] }] 58)) = w5
  intro a1 a2 a3 a4 a5 hb
  have c0 : w5.cell? ⟨w.heap.size, 0, none⟩ = some (.slice (some ⟨w.heap.size + 1 + 1 + 1, 0, none⟩) 2 2) := by rw [cell_of_heap a1]; rfl
  have c1 : w5.cell? ⟨w.heap.size, 1, none⟩ = some (.slice (some ⟨w.heap.size + 1 + 1 + 1 + 1, 0, none⟩) 3 3) := by rw [cell_of_heap a1]; rfl
  refine bodyPost_ret (v := .agg #[.slice (some ⟨w.heap.size + 1 + 1 + 1, 0, none⟩) 2 2, .slice (some ⟨w.heap.size + 1 + 1 + 1 + 1, 0, none⟩) 3 3]) ?_ rfl ⟨some ⟨w.heap.size + 1 + 1 + 1, 0, none⟩, 2, some ⟨w.heap.size + 1 + 1 + 1 + 1, 0, none⟩, 3, rfl, ?_, ?_, hb⟩
  · simp [results, show Tryz.f18.results = #[.cell 0 25] from rfl, go_sem, c0, c1]
  · intro i hi
    have hi2 : i = 0 ∨ i = 1 := by have : i < 2 := hi; omega
    refine ⟨_, 0, rfl, ?_⟩
    rcases hi2 with rfl | rfl
    · refine ⟨by rw [cell_of_heap a4]; rfl, some ⟨w.heap.size + 1, 0, none⟩, 3, by rw [cell_of_heap a4]; rfl, fun j hj => ⟨_, 0, rfl, ?_⟩⟩
      have hj2 : j = 0 ∨ j = 1 ∨ j = 2 := by have : j < 3 := hj; omega
      rcases hj2 with rfl | rfl | rfl <;> (rw [cell_of_heap a2]; rfl)
    · refine ⟨by rw [cell_of_heap a4]; rfl, some ⟨w.heap.size + 1 + 1, 0, none⟩, 2, by rw [cell_of_heap a4]; rfl, fun j hj => ⟨_, 0, rfl, ?_⟩⟩
      have hj2 : j = 0 ∨ j = 1 := by have : j < 2 := hj; omega
      rcases hj2 with rfl | rfl <;> (rw [cell_of_heap a3]; rfl)
  · intro i hi
    have hi2 : i = 0 ∨ i = 1 ∨ i = 2 := by have : i < 3 := hi; omega
    refine ⟨_, 0, rfl, ?_⟩
    rcases hi2 with rfl | rfl | rfl <;> exact ⟨by rw [cell_of_heap a5]; rfl, by rw [cell_of_heap a5]; rfl, by rw [cell_of_heap a5]; rfl⟩
end Go.Proofs.YtbnhngfegnhaiaaGreatDoor
namespace Go.Proofs.YtbnhngfegnhaiaaGreatDoor
open Go.RowKit
set_option linter.unusedVariables false
set_option linter.unusedSimpArgs false
noncomputable def int6C : Code := (Tryz.f19.body.bind (regionAt 6)).getD .skip
set_option maxRecDepth 100000 in
set_option maxHeartbeats 8000000 in
theorem int6 {ba oa bb ob n ca cb i : Nat} {x : Int} {P0 : World → Prop} {Q : Exit → Act → World → Prop} {W1 : World} (hi : (i : Int) < (n : Int)) (hi0 : (0 : Int) ≤ (i : Int)) (h0 : P0 W1.drew)
    (kl3 : Hid (∀ w : World, (P0 w) → w.cell? ⟨ba, oa + i, none⟩ = some (.int .i64 (x))))
    (kl7 : Hid (∀ w : World, (P0 w) → w.cell? ⟨bb, ob + i, none⟩ = some (.int .i64 (x))))
    {s2 s3 s4 s6 s7 s8 s9 s10 s11 s12 s13 s14 s15 s16 s17 s18 s19 s20 s21 s22 s23 s24 s25 : Value} {dd : List Deferred}
    (hQ : ∀ w' : World, P0 w' → Q .normal { tmps := List.toArray (.slice (some ⟨ba, oa, none⟩) n ca :: .slice (some ⟨bb, ob, none⟩) n cb :: s2 :: s3 :: s4 :: .int .i64 ((i : Int)) :: s6 :: s7 :: s8 :: s9 :: s10 :: s11 :: s12 :: s13 :: s14 :: s15 :: s16 :: .slice (some ⟨ba, oa, none⟩) n ca :: .int .i64 ((i : Int)) :: .pointer (some ⟨ba, oa + i, none⟩) :: .int .i64 (x) :: .slice (some ⟨bb, ob, none⟩) n cb :: .int .i64 ((i : Int)) :: .pointer (some ⟨bb, ob + i, none⟩) :: .int .i64 (x) :: .bool false :: []),defers := dd } w') :
    Code.wpIn (wideAt none) 0 Tryz.prog int6C Q { tmps := List.toArray (.slice (some ⟨ba, oa, none⟩) n ca :: .slice (some ⟨bb, ob, none⟩) n cb :: s2 :: s3 :: s4 :: .int .i64 ((i : Int)) :: s6 :: s7 :: s8 :: s9 :: s10 :: s11 :: s12 :: s13 :: s14 :: s15 :: s16 :: s17 :: s18 :: s19 :: s20 :: s21 :: s22 :: s23 :: s24 :: s25 :: []),defers := dd } W1 := by
  have HQ := Lib.hid hQ
  clear hQ
  conv => arg 4; whnf
  refine wpIn_region_invG mixed (by kernel_rfl) (fun d_ a_ w' => a_ = { tmps := List.toArray (.slice (some ⟨ba, oa, none⟩) n ca :: .slice (some ⟨bb, ob, none⟩) n cb :: s2 :: s3 :: s4 :: .int .i64 ((i : Int)) :: s6 :: s7 :: s8 :: s9 :: s10 :: s11 :: s12 :: s13 :: s14 :: s15 :: s16 :: pk (d_ 0) (.slice (some ⟨ba, oa, none⟩) n ca) s17 :: pk (d_ 1) (.int .i64 ((i : Int))) s18 :: pk (d_ 2) (.pointer (some ⟨ba, oa + i, none⟩)) s19 :: pk (d_ 3) (.int .i64 (x)) s20 :: pk (d_ 4) (.slice (some ⟨bb, ob, none⟩) n cb) s21 :: pk (d_ 5) (.int .i64 ((i : Int))) s22 :: pk (d_ 6) (.pointer (some ⟨bb, ob + i, none⟩)) s23 :: pk (d_ 7) (.int .i64 (x)) s24 :: pk (d_ 8) (.bool false) s25 :: []),defers := dd } ∧ P0 w') ?_ ?_ ?_
  · exact ⟨rfl, h0⟩
  · refine ⟨?_,?_,?_,?_,?_,?_,?_,?_,?_, trivial⟩
    all_goals
      rintro d_ a_ w1 K hd_ hdep ⟨rfl, F⟩ HK
      simp [Region.binds] at hdep
    · have HF := Lib.hid F
      clear F hdep
      go_simp
      refine HK.out _ _ ⟨?_, HF.out⟩
      all_goals rfl
    · have HF := Lib.hid F
      clear F hdep
      go_simp
      refine HK.out _ _ ⟨?_, HF.out⟩
      all_goals rfl
    · have q0 : d_ 0 = true := by simp [hdep]
      have q1 : d_ 1 = true := by simp [hdep]
      have hi2 := hi
      have hi3 := hi0
      rw [pk_of q0, pk_of q1]
      have HF := Lib.hid F
      clear F hdep
      go_simp
      refine HK.out _ _ ⟨?_, HF.out⟩
      rw [pk_of (show upd d_ 2 0 = true from q0), pk_of (show upd d_ 2 1 = true from q1)]
      all_goals rfl
    · have q2 : d_ 2 = true := by simp [hdep]
      have kk := kl3.out w1 (F)
      rw [pk_of q2]
      have HF := Lib.hid F
      clear F hdep
      go_simp
      refine HK.out _ _ ⟨?_, HF.out⟩
      rw [pk_of (show upd d_ 3 2 = true from q2)]
      all_goals rfl
    · have HF := Lib.hid F
      clear F hdep
      go_simp
      refine HK.out _ _ ⟨?_, HF.out⟩
      all_goals rfl
    · have HF := Lib.hid F
      clear F hdep
      go_simp
      refine HK.out _ _ ⟨?_, HF.out⟩
      all_goals rfl
    · have q4 : d_ 4 = true := by simp [hdep]
      have q5 : d_ 5 = true := by simp [hdep]
      have hi2 := hi
      have hi3 := hi0
      rw [pk_of q4, pk_of q5]
      have HF := Lib.hid F
      clear F hdep
      go_simp
      refine HK.out _ _ ⟨?_, HF.out⟩
      rw [pk_of (show upd d_ 6 4 = true from q4), pk_of (show upd d_ 6 5 = true from q5)]
      all_goals rfl
    · have q6 : d_ 6 = true := by simp [hdep]
      have kk := kl7.out w1 (F)
      rw [pk_of q6]
      have HF := Lib.hid F
      clear F hdep
      go_simp
      refine HK.out _ _ ⟨?_, HF.out⟩
      rw [pk_of (show upd d_ 7 6 = true from q6)]
      all_goals rfl
    · have q3 : d_ 3 = true := by simp [hdep]
      have q7 : d_ 7 = true := by simp [hdep]
      rw [pk_of q3, pk_of q7]
      have HF := Lib.hid F
      clear F hdep
      go_simp
      refine HK.out _ _ ⟨?_, HF.out⟩
      rw [pk_of (show upd d_ 8 3 = true from q3), pk_of (show upd d_ 8 7 = true from q7)]
      all_goals rfl
  · rintro d_ a_ w1 hall ⟨rfl, F⟩
    have hall' : ∀ k, k < 9 → d_ k = true := hall
    have HF := Lib.hid F
    clear F
    rw [pk_of (hall' 0 (by decide)), pk_of (hall' 1 (by decide)), pk_of (hall' 2 (by decide)), pk_of (hall' 3 (by decide)), pk_of (hall' 4 (by decide)), pk_of (hall' 5 (by decide)), pk_of (hall' 6 (by decide)), pk_of (hall' 7 (by decide)), pk_of (hall' 8 (by decide))]
    exact HQ.out w1 HF.out
set_option maxRecDepth 100000 in
set_option maxHeartbeats 4000000 in
theorem ints19 {a b : Option Addr} {ca cb : Nat} {l : List Int} {w : World} (h1 : IsInts w a l) (h2 : IsInts w b l) (hl : l.length ≤ 100) :
    Calls Tryz.prog 19 #[.slice a l.length ca, .slice b l.length cb] w fun e w' => e = .returned (.bool true) ∧ Below w.heap.size w w' := by
  have HA := Lib.hid (And.intro h1 h2)
  clear h1 h2
  go_enter Tryz.func19, Tryz.ntmps19
  refine wp_seq_hid ?_
  intro K0 HK0
  go_wp2_with fail
  refine HK0.out _ _ ?_
  clear HK0 K0
  refine wp_seq_hid ?_
  intro K1 HK1
  go_wp2_with fail
  refine HK1.out _ _ ?_
  clear HK1 K1
  refine wp_seq_hid ?_
  intro K2 HK2
  go_wp2_with fail
  go_loopw [5] (fun j wr => ∃ i : Nat, i ≤ l.length ∧ j = .int .i64 (i : Int) ∧ Hid (Below w.heap.size w wr)) (fun j _ => l.length - (intOf j).toNat)
  case atStart => exact ⟨0, Nat.zero_le _, rfl, Below.refl _ _⟩
  case round =>
    obtain ⟨i, hi, rfl, HW⟩ := hrel
    rename World => wo
    by_cases hlt : i < l.length
    · obtain ⟨ba, oa, ha, c1⟩ := HA.out.1 i hlt
      obtain ⟨bb, ob, hb, c2⟩ := HA.out.2 i hlt
      have HC := Lib.hid (And.intro (cell_stays HW.out c1) (cell_stays HW.out c2))
      subst ha hb
      clear c1 c2
      go_upto_region 6 with fail
      refine wpIn_wide.1 (int6 (ba := ba) (oa := oa) (bb := bb) (ob := ob) (n := l.length) (ca := ca) (cb := cb) (i := i) (x := gi l i) (P0 := fun v => v = wo.drew) (by omega) (by omega) rfl ?l3 ?l7 ?hQ)
      case l3 => rintro v rfl; exact HC.out.1
      case l7 => rintro v rfl; exact HC.out.2
      intro w' hw'
      have HB : Hid (Below w.heap.size w w') := by rw [hw']; exact HW.out.drew
      clear hw'
      rename_i K6 hK6
      refine hK6 _ _ ?_
      clear hK6 K6
      go_wp2_with fail
      go_roundw
      case rel => exact ⟨i + 1, by omega, by go_num, HB.out⟩
      case measure => simp [intOf]; omega
    · obtain rfl : i = l.length := by omega
      go_wp2_with fail
      refine HK2.out _ _ ?_
      go_wp2_with fail
      go_ret
      exact ⟨rfl, HW.out⟩
noncomputable def awk3C : Code := (Tryz.f5.body.bind (regionAt 3)).getD .skip
set_option maxRecDepth 100000 in
set_option maxHeartbeats 8000000 in
theorem awk3 {sp c1 : Nat} {g : Option Addr} {R : Bool → Bool → Bool → Nat → World → Prop} {Q : Exit → Act → World → Prop} {W1 : World}  (h0 : R false false false 0 W1.drew)
    (ka1 : Hid (∀  (a : Nat) (w : World), R false false false a w → R true false false w.heap.size (w.alloc (.cells #[.int .i64 (1), .int .i64 (3), .int .i64 (4)] 3))))
    (kc2 : Hid (∀  (a : Nat) (w : World), R true false false a w → Calls Tryz.prog 19 #[.slice g 3 c1, .slice (some ⟨a, 0, none⟩) 3 3] w fun e w' => e = .returned (.bool true) ∧ R true true false a w'))
    (kl8 : Hid (∀ (f9_ : Bool) (a : Nat) (w : World), R true true f9_ a w → w.cell? ⟨sp, 0, none⟩ = some (.int .i64 (0)) ∧ w.cell? ⟨sp, 1, none⟩ = some (.int .i64 (1))))
    (kc9 : Hid (∀  (a : Nat) (w : World), R true true false a w → Calls Tryz.prog 20 #[.int .i64 (0), .int .i64 (1)] w fun e w' => e = .returned (.agg #[.int .i64 0, .int .i64 1]) ∧ R true true true a w'))
    {s0 s5 s6 s7 s8 s9 s10 s11 s12 s13 s14 s15 s16 s17 s18 s19 s20 s21 s22 s23 s24 s25 s26 s27 s28 s29 s30 s31 s32 s33 s34 s35 s36 : Value} {dd : List Deferred}
    (hQ : ∀ (a : Nat) (w' : World), R true true true a w' → Q .normal { tmps := List.toArray (.bool true :: .slice g 3 c1 :: .int .i64 (0) :: .pointer (some ⟨sp, 0, none⟩) :: .int .i64 (0) :: s5 :: s6 :: s7 :: s8 :: s9 :: s10 :: s11 :: s12 :: s13 :: s14 :: s15 :: s16 :: s17 :: s18 :: s19 :: s20 :: .slice g 3 c1 :: .slice (some ⟨a, 0, none⟩) 3 3 :: .bool true :: .bool true :: .int .i64 (0) :: .bool true :: .bool true :: .bool true :: .agg #[.int .i64 0, .int .i64 1] :: .agg #[.int .i64 0, .int .i64 1] :: .bool true :: .bool true :: .bool true :: .int .i64 (0) :: .bool true :: .bool true :: []),defers := dd } w') :
    Code.wpIn (wideAt none) 0 Tryz.prog awk3C Q { tmps := List.toArray (s0 :: .slice g 3 c1 :: .int .i64 (0) :: .pointer (some ⟨sp, 0, none⟩) :: .int .i64 (0) :: s5 :: s6 :: s7 :: s8 :: s9 :: s10 :: s11 :: s12 :: s13 :: s14 :: s15 :: s16 :: s17 :: s18 :: s19 :: s20 :: s21 :: s22 :: s23 :: s24 :: s25 :: s26 :: s27 :: s28 :: s29 :: s30 :: s31 :: s32 :: s33 :: s34 :: s35 :: s36 :: []),defers := dd } W1 := by
  have HQ := Lib.hid hQ
  clear hQ
  conv => arg 4; whnf
  refine wpIn_region_invG mixed (by kernel_rfl) (fun d_ a_ w' => ∃ (a : Nat), a_ = { tmps := List.toArray (pk (d_ 16) (.bool true) s0 :: .slice g 3 c1 :: .int .i64 (0) :: .pointer (some ⟨sp, 0, none⟩) :: .int .i64 (0) :: s5 :: s6 :: s7 :: s8 :: s9 :: s10 :: s11 :: s12 :: s13 :: s14 :: s15 :: s16 :: s17 :: s18 :: s19 :: s20 :: pk (d_ 0) (.slice g 3 c1) s21 :: pk (d_ 1) (.slice (some ⟨a, 0, none⟩) 3 3) s22 :: pk (d_ 2) (.bool true) s23 :: pk (d_ 3) (.bool true) s24 :: pk (d_ 4) (.int .i64 (0)) s25 :: pk (d_ 5) (.bool true) s26 :: pk (d_ 6) (.bool true) s27 :: pk (d_ 7) (.bool true) s28 :: pk (d_ 8) (.agg #[.int .i64 0, .int .i64 1]) s29 :: pk (d_ 9) (.agg #[.int .i64 0, .int .i64 1]) s30 :: pk (d_ 10) (.bool true) s31 :: pk (d_ 11) (.bool true) s32 :: pk (d_ 12) (.bool true) s33 :: pk (d_ 13) (.int .i64 (0)) s34 :: pk (d_ 14) (.bool true) s35 :: pk (d_ 15) (.bool true) s36 :: []),defers := dd } ∧ R (d_ 1) (d_ 2) (d_ 9) a w' ∧ OrdP [[], [], [0, 1], [2], [3], [3, 4], [3, 5], [3, 6], [7], [7], [7, 8, 9], [7, 10], [9, 11], [12], [12, 13], [12, 14], [0, 1, 2, 3, 4, 5, 6, 7, 8, 9, 10, 11, 12, 13, 14, 15]] d_) ?_ ?_ ?_
  · exact ⟨0, rfl, h0, fun k h => by cases h⟩
  · refine ⟨?_,?_,?_,?_,?_,?_,?_,?_,?_,?_,?_,?_,?_,?_,?_,?_,?_, trivial⟩
    all_goals
      rintro d_ a_ w1 K hd_ hdep ⟨a, rfl, F, O⟩ HK
      simp [Region.binds] at hdep
    · have HO : Hid (OrdP [[], [], [0, 1], [2], [3], [3, 4], [3, 5], [3, 6], [7], [7], [7, 8, 9], [7, 10], [9, 11], [12], [12, 13], [12, 14], [0, 1, 2, 3, 4, 5, 6, 7, 8, 9, 10, 11, 12, 13, 14, 15]] (upd d_ 0)) := O.step (show ∀ e ∈ ([] : List Nat), d_ e = true by simp [hdep])
      have n2_ : d_ 2 = false := by
        cases e_ : d_ 2 with
        | false => rfl
        | true => have h2 := (O 2 e_ 0 (by decide)); rw [show d_ 0 = false from hd_] at h2; cases h2
      have n9_ : d_ 9 = false := by
        cases e_ : d_ 9 with
        | false => rfl
        | true => have h2 := (O 2 (O 3 (O 7 (O 9 e_ 7 (by decide)) 3 (by decide)) 2 (by decide)) 0 (by decide)); rw [show d_ 0 = false from hd_] at h2; cases h2
      have F2 := F
      rw [n2_] at F2
      rw [n9_] at F2
      clear O
      clear n2_ n9_
      have HF := Lib.hid F
      clear F F2 hdep
      go_simp
      refine HK.out _ _ ⟨a, ?_, HF.out, HO.out⟩
      all_goals rfl
    · have HO : Hid (OrdP [[], [], [0, 1], [2], [3], [3, 4], [3, 5], [3, 6], [7], [7], [7, 8, 9], [7, 10], [9, 11], [12], [12, 13], [12, 14], [0, 1, 2, 3, 4, 5, 6, 7, 8, 9, 10, 11, 12, 13, 14, 15]] (upd d_ 1)) := O.step (show ∀ e ∈ ([] : List Nat), d_ e = true by simp [hdep])
      have n2_ : d_ 2 = false := by
        cases e_ : d_ 2 with
        | false => rfl
        | true => have h2 := (O 2 e_ 1 (by decide)); rw [show d_ 1 = false from hd_] at h2; cases h2
      have n9_ : d_ 9 = false := by
        cases e_ : d_ 9 with
        | false => rfl
        | true => have h2 := (O 2 (O 3 (O 7 (O 9 e_ 7 (by decide)) 3 (by decide)) 2 (by decide)) 1 (by decide)); rw [show d_ 1 = false from hd_] at h2; cases h2
      have F2 := F
      rw [show d_ 1 = false from hd_] at F2
      rw [n2_] at F2
      rw [n9_] at F2
      clear O
      have HR : Hid (∀ (a : Nat) (w : World), R true false false a w → R (upd d_ 1 1) (upd d_ 1 2) (upd d_ 1 9) a w) := fun a w h => by
        rw [show upd d_ 1 2 = false from n2_, show upd d_ 1 9 = false from n9_]
        exact h
      clear n2_ n9_
      have HG := Lib.hid (ka1.out a w1 F2)
      clear F F2 hdep
      go_simp
      refine HK.out _ _ ⟨_, ?_, HR.out _ _ HG.out, HO.out⟩
      all_goals rfl
    · have HO : Hid (OrdP [[], [], [0, 1], [2], [3], [3, 4], [3, 5], [3, 6], [7], [7], [7, 8, 9], [7, 10], [9, 11], [12], [12, 13], [12, 14], [0, 1, 2, 3, 4, 5, 6, 7, 8, 9, 10, 11, 12, 13, 14, 15]] (upd d_ 2)) := O.step (show ∀ e ∈ ([0, 1] : List Nat), d_ e = true by simp [hdep])
      have q0 : d_ 0 = true := (show d_ 0 = true by simp [hdep])
      have q1 : d_ 1 = true := (show d_ 1 = true by simp [hdep])
      have n9_ : d_ 9 = false := by
        cases e_ : d_ 9 with
        | false => rfl
        | true => have h2 := (O 3 (O 7 (O 9 e_ 7 (by decide)) 3 (by decide)) 2 (by decide)); rw [show d_ 2 = false from hd_] at h2; cases h2
      have F2 := F
      rw [q1] at F2
      rw [show d_ 2 = false from hd_] at F2
      rw [n9_] at F2
      clear O
      have HR : Hid (∀ (a : Nat) (w : World), R true true false a w → R (upd d_ 2 1) (upd d_ 2 2) (upd d_ 2 9) a w) := fun a w h => by
        rw [show upd d_ 2 1 = true from q1, show upd d_ 2 9 = false from n9_]
        exact h
      clear n9_
      rw [pk_of q0, pk_of q1]
      have hc := kc2.out a w1 F2
      clear F F2 hdep
      go_simp
      refine ⟨trivial, rfl, wideAt_calls (hc.mono ?_)⟩
      rintro e w5 ⟨rfl, HG⟩
      have HG := Lib.hid HG
      refine HK.out _ _ ⟨a, ?_, HR.out _ _ HG.out, HO.out⟩
      rw [pk_of (show upd d_ 2 0 = true from q0), pk_of (show upd d_ 2 1 = true from q1)]
      all_goals rfl
    · have HO : Hid (OrdP [[], [], [0, 1], [2], [3], [3, 4], [3, 5], [3, 6], [7], [7], [7, 8, 9], [7, 10], [9, 11], [12], [12, 13], [12, 14], [0, 1, 2, 3, 4, 5, 6, 7, 8, 9, 10, 11, 12, 13, 14, 15]] (upd d_ 3)) := O.step (show ∀ e ∈ ([2] : List Nat), d_ e = true by simp [hdep])
      have q2 : d_ 2 = true := (show d_ 2 = true by simp [hdep])
      have y1_ : d_ 1 = true := (O 2 (show d_ 2 = true by simp [hdep]) 1 (by decide))
      have n9_ : d_ 9 = false := by
        cases e_ : d_ 9 with
        | false => rfl
        | true => have h2 := (O 7 (O 9 e_ 7 (by decide)) 3 (by decide)); rw [show d_ 3 = false from hd_] at h2; cases h2
      have F2 := F
      rw [y1_] at F2
      rw [q2] at F2
      rw [n9_] at F2
      clear O
      clear n9_ y1_
      rw [pk_of q2]
      have HF := Lib.hid F
      clear F F2 hdep
      go_simp
      refine HK.out _ _ ⟨a, ?_, HF.out, HO.out⟩
      rw [pk_of (show upd d_ 3 2 = true from q2)]
      all_goals rfl
    · have HO : Hid (OrdP [[], [], [0, 1], [2], [3], [3, 4], [3, 5], [3, 6], [7], [7], [7, 8, 9], [7, 10], [9, 11], [12], [12, 13], [12, 14], [0, 1, 2, 3, 4, 5, 6, 7, 8, 9, 10, 11, 12, 13, 14, 15]] (upd d_ 4)) := O.step (show ∀ e ∈ ([3] : List Nat), d_ e = true by simp [hdep])
      have q3 : d_ 3 = true := (show d_ 3 = true by simp [hdep])
      have y1_ : d_ 1 = true := (O 2 (O 3 (show d_ 3 = true by simp [hdep]) 2 (by decide)) 1 (by decide))
      have y2_ : d_ 2 = true := (O 3 (show d_ 3 = true by simp [hdep]) 2 (by decide))
      have n9_ : d_ 9 = false := by
        cases e_ : d_ 9 with
        | false => rfl
        | true => have h2 := (O 5 (O 6 (O 7 (O 9 e_ 7 (by decide)) 6 (by decide)) 5 (by decide)) 4 (by decide)); rw [show d_ 4 = false from hd_] at h2; cases h2
      have F2 := F
      rw [y1_] at F2
      rw [y2_] at F2
      rw [n9_] at F2
      clear O
      clear n9_ y1_ y2_
      rw [pk_of q3]
      have HF := Lib.hid F
      clear F F2 hdep
      go_simp
      refine HK.out _ _ ⟨a, ?_, HF.out, HO.out⟩
      rw [pk_of (show upd d_ 4 3 = true from q3)]
      all_goals rfl
    · have HO : Hid (OrdP [[], [], [0, 1], [2], [3], [3, 4], [3, 5], [3, 6], [7], [7], [7, 8, 9], [7, 10], [9, 11], [12], [12, 13], [12, 14], [0, 1, 2, 3, 4, 5, 6, 7, 8, 9, 10, 11, 12, 13, 14, 15]] (upd d_ 5)) := O.step (show ∀ e ∈ ([3, 4] : List Nat), d_ e = true by simp [hdep])
      have q3 : d_ 3 = true := (show d_ 3 = true by simp [hdep])
      have q4 : d_ 4 = true := (show d_ 4 = true by simp [hdep])
      have y1_ : d_ 1 = true := (O 2 (O 3 (show d_ 3 = true by simp [hdep]) 2 (by decide)) 1 (by decide))
      have y2_ : d_ 2 = true := (O 3 (show d_ 3 = true by simp [hdep]) 2 (by decide))
      have n9_ : d_ 9 = false := by
        cases e_ : d_ 9 with
        | false => rfl
        | true => have h2 := (O 6 (O 7 (O 9 e_ 7 (by decide)) 6 (by decide)) 5 (by decide)); rw [show d_ 5 = false from hd_] at h2; cases h2
      have F2 := F
      rw [y1_] at F2
      rw [y2_] at F2
      rw [n9_] at F2
      clear O
      clear n9_ y1_ y2_
      rw [pk_of q3, pk_of q4]
      have HF := Lib.hid F
      clear F F2 hdep
      go_simp
      refine HK.out _ _ ⟨a, ?_, HF.out, HO.out⟩
      rw [pk_of (show upd d_ 5 3 = true from q3), pk_of (show upd d_ 5 4 = true from q4)]
      all_goals rfl
    · have HO : Hid (OrdP [[], [], [0, 1], [2], [3], [3, 4], [3, 5], [3, 6], [7], [7], [7, 8, 9], [7, 10], [9, 11], [12], [12, 13], [12, 14], [0, 1, 2, 3, 4, 5, 6, 7, 8, 9, 10, 11, 12, 13, 14, 15]] (upd d_ 6)) := O.step (show ∀ e ∈ ([3, 5] : List Nat), d_ e = true by simp [hdep])
      have q3 : d_ 3 = true := (show d_ 3 = true by simp [hdep])
      have q5 : d_ 5 = true := (show d_ 5 = true by simp [hdep])
      have y1_ : d_ 1 = true := (O 2 (O 3 (show d_ 3 = true by simp [hdep]) 2 (by decide)) 1 (by decide))
      have y2_ : d_ 2 = true := (O 3 (show d_ 3 = true by simp [hdep]) 2 (by decide))
      have n9_ : d_ 9 = false := by
        cases e_ : d_ 9 with
        | false => rfl
        | true => have h2 := (O 7 (O 9 e_ 7 (by decide)) 6 (by decide)); rw [show d_ 6 = false from hd_] at h2; cases h2
      have F2 := F
      rw [y1_] at F2
      rw [y2_] at F2
      rw [n9_] at F2
      clear O
      clear n9_ y1_ y2_
      rw [pk_of q3, pk_of q5]
      have HF := Lib.hid F
      clear F F2 hdep
      go_simp
      refine HK.out _ _ ⟨a, ?_, HF.out, HO.out⟩
      rw [pk_of (show upd d_ 6 3 = true from q3), pk_of (show upd d_ 6 5 = true from q5)]
      all_goals rfl
    · have HO : Hid (OrdP [[], [], [0, 1], [2], [3], [3, 4], [3, 5], [3, 6], [7], [7], [7, 8, 9], [7, 10], [9, 11], [12], [12, 13], [12, 14], [0, 1, 2, 3, 4, 5, 6, 7, 8, 9, 10, 11, 12, 13, 14, 15]] (upd d_ 7)) := O.step (show ∀ e ∈ ([3, 6] : List Nat), d_ e = true by simp [hdep])
      have q6 : d_ 6 = true := (show d_ 6 = true by simp [hdep])
      have y1_ : d_ 1 = true := (O 2 (O 3 (show d_ 3 = true by simp [hdep]) 2 (by decide)) 1 (by decide))
      have y2_ : d_ 2 = true := (O 3 (show d_ 3 = true by simp [hdep]) 2 (by decide))
      have n9_ : d_ 9 = false := by
        cases e_ : d_ 9 with
        | false => rfl
        | true => have h2 := (O 9 e_ 7 (by decide)); rw [show d_ 7 = false from hd_] at h2; cases h2
      have F2 := F
      rw [y1_] at F2
      rw [y2_] at F2
      rw [n9_] at F2
      clear O
      clear n9_ y1_ y2_
      rw [pk_of q6]
      have HF := Lib.hid F
      clear F F2 hdep
      go_simp
      refine HK.out _ _ ⟨a, ?_, HF.out, HO.out⟩
      rw [pk_of (show upd d_ 7 6 = true from q6)]
      all_goals rfl
    · have HO : Hid (OrdP [[], [], [0, 1], [2], [3], [3, 4], [3, 5], [3, 6], [7], [7], [7, 8, 9], [7, 10], [9, 11], [12], [12, 13], [12, 14], [0, 1, 2, 3, 4, 5, 6, 7, 8, 9, 10, 11, 12, 13, 14, 15]] (upd d_ 8)) := O.step (show ∀ e ∈ ([7] : List Nat), d_ e = true by simp [hdep])
      have q7 : d_ 7 = true := (show d_ 7 = true by simp [hdep])
      have y1_ : d_ 1 = true := (O 2 (O 3 (O 7 (show d_ 7 = true by simp [hdep]) 3 (by decide)) 2 (by decide)) 1 (by decide))
      have y2_ : d_ 2 = true := (O 3 (O 7 (show d_ 7 = true by simp [hdep]) 3 (by decide)) 2 (by decide))
      have F2 := F
      rw [y1_] at F2
      rw [y2_] at F2
      have kk := kl8.out _ a w1 F2
      obtain ⟨kk0, kk1⟩ := kk
      clear O
      clear y1_ y2_
      rw [pk_of q7]
      have HF := Lib.hid F
      clear F F2 hdep
      go_simp
      refine HK.out _ _ ⟨a, ?_, HF.out, HO.out⟩
      rw [pk_of (show upd d_ 8 7 = true from q7)]
      all_goals rfl
    · have HO : Hid (OrdP [[], [], [0, 1], [2], [3], [3, 4], [3, 5], [3, 6], [7], [7], [7, 8, 9], [7, 10], [9, 11], [12], [12, 13], [12, 14], [0, 1, 2, 3, 4, 5, 6, 7, 8, 9, 10, 11, 12, 13, 14, 15]] (upd d_ 9)) := O.step (show ∀ e ∈ ([7] : List Nat), d_ e = true by simp [hdep])
      have q7 : d_ 7 = true := (show d_ 7 = true by simp [hdep])
      have y1_ : d_ 1 = true := (O 2 (O 3 (O 7 (show d_ 7 = true by simp [hdep]) 3 (by decide)) 2 (by decide)) 1 (by decide))
      have y2_ : d_ 2 = true := (O 3 (O 7 (show d_ 7 = true by simp [hdep]) 3 (by decide)) 2 (by decide))
      have F2 := F
      rw [y1_] at F2
      rw [y2_] at F2
      rw [show d_ 9 = false from hd_] at F2
      clear O
      have HR : Hid (∀ (a : Nat) (w : World), R true true true a w → R (upd d_ 9 1) (upd d_ 9 2) (upd d_ 9 9) a w) := fun a w h => by
        rw [show upd d_ 9 1 = true from y1_, show upd d_ 9 2 = true from y2_]
        exact h
      clear y1_ y2_
      rw [pk_of q7]
      have hc := kc9.out a w1 F2
      clear F F2 hdep
      go_simp
      refine ⟨trivial, rfl, wideAt_calls (hc.mono ?_)⟩
      rintro e w5 ⟨rfl, HG⟩
      have HG := Lib.hid HG
      refine HK.out _ _ ⟨a, ?_, HR.out _ _ HG.out, HO.out⟩
      rw [pk_of (show upd d_ 9 7 = true from q7)]
      all_goals rfl
    · have HO : Hid (OrdP [[], [], [0, 1], [2], [3], [3, 4], [3, 5], [3, 6], [7], [7], [7, 8, 9], [7, 10], [9, 11], [12], [12, 13], [12, 14], [0, 1, 2, 3, 4, 5, 6, 7, 8, 9, 10, 11, 12, 13, 14, 15]] (upd d_ 10)) := O.step (show ∀ e ∈ ([7, 8, 9] : List Nat), d_ e = true by simp [hdep])
      have q7 : d_ 7 = true := (show d_ 7 = true by simp [hdep])
      have q8 : d_ 8 = true := (show d_ 8 = true by simp [hdep])
      have q9 : d_ 9 = true := (show d_ 9 = true by simp [hdep])
      have y1_ : d_ 1 = true := (O 2 (O 3 (O 7 (show d_ 7 = true by simp [hdep]) 3 (by decide)) 2 (by decide)) 1 (by decide))
      have y2_ : d_ 2 = true := (O 3 (O 7 (show d_ 7 = true by simp [hdep]) 3 (by decide)) 2 (by decide))
      have F2 := F
      rw [y1_] at F2
      rw [y2_] at F2
      rw [q9] at F2
      clear O
      clear y1_ y2_
      rw [pk_of q7, pk_of q8, pk_of q9]
      have HF := Lib.hid F
      clear F F2 hdep
      go_simp
      refine HK.out _ _ ⟨a, ?_, HF.out, HO.out⟩
      rw [pk_of (show upd d_ 10 7 = true from q7), pk_of (show upd d_ 10 8 = true from q8), pk_of (show upd d_ 10 9 = true from q9)]
      all_goals rfl
    · have HO : Hid (OrdP [[], [], [0, 1], [2], [3], [3, 4], [3, 5], [3, 6], [7], [7], [7, 8, 9], [7, 10], [9, 11], [12], [12, 13], [12, 14], [0, 1, 2, 3, 4, 5, 6, 7, 8, 9, 10, 11, 12, 13, 14, 15]] (upd d_ 11)) := O.step (show ∀ e ∈ ([7, 10] : List Nat), d_ e = true by simp [hdep])
      have q7 : d_ 7 = true := (show d_ 7 = true by simp [hdep])
      have q10 : d_ 10 = true := (show d_ 10 = true by simp [hdep])
      have y1_ : d_ 1 = true := (O 2 (O 3 (O 7 (show d_ 7 = true by simp [hdep]) 3 (by decide)) 2 (by decide)) 1 (by decide))
      have y2_ : d_ 2 = true := (O 3 (O 7 (show d_ 7 = true by simp [hdep]) 3 (by decide)) 2 (by decide))
      have y9_ : d_ 9 = true := (O 10 (show d_ 10 = true by simp [hdep]) 9 (by decide))
      have F2 := F
      rw [y1_] at F2
      rw [y2_] at F2
      rw [y9_] at F2
      clear O
      clear y1_ y2_ y9_
      rw [pk_of q7, pk_of q10]
      have HF := Lib.hid F
      clear F F2 hdep
      go_simp
      refine HK.out _ _ ⟨a, ?_, HF.out, HO.out⟩
      rw [pk_of (show upd d_ 11 7 = true from q7), pk_of (show upd d_ 11 10 = true from q10)]
      all_goals rfl
    · have HO : Hid (OrdP [[], [], [0, 1], [2], [3], [3, 4], [3, 5], [3, 6], [7], [7], [7, 8, 9], [7, 10], [9, 11], [12], [12, 13], [12, 14], [0, 1, 2, 3, 4, 5, 6, 7, 8, 9, 10, 11, 12, 13, 14, 15]] (upd d_ 12)) := O.step (show ∀ e ∈ ([9, 11] : List Nat), d_ e = true by simp [hdep])
      have q11 : d_ 11 = true := (show d_ 11 = true by simp [hdep])
      have y1_ : d_ 1 = true := (O 2 (O 3 (O 7 (O 9 (show d_ 9 = true by simp [hdep]) 7 (by decide)) 3 (by decide)) 2 (by decide)) 1 (by decide))
      have y2_ : d_ 2 = true := (O 3 (O 7 (O 9 (show d_ 9 = true by simp [hdep]) 7 (by decide)) 3 (by decide)) 2 (by decide))
      have y9_ : d_ 9 = true := (show d_ 9 = true by simp [hdep])
      have F2 := F
      rw [y1_] at F2
      rw [y2_] at F2
      rw [y9_] at F2
      clear O
      clear y1_ y2_ y9_
      rw [pk_of q11]
      have HF := Lib.hid F
      clear F F2 hdep
      go_simp
      refine HK.out _ _ ⟨a, ?_, HF.out, HO.out⟩
      rw [pk_of (show upd d_ 12 11 = true from q11)]
      all_goals rfl
    · have HO : Hid (OrdP [[], [], [0, 1], [2], [3], [3, 4], [3, 5], [3, 6], [7], [7], [7, 8, 9], [7, 10], [9, 11], [12], [12, 13], [12, 14], [0, 1, 2, 3, 4, 5, 6, 7, 8, 9, 10, 11, 12, 13, 14, 15]] (upd d_ 13)) := O.step (show ∀ e ∈ ([12] : List Nat), d_ e = true by simp [hdep])
      have q12 : d_ 12 = true := (show d_ 12 = true by simp [hdep])
      have y1_ : d_ 1 = true := (O 2 (O 3 (O 7 (O 9 (O 12 (show d_ 12 = true by simp [hdep]) 9 (by decide)) 7 (by decide)) 3 (by decide)) 2 (by decide)) 1 (by decide))
      have y2_ : d_ 2 = true := (O 3 (O 7 (O 9 (O 12 (show d_ 12 = true by simp [hdep]) 9 (by decide)) 7 (by decide)) 3 (by decide)) 2 (by decide))
      have y9_ : d_ 9 = true := (O 12 (show d_ 12 = true by simp [hdep]) 9 (by decide))
      have F2 := F
      rw [y1_] at F2
      rw [y2_] at F2
      rw [y9_] at F2
      clear O
      clear y1_ y2_ y9_
      rw [pk_of q12]
      have HF := Lib.hid F
      clear F F2 hdep
      go_simp
      refine HK.out _ _ ⟨a, ?_, HF.out, HO.out⟩
      rw [pk_of (show upd d_ 13 12 = true from q12)]
      all_goals rfl
    · have HO : Hid (OrdP [[], [], [0, 1], [2], [3], [3, 4], [3, 5], [3, 6], [7], [7], [7, 8, 9], [7, 10], [9, 11], [12], [12, 13], [12, 14], [0, 1, 2, 3, 4, 5, 6, 7, 8, 9, 10, 11, 12, 13, 14, 15]] (upd d_ 14)) := O.step (show ∀ e ∈ ([12, 13] : List Nat), d_ e = true by simp [hdep])
      have q12 : d_ 12 = true := (show d_ 12 = true by simp [hdep])
      have q13 : d_ 13 = true := (show d_ 13 = true by simp [hdep])
      have y1_ : d_ 1 = true := (O 2 (O 3 (O 7 (O 9 (O 12 (show d_ 12 = true by simp [hdep]) 9 (by decide)) 7 (by decide)) 3 (by decide)) 2 (by decide)) 1 (by decide))
      have y2_ : d_ 2 = true := (O 3 (O 7 (O 9 (O 12 (show d_ 12 = true by simp [hdep]) 9 (by decide)) 7 (by decide)) 3 (by decide)) 2 (by decide))
      have y9_ : d_ 9 = true := (O 12 (show d_ 12 = true by simp [hdep]) 9 (by decide))
      have F2 := F
      rw [y1_] at F2
      rw [y2_] at F2
      rw [y9_] at F2
      clear O
      clear y1_ y2_ y9_
      rw [pk_of q12, pk_of q13]
      have HF := Lib.hid F
      clear F F2 hdep
      go_simp
      refine HK.out _ _ ⟨a, ?_, HF.out, HO.out⟩
      rw [pk_of (show upd d_ 14 12 = true from q12), pk_of (show upd d_ 14 13 = true from q13)]
      all_goals rfl
    · have HO : Hid (OrdP [[], [], [0, 1], [2], [3], [3, 4], [3, 5], [3, 6], [7], [7], [7, 8, 9], [7, 10], [9, 11], [12], [12, 13], [12, 14], [0, 1, 2, 3, 4, 5, 6, 7, 8, 9, 10, 11, 12, 13, 14, 15]] (upd d_ 15)) := O.step (show ∀ e ∈ ([12, 14] : List Nat), d_ e = true by simp [hdep])
      have q12 : d_ 12 = true := (show d_ 12 = true by simp [hdep])
      have q14 : d_ 14 = true := (show d_ 14 = true by simp [hdep])
      have y1_ : d_ 1 = true := (O 2 (O 3 (O 7 (O 9 (O 12 (show d_ 12 = true by simp [hdep]) 9 (by decide)) 7 (by decide)) 3 (by decide)) 2 (by decide)) 1 (by decide))
      have y2_ : d_ 2 = true := (O 3 (O 7 (O 9 (O 12 (show d_ 12 = true by simp [hdep]) 9 (by decide)) 7 (by decide)) 3 (by decide)) 2 (by decide))
      have y9_ : d_ 9 = true := (O 12 (show d_ 12 = true by simp [hdep]) 9 (by decide))
      have F2 := F
      rw [y1_] at F2
      rw [y2_] at F2
      rw [y9_] at F2
      clear O
      clear y1_ y2_ y9_
      rw [pk_of q12, pk_of q14]
      have HF := Lib.hid F
      clear F F2 hdep
      go_simp
      refine HK.out _ _ ⟨a, ?_, HF.out, HO.out⟩
      rw [pk_of (show upd d_ 15 12 = true from q12), pk_of (show upd d_ 15 14 = true from q14)]
      all_goals rfl
    · have HO : Hid (OrdP [[], [], [0, 1], [2], [3], [3, 4], [3, 5], [3, 6], [7], [7], [7, 8, 9], [7, 10], [9, 11], [12], [12, 13], [12, 14], [0, 1, 2, 3, 4, 5, 6, 7, 8, 9, 10, 11, 12, 13, 14, 15]] (upd d_ 16)) := O.step (show ∀ e ∈ ([0, 1, 2, 3, 4, 5, 6, 7, 8, 9, 10, 11, 12, 13, 14, 15] : List Nat), d_ e = true by simp [hdep])
      have q15 : d_ 15 = true := (show d_ 15 = true by simp [hdep])
      have y1_ : d_ 1 = true := (show d_ 1 = true by simp [hdep])
      have y2_ : d_ 2 = true := (show d_ 2 = true by simp [hdep])
      have y9_ : d_ 9 = true := (show d_ 9 = true by simp [hdep])
      have F2 := F
      rw [y1_] at F2
      rw [y2_] at F2
      rw [y9_] at F2
      clear O
      clear y1_ y2_ y9_
      rw [pk_of q15]
      have HF := Lib.hid F
      clear F F2 hdep
      go_simp
      refine HK.out _ _ ⟨a, ?_, HF.out, HO.out⟩
      rw [pk_of (show upd d_ 16 15 = true from q15)]
      all_goals rfl
  · rintro d_ a_ w1 hall ⟨a, rfl, F, O⟩
    have hall' : ∀ k, k < 17 → d_ k = true := hall
    rw [hall' 1 (by decide), hall' 2 (by decide), hall' 9 (by decide)] at F
    have HF := Lib.hid F
    clear F
    rw [pk_of (hall' 0 (by decide)), pk_of (hall' 1 (by decide)), pk_of (hall' 2 (by decide)), pk_of (hall' 3 (by decide)), pk_of (hall' 4 (by decide)), pk_of (hall' 5 (by decide)), pk_of (hall' 6 (by decide)), pk_of (hall' 7 (by decide)), pk_of (hall' 8 (by decide)), pk_of (hall' 9 (by decide)), pk_of (hall' 10 (by decide)), pk_of (hall' 11 (by decide)), pk_of (hall' 12 (by decide)), pk_of (hall' 13 (by decide)), pk_of (hall' 14 (by decide)), pk_of (hall' 15 (by decide)), pk_of (hall' 16 (by decide))]
    exact HQ.out a w1 HF.out
end Go.Proofs.YtbnhngfegnhaiaaGreatDoor
namespace Go.Proofs.YtbnhngfegnhaiaaGreatDoor
theorem bitsOf_snoc (l : List Nat) (k : Nat) : bitsOf (l ++ [k]) = bitsOf l ||| 2 ^ k := by simp [bitsOf]
theorem bitsOf_aux : ∀ (l : List Nat) (s k : Nat), (l.foldl (fun s n => s ||| 2 ^ n) s).testBit k = (s.testBit k || decide (k ∈ l))
  | [], s, k => by simp
  | n :: l, s, k => by
    rw [List.foldl_cons, bitsOf_aux l, Nat.testBit_or, Nat.testBit_two_pow, Bool.or_assoc]
    congr 1
    by_cases h : n = k
    · subst h; simp
    · simp [h, Ne.symm h]
theorem bitsOf_test (l : List Nat) (k : Nat) : (bitsOf l).testBit k = decide (k ∈ l) := by unfold bitsOf; rw [bitsOf_aux]; simp
theorem bitsOf_ext {l l' : List Nat} (h : ∀ k, k ∈ l ↔ k ∈ l') : bitsOf l = bitsOf l' := by
  apply Nat.eq_of_testBit_eq
  intro k
  rw [bitsOf_test, bitsOf_test]
  simp [h k]
theorem bitsOf_lt {l : List Nat} {n : Nat} (h : ∀ k ∈ l, k < n) : bitsOf l < 2 ^ n := by
  apply Nat.lt_pow_two_of_testBit
  intro k hk
  rw [bitsOf_test]
  simp only [decide_eq_false_iff_not]
  intro hm
  have := h k hm
  omega
/-- Which states can be reached: those of the truths. -/
theorem reach_true {c : Cab} {r : Rule} {W : Int} {ls : List Ln} {t : List Int} : (∃ n, reachF c r W ls t = some n) ↔ ∃ bs, (t, bs) ∈ truthsBy c r ls W := by
  constructor
  · rintro ⟨n, hn⟩
    have := (minF_some.1 hn).1
    obtain ⟨x, hx, he⟩ := List.mem_map.1 this
    simp only [Prod.mk.injEq] at he
    exact ⟨x.2, by rw [← he.1]; exact hx⟩
  · rintro ⟨bs, hb⟩
    obtain ⟨m, hm, _⟩ := minF_ex (L := (truthsBy c r ls W).map fun x => (x.1, (wrongs x.2 : Int))) (t := t) (x := (wrongs bs : Int)) (List.mem_map.2 ⟨_, hb, rfl⟩)
    exact ⟨m, hm⟩
end Go.Proofs.YtbnhngfegnhaiaaGreatDoor
namespace Go.Proofs.YtbnhngfegnhaiaaGreatDoor
theorem truthsBy_mem {c : Cab} {r : Rule} {ls : List Ln} {W : Int} {t : List Int} {bs : List Bool} :
    (t, bs) ∈ truthsBy c r ls W ↔ (t, bs) ∈ paths c ls c.homes ∧ okAll r 0 ls bs = true ∧ (wrongs bs : Int) ≤ W := by
  simp [truthsBy]
theorem okAll_any : ∀ (i : Nat) (ls : List Ln) (bs : List Bool), okAll anyRule i ls bs = true
  | _, [], _ => by simp [okAll]
  | _, _ :: _, [] => by simp [okAll]
  | i, l :: ls, b :: bs => by simp [okAll, anyRule, okAll_any (i + 1) ls bs]
theorem truths_mem {c : Cab} {ls : List Ln} {W : Int} {t : List Int} {bs : List Bool} :
    (t, bs) ∈ truthsBy c anyRule ls W ↔ (t, bs) ∈ paths c ls c.homes ∧ (wrongs bs : Int) ≤ W := by
  rw [truthsBy_mem, okAll_any]; simp
/-- What is a truth of more loans is one of the first ones. -/
theorem truths_prefix {c : Cab} {ls : List Ln} {l : Ln} {W : Int} (h : truthsBy c anyRule (ls ++ [l]) W ≠ []) : truthsBy c anyRule ls W ≠ [] := by
  obtain ⟨⟨t, bs⟩, hx⟩ := List.exists_mem_of_ne_nil _ h
  obtain ⟨h1, h2⟩ := truths_mem.1 hx
  obtain ⟨s, bs', b, h3, _, rfl⟩ := (paths_snoc c l ls _ t bs).1 h1
  rw [wrongs_snoc] at h2
  exact List.ne_nil_of_mem (truths_mem.2 ⟨h3, by cases b <;> simp at h2 <;> omega⟩)
theorem take_succ' {l : List Ln} {k : Nat} (h : k < l.length) : l.take (k + 1) = l.take k ++ [gl l k] := by
  rw [List.take_succ_eq_append_getElem h]; simp [gl, h]
theorem truths_take {c : Cab} {W : Int} {ls : List Ln} (h : truthsBy c anyRule ls W ≠ []) : ∀ (d k : Nat), k + d = ls.length → truthsBy c anyRule (ls.take k) W ≠ []
  | 0, k, hk => by rw [List.take_of_length_le (by omega)]; exact h
  | d + 1, k, hk => by
    have := truths_take h d (k + 1) (by omega)
    rw [take_succ' (by omega)] at this
    exact truths_prefix this
theorem checkFrom_none {c : Cab} : ∀ (f i : Nat), (∀ j, i ≤ j → j < i + f → truthsBy c anyRule (c.loans.take (j + 1)) c.wrong ≠ []) → checkFrom c f i = (0, 4)
  | 0, _, _ => rfl
  | f + 1, i, h => by
    have h0 := h i (by omega) (by omega)
    unfold checkFrom
    rw [if_neg (by simpa using h0)]
    exact checkFrom_none f (i + 1) (fun j h1 h2 => h j (by omega) (by omega))
/-- Check says 4 just if there is a truth, else 0. -/
theorem check_yes {c : Cab} (hv : c.valid = true) (h : truths c ≠ []) : check c = (0, 4) := by
  unfold check
  rw [if_pos hv]
  refine checkFrom_none _ _ (fun j _ hj => ?_)
  exact truths_take h (c.loans.length - (j + 1)) (j + 1) (by omega)
theorem valid_slots {c : Cab} (hv : c.valid = true) : 1 ≤ c.slots ∧ c.slots ≤ 6 := by
  simp only [Cab.valid, Cab.sizes, inR, Bool.and_eq_true, decide_eq_true_eq] at hv; omega
theorem openE_yes {c : Cab} (hv : c.valid = true) (h : truths c ≠ []) : openE c true = 0 := by simp [openE, hv, h]
def whereL (c : Cab) (card : Int) : List Int := (truths c).map fun x => gi x.1 card.toNat
def slotL (c : Cab) (slot : Int) : List Int := (truths c).map fun x => lies x.1 slot
def setL (l : List Int) : Nat := bitsOf ((l.filter fun s => !decide (s = -1)).map Int.toNat)
def outL (l : List Int) : Bool := l.any fun s => decide (s = -1)
theorem where_yes {c : Cab} (hv : c.valid = true) (h : truths c ≠ []) {card : Int} (hc : c.card card = true) : whereE c card = ((setL (whereL c card) : Int), outL (whereL c card), 0) := by
  unfold whereE; rw [hc, openE_yes hv h]; rfl
theorem slot_yes {c : Cab} (hv : c.valid = true) (h : truths c ≠ []) {s : Int} (hc : c.slotOf s = true) : slotE c s = ((setL (slotL c s) : Int), outL (slotL c s), 0) := by
  unfold slotE; rw [hc, openE_yes hv h]; rfl
/-- A state of a cabinet: as many cards, each out or in a slot; no two in one. -/
structure St (c : Cab) (t : List Int) : Prop where
  len : t.length = c.homes.length
  bd : ∀ k, k < t.length → -1 ≤ gi t k ∧ gi t k < c.slots
  inj : ∀ i j, i < t.length → j < t.length → gi t i = gi t j → gi t i ≠ -1 → i = j
theorem gi_set {l : List Int} {i j : Nat} {v : Int} (hi : i < l.length) : gi (l.set i v) j = if i = j then v else gi l j := by
  by_cases h : i = j
  · subst h; simp [gi, hi]
  · simp [gi, h]
theorem lies_spec {t : List Int} {slot : Int} : (lies t slot = -1 ∧ ∀ k, k < t.length → gi t k ≠ slot) ∨ ∃ k : Nat, lies t slot = (k : Int) ∧ k < t.length ∧ gi t k = slot ∧ ∀ j, j < k → gi t j ≠ slot := by
  have aux : ∀ (l : List Int) (k : Nat), (liesFrom l slot k = -1 ∧ ∀ j, j < l.length → gi l j ≠ slot) ∨ ∃ j : Nat, liesFrom l slot k = ((k + j : Nat) : Int) ∧ j < l.length ∧ gi l j = slot ∧ ∀ i, i < j → gi l i ≠ slot := by
    intro l
    induction l with
    | nil => intro k; exact .inl ⟨rfl, by simp⟩
    | cons x r ih =>
      intro k
      unfold liesFrom
      by_cases hx : x = slot
      · rw [if_pos hx]; exact .inr ⟨0, by simp, by simp, by simpa [gi] using hx, by omega⟩
      · rw [if_neg hx]
        rcases ih (k + 1) with ⟨h1, h2⟩ | ⟨j, h1, h2, h3, h4⟩
        · refine .inl ⟨h1, fun j hj => ?_⟩
          cases j with
          | zero => simpa [gi] using hx
          | succ j => have := h2 j (by simpa using hj); simpa [gi] using this
        · refine .inr ⟨j + 1, by rw [h1]; omega, by simpa using h2, by simpa [gi] using h3, fun i hi => ?_⟩
          cases i with
          | zero => simpa [gi] using hx
          | succ i => have := h4 i (by omega); simpa [gi] using this
  rcases aux t 0 with h | ⟨j, h1, h2⟩
  · exact .inl h
  · exact .inr ⟨j, by simpa [lies] using h1, h2⟩
theorem lies_none {t : List Int} {slot : Int} : lies t slot = -1 ↔ ∀ k, k < t.length → gi t k ≠ slot := by
  rcases lies_spec (t := t) (slot := slot) with ⟨h1, h2⟩ | ⟨k, h1, h2, h3, _⟩
  · exact ⟨fun _ => h2, fun _ => h1⟩
  · exact ⟨fun h => by omega, fun h => absurd h3 (h k h2)⟩
theorem lies_at {c : Cab} {t : List Int} (hs : St c t) {slot : Int} (h0 : 0 ≤ slot) {k : Nat} : lies t slot = (k : Int) ↔ k < t.length ∧ gi t k = slot := by
  rcases lies_spec (t := t) (slot := slot) with ⟨h1, h2⟩ | ⟨j, h1, h2, h3, _⟩
  · exact ⟨fun h => by omega, fun ⟨a, b⟩ => absurd b (h2 k a)⟩
  · constructor
    · intro h
      have : j = k := by omega
      subst this
      exact ⟨h2, h3⟩
    · rintro ⟨a, b⟩
      have := hs.inj j k h2 a (by rw [h3, b]) (by omega)
      rw [h1, this]
theorem St.homes {c : Cab} (hv : c.valid = true) : St c c.homes := by
  simp only [Cab.valid, Cab.homesOk, Bool.and_eq_true, decide_eq_true_eq, List.all_eq_true] at hv
  obtain ⟨⟨_, hn, ha⟩, _⟩ := hv
  refine ⟨rfl, fun k hk => ?_, fun i j hi hj he _ => ?_⟩
  · have : c.slotOf (gi c.homes k) = true := ha _ (by simp [gi, hk])
    simp only [Cab.slotOf, inR, Bool.and_eq_true, decide_eq_true_eq] at this
    omega
  · simp only [gi, List.getD_eq_getElem?_getD, List.getElem?_eq_getElem hi, List.getElem?_eq_getElem hj, Option.getD_some] at he
    exact (List.getElem_inj hn).1 he
theorem St.step {c : Cab} (h0 : 0 ≤ c.slots) {t : List Int} (hs : St c t) {l : Ln} {x : List Int × Bool} (hx : x ∈ step c t l) : St c x.1 := by
  unfold Go.Proofs.YtbnhngfegnhaiaaGreatDoor.step at hx
  have setSt : ∀ (k : Nat) (v : Int), -1 ≤ v → v < c.slots → (v ≠ -1 → ∀ j, j < t.length → gi t j ≠ v) → St c (t.set k v) := by
    intro k v h1 h2 h3
    by_cases hk : k < t.length
    · refine ⟨by simp [hs.len], fun j hj => ?_, fun i j hi hj he hn => ?_⟩
      · rw [gi_set hk]
        split
        · omega
        · exact hs.bd j (by simpa using hj)
      · rw [gi_set hk] at he hn
        rw [gi_set hk] at he
        simp only [List.length_set] at hi hj
        by_cases a : k = i <;> by_cases b : k = j
        · omega
        · rw [if_pos a, if_neg b] at he; rw [if_pos a] at hn; exact absurd he.symm (h3 hn j hj)
        · rw [if_neg a, if_pos b] at he; rw [if_neg a] at hn; exact absurd he (h3 (by omega) i hi)
        · rw [if_neg a, if_neg b] at he; rw [if_neg a] at hn; exact hs.inj i j hi hj he hn
    · rw [List.set_eq_of_length_le (by omega)]; exact hs
  split at hx
  · split at hx
    · simp at hx
    · simp only [List.mem_singleton] at hx
      subst hx
      exact setSt _ _ (by omega) (by omega) (fun h => absurd rfl h)
  · split at hx
    · split at hx
      · obtain ⟨s, hs1, hs2⟩ := List.mem_filterMap.1 hx
        rw [List.mem_range] at hs1
        split at hs2
        · rename_i hl
          rw [Option.some.injEq] at hs2
          subst hs2
          exact setSt _ _ (by omega) (by omega) (fun _ j hj => lies_none.1 hl j hj)
        · cases hs2
      · simp at hx
    · split at hx
      · simp only [List.mem_singleton] at hx
        subst hx; exact hs
      · simp at hx
end Go.Proofs.YtbnhngfegnhaiaaGreatDoor
namespace Go.Proofs.YtbnhngfegnhaiaaGreatDoor
theorem St.paths {c : Cab} (h0 : 0 ≤ c.slots) : ∀ (ls : List Ln) (a t : List Int) (bs : List Bool), St c a → (t, bs) ∈ Go.Proofs.YtbnhngfegnhaiaaGreatDoor.paths c ls a → St c t
  | [], a, t, bs, hs, h => by simp [Go.Proofs.YtbnhngfegnhaiaaGreatDoor.paths] at h; rw [h.1]; exact hs
  | l :: ls, a, t, bs, hs, h => by
    simp only [Go.Proofs.YtbnhngfegnhaiaaGreatDoor.paths, List.mem_flatMap, List.mem_map] at h
    obtain ⟨x, hx, y, hy, he⟩ := h
    cases he
    exact St.paths h0 ls x.1 y.1 y.2 (hs.step h0 hx) hy
theorem truth_st {c : Cab} (hv : c.valid = true) {r : Rule} {ls : List Ln} {W : Int} {t : List Int} {bs : List Bool} (h : (t, bs) ∈ truthsBy c r ls W) : St c t :=
  St.paths (by have := valid_slots hv; omega) _ _ _ _ (St.homes hv) (truthsBy_mem.1 h).1
theorem setL_test (l : List Int) (k : Nat) : (setL l).testBit k = true ↔ (∃ x ∈ l, x ≠ -1 ∧ x.toNat = k) := by
  unfold setL
  rw [bitsOf_test]
  simp only [decide_eq_true_eq, List.mem_map, List.mem_filter, Bool.not_eq_true', decide_eq_false_iff_not]
  constructor
  · rintro ⟨x, ⟨h1, h2⟩, h3⟩; exact ⟨x, h1, h2, h3⟩
  · rintro ⟨x, h1, h2, h3⟩; exact ⟨x, ⟨h1, h2⟩, h3⟩
theorem lies_range {c : Cab} {t : List Int} (hs : St c t) (s : Int) : -1 ≤ lies t s ∧ lies t s < c.homes.length := by
  rcases lies_spec (t := t) (slot := s) with ⟨h, _⟩ | ⟨k, h, h2, _⟩
  · omega
  · rw [hs.len] at h2; omega
theorem slot_test {c : Cab} (hv : c.valid = true) {s : Int} {k : Nat} : (setL (slotL c s)).testBit k = true ↔ ∃ t bs, (t, bs) ∈ truths c ∧ lies t s = (k : Int) := by
  rw [setL_test]
  constructor
  · rintro ⟨x, hx, h1, h2⟩
    obtain ⟨⟨t, bs⟩, ht, rfl⟩ := List.mem_map.1 hx
    have := lies_range (truth_st hv ht) s
    simp only at h1 h2
    exact ⟨t, bs, ht, by omega⟩
  · rintro ⟨t, bs, ht, h⟩
    refine ⟨_, List.mem_map.2 ⟨_, ht, rfl⟩, ?_, ?_⟩ <;> simp only [h] <;> omega
theorem slot_out {c : Cab} {s : Int} : outL (slotL c s) = true ↔ ∃ t bs, (t, bs) ∈ truths c ∧ lies t s = -1 := by
  unfold outL slotL
  rw [List.any_map, List.any_eq_true]
  constructor
  · rintro ⟨⟨t, bs⟩, ht, h⟩; exact ⟨t, bs, ht, by simpa using h⟩
  · rintro ⟨t, bs, ht, h⟩; exact ⟨_, ht, by simpa using h⟩
theorem setL_lt {l : List Int} {n : Nat} (h : ∀ x ∈ l, -1 ≤ x ∧ x < n) : setL l < 2 ^ n := by
  refine bitsOf_lt (fun k hk => ?_)
  obtain ⟨x, hx, rfl⟩ := List.mem_map.1 hk
  have hx' := List.mem_filter.1 hx
  have := h x hx'.1
  have h2 : x ≠ -1 := by simpa using hx'.2
  omega
end Go.Proofs.YtbnhngfegnhaiaaGreatDoor
namespace Go.Proofs.YtbnhngfegnhaiaaGreatDoor
def boxC (E : Nat) (homes : List Int) (k p : Nat) : Cab := { slots := E, homes := homes, wrong := 1, loans := [⟨0, k, p, 0⟩, ⟨1, k, p, 0⟩] }
structure BoxOk (E : Nat) (homes : List Int) (k p : Nat) : Prop where
  e6 : E ≤ 6
  h5 : homes.length ≤ 5
  k : k < homes.length
  p : p < 8
  nd : homes.Nodup
  rg : ∀ j, j < homes.length → 0 ≤ gi homes j ∧ gi homes j < E
section
variable {E : Nat} {homes : List Int} {k p : Nat}
theorem gi_mem {l : List Int} {x : Int} (h : x ∈ l) : ∃ j, j < l.length ∧ gi l j = x := by
  obtain ⟨j, hj, he⟩ := List.getElem_of_mem h
  refine ⟨j, hj, ?_⟩
  unfold gi
  rw [List.getD_eq_getElem?_getD, List.getElem?_eq_getElem hj]
  exact he
theorem BoxOk.pos (h : BoxOk E homes k p) : 1 ≤ E := by
  have := h.rg k h.k
  omega
theorem BoxOk.inj (h : BoxOk E homes k p) {i j : Nat} (hi : i < homes.length) (hj : j < homes.length) (he : gi homes i = gi homes j) : i = j := by
  have hn := h.nd
  rw [List.nodup_iff_pairwise_ne, List.pairwise_iff_getElem] at hn
  have e1 : gi homes i = homes[i] := by unfold gi; rw [List.getD_eq_getElem?_getD, List.getElem?_eq_getElem hi]; rfl
  have e2 : gi homes j = homes[j] := by unfold gi; rw [List.getD_eq_getElem?_getD, List.getElem?_eq_getElem hj]; rfl
  rw [e1, e2] at he
  rcases Nat.lt_trichotomy i j with hlt | heq | hlt
  · exact absurd he (hn i j hi hj hlt)
  · exact heq
  · exact absurd he.symm (hn j i hj hi hlt)
theorem box_valid (h : BoxOk E homes k p) : (boxC E homes k p).valid = true := by
  have h1 := h.pos
  have h6 := h.e6
  have h5 := h.h5
  have hk := h.k
  have hp := h.p
  have hnd := h.nd
  have hall : homes.all (boxC E homes k p).slotOf = true := by
    rw [List.all_eq_true]
    intro x hx
    obtain ⟨j, hj, rfl⟩ := gi_mem hx
    have := h.rg j hj
    show inR _ 0 ((E : Int) - 1) = true
    unfold inR
    rw [Bool.and_eq_true, decide_eq_true_eq, decide_eq_true_eq]
    omega
  have hc : (boxC E homes k p).card k = true := by
    show inR _ 0 ((homes.length : Int) - 1) = true
    unfold inR
    rw [Bool.and_eq_true, decide_eq_true_eq, decide_eq_true_eq]
    omega
  have hpp : inR (p : Int) 0 7 = true := by
    unfold inR
    rw [Bool.and_eq_true, decide_eq_true_eq, decide_eq_true_eq]
    omega
  have hl : ∀ q : Int, (q = 0 ∨ q = 1) → (boxC E homes k p).loanOk ⟨q, k, p, 0⟩ = true := fun q hq => by
    rcases hq with rfl | rfl <;> simp [Cab.loanOk, Cab.lent, hc, hpp]
  have hs : (boxC E homes k p).sizes = true := by
    show (inR (E : Int) 1 6 && decide (homes.length ≤ 5) && inR 1 0 12 && decide (2 ≤ 12)) = true
    have : inR (E : Int) 1 6 = true := by
      unfold inR
      rw [Bool.and_eq_true, decide_eq_true_eq, decide_eq_true_eq]
      omega
    rw [this, decide_eq_true h5]
    rfl
  have hh : (boxC E homes k p).homesOk = true := by
    show (decide (homes.Nodup) && homes.all (boxC E homes k p).slotOf) = true
    rw [decide_eq_true hnd, hall]
    rfl
  have hll : (boxC E homes k p).loans.all (boxC E homes k p).loanOk = true := by
    show ([⟨0, k, p, 0⟩, ⟨1, k, p, 0⟩] : List Ln).all (boxC E homes k p).loanOk = true
    simp [hl 0 (.inl rfl), hl 1 (.inr rfl)]
  show ((boxC E homes k p).sizes && (boxC E homes k p).homesOk && (boxC E homes k p).loans.all (boxC E homes k p).loanOk) = true
  rw [hs, hh, hll]
  rfl
theorem box_truths (h : BoxOk E homes k p) {t : List Int} {bs : List Bool} : (t, bs) ∈ truths (boxC E homes k p) ↔ ∃ s : Nat, s < E ∧ (∀ j, j < homes.length → j ≠ k → gi homes j ≠ (s : Int)) ∧ t = homes.set k (s : Int) ∧ bs = [false, !decide ((s : Int) = gi homes k)] := by
  have hk := h.k
  have g0 := (h.rg k hk).1
  have gk : gi (homes.set k (-1)) k = -1 := by rw [gi_set hk, if_pos rfl]
  have hw : ∀ s : Nat, wrongs [false, !decide ((s : Int) = gi homes k)] ≤ 1 := fun s => by
    unfold wrongs
    by_cases hs : (s : Int) = gi homes k <;> simp [hs]
  have hp : (t, bs) ∈ paths (boxC E homes k p) [⟨0, k, p, 0⟩, ⟨1, k, p, 0⟩] homes ↔ ∃ s : Nat, s < E ∧ lies (homes.set k (-1)) (s : Int) = -1 ∧ t = homes.set k (s : Int) ∧ bs = [false, !decide ((s : Int) = gi homes k)] := by
    have s1 : step (boxC E homes k p) homes ⟨0, k, p, 0⟩ = [(homes.set k (-1), false)] := by
      show (if (0 : Int) = 0 then (if gi homes (Int.toNat (k : Int)) = -1 then [] else [(homes.set (Int.toNat (k : Int)) (-1), false)]) else _) = _
      rw [if_pos rfl, Int.toNat_natCast, if_neg (by omega)]
    have s2 : step (boxC E homes k p) (homes.set k (-1)) ⟨1, k, p, 0⟩ = (List.range E).filterMap fun (s : Nat) => if lies (homes.set k (-1)) (s : Int) = -1 then some ((homes.set k (-1)).set k (s : Int), !decide ((s : Int) = gi homes k)) else none := by
      show (if (1 : Int) = 0 then _ else if (1 : Int) = 1 then (if gi (homes.set k (-1)) (Int.toNat (k : Int)) = -1 then _ else []) else _) = _
      rw [if_neg (by omega), if_pos rfl, Int.toNat_natCast, if_pos gk]
      rfl
    unfold paths
    rw [s1]
    simp only [List.flatMap_cons, List.flatMap_nil, List.append_nil, List.mem_map]
    unfold paths
    rw [s2]
    simp only [paths, List.mem_flatMap, List.mem_filterMap, List.mem_range, List.map_cons, List.map_nil, List.mem_singleton]
    constructor
    · rintro ⟨y, ⟨x, ⟨s, hs, hx⟩, rfl⟩, he⟩
      by_cases hl : lies (homes.set k (-1)) (s : Int) = -1
      · rw [if_pos hl] at hx
        obtain rfl := Option.some.inj hx
        obtain ⟨e1, e2⟩ := Prod.mk.inj he
        exact ⟨s, hs, hl, by rw [← e1]; simp, e2.symm⟩
      · rw [if_neg hl] at hx
        cases hx
    · rintro ⟨s, hs, hl, rfl, rfl⟩
      exact ⟨_, ⟨_, ⟨s, hs, if_pos hl⟩, rfl⟩, by simp⟩
  have hlies : ∀ s : Nat, lies (homes.set k (-1)) (s : Int) = -1 ↔ ∀ j, j < homes.length → j ≠ k → gi homes j ≠ (s : Int) := fun s => by
    rw [lies_none, List.length_set]
    constructor
    · intro hl j hj hjk
      have := hl j hj
      rw [gi_set hk, if_neg (fun hh => hjk hh.symm)] at this
      exact this
    · intro hl j hj
      rw [gi_set hk]
      by_cases hjk : k = j
      · rw [if_pos hjk]; omega
      · rw [if_neg hjk]; exact hl j hj (fun hh => hjk hh.symm)
  unfold truths
  rw [truths_mem]
  show (t, bs) ∈ paths (boxC E homes k p) [⟨0, k, p, 0⟩, ⟨1, k, p, 0⟩] homes ∧ _ ↔ _
  rw [hp]
  constructor
  · rintro ⟨⟨s, h1, h2, h3⟩, _⟩
    exact ⟨s, h1, (hlies s).1 h2, h3⟩
  · rintro ⟨s, h1, h2, h3, h4⟩
    refine ⟨⟨s, h1, (hlies s).2 h2, h3, h4⟩, ?_⟩
    have := hw s
    rw [h4]
    show (_ : Int) ≤ 1
    omega
theorem box_own (h : BoxOk E homes k p) : (homes, [false, false]) ∈ truths (boxC E homes k p) := by
  have hk := h.k
  obtain ⟨g0, g1⟩ := h.rg k hk
  have e : ((gi homes k).toNat : Int) = gi homes k := by omega
  refine (box_truths h).2 ⟨(gi homes k).toNat, by omega, fun j hj hjk hh => hjk (h.inj hj hk (by rw [hh, e])), ?_, by rw [e]; simp⟩
  rw [e]
  apply List.ext_getElem?
  intro i
  rw [List.getElem?_set]
  by_cases hi : k = i
  · subst hi
    rw [if_pos rfl, if_pos hk, List.getElem?_eq_getElem hk]
    unfold gi
    rw [List.getD_eq_getElem?_getD, List.getElem?_eq_getElem hk]
    rfl
  · rw [if_neg hi]
theorem box_ne (h : BoxOk E homes k p) : truths (boxC E homes k p) ≠ [] := List.ne_nil_of_mem (box_own h)
theorem box_check (h : BoxOk E homes k p) : check (boxC E homes k p) = (0, 4) := check_yes (box_valid h) (box_ne h)
/-- Can slot s be where card k is? -/
def FreeS (homes : List Int) (k s : Nat) : Prop := ∀ j, j < homes.length → j ≠ k → gi homes j ≠ (s : Int)
theorem gi_put (h : BoxOk E homes k p) (s j : Nat) : gi (homes.set k (s : Int)) j = if k = j then (s : Int) else gi homes j := gi_set h.k
/-- The other cards are in their slots. -/
theorem box_where (h : BoxOk E homes k p) {i : Nat} (hi : i < homes.length) (hik : i ≠ k) : whereE (boxC E homes k p) i = (((2 ^ (gi homes i).toNat : Nat) : Int), false, 0) := by
  have hv := box_valid h
  obtain ⟨g0, g1⟩ := h.rg i hi
  have hall : ∀ x ∈ whereL (boxC E homes k p) i, x = gi homes i := fun x hx => by
    obtain ⟨⟨t, bs⟩, ht, rfl⟩ := List.mem_map.1 hx
    obtain ⟨s, _, _, rfl, _⟩ := (box_truths h).1 ht
    show gi (homes.set k (s : Int)) (Int.toNat (i : Int)) = _
    rw [Int.toNat_natCast, gi_put h, if_neg (fun hh => hik hh.symm)]
  have hex : gi homes i ∈ whereL (boxC E homes k p) i := List.mem_map.2 ⟨_, box_own h, by show gi homes (Int.toNat (i : Int)) = _; rw [Int.toNat_natCast]⟩
  have hcard : (boxC E homes k p).card i = true := by
    show inR _ 0 ((homes.length : Int) - 1) = true
    unfold inR
    rw [Bool.and_eq_true, decide_eq_true_eq, decide_eq_true_eq]
    omega
  rw [where_yes hv (box_ne h) hcard]
  have e1 : setL (whereL (boxC E homes k p) i) = 2 ^ (gi homes i).toNat := by
    apply Nat.eq_of_testBit_eq
    intro b
    rw [Nat.testBit_two_pow, Bool.eq_iff_iff, setL_test, decide_eq_true_eq]
    constructor
    · rintro ⟨x, hx, _, rfl⟩
      rw [hall x hx]
    · rintro rfl
      exact ⟨_, hex, by omega, rfl⟩
  have e2 : outL (whereL (boxC E homes k p) i) = false := by
    unfold outL
    rw [List.any_eq_false]
    intro x hx
    rw [hall x hx]
    simp
    omega
  rw [e1, e2]
/-- The card that was put back is in its slot, or in one that is empty. -/
theorem box_card (h : BoxOk E homes k p) : ∃ S : Nat, whereE (boxC E homes k p) k = ((S : Int), false, 0) ∧ ∀ s : Nat, S.testBit s = true ↔ s < E ∧ FreeS homes k s := by
  have hv := box_valid h
  have hk := h.k
  have hcard : (boxC E homes k p).card k = true := by
    show inR _ 0 ((homes.length : Int) - 1) = true
    unfold inR
    rw [Bool.and_eq_true, decide_eq_true_eq, decide_eq_true_eq]
    omega
  have hmem : ∀ x : Int, x ∈ whereL (boxC E homes k p) k ↔ ∃ s : Nat, s < E ∧ FreeS homes k s ∧ x = (s : Int) := fun x => by
    constructor
    · intro hx
      obtain ⟨⟨t, bs⟩, ht, rfl⟩ := List.mem_map.1 hx
      obtain ⟨s, h1, h2, rfl, _⟩ := (box_truths h).1 ht
      refine ⟨s, h1, h2, ?_⟩
      show gi (homes.set k (s : Int)) (Int.toNat (k : Int)) = _
      rw [Int.toNat_natCast, gi_put h, if_pos rfl]
    · rintro ⟨s, h1, h2, rfl⟩
      refine List.mem_map.2 ⟨(homes.set k (s : Int), _), (box_truths h).2 ⟨s, h1, h2, rfl, rfl⟩, ?_⟩
      show gi (homes.set k (s : Int)) (Int.toNat (k : Int)) = _
      rw [Int.toNat_natCast, gi_put h, if_pos rfl]
  refine ⟨setL (whereL (boxC E homes k p) k), ?_, fun s => ?_⟩
  · rw [where_yes hv (box_ne h) hcard]
    have e2 : outL (whereL (boxC E homes k p) k) = false := by
      unfold outL
      rw [List.any_eq_false]
      intro x hx
      obtain ⟨s, _, _, rfl⟩ := (hmem x).1 hx
      simp
    rw [e2]
  · rw [setL_test]
    constructor
    · rintro ⟨x, hx, _, rfl⟩
      obtain ⟨s, h1, h2, rfl⟩ := (hmem x).1 hx
      rw [Int.toNat_natCast]
      exact ⟨h1, h2⟩
    · rintro ⟨h1, h2⟩
      exact ⟨(s : Int), (hmem _).2 ⟨s, h1, h2, rfl⟩, by omega, Int.toNat_natCast s⟩
theorem zip_self : ∀ l : List Int, ((l.zip l).countP fun x => !decide (x.1 = -1) && !decide (x.1 = x.2)) = 0
  | [] => rfl
  | x :: l => by rw [List.zip_cons_cons, List.countP_cons, zip_self l]; simp
theorem zip_set {v : Int} (hv : v ≠ -1) : ∀ (l : List Int) (k : Nat), k < l.length → (((l.set k v).zip l).countP fun x => !decide (x.1 = -1) && !decide (x.1 = x.2)) = if v = gi l k then 0 else 1
  | [], _, h => by simp at h
  | x :: l, 0, _ => by
    rw [List.set_cons_zero, List.zip_cons_cons, List.countP_cons, zip_self l]
    show 0 + _ = if v = x then 0 else 1
    by_cases hx : v = x <;> simp [hx, hv]
  | x :: l, k + 1, h => by
    rw [List.set_cons_succ, List.zip_cons_cons, List.countP_cons, zip_set hv l k (by simpa using h)]
    show _ + _ = if v = gi l k then 0 else 1
    simp
theorem box_away (h : BoxOk E homes k p) (s : Nat) : away (boxC E homes k p) (homes.set k (s : Int)) = if (s : Int) = gi homes k then 0 else 1 :=
  zip_set (by omega) homes k h.k
theorem pig : ∀ (a l : List Nat), a.Nodup → (∀ x ∈ a, x ∈ l) → a.length ≤ l.length
  | [], _, _, _ => Nat.zero_le _
  | x :: a, l, hd, hs => by
    obtain ⟨h1, h2⟩ := List.nodup_cons.1 hd
    have hx := hs x (by simp)
    have h3 := pig a (l.erase x) h2 fun y hy => (List.mem_erase_of_ne (fun e => h1 (by rw [← e]; exact hy))).2 (hs y (by simp [hy]))
    rw [List.length_erase_of_mem hx] at h3
    have := List.length_pos_of_mem hx
    rw [List.length_cons]
    omega
theorem box_nat (h : BoxOk E homes k p) : (homes.map Int.toNat).Nodup ∧ ∀ x ∈ homes.map Int.toNat, x < E := by
  constructor
  · rw [List.nodup_iff_pairwise_ne, List.pairwise_map]
    have hn := h.nd
    rw [List.nodup_iff_pairwise_ne] at hn
    refine hn.imp_of_mem fun {a b} ha hb hne he => hne ?_
    obtain ⟨i, hi, rfl⟩ := gi_mem ha
    obtain ⟨j, hj, rfl⟩ := gi_mem hb
    have := h.rg i hi
    have := h.rg j hj
    omega
  · intro x hx
    obtain ⟨y, hy, rfl⟩ := List.mem_map.1 hx
    obtain ⟨i, hi, rfl⟩ := gi_mem hy
    have := h.rg i hi
    omega
theorem box_len (h : BoxOk E homes k p) : homes.length ≤ E := by
  obtain ⟨h1, h2⟩ := box_nat h
  have := pig _ (List.range E) h1 fun x hx => List.mem_range.2 (h2 x hx)
  simpa using this
theorem box_room (h : BoxOk E homes k p) : homes.length < E ↔ ∃ s : Nat, s < E ∧ (s : Int) ∉ homes := by
  obtain ⟨h1, h2⟩ := box_nat h
  constructor
  · intro hlt
    apply Classical.byContradiction
    intro hno
    have := pig (List.range E) (homes.map Int.toNat) List.nodup_range fun x hx => by
      have hm : (x : Int) ∈ homes := Classical.byContradiction fun hn => hno ⟨x, List.mem_range.1 hx, hn⟩
      exact List.mem_map.2 ⟨_, hm, Int.toNat_natCast x⟩
    rw [List.length_range, List.length_map] at this
    omega
  · rintro ⟨s, hs, hn⟩
    have := pig (s :: homes.map Int.toNat) (List.range E) (List.nodup_cons.2 ⟨fun hm => by
      obtain ⟨y, hy, rfl⟩ := List.mem_map.1 hm
      obtain ⟨i, hi, rfl⟩ := gi_mem hy
      have := h.rg i hi
      refine hn ?_
      rw [show ((gi homes i).toNat : Int) = gi homes i by omega]
      exact hy, h1⟩) fun x hx => by
        rcases List.mem_cons.1 hx with rfl | hx
        · exact List.mem_range.2 hs
        · exact List.mem_range.2 (h2 x hx)
    rw [List.length_cons, List.length_map, List.length_range] at this
    omega
theorem min_zero : ∀ (l : List Nat) (x : Nat), (x = 0 ∨ 0 ∈ l) → l.foldl min x = 0
  | [], x, h => by simpa using h
  | y :: l, x, h => by
    rw [List.foldl_cons]
    refine min_zero l _ ?_
    rcases h with rfl | h
    · exact .inl (by simp)
    · rcases List.mem_cons.1 h with rfl | h
      · exact .inl (by simp)
      · exact .inr h
theorem max_spec : ∀ (l : List Nat) (x : Nat), (∀ y ∈ l, y ≤ l.foldl max x) ∧ x ≤ l.foldl max x ∧ (l.foldl max x = x ∨ l.foldl max x ∈ l)
  | [], x => by simp
  | y :: l, x => by
    obtain ⟨h1, h2, h3⟩ := max_spec l (max x y)
    rw [List.foldl_cons]
    refine ⟨fun z hz => ?_, by omega, ?_⟩
    · rcases List.mem_cons.1 hz with rfl | hz
      · omega
      · exact h1 z hz
    · rcases h3 with h3 | h3
      · rw [h3]
        by_cases hxy : x ≤ y
        · exact .inr (by rw [Nat.max_eq_right hxy]; simp)
        · exact .inl (by omega)
      · exact .inr (List.mem_cons_of_mem _ h3)
/-- One card is misplaced at most, none if no slot is empty. -/
theorem box_misplaced (h : BoxOk E homes k p) : misplacedE (boxC E homes k p) = ((0, min 1 ((E : Int) - homes.length)), 0) := by
  have hv := box_valid h
  unfold misplacedE
  rw [openE_yes hv (box_ne h)]
  show (((minL ((truths (boxC E homes k p)).map fun x => away (boxC E homes k p) x.1) : Int), (maxL ((truths (boxC E homes k p)).map fun x => away (boxC E homes k p) x.1) : Int)), (0 : Int)) = _
  generalize hL : ((truths (boxC E homes k p)).map fun x => away (boxC E homes k p) x.1) = L
  have hmem : ∀ y : Nat, y ∈ L ↔ ∃ s : Nat, s < E ∧ FreeS homes k s ∧ y = if (s : Int) = gi homes k then 0 else 1 := fun y => by
    rw [← hL, List.mem_map]
    constructor
    · rintro ⟨⟨t, bs⟩, ht, rfl⟩
      obtain ⟨s, h1, h2, rfl, _⟩ := (box_truths h).1 ht
      exact ⟨s, h1, h2, box_away h s⟩
    · rintro ⟨s, h1, h2, rfl⟩
      exact ⟨_, (box_truths h).2 ⟨s, h1, h2, rfl, rfl⟩, box_away h s⟩
  obtain ⟨g0, g1⟩ := h.rg k h.k
  have h0 : 0 ∈ L := (hmem 0).2 ⟨(gi homes k).toNat, by omega, fun j hj hjk hh => hjk (h.inj hj h.k (by rw [hh]; omega)), by rw [if_pos (by omega)]⟩
  have hmin : minL L = 0 := by
    cases L with
    | nil => rfl
    | cons x l =>
      show l.foldl min x = 0
      refine min_zero l x ?_
      rcases List.mem_cons.1 h0 with e | e
      · exact .inl e.symm
      · exact .inr e
  have hfree : (∃ s : Nat, s < E ∧ FreeS homes k s ∧ (s : Int) ≠ gi homes k) ↔ homes.length < E := by
    rw [box_room h]
    constructor
    · rintro ⟨s, h1, h2, h3⟩
      refine ⟨s, h1, fun hm => ?_⟩
      obtain ⟨j, hj, he⟩ := gi_mem hm
      by_cases hjk : j = k
      · subst hjk; exact h3 he.symm
      · exact h2 j hj hjk he
    · rintro ⟨s, h1, h2⟩
      have hg : ∀ j, j < homes.length → gi homes j ≠ (s : Int) := fun j hj he => h2 (by
        rw [← he]
        unfold gi
        rw [List.getD_eq_getElem?_getD, List.getElem?_eq_getElem hj]
        exact List.getElem_mem hj)
      exact ⟨s, h1, fun j hj _ => hg j hj, fun he => hg k h.k he.symm⟩
  obtain ⟨m1, _, m3⟩ := max_spec L 0
  have hle := box_len h
  have hmax : (maxL L : Int) = min 1 ((E : Int) - homes.length) := by
    show ((L.foldl max 0 : Nat) : Int) = _
    by_cases hr : homes.length < E
    · obtain ⟨s, h1, h2, h3⟩ := hfree.2 hr
      have := m1 1 ((hmem 1).2 ⟨s, h1, h2, by rw [if_neg h3]⟩)
      rcases m3 with m3 | m3
      · omega
      · obtain ⟨s', _, _, e⟩ := (hmem _).1 m3
        split at e <;> omega
    · rcases m3 with m3 | m3
      · omega
      · obtain ⟨s', k1, k2, e⟩ := (hmem _).1 m3
        by_cases hs : (s' : Int) = gi homes k
        · rw [if_pos hs] at e; omega
        · exact absurd (hfree.1 ⟨s', k1, k2, hs⟩) hr
  rw [hmin, hmax]
  rfl
/-- What a slot can have. -/
theorem box_slot (h : BoxOk E homes k p) {s : Nat} (hs : s < E) : ∃ (S : Nat) (o : Bool), slotE (boxC E homes k p) s = ((S : Int), o, 0) ∧ S < 2 ^ homes.length ∧ ((s : Int) ∈ homes → S ≠ 0) ∧ (o = true → S.testBit k = true) := by
  have hv := box_valid h
  have hk := h.k
  have hslot : (boxC E homes k p).slotOf s = true := by
    show inR _ 0 ((E : Int) - 1) = true
    unfold inR
    rw [Bool.and_eq_true, decide_eq_true_eq, decide_eq_true_eq]
    omega
  refine ⟨setL (slotL (boxC E homes k p) s), outL (slotL (boxC E homes k p) s), slot_yes hv (box_ne h) hslot, ?_, fun hm => ?_, fun ho => ?_⟩
  · refine setL_lt fun x hx => ?_
    obtain ⟨⟨t, bs⟩, ht, rfl⟩ := List.mem_map.1 hx
    exact lies_range (truth_st hv ht) s
  · obtain ⟨j, hj, he⟩ := gi_mem hm
    have hst := truth_st hv (box_own h)
    have : (setL (slotL (boxC E homes k p) s)).testBit j = true := (slot_test hv).2 ⟨_, _, box_own h, (lies_at hst (by omega)).2 ⟨hj, he⟩⟩
    intro h0
    rw [h0] at this
    simp at this
  · obtain ⟨t, bs, ht, hl⟩ := slot_out.1 ho
    obtain ⟨s', h1, h2, rfl, _⟩ := (box_truths h).1 ht
    rw [lies_none] at hl
    have hfree : FreeS homes k s := fun j hj hjk => by
      have := hl j (by rw [List.length_set]; exact hj)
      rwa [gi_put h, if_neg (fun hh => hjk hh.symm)] at this
    have hm := (box_truths h).2 ⟨s, hs, hfree, rfl, rfl⟩
    refine (slot_test hv).2 ⟨_, _, hm, (lies_at (truth_st hv hm) (by omega)).2 ⟨by rw [List.length_set]; exact hk, ?_⟩⟩
    rw [gi_put h, if_pos rfl]
end
end Go.Proofs.YtbnhngfegnhaiaaGreatDoor
namespace Go.Proofs.YtbnhngfegnhaiaaGreatDoor
open Go.RowKit
/-- What putting card k back into slot j comes to. -/
def backF (c : Cab) (s : List Int) (k j : Nat) : Option (List Int × Bool) :=
  if lies s (j : Int) = -1 then some (s.set k (j : Int), !decide ((j : Int) = gi c.homes k)) else none
theorem step_back (c : Cab) (s : List Int) (k : Nat) (lp ls : Int) (h : gi s k = -1) : step c s ⟨1, k, lp, ls⟩ = (List.range c.slots.toNat).filterMap (backF c s k) := by
  have e : ((k : Int)).toNat = k := rfl
  simp only [step, e, h]
  rfl
theorem stL_get (s : List Int) (k : Nat) (h : k < 5) : ([.int .i64 (gi s 0), .int .i64 (gi s 1), .int .i64 (gi s 2), .int .i64 (gi s 3), .int .i64 (gi s 4)] : List Value)[k]? = some (.int .i64 (gi s k)) := by
  match k, h with
  | 0, _ | 1, _ | 2, _ | 3, _ | 4, _ => rfl
theorem filterMap_range_at {α : Type} {f : Nat → Option α} {j n : Nat} {x : α} (h : j < n) (hf : f j = some x) : ((List.range n).filterMap f)[((List.range j).filterMap f).length]? = some x := by
  have e : List.range n = List.range (j + 1) ++ (List.range n).drop (j + 1) := by
    have := (List.take_append_drop (j + 1) (List.range n)).symm
    rwa [List.take_range, Nat.min_eq_left (by omega)] at this
  rw [e, List.range_succ, List.filterMap_append, List.filterMap_append]
  simp [hf]
set_option maxRecDepth 100000 in
set_option maxHeartbeats 2000000 in
theorem back_iter (c : Cab) (s : List Int) (k : Nat) (lp ls : Int) {bc : Nat} {ah : Option Addr} {ch : Nat} {al : Option Addr} {cl : Nat} {bp bs bl : Nat} {W : World} (O M : Nat → Prop)
    (hc : ∀ W', Same M W W' → CabP W' bc c ah ch al cl) (hp : W.heap[bp]? = some (.cells #[.pointer (some ⟨bc, 0, none⟩)] 82 (0, 0)))
    (hs : W.heap[bs]? = some (.cells (stA s) 95 (0, 0))) (hl : W.heap[bl]? = some (.cells (Ln.arr ⟨1, k, lp, ls⟩) 37 (0, 0))) (hMp : ¬ M bp) (hMs : ¬ M bs) (hMl : ¬ M bl)
    (hn : c.homes.length ≤ 5) (hsl : s.length = c.homes.length) (hk : k < s.length) (hslots : 0 ≤ c.slots ∧ c.slots ≤ 100) :
    IterOk Tryz.prog 80 #[.pointer (some ⟨bs, 0, none⟩), .pointer (some ⟨bl, 0, none⟩), .pointer (some ⟨bp, 0, none⟩)] ((step c s ⟨1, k, lp, ls⟩).map encSt) O M W := by
  intro l J Jx hJ hJx hY h0
  have c1 : W.cell? ⟨bl, 1, none⟩ = some (.int .i64 k) := by rw [cell_of_heap hl]; rfl
  have c2 : W.cell? ⟨bs, k, none⟩ = some (.int .i64 (gi s k)) := by rw [cell_of_heap hs]; exact stA_get s k (by omega)
  by_cases hg : gi s k = -1
  · have hE := step_back c s k lp ls hg
    have HE := Lib.hid hE
    have hg' : (gi s k != -1) = false := by simp [hg]
    have c0 : W.cell? ⟨bp, 0, none⟩ = some (.pointer (some ⟨bc, 0, none⟩)) := by rw [cell_of_heap hp]; rfl
    have d0 := (hc W (Same.refl _ _)).s
    obtain ⟨n, hsn⟩ : ∃ n : Nat, c.slots = (n : Int) := ⟨c.slots.toNat, by omega⟩
    have hn100 : n ≤ 100 := by omega
    rw [hsn] at d0
    clear hE hg
    refine callsIn_wide.2 ?_
    go_enter Tryz.func80, Tryz.ntmps80
    go_wp2
    go_step3
    go_wp2
    go_step3
    go_wp2
    go_loopw [17] (fun i wr => ∃ j : Nat, j ≤ n ∧ i = .int .i64 j ∧ Same M W wr ∧ J ((List.range j).filterMap (backF c s k)).length wr) (fun i _ => n - (intOf i).toNat)
    case atStart => exact ⟨0, by omega, rfl, Same.refl _ _, h0⟩
    case round =>
      obtain ⟨j, hj, rfl, hSr, hJr⟩ := hrel
      by_cases hlt : j < n
      · have hcr := hc _ hSr
        have r0 := hSr.cell c0 hMp
        have hsr := (hSr.block bs (Array.getElem?_eq_some_iff.1 hs).1 hMs).trans hs
        obtain ⟨d0, d1, d2, d3, d4⟩ := five hsr
        have r1 := hSr.cell c1 hMl
        have hstep : Hid ((List.range (j + 1)).filterMap (backF c s k) = (List.range j).filterMap (backF c s k) ++ (backF c s k j).toList) := by
          unfold Hid; rw [List.range_succ, List.filterMap_append]; cases h : backF c s k j <;> simp [h]
        go_wp2_with fail
        refine (lies_any s (j : Int) hcr hn hsl).mono ?_
        rintro e w2 ⟨rfl, hb2⟩
        have hS2 := hSr.trans (Same.of_below M hb2)
        have hJ2 := hJ _ _ _ hJr (Same.of_below O hb2)
        by_cases hli : lies s (j : Int) = -1
        · have hli' : (lies s (j : Int) != -1) = false := by simp [hli]
          have hbf : Hid (backF c s k j = some (s.set k (j : Int), !decide ((j : Int) = gi c.homes k))) := by unfold Hid backF; rw [if_pos hli]
          have q0 := hS2.cell c0 hMp
          have q1 := hS2.cell c1 hMl
          have hs2 := (hS2.block bs (Array.getElem?_eq_some_iff.1 hs).1 hMs).trans hs
          obtain ⟨e0, e1, e2, e3, e4⟩ := five hs2
          have hst := stA_set s k (by omega) hk (j : Int)
          have hgl := stL_get s k (by omega)
          clear hli r0 r1 d0 d1 d2 d3 d4 hb2
          have g0 := lt_of_cell q0
          have g1 := lt_of_cell q1
          have g2 := lt_of_cell e0
          go_wp2_with fail
          have hb3 : Below w2.heap.size w2 (w2.alloc (.cells (stA (s.set k (j : Int))) 95)) := (Below.refl _ w2).alloc (Nat.le_refl _) _
          have hS3 := hS2.trans (Same.of_below M hb3)
          have hnew := (MapKept.heap_alloc w2 (.cells (stA (s.set k (j : Int))) 95)).1
          obtain ⟨m0, m1, m2, m3, m4⟩ := five hnew
          obtain ⟨n0, n1⟩ : (w2.alloc (.cells (stA (s.set k (j : Int))) 95)).cell? ⟨bp, 0, none⟩ = some (.pointer (some ⟨bc, 0, none⟩)) ∧ (w2.alloc (.cells (stA (s.set k (j : Int))) 95)).cell? ⟨bl, 1, none⟩ = some (.int .i64 k) := ⟨cell_stays hb3 q0, cell_stays hb3 q1⟩
          have hc3 := hc _ hS3
          obtain ⟨bh, oh, hah, hcell⟩ := hc3.hi k (by omega)
          subst hah
          have hc3h := hc3.h
          have x0 := fun x : Aft (w2.alloc (.cells (stA (s.set k (j : Int))) 95)).heap.size (w2.alloc (.cells (stA (s.set k (j : Int))) 95)) => cell_stays x.h m0
          have x1 := fun x : Aft (w2.alloc (.cells (stA (s.set k (j : Int))) 95)).heap.size (w2.alloc (.cells (stA (s.set k (j : Int))) 95)) => cell_stays x.h m1
          have x2 := fun x : Aft (w2.alloc (.cells (stA (s.set k (j : Int))) 95)).heap.size (w2.alloc (.cells (stA (s.set k (j : Int))) 95)) => cell_stays x.h m2
          have x3 := fun x : Aft (w2.alloc (.cells (stA (s.set k (j : Int))) 95)).heap.size (w2.alloc (.cells (stA (s.set k (j : Int))) 95)) => cell_stays x.h m3
          have x4 := fun x : Aft (w2.alloc (.cells (stA (s.set k (j : Int))) 95)).heap.size (w2.alloc (.cells (stA (s.set k (j : Int))) 95)) => cell_stays x.h m4
          have x5 := fun x : Aft (w2.alloc (.cells (stA (s.set k (j : Int))) 95)).heap.size (w2.alloc (.cells (stA (s.set k (j : Int))) 95)) => cell_stays x.h n0
          have x6 := fun x : Aft (w2.alloc (.cells (stA (s.set k (j : Int))) 95)).heap.size (w2.alloc (.cells (stA (s.set k (j : Int))) 95)) => cell_stays x.h n1
          have x7 := fun x : Aft (w2.alloc (.cells (stA (s.set k (j : Int))) 95)).heap.size (w2.alloc (.cells (stA (s.set k (j : Int))) 95)) => cell_stays x.h hc3h
          have x8 := fun x : Aft (w2.alloc (.cells (stA (s.set k (j : Int))) 95)).heap.size (w2.alloc (.cells (stA (s.set k (j : Int))) 95)) => cell_stays x.h hcell
          have hJ3 := hJ _ _ _ hJ2 (Same.of_below O hb3)
          have hkh : k < c.homes.length := by omega
          revert x0 x1 x2 x3 x4 x5 x6 x7 x8 hS3 hJ3 hkh
          clear m0 m1 m2 m3 m4 n0 n1 hc3 hcell hc3h hnew hJ2 q0 q1 e0 e1 e2 e3 e4 hs2 hb3 hst hcr hsr hJr
          generalize w2.alloc (.cells (stA (s.set k (j : Int))) 95) = w3
          intro hS3 x0 x1 x2 x3 x4 x5 x6 x7 x8 hJ3 hkh
          refine wpIn_wide.1 (wpIn_region_aft_tail (r := none) (m := 0) 13 mixed (by kernel_rfl) ?_)
          simp only [List.take_succ_cons, List.take_zero, List.drop_succ_cons, List.drop_zero]
          repeat (go_big_quiet_step (fail))
          refine wpQuiet_nil ?_
          rintro _ ⟨x, rfl⟩
          have hJx3 := hJ _ _ _ hJ3 (Same.of_below O x.h)
          have hSx := hS3.trans (Same.of_below M x.h)
          have hidx : ((step c s ⟨1, k, lp, ls⟩).map encSt)[((List.range j).filterMap (backF c s k)).length]? = some (encSt (s.set k (j : Int), !decide ((j : Int) = gi c.homes k))) := by
            rw [HE.out, hsn, List.getElem?_map, Int.toNat_natCast, filterMap_range_at hlt hbf.out]
            rfl
          obtain ⟨fn, tmps, assign, body, hy, hR⟩ := hY _ _ hidx x.v hJx3
          have hy' : (Instr.yield l #[stV (s.set k (j : Int)), .bool ((j : Int) != gi c.homes k)]).run Tryz.prog x.v = .ok (.round l fn tmps assign body) x.v := hy
          have HR := Lib.hid hR
          have HI := Lib.hid hidx
          clear hy hR hidx x0 x1 x2 x3 x4 x5 x6 x7 x8 hJ3 hS3
          gi_wp2_with fail
          refine ⟨rfl, HR.out.mono ?_⟩
          rintro e W4 (⟨rfl, hJ4, hk4⟩ | ⟨rfl, hJx4, hk4⟩)
          · gi_wp2
            go_wp2
            go_roundw
            case rel => exact ⟨j + 1, by omega, by go_num, hSx.trans hk4, by rw [hstep.out, hbf.out]; simpa using hJ4⟩
            case measure => simp [intOf]; omega
          · gi_wp2
            go_wp2
            rw [Exit.noGoto_ret]
            refine bodyPost_ret (results_none rfl _ _ _) rfl ?_
            refine ⟨⟨_, rfl⟩, .inr ⟨_, ?_, hJx4⟩⟩
            exact (List.getElem?_eq_some_iff.1 HI.out).1
        · have hli' : (lies s (j : Int) != -1) = true := by simp [hli]
          have hbf : Hid (backF c s k j = none) := by unfold Hid backF; rw [if_neg hli]
          clear hli
          go_wp2
          go_roundw
          case rel => exact ⟨j + 1, by omega, by go_num, hS2, by rw [hstep.out, hbf.out]; simpa using hJ2⟩
          case measure => simp [intOf]; omega
      · go_wp2
        rw [Exit.noGoto_normal]
        go_end0
        refine ⟨⟨_, rfl⟩, .inl ?_⟩
        obtain rfl : j = n := by omega
        rw [HE.out, hsn]
        simpa using hJr
  · have hE : step c s ⟨1, k, lp, ls⟩ = [] := by simp [step, hg]
    have HE := Lib.hid hE
    have hg' : (gi s k != -1) = true := by simp [hg]
    clear hE hg
    refine callsIn_wide.2 ?_
    go_enter Tryz.func80, Tryz.ntmps80
    go_wp2
    go_step3
    go_wp2
    rw [Exit.noGoto_ret]
    refine bodyPost_ret (results_none rfl _ _ _) rfl ?_
    exact ⟨⟨_, rfl⟩, .inl (by rw [HE.out]; exact h0)⟩
end Go.Proofs.YtbnhngfegnhaiaaGreatDoor
