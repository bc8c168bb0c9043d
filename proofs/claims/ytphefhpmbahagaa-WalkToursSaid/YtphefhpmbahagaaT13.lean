/- A tour that is opened. -/
import Derived.Test.YtphefhpmbahagaaT12
namespace Go.Proofs.Ytphefhpmbahagaa
open Go.RowKit
set_option linter.unusedVariables false
set_option linter.unusedSimpArgs false

set_option maxRecDepth 100000 in
set_option maxHeartbeats 1000000 in
theorem open_yes {t : Tr} {A : TrA} {g : Nat} {cp : Array Value} {w : World} (ha : IsTr w t A) (hs : t.Small) (hv : t.valid = true) (eg : ∀ args w, (callFunc g args).run Try.prog w = .ok (.enter g args) w)
    (hc : ∀ (tb : Nat) (W : World), TourP W tb t A → Below w.heap.size w W → Calls Try.prog g (#[.pointer (some ⟨tb, 0, none⟩)] ++ cp) W fun e w' => e = .returned (.bool true) ∧ Below W.heap.size W w') :
    Calls Try.prog 46 #[t.v A, .func (.func g) #[] cp] w fun e w' => ∃ tb, e = .returned (.pointer (some ⟨tb, 0, none⟩)) ∧ w.heap.size ≤ tb ∧ TourP w' tb t A ∧ Below w.heap.size w w' := by
  have hb : Below w.heap.size w (w.alloc (.cells (t.cells A) 25)) := (Below.refl _ w).alloc (Nat.le_refl _) _
  have hq := World.alloc_heap_new w (.cells (t.cells A) 25)
  have HB := Lib.hid (And.intro hb (And.intro hq (And.intro (ha.mono hb) hs)))
  have HC := Lib.hid hc
  clear hb hq ha hc hs
  go_enter Try.func46, Try.ntmps46
  go_upto_region 1 with fail
  obtain ⟨hb, hq, ha, hs⟩ := HB.out
  revert hb hq ha
  generalize (w.alloc (.cells (t.cells A) 25)) = w1
  intro hb hq ha
  obtain ⟨k0, k1, k2, k3, k4⟩ := tr_cells hq
  go_wp2_with fail
  refine (isTour79 ha hs).mono ?_
  rintro e w2 ⟨rfl, hb2⟩
  have hB2 := bst hb hb2 (Nat.le_refl _)
  have hq2 := (hb2.block _ (heap_lt hq)).trans hq
  have ha2 := ha.mono hb2
  clear k0 k1 k2 k3 k4 ha
  rw [hv]
  obtain ⟨k0, k1, k2, k3, k4⟩ := tr_cells hq2
  have hb3 : Below w2.heap.size w2 (w2.alloc (.cells (t.obj A) 91)) := (Below.refl _ w2).alloc (Nat.le_refl _) _
  have q3 := World.alloc_heap_new w2 (.cells (t.obj A) 91)
  have hB3 := hB2.trans (hb3.mono hB2.size)
  have hcall := HC.out _ _ ⟨q3, ha2.mono hb3⟩ hB3
  have HF := Lib.hid (And.intro hcall (And.intro hB3 (And.intro hB2.size (And.intro q3 (ha2.mono hb3)))))
  clear hb3 q3 hB3 hcall ha2
  go_wp2_with (go_at_call 63; refine (need_yes _ _).mono ?_; rintro e w' ⟨rfl, rfl⟩)
  refine HF.out.1.mono ?_
  rintro e w4 ⟨rfl, hb4⟩
  go_wp2_with (go_at_call 63; refine (need_yes _ _).mono ?_; rintro e w' ⟨rfl, rfl⟩)
  go_ret
  exact ⟨_, rfl, HF.out.2.2.1, ⟨(hb4.block _ (heap_lt HF.out.2.2.2.1)).trans HF.out.2.2.2.1, HF.out.2.2.2.2.mono hb4⟩, HF.out.2.1.trans (hb4.mono HF.out.2.1.size)⟩
set_option maxRecDepth 100000 in
set_option maxHeartbeats 1000000 in
theorem open_no {t : Tr} {A : TrA} {g : Nat} {cp : Array Value} {w : World} (ha : IsTr w t A) (hs : t.Small) {ok : Bool} (hv : openE t ok ≠ 0) (eg : ∀ args w, (callFunc g args).run Try.prog w = .ok (.enter g args) w)
    (hc : t.valid = true → ∀ (tb : Nat) (W : World), TourP W tb t A → Below w.heap.size w W → Calls Try.prog g (#[.pointer (some ⟨tb, 0, none⟩)] ++ cp) W fun e w' => e = .returned (.bool ok) ∧ Below W.heap.size W w') :
    Calls Try.prog 46 #[t.v A, .func (.func g) #[] cp] w fun e w' => e = .panicked [{ v := .iface 106 (.agg #[.int .i64 (openE t ok)]), recovered := false }] ∧ Below w.heap.size w w' := by
  have HV := Lib.hid hv
  clear hv
  have hb : Below w.heap.size w (w.alloc (.cells (t.cells A) 25)) := (Below.refl _ w).alloc (Nat.le_refl _) _
  have hq := World.alloc_heap_new w (.cells (t.cells A) 25)
  have HB := Lib.hid (And.intro hb (And.intro hq (And.intro (ha.mono hb) hs)))
  have HC := Lib.hid hc
  clear hb hq ha hc hs
  go_enter Try.func46, Try.ntmps46
  go_upto_region 1 with fail
  obtain ⟨hb, hq, ha, hs⟩ := HB.out
  revert hb hq ha
  generalize (w.alloc (.cells (t.cells A) 25)) = w1
  intro hb hq ha
  obtain ⟨k0, k1, k2, k3, k4⟩ := tr_cells hq
  go_wp2_with fail
  refine (isTour79 ha hs).mono ?_
  rintro e w2 ⟨rfl, hb2⟩
  have hB2 := bst hb hb2 (Nat.le_refl _)
  have hq2 := (hb2.block _ (heap_lt hq)).trans hq
  have ha2 := ha.mono hb2
  clear k0 k1 k2 k3 k4 ha
  cases hv : t.valid
  · have HE : Hid (openE t ok = 1) := by unfold Hid openE; rw [hv]; rfl
    go_wp2_with (go_at_call 63; refine (need_no _ _).mono ?_; rintro e w' ⟨rfl, rfl⟩)
    rw [HE.out]
    exact ⟨rfl, rfl, hB2⟩
  · have HC := Lib.hid (HC.out hv)
    cases ok with
    | true => exact (HV.out (by unfold openE; rw [hv]; rfl)).elim
    | false =>
      have HE : Hid (openE t false = 2) := by unfold Hid openE; rw [hv]; rfl
      obtain ⟨k0, k1, k2, k3, k4⟩ := tr_cells hq2
      have hb3 : Below w2.heap.size w2 (w2.alloc (.cells (t.obj A) 91)) := (Below.refl _ w2).alloc (Nat.le_refl _) _
      have q3 := World.alloc_heap_new w2 (.cells (t.obj A) 91)
      have hB3 := hB2.trans (hb3.mono hB2.size)
      have hcall := HC.out _ _ ⟨q3, ha2.mono hb3⟩ hB3
      have HF := Lib.hid (And.intro hcall (And.intro hB3 (And.intro hB2.size (And.intro q3 (ha2.mono hb3)))))
      clear hb3 q3 hB3 hcall ha2
      go_wp2_with (go_at_call 63; refine (need_yes _ _).mono ?_; rintro e w' ⟨rfl, rfl⟩)
      refine HF.out.1.mono ?_
      rintro e w4 ⟨rfl, hb4⟩
      go_wp2_with (go_at_call 63; refine (need_no _ _).mono ?_; rintro e w' ⟨rfl, rfl⟩)
      rw [HE.out]
      exact ⟨rfl, rfl, HF.out.2.1.trans (hb4.mono HF.out.2.1.size)⟩
end Go.Proofs.Ytphefhpmbahagaa
