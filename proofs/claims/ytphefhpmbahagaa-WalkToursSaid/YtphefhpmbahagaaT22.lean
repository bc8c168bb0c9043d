/- The reference: check. -/
import Derived.Test.YtphefhpmbahagaaT21
namespace Go.Proofs.Ytphefhpmbahagaa
open Go.RowKit
set_option linter.unusedVariables false
set_option linter.unusedSimpArgs false

theorem rcheck50 {t : Tr} {A : TrA} {w : World} (ha : IsTr w t A) (hs : t.Small) (ok : Bool) :
    Calls Try.prog 50 #[t.v A, .bool ok] w fun e w' => e = .returned (.int .i64 (openE t ok)) ∧ Below w.heap.size w w' := by
  have hb : Below w.heap.size w (w.alloc (.cells (t.cells A) 25)) := (Below.refl _ w).alloc (Nat.le_refl _) _
  have hq := World.alloc_heap_new w (.cells (t.cells A) 25)
  have HE : Hid (openE t ok = if !t.valid then 1 else if !ok then 2 else 0) := rfl
  have HB := Lib.hid (And.intro hb (And.intro hq (And.intro (ha.mono hb) hs)))
  clear hb hq ha hs
  go_enter Try.func50, Try.ntmps50
  go_upto_region 1 with fail
  revert HB
  generalize (w.alloc (.cells (t.cells A) 25)) = w1
  intro HB
  obtain ⟨k0, k1, k2, k3, k4⟩ := tr_cells HB.out.2.1
  have HC := Lib.hid (rtour33 HB.out.2.2.1 HB.out.2.2.2)
  go_wp2_with fail
  refine HC.out.mono ?_
  rintro e w2 ⟨rfl, hb2⟩
  have HB2 := Lib.hid (HB.out.1.trans (hb2.mono HB.out.1.size))
  clear k0 k1 k2 k3 k4 hb2
  cases hv : t.valid
  · rw [hv] at HE
    clear hv
    go_wp2_with fail
    go_ret
    exact ⟨ret_int (by rw [HE.out]; rfl), HB2.out⟩
  · rw [hv] at HE
    clear hv
    cases ok
    · go_wp2_with fail
      go_ret
      exact ⟨ret_int (by rw [HE.out]; rfl), HB2.out⟩
    · go_wp2_with fail
      go_ret
      exact ⟨ret_int (by rw [HE.out]; rfl), HB2.out⟩
end Go.Proofs.Ytphefhpmbahagaa
