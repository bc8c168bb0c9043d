/- The reference's check; the laws' great. -/
import Derived.Test.YtnfhlbmapfoifaaR1
namespace Go.Proofs.Ytnfhlbmapfoifaa
open Go.RowKit
set_option linter.unusedVariables false

theorem rcheck_any {p : Prs} {a : Option Addr} {cap : Nat} {w : World} (ha : IsPrts w a p.cards) (hn : p.cards.length ≤ 16) (ok : Bool) :
    Calls Try.prog 57 #[p.v a cap, .bool ok] w fun e w' => e = .returned (.int .i64 (openE p ok)) ∧ Below w.heap.size w w' := by
  have hb0 : Below w.heap.size w (w.alloc (.cells (p.cells a cap) 26)) := (Below.refl _ w).alloc (Nat.le_refl _) _
  have HB := Lib.hid hb0
  have HA := Lib.hid (ha.mono hb0)
  clear ha hb0
  cases hv : p.valid <;> cases ok
  all_goals
    go_enter Try.func57, Try.ntmps57
    go_wp2_with fail
    refine (prints_any HA.out hn).mono ?_
    rintro e w1 ⟨rfl, hb⟩
    rw [hv]
    go_wp2_with fail
    go_ret
    exact ⟨ret_int (by simp [openE, hv]), HB.out.trans (hb.mono HB.out.size)⟩
theorem great_any {p : Prs} {a : Option Addr} {cap : Nat} {w : World} (ha : IsPrts w a p.cards) (m : Nat) (hm : m ≤ 5) :
    Calls Try.prog 13 #[p.v a cap, .int .i64 m] w fun e w' => e = .returned (.bool (decide (16 < p.cards.length) || (decide (m < p.cards.length) && p.valid))) ∧ Below w.heap.size w w' := by
  have hb0 : Below w.heap.size w (w.alloc (.cells (p.cells a cap) 26)) := (Below.refl _ w).alloc (Nat.le_refl _) _
  have HB := Lib.hid hb0
  have HA := Lib.hid (ha.mono hb0)
  clear ha hb0
  by_cases h1 : 16 < p.cards.length
  · go_enter Try.func13, Try.ntmps13
    go_wp2_with fail
    go_ret
    exact ⟨ret_bool (by simp), HB.out⟩
  · by_cases h2 : m < p.cards.length
    · go_enter Try.func13, Try.ntmps13
      go_wp2_with fail
      refine (prints_any HA.out (by omega)).mono ?_
      rintro e w1 ⟨rfl, hb⟩
      go_wp2_with fail
      go_ret
      exact ⟨ret_bool (by cases p.valid <;> simp [h2] <;> omega), HB.out.trans (hb.mono HB.out.size)⟩
    · go_enter Try.func13, Try.ntmps13
      go_wp2_with fail
      go_ret
      exact ⟨ret_bool (by simp [h2]; omega), HB.out⟩
end Go.Proofs.Ytnfhlbmapfoifaa
