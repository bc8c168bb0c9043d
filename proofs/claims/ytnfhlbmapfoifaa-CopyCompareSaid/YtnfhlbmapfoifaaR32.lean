/- CopyCompare: all prints. -/
import Derived.Test.YtnfhlbmapfoifaaR31
namespace Go.Proofs.Ytnfhlbmapfoifaa
open Go.RowKit
set_option linter.unusedVariables false

set_option maxRecDepth 100000 in
set_option maxHeartbeats 4000000 in
theorem compare_great {p : Prs} {a : Option Addr} {cap : Nat} {w : World} (ha : IsPrts w a p.cards) (hg : 16 < p.cards.length) {x y : Int} : Calls Try.prog 6 #[p.v a cap, .int .u8 x, .int .u8 y] w fun e w' => e = .returned (.bool true) ∧ Below w.heap.size w w' := by
  have hb0 : Below w.heap.size w (w.alloc (.cells (p.cells a cap) 26)) := (Below.refl _ w).alloc (Nat.le_refl _) _
  have q0 := World.alloc_heap_new w (.cells (p.cells a cap) 26)
  have HW := Lib.hid (And.intro hb0 (And.intro q0 (ha.mono hb0)))
  clear hb0 q0 ha
  go_enter Try.func6, Try.ntmps6
  go_wp2_with fail
  revert HW
  generalize w.alloc (.cells (p.cells a cap) 26) = w1
  intro HW
  have KP : Hid (∀ v, Below w1.heap.size w1 v → v.heap[w.heap.size]? = some (.cells (p.cells a cap) 26 (0, 0)) ∧ IsPrts v a p.cards ∧ Below w.heap.size w v) := fun v h => ⟨(h.block _ (heap_lt HW.out.2.1)).trans HW.out.2.1, HW.out.2.2.mono h, HW.out.1.trans (h.mono HW.out.1.size)⟩
  obtain ⟨k0, k1, k2, k3, k4⟩ := prs_cells (KP.out w1 (Below.refl _ _)).1
  refine (great5 (KP.out w1 (Below.refl _ _)).2.1).mono ?_
  rintro e b0 ⟨rfl, hb⟩
  have HB := Lib.hid hb
  clear hb k0 k1 k2 k3 k4
  rw [show decide (16 < p.cards.length) = true from by simpa using hg]
  go_wp2_with fail
  refine (alive_any b0).mono ?_
  rintro e c9 ⟨rfl, hb⟩
  have HB9 := Lib.hid (HB.out.trans (hb.mono HB.out.size))
  clear hb
  go_wp2_with fail
  go_ret
  exact ⟨rfl, (KP.out _ HB9.out).2.2⟩
theorem copyCompare_any {p : Prs} {a : Option Addr} {cap : Nat} {w : World} (ha : IsPrts w a p.cards) {x y : Int} (hx : 0 ≤ x ∧ x ≤ 255) (hy : 0 ≤ y ∧ y ≤ 255) : Calls Try.prog 6 #[p.v a cap, .int .u8 x, .int .u8 y] w fun e w' => e = .returned (.bool true) ∧ Below w.heap.size w w' := by
  by_cases hg : 16 < p.cards.length
  · exact compare_great ha hg
  · have hn : p.cards.length ≤ 16 := by omega
    by_cases hE : ordersE p = 0
    · by_cases h1 : (ordersL p).length = 1
      · exact compare_one ha hn hE h1 hx hy
      · refine compare_many ha hn hE ?_ hx hy
        have : (ordersL p).length ≠ 0 := fun h => by
          have h0 : ordersL p = [] := List.eq_nil_of_length_eq_zero h
          have hv := ordersE_valid hE
          unfold ordersE at hE
          rw [hv, h0] at hE
          simp at hE
        omega
    · exact compare_no ha hn hE hx hy
end Go.Proofs.Ytnfhlbmapfoifaa
