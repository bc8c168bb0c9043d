/- What the document fixes is so. What the names fix is so. -/
import Derived.Test.YtnfhlbmapfoifaaW50
namespace Go.Proofs.Ytnfhlbmapfoifaa
open Go.RowKit
set_option linter.unusedVariables false

theorem pileP_v (a : Option Addr) (n : Nat) (h : n ≤ 4) : Value.agg #[.slice a n 4, .int .i64 3, .int .i64 5, .int .i64 10, .int .i64 20] = (pileP n).v a 4 := by
  have : (pileP n).cards.length = n := by simp [pileP]; omega
  show _ = Value.agg #[.slice a (pileP n).cards.length 4, _, _, _, _]
  rw [this]
  rfl
theorem pileQ_v (a : Option Addr) : Value.agg #[.slice a 3 3, .int .i64 0, .int .i64 5, .int .i64 0, .int .i64 10] = pileQ.v a 3 := rfl
theorem P4n : (pileP 4).cards.length ≤ 16 := by decide
theorem P3n : (pileP 3).cards.length ≤ 16 := by decide
theorem Qn : pileQ.cards.length ≤ 16 := by decide
theorem ways_P {w : World} {g : Nat} (h : IsPrts w (some ⟨g, 0, none⟩) (pileP 4).cards) : Calls Try.prog 32 #[.agg #[.slice (some ⟨g, 0, none⟩) 4 4, .int .i64 3, .int .i64 5, .int .i64 10, .int .i64 20]] w fun e w' => e = .returned (.tuple #[.int .i64 8, .int .i64 0]) ∧ Below w.heap.size w w' := by
  rw [pileP_v _ 4 (by decide)]
  refine (waysC_any h P4n).mono ?_
  rintro e w' ⟨rfl, hb⟩
  rw [ex_ways.1]
  exact ⟨rfl, hb⟩
theorem ways_Q {w : World} {g : Nat} (h : IsPrts w (some ⟨g, 0, none⟩) pileQ.cards) : Calls Try.prog 32 #[.agg #[.slice (some ⟨g, 0, none⟩) 3 3, .int .i64 0, .int .i64 5, .int .i64 0, .int .i64 10]] w fun e w' => e = .returned (.tuple #[.int .i64 16, .int .i64 0]) ∧ Below w.heap.size w w' := by
  rw [pileQ_v]
  refine (waysC_any h Qn).mono ?_
  rintro e w' ⟨rfl, hb⟩
  rw [ex_ways.2]
  exact ⟨rfl, hb⟩
theorem few_P {w : World} {g : Nat} (h : IsPrts w (some ⟨g, 0, none⟩) (pileP 4).cards) : Calls Try.prog 28 #[.agg #[.slice (some ⟨g, 0, none⟩) 4 4, .int .i64 3, .int .i64 5, .int .i64 10, .int .i64 20]] w fun e w' => ∃ av cv, e = .returned (.tuple #[.slice av 4 cv, .int .i64 1, .int .i64 0]) ∧ IsInts w' av [-1, 0, 1, 0] ∧ Below w.heap.size w w' := by
  rw [pileP_v _ 4 (by decide)]
  refine (fewest_yes h P4n ex_few2.2.2).mono ?_
  rintro e w' ⟨av, cv, rfl, hi, hb⟩
  rw [ex_few2.2.1]
  rw [ex_few2.1] at hi ⊢
  exact ⟨av, cv, rfl, hi, hb⟩
theorem from_P {w : World} {g : Nat} (h : IsPrts w (some ⟨g, 0, none⟩) (pileP 4).cards) : Calls Try.prog 15 #[.agg #[.slice (some ⟨g, 0, none⟩) 4 4, .int .i64 3, .int .i64 5, .int .i64 10, .int .i64 20], .int .i64 2, .int .i64 0] w fun e w' => e = .returned (.tuple #[.int .i64 2, .int .i64 0]) ∧ Below w.heap.size w w' := by
  rw [pileP_v _ 4 (by decide)]
  refine (from_any h P4n 2 0).mono ?_
  rintro e w' ⟨rfl, hb⟩
  rw [ex_from.1]
  exact ⟨rfl, hb⟩
theorem ord_P {w : World} {g : Nat} (h : IsPrts w (some ⟨g, 0, none⟩) (pileP 3).cards) : Calls Try.prog 17 #[.agg #[.slice (some ⟨g, 0, none⟩) 3 4, .int .i64 3, .int .i64 5, .int .i64 10, .int .i64 20]] w fun e w' => ∃ av cv, e = .returned (.tuple #[.slice av 1 cv, .int .i64 0]) ∧ IsLists w' av [[0, 1, 2]] ∧ Below w.heap.size w w' := by
  rw [pileP_v _ 3 (by decide)]
  refine (orders17 h P3n).mono ?_
  rintro e w' ⟨v, rfl, ⟨hr, _⟩, hb⟩
  obtain ⟨av, cv, rfl, hi⟩ := (hr ex_ord3.1).lists
  rw [ex_ord3.1]
  rw [ex_ord3.2] at hi ⊢
  exact ⟨av, cv, rfl, hi, hb⟩
theorem comp_Q {w : World} {g : Nat} (h : IsPrts w (some ⟨g, 0, none⟩) pileQ.cards) : Calls Try.prog 19 #[.agg #[.slice (some ⟨g, 0, none⟩) 3 3, .int .i64 0, .int .i64 5, .int .i64 0, .int .i64 10]] w fun e w' => e = .returned (.tuple #[.int .i64 0, .int .i64 1, .int .i64 3, .int .i64 0]) ∧ Below w.heap.size w w' := by
  rw [pileQ_v]
  refine (compare19 h Qn).mono ?_
  rintro e w' ⟨rfl, hb⟩
  rw [ex_comp]
  exact ⟨rfl, hb⟩
theorem need_Q {w : World} {g : Nat} (h : IsPrts w (some ⟨g, 0, none⟩) pileQ.cards) : Calls Try.prog 22 #[.agg #[.slice (some ⟨g, 0, none⟩) 3 3, .int .i64 0, .int .i64 5, .int .i64 0, .int .i64 10]] w fun e w' => e = .returned (.tuple #[.int .i64 3, .int .i64 0]) ∧ Below w.heap.size w w' := by
  rw [pileQ_v]
  refine (needs22 h Qn).mono ?_
  rintro e w' ⟨rfl, hb⟩
  rw [ex_needs]
  exact ⟨rfl, hb⟩
theorem lists_one {w : World} {g h : Nat} (h1 : w.heap[g]? = some (.cells #[.int .i64 0, .int .i64 1, .int .i64 2] 3 (0, 0))) (h2 : w.heap[h]? = some (.cells #[.slice (some ⟨g, 0, none⟩) 3 3] 42 (0, 0))) : IsLists w (some ⟨h, 0, none⟩) [[0, 1, 2]] := fun i hi => by
  obtain rfl : i = 0 := by simp at hi; omega
  refine ⟨h, 0, rfl, some ⟨g, 0, none⟩, 3, by rw [cell_of_heap h2]; rfl, fun j hj => ?_⟩
  have : j = 0 ∨ j = 1 ∨ j = 2 := by simp at hj; omega
  rcases this with rfl | rfl | rfl
  all_goals exact ⟨g, 0, rfl, by rw [cell_of_heap h1]; rfl⟩
theorem ints_four {w : World} {g : Nat} (h : w.heap[g]? = some (.cells #[.int .i64 (-1), .int .i64 0, .int .i64 1, .int .i64 0] 3 (0, 0))) : IsInts w (some ⟨g, 0, none⟩) [-1, 0, 1, 0] := fun i hi => by
  have : i = 0 ∨ i = 1 ∨ i = 2 ∨ i = 3 := by simp at hi; omega
  rcases this with rfl | rfl | rfl | rfl
  all_goals exact ⟨g, 0, rfl, by rw [cell_of_heap h]; rfl⟩
set_option maxRecDepth 100000 in
set_option maxHeartbeats 4000000 in
theorem alive_any (w : World) : Calls Try.prog 14 #[] w fun e w' => e = .returned (.bool true) ∧ Below w.heap.size w w' := by
  go_enter Try.func14, Try.ntmps14
  go_wp2_with fail
  refine (pileP_any 4 (by decide) w).mono ?_
  rintro e a1 ⟨g, rfl, hg, hb⟩
  have H1 := Lib.hid (And.intro hg hb)
  clear hg hb
  go_wp2_with fail
  refine (ways_P H1.out.1).mono ?_
  rintro e a2 ⟨rfl, hb⟩
  have HB2 := Lib.hid (H1.out.2.trans (hb.mono H1.out.2.size))
  clear hb H1
  go_wp2_with fail
  refine (pileQ_any a2).mono ?_
  rintro e a3 ⟨g, rfl, hg, hb⟩
  have H1 := Lib.hid (And.intro hg (HB2.out.trans (hb.mono HB2.out.size)))
  clear hg hb HB2
  go_wp2_with fail
  refine (ways_Q H1.out.1).mono ?_
  rintro e a4 ⟨rfl, hb⟩
  have HB2 := Lib.hid (H1.out.2.trans (hb.mono H1.out.2.size))
  clear hb H1
  go_wp2_with fail
  refine (pileP_any 4 (by decide) a4).mono ?_
  rintro e a5 ⟨g, rfl, hg, hb⟩
  have H1 := Lib.hid (And.intro hg (HB2.out.trans (hb.mono HB2.out.size)))
  clear hg hb HB2
  go_wp2_with fail
  refine (few_P H1.out.1).mono ?_
  rintro e a6 ⟨av, cv, rfl, hi, hb⟩
  have HI := Lib.hid hi
  have HB2 := Lib.hid (H1.out.2.trans (hb.mono H1.out.2.size))
  clear hb H1 hi
  go_wp2_with fail
  refine (pileP_any 4 (by decide) a6).mono ?_
  rintro e a7 ⟨g, rfl, hg, hb⟩
  have H1 := Lib.hid (And.intro hg (HB2.out.trans (hb.mono HB2.out.size)))
  have HI2 := Lib.hid (HI.out.mono hb)
  clear hg hb HB2 HI
  go_wp2_with fail
  refine (from_P H1.out.1).mono ?_
  rintro e a8 ⟨rfl, hb⟩
  have HB2 := Lib.hid (H1.out.2.trans (hb.mono H1.out.2.size))
  have HI := Lib.hid (HI2.out.mono hb)
  clear hb H1 HI2
  go_wp2_with fail
  refine (pileP_any 3 (by decide) a8).mono ?_
  rintro e a9 ⟨g, rfl, hg, hb⟩
  have H1 := Lib.hid (And.intro hg (HB2.out.trans (hb.mono HB2.out.size)))
  have HI2 := Lib.hid (HI.out.mono hb)
  clear hg hb HB2 HI
  go_wp2_with fail
  refine (ord_P H1.out.1).mono ?_
  rintro e b1 ⟨al, cl, rfl, hl, hb⟩
  have HB2 := Lib.hid (H1.out.2.trans (hb.mono H1.out.2.size))
  have HI := Lib.hid (And.intro (HI2.out.mono hb) hl)
  clear hb H1 HI2 hl
  go_wp2_with fail
  refine (pileQ_any b1).mono ?_
  rintro e b2 ⟨g, rfl, hg, hb⟩
  have H1 := Lib.hid (And.intro hg (HB2.out.trans (hb.mono HB2.out.size)))
  have HI2 := Lib.hid (And.intro (HI.out.1.mono hb) (HI.out.2.mono hb))
  clear hg hb HB2 HI
  go_wp2_with fail
  refine (comp_Q H1.out.1).mono ?_
  rintro e b3 ⟨rfl, hb⟩
  have HB2 := Lib.hid (H1.out.2.trans (hb.mono H1.out.2.size))
  have HI := Lib.hid (And.intro (HI2.out.1.mono hb) (HI2.out.2.mono hb))
  clear hb H1 HI2
  go_wp2_with fail
  refine (pileQ_any b3).mono ?_
  rintro e b4 ⟨g, rfl, hg, hb⟩
  have H1 := Lib.hid (And.intro hg (HB2.out.trans (hb.mono HB2.out.size)))
  have HI2 := Lib.hid (And.intro (HI.out.1.mono hb) (HI.out.2.mono hb))
  clear hg hb HB2 HI
  go_wp2_with fail
  refine (need_Q H1.out.1).mono ?_
  rintro e b5 ⟨rfl, hb⟩
  have HB2 := Lib.hid (H1.out.2.trans (hb.mono H1.out.2.size))
  have HI := Lib.hid (And.intro (HI2.out.1.mono hb) (HI2.out.2.mono hb))
  clear hb H1 HI2
  go_wp2_with fail
  have hb6 : Below b5.heap.size b5 (b5.alloc (.cells #[.int .i64 (-1), .int .i64 0, .int .i64 1, .int .i64 0] 3)) := (Below.refl _ _).alloc (Nat.le_refl _) _
  have q6 := World.alloc_heap_new b5 (.cells #[.int .i64 (-1), .int .i64 0, .int .i64 1, .int .i64 0] 3)
  refine (ints27 (l := [-1, 0, 1, 0]) (m := [-1, 0, 1, 0]) (ca := cv) (cb := 4) (HI.out.1.mono hb6) (ints_four q6) (by decide) (by decide)).mono ?_
  rintro e b6 ⟨rfl, hb⟩
  have hB6 := HB2.out.trans ((hb6.trans (hb.mono hb6.size)).mono HB2.out.size)
  have HI3 := Lib.hid (And.intro (HI.out.2.mono (hb6.trans (hb.mono hb6.size))) hB6)
  clear hb6 q6 hb hB6 HB2 HI
  rw [show decide (([-1, 0, 1, 0] : List Int) = [-1, 0, 1, 0]) = true by decide]
  go_wp2_with fail
  have q7 := World.alloc_heap_new b6 (.cells #[.int .i64 0, .int .i64 1, .int .i64 2] 3)
  have q8 := World.alloc_heap_new (b6.alloc (.cells #[.int .i64 0, .int .i64 1, .int .i64 2] 3)) (.cells #[.slice (some ⟨b6.heap.size, 0, none⟩) 3 3] 42)
  have hb7 : Below b6.heap.size b6 ((b6.alloc (.cells #[.int .i64 0, .int .i64 1, .int .i64 2] 3)).alloc (.cells #[.slice (some ⟨b6.heap.size, 0, none⟩) 3 3] 42)) := ((Below.refl _ _).alloc (Nat.le_refl _) _).alloc (by simp) _
  rw [World.size_alloc] at q8
  have q7' := (Below.heap_alloc (b6.alloc (.cells #[.int .i64 0, .int .i64 1, .int .i64 2] 3)) (.cells #[.slice (some ⟨b6.heap.size, 0, none⟩) 3 3] 42) b6.heap.size (by simp)).trans q7
  refine (lists21 (l := [[0, 1, 2]]) (m := [[0, 1, 2]]) (ca := cl) (cb := 1) (HI3.out.1.mono hb7) (lists_one q7' q8) (by decide) (by decide) (by decide) (by decide)).mono ?_
  rintro e b8 ⟨rfl, hb⟩
  have hB8 := Lib.hid (HI3.out.2.trans ((hb7.trans (hb.mono hb7.size)).mono HI3.out.2.size))
  clear q7 q8 hb7 q7' hb HI3
  rw [show decide (([[0, 1, 2]] : List (List Int)) = [[0, 1, 2]]) = true by decide]
  go_wp2_with fail
  go_ret
  exact ⟨rfl, hB8.out⟩
end Go.Proofs.Ytnfhlbmapfoifaa

namespace Go.Proofs.Ytnfhlbmapfoifaa
open Go.RowKit
set_option linter.unusedVariables false

theorem fitsN10 {w : World} {g : Nat} (h : IsPrts w (some ⟨g, 0, none⟩) (pileP 4).cards) : Calls Try.prog 34 #[.agg #[.slice (some ⟨g, 0, none⟩) 4 4, .int .i64 3, .int .i64 5, .int .i64 10, .int .i64 20], .int .i64 1, .int .i64 0] w fun e w' => e = .returned (.tuple #[.bool true, .int .i64 0]) ∧ Below w.heap.size w w' := by
  rw [pileP_v _ 4 (by decide)]
  refine (fits_any h P4n 1 0).mono ?_
  rintro e w' ⟨rfl, hb⟩
  rw [ex_fits.1]
  exact ⟨rfl, hb⟩
theorem fitsN20 {w : World} {g : Nat} (h : IsPrts w (some ⟨g, 0, none⟩) (pileP 4).cards) : Calls Try.prog 34 #[.agg #[.slice (some ⟨g, 0, none⟩) 4 4, .int .i64 3, .int .i64 5, .int .i64 10, .int .i64 20], .int .i64 2, .int .i64 0] w fun e w' => e = .returned (.tuple #[.bool false, .int .i64 0]) ∧ Below w.heap.size w w' := by
  rw [pileP_v _ 4 (by decide)]
  refine (fits_any h P4n 2 0).mono ?_
  rintro e w' ⟨rfl, hb⟩
  rw [ex_fits.2.1]
  exact ⟨rfl, hb⟩
theorem fitsN23 {w : World} {g : Nat} (h : IsPrts w (some ⟨g, 0, none⟩) (pileP 4).cards) : Calls Try.prog 34 #[.agg #[.slice (some ⟨g, 0, none⟩) 4 4, .int .i64 3, .int .i64 5, .int .i64 10, .int .i64 20], .int .i64 2, .int .i64 3] w fun e w' => e = .returned (.tuple #[.bool false, .int .i64 0]) ∧ Below w.heap.size w w' := by
  rw [pileP_v _ 4 (by decide)]
  refine (fits_any h P4n 2 3).mono ?_
  rintro e w' ⟨rfl, hb⟩
  rw [ex_fits.2.2]
  exact ⟨rfl, hb⟩
theorem parN2 {w : World} {g : Nat} (h : IsPrts w (some ⟨g, 0, none⟩) (pileP 4).cards) : Calls Try.prog 33 #[.agg #[.slice (some ⟨g, 0, none⟩) 4 4, .int .i64 3, .int .i64 5, .int .i64 10, .int .i64 20], .int .i64 2] w fun e w' => e = .returned (.tuple #[.int .i64 2, .bool true, .int .i64 0]) ∧ Below w.heap.size w w' := by
  rw [pileP_v _ 4 (by decide)]
  refine (parents_any h P4n 2).mono ?_
  rintro e w' ⟨rfl, hb⟩
  rw [ex_parents.1]
  exact ⟨rfl, hb⟩
theorem parN0 {w : World} {g : Nat} (h : IsPrts w (some ⟨g, 0, none⟩) (pileP 4).cards) : Calls Try.prog 33 #[.agg #[.slice (some ⟨g, 0, none⟩) 4 4, .int .i64 3, .int .i64 5, .int .i64 10, .int .i64 20], .int .i64 0] w fun e w' => e = .returned (.tuple #[.int .i64 0, .bool true, .int .i64 0]) ∧ Below w.heap.size w w' := by
  rw [pileP_v _ 4 (by decide)]
  refine (parents_any h P4n 0).mono ?_
  rintro e w' ⟨rfl, hb⟩
  rw [ex_parents.2]
  exact ⟨rfl, hb⟩
theorem fromN31 {w : World} {g : Nat} (h : IsPrts w (some ⟨g, 0, none⟩) (pileP 4).cards) : Calls Try.prog 15 #[.agg #[.slice (some ⟨g, 0, none⟩) 4 4, .int .i64 3, .int .i64 5, .int .i64 10, .int .i64 20], .int .i64 3, .int .i64 1] w fun e w' => e = .returned (.tuple #[.int .i64 0, .int .i64 0]) ∧ Below w.heap.size w w' := by
  rw [pileP_v _ 4 (by decide)]
  refine (from_any h P4n 3 1).mono ?_
  rintro e w' ⟨rfl, hb⟩
  rw [ex_from.2]
  exact ⟨rfl, hb⟩
theorem ord_P4 {w : World} {g : Nat} (h : IsPrts w (some ⟨g, 0, none⟩) (pileP 4).cards) : Calls Try.prog 17 #[.agg #[.slice (some ⟨g, 0, none⟩) 4 4, .int .i64 3, .int .i64 5, .int .i64 10, .int .i64 20]] w fun e w' => e = .returned (.tuple #[.slice none 0 0, .int .i64 4]) ∧ Below w.heap.size w w' := by
  rw [pileP_v _ 4 (by decide)]
  refine (orders17 h P4n).mono ?_
  rintro e w' ⟨v, rfl, ⟨_, hr⟩, hb⟩
  rw [ex_orders.2.2] at hr ⊢
  rw [hr (by decide)]
  exact ⟨rfl, hb⟩
theorem ex_Q6 : ordersE pileQ = 0 := by decide +kernel
theorem ord_Q {w : World} {g : Nat} (h : IsPrts w (some ⟨g, 0, none⟩) pileQ.cards) : Calls Try.prog 17 #[.agg #[.slice (some ⟨g, 0, none⟩) 3 3, .int .i64 0, .int .i64 5, .int .i64 0, .int .i64 10]] w fun e w' => ∃ av cv, e = .returned (.tuple #[.slice av 6 cv, .int .i64 0]) ∧ Below w.heap.size w w' := by
  rw [pileQ_v]
  refine (orders17 h Qn).mono ?_
  rintro e w' ⟨v, rfl, ⟨hr, _⟩, hb⟩
  obtain ⟨av, cv, rfl, hi⟩ := (hr ex_Q6).lists
  rw [ex_Q6, ex_orders.2.1]
  exact ⟨av, cv, rfl, hb⟩
set_option maxRecDepth 100000 in
set_option maxHeartbeats 4000000 in
theorem copyNames_any (w : World) : Calls Try.prog 9 #[] w fun e w' => e = .returned (.bool true) ∧ Below w.heap.size w w' := by
  go_enter Try.func9, Try.ntmps9
  go_wp2_with fail
  refine (pileP_any 4 (by decide) w).mono ?_
  rintro e a1 ⟨g, rfl, hg, hb⟩
  have H1 := Lib.hid (And.intro hg hb)
  clear hg hb
  go_wp2_with fail
  refine (fitsN10 H1.out.1).mono ?_
  rintro e b1 ⟨rfl, hb⟩
  have HB2 := Lib.hid (H1.out.2.trans (hb.mono H1.out.2.size))
  clear hb H1
  go_wp2_with fail
  refine (pileP_any 4 (by decide) b1).mono ?_
  rintro e a2 ⟨g, rfl, hg, hb⟩
  have H1 := Lib.hid (And.intro hg (HB2.out.trans (hb.mono HB2.out.size)))
  clear hg hb HB2
  go_wp2_with fail
  refine (fitsN20 H1.out.1).mono ?_
  rintro e b2 ⟨rfl, hb⟩
  have HB2 := Lib.hid (H1.out.2.trans (hb.mono H1.out.2.size))
  clear hb H1
  go_wp2_with fail
  refine (pileP_any 4 (by decide) b2).mono ?_
  rintro e a3 ⟨g, rfl, hg, hb⟩
  have H1 := Lib.hid (And.intro hg (HB2.out.trans (hb.mono HB2.out.size)))
  clear hg hb HB2
  go_wp2_with fail
  refine (fitsN23 H1.out.1).mono ?_
  rintro e b3 ⟨rfl, hb⟩
  have HB2 := Lib.hid (H1.out.2.trans (hb.mono H1.out.2.size))
  clear hb H1
  go_wp2_with fail
  refine (pileP_any 4 (by decide) b3).mono ?_
  rintro e a4 ⟨g, rfl, hg, hb⟩
  have H1 := Lib.hid (And.intro hg (HB2.out.trans (hb.mono HB2.out.size)))
  clear hg hb HB2
  go_wp2_with fail
  refine (parN2 H1.out.1).mono ?_
  rintro e b4 ⟨rfl, hb⟩
  have HB2 := Lib.hid (H1.out.2.trans (hb.mono H1.out.2.size))
  clear hb H1
  go_wp2_with fail
  refine (pileP_any 4 (by decide) b4).mono ?_
  rintro e a5 ⟨g, rfl, hg, hb⟩
  have H1 := Lib.hid (And.intro hg (HB2.out.trans (hb.mono HB2.out.size)))
  clear hg hb HB2
  go_wp2_with fail
  refine (parN0 H1.out.1).mono ?_
  rintro e b5 ⟨rfl, hb⟩
  have HB2 := Lib.hid (H1.out.2.trans (hb.mono H1.out.2.size))
  clear hb H1
  go_wp2_with fail
  refine (pileP_any 4 (by decide) b5).mono ?_
  rintro e a6 ⟨g, rfl, hg, hb⟩
  have H1 := Lib.hid (And.intro hg (HB2.out.trans (hb.mono HB2.out.size)))
  clear hg hb HB2
  go_wp2_with fail
  refine (fromN31 H1.out.1).mono ?_
  rintro e b6 ⟨rfl, hb⟩
  have HB2 := Lib.hid (H1.out.2.trans (hb.mono H1.out.2.size))
  clear hb H1
  go_wp2_with fail
  refine (pileP_any 4 (by decide) b6).mono ?_
  rintro e a7 ⟨g, rfl, hg, hb⟩
  have H1 := Lib.hid (And.intro hg (HB2.out.trans (hb.mono HB2.out.size)))
  clear hg hb HB2
  go_wp2_with fail
  refine (ord_P4 H1.out.1).mono ?_
  rintro e b7 ⟨rfl, hb⟩
  have HB2 := Lib.hid (H1.out.2.trans (hb.mono H1.out.2.size))
  clear hb H1
  go_wp2_with fail
  refine (pileQ_any b7).mono ?_
  rintro e c1 ⟨g, rfl, hg, hb⟩
  have H1 := Lib.hid (And.intro hg (HB2.out.trans (hb.mono HB2.out.size)))
  clear hg hb HB2
  go_wp2_with fail
  refine (ord_Q H1.out.1).mono ?_
  rintro e c2 ⟨av, cv, rfl, hb⟩
  have HB2 := Lib.hid (H1.out.2.trans (hb.mono H1.out.2.size))
  clear hb H1
  go_wp2_with fail
  refine (alive_any c2).mono ?_
  rintro e c3 ⟨rfl, hb⟩
  have HB := Lib.hid (HB2.out.trans (hb.mono HB2.out.size))
  clear hb HB2
  go_wp2_with fail
  go_ret
  exact ⟨rfl, HB.out⟩
end Go.Proofs.Ytnfhlbmapfoifaa

