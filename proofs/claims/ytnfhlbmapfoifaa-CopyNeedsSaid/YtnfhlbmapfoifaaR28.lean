/- CopyOrders, CopyNeeds: the walks. -/
import Derived.Test.YtnfhlbmapfoifaaR25
import Derived.Test.YtnfhlbmapfoifaaR18
import Derived.Test.YtnfhlbmapfoifaaR20
namespace Go.Proofs.Ytnfhlbmapfoifaa
open Go.RowKit
set_option linter.unusedVariables false

/-- The orders, whatever the prints: how both answer. -/
def ordN (p : Prs) : List (List Int) := if ordersE p = 0 then ordersL p else []
theorem ord_out {p : Prs} {B : Nat} {v : Value} {w : World} (h : OrdersOut p B v w) : ∃ a c, v = .slice a (ordN p).length c ∧ IsLists w a (ordN p) := by
  unfold ordN
  by_cases hE : ordersE p = 0
  · rw [if_pos hE]
    exact (h.1 hE).lists
  · rw [if_neg hE]
    exact ⟨none, 0, h.2 hE, fun i hi => by simp at hi⟩
theorem ord_mem {p : Prs} (hn : p.cards.length ≤ 16) : ∀ o ∈ ordN p, o.length ≤ 30 := fun o h => by
  unfold ordN at h
  by_cases hE : ordersE p = 0
  · rw [if_pos hE] at h
    rw [orders_at h]; omega
  · rw [if_neg hE] at h
    cases h
theorem ord_len {p : Prs} : (ordN p).length ≤ 120 := by
  unfold ordN
  by_cases hE : ordersE p = 0
  · rw [if_pos hE]
    exact orders_few (ordersE_valid hE)
  · rw [if_neg hE]; simp
theorem orders_c {p : Prs} {a : Option Addr} {cap : Nat} {w : World} (ha : IsPrts w a p.cards) (hn : p.cards.length ≤ 16) : Calls Try.prog 17 #[p.v a cap] w fun e w' => ∃ av cv, e = .returned (.tuple #[.slice av (ordN p).length cv, .int .i64 (ordersE p)]) ∧ IsLists w' av (ordN p) ∧ Below w.heap.size w w' := by
  refine (orders17 ha hn).mono ?_
  rintro e w' ⟨v, rfl, ho, hb⟩
  obtain ⟨av, cv, rfl, hi⟩ := ord_out ho
  exact ⟨av, cv, rfl, hi, hb⟩
theorem orders_r {p : Prs} {a : Option Addr} {cap : Nat} {w : World} (ha : IsPrts w a p.cards) (hn : p.cards.length ≤ 16) : Calls Try.prog 18 #[p.v a cap] w fun e w' => ∃ av cv, e = .returned (.tuple #[.slice av (ordN p).length cv, .int .i64 (ordersE p)]) ∧ IsLists w' av (ordN p) ∧ Below w.heap.size w w' := by
  refine (orders18 ha hn).mono ?_
  rintro e w' ⟨v, rfl, ho, hb⟩
  obtain ⟨av, cv, rfl, hi⟩ := ord_out ho
  exact ⟨av, cv, rfl, hi, hb⟩
set_option maxRecDepth 100000 in
set_option maxHeartbeats 4000000 in
theorem copyNeeds_any {p : Prs} {a : Option Addr} {cap : Nat} {w : World} (ha : IsPrts w a p.cards) : Calls Try.prog 4 #[p.v a cap] w fun e w' => e = .returned (.bool true) ∧ Below w.heap.size w w' := by
  have hb0 : Below w.heap.size w (w.alloc (.cells (p.cells a cap) 26)) := (Below.refl _ w).alloc (Nat.le_refl _) _
  have q0 := World.alloc_heap_new w (.cells (p.cells a cap) 26)
  have HW := Lib.hid (And.intro hb0 (And.intro q0 (ha.mono hb0)))
  clear hb0 q0 ha
  go_enter Try.func4, Try.ntmps4
  go_wp2_with fail
  revert HW
  generalize w.alloc (.cells (p.cells a cap) 26) = w1
  intro HW
  have KP : Hid (∀ v, Below w1.heap.size w1 v → v.heap[w.heap.size]? = some (.cells (p.cells a cap) 26 (0, 0)) ∧ IsPrts v a p.cards ∧ Below w.heap.size w v) := fun v h => ⟨(h.block _ (heap_lt HW.out.2.1)).trans HW.out.2.1, HW.out.2.2.mono h, HW.out.1.trans (h.mono HW.out.1.size)⟩
  obtain ⟨k0, k1, k2, k3, k4⟩ := prs_cells (KP.out w1 (Below.refl _ _)).1
  refine (great_any (KP.out w1 (Below.refl _ _)).2.1 4 (by decide)).mono ?_
  rintro e b0 ⟨rfl, hb⟩
  have HB := Lib.hid hb
  clear hb k0 k1 k2 k3 k4
  cases hd : (decide (16 < p.cards.length) || (decide (4 < p.cards.length) && p.valid))
  rotate_left
  · clear hd
    go_wp2_with fail
    refine (alive_any b0).mono ?_
    rintro e c1 ⟨rfl, hb⟩
    have HB2 := Lib.hid (HB.out.trans (hb.mono HB.out.size))
    clear hb
    go_wp2_with fail
    go_ret
    exact ⟨rfl, (KP.out _ HB2.out).2.2⟩
  have hn : p.cards.length ≤ 16 := by simp at hd; omega
  have HN := Lib.hid hn
  clear hn hd
  obtain ⟨k0, k1, k2, k3, k4⟩ := prs_cells (KP.out b0 HB.out).1
  go_wp2_with fail
  refine (needs22 (KP.out b0 HB.out).2.1 HN.out).mono ?_
  rintro e b1 ⟨rfl, hb⟩
  have HB2 := Lib.hid (HB.out.trans (hb.mono HB.out.size))
  clear hb k0 k1 k2 k3 k4 HB
  have HB := HB2
  clear HB2
  obtain ⟨k0, k1, k2, k3, k4⟩ := prs_cells (KP.out b1 HB.out).1
  go_wp2_with fail
  refine (needs23 (KP.out b1 HB.out).2.1 HN.out).mono ?_
  rintro e b2 ⟨rfl, hb⟩
  have HB2 := Lib.hid (HB.out.trans (hb.mono HB.out.size))
  clear hb k0 k1 k2 k3 k4 HB
  have HB := HB2
  clear HB2
  generalize (needsE p).1 = f1
  generalize (needsE p).2 = f2
  go_wp2_with fail
  refine (alive_any b2).mono ?_
  rintro e c1 ⟨rfl, hb⟩
  have HB3 := Lib.hid (HB.out.trans (hb.mono HB.out.size))
  clear hb
  go_wp2_with fail
  go_ret
  exact ⟨rfl, (KP.out _ HB3.out).2.2⟩
set_option maxRecDepth 100000 in
set_option maxHeartbeats 4000000 in
theorem copyOrders_any {p : Prs} {a : Option Addr} {cap : Nat} {w : World} (ha : IsPrts w a p.cards) (cd fr : Int) : Calls Try.prog 3 #[p.v a cap, .int .i64 cd, .int .i64 fr] w fun e w' => e = .returned (.bool true) ∧ Below w.heap.size w w' := by
  have hb0 : Below w.heap.size w (w.alloc (.cells (p.cells a cap) 26)) := (Below.refl _ w).alloc (Nat.le_refl _) _
  have q0 := World.alloc_heap_new w (.cells (p.cells a cap) 26)
  have HW := Lib.hid (And.intro hb0 (And.intro q0 (ha.mono hb0)))
  clear hb0 q0 ha
  go_enter Try.func3, Try.ntmps3
  go_wp2_with fail
  revert HW
  generalize w.alloc (.cells (p.cells a cap) 26) = w1
  intro HW
  have KP : Hid (∀ v, Below w1.heap.size w1 v → v.heap[w.heap.size]? = some (.cells (p.cells a cap) 26 (0, 0)) ∧ IsPrts v a p.cards ∧ Below w.heap.size w v) := fun v h => ⟨(h.block _ (heap_lt HW.out.2.1)).trans HW.out.2.1, HW.out.2.2.mono h, HW.out.1.trans (h.mono HW.out.1.size)⟩
  obtain ⟨k0, k1, k2, k3, k4⟩ := prs_cells (KP.out w1 (Below.refl _ _)).1
  refine (great5 (KP.out w1 (Below.refl _ _)).2.1).mono ?_
  rintro e b0 ⟨rfl, hb⟩
  have HB := Lib.hid hb
  clear hb k0 k1 k2 k3 k4
  by_cases hg : 16 < p.cards.length
  · have hd : decide (16 < p.cards.length) = true := by simpa using hg
    rw [hd]
    go_wp2_with fail
    refine (alive_any b0).mono ?_
    rintro e c1 ⟨rfl, hb⟩
    have HB2 := Lib.hid (HB.out.trans (hb.mono HB.out.size))
    clear hb
    go_wp2_with fail
    go_ret
    exact ⟨rfl, (KP.out _ HB2.out).2.2⟩
  have hn : p.cards.length ≤ 16 := by omega
  have hd : decide (16 < p.cards.length) = false := by simpa using hn
  rw [hd]
  have HN := Lib.hid hn
  clear hg hn hd
  obtain ⟨k0, k1, k2, k3, k4⟩ := prs_cells (KP.out b0 HB.out).1
  go_wp2_with fail
  refine (from_any (KP.out b0 HB.out).2.1 HN.out cd fr).mono ?_
  rintro e b1 ⟨rfl, hb⟩
  have HB2 := Lib.hid (HB.out.trans (hb.mono HB.out.size))
  clear hb k0 k1 k2 k3 k4 HB
  have HB := HB2
  clear HB2
  obtain ⟨k0, k1, k2, k3, k4⟩ := prs_cells (KP.out b1 HB.out).1
  go_wp2_with fail
  refine (from_ref (KP.out b1 HB.out).2.1 HN.out cd fr).mono ?_
  rintro e b2 ⟨rfl, hb⟩
  have HB2 := Lib.hid (HB.out.trans (hb.mono HB.out.size))
  clear hb k0 k1 k2 k3 k4 HB
  have HB := HB2
  clear HB2
  obtain ⟨k0, k1, k2, k3, k4⟩ := prs_cells (KP.out b2 HB.out).1
  go_wp2_with fail
  refine (orders_c (KP.out b2 HB.out).2.1 HN.out).mono ?_
  rintro e b3 ⟨av, cv, rfl, hi, hb⟩
  have HB2 := Lib.hid (HB.out.trans (hb.mono HB.out.size))
  have HI := Lib.hid hi
  clear hi
  clear hb k0 k1 k2 k3 k4 HB
  have HB := HB2
  clear HB2
  obtain ⟨k0, k1, k2, k3, k4⟩ := prs_cells (KP.out b3 HB.out).1
  go_wp2_with fail
  refine (orders_r (KP.out b3 HB.out).2.1 HN.out).mono ?_
  rintro e b4 ⟨av2, cv2, rfl, hi2, hb⟩
  have HB2 := Lib.hid (HB.out.trans (hb.mono HB.out.size))
  have HI2 := Lib.hid (And.intro (HI.out.mono hb) hi2)
  clear hi2
  clear hb k0 k1 k2 k3 k4 HB
  have HB := HB2
  clear HB2
  obtain ⟨k0, k1, k2, k3, k4⟩ := prs_cells (KP.out b4 HB.out).1
  go_wp2_with fail
  refine (compare19 (KP.out b4 HB.out).2.1 HN.out).mono ?_
  rintro e b5 ⟨rfl, hb⟩
  have HB2 := Lib.hid (HB.out.trans (hb.mono HB.out.size))
  have HI3 := Lib.hid (And.intro (HI2.out.1.mono hb) (HI2.out.2.mono hb))
  clear hb k0 k1 k2 k3 k4 HB
  have HB := HB2
  clear HB2
  obtain ⟨k0, k1, k2, k3, k4⟩ := prs_cells (KP.out b5 HB.out).1
  go_wp2_with fail
  refine (compare20 (KP.out b5 HB.out).2.1 HN.out).mono ?_
  rintro e b6 ⟨rfl, hb⟩
  have HB2 := Lib.hid (HB.out.trans (hb.mono HB.out.size))
  have HI4 := Lib.hid (And.intro (HI3.out.1.mono hb) (HI3.out.2.mono hb))
  clear hb k0 k1 k2 k3 k4 HB
  have HB := HB2
  clear HB2
  have HL := Lib.hid (And.intro (ord_len (p := p)) (ord_mem HN.out))
  clear HI HI2 HI3
  revert HI4 HL
  generalize (ordN p) = l
  generalize (ordersE p) = er
  generalize (fromE p cd fr).1 = f1
  generalize (fromE p cd fr).2 = f2
  generalize (compE p).1 = f3
  generalize (compE p).2.1 = f4
  generalize (compE p).2.2.1 = f5
  generalize (compE p).2.2.2 = f6
  intro HI4 HL
  go_wp2_with fail
  refine (lists21 (ca := cv) (cb := cv2) HI4.out.1 HI4.out.2 (by have := HL.out.1; omega) (by have := HL.out.1; omega) HL.out.2 HL.out.2).mono ?_
  rintro e b9 ⟨rfl, hb⟩
  have HB2 := Lib.hid (HB.out.trans (hb.mono HB.out.size))
  clear hb HB
  rw [show decide (l = l) = true by simp]
  go_wp2_with fail
  refine (alive_any b9).mono ?_
  rintro e c1 ⟨rfl, hb⟩
  have HB3 := Lib.hid (HB2.out.trans (hb.mono HB2.out.size))
  clear hb HB2
  go_wp2_with fail
  go_ret
  exact ⟨rfl, (KP.out _ HB3.out).2.2⟩
end Go.Proofs.Ytnfhlbmapfoifaa
