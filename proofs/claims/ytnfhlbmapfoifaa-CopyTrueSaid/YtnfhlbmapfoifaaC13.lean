/- What the document fixes is so. What the names fix is so. Far too many cards, or not; orders, whatever the prints. Chains, plain laws: the way of an order; who comes from whom. CopyChain: whether a list has all cards. The reference's largest: what can be of a card, by all that come from it. Plain laws of ways: a round never ends; what can't be of a card can't be of its first one. The reference's Way. The fewest originals, parents, fits: plain laws. Rows of prints in a block of their own: copied, and written to. What can be of cards, by numbers: a way can be just if there are true numbers. Cards that are numbered otherwise: plain laws of CopyTurned. Cards that are numbered otherwise: as many comparisons are needed. CopyTurned: the fewest originals' way in a block of its own; numbers; wide. Cards that truly were copied: plain laws of CopyTrue. CopyTrue: the draws, and what lies in memory while a pile is made. -/
import Derived.Test.YtnfhlbmapfoifaaC12
namespace Go.Proofs.Ytnfhlbmapfoifaa
open Go.RowKit
set_option linter.unusedVariables false
theorem pileP_v (a : Option Addr) (n : Nat) (h : n ≤ 4) : Value.agg #[.slice a n 4, .int .i64 3, .int .i64 5, .int .i64 10, .int .i64 20] = (pileP n).v a 4 := by
  have : (pileP n).cards.length = n := by simp [pileP]; omega
  show _ = Value.agg #[.slice a (pileP n).cards.length 4, _, _, _, _]
  rw [this]
  rfl
theorem pileQ_v (a : Option Addr) : Value.agg #[.slice a 3 3, .int .i64 0, .int .i64 5, .int .i64 0, .int .i64 10] = pileQ.v a 3 := rfl
theorem P4n : (pileP 4).cards.length ≤ 16 := by decide
theorem P3n : (pileP 3).cards.length ≤ 16 := by decide
theorem Qn : pileQ.cards.length ≤ 16 := by decide
theorem ways_P {w : World} {g : Nat} (h : IsPrts w (some ⟨g, 0, none⟩) (pileP 4).cards) : Calls Try.prog 32 #[.agg #[.slice (some ⟨g, 0, none⟩) 4 4, .int .i64 3, .int .i64 5, .int .i64 10, .int .i64 20]] w fun e w' => e = .returned (.tuple #[.int .i64 8, .int .i64 0]) ∧ Below w.heap.size w w' := by
  rw [pileP_v _ 4 (by decide)]
  refine (waysC_any h P4n).mono ?_
  rintro e w' ⟨rfl, hb⟩
  rw [ex_ways.1]
  exact ⟨rfl, hb⟩
theorem ways_Q {w : World} {g : Nat} (h : IsPrts w (some ⟨g, 0, none⟩) pileQ.cards) : Calls Try.prog 32 #[.agg #[.slice (some ⟨g, 0, none⟩) 3 3, .int .i64 0, .int .i64 5, .int .i64 0, .int .i64 10]] w fun e w' => e = .returned (.tuple #[.int .i64 16, .int .i64 0]) ∧ Below w.heap.size w w' := by
  rw [pileQ_v]
  refine (waysC_any h Qn).mono ?_
  rintro e w' ⟨rfl, hb⟩
  rw [ex_ways.2]
  exact ⟨rfl, hb⟩
theorem few_P {w : World} {g : Nat} (h : IsPrts w (some ⟨g, 0, none⟩) (pileP 4).cards) : Calls Try.prog 28 #[.agg #[.slice (some ⟨g, 0, none⟩) 4 4, .int .i64 3, .int .i64 5, .int .i64 10, .int .i64 20]] w fun e w' => ∃ av cv, e = .returned (.tuple #[.slice av 4 cv, .int .i64 1, .int .i64 0]) ∧ IsInts w' av [-1, 0, 1, 0] ∧ Below w.heap.size w w' := by
  rw [pileP_v _ 4 (by decide)]
  refine (fewest_yes h P4n ex_few2.2.2).mono ?_
  rintro e w' ⟨av, cv, rfl, hi, hb⟩
  rw [ex_few2.2.1]
  rw [ex_few2.1] at hi ⊢
  exact ⟨av, cv, rfl, hi, hb⟩
theorem from_P {w : World} {g : Nat} (h : IsPrts w (some ⟨g, 0, none⟩) (pileP 4).cards) : Calls Try.prog 15 #[.agg #[.slice (some ⟨g, 0, none⟩) 4 4, .int .i64 3, .int .i64 5, .int .i64 10, .int .i64 20], .int .i64 2, .int .i64 0] w fun e w' => e = .returned (.tuple #[.int .i64 2, .int .i64 0]) ∧ Below w.heap.size w w' := by
  rw [pileP_v _ 4 (by decide)]
  refine (from_any h P4n 2 0).mono ?_
  rintro e w' ⟨rfl, hb⟩
  rw [ex_from.1]
  exact ⟨rfl, hb⟩
theorem ord_P {w : World} {g : Nat} (h : IsPrts w (some ⟨g, 0, none⟩) (pileP 3).cards) : Calls Try.prog 17 #[.agg #[.slice (some ⟨g, 0, none⟩) 3 4, .int .i64 3, .int .i64 5, .int .i64 10, .int .i64 20]] w fun e w' => ∃ av cv, e = .returned (.tuple #[.slice av 1 cv, .int .i64 0]) ∧ IsLists w' av [[0, 1, 2]] ∧ Below w.heap.size w w' := by
  rw [pileP_v _ 3 (by decide)]
  refine (orders17 h P3n).mono ?_
  rintro e w' ⟨v, rfl, ⟨hr, _⟩, hb⟩
  obtain ⟨av, cv, rfl, hi⟩ := (hr ex_ord3.1).lists
  rw [ex_ord3.1]
  rw [ex_ord3.2] at hi ⊢
  exact ⟨av, cv, rfl, hi, hb⟩
theorem comp_Q {w : World} {g : Nat} (h : IsPrts w (some ⟨g, 0, none⟩) pileQ.cards) : Calls Try.prog 19 #[.agg #[.slice (some ⟨g, 0, none⟩) 3 3, .int .i64 0, .int .i64 5, .int .i64 0, .int .i64 10]] w fun e w' => e = .returned (.tuple #[.int .i64 0, .int .i64 1, .int .i64 3, .int .i64 0]) ∧ Below w.heap.size w w' := by
  rw [pileQ_v]
  refine (compare19 h Qn).mono ?_
  rintro e w' ⟨rfl, hb⟩
  rw [ex_comp]
  exact ⟨rfl, hb⟩
theorem need_Q {w : World} {g : Nat} (h : IsPrts w (some ⟨g, 0, none⟩) pileQ.cards) : Calls Try.prog 22 #[.agg #[.slice (some ⟨g, 0, none⟩) 3 3, .int .i64 0, .int .i64 5, .int .i64 0, .int .i64 10]] w fun e w' => e = .returned (.tuple #[.int .i64 3, .int .i64 0]) ∧ Below w.heap.size w w' := by
  rw [pileQ_v]
  refine (needs22 h Qn).mono ?_
  rintro e w' ⟨rfl, hb⟩
  rw [ex_needs]
  exact ⟨rfl, hb⟩
theorem lists_one {w : World} {g h : Nat} (h1 : w.heap[g]? = some (.cells #[.int .i64 0, .int .i64 1, .int .i64 2] 3 (0, 0))) (h2 : w.heap[h]? = some (.cells #[.slice (some ⟨g, 0, none⟩) 3 3] 42 (0, 0))) : IsLists w (some ⟨h, 0, none⟩) [[0, 1, 2]] := fun i hi => by
  obtain rfl : i = 0 := by simp at hi; omega
  refine ⟨h, 0, rfl, some ⟨g, 0, none⟩, 3, by rw [cell_of_heap h2]; rfl, fun j hj => ?_⟩
  have : j = 0 ∨ j = 1 ∨ j = 2 := by simp at hj; omega
  rcases this with rfl | rfl | rfl
  all_goals exact ⟨g, 0, rfl, by rw [cell_of_heap h1]; rfl⟩
theorem ints_four {w : World} {g : Nat} (h : w.heap[g]? = some (.cells #[.int .i64 (-1), .int .i64 0, .int .i64 1, .int .i64 0] 3 (0, 0))) : IsInts w (some ⟨g, 0, none⟩) [-1, 0, 1, 0] := fun i hi => by
  have : i = 0 ∨ i = 1 ∨ i = 2 ∨ i = 3 := by simp at hi; omega
  rcases this with rfl | rfl | rfl | rfl
  all_goals exact ⟨g, 0, rfl, by rw [cell_of_heap h]; rfl⟩
set_option maxRecDepth 100000 in
set_option maxHeartbeats 4000000 in
theorem alive_any (w : World) : Calls Try.prog 14 #[] w fun e w' => e = .returned (.bool true) ∧ Below w.heap.size w w' := by
  go_enter Try.func14, Try.ntmps14
  go_wp2_with fail
  refine (pileP_any 4 (by decide) w).mono ?_
  rintro e a1 ⟨g, rfl, hg, hb⟩
  have H1 := Lib.hid (And.intro hg hb)
  clear hg hb
  go_wp2_with fail
  refine (ways_P H1.out.1).mono ?_
  rintro e a2 ⟨rfl, hb⟩
  have HB2 := Lib.hid (H1.out.2.trans (hb.mono H1.out.2.size))
  clear hb H1
  go_wp2_with fail
  refine (pileQ_any a2).mono ?_
  rintro e a3 ⟨g, rfl, hg, hb⟩
  have H1 := Lib.hid (And.intro hg (HB2.out.trans (hb.mono HB2.out.size)))
  clear hg hb HB2
  go_wp2_with fail
  refine (ways_Q H1.out.1).mono ?_
  rintro e a4 ⟨rfl, hb⟩
  have HB2 := Lib.hid (H1.out.2.trans (hb.mono H1.out.2.size))
  clear hb H1
  go_wp2_with fail
  refine (pileP_any 4 (by decide) a4).mono ?_
  rintro e a5 ⟨g, rfl, hg, hb⟩
  have H1 := Lib.hid (And.intro hg (HB2.out.trans (hb.mono HB2.out.size)))
  clear hg hb HB2
  go_wp2_with fail
  refine (few_P H1.out.1).mono ?_
  rintro e a6 ⟨av, cv, rfl, hi, hb⟩
  have HI := Lib.hid hi
  have HB2 := Lib.hid (H1.out.2.trans (hb.mono H1.out.2.size))
  clear hb H1 hi
  go_wp2_with fail
  refine (pileP_any 4 (by decide) a6).mono ?_
  rintro e a7 ⟨g, rfl, hg, hb⟩
  have H1 := Lib.hid (And.intro hg (HB2.out.trans (hb.mono HB2.out.size)))
  have HI2 := Lib.hid (HI.out.mono hb)
  clear hg hb HB2 HI
  go_wp2_with fail
  refine (from_P H1.out.1).mono ?_
  rintro e a8 ⟨rfl, hb⟩
  have HB2 := Lib.hid (H1.out.2.trans (hb.mono H1.out.2.size))
  have HI := Lib.hid (HI2.out.mono hb)
  clear hb H1 HI2
  go_wp2_with fail
  refine (pileP_any 3 (by decide) a8).mono ?_
  rintro e a9 ⟨g, rfl, hg, hb⟩
  have H1 := Lib.hid (And.intro hg (HB2.out.trans (hb.mono HB2.out.size)))
  have HI2 := Lib.hid (HI.out.mono hb)
  clear hg hb HB2 HI
  go_wp2_with fail
  refine (ord_P H1.out.1).mono ?_
  rintro e b1 ⟨al, cl, rfl, hl, hb⟩
  have HB2 := Lib.hid (H1.out.2.trans (hb.mono H1.out.2.size))
  have HI := Lib.hid (And.intro (HI2.out.mono hb) hl)
  clear hb H1 HI2 hl
  go_wp2_with fail
  refine (pileQ_any b1).mono ?_
  rintro e b2 ⟨g, rfl, hg, hb⟩
  have H1 := Lib.hid (And.intro hg (HB2.out.trans (hb.mono HB2.out.size)))
  have HI2 := Lib.hid (And.intro (HI.out.1.mono hb) (HI.out.2.mono hb))
  clear hg hb HB2 HI
  go_wp2_with fail
  refine (comp_Q H1.out.1).mono ?_
  rintro e b3 ⟨rfl, hb⟩
  have HB2 := Lib.hid (H1.out.2.trans (hb.mono H1.out.2.size))
  have HI := Lib.hid (And.intro (HI2.out.1.mono hb) (HI2.out.2.mono hb))
  clear hb H1 HI2
  go_wp2_with fail
  refine (pileQ_any b3).mono ?_
  rintro e b4 ⟨g, rfl, hg, hb⟩
  have H1 := Lib.hid (And.intro hg (HB2.out.trans (hb.mono HB2.out.size)))
  have HI2 := Lib.hid (And.intro (HI.out.1.mono hb) (HI.out.2.mono hb))
  clear hg hb HB2 HI
  go_wp2_with fail
  refine (need_Q H1.out.1).mono ?_
  rintro e b5 ⟨rfl, hb⟩
  have HB2 := Lib.hid (H1.out.2.trans (hb.mono H1.out.2.size))
  have HI := Lib.hid (And.intro (HI2.out.1.mono hb) (HI2.out.2.mono hb))
  clear hb H1 HI2
  go_wp2_with fail
  have hb6 : Below b5.heap.size b5 (b5.alloc (.cells #[.int .i64 (-1), .int .i64 0, .int .i64 1, .int .i64 0] 3)) := (Below.refl _ _).alloc (Nat.le_refl _) _
  have q6 := World.alloc_heap_new b5 (.cells #[.int .i64 (-1), .int .i64 0, .int .i64 1, .int .i64 0] 3)
  refine (ints27 (l := [-1, 0, 1, 0]) (m := [-1, 0, 1, 0]) (ca := cv) (cb := 4) (HI.out.1.mono hb6) (ints_four q6) (by decide) (by decide)).mono ?_
  rintro e b6 ⟨rfl, hb⟩
  have hB6 := HB2.out.trans ((hb6.trans (hb.mono hb6.size)).mono HB2.out.size)
  have HI3 := Lib.hid (And.intro (HI.out.2.mono (hb6.trans (hb.mono hb6.size))) hB6)
  clear hb6 q6 hb hB6 HB2 HI
  rw [show decide (([-1, 0, 1, 0] : List Int) = [-1, 0, 1, 0]) = true by decide]
  go_wp2_with fail
  have q7 := World.alloc_heap_new b6 (.cells #[.int .i64 0, .int .i64 1, .int .i64 2] 3)
  have q8 := World.alloc_heap_new (b6.alloc (.cells #[.int .i64 0, .int .i64 1, .int .i64 2] 3)) (.cells #[.slice (some ⟨b6.heap.size, 0, none⟩) 3 3] 42)
  have hb7 : Below b6.heap.size b6 ((b6.alloc (.cells #[.int .i64 0, .int .i64 1, .int .i64 2] 3)).alloc (.cells #[.slice (some ⟨b6.heap.size, 0, none⟩) 3 3] 42)) := ((Below.refl _ _).alloc (Nat.le_refl _) _).alloc (by simp) _
  rw [World.size_alloc] at q8
  have q7' := (Below.heap_alloc (b6.alloc (.cells #[.int .i64 0, .int .i64 1, .int .i64 2] 3)) (.cells #[.slice (some ⟨b6.heap.size, 0, none⟩) 3 3] 42) b6.heap.size (by simp)).trans q7
  refine (lists21 (l := [[0, 1, 2]]) (m := [[0, 1, 2]]) (ca := cl) (cb := 1) (HI3.out.1.mono hb7) (lists_one q7' q8) (by decide) (by decide) (by decide) (by decide)).mono ?_
  rintro e b8 ⟨rfl, hb⟩
  have hB8 := Lib.hid (HI3.out.2.trans ((hb7.trans (hb.mono hb7.size)).mono HI3.out.2.size))
  clear q7 q8 hb7 q7' hb HI3
  rw [show decide (([[0, 1, 2]] : List (List Int)) = [[0, 1, 2]]) = true by decide]
  go_wp2_with fail
  go_ret
  exact ⟨rfl, hB8.out⟩
end Go.Proofs.Ytnfhlbmapfoifaa
namespace Go.Proofs.Ytnfhlbmapfoifaa
open Go.RowKit
set_option linter.unusedVariables false
end Go.Proofs.Ytnfhlbmapfoifaa
namespace Go.Proofs.Ytnfhlbmapfoifaa
open Go.RowKit
set_option linter.unusedVariables false
/-- The orders, whatever the prints: how both answer. -/
def ordN (p : Prs) : List (List Int) := if ordersE p = 0 then ordersL p else []
theorem ord_out {p : Prs} {B : Nat} {v : Value} {w : World} (h : OrdersOut p B v w) : ∃ a c, v = .slice a (ordN p).length c ∧ IsLists w a (ordN p) := by
  unfold ordN
  by_cases hE : ordersE p = 0
  · rw [if_pos hE]
    exact (h.1 hE).lists
  · rw [if_neg hE]
    exact ⟨none, 0, h.2 hE, fun i hi => by simp at hi⟩
theorem orders_c {p : Prs} {a : Option Addr} {cap : Nat} {w : World} (ha : IsPrts w a p.cards) (hn : p.cards.length ≤ 16) : Calls Try.prog 17 #[p.v a cap] w fun e w' => ∃ av cv, e = .returned (.tuple #[.slice av (ordN p).length cv, .int .i64 (ordersE p)]) ∧ IsLists w' av (ordN p) ∧ Below w.heap.size w w' := by
  refine (orders17 ha hn).mono ?_
  rintro e w' ⟨v, rfl, ho, hb⟩
  obtain ⟨av, cv, rfl, hi⟩ := ord_out ho
  exact ⟨av, cv, rfl, hi, hb⟩
end Go.Proofs.Ytnfhlbmapfoifaa
namespace Go.Proofs.Ytnfhlbmapfoifaa
open Go.RowKit
set_option linter.unusedVariables false
set_option linter.unusedSimpArgs false
theorem gi_cons_s (x : Int) (l : List Int) (k : Nat) : gi (x :: l) (k + 1) = gi l k := by simp [gi]
theorem gi_cons_z (x : Int) (l : List Int) : gi (x :: l) 0 = x := by simp [gi]
theorem onW_mem {p : Prs} : ∀ (d : Nat) (pre x : List Int), x ∈ onW p d pre ↔ ∃ s, x = pre ++ s ∧ s.length = d ∧ (∀ j, j < d → -1 ≤ gi s j ∧ gi s j < p.cards.length ∧ gi s j ≠ (pre.length : Int) + j) ∧ isWayB p x = true
  | 0, pre, x => by
    rw [onW_zero]
    constructor
    · intro h
      split at h
      · rename_i hw
        simp at h
        subst h
        exact ⟨[], by simp, rfl, fun j hj => by omega, hw⟩
      · simp at h
    · rintro ⟨s, rfl, hs, _, hw⟩
      have : s = [] := List.eq_nil_of_length_eq_zero hs
      subst this
      rw [List.append_nil] at hw ⊢
      rw [if_pos hw]
      simp
  | d + 1, pre, x => by
    rw [onW_succ, List.mem_flatMap]
    constructor
    · rintro ⟨f, hf, h⟩
      unfold onF at h
      split at h
      · simp at h
      · rename_i hp
        obtain ⟨s, rfl, hs, h1, h4⟩ := (onW_mem d _ _).1 h
        have hf' : -1 ≤ f ∧ f < p.cards.length := by
          simp only [froms, List.mem_map, List.mem_range] at hf
          obtain ⟨k, hk, rfl⟩ := hf
          omega
        refine ⟨f :: s, by simp, by simp [hs], fun j hj => ?_, h4⟩
        cases j with
        | zero => rw [gi_cons_z]; exact ⟨hf'.1, hf'.2, by simpa using hp⟩
        | succ j =>
          rw [gi_cons_s]
          have := h1 j (by omega)
          simp at this
          refine ⟨this.1, this.2.1, ?_⟩
          have h3 := this.2.2
          omega
    · rintro ⟨s, rfl, hs, h1, h4⟩
      cases s with
      | nil => simp at hs
      | cons f s =>
        have h0 := h1 0 (by omega)
        rw [gi_cons_z] at h0
        obtain ⟨k, hk⟩ := Int.eq_ofNat_of_zero_le (show 0 ≤ f + 1 by omega)
        refine ⟨f, ?_, ?_⟩
        · simp only [froms, List.mem_map, List.mem_range]
          exact ⟨k, by omega, by omega⟩
        · unfold onF
          rw [if_neg (by have := h0.2.2; omega)]
          refine (onW_mem d _ _).2 ⟨s, by simp, by simpa using hs, fun j hj => ?_, h4⟩
          have := h1 (j + 1) (by omega)
          rw [gi_cons_s] at this
          simp
          refine ⟨this.1, this.2.1, ?_⟩
          have h3 := this.2.2
          omega
theorem ways_iff {p : Prs} {x : List Int} : x ∈ waysL p ↔ x.length = p.cards.length ∧ (∀ j, j < p.cards.length → -1 ≤ gi x j ∧ gi x j < p.cards.length ∧ gi x j ≠ (j : Int)) ∧ isWayB p x = true := by
  unfold waysL
  rw [onW_mem]
  constructor
  · rintro ⟨s, rfl, h1, h2, h3⟩
    refine ⟨by simpa using h1, fun j hj => ?_, h3⟩
    have := h2 j hj
    simpa using this
  · rintro ⟨h1, h2, h3⟩
    exact ⟨x, by simp, h1, fun j hj => by simpa using h2 j hj, h3⟩
theorem gi_set {l : List Int} {i j : Nat} {x : Int} (hj : j < l.length) : gi (l.set i x) j = if i = j then x else gi l j := by
  unfold gi
  simp only [List.getD_eq_getElem?_getD, List.getElem?_set]
  split
  · rename_i e; subst e; simp [hj]
  · rfl
theorem lastF_take' {o : List Int} {m : Nat} (hm : m ≤ o.length) : lastF (-1) (o.take m) = if m = 0 then -1 else gi o (m - 1) := by
  cases m with
  | zero => rfl
  | succ m =>
    rw [List.take_succ_eq_append_getElem (by omega), lastF_snoc, if_neg (by omega)]
    simp [gi, show m < o.length by omega]
theorem chain_gi {n : Nat} {o : List Int} (h : IsPerm n o) {k : Nat} (hk : k < n) : gi (chainL o) (gi o k).toNat = if k = 0 then -1 else gi o (k - 1) := by
  have key : ∀ m, m ≤ n → ∀ k, k < m → gi (chainF (List.replicate o.length 0) (-1) (o.take m)) (gi o k).toNat = if k = 0 then -1 else gi o (k - 1) := by
    intro m
    induction m with
    | zero => intro _ k hk; omega
    | succ m ih =>
      intro hm k hk
      have hml : m < o.length := by rw [h.1]; omega
      have hkn : k < n := by omega
      have r1 := perm_rng h hkn
      have r2 := perm_rng h (show m < n by omega)
      rw [List.take_succ_eq_append_getElem hml, chainF_snoc]
      have e : o[m] = gi o m := by simp [gi, hml]
      rw [e, gi_set (by rw [chainF_len]; simp; rw [h.1]; omega)]
      by_cases hkm : k = m
      · subst hkm
        rw [if_pos rfl, lastF_take' (by omega)]
      · rw [if_neg (fun e2 => perm_ne h hkn (show m < n by omega) hkm (by omega))]
        exact ih (by omega) k (by omega)
  have := key n (Nat.le_refl _) k hk
  rw [List.take_of_length_le (by rw [h.1]; exact Nat.le_refl _)] at this
  exact this
theorem count_one {α : Type} {P : α → Bool} : ∀ l : List α, l.Nodup → (∀ x ∈ l, ∀ y ∈ l, P x = true → P y = true → x = y) → l.countP P ≤ 1
  | [], _, _ => by simp
  | k :: r, hl, h => by
    rw [List.nodup_cons] at hl
    simp only [List.countP_cons]
    have ih := count_one r hl.2 (fun x hx y hy => h x (by simp [hx]) y (by simp [hy]))
    cases hk : P k
    · simpa using ih
    · have hz : r.countP P = 0 := by
        rw [List.countP_eq_zero]
        intro q hq hqb
        have := h k (by simp) q (by simp [hq]) hk hqb
        subst this
        exact hl.1 hq
      rw [hz]; simp
theorem as_range (l : List Int) : l = (List.range l.length).map fun k => gi l k := by
  refine List.ext_getElem (by simp) (fun i h1 h2 => ?_)
  simp [gi, h1]
theorem orig_range (l : List Int) : origN l = (List.range l.length).countP fun k => decide (gi l k = -1) := by
  conv => lhs; rw [as_range l]
  unfold origN
  rw [List.countP_map]
  rfl
/-- The way of an order has one original at most. -/
theorem chain_orig {n : Nat} {o : List Int} (h : IsPerm n o) : origN (chainL o) ≤ 1 := by
  rw [orig_range]
  have hlen : (chainL o).length = n := by rw [chainL_len, h.1]
  rw [hlen]
  have key : ∀ c, c < n → gi (chainL o) c = -1 → (c : Int) = gi o 0 := fun c hc e => by
    obtain ⟨k, hk, ek⟩ := perm_has h (show (0 : Int) ≤ (c : Int) by omega) (by omega)
    have h1 := chain_gi h hk
    rw [ek] at h1
    have h2 : ((c : Int)).toNat = c := rfl
    rw [h2, e] at h1
    by_cases h0 : k = 0
    · subst h0; exact ek.symm
    · rw [if_neg h0] at h1
      have := (perm_rng h (show k - 1 < n by omega)).1
      omega
  refine count_one _ List.nodup_range (fun x hx y hy h1 h2 => ?_)
  have hx' : x < n := by simpa using hx
  have hy' : y < n := by simpa using hy
  have := key x hx' (by simpa using h1)
  have := key y hy' (by simpa using h2)
  omega
theorem chain_way {p : Prs} {o : List Int} (h : o ∈ ordersL p) : chainL o ∈ waysL p := by
  obtain ⟨hp, hw⟩ := orders_iff.1 h
  refine ways_iff.2 ⟨by rw [chainL_len, hp.1], fun j hj => ?_, hw⟩
  obtain ⟨k, hk, ek⟩ := perm_has hp (show (0 : Int) ≤ (j : Int) by omega) (by omega)
  have h1 := chain_gi hp hk
  rw [ek] at h1
  have h2 : ((j : Int)).toNat = j := rfl
  rw [h2] at h1
  rw [h1]
  by_cases h0 : k = 0
  · rw [if_pos h0]; omega
  · rw [if_neg h0]
    have hr := perm_rng hp (show k - 1 < p.cards.length by omega)
    have hne := perm_ne hp (show k - 1 < p.cards.length by omega) hk (by omega)
    rw [ek] at hne
    exact ⟨by omega, hr.2, hne⟩
theorem foldl_min_mem : ∀ (l : List (List Int)) (m : Nat), ∀ x ∈ l, l.foldl (fun m x => min m (origN x)) m ≤ origN x
  | [], _, x, h => by cases h
  | y :: r, m, x, h => by
    rcases List.mem_cons.1 h with e | e
    · subst e
      exact Nat.le_trans (foldl_min_le r _) (Nat.min_le_right _ _)
    · exact foldl_min_mem r _ x e
theorem fewest_le {p : Prs} {x : List Int} (h : x ∈ waysL p) : origN (fewestW p) ≤ origN x := by
  cases e : waysL p with
  | nil => rw [e] at h; cases h
  | cons f t =>
    have hf : fewestW p = leastW f t := by unfold fewestW; rw [e]; rfl
    rw [hf, least_orig]
    rw [e] at h
    rcases List.mem_cons.1 h with h | h
    · subst h; exact foldl_min_le _ _
    · exact foldl_min_mem _ _ _ h
theorem few_one {p : Prs} (hne : ordersL p ≠ []) : origN (fewestW p) ≤ 1 := by
  cases e : ordersL p with
  | nil => exact (hne e).elim
  | cons o r =>
    have ho : o ∈ ordersL p := by rw [e]; simp
    exact Nat.le_trans (fewest_le (chain_way ho)) (chain_orig (orders_iff.1 ho).1)
theorem perm_range (n : Nat) : IsPerm n ((List.range n).map fun (k : Nat) => (k : Int)) := by
  refine ⟨by simp, ?_, fun x hx => ?_⟩
  · unfold List.Nodup
    rw [List.pairwise_map]
    exact List.nodup_range.imp (fun h e => h (by omega))
  · rw [List.mem_map] at hx
    obtain ⟨k, hk, rfl⟩ := hx
    have : k < n := by simpa using hk
    omega
end Go.Proofs.Ytnfhlbmapfoifaa
namespace Go.Proofs.Ytnfhlbmapfoifaa
open Go.RowKit
set_option linter.unusedVariables false
set_option linter.unusedSimpArgs false
theorem bits_bit (l : List Nat) : ∀ i, (bitsOf l).testBit i = decide (i ∈ l) := by
  have key : ∀ (l : List Nat) (s i : Nat), (l.foldl (fun s n => s ||| 2 ^ n) s).testBit i = (s.testBit i || decide (i ∈ l)) := by
    intro l
    induction l with
    | nil => intro s i; simp
    | cons x r ih =>
      intro s i
      rw [List.foldl_cons, ih, Nat.testBit_or, Nat.testBit_two_pow]
      by_cases h : x = i
      · subst h; simp
      · have h2 : i ≠ x := fun e => h e.symm
        simp [h, h2]
  intro i
  unfold bitsOf
  rw [key]
  simp
end Go.Proofs.Ytnfhlbmapfoifaa
namespace Go.Proofs.Ytnfhlbmapfoifaa
open Go.RowKit
set_option linter.unusedVariables false
structure LarW (w : World) (p : Prs) (b off cap bx b8 ob mb : Nat) (wl : List Int) (aw : Option Addr) (own : Int × Int) (by_ : Int × Int) : Prop where
  ha : IsPrts w (some ⟨b, off, none⟩) p.cards
  hi : IsInts w aw wl
  h8 : w.heap[b8]? = some (.cells #[.int .i64 0, .int .i64 0] 24 (0, 0))
  ho : w.heap[ob]? = some (.cells #[.int .i64 own.1, .int .i64 own.2] 24 (0, 0))
  hm : w.heap[mb]? = some (.cells #[.int .i64 by_.1, .int .i64 by_.2] 24 (0, 0))
theorem LarW.mono {w w' : World} {p : Prs} {b off cap bx b8 ob mb : Nat} {wl : List Int} {aw : Option Addr} {own by_ : Int × Int} (h : LarW w p b off cap bx b8 ob mb wl aw own by_) (hb : Below w.heap.size w w') : LarW w' p b off cap bx b8 ob mb wl aw own by_ :=
  ⟨h.ha.mono hb, h.hi.mono hb, (hb.block _ (heap_lt h.h8)).trans h.h8, (hb.block _ (heap_lt h.ho)).trans h.ho, (hb.block _ (heap_lt h.hm)).trans h.hm⟩
end Go.Proofs.Ytnfhlbmapfoifaa
namespace Go.Proofs.Ytnfhlbmapfoifaa
open Go.RowKit
set_option linter.unusedVariables false
theorem goW_false {by_ : Int × Int} {rec : Nat → (Int × Int) × Bool} {wl : List Int} {card j : Nat} (he : gi wl j = (card : Int)) (hj : (rec j).2 = false) : ∀ (l : List Nat) (own : Int × Int), j ∈ l → (goW by_ rec wl card own l).2 = false
  | [], _, h => by cases h
  | k :: r, own, h => by
    unfold goW
    split
    · dsimp only
      split
      · rename_i h1 h2
        refine goW_false he hj r _ ?_
        rcases List.mem_cons.1 h with e | e
        · subst e; rw [hj] at h2; cases h2
        · exact e
      · rfl
    · rename_i h1
      refine goW_false he hj r _ ?_
      rcases List.mem_cons.1 h with e | e
      · subst e; exact (h1 he).elim
      · exact e
theorem goW_congr {by_ : Int × Int} {rec rec' : Nat → (Int × Int) × Bool} {wl : List Int} {card : Nat} : ∀ (l : List Nat) (own : Int × Int), (∀ j ∈ l, gi wl j = (card : Int) → rec j = rec' j) → goW by_ rec wl card own l = goW by_ rec' wl card own l
  | [], _, _ => rfl
  | k :: r, own, h => by
    unfold goW
    split
    · rename_i h1
      rw [h k (by simp) h1]
      dsimp only
      split
      · exact goW_congr r _ (fun j hj => h j (by simp [hj]))
      · rfl
    · exact goW_congr r _ (fun j hj => h j (by simp [hj]))
theorem whatF_fuel {p : Prs} {wl : List Int} {what : Bool} : ∀ (d c : Nat), Dep wl d c → whatF p wl what (d + 1) c = whatF p wl what d c
  | 0, _, h => h.elim
  | d + 1, c, h => by
    show goW _ (whatF p wl what (d + 1)) wl c _ _ = goW _ (whatF p wl what d) wl c _ _
    exact goW_congr _ _ fun j hj he => whatF_fuel d j (h j (List.mem_range.1 hj) he)
theorem can_up {p : Prs} {wl : List Int} {what : Bool} {n : Nat} (hw : GoodW n wl) (hr : roundB wl = false) : ∀ (m c : Nat), upW wl m (c : Int) = -1 → c < n → (whatF p wl what (wl.length + 1) c).2 = false → canB p wl what = false
  | 0, c, h, _, _ => by simp [upW] at h
  | m + 1, c, h, hc, hf => by
    have hcl : c < wl.length := by rw [hw.1]; exact hc
    by_cases h1 : gi wl c = -1
    · exact canB_false hcl h1 hf
    · have hg := hw.gi hc
      obtain ⟨r, hr'⟩ := Int.eq_ofNat_of_zero_le (show 0 ≤ gi wl c by omega)
      have hrn : r < n := by omega
      refine can_up hw hr m r ?_ hrn ?_
      · have h2 : upW wl (m + 1) (c : Int) = upW wl m (if (c : Int) = -1 then -1 else gi wl ((c : Int)).toNat) := rfl
        rw [h2, if_neg (by omega)] at h
        rw [show ((c : Int)).toNat = c from rfl, hr'] at h
        exact h
      · rw [← whatF_fuel (wl.length + 1) r (dep_of hr (by rw [hw.1]; exact hrn))]
        exact goW_false hr' hf _ _ (List.mem_range.2 hcl)
end Go.Proofs.Ytnfhlbmapfoifaa
namespace Go.Proofs.Ytnfhlbmapfoifaa
open Go.RowKit
set_option linter.unusedVariables false
end Go.Proofs.Ytnfhlbmapfoifaa
namespace Go.Proofs.Ytnfhlbmapfoifaa
open Go.RowKit
set_option linter.unusedVariables false
set_option linter.unusedSimpArgs false
theorem par_bit (l : List Int) (hl : ∀ x ∈ l, -1 ≤ x) (m : Nat) : (parS l).testBit m = decide ((m : Int) ∈ l) := by
  unfold parS
  rw [bits_bit]
  congr 1
  apply propext
  rw [List.mem_map]
  constructor
  · rintro ⟨x, hx, rfl⟩
    rw [List.mem_filter] at hx
    have h1 := hl x hx.1
    have h2 : x ≠ -1 := by simpa using hx.2
    have e : ((x.toNat : Nat) : Int) = x := by omega
    rw [e]
    exact hx.1
  · intro h
    exact ⟨(m : Int), List.mem_filter.2 ⟨h, by simp⟩, rfl⟩
theorem par_all {p : Prs} {i m : Nat} (hi : i < p.cards.length) : (parS (parL p i (waysL p).length)).testBit m = true ↔ ∃ x, x ∈ waysL p ∧ gi x i = (m : Int) := by
  rw [par_bit _ (fun x hx => by
    unfold parL at hx
    rw [List.take_length, List.mem_map] at hx
    obtain ⟨y, hy, rfl⟩ := hx
    exact ((ways_iff.1 hy).2.1 i hi).1)]
  unfold parL
  rw [List.take_length]
  simp [List.mem_map]
theorem par_orig {p : Prs} (hv : p.valid = true) {i : Nat} (hi : i < p.cards.length) : parO (parL p i (waysL p).length) = true := by
  unfold parO parL
  rw [List.take_length, List.any_eq_true]
  refine ⟨-1, ?_, rfl⟩
  rw [List.mem_map]
  refine ⟨List.replicate p.cards.length (-1), ?_, by simp [gi, hi]⟩
  have := onW_rep (p := p) p.cards.length [] (by simpa using way_rep hv)
  simpa [waysL] using this
theorem goW_bounds {by_ : Int × Int} {rec : Nat → (Int × Int) × Bool} {wl : List Int} {card : Nat} : ∀ (l : List Nat) (own : Int × Int), (goW by_ rec wl card own l).2 = true →
    (goW by_ rec wl card own l).1.1 ≤ (goW by_ rec wl card own l).1.2 ∧ own.1 ≤ (goW by_ rec wl card own l).1.1 ∧ (goW by_ rec wl card own l).1.2 ≤ own.2 ∧
      ∀ j ∈ l, gi wl j = (card : Int) → (rec j).2 = true ∧ (rec j).1.1 + by_.1 ≤ (goW by_ rec wl card own l).1.1 ∧ (goW by_ rec wl card own l).1.2 ≤ (rec j).1.2 + by_.2
  | [], own, h => by
    have h' : own.1 ≤ own.2 := by simpa [goW] using h
    exact ⟨h', Int.le_refl _, Int.le_refl _, fun j hj => by cases hj⟩
  | k :: r, own, h => by
    by_cases h1 : gi wl k = (card : Int)
    · by_cases h2 : (rec k).2 = true
      · have e : goW by_ rec wl card own (k :: r) = goW by_ rec wl card (max own.1 ((rec k).1.1 + by_.1), min own.2 ((rec k).1.2 + by_.2)) r := by
          conv => lhs; unfold goW
          rw [if_pos h1]
          dsimp only
          rw [if_pos h2]
        rw [e] at h ⊢
        obtain ⟨a1, a2, a3, a4⟩ := goW_bounds r _ h
        dsimp only at a2 a3
        refine ⟨a1, by omega, by omega, fun j hj he => ?_⟩
        rcases List.mem_cons.1 hj with e | e
        · subst e; exact ⟨h2, by omega, by omega⟩
        · exact a4 j e he
      · have e : goW by_ rec wl card own (k :: r) = (own, false) := by
          conv => lhs; unfold goW
          rw [if_pos h1]
          dsimp only
          rw [if_neg h2]
        rw [e] at h
        cases h
    · have e : goW by_ rec wl card own (k :: r) = goW by_ rec wl card own r := by
        conv => lhs; unfold goW
        rw [if_neg h1]
      rw [e] at h ⊢
      obtain ⟨a1, a2, a3, a4⟩ := goW_bounds r _ h
      refine ⟨a1, a2, a3, fun j hj he => ?_⟩
      rcases List.mem_cons.1 hj with e | e
      · subst e; exact (h1 he).elim
      · exact a4 j e he
theorem way_parts {p : Prs} {x : List Int} (h : isWayB p x = true) : marksB p x = true ∧ roundB x = false ∧ ∀ what, canB p x what = true := by
  unfold isWayB at h
  simp only [Bool.and_eq_true, Bool.not_eq_true'] at h
  exact ⟨h.1.1.1, h.1.1.2, fun what => by cases what <;> simp [h.1.2, h.2]⟩
theorem what_true {p : Prs} {x : List Int} (h : x ∈ waysL p) {c : Nat} (hc : c < p.cards.length) (what : Bool) : (whatF p x what (x.length + 1) c).2 = true := by
  obtain ⟨h1, h2, h3⟩ := ways_iff.1 h
  obtain ⟨_, hr, hcan⟩ := way_parts h3
  cases hw : (whatF p x what (x.length + 1) c).2
  · have := can_up (p := p) (what := what) (way_good h) hr x.length c (roundB_false.1 hr c (by omega)) hc hw
    rw [hcan what] at this
    cases this
  · rfl
theorem both_can {p : Prs} {i m : Nat} {what : Bool} {s0 s1 : Int × Int} (h0 : (gp (bothP p i m).cards 0).of what = s0) (h1 : (gp (bothP p i m).cards 1).of what = s1)
    (ha : s1.1 ≤ s1.2) (hb : max s0.1 (s1.1 + (p.by_ what).1) ≤ min s0.2 (s1.2 + (p.by_ what).2)) : canB (bothP p i m) [-1, 0] what = true := by
  have e1 : whatF (bothP p i m) [-1, 0] what 2 1 = (s1, true) := by
    show goW _ (whatF (bothP p i m) [-1, 0] what 1) [-1, 0] 1 ((gp (bothP p i m).cards 1).of what) [0, 1] = _
    rw [h1]
    simp [goW, gi, ha]
  have e0 : (whatF (bothP p i m) [-1, 0] what 3 0).2 = true := by
    show (goW ((bothP p i m).by_ what) (whatF (bothP p i m) [-1, 0] what 2) [-1, 0] 0 ((gp (bothP p i m).cards 0).of what) [0, 1]).2 = true
    rw [h0]
    have hby : (bothP p i m).by_ what = p.by_ what := rfl
    rw [hby]
    have g0 : gi [-1, 0] 0 = -1 := rfl
    have g1 : gi [-1, 0] 1 = 0 := rfl
    unfold goW
    rw [if_neg (by rw [g0]; decide)]
    unfold goW
    rw [if_pos (by rw [g1]; rfl)]
    dsimp only
    rw [e1]
    dsimp only
    rw [if_pos rfl]
    unfold goW
    simpa using hb
  unfold canB
  rw [List.all_eq_true]
  intro c hc
  have hc' : c = 0 ∨ c = 1 := by have : c < 2 := by simpa using hc
                                 omega
  rcases hc' with e | e
  · subst e
    simp only [Bool.or_eq_true]
    exact .inr e0
  · subst e; rfl
/-- Whatever can be a copy, fits. -/
theorem fits_way {p : Prs} {x : List Int} (h : x ∈ waysL p) {i m : Nat} (hi : i < p.cards.length) (hm : m < p.cards.length) (he : gi x i = (m : Int)) : isWayB (bothP p i m) [-1, 0] = true := by
  obtain ⟨h1, h2, h3⟩ := ways_iff.1 h
  obtain ⟨hmk, hr, hcan⟩ := way_parts h3
  have c0 : gp (bothP p i m).cards 0 = gp p.cards m := rfl
  have c1 : gp (bothP p i m).cards 1 = gp p.cards i := rfl
  have hmark : markedB p i m = true := by
    unfold marksB at hmk
    rw [List.all_eq_true] at hmk
    have := hmk i (by simp [h1, hi])
    rw [he] at this
    rw [Bool.or_eq_true] at this
    rcases this with h | h
    · simp at h
    · exact h
  have hcan2 : ∀ what, canB (bothP p i m) [-1, 0] what = true := fun what => by
    have ht := what_true h hm what
    have hb := goW_bounds (by_ := p.by_ what) (rec := whatF p x what x.length) (wl := x) (card := m) (List.range x.length) ((gp p.cards m).of what) ht
    obtain ⟨b1, b2, b3, b4⟩ := hb
    obtain ⟨d1, d2, d3⟩ := b4 i (by simp [h1, hi]) he
    cases hx : x.length with
    | zero => omega
    | succ d =>
      rw [hx] at b1 b2 b3 d1 d2 d3
      have hb2 := goW_bounds (by_ := p.by_ what) (rec := whatF p x what d) (wl := x) (card := i) (List.range x.length) ((gp p.cards i).of what) d1
      obtain ⟨e1, e2, e3, _⟩ := hb2
      have w1 : whatF p x what (d + 1) i = goW (p.by_ what) (whatF p x what d) x i ((gp p.cards i).of what) (List.range x.length) := rfl
      rw [w1] at d2 d3
      rw [hx] at d2 d3 e1 e2 e3
      exact both_can (s0 := (gp p.cards m).of what) (s1 := (gp p.cards i).of what) rfl rfl (by omega) (by omega)
  unfold isWayB
  have hround : roundB [-1, 0] = false := by decide
  have hmarks : marksB (bothP p i m) [-1, 0] = true := by
    unfold marksB
    rw [List.all_eq_true]
    intro c hc
    have hc' : c = 0 ∨ c = 1 := by have : c < 2 := by simpa using hc
                                   omega
    rcases hc' with e | e
    · subst e; rfl
    · subst e
      have : markedB (bothP p i m) 1 0 = markedB p i m := by unfold markedB; rw [c0, c1]
      simp only [Bool.or_eq_true]
      right
      show markedB (bothP p i m) 1 0 = true
      rw [this]; exact hmark
  rw [hmarks, hround, hcan2, hcan2]
  rfl
end Go.Proofs.Ytnfhlbmapfoifaa
namespace Go.Proofs.Ytnfhlbmapfoifaa
open Go.RowKit
set_option linter.unusedVariables false
set_option linter.unusedSimpArgs false
/-- The e-th cell of a print; the print with another e-th cell. -/
def Prt.cell (c : Prt) : Nat → Int
  | 0 => c.slo
  | 1 => c.shi
  | 2 => c.wlo
  | 3 => c.whi
  | _ => c.marks
def Prt.put (c : Prt) (x : Int) : Nat → Prt
  | 0 => { c with slo := x }
  | 1 => { c with shi := x }
  | 2 => { c with wlo := x }
  | 3 => { c with whi := x }
  | _ => { c with marks := x }
theorem put_cell (c : Prt) (x : Int) {e f : Nat} (he : e < 5) (hf : f < 5) : (c.put x e).cell f = if e = f then x else c.cell f := by
  have h1 : e = 0 ∨ e = 1 ∨ e = 2 ∨ e = 3 ∨ e = 4 := by omega
  have h2 : f = 0 ∨ f = 1 ∨ f = 2 ∨ f = 3 ∨ f = 4 := by omega
  rcases h1 with rfl | rfl | rfl | rfl | rfl <;> rcases h2 with rfl | rfl | rfl | rfl | rfl <;> rfl
theorem gp_set {l : List Prt} {k i : Nat} {x : Prt} (h : k < l.length) : gp (l.set k x) i = if k = i then x else gp l i := by
  unfold gp
  rw [List.getD_eq_getElem?_getD, List.getD_eq_getElem?_getD, List.getElem?_set]
  by_cases e : k = i
  · subst e; rw [if_pos rfl, if_pos rfl, if_pos h]; rfl
  · rw [if_neg e, if_neg e]
theorem IsPrts.cell {w : World} {a : Option Addr} {l : List Prt} (h : IsPrts w a l) {i e : Nat} (hi : i < l.length) (he : e < 5) : ∃ b off, a = some ⟨b, off, none⟩ ∧ w.cell? ⟨b, off + (i * 5 + e), none⟩ = some (.int .i64 ((gp l i).cell e)) := by
  obtain ⟨b, off, h0, c0, c1, c2, c3, c4⟩ := h i hi
  have h1 : e = 0 ∨ e = 1 ∨ e = 2 ∨ e = 3 ∨ e = 4 := by omega
  refine ⟨b, off, h0, ?_⟩
  rw [← Nat.add_assoc]
  rcases h1 with rfl | rfl | rfl | rfl | rfl
  · exact c0
  · exact c1
  · exact c2
  · exact c3
  · exact c4
/-- A row of prints in a block of its own. -/
structure PrRow (g : Nat) (l : List Prt) (w : World) : Prop where
  row : ∃ cur : Array Value, w.heap[g]? = some (.cells cur 54 (0, 0)) ∧ ∀ i e, i < l.length → e < 5 → cur[i * 5 + e]? = some (.int .i64 ((gp l i).cell e))
theorem PrRow.cells {g : Nat} {l : List Prt} {w : World} (h : PrRow g l w) {i e : Nat} (hi : i < l.length) (he : e < 5) : w.cell? ⟨g, i * 5 + e, none⟩ = some (.int .i64 ((gp l i).cell e)) := by
  obtain ⟨cur, h1, h2⟩ := h.row
  rw [cell_of_heap h1]
  exact h2 i e hi he
theorem PrRow.prts {g : Nat} {l : List Prt} {w : World} (h : PrRow g l w) : IsPrts w (some ⟨g, 0, none⟩) l := fun i hi => by
  refine ⟨g, 0, rfl, ?_, ?_, ?_, ?_, ?_⟩ <;> rw [Nat.zero_add]
  · exact h.cells hi (e := 0) (by decide)
  · exact h.cells hi (e := 1) (by decide)
  · exact h.cells hi (e := 2) (by decide)
  · exact h.cells hi (e := 3) (by decide)
  · exact h.cells hi (e := 4) (by decide)
theorem PrRow.mono {g : Nat} {l : List Prt} {w w' : World} (h : PrRow g l w) (hb : Below w.heap.size w w') : PrRow g l w' := by
  obtain ⟨cur, h1, h2⟩ := h.row
  exact ⟨cur, (hb.block _ (heap_lt h1)).trans h1, h2⟩
theorem PrRow.other {g : Nat} {l : List Prt} {v : World} (h : PrRow g l v) {b : Nat} (hne : b ≠ g) (k : Nat) (x : Value) : PrRow g l (v.setCell ⟨b, k, none⟩ x) := by
  obtain ⟨cur, h1, h2⟩ := h.row
  exact ⟨cur, (Below.heap_setCell _ _ _ _ (Ne.symm hne)).trans h1, h2⟩
theorem PrRow.lt {g : Nat} {l : List Prt} {w : World} (h : PrRow g l w) : g < w.heap.size := by
  obtain ⟨cur, h1, _⟩ := h.row
  exact heap_lt h1
theorem PrRow.frozen {g : Nat} {l : List Prt} {w : World} (h : PrRow g l w) (k : Nat) : w.frozen? ⟨g, k, none⟩ = false := by
  obtain ⟨cur, h1, _⟩ := h.row
  exact frozen_of_heap h1
theorem PrRow.put {g : Nat} {l : List Prt} {w : World} (h : PrRow g l w) {k e : Nat} (hk : k < l.length) (he : e < 5) (x : Int) : PrRow g (l.set k ((gp l k).put x e)) (w.setCell ⟨g, k * 5 + e, none⟩ (.int .i64 x)) := by
  obtain ⟨cur, h1, h2⟩ := h.row
  refine ⟨_, heap_setCell_at h1 _, fun i f hi hf => ?_⟩
  rw [List.length_set] at hi
  have hh := h2 i f hi hf
  rw [gp_set hk, Array.getElem?_setIfInBounds]
  by_cases e1 : k = i
  · subst e1
    rw [if_pos rfl, put_cell _ _ he hf]
    by_cases e2 : e = f
    · subst e2
      rw [if_pos rfl, if_pos (Array.getElem?_eq_some_iff.1 hh).1, if_pos rfl]
    · rw [if_neg (by omega), if_neg e2]; exact hh
  · rw [if_neg e1, if_neg (by omega)]; exact hh
theorem info_partsP {t : TypeId} {z : Value} {n m : Nat} (h : (Try.prog.info? t).map (fun i => (i.zero, i.size, i.bytes)) = some (some z, n, m)) : ∃ i, Try.prog.info? t = some i ∧ i.zero = some z ∧ i.size = n ∧ i.bytes = m := by
  cases hi : Try.prog.info? t with
  | none => rw [hi] at h; cases h
  | some i => rw [hi] at h; simp at h; exact ⟨i, rfl, h.1, h.2.1, h.2.2⟩
theorem infoPr : (Try.prog.info? 54).map (fun i => (i.zero, i.size, i.bytes)) = some (some (.agg #[.int .i64 0, .int .i64 0, .int .i64 0, .int .i64 0, .int .i64 0]), 5, 40) := by kernel_rfl
end Go.Proofs.Ytnfhlbmapfoifaa
namespace Go.Proofs.Ytnfhlbmapfoifaa
open Go.RowKit
set_option linter.unusedVariables false
set_option linter.unusedSimpArgs false
/-- True numbers of cards: each within its own, and each copy as much less as can be. -/
structure Asg (p : Prs) (w : List Int) (what : Bool) (v : Nat → Int) : Prop where
  own : ∀ c, c < w.length → ((gp p.cards c).of what).1 ≤ v c ∧ v c ≤ ((gp p.cards c).of what).2
  step : ∀ c, c < w.length → gi w c ≠ -1 → (p.by_ what).1 ≤ v (gi w c).toNat - v c ∧ v (gi w c).toNat - v c ≤ (p.by_ what).2
theorem goW_asg {by_ : Int × Int} {rec : Nat → (Int × Int) × Bool} {w : List Int} {card : Nat} {v : Nat → Int} : ∀ (l : List Nat) (own : Int × Int), own.1 ≤ v card → v card ≤ own.2 →
    (∀ j ∈ l, gi w j = (card : Int) → (rec j).2 = true ∧ (rec j).1.1 ≤ v j ∧ v j ≤ (rec j).1.2 ∧ by_.1 ≤ v card - v j ∧ v card - v j ≤ by_.2) →
    (goW by_ rec w card own l).2 = true ∧ (goW by_ rec w card own l).1.1 ≤ v card ∧ v card ≤ (goW by_ rec w card own l).1.2
  | [], own, h1, h2, _ => ⟨by show decide (own.1 ≤ own.2) = true; simp; omega, h1, h2⟩
  | k :: r, own, h1, h2, h => by
    by_cases hk : gi w k = (card : Int)
    · obtain ⟨g1, g2, g3, g4, g5⟩ := h k (by simp) hk
      have e : goW by_ rec w card own (k :: r) = goW by_ rec w card (max own.1 ((rec k).1.1 + by_.1), min own.2 ((rec k).1.2 + by_.2)) r := by
        conv => lhs; unfold goW
        rw [if_pos hk]
        dsimp only
        rw [if_pos g1]
      rw [e]
      exact goW_asg r _ (by dsimp only; omega) (by dsimp only; omega) (fun j hj => h j (by simp [hj]))
    · have e : goW by_ rec w card own (k :: r) = goW by_ rec w card own r := by
        conv => lhs; unfold goW
        rw [if_neg hk]
      rw [e]
      exact goW_asg r _ h1 h2 (fun j hj => h j (by simp [hj]))
theorem upW_child {w : List Int} {j c : Nat} (h : gi w j = (c : Int)) (m : Nat) : upW w (m + 1) (j : Int) = upW w m (c : Int) := by
  show upW w m (if (j : Int) = -1 then -1 else gi w ((j : Int)).toNat) = _
  rw [if_neg (by omega), Int.toNat_natCast, h]
theorem whatF_asg {p : Prs} {w : List Int} {what : Bool} {v : Nat → Int} (A : Asg p w what v) (hr : roundB w = false) : ∀ (d c : Nat), c < w.length → (∀ m, m + d ≤ w.length → upW w m (c : Int) ≠ -1) →
    (whatF p w what d c).2 = true ∧ (whatF p w what d c).1.1 ≤ v c ∧ v c ≤ (whatF p w what d c).1.2
  | 0, c, hc, h => absurd (roundB_false.1 hr c hc) (h w.length (Nat.le_refl _))
  | d + 1, c, hc, h => by
    refine goW_asg _ _ (A.own c hc).1 (A.own c hc).2 (fun j hj he => ?_)
    have hjl := List.mem_range.1 hj
    have ih := whatF_asg A hr d j hjl (fun m hm => by
      cases m with
      | zero => show (j : Int) ≠ -1; omega
      | succ m => rw [upW_child he]; exact h m (by omega))
    have hs := A.step j hjl (by rw [he]; omega)
    rw [he, Int.toNat_natCast] at hs
    exact ⟨ih.1, ih.2.1, ih.2.2, hs⟩
theorem can_asg {p : Prs} {w : List Int} {what : Bool} {v : Nat → Int} (A : Asg p w what v) (hr : roundB w = false) : canB p w what = true := by
  unfold canB
  rw [List.all_eq_true]
  intro c hc
  rw [Bool.or_eq_true]
  exact .inr (whatF_asg A hr _ c (List.mem_range.1 hc) (fun m hm => by omega)).1
def pickV (w : List Int) (b : Int × Int) (I : Nat → Int × Int) : Nat → Nat → Int
  | 0, c => (I c).1
  | m + 1, c => if gi w c = -1 then (I c).1 else max (I c).1 (pickV w b I m (gi w c).toNat - b.2)
theorem pick_in {n : Nat} {w : List Int} (hw : GoodW n w) {b : Int × Int} {I : Nat → Int × Int} (hI : ∀ c, c < n → (I c).1 ≤ (I c).2) (hS : ∀ c, c < n → gi w c ≠ -1 → (I c).1 + b.1 ≤ (I (gi w c).toNat).1 ∧ (I (gi w c).toNat).2 ≤ (I c).2 + b.2) : ∀ (m c : Nat), c < n → upW w (m + 1) (c : Int) = -1 →
    (I c).1 ≤ pickV w b I m c ∧ pickV w b I m c ≤ (I c).2 ∧ pickV w b I (m + 1) c = pickV w b I m c
  | 0, c, hc, h => by
    have h1 : gi w c = -1 := by
      have : upW w 1 (c : Int) = (if (c : Int) = -1 then -1 else gi w ((c : Int)).toNat) := rfl
      rw [this, if_neg (by omega), Int.toNat_natCast] at h
      exact h
    refine ⟨Int.le_refl _, hI c hc, ?_⟩
    show (if gi w c = -1 then (I c).1 else _) = (I c).1
    rw [if_pos h1]
  | m + 1, c, hc, h => by
    by_cases h1 : gi w c = -1
    · have e : ∀ k, pickV w b I (k + 1) c = (I c).1 := fun k => by
        show (if gi w c = -1 then (I c).1 else _) = (I c).1
        rw [if_pos h1]
      rw [e, e]
      exact ⟨Int.le_refl _, hI c hc, rfl⟩
    · have hg := hw.gi hc
      obtain ⟨r, hr⟩ := Int.eq_ofNat_of_zero_le (show 0 ≤ gi w c by omega)
      have hrn : r < n := by omega
      obtain ⟨i1, i2, i3⟩ := pick_in hw hI hS m r hrn (by rw [← upW_child hr]; exact h)
      have hs := hS c hc h1
      have e : ∀ k, pickV w b I (k + 1) c = max (I c).1 (pickV w b I k r - b.2) := fun k => by
        show (if gi w c = -1 then (I c).1 else max (I c).1 (pickV w b I k (gi w c).toNat - b.2)) = _
        rw [if_neg h1, hr]; rfl
      rw [hr, Int.toNat_natCast] at hs
      have hi := hI c hc
      rw [e, e, i3]
      exact ⟨by omega, by omega, rfl⟩
theorem asg_can {p : Prs} {w : List Int} {what : Bool} (hw : GoodW p.cards.length w) (hr : roundB w = false) (hb : (p.by_ what).1 ≤ (p.by_ what).2) (h : canB p w what = true) : ∃ v, Asg p w what v := by
  have hl := hw.1
  have ht : ∀ c, c < p.cards.length → (whatF p w what (w.length + 1) c).2 = true := fun c hc => by
    cases e : (whatF p w what (w.length + 1) c).2
    · have := can_up (p := p) (what := what) hw hr w.length c (roundB_false.1 hr c (by omega)) hc e
      rw [h] at this; cases this
    · rfl
  have hfix : ∀ c, c < p.cards.length → whatF p w what (w.length + 1) c = goW (p.by_ what) (whatF p w what (w.length + 1)) w c ((gp p.cards c).of what) (List.range w.length) := fun c hc => (whatF_fuel (w.length + 1) c (dep_of hr (by omega))).symm
  have hbd : ∀ c, c < p.cards.length → _ := fun c hc => goW_bounds (List.range w.length) ((gp p.cards c).of what) (by rw [← hfix c hc]; exact ht c hc)
  have hI : ∀ c, c < p.cards.length → (whatF p w what (w.length + 1) c).1.1 ≤ (whatF p w what (w.length + 1) c).1.2 := fun c hc => by
    have := (hbd c hc).1
    rw [← hfix c hc] at this; exact this
  have hS : ∀ c, c < p.cards.length → gi w c ≠ -1 → (whatF p w what (w.length + 1) c).1.1 + (p.by_ what).1 ≤ (whatF p w what (w.length + 1) (gi w c).toNat).1.1 ∧ (whatF p w what (w.length + 1) (gi w c).toNat).1.2 ≤ (whatF p w what (w.length + 1) c).1.2 + (p.by_ what).2 := fun c hc h1 => by
    have hg := hw.gi hc
    obtain ⟨r, hr'⟩ := Int.eq_ofNat_of_zero_le (show 0 ≤ gi w c by omega)
    have hrn : r < p.cards.length := by omega
    have := ((hbd r hrn).2.2.2 c (List.mem_range.2 (by omega)) hr').2
    rw [← hfix r hrn] at this
    rw [hr', Int.toNat_natCast]
    exact this
  have hpk := fun c hc => pick_in (b := p.by_ what) (I := fun c => (whatF p w what (w.length + 1) c).1) hw hI hS w.length c hc (by
    have := upW_stays (roundB_false.1 hr c (by omega)) 1
    exact this)
  refine ⟨pickV w (p.by_ what) (fun c => (whatF p w what (w.length + 1) c).1) w.length, fun c hc => ?_, fun c hc h1 => ?_⟩
  · have h1 := hpk c (by omega)
    have h2 := hbd c (by omega)
    have e := hfix c (by omega)
    rw [← e] at h2
    exact ⟨Int.le_trans h2.2.1 h1.1, Int.le_trans h1.2.1 h2.2.2.1⟩
  · have hcn : c < p.cards.length := by omega
    have hg := hw.gi hcn
    have hq := hpk c hcn
    have hs := hS c hcn h1
    obtain ⟨r, hr'⟩ := Int.eq_ofNat_of_zero_le (show 0 ≤ gi w c by omega)
    have hrn : r < p.cards.length := by omega
    have hqr := hpk r hrn
    rw [hr', Int.toNat_natCast] at hs ⊢
    have e : pickV w (p.by_ what) (fun c => (whatF p w what (w.length + 1) c).1) (w.length + 1) c = max (whatF p w what (w.length + 1) c).1.1 (pickV w (p.by_ what) (fun c => (whatF p w what (w.length + 1) c).1) w.length r - (p.by_ what).2) := by
      show (if gi w c = -1 then _ else max _ (pickV w _ _ w.length (gi w c).toNat - _)) = _
      rw [if_neg h1, hr']; rfl
    rw [hq.2.2] at e
    rw [e]
    have h3 := hqr.1
    have h4 := hqr.2.1
    skip
    omega
theorem way_asg {p : Prs} (hv : p.valid = true) {w : List Int} (hw : GoodW p.cards.length w) : isWayB p w = true ↔ marksB p w = true ∧ roundB w = false ∧ ∀ what, ∃ v, Asg p w what v := by
  constructor
  · intro h
    obtain ⟨h1, h2, h3⟩ := way_parts h
    refine ⟨h1, h2, fun what => asg_can hw h2 ?_ (h3 what)⟩
    obtain ⟨_, _, p1, p2⟩ := valid_parts hv
    cases what
    · have : 0 ≤ p.llo ∧ p.llo ≤ p.lhi ∧ p.lhi ≤ 16384 := by simpa [spanOk, and_assoc] using p1
      exact this.2.1
    · have : 0 ≤ p.olo ∧ p.olo ≤ p.ohi ∧ p.ohi ≤ 16384 := by simpa [spanOk, and_assoc] using p2
      exact this.2.1
  · rintro ⟨h1, h2, h3⟩
    obtain ⟨v, hv1⟩ := h3 false
    obtain ⟨u, hu⟩ := h3 true
    unfold isWayB
    rw [h1, h2, can_asg hv1 h2, can_asg hu h2]
    rfl
end Go.Proofs.Ytnfhlbmapfoifaa
namespace Go.Proofs.Ytnfhlbmapfoifaa
open Go.RowKit
set_option linter.unusedVariables false
set_option linter.unusedSimpArgs false
/-- The pile x is p, with the cards numbered by σ. -/
structure TurnP (n : Nat) (σ τ : Nat → Nat) (p x : Prs) : Prop where
  np : p.cards.length = n
  nx : x.cards.length = n
  lt : ∀ v, v < n → σ v < n
  tl : ∀ v, v < n → τ v < n
  back : ∀ v, v < n → τ (σ v) = v
  fore : ∀ v, v < n → σ (τ v) = v
  card : ∀ v, v < n → gp x.cards (σ v) = gp p.cards v
  by_ : ∀ what, x.by_ what = p.by_ what
section
variable {n : Nat} {σ τ : Nat → Nat} {p x : Prs}
theorem TurnP.symm (T : TurnP n σ τ p x) : TurnP n τ σ x p :=
  ⟨T.nx, T.np, T.tl, T.lt, T.fore, T.back, fun v h => by have := T.card (τ v) (T.tl v h); rw [T.fore v h] at this; exact this.symm, fun what => (T.by_ what).symm⟩
def fT (σ : Nat → Nat) (k : Int) : Int := if k = -1 then -1 else ((σ k.toNat : Nat) : Int)
theorem fT_neg (σ : Nat → Nat) : fT σ (-1) = -1 := rfl
theorem fT_nat (σ : Nat → Nat) (k : Nat) : fT σ (k : Int) = ((σ k : Nat) : Int) := by unfold fT; rw [if_neg (by omega), Int.toNat_natCast]
theorem fT_eq {σ : Nat → Nat} {k : Int} : fT σ k = -1 ↔ k = -1 := by
  unfold fT
  constructor
  · intro h
    by_cases e : k = -1
    · exact e
    · rw [if_neg e] at h; omega
  · intro h; rw [if_pos h]
def turnW (n : Nat) (σ τ : Nat → Nat) (w : List Int) : List Int := (List.range n).map fun u => fT σ (gi w (τ u))
theorem turnW_len (w : List Int) : (turnW n σ τ w).length = n := by simp [turnW]
theorem turnW_gi (w : List Int) {u : Nat} (h : u < n) : gi (turnW n σ τ w) u = fT σ (gi w (τ u)) := by simp [turnW, gi, h]
theorem nat_or {n : Nat} {k : Int} (h : -1 ≤ k ∧ k < n) : k = -1 ∨ ∃ m : Nat, k = (m : Int) ∧ m < n := by
  by_cases e : k = -1
  · exact .inl e
  · exact .inr ⟨k.toNat, by omega, by omega⟩
theorem fT_rng (T : TurnP n σ τ p x) {k : Int} (h : -1 ≤ k ∧ k < n) : -1 ≤ fT σ k ∧ fT σ k < n := by
  rcases nat_or h with rfl | ⟨m, rfl, hm⟩
  · rw [fT_neg]; omega
  · rw [fT_nat]; have := T.lt m hm; omega
theorem fT_back (T : TurnP n σ τ p x) {k : Int} (h : -1 ≤ k ∧ k < n) : fT τ (fT σ k) = k := by
  rcases nat_or h with rfl | ⟨m, rfl, hm⟩
  · rfl
  · rw [fT_nat, fT_nat, T.back m hm]
theorem turn_good (T : TurnP n σ τ p x) {w : List Int} (h : GoodW n w) : GoodW n (turnW n σ τ w) := by
  refine ⟨turnW_len w, fun y hy => ?_⟩
  unfold turnW at hy
  rw [List.mem_map] at hy
  obtain ⟨u, hu, rfl⟩ := hy
  exact fT_rng T (h.gi (T.tl u (List.mem_range.1 hu)))
theorem turn_up (T : TurnP n σ τ p x) {w : List Int} (h : GoodW n w) : ∀ (m : Nat) (k : Int), (-1 ≤ k ∧ k < n) → upW (turnW n σ τ w) m (fT σ k) = fT σ (upW w m k)
  | 0, k, _ => rfl
  | m + 1, k, hk => by
    show upW (turnW n σ τ w) m (if fT σ k = -1 then -1 else gi (turnW n σ τ w) (fT σ k).toNat) = fT σ (upW w m (if k = -1 then -1 else gi w k.toNat))
    rcases nat_or hk with rfl | ⟨c, rfl, hc⟩
    · exact turn_up T h m (-1) (by omega)
    · rw [fT_nat, if_neg (by omega), if_neg (by omega), Int.toNat_natCast, Int.toNat_natCast, turnW_gi w (T.lt c hc), T.back c hc]
      exact turn_up T h m _ (h.gi hc)
theorem turn_round (T : TurnP n σ τ p x) {w : List Int} (h : GoodW n w) (hr : roundB w = false) : roundB (turnW n σ τ w) = false := by
  refine roundB_false.2 fun c hc => ?_
  rw [turnW_len] at hc ⊢
  have h1 := turn_up T h n (τ c : Nat) (by have := T.tl c hc; omega)
  rw [fT_nat, T.fore c hc] at h1
  rw [h1]
  have h2 := roundB_false.1 hr (τ c) (by rw [h.1]; exact T.tl c hc)
  rw [h.1] at h2
  rw [h2]; rfl
theorem turn_marked (T : TurnP n σ τ p x) {c f : Nat} (hc : c < n) (hf : f < n) : markedB x (σ c) (σ f) = markedB p c f := by
  unfold markedB
  rw [T.card c hc, T.card f hf]
theorem turn_marks (T : TurnP n σ τ p x) {w : List Int} (h : GoodW n w) (hm : marksB p w = true) : marksB x (turnW n σ τ w) = true := by
  unfold marksB at hm ⊢
  rw [List.all_eq_true] at hm ⊢
  intro c hc
  rw [turnW_len, List.mem_range] at hc
  have h1 := hm (τ c) (by rw [h.1]; exact List.mem_range.2 (T.tl c hc))
  rw [turnW_gi w hc]
  rw [Bool.or_eq_true] at h1 ⊢
  rcases nat_or (h.gi (T.tl c hc)) with e | ⟨f, e, hf⟩
  · rw [e]; exact .inl rfl
  · rw [e] at h1
    rcases h1 with h1 | h1
    · exfalso
      simp at h1
    · right
      rw [e, fT_nat, Int.toNat_natCast]
      rw [Int.toNat_natCast] at h1
      rw [← turn_marked T (T.tl c hc) hf, T.fore c hc] at h1
      exact h1
theorem turn_asg (T : TurnP n σ τ p x) {w : List Int} (h : GoodW n w) {what : Bool} {v : Nat → Int} (A : Asg p w what v) : Asg x (turnW n σ τ w) what (fun u => v (τ u)) := by
  refine ⟨fun c hc => ?_, fun c hc h1 => ?_⟩
  · rw [turnW_len] at hc
    have h2 := A.own (τ c) (by rw [h.1]; exact T.tl c hc)
    have h3 := T.symm.card c hc
    rw [h3] at h2
    exact h2
  · rw [turnW_len] at hc
    rw [turnW_gi w hc] at h1 ⊢
    have h2 : gi w (τ c) ≠ -1 := fun e => h1 (fT_eq.2 e)
    have h3 := A.step (τ c) (by rw [h.1]; exact T.tl c hc) h2
    rcases nat_or (h.gi (T.tl c hc)) with e | ⟨f, e, hf⟩
    · exact absurd e h2
    · rw [e] at h3 ⊢
      rw [fT_nat, Int.toNat_natCast, T.by_]
      rw [Int.toNat_natCast] at h3
      rw [T.back f hf]
      exact h3
theorem turn_way (T : TurnP n σ τ p x) (hv : p.valid = true) (hx : x.valid = true) {w : List Int} (h : GoodW n w) (hw : isWayB p w = true) : isWayB x (turnW n σ τ w) = true := by
  obtain ⟨h1, h2, h3⟩ := (way_asg hv (by rw [T.np]; exact h)).1 hw
  refine (way_asg hx (by rw [T.nx]; exact turn_good T h)).2 ⟨turn_marks T h h1, turn_round T h h2, fun what => ?_⟩
  obtain ⟨v, hv⟩ := h3 what
  exact ⟨_, turn_asg T h hv⟩
theorem turn_mem (T : TurnP n σ τ p x) (hv : p.valid = true) (hx : x.valid = true) {w : List Int} (h : w ∈ waysL p) : turnW n σ τ w ∈ waysL x := by
  have hg := way_good h
  rw [T.np] at hg
  obtain ⟨h1, h2, h3⟩ := ways_iff.1 h
  refine ways_iff.2 ⟨by rw [turnW_len, T.nx], fun j hj => ?_, turn_way T hv hx hg h3⟩
  rw [T.nx] at hj ⊢
  rw [T.np] at h2
  rw [turnW_gi w hj]
  have h4 := fT_rng T (hg.gi (T.tl j hj))
  refine ⟨h4.1, h4.2, fun e => ?_⟩
  rcases nat_or (hg.gi (T.tl j hj)) with e2 | ⟨f, e2, hf⟩
  · rw [e2, fT_neg] at e; omega
  · rw [e2, fT_nat] at e
    have e3 : σ f = j := by omega
    have e4 : f = τ j := by rw [← e3, T.back f hf]
    exact (h2 (τ j) (T.tl j hj)).2.2 (by rw [e2, e4])
def turnO (σ : Nat → Nat) (o : List Int) : List Int := o.map (fT σ)
theorem turnO_gi {o : List Int} {k : Nat} (h : k < o.length) : gi (turnO σ o) k = fT σ (gi o k) := by simp [turnO, gi, h]
theorem turn_perm (T : TurnP n σ τ p x) {o : List Int} (h : IsPerm n o) : IsPerm n (turnO σ o) := by
  refine ⟨by simp [turnO, h.1], ?_, fun y hy => ?_⟩
  · unfold turnO
    rw [List.nodup_iff_pairwise_ne, List.pairwise_map]
    refine List.Pairwise.imp_of_mem ?_ (List.nodup_iff_pairwise_ne.1 h.2.1)
    intro a b ha hb hne e
    have ra := h.2.2 a ha
    have rb := h.2.2 b hb
    exact hne (by rw [← fT_back T (k := a) (by omega), e, fT_back T (k := b) (by omega)])
  · unfold turnO at hy
    rw [List.mem_map] at hy
    obtain ⟨a, ha, rfl⟩ := hy
    obtain ⟨m, rfl⟩ := Int.eq_ofNat_of_zero_le (h.2.2 a ha).1
    have := T.lt m (by have := (h.2.2 _ ha).2; omega)
    rw [fT_nat]; omega
theorem turn_chain (T : TurnP n σ τ p x) {o : List Int} (h : IsPerm n o) : chainL (turnO σ o) = turnW n σ τ (chainL o) := by
  have hp := turn_perm T h
  refine eq_gi (by rw [chainL_len, turnW_len]; exact hp.1) (fun u hu => ?_)
  rw [chainL_len, hp.1] at hu
  obtain ⟨k, hk, e⟩ := perm_has hp (c := (u : Int)) (by omega) (by omega)
  have h1 := chain_gi hp hk
  rw [e, Int.toNat_natCast] at h1
  have hk2 : k < o.length := by rw [h.1]; exact hk
  rw [turnO_gi hk2] at e
  have hr := perm_rng h hk
  obtain ⟨m, hm⟩ := Int.eq_ofNat_of_zero_le hr.1
  have hm : gi o k = (m : Int) := hm
  have hmn : m < n := by omega
  rw [hm, fT_nat] at e
  have e2 : τ u = m := by rw [← T.back m hmn]; congr 1; omega
  have h2 := chain_gi h hk
  rw [hm, Int.toNat_natCast] at h2
  rw [h1, turnW_gi _ hu, e2, h2]
  split
  · rfl
  · rw [turnO_gi (by omega)]
theorem turn_orders (T : TurnP n σ τ p x) (hv : p.valid = true) (hx : x.valid = true) {o : List Int} (h : o ∈ ordersL p) : turnO σ o ∈ ordersL x := by
  obtain ⟨h1, h2⟩ := orders_iff.1 h
  rw [T.np] at h1
  refine orders_iff.2 ⟨by rw [T.nx]; exact turn_perm T h1, ?_⟩
  rw [turn_chain T h1]
  have hg := way_good (chain_way h)
  rw [T.np] at hg
  exact turn_way T hv hx hg h2
end
end Go.Proofs.Ytnfhlbmapfoifaa
namespace Go.Proofs.Ytnfhlbmapfoifaa
open Go.RowKit
set_option linter.unusedVariables false
set_option linter.unusedSimpArgs false
/-- The orders that bits tell are the same, numbered otherwise. -/
structure Im (n : Nat) (σ : Nat → Nat) (os1 os2 : List (List Int)) (S1 S2 : Nat) : Prop where
  b1 : S1 < 2 ^ 128
  b2 : S2 < 2 ^ 128
  s1 : Sub os1 S1
  s2 : Sub os2 S2
  bit : ∀ i j, i < os1.length → j < os2.length → os2.getD j [] = turnO σ (os1.getD i []) → S1.testBit i = S2.testBit j
/-- Two lists of orders, one of the other numbered otherwise. -/
structure Tos (n : Nat) (σ τ : Nat → Nat) (os1 os2 : List (List Int)) : Prop where
  l1 : os1.length ≤ 128
  l2 : os2.length ≤ 128
  p1 : ∀ o ∈ os1, IsPerm n o
  p2 : ∀ o ∈ os2, IsPerm n o
  n1 : os1.Nodup
  n2 : os2.Nodup
  there : ∀ o ∈ os1, turnO σ o ∈ os2
  fro : ∀ o ∈ os2, turnO τ o ∈ os1
  back : ∀ o, IsPerm n o → turnO τ (turnO σ o) = o
  fore : ∀ o, IsPerm n o → turnO σ (turnO τ o) = o
  lt : ∀ v, v < n → σ v < n
  tl : ∀ v, v < n → τ v < n
  sb : ∀ v, v < n → τ (σ v) = v
  sf : ∀ v, v < n → σ (τ v) = v
section
variable {n : Nat} {σ τ : Nat → Nat} {os1 os2 : List (List Int)} {S1 S2 : Nat}
theorem Tos.symm (T : Tos n σ τ os1 os2) : Tos n τ σ os2 os1 := ⟨T.l2, T.l1, T.p2, T.p1, T.n2, T.n1, T.fro, T.there, T.fore, T.back, T.tl, T.lt, T.sf, T.sb⟩
theorem getD_mem {l : List (List Int)} {i : Nat} (h : i < l.length) : l.getD i [] ∈ l := by simp [h]
theorem Im.symm (T : Tos n σ τ os1 os2) (h : Im n σ os1 os2 S1 S2) : Im n τ os2 os1 S2 S1 :=
  ⟨h.b2, h.b1, h.s2, h.s1, fun j i hj hi e => (h.bit i j hi hj (by rw [e, T.fore _ (T.p2 _ (getD_mem hj))])).symm⟩
end
end Go.Proofs.Ytnfhlbmapfoifaa
namespace Go.Proofs.Ytnfhlbmapfoifaa
open Go.RowKit
set_option linter.unusedVariables false
set_option linter.unusedSimpArgs false
/-- A list of numbers in a block of its own, from B on. -/
def InRow (B : Nat) (f : Option Addr) (l : List Int) (w : World) : Prop :=
  0 < l.length → ∃ (g : Nat) (cur : Array Value), f = some ⟨g, 0, none⟩ ∧ B ≤ g ∧ w.heap[g]? = some (.cells cur 3 (0, 0)) ∧ ∀ i, i < l.length → cur[i]? = some (.int .i64 (gi l i))
theorem InRow.mono {B : Nat} {f : Option Addr} {l : List Int} {w w' : World} (h : InRow B f l w) (hb : Below w.heap.size w w') : InRow B f l w' := fun h0 => by
  obtain ⟨g, cur, e, h1, h2, h3⟩ := h h0
  exact ⟨g, cur, e, h1, (hb.block _ (heap_lt h2)).trans h2, h3⟩
theorem InRow.own {B : Nat} {f : Option Addr} {c : Nat} {l : List Int} {w : World} (h : w.ownsRow B 3 1 (.slice f l.length c) l.length (l.map (Value.int .i64))) : InRow B f l w := fun h0 => by
  obtain ⟨g, c2, e, h1, h2, _, _, h5⟩ := own_cell h h0
  rcases h.2 with ⟨_, h6⟩ | ⟨g', cap, cur, e', _, h7, _⟩
  · omega
  · cases e
    cases e'
    refine ⟨g, cur, rfl, h1, h7, fun i hi => ?_⟩
    have := h5 i (.int .i64 (gi l i)) (by simp [gi, hi])
    rw [cell_of_heap h7] at this
    exact this
def RowO (B : Nat) (w : World) (x : List Int × Value) : Prop := w.ownsRow B 3 1 x.2 x.1.length (x.1.map (Value.int .i64))
theorem RowO.row {B : Nat} {w : World} {x : List Int × Value} (h : RowO B w x) {av : Option Addr} {cv : Nat} (e : x.2 = .slice av x.1.length cv) : InRow B av x.1 w := by
  unfold RowO at h
  rw [e] at h
  exact InRow.own h
end Go.Proofs.Ytnfhlbmapfoifaa
namespace Go.Proofs.Ytnfhlbmapfoifaa
open Go.RowKit
set_option linter.unusedVariables false
set_option linter.unusedSimpArgs false
def leftReg2 : Code → Option Nat
  | .region id _ _ => some id
  | .seq a _ => leftReg2 a
  | _ => none
def fromReg (n : Nat) : Code → Option Code
  | .seq a b => if leftReg2 a = some n then some (.seq a b) else match fromReg n a with
    | some c => some c
    | none => fromReg n b
  | .block _ c => fromReg n c
  | .scope c => fromReg n c
  | .loop c => fromReg n c
  | .cond _ a b => match fromReg n a with
    | some c => some c
    | none => fromReg n b
  | _ => none
/-- The number of a card, and the card of a number. -/
def sgn (n c v : Nat) : Nat := (v + c) % n
def tgn (n c v : Nat) : Nat := (v + (n - c % n)) % n
theorem sgn_lt {n c v : Nat} (h : v < n) : sgn n c v < n := Nat.mod_lt _ (by omega)
theorem tgn_lt {n c v : Nat} (h : v < n) : tgn n c v < n := Nat.mod_lt _ (by omega)
theorem tgn_sgn {n c v : Nat} (h : v < n) : tgn n c (sgn n c v) = v := by
  unfold tgn sgn
  have h1 : c % n < n := Nat.mod_lt _ (by omega)
  rw [Nat.mod_add_mod]
  have h2 : v + c + (n - c % n) = v + n * (c / n + 1) := by
    have := Nat.div_add_mod c n
    rw [Nat.mul_add, Nat.mul_one]
    omega
  rw [h2, Nat.add_mul_mod_self_left]
  exact Nat.mod_eq_of_lt h
theorem sgn_tgn {n c v : Nat} (h : v < n) : sgn n c (tgn n c v) = v := by
  unfold tgn sgn
  have h1 : c % n < n := Nat.mod_lt _ (by omega)
  rw [Nat.mod_add_mod]
  have h2 : v + (n - c % n) + c = v + n * (c / n + 1) := by
    have := Nat.div_add_mod c n
    rw [Nat.mul_add, Nat.mul_one]
    omega
  rw [h2, Nat.add_mul_mod_self_left]
  exact Nat.mod_eq_of_lt h
/-- The bounds of a pile, without cards. -/
structure Bnd where
  llo : Int
  lhi : Int
  olo : Int
  ohi : Int
def Bnd.ok (B : Bnd) : Prop := 1 ≤ B.llo ∧ B.llo ≤ B.lhi ∧ B.lhi ≤ 9 ∧ 1 ≤ B.olo ∧ B.olo ≤ B.ohi ∧ B.ohi ≤ 17
def Bnd.prs (B : Bnd) (l : List Prt) : Prs := ⟨l, B.llo, B.lhi, B.olo, B.ohi⟩
/-- The print of a card whose size and whose width are these. -/
structure TruP (x : Prt) (s d : Int) : Prop where
  slo : s - 5 ≤ x.slo ∧ x.slo ≤ s
  shi : s ≤ x.shi ∧ x.shi ≤ s + 5
  wlo : d - 5 ≤ x.wlo ∧ x.wlo ≤ d
  whi : d ≤ x.whi ∧ x.whi ≤ d + 5
  marks : ∃ m : Nat, x.marks = (m : Int) ∧ m < 1024
/-- A card that was made: from none, or from one that was made before. -/
structure TruC (B : Bnd) (ch : Bool) (S D Q : List Int) (l : List Prt) (c : Nat) : Prop where
  s : 500 - 9 * (c : Int) ≤ gi S c ∧ gi S c ≤ 599
  d : 2000 - 17 * (c : Int) ≤ gi D c ∧ gi D c ≤ 2099
  p : TruP (gp l c) (gi S c) (gi D c)
  q : (gi Q c = -1 ∧ (ch = true → c = 0)) ∨ ∃ j : Nat, j < c ∧ gi Q c = (j : Int) ∧ (ch = true → j + 1 = c) ∧
    (∀ b, (gp l j).marks.toNat.testBit b = true → (gp l c).marks.toNat.testBit b = true) ∧
    B.llo ≤ gi S j - gi S c ∧ gi S j - gi S c ≤ B.lhi ∧ B.olo ≤ gi D j - gi D c ∧ gi D j - gi D c ≤ B.ohi
/-- All cards below k were made. -/
structure TruL (B : Bnd) (ch : Bool) (n : Nat) (S D Q : List Int) (l : List Prt) (k : Nat) : Prop where
  ls : S.length = n
  ld : D.length = n
  lq : Q.length = n
  ll : l.length = n
  all : ∀ c, c < k → TruC B ch S D Q l c
theorem gi_set_ne {l : List Int} {i j : Nat} {x : Int} (h : i ≠ j) : gi (l.set i x) j = gi l j := by simp [gi, List.getElem?_set, h]
theorem gi_set_eq {l : List Int} {i : Nat} {x : Int} (h : i < l.length) : gi (l.set i x) i = x := by simp [gi, h]
theorem gp_set_ne {l : List Prt} {i j : Nat} {x : Prt} (h : i ≠ j) : gp (l.set i x) j = gp l j := by simp [gp, List.getElem?_set, h]
theorem gp_set_eq {l : List Prt} {i : Nat} {x : Prt} (h : i < l.length) : gp (l.set i x) i = x := by simp [gp, h]
/-- One card more. -/
theorem TruL.more {B : Bnd} {ch : Bool} {n : Nat} {S D Q : List Int} {l : List Prt} {k : Nat} (h : TruL B ch n S D Q l k) (hk : k < n) {s d q : Int} {x : Prt}
    (hs : 500 - 9 * (k : Int) ≤ s ∧ s ≤ 599) (hd : 2000 - 17 * (k : Int) ≤ d ∧ d ≤ 2099) (hp : TruP x s d)
    (hq : (q = -1 ∧ (ch = true → k = 0)) ∨ ∃ j : Nat, j < k ∧ q = (j : Int) ∧ (ch = true → j + 1 = k) ∧ (∀ b, (gp l j).marks.toNat.testBit b = true → x.marks.toNat.testBit b = true) ∧
      B.llo ≤ gi S j - s ∧ gi S j - s ≤ B.lhi ∧ B.olo ≤ gi D j - d ∧ gi D j - d ≤ B.ohi) :
    TruL B ch n (S.set k s) (D.set k d) (Q.set k q) (l.set k x) (k + 1) := by
  refine ⟨by rw [List.length_set, h.ls], by rw [List.length_set, h.ld], by rw [List.length_set, h.lq], by rw [List.length_set, h.ll], fun c hc => ?_⟩
  have h1 := h.ls
  have h2 := h.ld
  have h3 := h.lq
  have h4 := h.ll
  by_cases e : c = k
  · subst e
    refine ⟨by rw [gi_set_eq (by omega)]; exact hs, by rw [gi_set_eq (by omega)]; exact hd, by rw [gi_set_eq (by omega), gi_set_eq (by omega), gp_set_eq (by omega)]; exact hp, ?_⟩
    rw [gi_set_eq (by omega), gi_set_eq (by omega), gi_set_eq (by omega), gp_set_eq (by omega)]
    rcases hq with hq | ⟨j, hj, e1, e2, e3, e4⟩
    · exact .inl hq
    · refine .inr ⟨j, hj, e1, e2, ?_⟩
      rw [gi_set_ne (by omega), gi_set_ne (by omega), gp_set_ne (by omega)]
      exact ⟨e3, e4⟩
  · have hx := h.all c (by omega)
    have e' : k ≠ c := fun h => e h.symm
    refine ⟨by rw [gi_set_ne e']; exact hx.s, by rw [gi_set_ne e']; exact hx.d, by rw [gi_set_ne e', gi_set_ne e', gp_set_ne e']; exact hx.p, ?_⟩
    rw [gi_set_ne e', gi_set_ne e', gi_set_ne e', gp_set_ne e']
    rcases hx.q with hq | ⟨j, hj, e1, e2, e3, e4⟩
    · exact .inl hq
    · refine .inr ⟨j, hj, e1, e2, ?_⟩
      rw [gi_set_ne (by omega), gi_set_ne (by omega), gp_set_ne (by omega)]
      exact ⟨e3, e4⟩
section
variable {B : Bnd} {ch : Bool} {n : Nat} {S D Q : List Int} {l : List Prt}
theorem tru_valid (hB : B.ok) (hn : n ≤ 5) (h : TruL B ch n S D Q l n) : (B.prs l).valid = true := by
  obtain ⟨b1, b2, b3, b4, b5, b6⟩ := hB
  have hl := h.ll
  have hall : l.all Prt.ok = true := by
    rw [List.all_eq_true]
    intro x hx
    obtain ⟨c, hc, rfl⟩ := List.getElem_of_mem hx
    have hc' := h.all c (by omega)
    have e : gp l c = l[c] := by simp [gp, hc]
    obtain ⟨p1, p2, p3, p4, m, hm, hm2⟩ := hc'.p
    have s := hc'.s
    have d := hc'.d
    rw [e] at p1 p2 p3 p4 hm
    simp only [Prt.ok, spanOk, inR, Bool.and_eq_true, decide_eq_true_eq]
    omega
  unfold Prs.valid
  show (decide (l.length ≤ 5) && l.all Prt.ok && spanOk B.llo B.lhi && spanOk B.olo B.ohi) = true
  rw [hall]
  simp only [spanOk, Bool.and_eq_true, decide_eq_true_eq]
  refine ⟨⟨⟨?_, trivial⟩, ?_⟩, ?_⟩ <;> omega
theorem tru_rng (h : TruL B ch n S D Q l n) {c : Nat} (hc : c < n) : gi Q c = -1 ∨ ∃ j : Nat, j < c ∧ gi Q c = (j : Int) := by
  rcases (h.all c hc).q with hq | ⟨j, hj, e, _⟩
  · exact .inl hq.1
  · exact .inr ⟨j, hj, e⟩
theorem tru_good (h : TruL B ch n S D Q l n) : GoodW n Q := ⟨h.lq, fun x hx => by
  obtain ⟨c, hc, rfl⟩ := List.getElem_of_mem hx
  have hl := h.lq
  have e : gi Q c = Q[c] := by simp [gi, hc]
  rcases tru_rng h (c := c) (by omega) with hq | ⟨j, hj, e2⟩
  · rw [← e]; omega
  · rw [← e]; omega⟩
theorem tru_up (h : TruL B ch n S D Q l n) : ∀ (m c : Nat), c < n → c < m → upW Q m (c : Int) = -1
  | 0, c, _, hm => by omega
  | m + 1, c, hc, hm => by
    show upW Q m (if (c : Int) = -1 then -1 else gi Q ((c : Int)).toNat) = -1
    rw [if_neg (by omega), Int.toNat_natCast]
    rcases tru_rng h hc with hq | ⟨j, hj, e⟩
    · rw [hq]
      have := upW_stays (wl := Q) (L := 0) (c := -1) rfl m
      rwa [Nat.zero_add] at this
    · rw [e]; exact tru_up h m j (by omega) (by omega)
theorem tru_round (h : TruL B ch n S D Q l n) : roundB Q = false := roundB_false.2 fun c hc => by
  have hl := h.lq
  exact tru_up h _ c (by omega) hc
theorem tru_marks (h : TruL B ch n S D Q l n) : marksB (B.prs l) Q = true := by
  unfold marksB
  rw [List.all_eq_true]
  intro c hc
  have hl := h.lq
  have hc := List.mem_range.1 hc
  rw [Bool.or_eq_true, decide_eq_true_eq]
  rcases (h.all c (by omega)).q with hq | ⟨j, hj, e, _, hb, _⟩
  · exact .inl hq.1
  · refine .inr ?_
    rw [e, Int.toNat_natCast]
    unfold markedB
    rw [List.all_eq_true]
    intro b _
    show (!(gp l j).marks.toNat.testBit b || (gp l c).marks.toNat.testBit b) = true
    cases hx : (gp l j).marks.toNat.testBit b
    · rfl
    · rw [hb b hx]; rfl
theorem tru_asg (h : TruL B ch n S D Q l n) (what : Bool) : ∃ v, Asg (B.prs l) Q what v := by
  have hl := h.lq
  cases what
  · refine ⟨fun c => gi S c, fun c hc => ?_, fun c hc hq => ?_⟩
    · have := (h.all c (by omega)).p
      exact ⟨this.slo.2, this.shi.1⟩
    · rcases (h.all c (by omega)).q with h2 | ⟨j, hj, e, _, _, h3, h4, _⟩
      · exact absurd h2.1 hq
      · rw [e, Int.toNat_natCast]; exact ⟨h3, h4⟩
  · refine ⟨fun c => gi D c, fun c hc => ?_, fun c hc hq => ?_⟩
    · have := (h.all c (by omega)).p
      exact ⟨this.wlo.2, this.whi.1⟩
    · rcases (h.all c (by omega)).q with h2 | ⟨j, hj, e, _, _, _, _, h3⟩
      · exact absurd h2.1 hq
      · rw [e, Int.toNat_natCast]; exact h3
theorem tru_way (hB : B.ok) (hn : n ≤ 5) (h : TruL B ch n S D Q l n) : isWayB (B.prs l) Q = true := by
  have hl := h.ll
  have hg : GoodW (B.prs l).cards.length Q := by show GoodW l.length Q; rw [hl]; exact tru_good h
  exact (way_asg (tru_valid hB hn h) hg).2 ⟨tru_marks h, tru_round h, tru_asg h⟩
theorem tru_mem (hB : B.ok) (hn : n ≤ 5) (h : TruL B ch n S D Q l n) : Q ∈ waysL (B.prs l) := by
  have hl := h.ll
  have hq := h.lq
  refine ways_iff.2 ⟨by show Q.length = l.length; omega, fun j hj => ?_, tru_way hB hn h⟩
  have hj : j < l.length := hj
  show -1 ≤ gi Q j ∧ gi Q j < (l.length : Int) ∧ gi Q j ≠ (j : Int)
  rcases tru_rng h (c := j) (by omega) with h2 | ⟨m, hm, e⟩
  · omega
  · omega
/-- The order in which they were made. -/
def upO (n : Nat) : List Int := (List.range n).map fun (k : Nat) => (k : Int)
theorem upO_gi {k : Nat} (h : k < n) : gi (upO n) k = (k : Int) := by simp [upO, gi, h]
theorem upO_perm : IsPerm n (upO n) := perm_range n
theorem chain_len {o : List Int} : ∀ {w : List Int} {last : Int}, (chainF w last o).length = w.length := by
  induction o with
  | nil => intro w last; rfl
  | cons x r ih => intro w last; show (chainF (w.set x.toNat last) x r).length = _; rw [ih, List.length_set]
theorem tru_chain (h : TruL B true n S D Q l n) : chainL (upO n) = Q := by
  have hq := h.lq
  have hlen : (chainL (upO n)).length = n := by
    unfold chainL
    rw [chain_len, List.length_replicate]
    simp [upO]
  apply List.ext_getElem (by omega)
  intro c h1 h2
  have e1 : gi (chainL (upO n)) c = (chainL (upO n))[c] := by simp [gi, h1]
  have e2 : gi Q c = Q[c] := by simp [gi, h2]
  rw [← e1, ← e2]
  have hc : c < n := by omega
  have hg := chain_gi (upO_perm (n := n)) hc
  rw [upO_gi hc, Int.toNat_natCast] at hg
  rw [hg]
  rcases (h.all c hc).q with ⟨h3, h4⟩ | ⟨j, hj, h3, h4, _⟩
  · rw [if_pos (h4 rfl), h3]
  · have := h4 rfl
    rw [if_neg (by omega), h3, upO_gi (by omega)]
    omega
theorem tru_order (hB : B.ok) (hn : n ≤ 5) (h : TruL B true n S D Q l n) : upO n ∈ ordersL (B.prs l) := by
  have hl := h.ll
  refine orders_iff.2 ⟨by show IsPerm l.length (upO n); rw [hl]; exact upO_perm, ?_⟩
  rw [tru_chain h]
  exact tru_way hB hn h
end
/-- What made tells: a pile, and from which card each was truly copied. -/
structure Told (ch : Bool) (p : Prs) (F : List Int) : Prop where
  valid : p.valid = true
  mem : F ∈ waysL p
  chain : ch = true → ∃ o, o ∈ ordersL p ∧ chainL o = F
/-- The pile whose cards are numbered otherwise. -/
structure Turned (n c : Nat) (l m : List Prt) (Q F : List Int) : Prop where
  lm : m.length = n
  lf : F.length = n
  card : ∀ v, v < n → gp m (sgn n c v) = gp l v
  frm : ∀ v, v < n → gi F (sgn n c v) = fT (sgn n c) (gi Q v)
theorem told_of {B : Bnd} {ch : Bool} {n c : Nat} {S D Q F : List Int} {l m : List Prt} (hB : B.ok) (hn : n ≤ 5) (h : TruL B ch n S D Q l n) (ht : Turned n c l m Q F) : Told ch (B.prs m) F := by
  have hl := h.ll
  have T : TurnP n (sgn n c) (tgn n c) (B.prs l) (B.prs m) := ⟨hl, ht.lm, fun v h => sgn_lt h, fun v h => tgn_lt h, fun v h => tgn_sgn h, fun v h => sgn_tgn h, ht.card, fun what => rfl⟩
  have hv := tru_valid hB hn h
  have hm : (B.prs m).valid = true := by
    obtain ⟨h1, h2, h3, h4⟩ := valid_parts hv
    have h5 : m.all Prt.ok = true := by
      rw [List.all_eq_true]
      intro y hy
      obtain ⟨u, hu, rfl⟩ := List.getElem_of_mem hy
      have hun : u < n := by have := ht.lm; omega
      have e := ht.card (tgn n c u) (tgn_lt hun)
      rw [sgn_tgn hun] at e
      have e2 : gp m u = m[u] := by simp [gp, hu]
      rw [← e2, e]
      exact h2 _ (by show _ < l.length; rw [hl]; exact tgn_lt hun)
    unfold Prs.valid
    have h1' : m.length ≤ 5 := by have := ht.lm; omega
    show (decide (m.length ≤ 5) && m.all Prt.ok && spanOk B.llo B.lhi && spanOk B.olo B.ohi) = true
    rw [h5, decide_eq_true h1']
    show (true && true && spanOk B.llo B.lhi && spanOk B.olo B.ohi) = true
    have h3' : spanOk B.llo B.lhi = true := h3
    have h4' : spanOk B.olo B.ohi = true := h4
    rw [h3', h4']; rfl
  have hF : F = turnW n (sgn n c) (tgn n c) Q := by
    apply List.ext_getElem (by rw [turnW_len]; exact ht.lf)
    intro u h1 h2
    have hun : u < n := by have := ht.lf; omega
    have e1 : gi F u = F[u] := by simp [gi, h1]
    have e2 : gi (turnW n (sgn n c) (tgn n c) Q) u = (turnW n (sgn n c) (tgn n c) Q)[u] := by simp [gi, h2]
    rw [← e1, ← e2, turnW_gi _ hun]
    have := ht.frm (tgn n c u) (tgn_lt hun)
    rwa [sgn_tgn hun] at this
  refine ⟨hm, ?_, fun hc => ?_⟩
  · rw [hF]
    exact turn_mem T hv hm (tru_mem hB hn h)
  · subst hc
    refine ⟨turnO (sgn n c) (upO n), turn_orders T hv hm (tru_order hB hn h), ?_⟩
    rw [hF, turn_chain T upO_perm, tru_chain h]
end Go.Proofs.Ytnfhlbmapfoifaa
namespace Go.Proofs.Ytnfhlbmapfoifaa
open Go.RowKit
set_option linter.unusedVariables false
set_option linter.unusedSimpArgs false
/-- Words that are handed in. -/
def IsWords (w : World) (b off : Nat) (l : List Int) : Prop := ∀ i, i < l.length → w.cell? ⟨b, off + i, none⟩ = some (.int .u16 (gi l i))
/-- What is drawn, by how many were drawn before. -/
def drL (l : List Int) (k : Nat) (m : Int) : Int := (gi l ((k + 1) % l.length) + 5 * ((k : Int) + 1)) % m
/-- A drawer: its count, and its numbers. -/
structure Drawer (w : World) (pa pb : Nat) (dr : Nat → Int → Int) (k : Nat) : Prop where
  at_ : w.heap[pa]? = some (.cells #[.int .i64 k] 3 (0, 0))
  by_ : ∃ b off cap l, w.cell? ⟨pb, 0, none⟩ = some (.slice (some ⟨b, off, none⟩) (l : List Int).length cap) ∧ IsWords w b off l ∧ 0 < l.length ∧ l.length ≤ 9223372036854775807 ∧ (∀ x ∈ l, 0 ≤ x ∧ x ≤ 65535) ∧ b ≠ pa ∧ pb ≠ pa ∧ dr = drL l
theorem Drawer.low {w : World} {pa pb k : Nat} {dr : Nat → Int → Int} (h : Drawer w pa pb dr k) (j : Nat) {m : Int} (hm : 1 ≤ m) : 0 ≤ dr j m ∧ dr j m < m := by
  obtain ⟨_, _, _, l, _, _, _, _, _, _, _, e⟩ := h.by_
  rw [e]
  exact ⟨Int.emod_nonneg _ (by omega), Int.emod_lt_of_pos _ (by omega)⟩
set_option maxHeartbeats 1000000 in
theorem draw_any {m : Int} (hm : 1 ≤ m ∧ m ≤ 1000) {pa pb k : Nat} {dr : Nat → Int → Int} (hk : k ≤ 1000) {w : World} (h : Drawer w pa pb dr k) :
    Calls Try.prog 87 #[.int .i64 m, .pointer (some ⟨pa, 0, none⟩), .pointer (some ⟨pb, 0, none⟩)] w fun e w' => e = .returned (.int .i64 (dr k m)) ∧ Drawer w' pa pb dr (k + 1) ∧ Same (fun i => i = pa) w w' := by
  obtain ⟨hm0, hm1⟩ := hm
  obtain ⟨b, off, cap, l, h1, h2, h3, h4, h5, h6, h7, h8⟩ := h.by_
  have hat := h.at_
  have ca : w.cell? ⟨pa, 0, none⟩ = some (.int .i64 k) := by rw [cell_of_heap hat]; rfl
  have fa : w.frozen? ⟨pa, 0, none⟩ = false := frozen_of_heap hat
  obtain ⟨i, hi⟩ : ∃ i : Nat, i = (k + 1) % l.length := ⟨_, rfl⟩
  have hil : i < l.length := by rw [hi]; exact Nat.mod_lt _ h3
  have hx := h2 i hil
  have hb := h5 (gi l i) (by simp [gi, hil])
  obtain ⟨x, hxx⟩ : ∃ x, x = gi l i := ⟨_, rfl⟩
  have HV : Hid (dr k m = (x + 5 * ((k : Int) + 1)) % m) := by show dr k m = _; rw [h8, hxx, hi]; rfl
  rw [← hxx] at hx hb
  obtain ⟨hb0, hb1⟩ := hb
  have hrem : ((k : Int) + 1) % (l.length : Int) = (i : Int) := by rw [hi]; simp
  have HS : Hid (Same (fun i => i = pa) w (w.setCell ⟨pa, 0, none⟩ (.int .i64 ((k : Int) + 1)))) := Same.setCell (M := fun i => i = pa) (Same.refl _ w) (.inl rfl) _
  have HH : Hid ((w.setCell ⟨pa, 0, none⟩ (.int .i64 ((k : Int) + 1))).heap[pa]? = some (.cells #[.int .i64 ((k : Int) + 1)] 3 (0, 0))) := heap_setCell_at hat _
  have HN := Lib.hid (And.intro h1 (And.intro h2 (And.intro h3 (And.intro h4 (And.intro h5 (And.intro h6 (And.intro h7 h8)))))))
  have hne1 : b ≠ pa := h6
  have hne2 : pb ≠ pa := h7
  clear h h2 h5 hat hi hxx h6 h7 h8
  go_enter Try.func87, Try.ntmps87
  go_wp2
  have c1 : (w.setCell ⟨pa, 0, none⟩ (.int .i64 ((k : Int) + 1))).cell? ⟨pa, 0, none⟩ = some (.int .i64 ((k : Int) + 1)) := World.cell?_setCell_same _ _ _ ca
  have c2 := HS.out.cell h1 hne2
  have c3 := HS.out.cell hx hne1
  clear ca fa h1 hx
  revert HS HH c1 c2 c3
  generalize (w.setCell ⟨pa, 0, none⟩ (.int .i64 ((k : Int) + 1))) = w1
  intro HS HH c1 c2 c3
  have x1 := fun y : Aft w1.heap.size w1 => cell_stays y.h c1
  have x2 := fun y : Aft w1.heap.size w1 => cell_stays y.h c2
  have x3 := fun y : Aft w1.heap.size w1 => cell_stays y.h c3
  have y1 : IntKind.i64.wrap x = x := IntWalk.i64_in _ (by omega)
  have y2 : IntKind.i64.wrap (5 * ((k : Int) + 1)) = 5 * ((k : Int) + 1) := IntWalk.i64_in _ (by omega)
  have y3 : IntKind.i64.wrap (x + 5 * ((k : Int) + 1)) = x + 5 * ((k : Int) + 1) := IntWalk.i64_in _ (by omega)
  have y4 : ((k : Int) + 1).tmod (l.length : Int) = (i : Int) := by rw [Int.tmod_eq_emod_of_nonneg (by omega)]; exact hrem
  have y5 : (x + 5 * ((k : Int) + 1)).tmod m = (x + 5 * ((k : Int) + 1)) % m := Int.tmod_eq_emod_of_nonneg (by omega)
  have y6 : ¬ (l.length : Int) = 0 := by omega
  have y7 : ¬ m = 0 := by omega
  refine wp_region_aft mixed (by kernel_rfl) ?_
  repeat (go_big_quiet_step (fail))
  refine wpQuiet_nil ?_
  rintro _ ⟨y, rfl⟩
  go_wp2
  go_ret
  have hsy : Same (fun i => i = pa) w1 y.v := Same.of_below _ y.h
  obtain ⟨z1, z2, z3, z4, z5, z6, z7, z8⟩ := HN.out
  refine ⟨by rw [HV.out]; rfl, ⟨?_, ?_⟩, HS.out.trans hsy⟩
  · rw [y.h.block pa (Array.getElem?_eq_some_iff.1 HH.out).1, HH.out]
    simp
  · exact ⟨b, off, cap, l, cell_stays y.h (HS.out.cell z1 z7), fun j hj => cell_stays y.h (HS.out.cell (z2 j hj) z6), z3, z4, z5, z6, z7, z8⟩
set_option maxHeartbeats 1000000 in
theorem draws_any {w : World} {b off cap : Nat} {l : List Int} (hw : IsWords w b off l) (h0 : 0 < l.length) (h1 : l.length ≤ 9223372036854775807) (h2 : ∀ x ∈ l, 0 ≤ x ∧ x ≤ 65535) :
    Calls Try.prog 42 #[.slice (some ⟨b, off, none⟩) l.length cap] w fun e w' => ∃ (pa pb : Nat) (dr : Nat → Int → Int), e = .returned (.func (.func 87) #[] #[.pointer (some ⟨pa, 0, none⟩), .pointer (some ⟨pb, 0, none⟩)]) ∧ Drawer w' pa pb dr 0 ∧ Below w.heap.size w w' ∧ w.heap.size ≤ pa := by
  have hmf : ∀ (fn : Fn) (first cap : Array Value) (w : World), (Instr.makeFunc fn first cap).run Try.prog w = .ok (.func fn first cap) w := fun _ _ _ _ => rfl
  have hb : Below w.heap.size w ((w.alloc (.cells #[.slice (some ⟨b, off, none⟩) l.length cap] 64)).alloc (.cells #[.int .i64 0] 3)) := ((Below.refl _ w).alloc (Nat.le_refl _) _).alloc (by simp) _
  have hp0 : ((w.alloc (.cells #[.slice (some ⟨b, off, none⟩) l.length cap] 64)).alloc (.cells #[.int .i64 0] 3)).heap[w.heap.size]? = some (.cells #[.slice (some ⟨b, off, none⟩) l.length cap] 64 (0, 0)) := by
    rw [Below.heap_alloc _ _ _ (by simp)]
    exact World.alloc_heap_new w _
  have hp1 := World.alloc_heap_new (w.alloc (.cells #[.slice (some ⟨b, off, none⟩) l.length cap] 64)) (.cells #[.int .i64 0] 3)
  rw [World.size_alloc] at hp1
  have hbl : b < w.heap.size := lt_of_cell (hw 0 h0)
  have HD : Hid (Drawer ((w.alloc (.cells #[.slice (some ⟨b, off, none⟩) l.length cap] 64)).alloc (.cells #[.int .i64 0] 3)) (w.heap.size + 1) w.heap.size (drL l) 0) :=
    ⟨hp1, b, off, cap, l, by rw [cell_of_heap hp0]; rfl, fun i hi => cell_stays hb (hw i hi), h0, h1, h2, by omega, by omega, rfl⟩
  have HB := Lib.hid hb
  clear hb hp0 hp1 hw h2
  go_enter Try.func42, Try.ntmps42
  go_wp2_with fail
  go_ret
  exact ⟨_, _, _, rfl, HD.out, HB.out, by omega⟩
/-- A row of numbers in a block of its own. -/
def intR (l : List Int) : Obj := .cells (l.map (Value.int .i64)).toArray 3 (0, 0)
theorem intR_cell {w : World} {g : Nat} {l : List Int} (h : w.heap[g]? = some (intR l)) {i : Nat} (hi : i < l.length) : w.cell? ⟨g, i, none⟩ = some (.int .i64 (gi l i)) := by
  unfold intR at h
  rw [cell_of_heap h]
  simp [gi, hi]
theorem intR_set {w : World} {g : Nat} {l : List Int} (h : w.heap[g]? = some (intR l)) (i : Nat) (x : Int) : (w.setCell ⟨g, i, none⟩ (.int .i64 x)).heap[g]? = some (intR (l.set i x)) := by
  unfold intR at h ⊢
  rw [heap_setCell_at h, List.map_set]
  simp
theorem intR_frozen {w : World} {g : Nat} {l : List Int} (h : w.heap[g]? = some (intR l)) (i : Nat) : w.frozen? ⟨g, i, none⟩ = false := frozen_of_heap h
theorem intR_ints {w : World} {g : Nat} {l : List Int} (h : w.heap[g]? = some (intR l)) : IsInts w (some ⟨g, 0, none⟩) l := fun i hi => ⟨g, 0, rfl, by rw [Nat.zero_add]; exact intR_cell h hi⟩
/-- The blocks of made: each apart from the others, all new. -/
structure Lay (W0 : World) (pa b3 b4 b8 g9 g10 g11 g12 : Nat) : Prop where
  p : pa < W0.heap.size
  l3 : W0.heap.size ≤ b3
  l4 : b3 < b4
  l8 : b4 < b8
  l9 : b8 < g9
  l10 : b8 < g10
  ne : g9 ≠ g10
  l11 : g9 < g11 ∧ g10 < g11
  l12 : g11 < g12
/-- What lies in memory while cards are made. -/
structure MkC (W0 : World) (pa b3 b4 b8 g9 g10 g11 g12 pb : Nat) (vc : Value) (B : Bnd) (n : Nat) (k : Nat) (S D Q : List Int) (l : List Prt) (w : World) : Prop where
  same : Same (fun i => i = pa) W0 w
  drw : w.heap[pa]? = some (.cells #[.int .i64 k] 3 (0, 0))
  h3 : w.heap[b3]? = some (.cells #[.func (.func 87) #[] #[.pointer (some ⟨pa, 0, none⟩), .pointer (some ⟨pb, 0, none⟩)]] 67 (0, 0))
  h4 : w.heap[b4]? = some (.cells #[vc, .int .i64 B.llo, .int .i64 B.lhi, .int .i64 B.olo, .int .i64 B.ohi] 26 (0, 0))
  h8 : w.heap[b8]? = some (.cells #[.int .i64 (n : Int)] 3 (0, 0))
  r9 : w.heap[g9]? = some (intR S)
  r10 : w.heap[g10]? = some (intR D)
  r11 : PrRow g11 l w
  r12 : w.heap[g12]? = some (intR Q)
section
variable {W0 : World} {pa b3 b4 b8 g9 g10 g11 g12 pb : Nat} {vc : Value} {B : Bnd} {n k : Nat} {S D Q : List Int} {l : List Prt} {w w' : World} {dr : Nat → Int → Int}
theorem MkC.mono (h : MkC W0 pa b3 b4 b8 g9 g10 g11 g12 pb vc B n k S D Q l w) (hb : Below w.heap.size w w') : MkC W0 pa b3 b4 b8 g9 g10 g11 g12 pb vc B n k S D Q l w' :=
  ⟨h.same.trans (Same.of_below _ hb), (hb.block _ (heap_lt h.drw)).trans h.drw, (hb.block _ (heap_lt h.h3)).trans h.h3, (hb.block _ (heap_lt h.h4)).trans h.h4, (hb.block _ (heap_lt h.h8)).trans h.h8, (hb.block _ (heap_lt h.r9)).trans h.r9, (hb.block _ (heap_lt h.r10)).trans h.r10, h.r11.mono hb, (hb.block _ (heap_lt h.r12)).trans h.r12⟩
theorem PrRow.kept {g : Nat} {l : List Prt} {w w' : World} (h : PrRow g l w) (e : w'.heap[g]? = w.heap[g]?) : PrRow g l w' := by
  obtain ⟨cur, h1, h2⟩ := h.row
  exact ⟨cur, e.trans h1, h2⟩
theorem drawer_at {W0 w : World} {pa pb k k0 : Nat} {dr : Nat → Int → Int} (hd : Drawer W0 pa pb dr k0) (hs : Same (fun i => i = pa) W0 w) (ha : w.heap[pa]? = some (.cells #[.int .i64 k] 3 (0, 0))) : Drawer w pa pb dr k := by
  refine ⟨ha, ?_⟩
  obtain ⟨b, off, cap, l, h1, h2, h3, h4, h5, h6, h7, h8⟩ := hd.by_
  exact ⟨b, off, cap, l, hs.cell h1 h7, fun i hi => hs.cell (h2 i hi) h6, h3, h4, h5, h6, h7, h8⟩
theorem mk_draw (L : Lay W0 pa b3 b4 b8 g9 g10 g11 g12) {k0 : Nat} (hd : Drawer W0 pa pb dr k0) {m : Int} (hm : 1 ≤ m ∧ m ≤ 1000) (hk : k ≤ 1000) (h : MkC W0 pa b3 b4 b8 g9 g10 g11 g12 pb vc B n k S D Q l w) :
    Calls Try.prog 87 #[.int .i64 m, .pointer (some ⟨pa, 0, none⟩), .pointer (some ⟨pb, 0, none⟩)] w fun e w' => e = .returned (.int .i64 (dr k m)) ∧ MkC W0 pa b3 b4 b8 g9 g10 g11 g12 pb vc B n (k + 1) S D Q l w' ∧ Same (fun i => i = pa) w w' := by
  refine (draw_any hm hk (drawer_at hd h.same h.drw)).mono ?_
  rintro e w' ⟨rfl, h4, hs⟩
  have q := L.p; have q3 := L.l3; have q4 := L.l4; have q8 := L.l8; have q9 := L.l9; have q10 := L.l10; have q11 := L.l11; have q12 := L.l12
  have hk : ∀ i, i ≠ pa → i < w.heap.size → w'.heap[i]? = w.heap[i]? := fun i h1 h2 => hs.block i h2 h1
  exact ⟨rfl, ⟨h.same.trans hs, h4.at_, (hk _ (by omega) (heap_lt h.h3)).trans h.h3, (hk _ (by omega) (heap_lt h.h4)).trans h.h4, (hk _ (by omega) (heap_lt h.h8)).trans h.h8, (hk _ (by omega) (heap_lt h.r9)).trans h.r9, (hk _ (by omega) (heap_lt h.r10)).trans h.r10, h.r11.kept (hk _ (by omega) h.r11.lt), (hk _ (by omega) (heap_lt h.r12)).trans h.r12⟩, hs⟩
theorem MkC.set9 (L : Lay W0 pa b3 b4 b8 g9 g10 g11 g12) (h : MkC W0 pa b3 b4 b8 g9 g10 g11 g12 pb vc B n k S D Q l w) (i : Nat) (x : Int) : MkC W0 pa b3 b4 b8 g9 g10 g11 g12 pb vc B n k (S.set i x) D Q l (w.setCell ⟨g9, i, none⟩ (.int .i64 x)) := by
  have q := L.p; have q3 := L.l3; have q4 := L.l4; have q8 := L.l8; have q9 := L.l9; have q10 := L.l10; have q11 := L.l11; have q12 := L.l12; have qn := L.ne
  have hk : ∀ i', i' ≠ g9 → (w.setCell ⟨g9, i, none⟩ (.int .i64 x)).heap[i']? = w.heap[i']? := fun i' h1 => Below.heap_setCell _ _ _ _ h1
  exact ⟨h.same.setCell (.inr (by show W0.heap.size ≤ g9; omega)) _, (hk _ (by omega)).trans h.drw, (hk _ (by omega)).trans h.h3, (hk _ (by omega)).trans h.h4, (hk _ (by omega)).trans h.h8, intR_set h.r9 i x, (hk _ (by omega)).trans h.r10, h.r11.kept (hk _ (by omega)), (hk _ (by omega)).trans h.r12⟩
theorem MkC.set10 (L : Lay W0 pa b3 b4 b8 g9 g10 g11 g12) (h : MkC W0 pa b3 b4 b8 g9 g10 g11 g12 pb vc B n k S D Q l w) (i : Nat) (x : Int) : MkC W0 pa b3 b4 b8 g9 g10 g11 g12 pb vc B n k S (D.set i x) Q l (w.setCell ⟨g10, i, none⟩ (.int .i64 x)) := by
  have q := L.p; have q3 := L.l3; have q4 := L.l4; have q8 := L.l8; have q9 := L.l9; have q10 := L.l10; have q11 := L.l11; have q12 := L.l12; have qn := L.ne
  have hk : ∀ i', i' ≠ g10 → (w.setCell ⟨g10, i, none⟩ (.int .i64 x)).heap[i']? = w.heap[i']? := fun i' h1 => Below.heap_setCell _ _ _ _ h1
  exact ⟨h.same.setCell (.inr (by show W0.heap.size ≤ g10; omega)) _, (hk _ (by omega)).trans h.drw, (hk _ (by omega)).trans h.h3, (hk _ (by omega)).trans h.h4, (hk _ (by omega)).trans h.h8, (hk _ (by omega)).trans h.r9, intR_set h.r10 i x, h.r11.kept (hk _ (by omega)), (hk _ (by omega)).trans h.r12⟩
theorem MkC.set12 (L : Lay W0 pa b3 b4 b8 g9 g10 g11 g12) (h : MkC W0 pa b3 b4 b8 g9 g10 g11 g12 pb vc B n k S D Q l w) (i : Nat) (x : Int) : MkC W0 pa b3 b4 b8 g9 g10 g11 g12 pb vc B n k S D (Q.set i x) l (w.setCell ⟨g12, i, none⟩ (.int .i64 x)) := by
  have q := L.p; have q3 := L.l3; have q4 := L.l4; have q8 := L.l8; have q9 := L.l9; have q10 := L.l10; have q11 := L.l11; have q12 := L.l12; have qn := L.ne
  have hk : ∀ i', i' ≠ g12 → (w.setCell ⟨g12, i, none⟩ (.int .i64 x)).heap[i']? = w.heap[i']? := fun i' h1 => Below.heap_setCell _ _ _ _ h1
  exact ⟨h.same.setCell (.inr (by show W0.heap.size ≤ g12; omega)) _, (hk _ (by omega)).trans h.drw, (hk _ (by omega)).trans h.h3, (hk _ (by omega)).trans h.h4, (hk _ (by omega)).trans h.h8, (hk _ (by omega)).trans h.r9, (hk _ (by omega)).trans h.r10, h.r11.kept (hk _ (by omega)), intR_set h.r12 i x⟩
/-- A print is put into a row of prints. -/
theorem PrRow.put5 {g : Nat} {l : List Prt} {w : World} (h : PrRow g l w) {i : Nat} (hi : i < l.length) (x : Prt) : PrRow g (l.set i x) (((((w.setCell ⟨g, i * 5, none⟩ (.int .i64 x.slo)).setCell ⟨g, i * 5 + 1, none⟩ (.int .i64 x.shi)).setCell ⟨g, i * 5 + 2, none⟩ (.int .i64 x.wlo)).setCell ⟨g, i * 5 + 3, none⟩ (.int .i64 x.whi)).setCell ⟨g, i * 5 + 4, none⟩ (.int .i64 x.marks)) := by
  have h0 := h.put hi (e := 0) (by decide) x.slo
  have h1 := h0.put (k := i) (by rw [List.length_set]; exact hi) (e := 1) (by decide) x.shi
  have h2 := h1.put (k := i) (by rw [List.length_set, List.length_set]; exact hi) (e := 2) (by decide) x.wlo
  have h3 := h2.put (k := i) (by rw [List.length_set, List.length_set, List.length_set]; exact hi) (e := 3) (by decide) x.whi
  have h4 := h3.put (k := i) (by rw [List.length_set, List.length_set, List.length_set, List.length_set]; exact hi) (e := 4) (by decide) x.marks
  rw [List.set_set, List.set_set, List.set_set, List.set_set] at h4
  rw [Nat.add_zero] at h4
  rw [gp_set_eq (by rw [List.length_set, List.length_set, List.length_set]; exact hi), gp_set_eq (by rw [List.length_set, List.length_set]; exact hi), gp_set_eq (by rw [List.length_set]; exact hi), gp_set_eq hi] at h4
  exact h4
theorem heap_set5 {w : World} {g j : Nat} (h : j ≠ g) (i : Nat) (x : Prt) : (((((w.setCell ⟨g, i * 5, none⟩ (.int .i64 x.slo)).setCell ⟨g, i * 5 + 1, none⟩ (.int .i64 x.shi)).setCell ⟨g, i * 5 + 2, none⟩ (.int .i64 x.wlo)).setCell ⟨g, i * 5 + 3, none⟩ (.int .i64 x.whi)).setCell ⟨g, i * 5 + 4, none⟩ (.int .i64 x.marks)).heap[j]? = w.heap[j]? :=
  (Below.heap_setCell _ _ _ _ h).trans ((Below.heap_setCell _ _ _ _ h).trans ((Below.heap_setCell _ _ _ _ h).trans ((Below.heap_setCell _ _ _ _ h).trans (Below.heap_setCell _ _ _ _ h))))
theorem Same.set5 {M : Nat → Prop} {A w : World} (h : Same M A w) {g : Nat} (hg : M g ∨ A.heap.size ≤ g) (i : Nat) (x : Prt) : Same M A (((((w.setCell ⟨g, i * 5, none⟩ (.int .i64 x.slo)).setCell ⟨g, i * 5 + 1, none⟩ (.int .i64 x.shi)).setCell ⟨g, i * 5 + 2, none⟩ (.int .i64 x.wlo)).setCell ⟨g, i * 5 + 3, none⟩ (.int .i64 x.whi)).setCell ⟨g, i * 5 + 4, none⟩ (.int .i64 x.marks)) :=
  ((((h.setCell (p := ⟨g, _, none⟩) hg _).setCell (p := ⟨g, _, none⟩) hg _).setCell (p := ⟨g, _, none⟩) hg _).setCell (p := ⟨g, _, none⟩) hg _).setCell (p := ⟨g, _, none⟩) hg _
theorem MkC.set11 (L : Lay W0 pa b3 b4 b8 g9 g10 g11 g12) (h : MkC W0 pa b3 b4 b8 g9 g10 g11 g12 pb vc B n k S D Q l w) {i : Nat} (hi : i < l.length) (x : Prt) : MkC W0 pa b3 b4 b8 g9 g10 g11 g12 pb vc B n k S D Q (l.set i x) (((((w.setCell ⟨g11, i * 5, none⟩ (.int .i64 x.slo)).setCell ⟨g11, i * 5 + 1, none⟩ (.int .i64 x.shi)).setCell ⟨g11, i * 5 + 2, none⟩ (.int .i64 x.wlo)).setCell ⟨g11, i * 5 + 3, none⟩ (.int .i64 x.whi)).setCell ⟨g11, i * 5 + 4, none⟩ (.int .i64 x.marks)) := by
  have q := L.p; have q3 := L.l3; have q4 := L.l4; have q8 := L.l8; have q9 := L.l9; have q10 := L.l10; have q11 := L.l11; have q12 := L.l12; have qn := L.ne
  exact ⟨h.same.set5 (.inr (by omega)) i x, (heap_set5 (by omega) i x).trans h.drw, (heap_set5 (by omega) i x).trans h.h3, (heap_set5 (by omega) i x).trans h.h4, (heap_set5 (by omega) i x).trans h.h8, (heap_set5 (by omega) i x).trans h.r9, (heap_set5 (by omega) i x).trans h.r10, h.r11.put5 hi x, (heap_set5 (by omega) i x).trans h.r12⟩
theorem MkC.other (L : Lay W0 pa b3 b4 b8 g9 g10 g11 g12) (h : MkC W0 pa b3 b4 b8 g9 g10 g11 g12 pb vc B n k S D Q l w) {b : Nat} (hb : g12 < b) (i : Nat) (x : Value) : MkC W0 pa b3 b4 b8 g9 g10 g11 g12 pb vc B n k S D Q l (w.setCell ⟨b, i, none⟩ x) := by
  have q := L.p; have q3 := L.l3; have q4 := L.l4; have q8 := L.l8; have q9 := L.l9; have q10 := L.l10; have q11 := L.l11; have q12 := L.l12
  have hk : ∀ i', i' ≠ b → (w.setCell ⟨b, i, none⟩ x).heap[i']? = w.heap[i']? := fun i' h1 => Below.heap_setCell _ _ _ _ h1
  exact ⟨h.same.setCell (.inr (by show W0.heap.size ≤ b; omega)) _, (hk _ (by omega)).trans h.drw, (hk _ (by omega)).trans h.h3, (hk _ (by omega)).trans h.h4, (hk _ (by omega)).trans h.h8, (hk _ (by omega)).trans h.r9, (hk _ (by omega)).trans h.r10, h.r11.kept (hk _ (by omega)), (hk _ (by omega)).trans h.r12⟩
theorem MkC.c3 (h : MkC W0 pa b3 b4 b8 g9 g10 g11 g12 pb vc B n k S D Q l w) : w.cell? ⟨b3, 0, none⟩ = some (.func (.func 87) #[] #[.pointer (some ⟨pa, 0, none⟩), .pointer (some ⟨pb, 0, none⟩)]) := by rw [cell_of_heap h.h3]; rfl
theorem MkC.c8 (h : MkC W0 pa b3 b4 b8 g9 g10 g11 g12 pb vc B n k S D Q l w) : w.cell? ⟨b8, 0, none⟩ = some (.int .i64 (n : Int)) := by rw [cell_of_heap h.h8]; rfl
theorem MkC.c4 (h : MkC W0 pa b3 b4 b8 g9 g10 g11 g12 pb vc B n k S D Q l w) : w.cell? ⟨b4, 0, none⟩ = some vc ∧ w.cell? ⟨b4, 1, none⟩ = some (.int .i64 B.llo) ∧ w.cell? ⟨b4, 2, none⟩ = some (.int .i64 B.lhi) ∧ w.cell? ⟨b4, 3, none⟩ = some (.int .i64 B.olo) ∧ w.cell? ⟨b4, 4, none⟩ = some (.int .i64 B.ohi) := by
  refine ⟨?_, ?_, ?_, ?_, ?_⟩ <;> rw [cell_of_heap h.h4] <;> rfl
end
theorem number86 {w : World} {bt bn c n v : Nat} (h5 : w.cell? ⟨bt, 0, none⟩ = some (.int .i64 (c : Int))) (hn : w.cell? ⟨bn, 0, none⟩ = some (.int .i64 (n : Int))) (hc : c ≤ 255) (hn0 : 0 < n) (hn6 : n ≤ 16) (hv : v ≤ 16) :
    Calls Try.prog 86 #[.int .i64 (v : Int), .pointer (some ⟨bt, 0, none⟩), .pointer (some ⟨bn, 0, none⟩)] w fun e w' => e = .returned (.int .i64 ((sgn n c v : Nat) : Int)) ∧ w = w' := by
  have y1 : IntKind.i64.wrap ((v : Int) + (c : Int)) = (v : Int) + (c : Int) := IntWalk.i64_in _ (by omega)
  have y2 : ((v : Int) + (c : Int)).tmod (n : Int) = ((sgn n c v : Nat) : Int) := by rw [Int.tmod_eq_emod_of_nonneg (by omega)]; unfold sgn; rw [Int.natCast_emod, Int.natCast_add]
  have y3 : ¬ (n : Int) = 0 := by omega
  go_enter Try.func86, Try.ntmps86
  go_wp2_with fail
  go_ret
  exact ⟨rfl, rfl⟩
theorem make42 {n : Nat} (hn : n ≤ 16) (w : World) : (Instr.makeSlice 42 (.int .i64 (n : Int)) (.int .i64 (n : Int))).run Try.prog w = .ok (.slice (some ⟨w.heap.size, 0, none⟩) n n) (w.alloc (.cells (madeCells #[.int .i64 0] n) 3)) := by
  obtain ⟨i0, hi0, hi1, hi2, hi3⟩ := info_parts infoI
  have h := run_make (P := Try.prog) (w := w) 42 3 i0 _ Try.underlying42 hi0 hi1 .i64 .i64 (n : Int) (n : Int) (by omega) (by omega) (by rw [hi3]; omega) (by omega)
  simpa [hi2, Value.cells] using h
theorem made_int (n : Nat) : Obj.cells (madeCells #[.int .i64 0] n) 3 (0, 0) = intR (List.replicate n 0) := by
  unfold intR
  congr 1
  apply Array.ext
  · simp [madeCells]
  · intro i h1 h2
    simp [madeCells, Nat.mod_one]
theorem make22q {n : Nat} (hn : n ≤ 16) (w : World) : (Instr.makeSlice 22 (.int .i64 (n : Int)) (.int .i64 (n : Int))).run Try.prog w = .ok (.slice (some ⟨w.heap.size, 0, none⟩) n n) (w.alloc (.cells (madeCells #[.int .i64 0, .int .i64 0, .int .i64 0, .int .i64 0, .int .i64 0] (n * 5)) 54)) := by
  obtain ⟨i0, hi0, hi1, hi2, hi3⟩ := info_partsP infoPr
  have h := run_make (P := Try.prog) (w := w) 22 54 i0 _ Try.underlying22 hi0 hi1 .i64 .i64 (n : Int) (n : Int) (by omega) (by omega) (by rw [hi3]; omega) (by omega)
  simpa [hi2, Value.cells] using h
theorem made_prts {w : World} {g n : Nat} (h : w.heap[g]? = some (.cells (madeCells #[.int .i64 0, .int .i64 0, .int .i64 0, .int .i64 0, .int .i64 0] (n * 5)) 54 (0, 0))) : PrRow g (List.replicate n ⟨0, 0, 0, 0, 0⟩) w := by
  refine ⟨_, h, fun i e hi he => ?_⟩
  rw [List.length_replicate] at hi
  have e2 : (gp (List.replicate n ⟨0, 0, 0, 0, 0⟩) i) = ⟨0, 0, 0, 0, 0⟩ := by simp [gp, hi]
  rw [e2]
  have h3 : (Prt.cell ⟨0, 0, 0, 0, 0⟩ e) = 0 := by
    match e, he with
    | 0, _ => rfl
    | 1, _ => rfl
    | 2, _ => rfl
    | 3, _ => rfl
    | 4, _ => rfl
  rw [h3]
  have hs : i * 5 + e < n * 5 := by omega
  have h5 : (i * 5 + e) % 5 = e := by omega
  simp [madeCells, hs, h5]
  match e, he with
  | 0, _ => rfl
  | 1, _ => rfl
  | 2, _ => rfl
  | 3, _ => rfl
  | 4, _ => rfl
end Go.Proofs.Ytnfhlbmapfoifaa
