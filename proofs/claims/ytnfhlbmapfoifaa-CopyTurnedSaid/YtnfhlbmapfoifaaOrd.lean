/- Far too many cards, or not; orders, whatever the prints. -/
import Derived.Test.YtnfhlbmapfoifaaR1
import Derived.Test.YtnfhlbmapfoifaaW52
namespace Go.Proofs.Ytnfhlbmapfoifaa
open Go.RowKit
set_option linter.unusedVariables false

theorem great5 {p : Prs} {a : Option Addr} {cap : Nat} {w : World} (ha : IsPrts w a p.cards) : Calls Try.prog 13 #[p.v a cap, .int .i64 5] w fun e w' => e = .returned (.bool (decide (16 < p.cards.length))) ∧ Below w.heap.size w w' := by
  have h := great_any (cap := cap) ha 5 (by decide)
  have e : (decide (16 < p.cards.length) || (decide (5 < p.cards.length) && p.valid)) = decide (16 < p.cards.length) := by
    cases hv : p.valid
    · simp
    · have := (valid_parts hv).1
      simp
      omega
  rw [e] at h
  exact h
/-- The orders, whatever the prints: how both answer. -/
def ordN (p : Prs) : List (List Int) := if ordersE p = 0 then ordersL p else []
theorem ord_out {p : Prs} {B : Nat} {v : Value} {w : World} (h : OrdersOut p B v w) : ∃ a c, v = .slice a (ordN p).length c ∧ IsLists w a (ordN p) := by
  unfold ordN
  by_cases hE : ordersE p = 0
  · rw [if_pos hE]
    exact (h.1 hE).lists
  · rw [if_neg hE]
    exact ⟨none, 0, h.2 hE, fun i hi => by simp at hi⟩
theorem ord_mem {p : Prs} (hn : p.cards.length ≤ 16) : ∀ o ∈ ordN p, o.length ≤ 30 := fun o h => by
  unfold ordN at h
  by_cases hE : ordersE p = 0
  · rw [if_pos hE] at h
    rw [orders_at h]; omega
  · rw [if_neg hE] at h
    cases h
theorem ord_len {p : Prs} : (ordN p).length ≤ 120 := by
  unfold ordN
  by_cases hE : ordersE p = 0
  · rw [if_pos hE]
    exact orders_few (ordersE_valid hE)
  · rw [if_neg hE]; simp
theorem orders_c {p : Prs} {a : Option Addr} {cap : Nat} {w : World} (ha : IsPrts w a p.cards) (hn : p.cards.length ≤ 16) : Calls Try.prog 17 #[p.v a cap] w fun e w' => ∃ av cv, e = .returned (.tuple #[.slice av (ordN p).length cv, .int .i64 (ordersE p)]) ∧ IsLists w' av (ordN p) ∧ Below w.heap.size w w' := by
  refine (orders17 ha hn).mono ?_
  rintro e w' ⟨v, rfl, ho, hb⟩
  obtain ⟨av, cv, rfl, hi⟩ := ord_out ho
  exact ⟨av, cv, rfl, hi, hb⟩
end Go.Proofs.Ytnfhlbmapfoifaa
