/- Sets of small numbers; what is reached and what is true: plain Lean. -/
import Derived.Test.YtlhobddaojdnoaaPure2
namespace Go.Proofs.Ytlhobddaojdnoaa

theorem bitsOf_snoc (l : List Nat) (k : Nat) : bitsOf (l ++ [k]) = bitsOf l ||| 2 ^ k := by simp [bitsOf]
theorem bitsOf_aux : ∀ (l : List Nat) (s k : Nat), (l.foldl (fun s n => s ||| 2 ^ n) s).testBit k = (s.testBit k || decide (k ∈ l))
  | [], s, k => by simp
  | n :: l, s, k => by
    rw [List.foldl_cons, bitsOf_aux l, Nat.testBit_or, Nat.testBit_two_pow, Bool.or_assoc]
    congr 1
    by_cases h : n = k
    · subst h; simp
    · simp [h, Ne.symm h]
theorem bitsOf_test (l : List Nat) (k : Nat) : (bitsOf l).testBit k = decide (k ∈ l) := by unfold bitsOf; rw [bitsOf_aux]; simp
theorem bitsOf_ext {l l' : List Nat} (h : ∀ k, k ∈ l ↔ k ∈ l') : bitsOf l = bitsOf l' := by
  apply Nat.eq_of_testBit_eq
  intro k
  rw [bitsOf_test, bitsOf_test]
  simp [h k]
theorem bitsOf_lt {l : List Nat} {n : Nat} (h : ∀ k ∈ l, k < n) : bitsOf l < 2 ^ n := by
  apply Nat.lt_pow_two_of_testBit
  intro k hk
  rw [bitsOf_test]
  simp only [decide_eq_false_iff_not]
  intro hm
  have := h k hm
  omega

/-- Which states can be reached: those of the truths. -/
theorem reach_true {c : Cab} {r : Rule} {W : Int} {ls : List Ln} {t : List Int} : (∃ n, reachF c r W ls t = some n) ↔ ∃ bs, (t, bs) ∈ truthsBy c r ls W := by
  constructor
  · rintro ⟨n, hn⟩
    have := (minF_some.1 hn).1
    obtain ⟨x, hx, he⟩ := List.mem_map.1 this
    simp only [Prod.mk.injEq] at he
    exact ⟨x.2, by rw [← he.1]; exact hx⟩
  · rintro ⟨bs, hb⟩
    obtain ⟨m, hm, _⟩ := minF_ex (L := (truthsBy c r ls W).map fun x => (x.1, (wrongs x.2 : Int))) (t := t) (x := (wrongs bs : Int)) (List.mem_map.2 ⟨_, hb, rfl⟩)
    exact ⟨m, hm⟩
end Go.Proofs.Ytlhobddaojdnoaa
