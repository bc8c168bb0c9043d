/- The plain laws of cabinets: rules, how many wrong ones. -/
import Derived.Test.YtlhobddaojdnoaaL2
namespace Go.Proofs.Ytlhobddaojdnoaa

/-! ### how many bits -/
def popc (n : Nat) : Nat := if h : n = 0 then 0 else n % 2 + popc (n / 2)
termination_by n
decreasing_by omega
theorem popc_zero : popc 0 = 0 := by unfold popc; simp
theorem popc_eq (n : Nat) : popc n = n % 2 + popc (n / 2) := by
  by_cases h : n = 0
  · subst h; simp [popc_zero]
  · conv => lhs; unfold popc
    simp [h]
theorem and_pred (n : Nat) (h : 0 < n) : popc (n &&& (n - 1)) + 1 = popc n ∧ n &&& (n - 1) < n := by
  induction n using Nat.strongRecOn with
  | ind n ih =>
    have e1 : (n &&& (n - 1)) % 2 = (n % 2) * ((n - 1) % 2) := by
      have a1 := Nat.mod_two_eq_zero_or_one n
      have h2 : (n &&& (n - 1)) % 2 = (n % 2) &&& ((n - 1) % 2) := by
        rw [← Nat.and_one_is_mod, ← Nat.and_one_is_mod, ← Nat.and_one_is_mod]
        rw [Nat.and_assoc, Nat.and_assoc]
        congr 1
        rw [Nat.and_comm 1, Nat.and_assoc]; simp
      rw [h2]
      rcases a1 with a | a <;> rw [a]
      · simp
      · have b1 := Nat.mod_two_eq_zero_or_one (n - 1)
        rcases b1 with b | b <;> rw [b] <;> decide
    have e2 : (n &&& (n - 1)) / 2 = (n / 2) &&& ((n - 1) / 2) := by
      exact Nat.and_div_two
    have e3 : n &&& (n - 1) = 2 * ((n &&& (n - 1)) / 2) + (n &&& (n - 1)) % 2 := by omega
    rw [popc_eq (n &&& (n - 1)), popc_eq n, e1, e2]
    rcases Nat.mod_two_eq_zero_or_one n with a | a
    · have hh : (n - 1) / 2 = n / 2 - 1 := by omega
      have := ih (n / 2) (by omega) (by omega)
      rw [hh, a]
      rw [e1, e2, hh, a] at e3
      omega
    · have hh : (n - 1) / 2 = n / 2 := by omega
      have h2 : (n - 1) % 2 = 0 := by omega
      rw [hh, a, h2, Nat.and_self]
      rw [e1, e2, hh, a, h2, Nat.and_self] at e3
      omega
def gb (l : List Bool) (k : Nat) : Bool := l.getD k false
theorem popc_le : ∀ (bs : List Bool) (a : Nat), (∀ i, a.testBit i = true → gb bs i = true) → popc a ≤ wrongs bs
  | [], a, h => by
    have : a = 0 := Nat.eq_of_testBit_eq (fun i => by
      cases ha : a.testBit i with
      | false => simp
      | true => have := h i ha; simp [gb] at this)
    rw [this, popc_zero]; omega
  | b :: bs, a, h => by
    rw [popc_eq]
    have h1 := popc_le bs (a / 2) (fun i hi => by
      have := h (i + 1) (by rw [Nat.testBit_succ]; exact hi)
      simpa [gb] using this)
    have h0 : a % 2 ≤ if b then 1 else 0 := by
      rcases Nat.mod_two_eq_zero_or_one a with e | e
      · rw [e]; split <;> omega
      · have := h 0 (by rw [Nat.testBit_zero]; simp [e])
        simp [gb] at this
        rw [e, this]; simp
    unfold wrongs at h1 ⊢
    rw [List.countP_cons]
    simp only [id]
    omega
theorem popc_ge : ∀ (bs : List Bool) (a : Nat), (∀ i, gb bs i = true → a.testBit i = true) → wrongs bs ≤ popc a
  | [], a, h => by simp [wrongs]
  | b :: bs, a, h => by
    rw [popc_eq]
    have h1 := popc_ge bs (a / 2) (fun i hi => by
      have := h (i + 1) (by simpa [gb] using hi)
      rwa [Nat.testBit_succ] at this)
    have h0 : (if b then 1 else 0) ≤ a % 2 := by
      cases b with
      | false => simp
      | true =>
        have := h 0 (by simp [gb])
        rw [Nat.testBit_zero] at this
        simp at this
        simp [this]
    unfold wrongs at h1 ⊢
    rw [List.countP_cons]
    simp only [id]
    omega

/-! ### rules -/
theorem okAll_iff (r : Rule) : ∀ (k : Nat) (ls : List Ln) (bs : List Bool), bs.length = ls.length → (okAll r k ls bs = true ↔ ∀ i, i < ls.length → r (k + i) (gl ls i) (gb bs i) = true)
  | k, [], [], _ => by simp [okAll]
  | k, l :: ls, b :: bs, h => by
    have h' : bs.length = ls.length := by simpa using h
    rw [okAll, Bool.and_eq_true, okAll_iff r (k + 1) ls bs h']
    constructor
    · rintro ⟨h1, h2⟩ i hi
      cases i with
      | zero => simpa [gl, gb] using h1
      | succ i =>
        have := h2 i (by simpa using hi)
        rw [show k + 1 + i = k + (i + 1) by omega] at this
        simpa [gl, gb] using this
    · intro hh
      refine ⟨by simpa [gl, gb] using hh 0 (by simp), fun i hi => ?_⟩
      have := hh (i + 1) (by simpa using hi)
      rw [show k + 1 + i = k + (i + 1) by omega]
      simpa [gl, gb] using this
theorem byRule {c : Cab} {r : Rule} {W : Int} {t : List Int} {bs : List Bool} : (t, bs) ∈ truthsBy c r c.loans W ↔ (t, bs) ∈ truthsBy c anyRule c.loans W ∧ ∀ i, i < c.loans.length → r i (gl c.loans i) (gb bs i) = true := by
  rw [truthsBy_mem, truths_mem]
  constructor
  · rintro ⟨h1, h2, h3⟩
    have := (okAll_iff r 0 c.loans bs (paths_len c _ _ _ _ h1)).1 h2
    simp only [Nat.zero_add] at this
    exact ⟨⟨h1, h3⟩, this⟩
  · rintro ⟨⟨h1, h3⟩, h2⟩
    refine ⟨h1, (okAll_iff r 0 c.loans bs (paths_len c _ _ _ _ h1)).2 ?_, h3⟩
    simp only [Nat.zero_add]
    exact h2
theorem must_ne {c : Cab} {W : Int} {i : Nat} (hi : i < c.loans.length) (w : Bool) : truthsBy c (mustRule i w) c.loans W ≠ [] ↔ ∃ t bs, (t, bs) ∈ truthsBy c anyRule c.loans W ∧ gb bs i = w := by
  constructor
  · intro h
    obtain ⟨⟨t, bs⟩, hx⟩ := List.exists_mem_of_ne_nil _ h
    obtain ⟨h1, h2⟩ := byRule.1 hx
    have := h2 i hi
    simp [mustRule] at this
    exact ⟨t, bs, h1, this⟩
  · rintro ⟨t, bs, h1, h2⟩
    refine List.ne_nil_of_mem (a := (t, bs)) (byRule.2 ⟨h1, fun j hj => ?_⟩)
    by_cases e : j = i
    · subst e; simp [mustRule, h2]
    · have : ¬ ((j : Int) = (i : Int)) := by omega
      simp [mustRule, this]
theorem honest_ne {c : Cab} {W : Int} {p : Int} : truthsBy c (honestRule p) c.loans W ≠ [] ↔ ∃ t bs, (t, bs) ∈ truthsBy c anyRule c.loans W ∧ ∀ i, i < c.loans.length → (gl c.loans i).person = p → gb bs i = false := by
  constructor
  · intro h
    obtain ⟨⟨t, bs⟩, hx⟩ := List.exists_mem_of_ne_nil _ h
    obtain ⟨h1, h2⟩ := byRule.1 hx
    refine ⟨t, bs, h1, fun i hi hp => ?_⟩
    have := h2 i hi
    simp [honestRule, hp] at this
    exact this
  · rintro ⟨t, bs, h1, h2⟩
    refine List.ne_nil_of_mem (a := (t, bs)) (byRule.2 ⟨h1, fun j hj => ?_⟩)
    by_cases e : (gl c.loans j).person = p
    · simp [honestRule, h2 j hj e]
    · simp [honestRule, e]
/-- Only who puts back does it wrong. -/
theorem wrong_back {c : Cab} : ∀ (ls : List Ln) (a t : List Int) (bs : List Bool), (t, bs) ∈ paths c ls a → ∀ i, gb bs i = true → i < ls.length ∧ (gl ls i).kind = 1
  | [], a, t, bs, h, i, hb => by simp [paths] at h; rw [h.2] at hb; simp [gb] at hb
  | l :: ls, a, t, bs, h, i, hb => by
    simp only [paths, List.mem_flatMap, List.mem_map] at h
    obtain ⟨x, hx, y, hy, he⟩ := h
    cases he
    cases i with
    | zero =>
      simp only [gb, List.getD_cons_zero] at hb
      refine ⟨by simp, ?_⟩
      simp only [gl, List.getD_cons_zero]
      unfold step at hx
      split at hx
      · split at hx
        · simp at hx
        · simp only [List.mem_singleton] at hx; rw [hx] at hb; simp at hb
      · split at hx
        · assumption
        · split at hx
          · simp only [List.mem_singleton] at hx; rw [hx] at hb; simp at hb
          · simp at hx
    | succ i =>
      have := wrong_back ls x.1 y.1 y.2 hy i (by simpa [gb] using hb)
      exact ⟨by simpa using this.1, by simpa [gl] using this.2⟩
theorem wrongs_le (bs : List Bool) : wrongs bs ≤ bs.length := List.countP_le_length
end Go.Proofs.Ytlhobddaojdnoaa
