/- Orders that are left, by bits and as lists: plain laws. -/
import Derived.Test.YtnfhlbmapfoifaaR24
namespace Go.Proofs.Ytnfhlbmapfoifaa
open Go.RowKit
set_option linter.unusedVariables false

/-- The orders that bits tell. -/
def selS (os : List (List Int)) (S : Nat) : List (List Int) := ((List.range os.length).filter fun k => S.testBit k).map fun k => os.getD k []
def Sub (os : List (List Int)) (S : Nat) : Prop := ∀ i, S.testBit i = true → i < os.length
theorem bef_bit (os : List (List Int)) (S a b i : Nat) : (befS os S a b).testBit i = (decide (i < os.length) && (S.testBit i && befB a b (os.getD i []))) := by
  rw [befS_eq, cmpS_bit]; rfl
theorem aft_bit (os : List (List Int)) (S a b i : Nat) : (aftS os S a b).testBit i = (decide (i < os.length) && (S.testBit i && !befB a b (os.getD i []))) := by
  rw [aftS_eq, cmpS_bit]; rfl
theorem all_bit (n i : Nat) : (allS n).testBit i = decide (i < n) := by rw [allS_eq, cmpS_bit]; simp
theorem bef_in (os : List (List Int)) (S a b : Nat) : Sub os (befS os S a b) := fun i h => by rw [bef_bit] at h; simp at h; exact h.1
theorem aft_in (os : List (List Int)) (S a b : Nat) : Sub os (aftS os S a b) := fun i h => by rw [aft_bit] at h; simp at h; exact h.1
theorem all_in (os : List (List Int)) : Sub os (allS os.length) := fun i h => by rw [all_bit] at h; simpa using h
theorem sel_all (os : List (List Int)) : selS os (allS os.length) = os := by
  unfold selS
  rw [List.filter_eq_self.2 (fun k hk => by rw [all_bit]; simpa using hk)]
  refine List.ext_getElem (by simp) (fun i h1 h2 => ?_)
  simp
  rw [List.getElem?_eq_getElem h2]
  rfl
theorem sel_bef (os : List (List Int)) (S a b : Nat) : befL (selS os S) a b = selS os (befS os S a b) := by
  unfold befL selS
  rw [List.filter_map, List.filter_filter]
  congr 1
  refine List.filter_congr (fun k hk => ?_)
  rw [bef_bit]
  have hk' : k < os.length := by simpa using hk
  simp [hk', Bool.and_comm]
theorem sel_aft (os : List (List Int)) (S a b : Nat) : aftL (selS os S) a b = selS os (aftS os S a b) := by
  unfold aftL selS
  rw [List.filter_map, List.filter_filter]
  congr 1
  refine List.filter_congr (fun k hk => ?_)
  rw [aft_bit]
  have hk' : k < os.length := by simpa using hk
  simp [hk', Bool.and_comm]
theorem cnt_range {S n : Nat} (h : ∀ i, S.testBit i = true → i < n) : ∀ m, n ≤ m → (List.range m).countP (fun k => S.testBit k) = (List.range n).countP (fun k => S.testBit k) := by
  intro m
  induction m with
  | zero => intro h0; obtain rfl : n = 0 := by omega
            rfl
  | succ m ih =>
    intro hm
    by_cases e : n = m + 1
    · rw [e]
    · rw [List.range_succ, List.countP_append, ih (by omega)]
      have : S.testBit m = false := by
        cases hb : S.testBit m
        · rfl
        · have := h m hb; omega
      simp [this]
theorem sel_len {os : List (List Int)} {S : Nat} (hos : os.length ≤ 128) (h : Sub os S) : (selS os S).length = manyS S := by
  unfold selS manyS
  rw [List.length_map, ← List.countP_eq_length_filter, cnt_range h 128 hos]
theorem many_none {S : Nat} (h : ∀ i, S.testBit i = false) : manyS S = 0 := by
  unfold manyS
  rw [List.countP_eq_zero]
  intro i _
  rw [h i]
  simp
theorem bef_all {os : List (List Int)} {S : Nat} (hos : os.length ≤ 128) (h : Sub os S) (a b : Nat) : befS os S a b = S ↔ manyS (aftS os S a b) = 0 := by
  constructor
  · intro e
    refine many_none (fun i => ?_)
    have h1 := bef_bit os S a b i
    rw [e] at h1
    rw [aft_bit]
    cases hs : S.testBit i
    · simp
    · rw [hs] at h1
      have h2 := h1.symm
      simp at h2
      simp [h2.2]
  · intro e
    have h0 := many_zero e (aft_lt hos S a b)
    refine Nat.eq_of_testBit_eq (fun i => ?_)
    have h1 := aft_bit os S a b i
    rw [h0, Nat.zero_testBit] at h1
    rw [bef_bit]
    cases hs : S.testBit i
    · simp
    · have hi := h i hs
      rw [hs] at h1
      have h2 := h1.symm
      simp [hi] at h2
      simp only [List.getD_eq_getElem?_getD]
      simp [hi, h2]
theorem aft_all {os : List (List Int)} {S : Nat} (hos : os.length ≤ 128) (h : Sub os S) (a b : Nat) : aftS os S a b = S ↔ manyS (befS os S a b) = 0 := by
  constructor
  · intro e
    refine many_none (fun i => ?_)
    have h1 := aft_bit os S a b i
    rw [e] at h1
    rw [bef_bit]
    cases hs : S.testBit i
    · simp
    · rw [hs] at h1
      have h2 := h1.symm
      simp at h2
      simp [h2.2]
  · intro e
    have h0 := many_zero e (bef_lt hos S a b)
    refine Nat.eq_of_testBit_eq (fun i => ?_)
    have h1 := bef_bit os S a b i
    rw [h0, Nat.zero_testBit] at h1
    rw [aft_bit]
    cases hs : S.testBit i
    · simp
    · have hi := h i hs
      rw [hs] at h1
      have h2 := h1.symm
      simp [hi] at h2
      simp only [List.getD_eq_getElem?_getD]
      simp [hi, h2]
theorem sel_mem {os : List (List Int)} {S : Nat} {x : List Int} (h : x ∈ selS os S) : x ∈ os := by
  unfold selS at h
  rw [List.mem_map] at h
  obtain ⟨k, hk, rfl⟩ := h
  rw [List.mem_filter] at hk
  have : k < os.length := by simpa using hk.1
  simp [this]
end Go.Proofs.Ytnfhlbmapfoifaa
