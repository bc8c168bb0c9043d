/- The reference's truths, one loan after the other: plain Lean. -/
import Derived.Test.YtlhobddaojdnoaaL4
namespace Go.Proofs.Ytlhobddaojdnoaa

/-- All truths that go on from one, for some loans. -/
def goOn (c : Cab) (ls : List Ln) (a : List Int) (bs : List Bool) : List (List Int × List Bool) :=
  ((paths c ls a).filter fun y => decide ((wrongs (bs ++ y.2) : Int) ≤ c.wrong)).map fun y => (y.1, bs ++ y.2)
theorem wrongs_append (a b : List Bool) : wrongs (a ++ b) = wrongs a + wrongs b := by unfold wrongs; rw [List.countP_append]
theorem goOn_many {c : Cab} {ls : List Ln} {a : List Int} {bs : List Bool} (h : c.wrong < (wrongs bs : Int)) : goOn c ls a bs = [] := by
  unfold goOn
  rw [List.map_eq_nil_iff, List.filter_eq_nil_iff]
  intro y _
  have := wrongs_append bs y.2
  simp only [decide_eq_true_eq]
  omega
theorem goOn_nil {c : Cab} {a : List Int} {bs : List Bool} (h : (wrongs bs : Int) ≤ c.wrong) : goOn c [] a bs = [(a, bs)] := by
  unfold goOn
  simp [paths, h]
theorem filter_flatMap' {α β : Type} (f : α → List β) (p : β → Bool) : ∀ l : List α, (l.flatMap f).filter p = l.flatMap fun x => (f x).filter p
  | [] => rfl
  | x :: l => by simp only [List.flatMap_cons, List.filter_append, filter_flatMap' f p l]
theorem map_flatMap' {α β γ : Type} (f : α → List β) (g : β → γ) : ∀ l : List α, (l.flatMap f).map g = l.flatMap fun x => (f x).map g
  | [] => rfl
  | x :: l => by simp only [List.flatMap_cons, List.map_append, map_flatMap' f g l]
theorem goOn_cons {c : Cab} {l : Ln} {ls : List Ln} {a : List Int} {bs : List Bool} : goOn c (l :: ls) a bs = (step c a l).flatMap fun x => goOn c ls x.1 (bs ++ [x.2]) := by
  unfold goOn
  simp only [paths, filter_flatMap', map_flatMap', List.filter_map, List.map_map]
  congr 1
  funext x
  congr 1
  · funext y; simp [Function.comp]
  · congr 1
    funext y
    simp [Function.comp, List.append_assoc]
theorem goOn_all (c : Cab) : goOn c c.loans c.homes [] = truths c := by
  unfold goOn truths truthsBy
  simp only [okAll_any, Bool.true_and, List.nil_append]
  simp
/-- How many there can be. -/
theorem step_count {c : Cab} (hs : c.slots ≤ 6) (a : List Int) (l : Ln) : (step c a l).length ≤ if l.kind = 1 then 6 else 1 := by
  unfold step
  split
  · split <;> simp <;> (try split) <;> omega
  · split
    · split
      · refine Nat.le_trans (List.length_filterMap_le _ _) ?_
        rw [List.length_range]
        omega
      · simp
    · split <;> simp
theorem flatMap_count {α β : Type} {f : α → List β} {m : Nat} : ∀ {l : List α}, (∀ x ∈ l, (f x).length ≤ m) → (l.flatMap f).length ≤ l.length * m
  | [], _ => by simp
  | x :: l, h => by
    have h1 := h x (by simp)
    have h2 := flatMap_count (f := f) (m := m) (l := l) (fun y hy => h y (by simp [hy]))
    simp only [List.flatMap_cons, List.length_append, List.length_cons, Nat.add_mul, Nat.one_mul]
    omega
def backN (ls : List Ln) : Nat := ls.countP fun l => decide (l.kind = 1)
theorem goOn_count {c : Cab} (hs : c.slots ≤ 6) : ∀ (ls : List Ln) (a : List Int) (bs : List Bool), (goOn c ls a bs).length ≤ 6 ^ backN ls
  | [], a, bs => by
    unfold goOn
    rw [List.length_map]
    refine Nat.le_trans (List.length_filter_le _ _) ?_
    simp [paths, backN]
  | l :: ls, a, bs => by
    rw [goOn_cons]
    have h1 := step_count hs a l
    have h2 := flatMap_count (f := fun x => goOn c ls x.1 (bs ++ [x.2])) (m := 6 ^ backN ls) (l := step c a l) (fun x _ => goOn_count hs ls x.1 _)
    refine Nat.le_trans h2 ?_
    have h3 : backN (l :: ls) = backN ls + if l.kind = 1 then 1 else 0 := by
      unfold backN
      rw [List.countP_cons]
      simp
    rw [h3, Nat.pow_add]
    by_cases hk : l.kind = 1
    · rw [if_pos hk] at h1 ⊢
      rw [Nat.pow_one, Nat.mul_comm]
      exact Nat.mul_le_mul_left _ h1
    · rw [if_neg hk] at h1 ⊢
      rw [Nat.pow_zero, Nat.mul_one]
      have := Nat.mul_le_mul_right (6 ^ backN ls) h1
      omega
theorem drop_loan {l : List Ln} {k : Nat} (hk : k < l.length) : l.drop k = gl l k :: l.drop (k + 1) := by
  rw [List.drop_eq_getElem_cons hk]
  simp [gl, hk]
theorem backN_drop (ls : List Ln) (k : Nat) : backN (ls.drop k) ≤ backN ls := by
  unfold backN
  have := List.countP_append (p := fun l : Ln => decide (l.kind = 1)) (l₁ := ls.take k) (l₂ := ls.drop k)
  rw [List.take_append_drop] at this
  omega
theorem backN_take (ls : List Ln) (k : Nat) : backN (ls.take k) ≤ backN ls := by
  unfold backN
  have := List.countP_append (p := fun l : Ln => decide (l.kind = 1)) (l₁ := ls.take k) (l₂ := ls.drop k)
  rw [List.take_append_drop] at this
  omega
theorem truths_count {c : Cab} (hs : c.slots ≤ 6) (h : backN c.loans ≤ 4) : (truths c).length ≤ 1296 := by
  rw [← goOn_all]
  refine Nat.le_trans (goOn_count hs _ _ _) ?_
  exact Nat.le_trans (Nat.pow_le_pow_right (by decide) h) (by decide)
end Go.Proofs.Ytlhobddaojdnoaa
