/- The reference's few: plain laws; the lists with the fewest originals. -/
import Derived.Test.YtnfhlbmapfoifaaW34
import Derived.Test.YtnfhlbmapfoifaaR1
import Derived.Test.YtnfhlbmapfoifaaOut
namespace Go.Proofs.Ytnfhlbmapfoifaa
open Go.RowKit
set_option linter.unusedVariables false

def minW (l : List (List Int)) : Nat := l.foldl (fun m x => min m (origN x)) 5
def fewL (l : List (List Int)) : List (List Int) := l.filter fun x => decide (origN x = minW l)
theorem least_orig : ∀ (l : List (List Int)) (f : List Int), origN (leastW f l) = l.foldl (fun m x => min m (origN x)) (origN f)
  | [], _ => rfl
  | x :: r, f => by
    show origN (leastW (if origN x < origN f then x else f) r) = r.foldl (fun m x => min m (origN x)) (min (origN f) (origN x))
    rw [least_orig r]
    congr 1
    split <;> omega
theorem foldl_min_le : ∀ (l : List (List Int)) (m : Nat), l.foldl (fun m x => min m (origN x)) m ≤ m
  | [], m => Nat.le_refl m
  | x :: r, m => Nat.le_trans (foldl_min_le r _) (Nat.min_le_left _ _)
theorem least_first : ∀ (l : List (List Int)) (f : List Int), ((f :: l).filter fun x => decide (origN x = origN (leastW f l))).head? = some (leastW f l)
  | [], f => by simp [leastW]
  | x :: r, f => by
    have e : leastW f (x :: r) = leastW (if origN x < origN f then x else f) r := rfl
    rw [e]
    by_cases h : origN x < origN f
    · rw [if_pos h]
      have h1 := least_orig r x
      have h2 := foldl_min_le r (origN x)
      have ih := least_first r x
      rw [List.filter_cons_of_neg (by simp; omega)]
      exact ih
    · rw [if_neg h]
      have h1 := least_orig r f
      have h2 := foldl_min_le r (origN f)
      have ih := least_first r f
      by_cases h3 : origN f = origN (leastW f r)
      · rw [List.filter_cons_of_pos (by simpa using h3)] at ih ⊢
        exact ih
      · rw [List.filter_cons_of_neg (by simpa using h3)] at ih ⊢
        rw [List.filter_cons_of_neg (by simp; omega)]
        exact ih
theorem fewL_first {p : Prs} (hn : p.cards.length ≤ 5) {h : List Int} {t : List (List Int)} (e : waysL p = h :: t) : (fewL (waysL p)).head? = some (fewestW p) ∧ minW (waysL p) = origN (fewestW p) := by
  have hh : h ∈ waysL p := by rw [e]; simp
  have hl := (ways_all hh).1
  have hf : fewestW p = leastW h t := by unfold fewestW; rw [e]; rfl
  have h5 : origN h ≤ 5 := by have := orig_le h; omega
  have hm : minW (waysL p) = origN (leastW h t) := by
    unfold minW
    rw [e, least_orig]
    show t.foldl (fun m x => min m (origN x)) (min 5 (origN h)) = _
    rw [Nat.min_eq_right h5]
  refine ⟨?_, by rw [hm, hf]⟩
  unfold fewL
  rw [hm, e, hf]
  exact least_first t h
end Go.Proofs.Ytnfhlbmapfoifaa
