/- The reference's few: plain laws; the lists with the fewest originals. -/
import Derived.Test.YtnfhlbmapfoifaaR15
namespace Go.Proofs.Ytnfhlbmapfoifaa
open Go.RowKit
set_option linter.unusedVariables false

def minW (l : List (List Int)) : Nat := l.foldl (fun m x => min m (origN x)) 5
def fewL (l : List (List Int)) : List (List Int) := l.filter fun x => decide (origN x = minW l)
theorem least_orig : ∀ (l : List (List Int)) (f : List Int), origN (leastW f l) = l.foldl (fun m x => min m (origN x)) (origN f)
  | [], _ => rfl
  | x :: r, f => by
    show origN (leastW (if origN x < origN f then x else f) r) = r.foldl (fun m x => min m (origN x)) (min (origN f) (origN x))
    rw [least_orig r]
    congr 1
    split <;> omega
theorem foldl_min_le : ∀ (l : List (List Int)) (m : Nat), l.foldl (fun m x => min m (origN x)) m ≤ m
  | [], m => Nat.le_refl m
  | x :: r, m => Nat.le_trans (foldl_min_le r _) (Nat.min_le_left _ _)
theorem least_first : ∀ (l : List (List Int)) (f : List Int), ((f :: l).filter fun x => decide (origN x = origN (leastW f l))).head? = some (leastW f l)
  | [], f => by simp [leastW]
  | x :: r, f => by
    have e : leastW f (x :: r) = leastW (if origN x < origN f then x else f) r := rfl
    rw [e]
    by_cases h : origN x < origN f
    · rw [if_pos h]
      have h1 := least_orig r x
      have h2 := foldl_min_le r (origN x)
      have ih := least_first r x
      rw [List.filter_cons_of_neg (by simp; omega)]
      exact ih
    · rw [if_neg h]
      have h1 := least_orig r f
      have h2 := foldl_min_le r (origN f)
      have ih := least_first r f
      by_cases h3 : origN f = origN (leastW f r)
      · rw [List.filter_cons_of_pos (by simpa using h3)] at ih ⊢
        exact ih
      · rw [List.filter_cons_of_neg (by simpa using h3)] at ih ⊢
        rw [List.filter_cons_of_neg (by simp; omega)]
        exact ih
theorem fewL_first {p : Prs} (hn : p.cards.length ≤ 5) {h : List Int} {t : List (List Int)} (e : waysL p = h :: t) : (fewL (waysL p)).head? = some (fewestW p) ∧ minW (waysL p) = origN (fewestW p) := by
  have hh : h ∈ waysL p := by rw [e]; simp
  have hl := (ways_all hh).1
  have hf : fewestW p = leastW h t := by unfold fewestW; rw [e]; rfl
  have h5 : origN h ≤ 5 := by have := orig_le h; omega
  have hm : minW (waysL p) = origN (leastW h t) := by
    unfold minW
    rw [e, least_orig]
    show t.foldl (fun m x => min m (origN x)) (min 5 (origN h)) = _
    rw [Nat.min_eq_right h5]
  refine ⟨?_, by rw [hm, hf]⟩
  unfold fewL
  rw [hm, e, hf]
  exact least_first t h
/-- Lists gathered by reference. -/
def OutL (w0 w : World) (v : Value) (m : List (List Int)) : Prop := Below w0.heap.size w0 w ∧ ∃ vs, w.ownsRow w0.heap.size 42 1 v m.length vs ∧ ∀ (i : Nat) (x : List Int), m[i]? = some x → ∃ ax cx, vs[i]? = some (Value.slice ax x.length cx) ∧ IsInts w0 ax x
theorem outL_nil (w : World) : OutL w w (.slice none 0 0) [] := ⟨Below.refl _ _, [], World.ownsRow_nil w _ _ _, fun i x h => by simp at h⟩
theorem OutL.sl {w0 w : World} {v : Value} {m : List (List Int)} (h : OutL w0 w v m) : ∃ a c, v = .slice a m.length c := by
  obtain ⟨_, vs, h1, _⟩ := h
  obtain ⟨a, c, e, _⟩ := own_slice h1
  exact ⟨a, c, e⟩
theorem OutL.lists {w0 w : World} {a : Option Addr} {n c : Nat} {m : List (List Int)} (h : OutL w0 w (.slice a n c) m) : IsLists w a m := by
  obtain ⟨hb, vs, h1, h2⟩ := h
  intro i hi
  obtain ⟨g, cp, e, _, _, _, _, hc⟩ := own_cell h1 (by omega)
  cases e
  have hk' : m[i]? = some (m.getD i []) := by simp [hi]
  obtain ⟨ax, cx, k1, k2⟩ := h2 i _ hk'
  exact ⟨g, 0, rfl, ax, cx, by rw [Nat.zero_add]; exact hc i _ k1, k2.mono hb⟩
theorem out_add {w0 V : World} {v : Value} {m : List (List Int)} {ax : Option Addr} {cx : Nat} {x : List Int} (h : OutL w0 V v m) (hi : IsInts w0 ax x) (hm : m.length ≤ 1000000) :
    ∃ v' w', (Builtin.append_ #[32, 32] 32 #[v, .slice (some ⟨V.heap.size, 0, none⟩) 1 1]).run Try.prog (V.alloc (.cells #[.slice ax x.length cx] 42)) = .ok v' w' ∧ OutL w0 w' v' (m ++ [x]) := by
  obtain ⟨i0, hi0, hz0, hz1, hz2⟩ := info_parts infoO
  obtain ⟨hb, vs, h1, h2⟩ := h
  have hV1 := World.alloc_heap_new V (.cells #[.slice ax x.length cx] 42)
  obtain ⟨v', w', hr, hn, hg, hor, _⟩ := append_keep (P := Try.prog) (w := V.alloc (.cells #[.slice ax x.length cx] 42)) w0.heap.size 32 32 42 i0 _ 24 Try.underlying32 hi0 hz0 hz1 hz2 rfl v m.length vs (own_blocks h1 (fun g hg => Below.heap_alloc _ _ _ (h1.lt g hg).2)) ⟨V.heap.size, 0, none⟩ (.slice ax x.length cx) (by rw [cell_of_heap hV1]; rfl) (by cases ax <;> rfl) (by simp [maxLen]; omega) (by omega) (by have := hb.size; simp; omega)
  have hvl : vs.length = m.length := by have := h1.1; simpa using this
  refine ⟨v', w', hr, (hb.alloc hb.size _).grown hg (by have := hb.size; simp; omega) (fun k hk => (h1.lt k hk).1), vs ++ [.slice ax x.length cx], by rw [List.length_append]; exact hn, fun j y hy => ?_⟩
  rcases Nat.lt_trichotomy j m.length with hj | hj | hj
  · rw [List.getElem?_append_left hj] at hy
    obtain ⟨a1, c1, e1, e2⟩ := h2 j y hy
    exact ⟨a1, c1, by rw [List.getElem?_append_left (by omega)]; exact e1, e2⟩
  · rw [hj, List.getElem?_append_right (Nat.le_refl _)] at hy
    simp at hy
    subst hy
    exact ⟨ax, cx, by rw [hj, ← hvl]; simp, hi⟩
  · rw [List.getElem?_eq_none (by simp; omega)] at hy
    cases hy
end Go.Proofs.Ytnfhlbmapfoifaa
