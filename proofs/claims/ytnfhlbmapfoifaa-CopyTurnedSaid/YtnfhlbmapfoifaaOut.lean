/- Lists gathered by reference. -/
import Derived.Test.YtnfhlbmapfoifaaW48
namespace Go.Proofs.Ytnfhlbmapfoifaa
open Go.RowKit
set_option linter.unusedVariables false

def frmN (l : List Bool) : Int := if l.all id then 2 else if l.any id then 1 else 0
/-- Lists gathered by reference. -/
def OutL (w0 w : World) (v : Value) (m : List (List Int)) : Prop := Below w0.heap.size w0 w ∧ ∃ vs, w.ownsRow w0.heap.size 42 1 v m.length vs ∧ ∀ (i : Nat) (x : List Int), m[i]? = some x → ∃ ax cx, vs[i]? = some (Value.slice ax x.length cx) ∧ IsInts w0 ax x
theorem outL_nil (w : World) : OutL w w (.slice none 0 0) [] := ⟨Below.refl _ _, [], World.ownsRow_nil w _ _ _, fun i x h => by simp at h⟩
theorem OutL.sl {w0 w : World} {v : Value} {m : List (List Int)} (h : OutL w0 w v m) : ∃ a c, v = .slice a m.length c := by
  obtain ⟨_, vs, h1, _⟩ := h
  obtain ⟨a, c, e, _⟩ := own_slice h1
  exact ⟨a, c, e⟩
theorem OutL.lists {w0 w : World} {a : Option Addr} {n c : Nat} {m : List (List Int)} (h : OutL w0 w (.slice a n c) m) : IsLists w a m := by
  obtain ⟨hb, vs, h1, h2⟩ := h
  intro i hi
  obtain ⟨g, cp, e, _, _, _, _, hc⟩ := own_cell h1 (by omega)
  cases e
  have hk' : m[i]? = some (m.getD i []) := by simp [hi]
  obtain ⟨ax, cx, k1, k2⟩ := h2 i _ hk'
  exact ⟨g, 0, rfl, ax, cx, by rw [Nat.zero_add]; exact hc i _ k1, k2.mono hb⟩
theorem out_add {w0 V : World} {v : Value} {m : List (List Int)} {ax : Option Addr} {cx : Nat} {x : List Int} (h : OutL w0 V v m) (hi : IsInts w0 ax x) (hm : m.length ≤ 1000000) :
    ∃ v' w', (Builtin.append_ #[32, 32] 32 #[v, .slice (some ⟨V.heap.size, 0, none⟩) 1 1]).run Try.prog (V.alloc (.cells #[.slice ax x.length cx] 42)) = .ok v' w' ∧ OutL w0 w' v' (m ++ [x]) := by
  obtain ⟨i0, hi0, hz0, hz1, hz2⟩ := info_parts infoO
  obtain ⟨hb, vs, h1, h2⟩ := h
  have hV1 := World.alloc_heap_new V (.cells #[.slice ax x.length cx] 42)
  obtain ⟨v', w', hr, hn, hg, hor, _⟩ := append_keep (P := Try.prog) (w := V.alloc (.cells #[.slice ax x.length cx] 42)) w0.heap.size 32 32 42 i0 _ 24 Try.underlying32 hi0 hz0 hz1 hz2 rfl v m.length vs (own_blocks h1 (fun g hg => Below.heap_alloc _ _ _ (h1.lt g hg).2)) ⟨V.heap.size, 0, none⟩ (.slice ax x.length cx) (by rw [cell_of_heap hV1]; rfl) (by cases ax <;> rfl) (by simp [maxLen]; omega) (by omega) (by have := hb.size; simp; omega)
  have hvl : vs.length = m.length := by have := h1.1; simpa using this
  refine ⟨v', w', hr, (hb.alloc hb.size _).grown hg (by have := hb.size; simp; omega) (fun k hk => (h1.lt k hk).1), vs ++ [.slice ax x.length cx], by rw [List.length_append]; exact hn, fun j y hy => ?_⟩
  rcases Nat.lt_trichotomy j m.length with hj | hj | hj
  · rw [List.getElem?_append_left hj] at hy
    obtain ⟨a1, c1, e1, e2⟩ := h2 j y hy
    exact ⟨a1, c1, by rw [List.getElem?_append_left (by omega)]; exact e1, e2⟩
  · rw [hj, List.getElem?_append_right (Nat.le_refl _)] at hy
    simp at hy
    subst hy
    exact ⟨ax, cx, by rw [hj, ← hvl]; simp, hi⟩
  · rw [List.getElem?_eq_none (by simp; omega)] at hy
    cases hy
end Go.Proofs.Ytnfhlbmapfoifaa
