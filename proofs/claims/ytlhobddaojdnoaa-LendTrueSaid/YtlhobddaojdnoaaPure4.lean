/- Which slot to look into next: plain Lean. -/
import Derived.Test.YtlhobddaojdnoaaW19
namespace Go.Proofs.Ytlhobddaojdnoaa

theorem dedup_mem (l : List (List Int)) (x : List Int) : x ∈ dedup l ↔ x ∈ l := by
  induction l with
  | nil => simp [dedup]
  | cons y l ih =>
    unfold dedup
    split
    · rename_i h
      have h' : y ∈ l := by simpa using h
      rw [ih, List.mem_cons]
      exact ⟨.inr, fun h => h.elim (fun e => e ▸ h') id⟩
    · rw [List.mem_cons, List.mem_cons, ih]
theorem dedup_nodup (l : List (List Int)) : (dedup l).Nodup := by
  induction l with
  | nil => simp [dedup]
  | cons y l ih =>
    unfold dedup
    split
    · exact ih
    · rename_i h
      refine List.nodup_cons.2 ⟨fun hm => h ?_, ih⟩
      have := (dedup_mem l y).1 hm
      simpa using this
theorem states_perm {c : Cab} {L : List (List Int)} (hn : L.Nodup) (h : ∀ t, t ∈ L ↔ ∃ bs, (t, bs) ∈ truths c) : L.Perm (states c) := by
  refine (List.perm_ext_iff_of_nodup hn (dedup_nodup _)).2 (fun t => ?_)
  rw [h]
  rw [dedup_mem, List.mem_map]
  constructor
  · rintro ⟨bs, hb⟩; exact ⟨_, hb, rfl⟩
  · rintro ⟨x, hx, rfl⟩; exact ⟨x.2, hx⟩

theorem run_max (D : List Int) (v : Int) : maxL ((D ++ [v]).map fun x => (D ++ [v]).count x) = max (maxL (D.map fun x => D.count x)) (D.count v + 1) := by
  have hc : ∀ x, (D ++ [v]).count x = D.count x + if v = x then 1 else 0 := fun x => by
    rw [List.count_append, List.count_singleton]
    by_cases h : v = x <;> simp [h]
  apply Nat.le_antisymm
  · rw [maxL_le]
    intro y hy
    obtain ⟨x, hx, rfl⟩ := List.mem_map.1 hy
    rw [hc]
    by_cases h : v = x
    · subst h; simp; omega
    · rw [if_neg h]
      have hx' : x ∈ D := by
        rcases List.mem_append.1 hx with hx | hx
        · exact hx
        · exact absurd (List.mem_singleton.1 hx).symm h
      have := maxL_le.1 (Nat.le_refl (maxL (D.map fun x => D.count x))) _ (List.mem_map.2 ⟨x, hx', rfl⟩)
      omega
  · have h1 : D.count v + 1 ≤ maxL ((D ++ [v]).map fun x => (D ++ [v]).count x) := by
      have := maxL_le.1 (Nat.le_refl (maxL ((D ++ [v]).map fun x => (D ++ [v]).count x))) _ (List.mem_map.2 ⟨v, by simp, rfl⟩)
      rw [hc, if_pos rfl] at this
      exact this
    have h2 : maxL (D.map fun x => D.count x) ≤ maxL ((D ++ [v]).map fun x => (D ++ [v]).count x) := by
      rw [maxL_le]
      intro y hy
      obtain ⟨x, hx, rfl⟩ := List.mem_map.1 hy
      have := maxL_le.1 (Nat.le_refl (maxL ((D ++ [v]).map fun x => (D ++ [v]).count x))) _ (List.mem_map.2 ⟨x, by simp [hx], rfl⟩)
      rw [hc] at this
      omega
    omega
theorem worst_count (L : List (List Int)) (slot : Int) : worst L slot = maxL ((L.map fun a => lies a slot).map fun x => (L.map fun a => lies a slot).count x) := by
  unfold worst
  rw [List.map_map]
  congr 1
  apply List.map_congr_left
  intro a _
  simp only [Function.comp, List.count, List.countP_map]
  congr 1
theorem worst_perm {L L' : List (List Int)} (h : L.Perm L') (slot : Int) : worst L slot = worst L' slot := by
  unfold worst
  refine maxL_ext (fun x => ?_)
  simp only [List.mem_map]
  constructor
  · rintro ⟨a, ha, rfl⟩; exact ⟨a, h.mem_iff.1 ha, (h.countP_eq _).symm⟩
  · rintro ⟨a, ha, rfl⟩; exact ⟨a, h.mem_iff.2 ha, h.countP_eq _⟩
end Go.Proofs.Ytlhobddaojdnoaa
