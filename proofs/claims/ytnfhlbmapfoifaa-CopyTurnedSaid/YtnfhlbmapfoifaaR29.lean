/- Orders, plain laws: which lists are orders; two orders differ in some pair; how many comparisons are needed. -/
import Derived.Test.YtnfhlbmapfoifaaR25
namespace Go.Proofs.Ytnfhlbmapfoifaa
open Go.RowKit
set_option linter.unusedVariables false
set_option linter.unusedSimpArgs false

def IsPerm (n : Nat) (o : List Int) : Prop := o.length = n ∧ o.Nodup ∧ ∀ x ∈ o, 0 ≤ x ∧ x < n
theorem onO_mem {p : Prs} : ∀ (d : Nat) (pre o : List Int), o ∈ onO p d pre ↔ ∃ s, o = pre ++ s ∧ s.length = d ∧ (∀ x ∈ s, 0 ≤ x ∧ x < p.cards.length) ∧ s.Nodup ∧ (∀ x ∈ s, x ∉ pre) ∧ isWayB p (chainL o) = true
  | 0, pre, o => by
    rw [onO_zero]
    constructor
    · intro h
      split at h
      · rename_i hw
        simp at h
        subst h
        exact ⟨[], by simp, rfl, by simp, by simp, by simp, hw⟩
      · simp at h
    · rintro ⟨s, rfl, hs, _, _, _, hw⟩
      have : s = [] := List.eq_nil_of_length_eq_zero hs
      subst this
      rw [List.append_nil] at hw ⊢
      rw [if_pos hw]
      simp
  | d + 1, pre, o => by
    rw [onO_succ, List.mem_flatMap]
    constructor
    · rintro ⟨i, hi, h⟩
      unfold oF at h
      split at h
      · simp at h
      · rename_i hp
        obtain ⟨s, rfl, hs, h1, h2, h3, h4⟩ := (onO_mem d _ _).1 h
        have hi' : i < p.cards.length := by simpa using hi
        refine ⟨(i : Int) :: s, by simp, by simp [hs], fun x hx => ?_, ?_, fun x hx => ?_, h4⟩
        · rcases List.mem_cons.1 hx with e | e
          · subst e; omega
          · exact h1 x e
        · rw [List.nodup_cons]
          exact ⟨fun hm => h3 _ hm (by simp), h2⟩
        · rcases List.mem_cons.1 hx with e | e
          · subst e; exact hp
          · exact fun hm => h3 x e (by simp [hm])
    · rintro ⟨s, rfl, hs, h1, h2, h3, h4⟩
      cases s with
      | nil => simp at hs
      | cons x s =>
        obtain ⟨i, hi⟩ := Int.eq_ofNat_of_zero_le (h1 x (by simp)).1
        have hx := h1 x (by simp)
        refine ⟨i, by simp; omega, ?_⟩
        unfold oF
        rw [if_neg (by rw [← hi]; exact h3 x (by simp))]
        rw [List.nodup_cons] at h2
        refine (onO_mem d _ _).2 ⟨s, by simp [hi], by simpa using hs, fun y hy => h1 y (by simp [hy]), h2.2, fun y hy hm => ?_, h4⟩
        rcases List.mem_append.1 hm with hm | hm
        · exact h3 y (by simp [hy]) hm
        · have : y = x := by simpa [hi] using hm
          subst this
          exact h2.1 hy
theorem orders_iff {p : Prs} {o : List Int} : o ∈ ordersL p ↔ IsPerm p.cards.length o ∧ isWayB p (chainL o) = true := by
  unfold ordersL
  rw [onO_mem]
  constructor
  · rintro ⟨s, rfl, h1, h2, h3, _, h5⟩
    exact ⟨⟨by simpa using h1, by simpa using h3, by simpa using h2⟩, h5⟩
  · rintro ⟨⟨h1, h2, h3⟩, h4⟩
    exact ⟨o, by simp, h1, h3, h2, by simp, h4⟩
/-- One list comes before another one. -/
def lexLt (x y : List Int) : Prop := ∃ k, k < x.length ∧ k < y.length ∧ (∀ j, j < k → gi x j = gi y j) ∧ gi x k < gi y k
theorem lexLt_irr (x : List Int) : ¬ lexLt x x := fun ⟨k, _, _, _, h⟩ => by omega
theorem lexLt_at {pre s t : List Int} {a b : Int} (h : a < b) : lexLt (pre ++ a :: s) (pre ++ b :: t) := by
  refine ⟨pre.length, by simp, by simp, fun j hj => ?_, ?_⟩
  · simp [gi, List.getElem?_append_left hj]
  · simpa [gi] using h
theorem onO_lex {p : Prs} : ∀ (d : Nat) (pre : List Int), (onO p d pre).Pairwise lexLt
  | 0, pre => by
    rw [onO_zero]
    split <;> simp
  | d + 1, pre => by
    rw [onO_succ, List.pairwise_flatMap]
    refine ⟨fun i _ => ?_, ?_⟩
    · unfold oF
      split
      · simp
      · exact onO_lex d _
    · refine List.Pairwise.imp (fun {a b} hab => ?_) List.pairwise_lt_range
      intro x hx y hy
      unfold oF at hx hy
      split at hx
      · simp at hx
      · split at hy
        · simp at hy
        · obtain ⟨s, rfl, _⟩ := (onO_mem d _ _).1 hx
          obtain ⟨t, rfl, _⟩ := (onO_mem d _ _).1 hy
          rw [List.append_assoc, List.append_assoc]
          exact lexLt_at (by omega)
theorem orders_lex {p : Prs} : (ordersL p).Pairwise lexLt := onO_lex _ _
theorem orders_nodup {p : Prs} : (ordersL p).Nodup := by
  refine List.Pairwise.imp (fun {a b} h e => ?_) (orders_lex (p := p))
  subst e
  exact lexLt_irr _ h
/-! ### where a card is -/
theorem perm_ne {n : Nat} {o : List Int} (h : IsPerm n o) {j k : Nat} (hj : j < n) (hk : k < n) (hne : j ≠ k) : gi o j ≠ gi o k := by
  have h1 : j < o.length := by rw [h.1]; exact hj
  have h2 : k < o.length := by rw [h.1]; exact hk
  intro e
  have e2 : o[j] = o[k] := by simpa [gi, h1, h2] using e
  exact hne ((List.getElem_inj h.2.1).1 e2)
theorem perm_index {n : Nat} {o : List Int} (h : IsPerm n o) {k : Nat} (hk : k < n) : indexL o (gi o k) = (k : Int) :=
  indexL_hit (by rw [h.1]; exact hk) (fun j hj => perm_ne h (by omega) hk (by omega)) rfl
theorem perm_rng {n : Nat} {o : List Int} (h : IsPerm n o) {k : Nat} (hk : k < n) : 0 ≤ gi o k ∧ gi o k < n := by
  have h1 : k < o.length := by rw [h.1]; exact hk
  have : gi o k = o[k] := by simp [gi, h1]
  rw [this]
  exact h.2.2 _ (List.getElem_mem h1)
theorem nodup_len : ∀ (n : Nat) (o : List Int), o.Nodup → (∀ x ∈ o, 0 ≤ x ∧ x < n) → o.length ≤ n
  | 0, o, _, h => by
    cases o with
    | nil => simp
    | cons x r => have := h x (by simp); omega
  | n + 1, o, hn, h => by
    have h1 : (o.erase (n : Int)).Nodup := hn.erase _
    have h2 := nodup_len n (o.erase (n : Int)) h1 (fun x hx => by
      have hx1 := List.mem_of_mem_erase hx
      have hx2 := h x hx1
      have hx3 : x ≠ (n : Int) := fun e => by
        subst e
        exact (List.Nodup.not_mem_erase hn) hx
      omega)
    have h3 : o.length ≤ (o.erase (n : Int)).length + 1 := by rw [List.length_erase]; split <;> omega
    omega
theorem perm_has {n : Nat} {o : List Int} (h : IsPerm n o) {c : Int} (h0 : 0 ≤ c) (hc : c < n) : ∃ k, k < n ∧ gi o k = c := by
  apply Classical.byContradiction
  intro hno
  have hnm : c ∉ o := fun hm => by
    obtain ⟨k, hk, e⟩ := List.getElem_of_mem hm
    exact hno ⟨k, by rw [← h.1]; exact hk, by simpa [gi, hk] using e⟩
  have := nodup_len n (c :: o) (List.nodup_cons.2 ⟨hnm, h.2.1⟩) (fun x hx => by
    rcases List.mem_cons.1 hx with e | e
    · subst e; exact ⟨h0, hc⟩
    · exact h.2.2 x e)
  rw [List.length_cons, h.1] at this; omega
theorem perm_ext {n : Nat} {x y : List Int} (hx : IsPerm n x) (hy : IsPerm n y) (h : ∀ k, k < n → gi x k = gi y k) : x = y := by
  refine List.ext_getElem (by rw [hx.1, hy.1]) (fun i h1 h2 => ?_)
  have := h i (by rw [← hx.1]; exact h1)
  simpa [gi, h1, h2] using this
/-- Two orders differ in some pair. -/
theorem perm_diff {n : Nat} {x y : List Int} (hx : IsPerm n x) (hy : IsPerm n y) (hne : x ≠ y) : ∃ a b : Nat, a < b ∧ b < n ∧ befB a b x ≠ befB a b y := by
  have hk : ∃ k, k < n ∧ gi x k ≠ gi y k := Classical.byContradiction fun h => hne (perm_ext hx hy fun k hk => Classical.byContradiction fun e => h ⟨k, hk, e⟩)
  have hmin : ∃ k, k < n ∧ gi x k ≠ gi y k ∧ ∀ j, j < k → gi x j = gi y j := by
    obtain ⟨k, hk⟩ := hk
    induction k using Nat.strongRecOn with
    | ind k ih =>
      by_cases h : ∃ j, j < k ∧ gi x j ≠ gi y j
      · obtain ⟨j, hj, e⟩ := h
        exact ih j hj ⟨by omega, e⟩
      · exact ⟨k, hk.1, hk.2, fun j hj => Classical.byContradiction fun e => h ⟨j, hj, e⟩⟩
  obtain ⟨k, hk, hd, hs⟩ := hmin
  have hcx := perm_rng hx hk
  have hcy := perm_rng hy hk
  obtain ⟨i, hi, ei⟩ := perm_has hx hcy.1 hcy.2
  obtain ⟨j, hj, ej⟩ := perm_has hy hcx.1 hcx.2
  have hik : k < i := by
    apply Classical.byContradiction
    intro h
    rcases Nat.lt_or_eq_of_le (Nat.le_of_not_lt h) with h | h
    · have := hs i h
      rw [ei] at this
      exact perm_ne hy hk (by omega) (by omega) this
    · subst h; exact hd ei
  have hjk : k < j := by
    apply Classical.byContradiction
    intro h
    rcases Nat.lt_or_eq_of_le (Nat.le_of_not_lt h) with h | h
    · have := hs j h
      rw [ej] at this
      exact perm_ne hx hk (by omega) (by omega) this.symm
    · subst h; exact hd ej.symm
  have x1 : indexL x (gi x k) = (k : Int) := perm_index hx hk
  have x2 : indexL x (gi y k) = (i : Int) := by rw [← ei]; exact perm_index hx hi
  have y1 : indexL y (gi y k) = (k : Int) := perm_index hy hk
  have y2 : indexL y (gi x k) = (j : Int) := by rw [← ej]; exact perm_index hy hj
  obtain ⟨c, hc⟩ := Int.eq_ofNat_of_zero_le hcx.1
  obtain ⟨d, hd'⟩ := Int.eq_ofNat_of_zero_le hcy.1
  rw [hc] at x1 y2
  rw [hd'] at x2 y1
  have hcd : c ≠ d := fun e => hd (by rw [hc, hd', e])
  rcases Nat.lt_or_gt_of_ne hcd with h | h
  · refine ⟨c, d, h, by omega, ?_⟩
    unfold befB
    rw [x1, x2, y1, y2]
    simp
    omega
  · refine ⟨d, c, h, by omega, ?_⟩
    unfold befB
    rw [x1, x2, y1, y2]
    simp
    omega
end Go.Proofs.Ytnfhlbmapfoifaa
