/- The plain laws of cabinets: what is true of the truths. -/
import Derived.Test.YtlhobddaojdnoaaPure3
namespace Go.Proofs.Ytlhobddaojdnoaa

theorem truthsBy_mem {c : Cab} {r : Rule} {ls : List Ln} {W : Int} {t : List Int} {bs : List Bool} :
    (t, bs) ∈ truthsBy c r ls W ↔ (t, bs) ∈ paths c ls c.homes ∧ okAll r 0 ls bs = true ∧ (wrongs bs : Int) ≤ W := by
  simp [truthsBy]
theorem okAll_any : ∀ (i : Nat) (ls : List Ln) (bs : List Bool), okAll anyRule i ls bs = true
  | _, [], _ => by simp [okAll]
  | _, _ :: _, [] => by simp [okAll]
  | i, l :: ls, b :: bs => by simp [okAll, anyRule, okAll_any (i + 1) ls bs]
theorem truths_mem {c : Cab} {ls : List Ln} {W : Int} {t : List Int} {bs : List Bool} :
    (t, bs) ∈ truthsBy c anyRule ls W ↔ (t, bs) ∈ paths c ls c.homes ∧ (wrongs bs : Int) ≤ W := by
  rw [truthsBy_mem, okAll_any]; simp

/-- What is a truth of more loans is one of the first ones. -/
theorem truths_prefix {c : Cab} {ls : List Ln} {l : Ln} {W : Int} (h : truthsBy c anyRule (ls ++ [l]) W ≠ []) : truthsBy c anyRule ls W ≠ [] := by
  obtain ⟨⟨t, bs⟩, hx⟩ := List.exists_mem_of_ne_nil _ h
  obtain ⟨h1, h2⟩ := truths_mem.1 hx
  obtain ⟨s, bs', b, h3, _, rfl⟩ := (paths_snoc c l ls _ t bs).1 h1
  rw [wrongs_snoc] at h2
  exact List.ne_nil_of_mem (truths_mem.2 ⟨h3, by cases b <;> simp at h2 <;> omega⟩)
theorem take_succ' {l : List Ln} {k : Nat} (h : k < l.length) : l.take (k + 1) = l.take k ++ [gl l k] := by
  rw [List.take_succ_eq_append_getElem h]; simp [gl, h]
theorem truths_take {c : Cab} {W : Int} {ls : List Ln} (h : truthsBy c anyRule ls W ≠ []) : ∀ (d k : Nat), k + d = ls.length → truthsBy c anyRule (ls.take k) W ≠ []
  | 0, k, hk => by rw [List.take_of_length_le (by omega)]; exact h
  | d + 1, k, hk => by
    have := truths_take h d (k + 1) (by omega)
    rw [take_succ' (by omega)] at this
    exact truths_prefix this
theorem truths_nil (c : Cab) {W : Int} (hW : 0 ≤ W) : truthsBy c anyRule [] W ≠ [] :=
  List.ne_nil_of_mem (a := (c.homes, [])) (truths_mem.2 ⟨by simp [paths], by simpa [wrongs] using hW⟩)

theorem checkFrom_none {c : Cab} : ∀ (f i : Nat), (∀ j, i ≤ j → j < i + f → truthsBy c anyRule (c.loans.take (j + 1)) c.wrong ≠ []) → checkFrom c f i = (0, 4)
  | 0, _, _ => rfl
  | f + 1, i, h => by
    have h0 := h i (by omega) (by omega)
    unfold checkFrom
    rw [if_neg (by simpa using h0)]
    exact checkFrom_none f (i + 1) (fun j h1 h2 => h j (by omega) (by omega))
theorem checkFrom_some {c : Cab} : ∀ (f i : Nat), (∃ j, i ≤ j ∧ j < i + f ∧ truthsBy c anyRule (c.loans.take (j + 1)) c.wrong = []) → (checkFrom c f i).2 = 0
  | 0, _, ⟨j, h1, h2, _⟩ => by omega
  | f + 1, i, ⟨j, h1, h2, h3⟩ => by
    unfold checkFrom
    by_cases h0 : truthsBy c anyRule (c.loans.take (i + 1)) c.wrong = []
    · rw [if_pos (by simpa using h0)]
    · rw [if_neg (by simpa using h0)]
      exact checkFrom_some f (i + 1) ⟨j, by have : j ≠ i := fun e => h0 (e ▸ h3); omega, by omega, h3⟩
theorem checkFrom_congr {c d : Cab} (hl : c.loans.length = d.loans.length)
    (h : ∀ j, j < c.loans.length → (truthsBy c anyRule (c.loans.take (j + 1)) c.wrong = [] ↔ truthsBy d anyRule (d.loans.take (j + 1)) d.wrong = [])) :
    ∀ (f i : Nat), i + f = c.loans.length → checkFrom c f i = checkFrom d f i
  | 0, _, _ => rfl
  | f + 1, i, hi => by
    have := h i (by omega)
    unfold checkFrom
    by_cases h0 : truthsBy c anyRule (c.loans.take (i + 1)) c.wrong = []
    · rw [if_pos (by simpa using h0), if_pos (by simpa using this.1 h0)]
    · rw [if_neg (by simpa using h0), if_neg (by simpa using fun h' => h0 (this.2 h'))]
      exact checkFrom_congr hl h f (i + 1) (by omega)

/-- Check says 4 just if there is a truth, else 0. -/
theorem check_yes {c : Cab} (hv : c.valid = true) (h : truths c ≠ []) : check c = (0, 4) := by
  unfold check
  rw [if_pos hv]
  refine checkFrom_none _ _ (fun j _ hj => ?_)
  exact truths_take h (c.loans.length - (j + 1)) (j + 1) (by omega)
theorem valid_wrong {c : Cab} (hv : c.valid = true) : 0 ≤ c.wrong ∧ c.wrong ≤ 12 := by
  simp only [Cab.valid, Cab.sizes, inR, Bool.and_eq_true, decide_eq_true_eq] at hv; omega
theorem valid_slots {c : Cab} (hv : c.valid = true) : 1 ≤ c.slots ∧ c.slots ≤ 6 := by
  simp only [Cab.valid, Cab.sizes, inR, Bool.and_eq_true, decide_eq_true_eq] at hv; omega
theorem valid_homes {c : Cab} (hv : c.valid = true) : c.homes.length ≤ 5 := by
  simp only [Cab.valid, Cab.sizes, inR, Bool.and_eq_true, decide_eq_true_eq] at hv; omega
theorem valid_loans {c : Cab} (hv : c.valid = true) : c.loans.length ≤ 12 := by
  simp only [Cab.valid, Cab.sizes, inR, Bool.and_eq_true, decide_eq_true_eq] at hv; omega
theorem check_no {c : Cab} (hv : c.valid = true) (h : truths c = []) : (check c).2 = 0 := by
  unfold check
  rw [if_pos hv]
  refine checkFrom_some _ _ ?_
  have h0 : c.loans.length ≠ 0 := fun e => by
    have : c.loans = [] := List.eq_nil_of_length_eq_zero e
    have hn := truths_nil c (valid_wrong hv).1
    unfold truths at h
    rw [this] at h
    exact hn h
  refine ⟨c.loans.length - 1, by omega, by omega, ?_⟩
  rw [List.take_of_length_le (by omega)]
  exact h
theorem check_le {c : Cab} : ∀ (f i : Nat), i + f ≤ 12 → 0 ≤ (checkFrom c f i).1 ∧ (checkFrom c f i).1 ≤ 12
  | 0, _, _ => by simp [checkFrom]
  | f + 1, i, h => by
    unfold checkFrom
    split
    · simp; omega
    · exact check_le f (i + 1) (by omega)

theorem openE_yes {c : Cab} (hv : c.valid = true) (h : truths c ≠ []) : openE c true = 0 := by simp [openE, hv, h]
theorem openE_no {c : Cab} (hv : c.valid = true) (h : truths c = []) : openE c true = 4 := by simp [openE, hv, h]

/-! ### where and slot -/
def whereL (c : Cab) (card : Int) : List Int := (truths c).map fun x => gi x.1 card.toNat
def slotL (c : Cab) (slot : Int) : List Int := (truths c).map fun x => lies x.1 slot
def setL (l : List Int) : Nat := bitsOf ((l.filter fun s => !decide (s = -1)).map Int.toNat)
def outL (l : List Int) : Bool := l.any fun s => decide (s = -1)
theorem where_yes {c : Cab} (hv : c.valid = true) (h : truths c ≠ []) {card : Int} (hc : c.card card = true) : whereE c card = ((setL (whereL c card) : Int), outL (whereL c card), 0) := by
  unfold whereE; rw [hc, openE_yes hv h]; rfl
theorem where_no {c : Cab} (hv : c.valid = true) (h : truths c = []) {card : Int} (hc : c.card card = true) : whereE c card = (0, false, 4) := by
  unfold whereE; rw [hc, openE_no hv h]; rfl
theorem slot_yes {c : Cab} (hv : c.valid = true) (h : truths c ≠ []) {s : Int} (hc : c.slotOf s = true) : slotE c s = ((setL (slotL c s) : Int), outL (slotL c s), 0) := by
  unfold slotE; rw [hc, openE_yes hv h]; rfl
theorem slot_no {c : Cab} (hv : c.valid = true) (h : truths c = []) {s : Int} (hc : c.slotOf s = true) : slotE c s = (0, false, 4) := by
  unfold slotE; rw [hc, openE_no hv h]; rfl

/-- A state of a cabinet: as many cards, each out or in a slot; no two in one. -/
structure St (c : Cab) (t : List Int) : Prop where
  len : t.length = c.homes.length
  bd : ∀ k, k < t.length → -1 ≤ gi t k ∧ gi t k < c.slots
  inj : ∀ i j, i < t.length → j < t.length → gi t i = gi t j → gi t i ≠ -1 → i = j

theorem gi_set {l : List Int} {i j : Nat} {v : Int} (hi : i < l.length) : gi (l.set i v) j = if i = j then v else gi l j := by
  by_cases h : i = j
  · subst h; simp [gi, hi]
  · simp [gi, h]
theorem lies_spec {t : List Int} {slot : Int} : (lies t slot = -1 ∧ ∀ k, k < t.length → gi t k ≠ slot) ∨ ∃ k : Nat, lies t slot = (k : Int) ∧ k < t.length ∧ gi t k = slot ∧ ∀ j, j < k → gi t j ≠ slot := by
  have aux : ∀ (l : List Int) (k : Nat), (liesFrom l slot k = -1 ∧ ∀ j, j < l.length → gi l j ≠ slot) ∨ ∃ j : Nat, liesFrom l slot k = ((k + j : Nat) : Int) ∧ j < l.length ∧ gi l j = slot ∧ ∀ i, i < j → gi l i ≠ slot := by
    intro l
    induction l with
    | nil => intro k; exact .inl ⟨rfl, by simp⟩
    | cons x r ih =>
      intro k
      unfold liesFrom
      by_cases hx : x = slot
      · rw [if_pos hx]; exact .inr ⟨0, by simp, by simp, by simpa [gi] using hx, by omega⟩
      · rw [if_neg hx]
        rcases ih (k + 1) with ⟨h1, h2⟩ | ⟨j, h1, h2, h3, h4⟩
        · refine .inl ⟨h1, fun j hj => ?_⟩
          cases j with
          | zero => simpa [gi] using hx
          | succ j => have := h2 j (by simpa using hj); simpa [gi] using this
        · refine .inr ⟨j + 1, by rw [h1]; omega, by simpa using h2, by simpa [gi] using h3, fun i hi => ?_⟩
          cases i with
          | zero => simpa [gi] using hx
          | succ i => have := h4 i (by omega); simpa [gi] using this
  rcases aux t 0 with h | ⟨j, h1, h2⟩
  · exact .inl h
  · exact .inr ⟨j, by simpa [lies] using h1, h2⟩
theorem lies_none {t : List Int} {slot : Int} : lies t slot = -1 ↔ ∀ k, k < t.length → gi t k ≠ slot := by
  rcases lies_spec (t := t) (slot := slot) with ⟨h1, h2⟩ | ⟨k, h1, h2, h3, _⟩
  · exact ⟨fun _ => h2, fun _ => h1⟩
  · exact ⟨fun h => by omega, fun h => absurd h3 (h k h2)⟩
theorem lies_at {c : Cab} {t : List Int} (hs : St c t) {slot : Int} (h0 : 0 ≤ slot) {k : Nat} : lies t slot = (k : Int) ↔ k < t.length ∧ gi t k = slot := by
  rcases lies_spec (t := t) (slot := slot) with ⟨h1, h2⟩ | ⟨j, h1, h2, h3, _⟩
  · exact ⟨fun h => by omega, fun ⟨a, b⟩ => absurd b (h2 k a)⟩
  · constructor
    · intro h
      have : j = k := by omega
      subst this
      exact ⟨h2, h3⟩
    · rintro ⟨a, b⟩
      have := hs.inj j k h2 a (by rw [h3, b]) (by omega)
      rw [h1, this]
theorem St.homes {c : Cab} (hv : c.valid = true) : St c c.homes := by
  simp only [Cab.valid, Cab.homesOk, Bool.and_eq_true, decide_eq_true_eq, List.all_eq_true] at hv
  obtain ⟨⟨_, hn, ha⟩, _⟩ := hv
  refine ⟨rfl, fun k hk => ?_, fun i j hi hj he _ => ?_⟩
  · have : c.slotOf (gi c.homes k) = true := ha _ (by simp [gi, hk])
    simp only [Cab.slotOf, inR, Bool.and_eq_true, decide_eq_true_eq] at this
    omega
  · simp only [gi, List.getD_eq_getElem?_getD, List.getElem?_eq_getElem hi, List.getElem?_eq_getElem hj, Option.getD_some] at he
    exact (List.getElem_inj hn).1 he
theorem St.step {c : Cab} (h0 : 0 ≤ c.slots) {t : List Int} (hs : St c t) {l : Ln} {x : List Int × Bool} (hx : x ∈ step c t l) : St c x.1 := by
  unfold Go.Proofs.Ytlhobddaojdnoaa.step at hx
  have setSt : ∀ (k : Nat) (v : Int), -1 ≤ v → v < c.slots → (v ≠ -1 → ∀ j, j < t.length → gi t j ≠ v) → St c (t.set k v) := by
    intro k v h1 h2 h3
    by_cases hk : k < t.length
    · refine ⟨by simp [hs.len], fun j hj => ?_, fun i j hi hj he hn => ?_⟩
      · rw [gi_set hk]
        split
        · omega
        · exact hs.bd j (by simpa using hj)
      · rw [gi_set hk] at he hn
        rw [gi_set hk] at he
        simp only [List.length_set] at hi hj
        by_cases a : k = i <;> by_cases b : k = j
        · omega
        · rw [if_pos a, if_neg b] at he; rw [if_pos a] at hn; exact absurd he.symm (h3 hn j hj)
        · rw [if_neg a, if_pos b] at he; rw [if_neg a] at hn; exact absurd he (h3 (by omega) i hi)
        · rw [if_neg a, if_neg b] at he; rw [if_neg a] at hn; exact hs.inj i j hi hj he hn
    · rw [List.set_eq_of_length_le (by omega)]; exact hs
  split at hx
  · split at hx
    · simp at hx
    · simp only [List.mem_singleton] at hx
      subst hx
      exact setSt _ _ (by omega) (by omega) (fun h => absurd rfl h)
  · split at hx
    · split at hx
      · obtain ⟨s, hs1, hs2⟩ := List.mem_filterMap.1 hx
        rw [List.mem_range] at hs1
        split at hs2
        · rename_i hl
          rw [Option.some.injEq] at hs2
          subst hs2
          exact setSt _ _ (by omega) (by omega) (fun _ j hj => lies_none.1 hl j hj)
        · cases hs2
      · simp at hx
    · split at hx
      · simp only [List.mem_singleton] at hx
        subst hx; exact hs
      · simp at hx
end Go.Proofs.Ytlhobddaojdnoaa
