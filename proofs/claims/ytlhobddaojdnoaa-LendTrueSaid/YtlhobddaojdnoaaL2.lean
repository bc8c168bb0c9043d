/- The plain laws of cabinets: sets, looks, less. -/
import Derived.Test.YtlhobddaojdnoaaL1
namespace Go.Proofs.Ytlhobddaojdnoaa

theorem St.paths {c : Cab} (h0 : 0 ≤ c.slots) : ∀ (ls : List Ln) (a t : List Int) (bs : List Bool), St c a → (t, bs) ∈ Go.Proofs.Ytlhobddaojdnoaa.paths c ls a → St c t
  | [], a, t, bs, hs, h => by simp [Go.Proofs.Ytlhobddaojdnoaa.paths] at h; rw [h.1]; exact hs
  | l :: ls, a, t, bs, hs, h => by
    simp only [Go.Proofs.Ytlhobddaojdnoaa.paths, List.mem_flatMap, List.mem_map] at h
    obtain ⟨x, hx, y, hy, he⟩ := h
    cases he
    exact St.paths h0 ls x.1 y.1 y.2 (hs.step h0 hx) hy
theorem truth_st {c : Cab} (hv : c.valid = true) {r : Rule} {ls : List Ln} {W : Int} {t : List Int} {bs : List Bool} (h : (t, bs) ∈ truthsBy c r ls W) : St c t :=
  St.paths (by have := valid_slots hv; omega) _ _ _ _ (St.homes hv) (truthsBy_mem.1 h).1

theorem setL_test (l : List Int) (k : Nat) : (setL l).testBit k = true ↔ (∃ x ∈ l, x ≠ -1 ∧ x.toNat = k) := by
  unfold setL
  rw [bitsOf_test]
  simp only [decide_eq_true_eq, List.mem_map, List.mem_filter, Bool.not_eq_true', decide_eq_false_iff_not]
  constructor
  · rintro ⟨x, ⟨h1, h2⟩, h3⟩; exact ⟨x, h1, h2, h3⟩
  · rintro ⟨x, h1, h2, h3⟩; exact ⟨x, ⟨h1, h2⟩, h3⟩
theorem where_test {c : Cab} (hv : c.valid = true) {card k : Nat} (hc : card < c.homes.length) : (setL (whereL c card)).testBit k = true ↔ ∃ t bs, (t, bs) ∈ truths c ∧ gi t card = (k : Int) := by
  rw [setL_test]
  constructor
  · rintro ⟨x, hx, h1, h2⟩
    obtain ⟨⟨t, bs⟩, ht, rfl⟩ := List.mem_map.1 hx
    have hs := truth_st hv ht
    have := hs.bd card (by rw [hs.len]; exact hc)
    simp only [Int.toNat_natCast] at h1 h2
    exact ⟨t, bs, ht, by omega⟩
  · rintro ⟨t, bs, ht, h⟩
    refine ⟨_, List.mem_map.2 ⟨_, ht, rfl⟩, ?_, ?_⟩ <;> simp only [Int.toNat_natCast, h] <;> omega
theorem where_out {c : Cab} {card : Nat} : outL (whereL c card) = true ↔ ∃ t bs, (t, bs) ∈ truths c ∧ gi t card = -1 := by
  unfold outL whereL
  rw [List.any_map, List.any_eq_true]
  constructor
  · rintro ⟨⟨t, bs⟩, ht, h⟩; exact ⟨t, bs, ht, by simpa using h⟩
  · rintro ⟨t, bs, ht, h⟩; exact ⟨_, ht, by simpa using h⟩
theorem lies_range {c : Cab} {t : List Int} (hs : St c t) (s : Int) : -1 ≤ lies t s ∧ lies t s < c.homes.length := by
  rcases lies_spec (t := t) (slot := s) with ⟨h, _⟩ | ⟨k, h, h2, _⟩
  · omega
  · rw [hs.len] at h2; omega
theorem slot_test {c : Cab} (hv : c.valid = true) {s : Int} {k : Nat} : (setL (slotL c s)).testBit k = true ↔ ∃ t bs, (t, bs) ∈ truths c ∧ lies t s = (k : Int) := by
  rw [setL_test]
  constructor
  · rintro ⟨x, hx, h1, h2⟩
    obtain ⟨⟨t, bs⟩, ht, rfl⟩ := List.mem_map.1 hx
    have := lies_range (truth_st hv ht) s
    simp only at h1 h2
    exact ⟨t, bs, ht, by omega⟩
  · rintro ⟨t, bs, ht, h⟩
    refine ⟨_, List.mem_map.2 ⟨_, ht, rfl⟩, ?_, ?_⟩ <;> simp only [h] <;> omega
theorem slot_out {c : Cab} {s : Int} : outL (slotL c s) = true ↔ ∃ t bs, (t, bs) ∈ truths c ∧ lies t s = -1 := by
  unfold outL slotL
  rw [List.any_map, List.any_eq_true]
  constructor
  · rintro ⟨⟨t, bs⟩, ht, h⟩; exact ⟨t, bs, ht, by simpa using h⟩
  · rintro ⟨t, bs, ht, h⟩; exact ⟨_, ht, by simpa using h⟩
theorem where_slot {c : Cab} (hv : c.valid = true) {card s : Nat} (hc : card < c.homes.length) : (setL (whereL c card)).testBit s = (setL (slotL c s)).testBit card := by
  rw [Bool.eq_iff_iff, where_test hv hc, slot_test hv]
  constructor
  · rintro ⟨t, bs, ht, h⟩
    have hs := truth_st hv ht
    exact ⟨t, bs, ht, (lies_at hs (by omega)).2 ⟨by rw [hs.len]; exact hc, h⟩⟩
  · rintro ⟨t, bs, ht, h⟩
    exact ⟨t, bs, ht, ((lies_at (truth_st hv ht) (by omega)).1 h).2⟩
theorem setL_lt {l : List Int} {n : Nat} (h : ∀ x ∈ l, -1 ≤ x ∧ x < n) : setL l < 2 ^ n := by
  refine bitsOf_lt (fun k hk => ?_)
  obtain ⟨x, hx, rfl⟩ := List.mem_map.1 hk
  have hx' := List.mem_filter.1 hx
  have := h x hx'.1
  have h2 : x ≠ -1 := by simpa using hx'.2
  omega
theorem where_lt {c : Cab} (hv : c.valid = true) {card : Nat} (hc : card < c.homes.length) : setL (whereL c card) < 2 ^ c.slots.toNat := by
  have h1 := valid_slots hv
  refine setL_lt (fun x hx => ?_)
  obtain ⟨⟨t, bs⟩, ht, rfl⟩ := List.mem_map.1 hx
  have hs := truth_st hv ht
  have := hs.bd card (by rw [hs.len]; exact hc)
  simp only [Int.toNat_natCast]; omega
theorem where_any_of {c : Cab} (hv : c.valid = true) (h : truths c ≠ []) {card : Nat} (hc : card < c.homes.length) (h0 : setL (whereL c card) = 0) : outL (whereL c card) = true := by
  obtain ⟨⟨t, bs⟩, ht⟩ := List.exists_mem_of_ne_nil _ h
  have hs := truth_st hv ht
  have hb := hs.bd card (by rw [hs.len]; exact hc)
  by_cases hg : gi t card = -1
  · exact where_out.2 ⟨t, bs, ht, hg⟩
  · have := (where_test hv (k := (gi t card).toNat) hc).2 ⟨t, bs, ht, by omega⟩
    rw [h0] at this
    simp at this

/-! ### a look more -/
theorem paths_congr {c d : Cab} (hs : c.slots = d.slots) (hh : c.homes = d.homes) : ∀ (ls : List Ln) (a : List Int), paths c ls a = paths d ls a
  | [], _ => rfl
  | l :: ls, a => by
    have h1 : step c a l = step d a l := by unfold step; rw [hs, hh]
    unfold paths
    rw [h1]
    congr 1
    funext x
    rw [paths_congr hs hh ls x.1]
theorem truthsBy_congr {c d : Cab} (hs : c.slots = d.slots) (hh : c.homes = d.homes) (r : Rule) (ls : List Ln) (W : Int) : truthsBy c r ls W = truthsBy d r ls W := by
  unfold truthsBy; rw [paths_congr hs hh, hh]
def addLook (c : Cab) (slot card : Int) : Cab := { c with loans := c.loans ++ [⟨2, card, 0, slot⟩] }
theorem addLook_mem {c : Cab} {slot card : Int} {t : List Int} {bs : List Bool} : (t, bs) ∈ truths (addLook c slot card) ↔ ∃ bs', bs = bs' ++ [false] ∧ (t, bs') ∈ truths c ∧ lies t slot = card := by
  have h1 : truths (addLook c slot card) = truthsBy c anyRule (c.loans ++ [⟨2, card, 0, slot⟩]) c.wrong := truthsBy_congr (c := addLook c slot card) (d := c) rfl rfl _ _ _
  rw [h1, truths_mem, paths_snoc]
  unfold truths
  constructor
  · rintro ⟨⟨s, bs', b, h2, h3, rfl⟩, h4⟩
    unfold step at h3
    dsimp only at h3
    rw [if_neg (by decide), if_neg (by decide)] at h3
    split at h3
    · rename_i hl
      simp only [List.mem_singleton, Prod.mk.injEq] at h3
      obtain ⟨rfl, rfl⟩ := h3
      rw [wrongs_snoc] at h4
      exact ⟨bs', rfl, truths_mem.2 ⟨h2, by simpa using h4⟩, hl⟩
    · simp at h3
  · rintro ⟨bs', rfl, h2, hl⟩
    obtain ⟨h3, h4⟩ := truths_mem.1 h2
    refine ⟨⟨t, bs', false, h3, ?_, rfl⟩, by rw [wrongs_snoc]; simpa using h4⟩
    unfold step
    dsimp only
    rw [if_neg (by decide), if_neg (by decide), if_pos hl]
    simp
theorem addLook_valid {c : Cab} (hv : c.valid = true) (hl : c.loans.length < 12) {slot card : Int} (hs : c.slotOf slot = true) (hc : card = -1 ∨ c.card card = true) : (addLook c slot card).valid = true := by
  simp only [Cab.valid, Bool.and_eq_true, List.all_eq_true] at hv ⊢
  obtain ⟨⟨h1, h2⟩, h3⟩ := hv
  refine ⟨⟨?_, h2⟩, fun l hl => ?_⟩
  · simp only [Cab.sizes, addLook, Bool.and_eq_true, decide_eq_true_eq, List.length_append, List.length_singleton] at h1 ⊢
    exact ⟨⟨⟨h1.1.1.1, decide_eq_true h1.1.1.2⟩, h1.1.2⟩, by omega⟩
  · simp only [addLook, List.mem_append, List.mem_singleton] at hl
    rcases hl with hl | rfl
    · exact h3 l hl
    · have hs' : Cab.slotOf (addLook c slot card) slot = true := hs
      have hc' : (decide (card = -1) || Cab.card (addLook c slot card) card) = true := by
        rcases hc with hc | hc
        · simp [hc]
        · have : Cab.card (addLook c slot card) card = true := hc
          simp [this]
      simp [Cab.loanOk, Cab.look, hs', hc']
theorem addLook_check {c : Cab} (hv : c.valid = true) (hl : c.loans.length < 12) {slot card : Int} (hs : c.slotOf slot = true) (hc : card = -1 ∨ c.card card = true) :
    (check (addLook c slot card)).2 = 4 ↔ ∃ t bs, (t, bs) ∈ truths c ∧ lies t slot = card := by
  have hv' := addLook_valid hv hl hs hc
  by_cases h : truths (addLook c slot card) = []
  · rw [check_no hv' h]
    refine ⟨fun h => by omega, fun ⟨t, bs, h1, h2⟩ => ?_⟩
    have := addLook_mem (c := c) (slot := slot) (card := card) (t := t) (bs := bs ++ [false]) |>.2 ⟨bs, rfl, h1, h2⟩
    rw [h] at this
    simp at this
  · rw [check_yes hv' h]
    refine ⟨fun _ => ?_, fun _ => rfl⟩
    obtain ⟨⟨t, bs⟩, hx⟩ := List.exists_mem_of_ne_nil _ h
    obtain ⟨bs', _, h1, h2⟩ := addLook_mem.1 hx
    exact ⟨t, bs', h1, h2⟩
theorem check_look {c : Cab} (hv : c.valid = true) (hl : c.loans.length < 12) {slot card : Int} (hs : c.slotOf slot = true) (hc : card = -1 ∨ c.card card = true) {b : Bool}
    (hb : b = true ↔ ∃ t bs, (t, bs) ∈ truths c ∧ lies t slot = card) : ∃ x, check (addLook c slot card) = (x, if b then 4 else 0) := by
  have h := addLook_check hv hl hs hc
  rw [← hb] at h
  have hv' := addLook_valid hv hl hs hc
  refine ⟨(check (addLook c slot card)).1, Prod.ext rfl ?_⟩
  show (check (addLook c slot card)).2 = if b then 4 else 0
  by_cases hT : truths (addLook c slot card) = []
  · have h0 := check_no hv' hT
    rw [h0] at h ⊢
    have : b = false := by cases b <;> simp at h ⊢
    rw [this]; rfl
  · have h0 := check_yes hv' hT
    rw [h0] at h ⊢
    have : b = true := h.1 rfl
    rw [this]; rfl
theorem slotL_lt {c : Cab} (hv : c.valid = true) (s : Int) : setL (slotL c s) < 2 ^ 62 := by
  refine Nat.lt_of_lt_of_le (setL_lt (n := c.homes.length) (fun x hx => ?_)) (Nat.pow_le_pow_right (by decide) (by have := valid_homes hv; omega))
  obtain ⟨⟨t, bs⟩, ht, rfl⟩ := List.mem_map.1 hx
  exact lies_range (truth_st hv ht) s
end Go.Proofs.Ytlhobddaojdnoaa
