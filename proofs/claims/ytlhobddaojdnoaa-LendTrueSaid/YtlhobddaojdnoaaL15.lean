/- The plain law of LendTrue: what is made truly is one of the truths. -/
import Derived.Test.YtlhobddaojdnoaaL12
namespace Go.Proofs.Ytlhobddaojdnoaa

def cab0 (S : Int) (H : List Int) : Cab := ⟨S, H, 0, []⟩
/-- The bits of what is wrong. -/
def wN (bs : List Bool) : Nat := bitsOf ((List.range bs.length).filter fun i => gb bs i)
theorem wN_test (bs : List Bool) (i : Nat) : (wN bs).testBit i = gb bs i := by
  unfold wN
  rw [bitsOf_test]
  by_cases hi : i < bs.length
  · simp [hi]
  · simp [hi, gb]
theorem gb_snoc_lt {bs : List Bool} {b : Bool} {i : Nat} (h : i < bs.length) : gb (bs ++ [b]) i = gb bs i := by
  simp [gb, List.getElem?_append, h]
theorem gb_snoc (bs : List Bool) (b : Bool) : gb (bs ++ [b]) bs.length = b := by simp [gb]
theorem wN_snoc (bs : List Bool) (b : Bool) : wN (bs ++ [b]) = if b = true then wN bs ||| 2 ^ bs.length else wN bs := by
  apply Nat.eq_of_testBit_eq
  intro i
  rw [wN_test]
  have hp : ∀ j, (2 ^ bs.length).testBit j = decide (bs.length = j) := fun j => Nat.testBit_two_pow
  rcases Nat.lt_trichotomy i bs.length with h | h | h
  · rw [gb_snoc_lt h]
    split
    · rw [Nat.testBit_or, wN_test, hp, decide_eq_false (by omega), Bool.or_false]
    · rw [wN_test]
  · subst h
    rw [gb_snoc]
    cases b with
    | true => rw [if_pos rfl, Nat.testBit_or, hp]; simp
    | false => rw [if_neg (by simp), wN_test]; simp [gb]
  · have h1 : gb (bs ++ [b]) i = false := by simp [gb]; rw [List.getElem?_eq_none (by simp; omega)]; rfl
    have h2 : gb bs i = false := by simp [gb]; rw [List.getElem?_eq_none (by omega)]; rfl
    rw [h1]
    split
    · rw [Nat.testBit_or, wN_test, hp, h2, decide_eq_false (by omega)]; rfl
    · rw [wN_test, h2]
theorem wN_lt {bs : List Bool} {n : Nat} (h : bs.length ≤ n) : wN bs < 2 ^ n := by
  refine bitsOf_lt fun k hk => ?_
  have := List.mem_range.1 (List.mem_filter.1 hk).1
  omega
/-- What is made: the loans so far, where each card is then, and which were wrong. -/
structure Made (S : Int) (H : List Int) (ls : List Ln) (t : List Int) (bs : List Bool) : Prop where
  path : (t, bs) ∈ paths (cab0 S H) ls H
  ok : ∀ l ∈ ls, (cab0 S H).loanOk l = true
theorem Made.start (S : Int) (H : List Int) : Made S H [] H [] := ⟨by simp [paths], by simp⟩
theorem Made.len {S : Int} {H : List Int} {ls : List Ln} {t : List Int} {bs : List Bool} (h : Made S H ls t bs) : bs.length = ls.length := paths_len _ _ _ _ _ h.path
theorem Made.snoc {S : Int} {H : List Int} {ls : List Ln} {t t' : List Int} {bs : List Bool} {l : Ln} {b : Bool} (h : Made S H ls t bs) (hl : (cab0 S H).loanOk l = true)
    (hs : (t', b) ∈ step (cab0 S H) t l) : Made S H (ls ++ [l]) t' (bs ++ [b]) := by
  refine ⟨?_, fun x hx => ?_⟩
  · rw [paths_snoc]
    exact ⟨t, bs, b, h.path, hs, rfl⟩
  · rcases List.mem_append.1 hx with hx | hx
    · exact h.ok x hx
    · rw [List.mem_singleton.1 hx]; exact hl
structure HomesOk (S : Int) (H : List Int) : Prop where
  lo : 1 ≤ S
  hi : S ≤ 6
  len : H.length ≤ 5
  fits : (H.length : Int) ≤ S
  bd : ∀ k, k < H.length → 0 ≤ gi H k ∧ gi H k < S
  inj : ∀ i j, i < H.length → j < H.length → gi H i = gi H j → i = j
theorem HomesOk.st {S : Int} {H : List Int} (h : HomesOk S H) : St (cab0 S H) H := ⟨rfl, fun k hk => ⟨by have := h.bd k hk; omega, (h.bd k hk).2⟩, fun i j hi hj he _ => h.inj i j hi hj he⟩
theorem Made.st {S : Int} {H : List Int} {ls : List Ln} {t : List Int} {bs : List Bool} (h : Made S H ls t bs) (hh : HomesOk S H) : St (cab0 S H) t :=
  St.paths (by have := hh.lo; show (0 : Int) ≤ S; omega) _ _ _ _ hh.st h.path
theorem Made.look {S : Int} {H : List Int} {ls : List Ln} {t : List Int} {bs : List Bool} (h : Made S H ls t bs) (hh : HomesOk S H) {s : Int} (h0 : 0 ≤ s) (h1 : s < S) :
    Made S H (ls ++ [⟨2, lies t s, 0, s⟩]) t (bs ++ [false]) := by
  have hr := lies_range (h.st hh) s
  refine h.snoc ?_ ?_
  · have hr' : -1 ≤ lies t s ∧ lies t s < (H.length : Int) := hr
    have : decide ((0 : Int) ≤ s) = true ∧ decide (s ≤ S - 1) = true := by simp; omega
    show (inR s 0 (S - 1) && (decide (lies t s = -1) || inR (lies t s) 0 ((H.length : Int) - 1))) = true
    unfold inR
    simp only [this, Bool.and_self, Bool.true_and, Bool.or_eq_true, Bool.and_eq_true, decide_eq_true_eq]
    omega
  · simp [step]
theorem Made.take {S : Int} {H : List Int} {ls : List Ln} {t : List Int} {bs : List Bool} (h : Made S H ls t bs) {k : Nat} (hk : k < H.length) {p : Int} (p0 : 0 ≤ p) (p1 : p ≤ 7) (hat : gi t k ≠ -1) :
    Made S H (ls ++ [⟨0, k, p, 0⟩]) (t.set k (-1)) (bs ++ [false]) := by
  refine h.snoc ?_ ?_
  · show (inR (k : Int) 0 ((H.length : Int) - 1) && inR p 0 7) = true
    unfold inR
    simp only [Bool.and_eq_true, decide_eq_true_eq]
    omega
  · simp [step, hat]
theorem Made.back {S : Int} {H : List Int} {ls : List Ln} {t : List Int} {bs : List Bool} (h : Made S H ls t bs) {k : Nat} (hk : k < H.length) {p : Int} (p0 : 0 ≤ p) (p1 : p ≤ 7) (hat : gi t k = -1)
    {s : Int} (h0 : 0 ≤ s) (h1 : s < S) (hf : lies t s = -1) :
    Made S H (ls ++ [⟨1, k, p, 0⟩]) (t.set k s) (bs ++ [!decide (s = gi H k)]) := by
  refine h.snoc ?_ ?_
  · show (inR (k : Int) 0 ((H.length : Int) - 1) && inR p 0 7) = true
    unfold inR
    simp only [Bool.and_eq_true, decide_eq_true_eq]
    omega
  · unfold step
    simp only [show ¬ ((1 : Int) = 0) by omega, if_false, if_true, Int.toNat_natCast, hat]
    rw [List.mem_filterMap]
    refine ⟨s.toNat, List.mem_range.2 (by show s.toNat < S.toNat; omega), ?_⟩
    have e : ((s.toNat : Nat) : Int) = s := by omega
    rw [e, if_pos hf]
    rfl
theorem nodup_of_inj : ∀ (l : List Int), (∀ i j, i < l.length → j < l.length → gi l i = gi l j → i = j) → l.Nodup
  | l, h => by
    rw [List.nodup_iff_pairwise_ne, List.pairwise_iff_getElem]
    intro i j hi hj hij he
    have := h i j hi hj (by simp [gi, hi, hj, he])
    omega
theorem Made.cab {S : Int} {H : List Int} {ls : List Ln} {t : List Int} {bs : List Bool} (h : Made S H ls t bs) (hh : HomesOk S H) (hl : ls.length ≤ 12) {w : Int} (hw : (wrongs bs : Int) ≤ w) (hw' : w ≤ 12) :
    (Cab.mk S H w ls).valid = true ∧ (t, bs) ∈ truths (Cab.mk S H w ls) := by
  obtain ⟨g1, g2, g3, g4, g5, g6⟩ := hh
  refine ⟨?_, truths_mem.2 ⟨?_, hw⟩⟩
  · have hn := nodup_of_inj H g6
    have ho : ls.all (Cab.mk S H w ls).loanOk = true := List.all_eq_true.2 fun l hx => h.ok l hx
    have hb : H.all (Cab.mk S H w ls).slotOf = true := List.all_eq_true.2 fun x hx => by
      obtain ⟨i, hi, rfl⟩ := List.getElem_of_mem hx
      have := g5 i hi
      simp [gi, hi] at this
      simp [Cab.slotOf, inR]; omega
    simp only [Cab.valid, Cab.sizes, Cab.homesOk, ho, hb, hn, decide_true, Bool.and_true, inR, Bool.and_eq_true, decide_eq_true_eq]
    show (((1 ≤ S ∧ S ≤ 6) ∧ H.length ≤ 5) ∧ 0 ≤ w ∧ w ≤ 12) ∧ ls.length ≤ 12
    omega
  · show (t, bs) ∈ paths (Cab.mk S H w ls) ls H
    rw [paths_congr (c := Cab.mk S H w ls) (d := cab0 S H) rfl rfl]
    exact h.path
/-- A place is free, if a card is out. -/
theorem sub_len : ∀ (a b : List Int), a.Nodup → (∀ x ∈ a, x ∈ b) → a.length ≤ b.length
  | [], _, _, _ => by simp
  | x :: r, b, hn, hs => by
    have hx := hs x (by simp)
    have hn' := List.nodup_cons.1 hn
    have := sub_len r (b.erase x) hn'.2 (fun y hy => (List.mem_erase_of_ne (fun e => hn'.1 (by rw [← e]; exact hy))).2 (hs y (by simp [hy])))
    rw [List.length_erase_of_mem hx] at this
    have := List.length_pos_of_mem hx
    simp; omega
theorem free_at {S : Int} {t : List Int} (h1 : 1 ≤ S) (hl : (t.length : Int) ≤ S) {k : Nat} (hk : k < t.length) (hat : gi t k = -1) : ∃ s : Int, 0 ≤ s ∧ s < S ∧ lies t s = -1 := by
  apply Classical.byContradiction
  intro hno
  have all : ∀ s : Int, 0 ≤ s → s < S → s ∈ t := fun s h0 hS => by
    rcases lies_spec (t := t) (slot := s) with ⟨h, _⟩ | ⟨j, _, hj, he, _⟩
    · exact (hno ⟨s, h0, hS, h⟩).elim
    · rw [← he]; simp [gi, hj]
  have hm : (-1 : Int) ∈ t := by rw [← hat]; simp [gi, hk]
  have nd : ((List.range S.toNat).map fun n : Nat => (n : Int)).Nodup := by
    rw [List.nodup_iff_pairwise_ne, List.pairwise_map]
    exact List.Pairwise.imp (fun h e => h (by omega)) (List.nodup_iff_pairwise_ne.1 List.nodup_range)
  have := sub_len (-1 :: (List.range S.toNat).map fun n : Nat => (n : Int)) t
    (List.nodup_cons.2 ⟨fun hx => by obtain ⟨n, _, hn⟩ := List.mem_map.1 hx; omega, nd⟩) (fun x hx => by
      rcases List.mem_cons.1 hx with rfl | hx
      · exact hm
      · obtain ⟨n, hn, rfl⟩ := List.mem_map.1 hx
        exact all n (by omega) (by have := List.mem_range.1 hn; omega))
  simp at this
  omega

/-! ### what is told of a cabinet that has this truth -/
section
variable {c : Cab} {t : List Int} {bs : List Bool}
theorem true_ne (h : (t, bs) ∈ truths c) : truths c ≠ [] := List.ne_nil_of_mem h
theorem true_len (h : (t, bs) ∈ truths c) : bs.length = c.loans.length := paths_len c _ _ _ _ (truths_mem.1 h).1
theorem true_least (h : (t, bs) ∈ truths c) : allT c ≠ [] ∧ leastN c ≤ wrongs bs :=
  have h' : (t, bs) ∈ allT c := allT_mem.2 (truths_mem.1 h).1
  ⟨List.ne_nil_of_mem h', least_le h'⟩
theorem true_surely (h : (t, bs) ∈ truths c) (i : Nat) (hi : (surelyS c).testBit i = true) : (wN bs).testBit i = true := by
  rw [wN_test]; exact (surely_test.1 hi).2.2 t bs h
theorem true_can (h : (t, bs) ∈ truths c) (i : Nat) (hi : (wN bs).testBit i = true) : (canS c).testBit i = true := by
  rw [wN_test] at hi
  exact can_test.2 ⟨(truth_wrong h hi).1, t, bs, h, hi⟩
theorem true_own (h : (t, bs) ∈ truths c) (p : Nat) (hp : (ownS c).testBit p = true) : (whoOf c (wN bs) c.loans.length).testBit p = true := by
  obtain ⟨i, h1, h2, h3⟩ := (own_test.1 hp).2 t bs h
  exact whoOf_test.2 ⟨i, h1, by rw [wN_test]; exact h3, by rw [h2]; rfl⟩
theorem true_may (h : (t, bs) ∈ truths c) (p : Nat) (hp : (whoOf c (wN bs) c.loans.length).testBit p = true) : (mayS c).testBit p = true := by
  obtain ⟨i, h1, h2, h3⟩ := whoOf_test.1 hp
  exact may_test.2 ⟨i, true_can h i h2, h3⟩
theorem true_kinds (h : (t, bs) ∈ truths c) (i : Nat) (hi : (wN bs).testBit i = true) : i < c.loans.length ∧ (gl c.loans i).kind = 1 := by
  rw [wN_test] at hi
  exact truth_wrong h hi
theorem true_where (hv : c.valid = true) (h : (t, bs) ∈ truths c) {i : Nat} (hi : i < c.homes.length) :
    (gi t i = -1 ∧ outL (whereL c i) = true) ∨ ∃ s : Nat, gi t i = (s : Int) ∧ s < 6 ∧ (setL (whereL c i)).testBit s = true := by
  have hs := truth_st hv h
  have hb := hs.bd i (by rw [hs.len]; exact hi)
  have := valid_slots hv
  by_cases e : gi t i = -1
  · exact .inl ⟨e, where_out.2 ⟨t, bs, h, e⟩⟩
  · refine .inr ⟨(gi t i).toNat, by omega, by omega, (where_test hv hi).2 ⟨t, bs, h, by omega⟩⟩
theorem true_slot (hv : c.valid = true) (h : (t, bs) ∈ truths c) (s : Int) :
    (lies t s = -1 ∧ outL (slotL c s) = true) ∨ ∃ k : Nat, lies t s = (k : Int) ∧ k < 5 ∧ (setL (slotL c s)).testBit k = true := by
  have hs := truth_st hv h
  have hb := lies_range hs s
  have := valid_homes hv
  by_cases e : lies t s = -1
  · exact .inl ⟨e, slot_out.2 ⟨t, bs, h, e⟩⟩
  · refine .inr ⟨(lies t s).toNat, by omega, by omega, (slot_test hv).2 ⟨t, bs, h, by omega⟩⟩
theorem true_span (h : (t, bs) ∈ truths c) : minL (awayL c) ≤ away c t ∧ away c t ≤ maxL (awayL c) := by
  have hm : away c t ∈ awayL c := List.mem_map.2 ⟨(t, bs), h, rfl⟩
  exact ⟨(minL_mem (List.ne_nil_of_mem hm)).2 _ hm, maxL_ge hm⟩
end
/-- So many of the first loans were wrong. -/
def wcnt (bs : List Bool) (k : Nat) : Nat := wrongs (bs.take k)
theorem wcnt_zero (bs : List Bool) : wcnt bs 0 = 0 := rfl
theorem wcnt_all (bs : List Bool) : wcnt bs bs.length = wrongs bs := by unfold wcnt; rw [List.take_length]
theorem wcnt_succ (bs : List Bool) (k : Nat) (hk : k < bs.length) : wcnt bs (k + 1) = wcnt bs k + if gb bs k = true then 1 else 0 := by
  unfold wcnt
  have e : bs.take (k + 1) = bs.take k ++ [gb bs k] := by rw [List.take_add_one, List.getElem?_eq_getElem hk]; simp [gb, hk]
  rw [e, wrongs_snoc]
theorem wcnt_le (bs : List Bool) (k : Nat) : wcnt bs k ≤ k := by
  unfold wcnt
  have := wrongs_le (bs.take k)
  simp at this
  omega
/-- So many of the first cards are away. -/
def awayK (t H : List Int) : Nat → Nat
  | 0 => 0
  | k + 1 => awayK t H k + if gi t k ≠ -1 ∧ gi t k ≠ gi H k then 1 else 0
theorem awayK_all : ∀ (t H : List Int), t.length = H.length → awayK t H t.length = (t.zip H).countP fun x => !decide (x.1 = -1) && !decide (x.1 = x.2) := by
  have aux : ∀ (n : Nat) (t H : List Int), t.length = H.length → n ≤ t.length → awayK t H n = ((t.zip H).take n).countP fun x => !decide (x.1 = -1) && !decide (x.1 = x.2) := by
    intro n
    induction n with
    | zero => intro t H _ _; simp [awayK]
    | succ n ih =>
      intro t H hl hn
      have hz : n < (t.zip H).length := by simp; omega
      rw [List.take_add_one, List.getElem?_eq_getElem hz, List.countP_append, ← ih t H hl (by omega)]
      have e : (t.zip H)[n] = (gi t n, gi H n) := by simp [gi, show n < t.length by omega, show n < H.length by omega]
      rw [e]
      simp only [awayK, Option.toList_some, List.countP_cons, List.countP_nil, Nat.zero_add]
      congr 1
      simp
  intro t H hl
  rw [aux t.length t H hl (Nat.le_refl _), List.take_of_length_le (by simp; omega)]
theorem awayK_le (t H : List Int) : ∀ k, awayK t H k ≤ k
  | 0 => Nat.le_refl _
  | k + 1 => by have := awayK_le t H k; unfold awayK; split <;> omega
/-- The last one of the first cards that lies in a slot. -/
def lastAt (t : List Int) (s : Int) : Nat → Int
  | 0 => -1
  | k + 1 => if gi t k = s then (k : Int) else lastAt t s k
theorem lastAt_spec (t : List Int) (s : Int) : ∀ k, (lastAt t s k = -1 ∧ ∀ i, i < k → gi t i ≠ s) ∨ ∃ j : Nat, lastAt t s k = (j : Int) ∧ j < k ∧ gi t j = s
  | 0 => .inl ⟨rfl, fun i hi => by omega⟩
  | k + 1 => by
    unfold lastAt
    split
    · rename_i h; exact .inr ⟨k, rfl, by omega, h⟩
    · rename_i h
      rcases lastAt_spec t s k with ⟨h1, h2⟩ | ⟨j, h1, h2, h3⟩
      · refine .inl ⟨h1, fun i hi => ?_⟩
        by_cases e : i = k
        · rw [e]; exact h
        · exact h2 i (by omega)
      · exact .inr ⟨j, h1, by omega, h3⟩
theorem lastAt_lies {c : Cab} {t : List Int} (hs : St c t) {s : Int} (h0 : 0 ≤ s) : lastAt t s t.length = lies t s := by
  rcases lastAt_spec t s t.length with ⟨h1, h2⟩ | ⟨j, h1, h2, h3⟩
  · rw [h1]; exact (lies_none.2 h2).symm
  · rw [h1]; exact ((lies_at hs h0).2 ⟨h2, h3⟩).symm
theorem lastAt_bd (t : List Int) (s : Int) (k : Nat) : -1 ≤ lastAt t s k ∧ lastAt t s k < k := by
  rcases lastAt_spec t s k with ⟨h1, _⟩ | ⟨j, h1, h2, _⟩ <;> omega
end Go.Proofs.Ytlhobddaojdnoaa
