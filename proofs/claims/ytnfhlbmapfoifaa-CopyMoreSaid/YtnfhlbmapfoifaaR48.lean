/- CopyMore: the piles that it makes are valid, and narrower. -/
import Derived.Test.YtnfhlbmapfoifaaR45
namespace Go.Proofs.Ytnfhlbmapfoifaa
open Go.RowKit
set_option linter.unusedVariables false
set_option linter.unusedSimpArgs false

theorem bits_andNot (a b : Nat) (ha : a < 2 ^ 62) (hb : b < 2 ^ 62) : bits .andNot .i64 (a : Int) (b : Int) = ((a ^^^ (a &&& b) : Nat) : Int) := by
  have h1 : bits .andNot .i64 (a : Int) (b : Int) = IntKind.i64.wrap ((BitVec.ofInt 64 (a : Int) &&& ~~~ BitVec.ofInt 64 (b : Int)).toNat : Int) := rfl
  have h2 : (BitVec.ofInt 64 (a : Int) &&& ~~~ BitVec.ofInt 64 (b : Int)).toNat = a ^^^ (a &&& b) := by
    refine Nat.eq_of_testBit_eq fun i => ?_
    rw [BitVec.ofInt_natCast, BitVec.ofInt_natCast, BitVec.testBit_toNat, BitVec.getLsbD_and, BitVec.getLsbD_not, BitVec.getLsbD_ofNat, BitVec.getLsbD_ofNat, Nat.testBit_xor, Nat.testBit_and]
    by_cases hi : i < 64
    · simp only [hi, decide_true, Bool.true_and]
      cases a.testBit i <;> cases b.testBit i <;> rfl
    · have : a.testBit i = false := Nat.testBit_lt_two_pow (Nat.lt_of_lt_of_le ha (Nat.pow_le_pow_right (by decide) (by omega)))
      simp [hi, this]
  rw [h1, h2]
  have h3 : a ^^^ (a &&& b) < 2 ^ 62 := Nat.xor_lt_two_pow ha (Nat.lt_of_le_of_lt Nat.and_le_left ha)
  rw [IntKind.wrap_i64]; omega
theorem bits_or (a b : Nat) (ha : a < 2 ^ 62) (hb : b < 2 ^ 62) : bits .or .i64 (a : Int) (b : Int) = ((a ||| b : Nat) : Int) := by
  have h1 : bits .or .i64 (a : Int) (b : Int) = IntKind.i64.wrap ((BitVec.ofInt 64 (a : Int) ||| BitVec.ofInt 64 (b : Int)).toNat : Int) := rfl
  have h2 : (BitVec.ofInt 64 (a : Int) ||| BitVec.ofInt 64 (b : Int)).toNat = a ||| b := by
    rw [BitVec.ofInt_natCast, BitVec.ofInt_natCast, BitVec.toNat_or, BitVec.toNat_ofNat, BitVec.toNat_ofNat, Nat.mod_eq_of_lt (by omega), Nat.mod_eq_of_lt (by omega)]
  rw [h1, h2]
  have h3 : a ||| b < 2 ^ 62 := Nat.or_lt_two_pow ha hb
  rw [IntKind.wrap_i64]; omega
def clrN (m d : Nat) : Nat := m ^^^ (m &&& 2 ^ d)
theorem clrN_bit (m d i : Nat) : (clrN m d).testBit i = (m.testBit i && !decide (d = i)) := by
  unfold clrN
  rw [Nat.testBit_xor, Nat.testBit_and, Nat.testBit_two_pow]
  cases m.testBit i <;> by_cases h : d = i <;> simp [h]
theorem clrN_lt {m d n : Nat} (h : m < 2 ^ n) : clrN m d < 2 ^ n := Nat.xor_lt_two_pow h (Nat.lt_of_le_of_lt Nat.and_le_left h)
/-- A print without a mark, and with one; a pile of prints without it; one print with it. -/
def Prt.clr (d : Nat) (c : Prt) : Prt := { c with marks := (clrN c.marks.toNat d : Nat) }
def Prt.mrk (d : Nat) (c : Prt) : Prt := { c with marks := ((c.marks.toNat ||| 2 ^ d : Nat) : Int) }
def Prs.clr (d : Nat) (p : Prs) : Prs := { p with cards := p.cards.map (Prt.clr d) }
def Prs.mrk (d k : Nat) (p : Prs) : Prs := { p with cards := p.cards.set k ((gp p.cards k).mrk d) }
def Prt.thin (b : Int) (c : Prt) : Prt := { c with slo := min c.shi (c.slo + b % 4), whi := max c.wlo (c.whi - b % 5) }
def Prs.thin (b : Int) (k : Nat) (p : Prs) : Prs := { p with cards := p.cards.set k ((gp p.cards k).thin b) }
def Prs.less (b : Int) (p : Prs) : Prs := { p with llo := min p.lhi (p.llo + b % 2), ohi := max p.olo (p.ohi - b % 3) }
theorem gp_map {f : Prt → Prt} {l : List Prt} {i : Nat} (h : i < l.length) : gp (l.map f) i = f (gp l i) := by simp [gp, h]
theorem gp_none {l : List Prt} {i : Nat} (h : ¬ i < l.length) : gp l i = ⟨0, 0, 0, 0, 0⟩ := by
  unfold gp
  rw [List.getD_eq_getElem?_getD, List.getElem?_eq_none (by omega)]
  rfl
theorem gp_ok {p : Prs} (hv : p.valid = true) {i : Nat} (h : i < p.cards.length) : (gp p.cards i).ok = true := by
  obtain ⟨_, h2, _⟩ := valid_parts hv
  exact h2 i h
theorem ok_parts {c : Prt} (h : c.ok = true) : (0 ≤ c.slo ∧ c.slo ≤ c.shi ∧ c.shi ≤ 16384) ∧ (0 ≤ c.wlo ∧ c.wlo ≤ c.whi ∧ c.whi ≤ 16384) ∧ 0 ≤ c.marks ∧ c.marks ≤ 1023 := by
  simpa [Prt.ok, spanOk, inR, and_assoc] using h
theorem ok_mk {c : Prt} (h : (0 ≤ c.slo ∧ c.slo ≤ c.shi ∧ c.shi ≤ 16384) ∧ (0 ≤ c.wlo ∧ c.wlo ≤ c.whi ∧ c.whi ≤ 16384) ∧ 0 ≤ c.marks ∧ c.marks ≤ 1023) : c.ok = true := by
  simpa [Prt.ok, spanOk, inR, and_assoc] using h
theorem valid_mk {p : Prs} (h1 : p.cards.length ≤ 5) (h2 : ∀ i, i < p.cards.length → (gp p.cards i).ok = true) (h3 : spanOk p.llo p.lhi = true) (h4 : spanOk p.olo p.ohi = true) : p.valid = true := by
  unfold Prs.valid
  rw [h3, h4, decide_eq_true h1]
  have : p.cards.all Prt.ok = true := by
    rw [List.all_eq_true]
    intro c hc
    obtain ⟨i, hi, rfl⟩ := List.mem_iff_getElem.1 hc
    have := h2 i hi
    simpa [gp, hi] using this
  rw [this]; rfl
theorem nat_lt {c : Prt} (h : c.ok = true) : c.marks.toNat < 2 ^ 10 := by
  obtain ⟨_, _, h1, h2⟩ := ok_parts h
  omega
theorem clr_ok {c : Prt} (d : Nat) (h : c.ok = true) : (c.clr d).ok = true := by
  obtain ⟨h1, h2, h3⟩ := ok_parts h
  have := clrN_lt (d := d) (nat_lt h)
  exact ok_mk ⟨h1, h2, by show 0 ≤ ((clrN c.marks.toNat d : Nat) : Int); omega, by show ((clrN c.marks.toNat d : Nat) : Int) ≤ 1023; omega⟩
theorem mrk_ok {c : Prt} {d : Nat} (hd : d < 10) (h : c.ok = true) : (c.mrk d).ok = true := by
  obtain ⟨h1, h2, h3⟩ := ok_parts h
  have h4 : (2 : Nat) ^ d < 2 ^ 10 := Nat.pow_lt_pow_right (by decide) hd
  have := Nat.or_lt_two_pow (nat_lt h) h4
  exact ok_mk ⟨h1, h2, by show 0 ≤ ((c.marks.toNat ||| 2 ^ d : Nat) : Int); omega, by show ((c.marks.toNat ||| 2 ^ d : Nat) : Int) ≤ 1023; omega⟩
theorem thin_ok {c : Prt} {b : Int} (hb : 0 ≤ b) (h : c.ok = true) : (c.thin b).ok = true := by
  obtain ⟨h1, h2, h3⟩ := ok_parts h
  exact ok_mk ⟨by show 0 ≤ min c.shi (c.slo + b % 4) ∧ min c.shi (c.slo + b % 4) ≤ c.shi ∧ c.shi ≤ 16384; omega, by show 0 ≤ c.wlo ∧ c.wlo ≤ max c.wlo (c.whi - b % 5) ∧ max c.wlo (c.whi - b % 5) ≤ 16384; omega, h3⟩
section
variable {p : Prs}
theorem clr_valid (hv : p.valid = true) (d : Nat) : (p.clr d).valid = true := by
  obtain ⟨h1, h2, h3, h4⟩ := valid_parts hv
  have e : (p.clr d).cards.length = p.cards.length := by simp [Prs.clr]
  refine valid_mk (by rw [e]; exact h1) (fun i hi => ?_) h3 h4
  rw [e] at hi
  show (gp (p.cards.map (Prt.clr d)) i).ok = true
  rw [gp_map hi]
  exact clr_ok d (gp_ok hv hi)
theorem mrk_valid (hv : p.valid = true) {d k : Nat} (hd : d < 10) (hk : k < p.cards.length) : (p.mrk d k).valid = true := by
  obtain ⟨h1, h2, h3, h4⟩ := valid_parts hv
  have e : (p.mrk d k).cards.length = p.cards.length := by simp [Prs.mrk]
  refine valid_mk (by rw [e]; exact h1) (fun i hi => ?_) h3 h4
  rw [e] at hi
  show (gp (p.cards.set k ((gp p.cards k).mrk d)) i).ok = true
  rw [gp_set hk]
  split
  · exact mrk_ok hd (gp_ok hv hk)
  · exact gp_ok hv hi
theorem thin_valid (hv : p.valid = true) {b : Int} (hb : 0 ≤ b) {k : Nat} (hk : k < p.cards.length) : (p.thin b k).valid = true := by
  obtain ⟨h1, h2, h3, h4⟩ := valid_parts hv
  have e : (p.thin b k).cards.length = p.cards.length := by simp [Prs.thin]
  refine valid_mk (by rw [e]; exact h1) (fun i hi => ?_) h3 h4
  rw [e] at hi
  show (gp (p.cards.set k ((gp p.cards k).thin b)) i).ok = true
  rw [gp_set hk]
  split
  · exact thin_ok hb (gp_ok hv hk)
  · exact gp_ok hv hi
theorem span_parts {lo hi : Int} (h : spanOk lo hi = true) : 0 ≤ lo ∧ lo ≤ hi ∧ hi ≤ 16384 := by simpa [spanOk, and_assoc] using h
theorem span_mk {lo hi : Int} (h : 0 ≤ lo ∧ lo ≤ hi ∧ hi ≤ 16384) : spanOk lo hi = true := by simpa [spanOk, and_assoc] using h
theorem less_valid (hv : p.valid = true) {b : Int} (hb : 0 ≤ b) : (p.less b).valid = true := by
  obtain ⟨h1, h2, h3, h4⟩ := valid_parts hv
  have h3 := span_parts h3
  have h4 := span_parts h4
  exact valid_mk h1 h2 (span_mk (by show 0 ≤ min p.lhi (p.llo + b % 2) ∧ min p.lhi (p.llo + b % 2) ≤ p.lhi ∧ p.lhi ≤ 16384; omega)) (span_mk (by show 0 ≤ p.olo ∧ p.olo ≤ max p.olo (p.ohi - b % 3) ∧ max p.olo (p.ohi - b % 3) ≤ 16384; omega))
theorem less_nar (hv : p.valid = true) {b : Int} (hb : 0 ≤ b) : Nar (p.less b) p := by
  obtain ⟨h1, h2, h3, h4⟩ := valid_parts hv
  have h3 := span_parts h3
  have h4 := span_parts h4
  refine ⟨rfl, fun c what => ⟨Int.le_refl _, Int.le_refl _⟩, fun what => ?_, fun c f _ _ h => h⟩
  cases what
  · show p.llo ≤ min p.lhi (p.llo + b % 2) ∧ p.lhi ≤ p.lhi; omega
  · show p.olo ≤ p.olo ∧ max p.olo (p.ohi - b % 3) ≤ p.ohi; omega
theorem thin_nar (hv : p.valid = true) {b : Int} (hb : 0 ≤ b) {k : Nat} (hk : k < p.cards.length) : Nar (p.thin b k) p := by
  obtain ⟨h1, h2, h3⟩ := ok_parts (gp_ok hv hk)
  have hm : ∀ c, (gp (p.thin b k).cards c).marks = (gp p.cards c).marks := fun c => by
    show (gp (p.cards.set k ((gp p.cards k).thin b)) c).marks = _
    rw [gp_set hk]
    split
    · rename_i e; subst e; rfl
    · rfl
  refine ⟨by simp [Prs.thin], fun c what => ?_, fun what => ⟨Int.le_refl _, Int.le_refl _⟩, fun c f _ _ h => ?_⟩
  · have e : gp (p.thin b k).cards c = if k = c then (gp p.cards k).thin b else gp p.cards c := gp_set hk
    rw [e]
    split
    · rename_i e; subst e
      cases what
      · show (gp p.cards k).slo ≤ min (gp p.cards k).shi ((gp p.cards k).slo + b % 4) ∧ (gp p.cards k).shi ≤ (gp p.cards k).shi; omega
      · show (gp p.cards k).wlo ≤ (gp p.cards k).wlo ∧ max (gp p.cards k).wlo ((gp p.cards k).whi - b % 5) ≤ (gp p.cards k).whi; omega
    · exact ⟨Int.le_refl _, Int.le_refl _⟩
  · unfold markedB at h ⊢
    rw [hm, hm] at h
    exact h
theorem mrk_nar (hv : p.valid = true) {d k : Nat} (hk : k < p.cards.length) : Nar ((p.clr d).mrk d k) (p.clr d) := by
  have hl : (p.clr d).cards.length = p.cards.length := by simp [Prs.clr]
  have hk2 : k < (p.clr d).cards.length := by rw [hl]; exact hk
  have e : ∀ c, gp ((p.clr d).mrk d k).cards c = if k = c then (gp (p.clr d).cards k).mrk d else gp (p.clr d).cards c := fun c => gp_set hk2
  refine ⟨by simp [Prs.mrk], fun c what => ?_, fun what => ⟨Int.le_refl _, Int.le_refl _⟩, fun c f hc hf h => ?_⟩
  · rw [e]
    split
    · rename_i e; subst e
      cases what <;> exact ⟨Int.le_refl _, Int.le_refl _⟩
    · exact ⟨Int.le_refl _, Int.le_refl _⟩
  · have hc2 : c < p.cards.length := by simpa [Prs.mrk, Prs.clr] using hc
    have hf2 : f < p.cards.length := by simpa [Prs.mrk, Prs.clr] using hf
    have hno : ∀ j, j < p.cards.length → (gp (p.clr d).cards j).marks.toNat.testBit d = false := fun j hj => by
      show (gp (p.cards.map (Prt.clr d)) j).marks.toNat.testBit d = false
      rw [gp_map hj]
      show ((clrN _ d : Nat) : Int).toNat.testBit d = false
      rw [Int.toNat_natCast, clrN_bit]; simp
    have hb : ∀ j i, i ≠ d → (gp ((p.clr d).mrk d k).cards j).marks.toNat.testBit i = (gp (p.clr d).cards j).marks.toNat.testBit i := fun j i hi => by
      rw [e]
      split
      · rename_i e; subst e
        show (((gp (p.clr d).cards k).marks.toNat ||| 2 ^ d : Nat) : Int).toNat.testBit i = _
        rw [Int.toNat_natCast, Nat.testBit_or, Nat.testBit_two_pow, decide_eq_false (fun e => hi e.symm), Bool.or_false]
      · rfl
    unfold markedB at h ⊢
    rw [List.all_eq_true] at h ⊢
    intro i hi
    have h1 := h i hi
    by_cases hid : i = d
    · subst hid
      rw [hno f hf2]; rfl
    · rw [hb _ _ hid, hb _ _ hid] at h1
      exact h1
end
/-- The prints of which those below k are without a mark. -/
def clrL (d k : Nat) (l : List Prt) : List Prt := (List.range l.length).map fun i => if i < k then (gp l i).clr d else gp l i
theorem clrL_len (d k : Nat) (l : List Prt) : (clrL d k l).length = l.length := by simp [clrL]
theorem clrL_at {d k : Nat} {l : List Prt} {i : Nat} (h : i < l.length) : gp (clrL d k l) i = if i < k then (gp l i).clr d else gp l i := by simp [clrL, gp, h]
theorem eq_gp {l m : List Prt} (hl : l.length = m.length) (h : ∀ i, i < l.length → gp l i = gp m i) : l = m := by
  refine List.ext_getElem hl (fun i h1 h2 => ?_)
  have := h i h1
  simpa [gp, h1, h2] using this
theorem clrL_zero (d : Nat) (l : List Prt) : clrL d 0 l = l := eq_gp (clrL_len _ _ _) (fun i hi => by rw [clrL_at (by rw [clrL_len] at hi; exact hi)]; simp)
theorem clrL_all (d : Nat) (l : List Prt) : clrL d l.length l = l.map (Prt.clr d) := eq_gp (by rw [clrL_len, List.length_map]) (fun i hi => by
  rw [clrL_len] at hi
  rw [clrL_at hi, gp_map hi, if_pos hi])
theorem clrL_next {d k : Nat} {l : List Prt} (h : k < l.length) : (clrL d k l).set k ((gp (clrL d k l) k).put (clrN (gp l k).marks.toNat d : Nat) 4) = clrL d (k + 1) l := by
  have hk : k < (clrL d k l).length := by rw [clrL_len]; exact h
  refine eq_gp (by rw [List.length_set, clrL_len, clrL_len]) (fun i hi => ?_)
  rw [List.length_set, clrL_len] at hi
  rw [gp_set hk, clrL_at hi, clrL_at hi, clrL_at h]
  by_cases e : k = i
  · subst e
    rw [if_pos rfl, if_neg (by omega), if_pos (by omega)]
    rfl
  · rw [if_neg e]
    by_cases e2 : i < k
    · rw [if_pos e2, if_pos (by omega)]
    · rw [if_neg e2, if_neg (by omega)]
end Go.Proofs.Ytnfhlbmapfoifaa
