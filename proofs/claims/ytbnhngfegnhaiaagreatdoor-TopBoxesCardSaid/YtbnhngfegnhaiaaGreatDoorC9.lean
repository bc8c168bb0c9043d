/- awake11: the sample's answers. First's list as homes: plain laws. Boxes: plain laws. TopBoxes: the tail from region 34 on. -/
import Derived.Test.YtbnhngfegnhaiaaGreatDoorC8
namespace Go.Proofs.YtbnhngfegnhaiaaGreatDoor
open Go.RowKit
set_option linter.unusedVariables false
set_option linter.unusedSimpArgs false
def awakeC : Cab := { slots := 4, homes := [0, 1, 2], wrong := 1, loans := [⟨0, 0, 0, 0⟩, ⟨0, 1, 1, 0⟩, ⟨1, 0, 0, 0⟩, ⟨1, 1, 1, 0⟩] }
theorem awake_mis : misplacedE awakeC = ((0, 1), 0) := by decide +kernel
theorem awake_cnt : countL 5 [10, 10, 16] 0 ≠ 0 := by decide +kernel
theorem heap11_ok : heap11.Ok := by
  refine ⟨by decide, by decide, by decide, ?_, ?_⟩
  · unfold Bx.ok titleOk; decide +kernel
  · unfold Tn.ok pieceOk; decide +kernel
set_option maxRecDepth 100000 in
set_option maxHeartbeats 4000000 in
theorem awake5 (w : World) : Calls Tryz.prog 5 #[] w fun e w' => e = .returned (.bool true) ∧ Below w.heap.size w w' := by
  go_enter Tryz.func5, Tryz.ntmps5
  refine wp_seq_hid ?_
  intro K0 HK0
  go_wp2_with fail
  refine HK0.out _ _ ?_
  clear HK0 K0
  refine wp_seq_hid ?_
  intro K1 HK1
  go_wp2_with fail
  refine (heap18 w).mono ?_
  rintro e w1 ⟨ab, cb, ac, cc, rfl, h1, h2, hb1⟩
  have H1 := Lib.hid (And.intro h1 (And.intro h2 hb1))
  clear h1 h2 hb1
  go_wp2_with fail
  refine (first7 (cb := cb) (cc := cc) heap11_ok H1.out.1 H1.out.2.1).mono ?_
  rintro e w2 ⟨hf, hb2⟩
  have HB2 := Lib.hid (H1.out.2.2.trans (hb2.mono H1.out.2.2.size))
  clear hb2
  rw [fits11, first11.1] at hf
  rcases hf with ⟨hz, _⟩ | ⟨_, q, rfl, ho⟩
  · exact (awake_cnt hz).elim
  rw [first11.2] at ho
  have HO : Hid (IsInts w2 q.1 [1, 3, 4]) := own_ints (l := [1, 3, 4]) (cap := q.2) ho
  clear ho
  rw [show ([10, 10, 16] : List Nat).length = 3 from rfl]
  go_wp2_with fail
  refine HK1.out _ _ ?_
  clear HK1 K1
  refine wp_seq_hid ?_
  intro K2 HK2
  obtain ⟨x0, x1, x2⟩ := alloc2 w2 #[.int .i64 0, .int .i64 1, .int .i64 2] #[.int .i64 0, .int .i64 0, .int .i64 0, .int .i64 0, .int .i64 0, .int .i64 1, .int .i64 1, .int .i64 0, .int .i64 1, .int .i64 0, .int .i64 0, .int .i64 0, .int .i64 1, .int .i64 1, .int .i64 1, .int .i64 0] 3 37
  have HX := Lib.hid (And.intro x0 (And.intro x1 x2))
  clear x0 x1 x2
  go_wp2_with fail
  revert HX
  generalize ((w2.alloc (.cells #[.int .i64 0, .int .i64 1, .int .i64 2] 3)).alloc (.cells #[.int .i64 0, .int .i64 0, .int .i64 0, .int .i64 0, .int .i64 0, .int .i64 1, .int .i64 1, .int .i64 0, .int .i64 1, .int .i64 0, .int .i64 0, .int .i64 0, .int .i64 1, .int .i64 1, .int .i64 1, .int .i64 0] 37)) = w3
  generalize w2.heap.size + 1 = bl
  generalize hbh : w2.heap.size = bh
  intro HX
  have HG : Hid (Given w3 awakeC (some ⟨bh, 0, none⟩) 3 (some ⟨bl, 0, none⟩) 4) := by
    refine ⟨?_, ?_, by decide, by decide, by decide⟩
    · intro i hi
      have hi2 : i = 0 ∨ i = 1 ∨ i = 2 := by have : i < 3 := hi; omega
      refine ⟨_, 0, rfl, ?_⟩
      rcases hi2 with rfl | rfl | rfl <;> (rw [cell_of_heap HX.out.1]; rfl)
    · intro i hi
      have hi2 : i = 0 ∨ i = 1 ∨ i = 2 ∨ i = 3 := by have : i < 4 := hi; omega
      refine ⟨_, 0, rfl, ?_⟩
      rcases hi2 with rfl | rfl | rfl | rfl <;> exact ⟨by rw [cell_of_heap HX.out.2.1]; rfl, by rw [cell_of_heap HX.out.2.1]; rfl, by rw [cell_of_heap HX.out.2.1]; rfl, by rw [cell_of_heap HX.out.2.1]; rfl⟩
  have hb23 : Below w2.heap.size w2 w3 := by rw [hbh]; exact HX.out.2.2
  have HB3 := Lib.hid (And.intro (HB2.out.trans (hb23.mono HB2.out.size)) (HO.out.mono hb23))
  clear hbh hb23 HX HO HB2
  have HMI := Lib.hid (misplaced_any HG.out)
  refine HMI.out.mono ?_
  rintro e w4 ⟨rfl, hb4⟩
  rw [awake_mis]
  have HB4 := Lib.hid (And.intro (HB3.out.1.trans (hb4.mono HB3.out.1.size)) (HB3.out.2.mono hb4))
  clear hb4 HB3 HMI HG
  have HA := Lib.hid (And.intro (World.alloc_heap_new w4 (.cells #[.int .i64 0, .int .i64 1] 47)) (alloc_below w4 (.cells #[.int .i64 0, .int .i64 1] 47)))
  go_wp2_with fail
  refine HK2.out _ _ ?_
  clear HK2 K2
  revert HA
  generalize w4.alloc (.cells #[.int .i64 0, .int .i64 1] 47) = w5
  generalize hsp : w4.heap.size = sp
  intro HA
  have hb45 : Below w4.heap.size w4 w5 := by rw [hsp]; exact HA.out.2
  have HB5 := Lib.hid (And.intro (HB4.out.1.trans (hb45.mono HB4.out.1.size)) (And.intro (HB4.out.2.mono hb45) HA.out.1))
  clear hsp hb45 HA HB4
  refine wp_seq_hid ?_
  intro K3 HK3
  refine wpIn_wide.1 (awk3 (sp := sp) (c1 := q.2) (g := q.1) (R := fun f1 _ _ a v => Below w5.heap.size w5 v ∧ (f1 = true → v.heap[a]? = some (.cells #[.int .i64 1, .int .i64 3, .int .i64 4] 3 (0, 0)))) ?h0 ?a1 ?c2 ?l8 ?c9 ?hQ)
  case h0 => exact ⟨(Below.refl _ _).drew, by simp⟩
  case a1 =>
    intro a v h
    exact ⟨h.1.alloc h.1.size _, fun _ => World.alloc_heap_new _ _⟩
  case c2 =>
    intro a v h
    refine (ints19 (l := [1, 3, 4]) (HB5.out.2.1.mono h.1) (?_ : IsInts v _ _) (by decide)).mono ?_
    · intro i hi
      have hi2 : i = 0 ∨ i = 1 ∨ i = 2 := by have : i < 3 := hi; omega
      refine ⟨_, 0, rfl, ?_⟩
      rcases hi2 with rfl | rfl | rfl <;> (rw [cell_of_heap (h.2 rfl)]; rfl)
    · rintro e v' ⟨he, hb⟩
      exact ⟨he, h.1.trans (hb.mono h.1.size), fun _ => (hb.block _ (heap_lt (h.2 rfl))).trans (h.2 rfl)⟩
  case l8 =>
    intro f9 a v h
    have hh := (h.1.block _ (heap_lt HB5.out.2.2)).trans HB5.out.2.2
    exact ⟨(cell_of_heap hh).trans rfl, (cell_of_heap hh).trans rfl⟩
  case c9 =>
    intro a v h
    refine (span20 0 1 v).mono ?_
    rintro e v' ⟨he, hb⟩
    exact ⟨he, h.1.trans (hb.mono h.1.size), fun _ => (hb.block _ (heap_lt (h.2 rfl))).trans (h.2 rfl)⟩
  intro a w6 h6
  have HD : Hid (Below w.heap.size w w6) := HB5.out.1.trans (h6.1.mono HB5.out.1.size)
  clear h6
  refine HK3.out _ _ ?_
  go_wp2_with fail
  go_ret
  exact ⟨rfl, HD.out⟩
end Go.Proofs.YtbnhngfegnhaiaaGreatDoor
namespace Go.Proofs.YtbnhngfegnhaiaaGreatDoor
open Go.RowKit
set_option linter.unusedVariables false
set_option linter.unusedSimpArgs false
def homesL (l : List Nat) : List Int := l.map fun (x : Nat) => (x : Int)
theorem homes_len (l : List Nat) : (homesL l).length = l.length := by simp [homesL]
theorem homes_at {l : List Nat} {j : Nat} (h : j < l.length) : gi (homesL l) j = (gn l j : Int) := by
  simp [gi, gn, homesL, h]
theorem way_box {E k p : Nat} {fs l : List Nat} (hl : l ∈ waysL E fs 0) (hE : E ≤ 6) (hn : fs.length ≤ 5) (hk : k < fs.length) (hp : p < 8) : BoxOk E (homesL l) k p := by
  obtain ⟨h1, h2, h3⟩ := way_iff.1 (mem_ways.1 hl)
  refine ⟨hE, by rw [homes_len, h1]; exact hn, by rw [homes_len, h1]; exact hk, hp, ?_, fun j hj => ?_⟩
  · unfold homesL
    rw [List.nodup_iff_pairwise_ne, List.pairwise_map]
    rw [List.nodup_iff_pairwise_ne] at h3
    exact h3.imp fun h e => h (Int.ofNat.inj e)
  · rw [homes_len, h1] at hj
    rw [homes_at (by omega)]
    have := (h2 j hj).1
    omega
/-- The slots of the first homes. -/
def fullN (l : List Nat) : Nat → Nat
  | 0 => 0
  | i + 1 => fullN l i ||| 2 ^ gn l i
theorem full_bit (l : List Nat) : ∀ i s, (fullN l i).testBit s = true ↔ ∃ j, j < i ∧ gn l j = s
  | 0, s => by simp [fullN]
  | i + 1, s => by
    show (fullN l i ||| 2 ^ gn l i).testBit s = true ↔ _
    rw [bit_or, Bool.or_eq_true, full_bit l i s, decide_eq_true_eq]
    constructor
    · rintro (⟨j, h1, h2⟩ | h)
      · exact ⟨j, by omega, h2⟩
      · exact ⟨i, by omega, h⟩
    · rintro ⟨j, h1, h2⟩
      by_cases hj : j = i
      · subst hj; exact .inr h2
      · exact .inl ⟨j, by omega, h2⟩
theorem full_lt {E : Nat} {l : List Nat} : ∀ i, (∀ j, j < i → gn l j < E) → fullN l i < 2 ^ E
  | 0, _ => Nat.two_pow_pos _
  | i + 1, h => Nat.or_lt_two_pow (full_lt i fun j hj => h j (by omega)) (Nat.pow_lt_pow_right (by omega) (h i (by omega)))
end Go.Proofs.YtbnhngfegnhaiaaGreatDoor
namespace Go.Proofs.YtbnhngfegnhaiaaGreatDoor
open Go.RowKit
set_option linter.unusedVariables false
set_option linter.unusedSimpArgs false
theorem and_i64 (a b : Nat) (ha : a < 2 ^ 62) (hb : b < 2 ^ 62) : bits .and .i64 (a : Int) (b : Int) = ((a &&& b : Nat) : Int) :=
  (bits_nat .i64 62 (by decide) (fun n h1 h2 => by rw [IntKind.wrap_i64]; omega) a b ha hb).1
theorem and_one_i (n k : Nat) (hn : n < 2 ^ 62) : bits .and .i64 ((n : Int) / 2 ^ k) 1 = if n.testBit k then 1 else 0 := by
  have e : ((n : Int) / 2 ^ k) = ((n / 2 ^ k : Nat) : Int) := by simp
  have h1 : n / 2 ^ k < 2 ^ 62 := Nat.lt_of_le_of_lt (Nat.div_le_self _ _) hn
  rw [e, show (1 : Int) = ((1 : Nat) : Int) from rfl, and_i64 _ _ h1 (by decide)]
  rw [Nat.testBit_eq_decide_div_mod_eq, Nat.and_one_is_mod]
  rcases Nat.mod_two_eq_zero_or_one (n / 2 ^ k) with h | h <;> simp [h]
theorem and_eq_one (n k : Nat) (hn : n < 2 ^ 62) : (bits .and .i64 ((n : Int) / 2 ^ k) 1 == 1) = n.testBit k := by
  rw [and_one_i n k hn]
  cases n.testBit k <;> rfl
theorem and_eq_zero (n k : Nat) (hn : n < 2 ^ 62) : (bits .and .i64 ((n : Int) / 2 ^ k) 1 == 0) = !n.testBit k := by
  rw [and_one_i n k hn]
  cases n.testBit k <;> rfl
theorem andNot_i64 (a b : Nat) (ha : a < 2 ^ 62) (hb : b < 2 ^ 62) : ∃ c : Nat, bits .andNot .i64 (a : Int) (b : Int) = (c : Int) ∧ c < 2 ^ 62 ∧ ∀ i, c.testBit i = (a.testBit i && !b.testBit i) := by
  have e : (BitVec.ofInt 64 (a : Int) &&& ~~~ BitVec.ofInt 64 (b : Int)).toNat = a ^^^ (a &&& b) := by
    have e1 : (BitVec.ofInt 64 (a : Int) &&& ~~~ BitVec.ofInt 64 (b : Int)) = BitVec.ofNat 64 (a ^^^ (a &&& b)) := by
      apply BitVec.eq_of_getLsbD_eq
      intro i hi
      rw [BitVec.ofInt_natCast, BitVec.ofInt_natCast]
      simp only [BitVec.getLsbD_and, BitVec.getLsbD_not, BitVec.getLsbD_ofNat, Nat.testBit_xor, Nat.testBit_and, hi, decide_true, Bool.true_and]
      cases a.testBit i <;> cases b.testBit i <;> rfl
    rw [e1, BitVec.toNat_ofNat, Nat.mod_eq_of_lt]
    have : a ^^^ (a &&& b) < 2 ^ 62 := Nat.xor_lt_two_pow ha (Nat.and_lt_two_pow _ hb)
    omega
  have hlt : a ^^^ (a &&& b) < 2 ^ 62 := Nat.xor_lt_two_pow ha (Nat.and_lt_two_pow _ hb)
  have h : bits .andNot .i64 (a : Int) (b : Int) = IntKind.i64.wrap ((BitVec.ofInt 64 (a : Int) &&& ~~~ BitVec.ofInt 64 (b : Int)).toNat : Int) := rfl
  refine ⟨a ^^^ (a &&& b), ?_, hlt, fun i => ?_⟩
  · rw [h, e]
    generalize a ^^^ (a &&& b) = c at hlt
    rw [IntKind.wrap_i64]
    omega
  · rw [Nat.testBit_xor, Nat.testBit_and]
    cases a.testBit i <;> cases b.testBit i <;> rfl
theorem bitsN_bit (p : Nat → Bool) : ∀ n s, (bitsN p n).testBit s = (decide (s < n) && p s)
  | 0, s => by simp [bitsN]
  | n + 1, s => by
    have ih := bitsN_bit p n s
    show (bitsN p n ||| (if p n then 2 ^ n else 0)).testBit s = _
    rw [Nat.testBit_or, ih]
    by_cases hs : s = n
    · subst hs
      cases h : p s <;> simp
    · have e : decide (s < n + 1) = decide (s < n) := by
        rw [decide_eq_decide]; omega
      rw [e]
      have : (if p n then 2 ^ n else 0).testBit s = false := by
        split
        · rw [Nat.testBit_two_pow]; simp; omega
        · simp
      rw [this, Bool.or_false]
theorem free_gn {l : List Nat} {k s : Nat} : FreeS (homesL l) k s ↔ ∀ j, j < l.length → j ≠ k → gn l j ≠ s := by
  unfold FreeS
  rw [homes_len]
  constructor
  · intro h j hj hjk e
    refine h j hj hjk ?_
    rw [homes_at hj, e]
  · intro h j hj hjk e
    rw [homes_at hj] at e
    exact h j hj hjk (by omega)
theorem mem_homes {l : List Nat} {s : Nat} : (s : Int) ∈ homesL l ↔ s ∈ l := by
  unfold homesL
  rw [List.mem_map]
  constructor
  · rintro ⟨x, hx, e⟩
    have : x = s := by omega
    rwa [this] at hx
  · intro h
    exact ⟨s, h, rfl⟩
theorem mem_gn {l : List Nat} {s : Nat} (h : s ∈ l) : ∃ j, j < l.length ∧ gn l j = s := by
  obtain ⟨j, hj, e⟩ := List.getElem_of_mem h
  refine ⟨j, hj, ?_⟩
  unfold gn
  rw [List.getD_eq_getElem?_getD, List.getElem?_eq_getElem hj]
  exact e
section
variable {E n k p : Nat} {l : List Nat}
theorem box_gn (h : BoxOk E (homesL l) k p) {j : Nat} (hj : j < l.length) : gn l j < E := by
  have := (h.rg j (by rw [homes_len]; exact hj)).2
  rw [homes_at hj] at this
  omega
theorem box_full (h : BoxOk E (homesL l) k p) {i : Nat} (hi : i < l.length) : (fullN l i).testBit (gn l i) = false := by
  rw [← Bool.not_eq_true, full_bit]
  rintro ⟨j, hj, e⟩
  have := h.inj (i := j) (j := i) (by rw [homes_len]; omega) (by rw [homes_len]; omega) (by rw [homes_at (by omega), homes_at hi, e])
  omega
theorem box_flt (h : BoxOk E (homesL l) k p) {i : Nat} (hi : i ≤ l.length) : fullN l i < 2 ^ E := full_lt i fun j hj => box_gn h (by omega)
/-- The set of the card that was put back. -/
theorem box_S (h : BoxOk E (homesL l) k p) {S : Nat} (hS : ∀ s : Nat, S.testBit s = true ↔ s < E ∧ FreeS (homesL l) k s) :
    ∃ c : Nat, bits .andNot .i64 ((2 ^ E - 1 : Nat) : Int) (fullN l l.length : Int) = (c : Int) ∧ c < 2 ^ 62 ∧ c ||| 2 ^ gn l k = S := by
  have he := h.e6
  have hk : k < l.length := by have := h.k; rwa [homes_len] at this
  have h62 : 2 ^ E < 2 ^ 62 := Nat.pow_lt_pow_right (by omega) (by omega)
  obtain ⟨c, h1, h2, h3⟩ := andNot_i64 (2 ^ E - 1) (fullN l l.length) (by omega) (Nat.lt_trans (box_flt h (Nat.le_refl _)) h62)
  refine ⟨c, h1, h2, ?_⟩
  apply Nat.eq_of_testBit_eq
  intro s
  rw [bit_or, h3, Nat.testBit_two_pow_sub_one, Bool.eq_iff_iff, hS s, free_gn]
  simp only [Bool.or_eq_true, Bool.and_eq_true, decide_eq_true_eq, Bool.not_eq_true', ← Bool.not_eq_true, full_bit]
  constructor
  · rintro (⟨h4, h5⟩ | rfl)
    · exact ⟨h4, fun j hj _ e => h5 ⟨j, hj, e⟩⟩
    · exact ⟨box_gn h hk, fun j hj hjk e => hjk (h.inj (by rw [homes_len]; exact hj) (by rw [homes_len]; exact hk) (by rw [homes_at hj, homes_at hk, e]))⟩
  · rintro ⟨h4, h5⟩
    by_cases hg : gn l k = s
    · exact .inr hg
    · refine .inl ⟨h4, ?_⟩
      rintro ⟨j, hj, e⟩
      by_cases hjk : j = k
      · subst hjk; exact hg e
      · exact h5 j hj hjk e
/-- What is asked of each entry. -/
structure EntF (S F B full k s W X : Nat) (o : Bool) : Prop where
  share : S.testBit s = true → decide (0 < W) = F.testBit s
  lost : B.testBit s = false → X ≠ 0 ∧ full.testBit s = true
  empty : o = true → X.testBit k = true
theorem box_ent {fs : List Nat} (h : BoxOk E (homesL l) k p) (hl : l ∈ waysL E fs 0) (hn : l.length = fs.length) {S : Nat} (hS : ∀ s : Nat, S.testBit s = true ↔ s < E ∧ FreeS (homesL l) k s) {s : Nat} (hs : s < E) :
    ∃ (X : Nat) (o : Bool), slotE (boxC E (homesL l) k p) s = ((X : Int), o, 0) ∧ X < 2 ^ 5 ∧ EntF S (gn fs k) (bitsN (fun e => decide (lostN E fs e < countL E fs 0)) E) (fullN l l.length) k s (shareL E fs k s) X o := by
  have hk : k < l.length := by have := h.k; rwa [homes_len] at this
  have h5 : l.length ≤ 5 := by have := h.h5; rwa [homes_len] at this
  obtain ⟨X, o, h1, h2, h3, h4⟩ := box_slot h hs
  rw [homes_len] at h2
  refine ⟨X, o, h1, Nat.lt_of_lt_of_le h2 (Nat.pow_le_pow_right (by omega) h5), fun hb => ?_, fun hb => ?_, h4⟩
  · have h6 := free_gn.1 ((hS s).1 hb).2
    rw [Bool.eq_iff_iff, decide_eq_true_eq]
    exact share_law hl (by omega) hs fun j hj hjk => h6 j (by omega) hjk
  · rw [bitsN_bit, decide_eq_true hs, Bool.true_and, decide_eq_false_iff_not] at hb
    have hm := lost_law (e := s) hl (by omega)
    exact ⟨h3 (mem_homes.2 hm), (full_bit l _ s).2 (mem_gn hm)⟩
end
end Go.Proofs.YtbnhngfegnhaiaaGreatDoor
namespace Go.Proofs.YtbnhngfegnhaiaaGreatDoor
open Go.RowKit
set_option linter.unusedVariables false
set_option linter.unusedSimpArgs false
/-- What is known behind the cabinet's making. -/
structure TbxT (m : Mx) (ab : Option Addr) (cb : Nat) (ac : Option Addr) (cc E n k p B : Nat) (l : List Nat) (ah : Option Addr) (ch b3 b16 bl : Nat) (w0 V : World) : Prop where
  le : Below w0.heap.size w0 V
  bx : V.heap[b3]? = some (.cells (m.arr ab cb ac cc) 25 (0, 0))
  h1 : IsBxs V ab m.boxes
  h2 : IsTns V ac m.cards
  hx : V.heap[b16]? = some (.cells #[.int .i64 E, .slice ah n ch, .int .i64 1, .slice (some ⟨bl, 0, none⟩) 2 2] 40 (0, 0))
  gv : Given V (boxC E (homesL l) k p) ah ch (some ⟨bl, 0, none⟩) 2
  ok : m.Ok
  eE : E = m.ents.length
  nE : n = m.cards.length
  ln : l.length = n
  way : l ∈ waysL E m.fits 0
  bo : BoxOk E (homesL l) k p
  bE : B = bitsN (fun e => decide (lostN m.ents.length m.fits e < countL m.ents.length m.fits 0)) m.ents.length
section
variable {m : Mx} {ab ac : Option Addr} {cb cc E n k p B : Nat} {l : List Nat} {ah : Option Addr} {ch b3 b16 bl : Nat} {w0 V : World}
theorem TbxT.mono (h : TbxT m ab cb ac cc E n k p B l ah ch b3 b16 bl w0 V) {V' : World} (hb : Below V.heap.size V V') : TbxT m ab cb ac cc E n k p B l ah ch b3 b16 bl w0 V' :=
  ⟨h.le.trans (hb.mono h.le.size), (hb.block _ (heap_lt h.bx)).trans h.bx, h.h1.mono hb, h.h2.mono hb, (hb.block _ (heap_lt h.hx)).trans h.hx, h.gv.mono hb, h.ok, h.eE, h.nE, h.ln, h.way, h.bo, h.bE⟩
theorem TbxT.k5 (h : TbxT m ab cb ac cc E n k p B l ah ch b3 b16 bl w0 V) : k < n ∧ n ≤ 5 ∧ E ≤ 6 ∧ n = m.fits.length := by
  have h1 := h.bo.h5
  have h2 := h.bo.k
  rw [homes_len, h.ln] at h1 h2
  have h3 := (facts_of h.ok).nc
  exact ⟨h2, h1, h.bo.e6, by rw [h3]; exact h.nE⟩
end
noncomputable def tbx34C : Code := (Tryz.f3.body.bind (fromRegion 34)).getD .skip
set_option maxRecDepth 100000 in
set_option maxHeartbeats 32000000 in
theorem tbx34 {m : Mx} {ab ac : Option Addr} {cb cc E n k p B S F fl : Nat} {l : List Nat} {ah : Option Addr} {ch b3 b16 bl : Nat} {w0 V : World} (hS : TbxT m ab cb ac cc E n k p B l ah ch b3 b16 bl w0 V)
    (hSS : ∀ s : Nat, S.testBit s = true ↔ s < E ∧ FreeS (homesL l) k s) (hfl : fl = fullN l l.length) (hF : F = gn m.fits k) {s0 s1 s2 s4 s5 s6 s8 s9 s10 s12 s13 s15 s17 s18 s20 s21 s22 s23 s24 s26 s27 s29 s30 s31 s32 s33 s34 s35 s36 s37 s38 s39 s40 s41 s42 s43 s44 s45 s46 s47 s48 s49 s50 s51 s52 s53 s54 s55 s56 s57 s58 s59 s60 s61 s62 s63 s64 s65 s66 s67 s68 s69 s70 s71 s72 s73 s74 s75 s76 s77 s78 s79 s80 s81 s82 s83 s84 s85 s86 s87 s88 s89 s90 s91 s92 s93 s94 s95 s96 s97 s98 s99 s100 s101 s102 s103 s104 s105 s106 s107 s108 s109 s110 s111 s112 s113 s114 s115 s116 s117 s118 s119 s120 s121 s122 s123 s124 s125 s126 s127 s128 s129 s130 s131 s132 s133 s134 s135 s136 s137 s138 s139 s140 s141 s142 s143 s144 s145 s146 s147 s148 s149 s150 s151 s152 s153 s154 s155 s156 s157 s158 s159 s160 s161 s162 s163 s164 s165 s166 s167 s168 s169 s170 s171 s172 s173 s174 s175 s176 s177 s178 s179 s180 s181 s182 s183 s184 s185 s186 s187 s188 s189 s190 s191 s192 s193 s194 s195 s196 s197 s198 s199 s200 s201 s202 s203 s204 s205 s206 s207 s208 s209 s210 s211 s212 s213 s214 s215 s216 s217 s218 s219 s220 s221 s222 s223 s224 s225 s226 s227 s228 s229 s230 s231 s232 s233 s234 s235 s236 s237 s238 s239 s240 s241 s242 s243 s244 s245 s246 s247 s248 s249 s250 s251 s252 s253 s254 s255 s256 s257 s258 s259 s260 s261 s262 s263 s264 s265 s266 s267 s268 s269 s270 s271 s272 s273 s274 s275 s276 s277 s278 s279 s280 s281 s282 s283 s284 s285 s286 s287 s288 s289 s290 s291 s292 s293 s294 s295 s296 s297 s298 s299 s300 s301 s302 s303 s304 s305 s306 s307 s308 s309 s310 s311 s312 s313 s314 s315 s316 s317 s318 s319 s320 s321 s322 : Value} :
    Code.wp Tryz.prog tbx34C (bodyPost Tryz.prog Tryz.f3 fun e w' => e = .returned (.bool true) ∧ Below w0.heap.size w0 w') { tmps := List.toArray (s0 :: s1 :: s2 :: .pointer (some ⟨b3, 0, none⟩) :: s4 :: s5 :: s6 :: .int .i64 ((E : Int)) :: s8 :: s9 :: s10 :: .int .i64 ((B : Int)) :: s12 :: s13 :: .int .i64 ((k : Int)) :: s15 :: .pointer (some ⟨b16, 0, none⟩) :: s17 :: s18 :: .int .i64 ((fl : Int)) :: s20 :: s21 :: s22 :: s23 :: s24 :: .int .i64 ((S : Int)) :: s26 :: s27 :: .int .i64 ((F : Int)) :: s29 :: s30 :: s31 :: s32 :: s33 :: s34 :: s35 :: s36 :: s37 :: s38 :: s39 :: s40 :: s41 :: s42 :: s43 :: s44 :: s45 :: s46 :: s47 :: s48 :: s49 :: s50 :: s51 :: s52 :: s53 :: s54 :: s55 :: s56 :: s57 :: s58 :: s59 :: s60 :: s61 :: s62 :: s63 :: s64 :: s65 :: s66 :: s67 :: s68 :: s69 :: s70 :: s71 :: s72 :: s73 :: s74 :: s75 :: s76 :: s77 :: s78 :: s79 :: s80 :: s81 :: s82 :: s83 :: s84 :: s85 :: s86 :: s87 :: s88 :: s89 :: s90 :: s91 :: s92 :: s93 :: s94 :: s95 :: s96 :: s97 :: s98 :: s99 :: s100 :: s101 :: s102 :: s103 :: s104 :: s105 :: s106 :: s107 :: s108 :: s109 :: s110 :: s111 :: s112 :: s113 :: s114 :: s115 :: s116 :: s117 :: s118 :: s119 :: s120 :: s121 :: s122 :: s123 :: s124 :: s125 :: s126 :: s127 :: s128 :: s129 :: s130 :: s131 :: s132 :: s133 :: s134 :: s135 :: s136 :: s137 :: s138 :: s139 :: s140 :: s141 :: s142 :: s143 :: s144 :: s145 :: s146 :: s147 :: s148 :: s149 :: s150 :: s151 :: s152 :: s153 :: s154 :: s155 :: s156 :: s157 :: s158 :: s159 :: s160 :: s161 :: s162 :: s163 :: s164 :: s165 :: s166 :: s167 :: s168 :: s169 :: s170 :: s171 :: s172 :: s173 :: s174 :: s175 :: s176 :: s177 :: s178 :: s179 :: s180 :: s181 :: s182 :: s183 :: s184 :: s185 :: s186 :: s187 :: s188 :: s189 :: s190 :: s191 :: s192 :: s193 :: s194 :: s195 :: s196 :: s197 :: s198 :: s199 :: s200 :: s201 :: s202 :: s203 :: s204 :: s205 :: s206 :: s207 :: s208 :: s209 :: s210 :: s211 :: s212 :: s213 :: s214 :: s215 :: s216 :: s217 :: s218 :: s219 :: s220 :: s221 :: s222 :: s223 :: s224 :: s225 :: s226 :: s227 :: s228 :: s229 :: s230 :: s231 :: s232 :: s233 :: s234 :: s235 :: s236 :: s237 :: s238 :: s239 :: s240 :: s241 :: s242 :: s243 :: s244 :: s245 :: s246 :: s247 :: s248 :: s249 :: s250 :: s251 :: s252 :: s253 :: s254 :: s255 :: s256 :: s257 :: s258 :: s259 :: s260 :: s261 :: s262 :: s263 :: s264 :: s265 :: s266 :: s267 :: s268 :: s269 :: s270 :: s271 :: s272 :: s273 :: s274 :: s275 :: s276 :: s277 :: s278 :: s279 :: s280 :: s281 :: s282 :: s283 :: s284 :: s285 :: s286 :: s287 :: s288 :: s289 :: s290 :: s291 :: s292 :: s293 :: s294 :: s295 :: s296 :: s297 :: s298 :: s299 :: s300 :: s301 :: s302 :: s303 :: s304 :: s305 :: s306 :: s307 :: s308 :: s309 :: s310 :: s311 :: s312 :: s313 :: s314 :: s315 :: s316 :: s317 :: s318 :: s319 :: s320 :: s321 :: s322 :: []), defers := [] } V := by
  obtain ⟨k1, k2, k3, k4⟩ := hS.k5
  have hE64 : 2 ^ E < 2 ^ 62 := Nat.pow_lt_pow_right (by omega) (by omega)
  have hS62 : S < 2 ^ 62 := Nat.lt_trans (Nat.lt_pow_two_of_testBit (n := E) S fun i hi => by
    cases hc : S.testBit i
    · rfl
    · have := ((hSS i).1 hc).1; omega) hE64
  have hB62 : B < 2 ^ 62 := by rw [hS.bE, ← hS.eE]; exact Nat.lt_trans (bitsN_lt _ _) hE64
  have hf62 : fl < 2 ^ 62 := by rw [hfl]; exact Nat.lt_trans (box_flt hS.bo (Nat.le_refl _)) hE64
  have hF62 : F < 2 ^ 62 := by
    have h4 := (facts_of hS.ok).fl k (by omega)
    rw [← hS.eE] at h4
    rw [hF]; exact Nat.lt_trans h4 hE64
  have HS := Lib.hid hS
  have HQ := Lib.hid (And.intro hSS (And.intro hfl hF))
  have HK := Lib.hid (And.intro k1 (And.intro k2 (And.intro k3 k4)))
  have H62 := Lib.hid (And.intro hS62 (And.intro hB62 (And.intro hf62 hF62)))
  have hE6 : (E : Int) ≤ 6 := by omega
  have hk5 : (k : Int) < 5 := by omega
  clear hS hSS hfl hF k1 k2 k3 k4 hE64 hS62 hB62 hf62 hF62
  conv => arg 2; whnf
  refine wp_seq_hid ?_
  intro K34 HK34
  go_wp2_with fail
  go_loopw [253] (fun j wr => ∃ e : Nat, e ≤ E ∧ j = .int .i64 (e : Int) ∧ Hid (Below V.heap.size V wr)) (fun j _ => E - (intOf j).toNat)
  case atStart => exact ⟨0, Nat.zero_le _, rfl, Below.refl _ _⟩
  case round =>
    obtain ⟨e, he, rfl, HW⟩ := hrel
    rename World => wo
    by_cases hlt : e < E
    · have HH := Lib.hid (HS.out.mono HW.out)
      have m0 : wo.cell? ⟨b3, 0, none⟩ = some (.slice ab m.boxes.length cb) := by rw [cell_of_heap HH.out.bx]; rfl
      have m1 : wo.cell? ⟨b3, 1, none⟩ = some (.slice ac m.cards.length cc) := by rw [cell_of_heap HH.out.bx]; rfl
      have hsh := share13 (cb := cb) (cc := cc) (c := k) (e := e) HH.out.ok HH.out.h1 HH.out.h2 (by rw [← HH.out.nE]; exact HK.out.1) (by rw [← HH.out.eE]; exact hlt)
      rw [← HH.out.eE] at hsh
      obtain ⟨X, o, hX, hX5, hen⟩ := box_ent HH.out.bo HH.out.way (show l.length = m.fits.length by rw [HH.out.ln, HK.out.2.2.2]) HQ.out.1 hlt
      rw [← HQ.out.2.1, ← HQ.out.2.2, show bitsN (fun e => decide (lostN E m.fits e < countL E m.fits 0)) E = B by rw [HH.out.bE, HH.out.eE]] at hen
      revert hsh hen
      generalize shareL E m.fits k e = W
      intro hsh hen
      have HSH := Lib.hid hsh
      have HEN := Lib.hid hen
      have HX := Lib.hid (And.intro hX (Nat.lt_trans hX5 (show 2 ^ 5 < 2 ^ 62 by decide)))
      clear hsh hen hX hX5
      go_wp2_with fail
      refine HSH.out.mono ?_
      rintro en wa ⟨rfl, hba⟩
      have HA := Lib.hid (HH.out.mono hba)
      have HBA := Lib.hid (HW.out.trans (hba.mono HW.out.size))
      clear hba m0 m1 HSH HH
      have m0 : wa.cell? ⟨b16, 0, none⟩ = some (.int .i64 E) := by rw [cell_of_heap HA.out.hx]; rfl
      have m1 : wa.cell? ⟨b16, 1, none⟩ = some (.slice ah n ch) := by rw [cell_of_heap HA.out.hx]; rfl
      have m2 : wa.cell? ⟨b16, 2, none⟩ = some (.int .i64 1) := by rw [cell_of_heap HA.out.hx]; rfl
      have m3 : wa.cell? ⟨b16, 3, none⟩ = some (.slice (some ⟨bl, 0, none⟩) 2 2) := by rw [cell_of_heap HA.out.hx]; rfl
      have hnl : (homesL l).length = n := by rw [homes_len, HA.out.ln]
      rw [← hnl] at m1
      have HSL := Lib.hid (slot_any (ch := ch) HA.out.gv (e : Int))
      clear hnl
      go_wp2_with fail
      refine HSL.out.mono ?_
      rintro en wb ⟨rfl, hbb⟩
      rw [HX.out.1]
      have HBB := Lib.hid (HBA.out.trans (hbb.mono HBA.out.size))
      clear hbb m0 m1 m2 m3 HSL HBA HA
      have he6 : (e : Int) < 6 := by omega
      have hS62 := H62.out.1
      have hB62 := H62.out.2.1
      have hf62 := H62.out.2.2.1
      have hF62 := H62.out.2.2.2
      have hX62 := HX.out.2
      cases q1 : S.testBit e
      · have a1 : (bits .and .i64 ((S : Int) / 2 ^ e) 1 == 1) = false := by rw [and_eq_one _ _ hS62, q1]
        cases q3 : B.testBit e
        · have a3 : (bits .and .i64 ((B : Int) / 2 ^ e) 1 == 0) = true := by rw [and_eq_zero _ _ hB62, q3]; rfl
          have x0 : ((X : Int) == 0) = false := by have := (HEN.out.lost q3).1; simp; omega
          have a4 : (bits .and .i64 ((fl : Int) / 2 ^ e) 1 == 0) = false := by rw [and_eq_zero _ _ hf62, (HEN.out.lost q3).2]; rfl
          cases o
          · clear q1 q3
            go_wp2_with fail
            go_roundw
            case rel => exact ⟨e + 1, by omega, by go_num, HBB.out⟩
            case measure => simp [intOf]; omega
          · have a5 : (bits .and .i64 ((X : Int) / 2 ^ k) 1 == 0) = false := by rw [and_eq_zero _ _ hX62, HEN.out.empty rfl]; rfl
            clear q1 q3
            go_wp2_with fail
            go_roundw
            case rel => exact ⟨e + 1, by omega, by go_num, HBB.out⟩
            case measure => simp [intOf]; omega
        · have a3 : (bits .and .i64 ((B : Int) / 2 ^ e) 1 == 0) = false := by rw [and_eq_zero _ _ hB62, q3]; rfl
          cases o
          · clear q1 q3
            go_wp2_with fail
            go_roundw
            case rel => exact ⟨e + 1, by omega, by go_num, HBB.out⟩
            case measure => simp [intOf]; omega
          · have a5 : (bits .and .i64 ((X : Int) / 2 ^ k) 1 == 0) = false := by rw [and_eq_zero _ _ hX62, HEN.out.empty rfl]; rfl
            clear q1 q3
            go_wp2_with fail
            go_roundw
            case rel => exact ⟨e + 1, by omega, by go_num, HBB.out⟩
            case measure => simp [intOf]; omega
      · have a1 : (bits .and .i64 ((S : Int) / 2 ^ e) 1 == 1) = true := by rw [and_eq_one _ _ hS62, q1]
        have w1 := HEN.out.share q1
        cases q2 : F.testBit e
        · have a2 : (bits .and .i64 ((F : Int) / 2 ^ e) 1 == 1) = false := by rw [and_eq_one _ _ hF62, q2]
          rw [q2, decide_eq_false_iff_not] at w1
          obtain rfl : W = 0 := by omega
          clear w1 q2
          cases q3 : B.testBit e
          · have a3 : (bits .and .i64 ((B : Int) / 2 ^ e) 1 == 0) = true := by rw [and_eq_zero _ _ hB62, q3]; rfl
            have x0 : ((X : Int) == 0) = false := by have := (HEN.out.lost q3).1; simp; omega
            have a4 : (bits .and .i64 ((fl : Int) / 2 ^ e) 1 == 0) = false := by rw [and_eq_zero _ _ hf62, (HEN.out.lost q3).2]; rfl
            cases o
            · clear q1 q3
              go_wp2_with fail
              go_roundw
              case rel => exact ⟨e + 1, by omega, by go_num, HBB.out⟩
              case measure => simp [intOf]; omega
            · have a5 : (bits .and .i64 ((X : Int) / 2 ^ k) 1 == 0) = false := by rw [and_eq_zero _ _ hX62, HEN.out.empty rfl]; rfl
              clear q1 q3
              go_wp2_with fail
              go_roundw
              case rel => exact ⟨e + 1, by omega, by go_num, HBB.out⟩
              case measure => simp [intOf]; omega
          · have a3 : (bits .and .i64 ((B : Int) / 2 ^ e) 1 == 0) = false := by rw [and_eq_zero _ _ hB62, q3]; rfl
            cases o
            · clear q1 q3
              go_wp2_with fail
              go_roundw
              case rel => exact ⟨e + 1, by omega, by go_num, HBB.out⟩
              case measure => simp [intOf]; omega
            · have a5 : (bits .and .i64 ((X : Int) / 2 ^ k) 1 == 0) = false := by rw [and_eq_zero _ _ hX62, HEN.out.empty rfl]; rfl
              clear q1 q3
              go_wp2_with fail
              go_roundw
              case rel => exact ⟨e + 1, by omega, by go_num, HBB.out⟩
              case measure => simp [intOf]; omega
        · have a2 : (bits .and .i64 ((F : Int) / 2 ^ e) 1 == 1) = true := by rw [and_eq_one _ _ hF62, q2]
          rw [q2, decide_eq_true_eq] at w1
          have w2 : (0 : Int) < (W : Int) := by omega
          clear q2
          cases q3 : B.testBit e
          · have a3 : (bits .and .i64 ((B : Int) / 2 ^ e) 1 == 0) = true := by rw [and_eq_zero _ _ hB62, q3]; rfl
            have x0 : ((X : Int) == 0) = false := by have := (HEN.out.lost q3).1; simp; omega
            have a4 : (bits .and .i64 ((fl : Int) / 2 ^ e) 1 == 0) = false := by rw [and_eq_zero _ _ hf62, (HEN.out.lost q3).2]; rfl
            cases o
            · clear q1 q3
              go_wp2_with fail
              go_roundw
              case rel => exact ⟨e + 1, by omega, by go_num, HBB.out⟩
              case measure => simp [intOf]; omega
            · have a5 : (bits .and .i64 ((X : Int) / 2 ^ k) 1 == 0) = false := by rw [and_eq_zero _ _ hX62, HEN.out.empty rfl]; rfl
              clear q1 q3
              go_wp2_with fail
              go_roundw
              case rel => exact ⟨e + 1, by omega, by go_num, HBB.out⟩
              case measure => simp [intOf]; omega
          · have a3 : (bits .and .i64 ((B : Int) / 2 ^ e) 1 == 0) = false := by rw [and_eq_zero _ _ hB62, q3]; rfl
            cases o
            · clear q1 q3
              go_wp2_with fail
              go_roundw
              case rel => exact ⟨e + 1, by omega, by go_num, HBB.out⟩
              case measure => simp [intOf]; omega
            · have a5 : (bits .and .i64 ((X : Int) / 2 ^ k) 1 == 0) = false := by rw [and_eq_zero _ _ hX62, HEN.out.empty rfl]; rfl
              clear q1 q3
              go_wp2_with fail
              go_roundw
              case rel => exact ⟨e + 1, by omega, by go_num, HBB.out⟩
              case measure => simp [intOf]; omega
    · have hee : e = E := by omega
      subst hee
      go_wp2_with fail
      refine HK34.out _ _ ?_
      clear HK34
      have HAW := Lib.hid awake5
      have HLE := Lib.hid (HS.out.le.trans (HW.out.mono HS.out.le.size))
      go_wp2_with fail
      refine (HAW.out _).mono ?_
      rintro en w6 ⟨rfl, hb6⟩
      have HD : Hid (Below w0.heap.size w0 w6) := HLE.out.trans (hb6.mono HLE.out.size)
      clear hb6
      go_wp2_with fail
      go_ret
      exact ⟨rfl, HD.out⟩
end Go.Proofs.YtbnhngfegnhaiaaGreatDoor
