/- The reference's counts, sets and spans: plain Lean. The reference's states, and where it is best to look: plain Lean. The law LendNext: plain Lean. -/
import Derived.Test.YtlhobddaojdnoaaL5
import Derived.Test.YtlhobddaojdnoaaW21
namespace Go.Proofs.Ytlhobddaojdnoaa

abbrev Tr := List Int × List Bool
def cntU (T : List Tr) (p : Tr → Bool) (k : Nat) : Nat := (T.take k).countP p
theorem cntU_zero (T : List Tr) (p : Tr → Bool) : cntU T p 0 = 0 := rfl
theorem cntU_succ {T : List Tr} {p : Tr → Bool} {k : Nat} {x : Tr} (h : T[k]? = some x) : cntU T p (k + 1) = cntU T p k + if p x then 1 else 0 := by
  have hlt := List.getElem?_eq_some_iff.1 h
  unfold cntU
  rw [List.take_succ_eq_append_getElem hlt.1, List.countP_append, hlt.2]
  simp
theorem cntU_le (T : List Tr) (p : Tr → Bool) (k : Nat) : cntU T p k ≤ T.length := by
  refine Nat.le_trans List.countP_le_length ?_
  rw [List.length_take]; omega
def allB (T : List Tr) (p : Tr → Bool) : Bool := decide (cntU T p T.length = T.length)
def someB (T : List Tr) (p : Tr → Bool) : Bool := decide (0 < cntU T p T.length)
theorem allB_iff (T : List Tr) (p : Tr → Bool) : allB T p = true ↔ ∀ x ∈ T, p x = true := by
  unfold allB cntU
  rw [List.take_length, decide_eq_true_eq, List.countP_eq_length]
theorem someB_iff (T : List Tr) (p : Tr → Bool) : someB T p = true ↔ ∃ x ∈ T, p x = true := by
  unfold someB cntU
  rw [List.take_length, decide_eq_true_eq, List.countP_pos_iff]
def allU (T : List Tr) (P : Nat → Tr → Bool) (i : Nat) : Nat := bitsOf ((List.range i).filter fun j => allB T (P j))
def someU (T : List Tr) (P : Nat → Tr → Bool) (i : Nat) : Nat := bitsOf ((List.range i).filter fun j => someB T (P j))
theorem allU_succ (T : List Tr) (P : Nat → Tr → Bool) (i : Nat) : allU T P (i + 1) = if allB T (P i) = true then allU T P i ||| 2 ^ i else allU T P i := by
  unfold allU
  rw [List.range_succ, List.filter_append]
  by_cases h : allB T (P i) = true
  · rw [if_pos h]; simp [h, bitsOf_snoc]
  · rw [if_neg h]; simp [h]
theorem someU_succ (T : List Tr) (P : Nat → Tr → Bool) (i : Nat) : someU T P (i + 1) = if someB T (P i) = true then someU T P i ||| 2 ^ i else someU T P i := by
  unfold someU
  rw [List.range_succ, List.filter_append]
  by_cases h : someB T (P i) = true
  · rw [if_pos h]; simp [h, bitsOf_snoc]
  · rw [if_neg h]; simp [h]
theorem allU_small (T : List Tr) (P : Nat → Tr → Bool) {i : Nat} (h : i ≤ 20) : allU T P i ≤ 1048576 := by
  have : allU T P i < 2 ^ 20 := bitsOf_lt (fun k hk => by have := List.mem_range.1 (List.mem_filter.1 hk).1; omega)
  omega
theorem someU_small (T : List Tr) (P : Nat → Tr → Bool) {i : Nat} (h : i ≤ 20) : someU T P i ≤ 1048576 := by
  have : someU T P i < 2 ^ 20 := bitsOf_lt (fun k hk => by have := List.mem_range.1 (List.mem_filter.1 hk).1; omega)
  omega
theorem allU_test (T : List Tr) (P : Nat → Tr → Bool) (n i : Nat) : (allU T P n).testBit i = true ↔ i < n ∧ ∀ x ∈ T, P i x = true := by
  unfold allU
  rw [bitsOf_test, decide_eq_true_eq, List.mem_filter, List.mem_range, allB_iff]
theorem someU_test (T : List Tr) (P : Nat → Tr → Bool) (n i : Nat) : (someU T P n).testBit i = true ↔ i < n ∧ ∃ x ∈ T, P i x = true := by
  unfold someU
  rw [bitsOf_test, decide_eq_true_eq, List.mem_filter, List.mem_range, someB_iff]
theorem eq_of_test {a b : Nat} (h : ∀ i, a.testBit i = true ↔ b.testBit i = true) : a = b := by
  apply Nat.eq_of_testBit_eq
  intro i
  rw [Bool.eq_iff_iff]
  exact h i

/-! ### loans that put a card back wrong -/
def wrongP (i : Nat) (x : Tr) : Bool := gb x.2 i
theorem truth_wrong {c : Cab} {x : Tr} (hx : x ∈ truths c) {i : Nat} (h : gb x.2 i = true) : i < c.loans.length ∧ (gl c.loans i).kind = 1 :=
  wrong_back c.loans c.homes x.1 x.2 (truthsBy_mem.1 (show (x.1, x.2) ∈ truthsBy c anyRule c.loans c.wrong from hx)).1 i h
theorem surely_eq {c : Cab} (hT : truths c ≠ []) : allU (truths c) wrongP c.loans.length = surelyS c := by
  refine eq_of_test (fun i => ?_)
  rw [allU_test, surely_test]
  constructor
  · rintro ⟨h1, h2⟩
    obtain ⟨x, hx⟩ := List.exists_mem_of_ne_nil _ hT
    exact ⟨h1, (truth_wrong hx (h2 x hx)).2, fun t bs hb => h2 (t, bs) hb⟩
  · rintro ⟨h1, _, h3⟩
    exact ⟨h1, fun x hx => h3 x.1 x.2 hx⟩
theorem can_eq {c : Cab} : someU (truths c) wrongP c.loans.length = canS c := by
  refine eq_of_test (fun i => ?_)
  rw [someU_test, can_test]
  constructor
  · rintro ⟨h1, x, hx, h2⟩
    exact ⟨h1, x.1, x.2, hx, h2⟩
  · rintro ⟨h1, t, bs, hb, h2⟩
    exact ⟨h1, (t, bs), hb, h2⟩

/-! ### persons that did -/
def didP (c : Cab) (p : Nat) (x : Tr) : Bool := (List.range c.loans.length).any fun i => gb x.2 i && decide ((gl c.loans i).person = (p : Int))
theorem didP_iff {c : Cab} {p : Nat} {x : Tr} : didP c p x = true ↔ ∃ i, i < c.loans.length ∧ (gl c.loans i).person = (p : Int) ∧ gb x.2 i = true := by
  unfold didP
  simp only [List.any_eq_true, List.mem_range, Bool.and_eq_true, decide_eq_true_eq]
  exact ⟨fun ⟨i, h1, h2, h3⟩ => ⟨i, h1, h3, h2⟩, fun ⟨i, h1, h2, h3⟩ => ⟨i, h1, h3, h2⟩⟩
theorem own_eq {c : Cab} : allU (truths c) (didP c) 8 = ownS c := by
  refine eq_of_test (fun i => ?_)
  rw [allU_test, own_test]
  constructor
  · rintro ⟨h1, h2⟩
    exact ⟨h1, fun t bs hb => didP_iff.1 (h2 (t, bs) hb)⟩
  · rintro ⟨h1, h2⟩
    exact ⟨h1, fun x hx => didP_iff.2 (h2 x.1 x.2 hx)⟩
theorem may_eq {c : Cab} (hv : c.valid = true) : someU (truths c) (didP c) 8 = mayS c := by
  refine eq_of_test (fun p => ?_)
  rw [someU_test, may_test]
  constructor
  · rintro ⟨h1, x, hx, h2⟩
    obtain ⟨i, h3, h4, h5⟩ := didP_iff.1 h2
    exact ⟨i, can_test.2 ⟨h3, x.1, x.2, hx, h5⟩, by rw [h4]; simp⟩
  · rintro ⟨i, h1, h2⟩
    have hk := can_kind h1
    obtain ⟨h3, t, bs, hb, h4⟩ := can_test.1 h1
    have hr := person_rng hv h3 hk
    exact ⟨by omega, (t, bs), hb, didP_iff.2 ⟨i, h3, by omega, h4⟩⟩

/-! ### spans -/
def loU (l : List Nat) (k : Nat) : Nat := (l.take k).foldl min (l.headD 0)
def hiU (l : List Nat) (k : Nat) : Nat := (l.take k).foldl max (l.headD 0)
theorem loU_succ {l : List Nat} {k v : Nat} (h : l[k]? = some v) : loU l (k + 1) = min (loU l k) v := by
  have hlt := List.getElem?_eq_some_iff.1 h
  unfold loU
  rw [List.take_succ_eq_append_getElem hlt.1, List.foldl_append, hlt.2]
  rfl
theorem hiU_succ {l : List Nat} {k v : Nat} (h : l[k]? = some v) : hiU l (k + 1) = max (hiU l k) v := by
  have hlt := List.getElem?_eq_some_iff.1 h
  unfold hiU
  rw [List.take_succ_eq_append_getElem hlt.1, List.foldl_append, hlt.2]
  rfl
theorem loU_all {l : List Nat} (h : l ≠ []) : loU l l.length = minL l := by
  unfold loU
  rw [List.take_length]
  cases l with
  | nil => exact absurd rfl h
  | cons x l => simp [minL]
theorem hiU_all {l : List Nat} (h : l ≠ []) : hiU l l.length = maxL l := by
  unfold hiU
  rw [List.take_length]
  cases l with
  | nil => exact absurd rfl h
  | cons x l => simp [maxL]
end Go.Proofs.Ytlhobddaojdnoaa

namespace Go.Proofs.Ytlhobddaojdnoaa

def seenIn (F : List Tr) (x : Tr) : Bool := F.any fun y => decide (y.1 = x.1)
def addFirst (F : List Tr) (x : Tr) : List Tr := if seenIn F x = true then F else F ++ [x]
def firstsTo (T : List Tr) (k : Nat) : List Tr := (T.take k).foldl addFirst []
theorem firstsTo_succ {T : List Tr} {k : Nat} {x : Tr} (h : T[k]? = some x) : firstsTo T (k + 1) = addFirst (firstsTo T k) x := by
  have hlt := List.getElem?_eq_some_iff.1 h
  unfold firstsTo
  rw [List.take_succ_eq_append_getElem hlt.1, List.foldl_append, hlt.2]
  rfl
theorem seenIn_iff {F : List Tr} {x : Tr} : seenIn F x = true ↔ x.1 ∈ F.map (·.1) := by
  unfold seenIn
  simp only [List.any_eq_true, decide_eq_true_eq, List.mem_map]
theorem firstsTo_le (T : List Tr) : ∀ k, (firstsTo T k).length ≤ k
  | 0 => by simp [firstsTo]
  | k + 1 => by
    cases h : T[k]? with
    | none =>
      have hk := List.getElem?_eq_none_iff.1 h
      have : firstsTo T (k + 1) = firstsTo T k := by unfold firstsTo; rw [List.take_of_length_le (by omega), List.take_of_length_le hk]
      rw [this]
      have := firstsTo_le T k
      omega
    | some x =>
      rw [firstsTo_succ h]
      have := firstsTo_le T k
      unfold addFirst
      split
      · omega
      · simp; omega
theorem firstsTo_spec (T : List Tr) : ∀ k, k ≤ T.length → ((firstsTo T k).map (·.1)).Nodup ∧ (∀ x ∈ firstsTo T k, x ∈ T) ∧ ∀ x ∈ T.take k, x.1 ∈ (firstsTo T k).map (·.1)
  | 0, _ => by simp [firstsTo]
  | k + 1, hk => by
    obtain ⟨h1, h2, h3⟩ := firstsTo_spec T k (by omega)
    have hx : T[k]? = some T[k] := List.getElem?_eq_getElem (by omega)
    rw [firstsTo_succ hx]
    have ht : T.take (k + 1) = T.take k ++ [T[k]] := List.take_succ_eq_append_getElem (by omega)
    unfold addFirst
    by_cases hs : seenIn (firstsTo T k) T[k] = true
    · rw [if_pos hs]
      refine ⟨h1, h2, fun x hx => ?_⟩
      rw [ht, List.mem_append, List.mem_singleton] at hx
      rcases hx with hx | rfl
      · exact h3 x hx
      · exact seenIn_iff.1 hs
    · rw [if_neg hs]
      refine ⟨?_, fun x hx => ?_, fun x hx => ?_⟩
      · rw [List.map_append, List.nodup_append]
        refine ⟨h1, by simp, fun a ha b hb he => ?_⟩
        simp only [List.map_cons, List.map_nil, List.mem_singleton] at hb
        subst hb
        subst he
        exact hs (seenIn_iff.2 ha)
      · rw [List.mem_append, List.mem_singleton] at hx
        rcases hx with hx | rfl
        · exact h2 x hx
        · exact List.getElem_mem _
      · rw [ht, List.mem_append, List.mem_singleton] at hx
        rw [List.map_append, List.mem_append]
        rcases hx with hx | rfl
        · exact .inl (h3 x hx)
        · exact .inr (by simp)
def firsts (T : List Tr) : List Tr := firstsTo T T.length
theorem firsts_mem {T : List Tr} {x : Tr} (h : x ∈ firsts T) : x ∈ T := (firstsTo_spec T T.length (Nat.le_refl _)).2.1 x h
theorem firsts_perm (c : Cab) : ((firsts (truths c)).map (·.1)).Perm (states c) := by
  obtain ⟨h1, h2, h3⟩ := firstsTo_spec (truths c) _ (Nat.le_refl _)
  rw [List.take_length] at h3
  refine states_perm h1 (fun t => ?_)
  constructor
  · intro ht
    obtain ⟨x, hx, rfl⟩ := List.mem_map.1 ht
    exact ⟨x.2, h2 x hx⟩
  · rintro ⟨bs, hb⟩
    exact h3 (t, bs) hb
theorem firsts_ne {T : List Tr} (h : T ≠ []) : firsts T ≠ [] := by
  obtain ⟨x, hx⟩ := List.exists_mem_of_ne_nil _ h
  have := (firstsTo_spec T _ (Nat.le_refl _)).2.2 x (by rw [List.take_length]; exact hx)
  intro he
  unfold firsts at he
  rw [he] at this
  simp at this

/-! ### how many are left -/
def cntL (F : List Tr) (s card : Int) (k : Nat) : Nat := cntU F (fun x => decide (lies x.1 s = card)) k
def rworst (F : List Tr) (s : Int) (m : Nat) : Nat := maxL ((List.range m).map fun (j : Nat) => cntL F s ((j : Int) - 1) F.length)
theorem rworst_succ (F : List Tr) (s : Int) (m : Nat) : rworst F s (m + 1) = max (rworst F s m) (cntL F s ((m : Int) - 1) F.length) := by
  unfold rworst
  rw [List.range_succ, List.map_append, List.map_cons, List.map_nil, maxL_snoc]
theorem rworst_eq {F : List Tr} {s : Int} {m : Nat} (h : ∀ x ∈ F, -1 ≤ lies x.1 s ∧ lies x.1 s + 1 < m) : rworst F s m = worst (F.map (·.1)) s := by
  have hc : ∀ card : Int, cntL F s card F.length = (F.map (·.1)).countP fun b => decide (lies b s = card) := fun card => by
    unfold cntL cntU
    rw [List.take_length, List.countP_map]
    rfl
  apply Nat.le_antisymm
  · unfold rworst
    rw [maxL_le]
    intro y hy
    obtain ⟨j, hj, rfl⟩ := List.mem_map.1 hy
    rw [hc]
    by_cases h0 : 0 < (F.map (·.1)).countP fun b => decide (lies b s = (j : Int) - 1)
    · obtain ⟨a, ha, hla⟩ := List.countP_pos_iff.1 h0
      rw [decide_eq_true_eq] at hla
      have := maxL_le.1 (Nat.le_refl (worst (F.map (·.1)) s)) _ (List.mem_map.2 ⟨a, ha, rfl⟩)
      rw [hla] at this
      exact this
    · omega
  · unfold worst
    rw [maxL_le]
    intro y hy
    obtain ⟨a, ha, rfl⟩ := List.mem_map.1 hy
    obtain ⟨x, hx, rfl⟩ := List.mem_map.1 ha
    have hr := h x hx
    have := maxL_le.1 (Nat.le_refl (rworst F s m)) (cntL F s (((lies x.1 s + 1).toNat : Int) - 1) F.length) (List.mem_map.2 ⟨(lies x.1 s + 1).toNat, List.mem_range.2 (by omega), rfl⟩)
    rw [hc, show (((lies x.1 s + 1).toNat : Nat) : Int) - 1 = lies x.1 s by omega] at this
    exact this
theorem rworst_le (F : List Tr) (s : Int) (m : Nat) : rworst F s m ≤ F.length := by
  unfold rworst
  rw [maxL_le]
  intro y hy
  obtain ⟨j, _, rfl⟩ := List.mem_map.1 hy
  exact cntU_le _ _ _
def best (F : List Tr) (m : Nat) : Nat → Nat → Nat → Nat → Int × Int
  | 0, _, b, left => ((b : Int), (left : Int))
  | f + 1, s, b, left => if rworst F (s : Int) m < left then best F m f (s + 1) s (rworst F (s : Int) m) else best F m f (s + 1) b left
theorem best_eq {F : List Tr} {m : Nat} (h : ∀ (s : Int), ∀ x ∈ F, -1 ≤ lies x.1 s ∧ lies x.1 s + 1 < m) : ∀ (f s b left : Nat), best F m f s b left = nextFrom (F.map (·.1)) f s b left
  | 0, _, _, _ => rfl
  | f + 1, s, b, left => by
    unfold best nextFrom
    rw [rworst_eq (h s), best_eq h, best_eq h]
theorem truths_lies {c : Cab} (hv : c.valid = true) (s : Int) : ∀ x ∈ firsts (truths c), -1 ≤ lies x.1 s ∧ lies x.1 s + 1 < ((c.homes.length + 1 : Nat) : Int) := by
  intro x hx
  have hs := truth_st hv (r := anyRule) (ls := c.loans) (W := c.wrong) (t := x.1) (bs := x.2) (firsts_mem hx)
  have := lies_range hs s
  omega
theorem next_one {c : Cab} (h0 : openE c true = 0) (h1 : (firsts (truths c)).length = 1) : nextE c = (0, 0, 4) := by
  have hl : (states c).length = 1 := by rw [← (firsts_perm c).length_eq, List.length_map, h1]
  unfold nextE
  simp only [h0, if_true, hl]
  rfl
theorem next_more {c : Cab} (hv : c.valid = true) (h0 : openE c true = 0) (hT : truths c ≠ []) (h1 : (firsts (truths c)).length ≠ 1) :
    nextE c = ((best (firsts (truths c)) (c.homes.length + 1) c.slots.toNat 0 0 ((firsts (truths c)).length + 1)).1, (best (firsts (truths c)) (c.homes.length + 1) c.slots.toNat 0 0 ((firsts (truths c)).length + 1)).2, 0) := by
  have hl : (states c).length = (firsts (truths c)).length := by rw [← (firsts_perm c).length_eq, List.length_map]
  have hn : 0 < (firsts (truths c)).length := List.length_pos_iff.2 (firsts_ne hT)
  rw [best_eq (fun s => truths_lies hv s), nextFrom_perm (firsts_perm c)]
  unfold nextE
  simp only [h0, if_true, hl]
  rw [if_neg (by omega)]
end Go.Proofs.Ytlhobddaojdnoaa

namespace Go.Proofs.Ytlhobddaojdnoaa

/-- At most one bit. -/
theorem one_bit : ∀ (n : Nat), n &&& (n - 1) = 0 → ∀ a b, n.testBit a = true → n.testBit b = true → a = b := by
  intro n
  induction n using Nat.strongRecOn with
  | ind n ih =>
    intro h a b ha hb
    have h0 : n ≠ 0 := fun e => by rw [e] at ha; simp at ha
    by_cases h2 : n % 2 = 0
    · obtain ⟨m, rfl⟩ : ∃ m, n = 2 * m := ⟨n / 2, by omega⟩
      have hm : m &&& (m - 1) = 0 := by
        apply Nat.eq_of_testBit_eq
        intro i
        have : (2 * m &&& (2 * m - 1)).testBit (i + 1) = (0 : Nat).testBit (i + 1) := by rw [h]
        rw [Nat.testBit_and, Nat.testBit_succ, Nat.testBit_succ, Nat.zero_testBit, show 2 * m / 2 = m by omega, show (2 * m - 1) / 2 = m - 1 by omega] at this
        rw [Nat.testBit_and, Nat.zero_testBit]
        exact this
      have bit0 : (2 * m).testBit 0 = false := by simp [Nat.testBit_zero]
      cases a with
      | zero => rw [bit0] at ha; cases ha
      | succ a =>
        cases b with
        | zero => rw [bit0] at hb; cases hb
        | succ b =>
          rw [Nat.testBit_succ, show 2 * m / 2 = m by omega] at ha hb
          have := ih m (by omega) hm a b ha hb
          omega
    · obtain ⟨m, rfl⟩ : ∃ m, n = 2 * m + 1 := ⟨n / 2, by omega⟩
      have hm : m = 0 := by
        apply Nat.eq_of_testBit_eq
        intro i
        have : (2 * m + 1 &&& (2 * m + 1 - 1)).testBit (i + 1) = (0 : Nat).testBit (i + 1) := by rw [h]
        rw [Nat.testBit_and, Nat.testBit_succ, Nat.testBit_succ, Nat.zero_testBit, show (2 * m + 1) / 2 = m by omega, show (2 * m + 1 - 1) / 2 = m by omega] at this
        simpa using this
      subst hm
      have one : ∀ i, (2 * 0 + 1).testBit i = true → i = 0 := fun i hi => by
        cases i with
        | zero => rfl
        | succ i => rw [Nat.testBit_succ] at hi; simp at hi
      rw [one a ha, one b hb]
theorem pow_bit (v : Nat) : 2 ^ v &&& (2 ^ v - 1) = 0 := by
  rw [Nat.and_two_pow_sub_one_eq_mod]; simp

/-- Is a card's place known? -/
def cardK (c : Cab) (i : Nat) : Bool := decide (setL (whereL c i) = 0) || (decide (setL (whereL c i) &&& (setL (whereL c i) - 1) = 0) && !outL (whereL c i))
def knownB (c : Cab) (k : Nat) : Bool := (List.range k).all (cardK c)
theorem knownB_succ (c : Cab) (k : Nat) : knownB c (k + 1) = (knownB c k && cardK c k) := by
  unfold knownB; rw [List.range_succ, List.all_append]; simp
theorem dedup_one {l : List (List Int)} {t : List Int} (hne : l ≠ []) (h : ∀ x ∈ l, x = t) : (dedup l).length = 1 := by
  have hn := dedup_nodup l
  have hm := dedup_mem l
  cases hd : dedup l with
  | nil =>
    obtain ⟨x, hx⟩ := List.exists_mem_of_ne_nil _ hne
    have := (hm x).2 hx
    rw [hd] at this
    simp at this
  | cons a r =>
    cases r with
    | nil => rfl
    | cons b r =>
      rw [hd] at hn
      have ha : a = t := h a ((hm a).1 (by rw [hd]; simp))
      have hb : b = t := h b ((hm b).1 (by rw [hd]; simp))
      rw [ha, hb] at hn
      simp at hn
theorem states_same {c : Cab} (h : (states c).length = 1) {t u : List Int} {bs cs : List Bool} (ht : (t, bs) ∈ truths c) (hu : (u, cs) ∈ truths c) : t = u := by
  obtain ⟨a, ha⟩ := List.length_eq_one_iff.1 h
  have m : ∀ t bs, (t, bs) ∈ truths c → t = a := fun t bs hb => by
    have : t ∈ states c := (dedup_mem _ _).2 (List.mem_map.2 ⟨(t, bs), hb, rfl⟩)
    rw [ha] at this
    simpa using this
  rw [m t bs ht, m u cs hu]
theorem known_one {c : Cab} (hv : c.valid = true) (h : (states c).length = 1) : knownB c c.homes.length = true := by
  unfold knownB
  rw [List.all_eq_true]
  intro i hi
  have hi' : i < c.homes.length := List.mem_range.1 hi
  unfold cardK
  by_cases h0 : setL (whereL c i) = 0
  · simp [h0]
  · obtain ⟨k, hk⟩ : ∃ k, (setL (whereL c i)).testBit k = true := by
      false_or_by_contra
      rename_i hc
      apply h0
      apply Nat.eq_of_testBit_eq
      intro k
      rw [Nat.zero_testBit]
      cases hb : (setL (whereL c i)).testBit k with
      | false => rfl
      | true => exact absurd ⟨k, hb⟩ hc
    obtain ⟨t, bs, ht, hg⟩ := (where_test hv hi').1 hk
    have hset : setL (whereL c i) = 2 ^ k := by
      apply Nat.eq_of_testBit_eq
      intro j
      rw [Nat.testBit_two_pow]
      rw [Bool.eq_iff_iff]
      constructor
      · intro hj
        obtain ⟨u, cs, hu, hgu⟩ := (where_test hv hi').1 hj
        have := states_same h ht hu
        subst this
        rw [hg] at hgu
        simp; omega
      · intro hj
        have : k = j := by simpa using hj
        subst this
        exact hk
    have hout : outL (whereL c i) = false := by
      cases ho : outL (whereL c i) with
      | false => rfl
      | true =>
        obtain ⟨u, cs, hu, hgu⟩ := where_out.1 ho
        have := states_same h ht hu
        subst this
        rw [hg] at hgu
        omega
    rw [hset, hout, pow_bit]
    simp
theorem known_more {c : Cab} (hv : c.valid = true) (hT : truths c ≠ []) (h : (states c).length ≠ 1) : knownB c c.homes.length = false := by
  cases hk : knownB c c.homes.length with
  | false => rfl
  | true =>
    exfalso
    apply h
    obtain ⟨x, hx⟩ := List.exists_mem_of_ne_nil _ hT
    unfold states
    refine dedup_one (t := x.1) (by simp [hT]) (fun t ht => ?_)
    obtain ⟨y, hy, rfl⟩ := List.mem_map.1 ht
    have sx := truth_st hv (r := anyRule) (ls := c.loans) (W := c.wrong) (t := x.1) (bs := x.2) hx
    have sy := truth_st hv (r := anyRule) (ls := c.loans) (W := c.wrong) (t := y.1) (bs := y.2) hy
    refine List.ext_getElem (by rw [sx.len, sy.len]) (fun i h1 h2 => ?_)
    have hi : i < c.homes.length := by rw [← sy.len]; exact h1
    have hc : cardK c i = true := (List.all_eq_true.1 hk) i (List.mem_range.2 hi)
    have gx := sx.bd i h2
    have gy := sy.bd i h1
    have e : gi y.1 i = gi x.1 i := by
      have val : ∀ z : Tr, z ∈ truths c → -1 ≤ gi z.1 i → (gi z.1 i ≠ -1 → (setL (whereL c i)).testBit (gi z.1 i).toNat = true) := fun z hz hg hne =>
        (where_test hv hi).2 ⟨z.1, z.2, hz, by omega⟩
      unfold cardK at hc
      simp only [Bool.or_eq_true, decide_eq_true_eq, Bool.and_eq_true, Bool.not_eq_true'] at hc
      rcases hc with hc | ⟨hc, ho⟩
      · have out : ∀ z : Tr, z ∈ truths c → -1 ≤ gi z.1 i → gi z.1 i = -1 := fun z hz hg => by
          false_or_by_contra
          rename_i hne
          have := val z hz hg hne
          rw [hc] at this
          simp at this
        rw [out x hx gx.1, out y hy gy.1]
      · have inn : ∀ z : Tr, z ∈ truths c → -1 ≤ gi z.1 i → gi z.1 i ≠ -1 := fun z hz hg he => by
          have := where_out (c := c) (card := i) |>.2 ⟨z.1, z.2, hz, he⟩
          rw [ho] at this
          cases this
        have := one_bit _ hc _ _ (val x hx gx.1 (inn x hx gx.1)) (val y hy gy.1 (inn y hy gy.1))
        have := inn x hx gx.1
        have := inn y hy gy.1
        omega
    simpa [gi, h1, h2] using e
theorem best_spec (F : List Tr) (m : Nat) : ∀ (f s b left : Nat), b < s → rworst F (b : Int) m = left → (∀ k, k < s → left < rworst F (k : Int) m ∨ rworst F (k : Int) m = left ∧ b ≤ k) →
    ∃ b' left' : Nat, best F m f s b left = ((b' : Int), (left' : Int)) ∧ b' < s + f ∧ rworst F (b' : Int) m = left' ∧ ∀ k, k < s + f → left' < rworst F (k : Int) m ∨ rworst F (k : Int) m = left' ∧ b' ≤ k
  | 0, s, b, left, h1, h2, h3 => ⟨b, left, rfl, by omega, h2, fun k hk => h3 k (by omega)⟩
  | f + 1, s, b, left, h1, h2, h3 => by
    unfold best
    by_cases h : rworst F (s : Int) m < left
    · rw [if_pos h]
      obtain ⟨b', left', g1, g2, g3, g4⟩ := best_spec F m f (s + 1) s _ (by omega) rfl (fun k hk => by
        by_cases e : k = s
        · subst e; exact .inr ⟨rfl, Nat.le_refl _⟩
        · rcases h3 k (by omega) with h5 | ⟨h5, _⟩ <;> left <;> omega)
      exact ⟨b', left', g1, by omega, g3, fun k hk => g4 k (by omega)⟩
    · rw [if_neg h]
      obtain ⟨b', left', g1, g2, g3, g4⟩ := best_spec F m f (s + 1) b left (by omega) h2 (fun k hk => by
        by_cases e : k = s
        · subst e
          rcases Nat.lt_or_ge left (rworst F (k : Int) m) with h5 | h5
          · exact .inl h5
          · exact .inr ⟨by omega, by omega⟩
        · exact h3 k (by omega))
      exact ⟨b', left', g1, by omega, g3, fun k hk => g4 k (by omega)⟩
theorem rworst_pos {F : List Tr} {s : Int} {m : Nat} (hF : F ≠ []) (h : ∀ x ∈ F, -1 ≤ lies x.1 s ∧ lies x.1 s + 1 < m) : 1 ≤ rworst F s m := by
  obtain ⟨x, hx⟩ := List.exists_mem_of_ne_nil _ hF
  have hr := h x hx
  have := maxL_le.1 (Nat.le_refl (rworst F s m)) (cntL F s (((lies x.1 s + 1).toNat : Int) - 1) F.length) (List.mem_map.2 ⟨(lies x.1 s + 1).toNat, List.mem_range.2 (by omega), rfl⟩)
  have h2 : 0 < cntL F s (((lies x.1 s + 1).toNat : Int) - 1) F.length := by
    unfold cntL cntU
    rw [List.take_length, List.countP_pos_iff]
    exact ⟨x, hx, by simp; omega⟩
  omega
theorem next_spec {c : Cab} (hv : c.valid = true) (hT : truths c ≠ []) (h1 : (firsts (truths c)).length ≠ 1) :
    ∃ b left : Nat, nextE c = ((b : Int), (left : Int), 0) ∧ (b : Int) < c.slots ∧ 1 ≤ left ∧ left ≤ (firsts (truths c)).length ∧ rworst (firsts (truths c)) (b : Int) (c.homes.length + 1) = left ∧
      ∀ k : Nat, (k : Int) < c.slots → left < rworst (firsts (truths c)) (k : Int) (c.homes.length + 1) ∨ rworst (firsts (truths c)) (k : Int) (c.homes.length + 1) = left ∧ b ≤ k := by
  have hs := valid_slots hv
  obtain ⟨S, hS⟩ : ∃ S, c.slots.toNat = S + 1 := ⟨c.slots.toNat - 1, by omega⟩
  rw [next_more hv (openE_yes hv hT) hT h1, hS]
  unfold best
  have hle := rworst_le (firsts (truths c)) ((0 : Nat) : Int) (c.homes.length + 1)
  rw [if_pos (by omega)]
  obtain ⟨b', left', g1, g2, g3, g4⟩ := best_spec (firsts (truths c)) (c.homes.length + 1) S 1 0 _ (by omega) rfl (fun k hk => .inr ⟨by rw [show k = 0 by omega], by omega⟩)
  rw [show 0 + 1 = 1 from rfl, g1]
  refine ⟨b', left', rfl, by omega, ?_, ?_, g3, fun k hk => g4 k (by omega)⟩
  · rw [← g3]; exact rworst_pos (firsts_ne hT) (truths_lies hv _)
  · rw [← g3]; exact rworst_le _ _ _
theorem firsts_len (c : Cab) : (firsts (truths c)).length = (states c).length := by rw [← (firsts_perm c).length_eq, List.length_map]
end Go.Proofs.Ytlhobddaojdnoaa

