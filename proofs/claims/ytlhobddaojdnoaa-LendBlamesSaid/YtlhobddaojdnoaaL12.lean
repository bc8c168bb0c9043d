/- The reference's counts, sets and spans: plain Lean. The reference's states, and where it is best to look: plain Lean. -/
import Derived.Test.YtlhobddaojdnoaaL5
import Derived.Test.YtlhobddaojdnoaaW21
namespace Go.Proofs.Ytlhobddaojdnoaa

abbrev Tr := List Int × List Bool
def cntU (T : List Tr) (p : Tr → Bool) (k : Nat) : Nat := (T.take k).countP p
theorem cntU_zero (T : List Tr) (p : Tr → Bool) : cntU T p 0 = 0 := rfl
theorem cntU_succ {T : List Tr} {p : Tr → Bool} {k : Nat} {x : Tr} (h : T[k]? = some x) : cntU T p (k + 1) = cntU T p k + if p x then 1 else 0 := by
  have hlt := List.getElem?_eq_some_iff.1 h
  unfold cntU
  rw [List.take_succ_eq_append_getElem hlt.1, List.countP_append, hlt.2]
  simp
theorem cntU_le (T : List Tr) (p : Tr → Bool) (k : Nat) : cntU T p k ≤ T.length := by
  refine Nat.le_trans List.countP_le_length ?_
  rw [List.length_take]; omega
def allB (T : List Tr) (p : Tr → Bool) : Bool := decide (cntU T p T.length = T.length)
def someB (T : List Tr) (p : Tr → Bool) : Bool := decide (0 < cntU T p T.length)
theorem allB_iff (T : List Tr) (p : Tr → Bool) : allB T p = true ↔ ∀ x ∈ T, p x = true := by
  unfold allB cntU
  rw [List.take_length, decide_eq_true_eq, List.countP_eq_length]
theorem someB_iff (T : List Tr) (p : Tr → Bool) : someB T p = true ↔ ∃ x ∈ T, p x = true := by
  unfold someB cntU
  rw [List.take_length, decide_eq_true_eq, List.countP_pos_iff]
def allU (T : List Tr) (P : Nat → Tr → Bool) (i : Nat) : Nat := bitsOf ((List.range i).filter fun j => allB T (P j))
def someU (T : List Tr) (P : Nat → Tr → Bool) (i : Nat) : Nat := bitsOf ((List.range i).filter fun j => someB T (P j))
theorem allU_succ (T : List Tr) (P : Nat → Tr → Bool) (i : Nat) : allU T P (i + 1) = if allB T (P i) = true then allU T P i ||| 2 ^ i else allU T P i := by
  unfold allU
  rw [List.range_succ, List.filter_append]
  by_cases h : allB T (P i) = true
  · rw [if_pos h]; simp [h, bitsOf_snoc]
  · rw [if_neg h]; simp [h]
theorem someU_succ (T : List Tr) (P : Nat → Tr → Bool) (i : Nat) : someU T P (i + 1) = if someB T (P i) = true then someU T P i ||| 2 ^ i else someU T P i := by
  unfold someU
  rw [List.range_succ, List.filter_append]
  by_cases h : someB T (P i) = true
  · rw [if_pos h]; simp [h, bitsOf_snoc]
  · rw [if_neg h]; simp [h]
theorem allU_small (T : List Tr) (P : Nat → Tr → Bool) {i : Nat} (h : i ≤ 20) : allU T P i ≤ 1048576 := by
  have : allU T P i < 2 ^ 20 := bitsOf_lt (fun k hk => by have := List.mem_range.1 (List.mem_filter.1 hk).1; omega)
  omega
theorem someU_small (T : List Tr) (P : Nat → Tr → Bool) {i : Nat} (h : i ≤ 20) : someU T P i ≤ 1048576 := by
  have : someU T P i < 2 ^ 20 := bitsOf_lt (fun k hk => by have := List.mem_range.1 (List.mem_filter.1 hk).1; omega)
  omega
theorem allU_test (T : List Tr) (P : Nat → Tr → Bool) (n i : Nat) : (allU T P n).testBit i = true ↔ i < n ∧ ∀ x ∈ T, P i x = true := by
  unfold allU
  rw [bitsOf_test, decide_eq_true_eq, List.mem_filter, List.mem_range, allB_iff]
theorem someU_test (T : List Tr) (P : Nat → Tr → Bool) (n i : Nat) : (someU T P n).testBit i = true ↔ i < n ∧ ∃ x ∈ T, P i x = true := by
  unfold someU
  rw [bitsOf_test, decide_eq_true_eq, List.mem_filter, List.mem_range, someB_iff]
theorem eq_of_test {a b : Nat} (h : ∀ i, a.testBit i = true ↔ b.testBit i = true) : a = b := by
  apply Nat.eq_of_testBit_eq
  intro i
  rw [Bool.eq_iff_iff]
  exact h i

/-! ### loans that put a card back wrong -/
def wrongP (i : Nat) (x : Tr) : Bool := gb x.2 i
theorem truth_wrong {c : Cab} {x : Tr} (hx : x ∈ truths c) {i : Nat} (h : gb x.2 i = true) : i < c.loans.length ∧ (gl c.loans i).kind = 1 :=
  wrong_back c.loans c.homes x.1 x.2 (truthsBy_mem.1 (show (x.1, x.2) ∈ truthsBy c anyRule c.loans c.wrong from hx)).1 i h
theorem surely_eq {c : Cab} (hT : truths c ≠ []) : allU (truths c) wrongP c.loans.length = surelyS c := by
  refine eq_of_test (fun i => ?_)
  rw [allU_test, surely_test]
  constructor
  · rintro ⟨h1, h2⟩
    obtain ⟨x, hx⟩ := List.exists_mem_of_ne_nil _ hT
    exact ⟨h1, (truth_wrong hx (h2 x hx)).2, fun t bs hb => h2 (t, bs) hb⟩
  · rintro ⟨h1, _, h3⟩
    exact ⟨h1, fun x hx => h3 x.1 x.2 hx⟩
theorem can_eq {c : Cab} : someU (truths c) wrongP c.loans.length = canS c := by
  refine eq_of_test (fun i => ?_)
  rw [someU_test, can_test]
  constructor
  · rintro ⟨h1, x, hx, h2⟩
    exact ⟨h1, x.1, x.2, hx, h2⟩
  · rintro ⟨h1, t, bs, hb, h2⟩
    exact ⟨h1, (t, bs), hb, h2⟩

/-! ### persons that did -/
def didP (c : Cab) (p : Nat) (x : Tr) : Bool := (List.range c.loans.length).any fun i => gb x.2 i && decide ((gl c.loans i).person = (p : Int))
theorem didP_iff {c : Cab} {p : Nat} {x : Tr} : didP c p x = true ↔ ∃ i, i < c.loans.length ∧ (gl c.loans i).person = (p : Int) ∧ gb x.2 i = true := by
  unfold didP
  simp only [List.any_eq_true, List.mem_range, Bool.and_eq_true, decide_eq_true_eq]
  exact ⟨fun ⟨i, h1, h2, h3⟩ => ⟨i, h1, h3, h2⟩, fun ⟨i, h1, h2, h3⟩ => ⟨i, h1, h3, h2⟩⟩
theorem own_eq {c : Cab} : allU (truths c) (didP c) 8 = ownS c := by
  refine eq_of_test (fun i => ?_)
  rw [allU_test, own_test]
  constructor
  · rintro ⟨h1, h2⟩
    exact ⟨h1, fun t bs hb => didP_iff.1 (h2 (t, bs) hb)⟩
  · rintro ⟨h1, h2⟩
    exact ⟨h1, fun x hx => didP_iff.2 (h2 x.1 x.2 hx)⟩
theorem may_eq {c : Cab} (hv : c.valid = true) : someU (truths c) (didP c) 8 = mayS c := by
  refine eq_of_test (fun p => ?_)
  rw [someU_test, may_test]
  constructor
  · rintro ⟨h1, x, hx, h2⟩
    obtain ⟨i, h3, h4, h5⟩ := didP_iff.1 h2
    exact ⟨i, can_test.2 ⟨h3, x.1, x.2, hx, h5⟩, by rw [h4]; simp⟩
  · rintro ⟨i, h1, h2⟩
    have hk := can_kind h1
    obtain ⟨h3, t, bs, hb, h4⟩ := can_test.1 h1
    have hr := person_rng hv h3 hk
    exact ⟨by omega, (t, bs), hb, didP_iff.2 ⟨i, h3, by omega, h4⟩⟩

/-! ### spans -/
def loU (l : List Nat) (k : Nat) : Nat := (l.take k).foldl min (l.headD 0)
def hiU (l : List Nat) (k : Nat) : Nat := (l.take k).foldl max (l.headD 0)
theorem loU_succ {l : List Nat} {k v : Nat} (h : l[k]? = some v) : loU l (k + 1) = min (loU l k) v := by
  have hlt := List.getElem?_eq_some_iff.1 h
  unfold loU
  rw [List.take_succ_eq_append_getElem hlt.1, List.foldl_append, hlt.2]
  rfl
theorem hiU_succ {l : List Nat} {k v : Nat} (h : l[k]? = some v) : hiU l (k + 1) = max (hiU l k) v := by
  have hlt := List.getElem?_eq_some_iff.1 h
  unfold hiU
  rw [List.take_succ_eq_append_getElem hlt.1, List.foldl_append, hlt.2]
  rfl
theorem loU_all {l : List Nat} (h : l ≠ []) : loU l l.length = minL l := by
  unfold loU
  rw [List.take_length]
  cases l with
  | nil => exact absurd rfl h
  | cons x l => simp [minL]
theorem hiU_all {l : List Nat} (h : l ≠ []) : hiU l l.length = maxL l := by
  unfold hiU
  rw [List.take_length]
  cases l with
  | nil => exact absurd rfl h
  | cons x l => simp [maxL]
end Go.Proofs.Ytlhobddaojdnoaa

namespace Go.Proofs.Ytlhobddaojdnoaa

def seenIn (F : List Tr) (x : Tr) : Bool := F.any fun y => decide (y.1 = x.1)
def addFirst (F : List Tr) (x : Tr) : List Tr := if seenIn F x = true then F else F ++ [x]
def firstsTo (T : List Tr) (k : Nat) : List Tr := (T.take k).foldl addFirst []
theorem firstsTo_succ {T : List Tr} {k : Nat} {x : Tr} (h : T[k]? = some x) : firstsTo T (k + 1) = addFirst (firstsTo T k) x := by
  have hlt := List.getElem?_eq_some_iff.1 h
  unfold firstsTo
  rw [List.take_succ_eq_append_getElem hlt.1, List.foldl_append, hlt.2]
  rfl
theorem seenIn_iff {F : List Tr} {x : Tr} : seenIn F x = true ↔ x.1 ∈ F.map (·.1) := by
  unfold seenIn
  simp only [List.any_eq_true, decide_eq_true_eq, List.mem_map]
theorem firstsTo_le (T : List Tr) : ∀ k, (firstsTo T k).length ≤ k
  | 0 => by simp [firstsTo]
  | k + 1 => by
    cases h : T[k]? with
    | none =>
      have hk := List.getElem?_eq_none_iff.1 h
      have : firstsTo T (k + 1) = firstsTo T k := by unfold firstsTo; rw [List.take_of_length_le (by omega), List.take_of_length_le hk]
      rw [this]
      have := firstsTo_le T k
      omega
    | some x =>
      rw [firstsTo_succ h]
      have := firstsTo_le T k
      unfold addFirst
      split
      · omega
      · simp; omega
theorem firstsTo_spec (T : List Tr) : ∀ k, k ≤ T.length → ((firstsTo T k).map (·.1)).Nodup ∧ (∀ x ∈ firstsTo T k, x ∈ T) ∧ ∀ x ∈ T.take k, x.1 ∈ (firstsTo T k).map (·.1)
  | 0, _ => by simp [firstsTo]
  | k + 1, hk => by
    obtain ⟨h1, h2, h3⟩ := firstsTo_spec T k (by omega)
    have hx : T[k]? = some T[k] := List.getElem?_eq_getElem (by omega)
    rw [firstsTo_succ hx]
    have ht : T.take (k + 1) = T.take k ++ [T[k]] := List.take_succ_eq_append_getElem (by omega)
    unfold addFirst
    by_cases hs : seenIn (firstsTo T k) T[k] = true
    · rw [if_pos hs]
      refine ⟨h1, h2, fun x hx => ?_⟩
      rw [ht, List.mem_append, List.mem_singleton] at hx
      rcases hx with hx | rfl
      · exact h3 x hx
      · exact seenIn_iff.1 hs
    · rw [if_neg hs]
      refine ⟨?_, fun x hx => ?_, fun x hx => ?_⟩
      · rw [List.map_append, List.nodup_append]
        refine ⟨h1, by simp, fun a ha b hb he => ?_⟩
        simp only [List.map_cons, List.map_nil, List.mem_singleton] at hb
        subst hb
        subst he
        exact hs (seenIn_iff.2 ha)
      · rw [List.mem_append, List.mem_singleton] at hx
        rcases hx with hx | rfl
        · exact h2 x hx
        · exact List.getElem_mem _
      · rw [ht, List.mem_append, List.mem_singleton] at hx
        rw [List.map_append, List.mem_append]
        rcases hx with hx | rfl
        · exact .inl (h3 x hx)
        · exact .inr (by simp)
def firsts (T : List Tr) : List Tr := firstsTo T T.length
theorem firsts_mem {T : List Tr} {x : Tr} (h : x ∈ firsts T) : x ∈ T := (firstsTo_spec T T.length (Nat.le_refl _)).2.1 x h
theorem firsts_perm (c : Cab) : ((firsts (truths c)).map (·.1)).Perm (states c) := by
  obtain ⟨h1, h2, h3⟩ := firstsTo_spec (truths c) _ (Nat.le_refl _)
  rw [List.take_length] at h3
  refine states_perm h1 (fun t => ?_)
  constructor
  · intro ht
    obtain ⟨x, hx, rfl⟩ := List.mem_map.1 ht
    exact ⟨x.2, h2 x hx⟩
  · rintro ⟨bs, hb⟩
    exact h3 (t, bs) hb
theorem firsts_ne {T : List Tr} (h : T ≠ []) : firsts T ≠ [] := by
  obtain ⟨x, hx⟩ := List.exists_mem_of_ne_nil _ h
  have := (firstsTo_spec T _ (Nat.le_refl _)).2.2 x (by rw [List.take_length]; exact hx)
  intro he
  unfold firsts at he
  rw [he] at this
  simp at this

/-! ### how many are left -/
def cntL (F : List Tr) (s card : Int) (k : Nat) : Nat := cntU F (fun x => decide (lies x.1 s = card)) k
def rworst (F : List Tr) (s : Int) (m : Nat) : Nat := maxL ((List.range m).map fun (j : Nat) => cntL F s ((j : Int) - 1) F.length)
theorem rworst_succ (F : List Tr) (s : Int) (m : Nat) : rworst F s (m + 1) = max (rworst F s m) (cntL F s ((m : Int) - 1) F.length) := by
  unfold rworst
  rw [List.range_succ, List.map_append, List.map_cons, List.map_nil, maxL_snoc]
theorem rworst_eq {F : List Tr} {s : Int} {m : Nat} (h : ∀ x ∈ F, -1 ≤ lies x.1 s ∧ lies x.1 s + 1 < m) : rworst F s m = worst (F.map (·.1)) s := by
  have hc : ∀ card : Int, cntL F s card F.length = (F.map (·.1)).countP fun b => decide (lies b s = card) := fun card => by
    unfold cntL cntU
    rw [List.take_length, List.countP_map]
    rfl
  apply Nat.le_antisymm
  · unfold rworst
    rw [maxL_le]
    intro y hy
    obtain ⟨j, hj, rfl⟩ := List.mem_map.1 hy
    rw [hc]
    by_cases h0 : 0 < (F.map (·.1)).countP fun b => decide (lies b s = (j : Int) - 1)
    · obtain ⟨a, ha, hla⟩ := List.countP_pos_iff.1 h0
      rw [decide_eq_true_eq] at hla
      have := maxL_le.1 (Nat.le_refl (worst (F.map (·.1)) s)) _ (List.mem_map.2 ⟨a, ha, rfl⟩)
      rw [hla] at this
      exact this
    · omega
  · unfold worst
    rw [maxL_le]
    intro y hy
    obtain ⟨a, ha, rfl⟩ := List.mem_map.1 hy
    obtain ⟨x, hx, rfl⟩ := List.mem_map.1 ha
    have hr := h x hx
    have := maxL_le.1 (Nat.le_refl (rworst F s m)) (cntL F s (((lies x.1 s + 1).toNat : Int) - 1) F.length) (List.mem_map.2 ⟨(lies x.1 s + 1).toNat, List.mem_range.2 (by omega), rfl⟩)
    rw [hc, show (((lies x.1 s + 1).toNat : Nat) : Int) - 1 = lies x.1 s by omega] at this
    exact this
theorem rworst_le (F : List Tr) (s : Int) (m : Nat) : rworst F s m ≤ F.length := by
  unfold rworst
  rw [maxL_le]
  intro y hy
  obtain ⟨j, _, rfl⟩ := List.mem_map.1 hy
  exact cntU_le _ _ _
def best (F : List Tr) (m : Nat) : Nat → Nat → Nat → Nat → Int × Int
  | 0, _, b, left => ((b : Int), (left : Int))
  | f + 1, s, b, left => if rworst F (s : Int) m < left then best F m f (s + 1) s (rworst F (s : Int) m) else best F m f (s + 1) b left
theorem best_eq {F : List Tr} {m : Nat} (h : ∀ (s : Int), ∀ x ∈ F, -1 ≤ lies x.1 s ∧ lies x.1 s + 1 < m) : ∀ (f s b left : Nat), best F m f s b left = nextFrom (F.map (·.1)) f s b left
  | 0, _, _, _ => rfl
  | f + 1, s, b, left => by
    unfold best nextFrom
    rw [rworst_eq (h s), best_eq h, best_eq h]
theorem truths_lies {c : Cab} (hv : c.valid = true) (s : Int) : ∀ x ∈ firsts (truths c), -1 ≤ lies x.1 s ∧ lies x.1 s + 1 < ((c.homes.length + 1 : Nat) : Int) := by
  intro x hx
  have hs := truth_st hv (r := anyRule) (ls := c.loans) (W := c.wrong) (t := x.1) (bs := x.2) (firsts_mem hx)
  have := lies_range hs s
  omega
theorem next_one {c : Cab} (h0 : openE c true = 0) (h1 : (firsts (truths c)).length = 1) : nextE c = (0, 0, 4) := by
  have hl : (states c).length = 1 := by rw [← (firsts_perm c).length_eq, List.length_map, h1]
  unfold nextE
  simp only [h0, if_true, hl]
  rfl
theorem next_more {c : Cab} (hv : c.valid = true) (h0 : openE c true = 0) (hT : truths c ≠ []) (h1 : (firsts (truths c)).length ≠ 1) :
    nextE c = ((best (firsts (truths c)) (c.homes.length + 1) c.slots.toNat 0 0 ((firsts (truths c)).length + 1)).1, (best (firsts (truths c)) (c.homes.length + 1) c.slots.toNat 0 0 ((firsts (truths c)).length + 1)).2, 0) := by
  have hl : (states c).length = (firsts (truths c)).length := by rw [← (firsts_perm c).length_eq, List.length_map]
  have hn : 0 < (firsts (truths c)).length := List.length_pos_iff.2 (firsts_ne hT)
  rw [best_eq (fun s => truths_lies hv s), nextFrom_perm (firsts_perm c)]
  unfold nextE
  simp only [h0, if_true, hl]
  rw [if_neg (by omega)]
end Go.Proofs.Ytlhobddaojdnoaa

