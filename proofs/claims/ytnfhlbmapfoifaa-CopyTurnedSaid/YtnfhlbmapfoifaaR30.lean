/- Comparisons, plain laws: how many are needed at least and at most; the best pair. -/
import Derived.Test.YtnfhlbmapfoifaaR29
import Derived.Test.YtnfhlbmapfoifaaW48
namespace Go.Proofs.Ytnfhlbmapfoifaa
open Go.RowKit
set_option linter.unusedVariables false
set_option linter.unusedSimpArgs false

theorem many_add {os : List (List Int)} {S : Nat} (h : Sub os S) (a b : Nat) : manyS (befS os S a b) + manyS (aftS os S a b) = manyS S := by
  unfold manyS
  have key : ∀ l : List Nat, l.countP (fun k => (befS os S a b).testBit k) + l.countP (fun k => (aftS os S a b).testBit k) = l.countP (fun k => S.testBit k) := by
    intro l
    induction l with
    | nil => rfl
    | cons k r ih =>
      simp only [List.countP_cons]
      rw [bef_bit, aft_bit]
      cases hs : S.testBit k
      · simp; omega
      · have := h k hs
        cases hb : befB a b (os.getD k [])
        · simp [this]; omega
        · simp [this]; omega
  exact key _
theorem fold_ge (os : List (List Int)) (n S m : Nat) (h : ∀ x : Nat × Nat, befS os S x.1 x.2 ≠ S → aftS os S x.1 x.2 ≠ S → m ≤ 2 ^ (1 + mxN (needV os n (befS os S x.1 x.2)) (needV os n (aftS os S x.1 x.2)))) : ∀ (l : List (Nat × Nat)) (b : Nat), m ≤ 2 ^ b → m ≤ 2 ^ (l.foldl (stepN os n S) b)
  | [], b, hb => hb
  | x :: r, b, hb => by
    refine fold_ge os n S m h r _ ?_
    unfold stepN
    split
    · rename_i hc
      unfold mnN
      rcases Nat.le_total b (1 + mxN (needV os n (befS os S x.1 x.2)) (needV os n (aftS os S x.1 x.2))) with e | e
      · rw [Nat.min_eq_left e]; exact hb
      · rw [Nat.min_eq_right e]; exact h x hc.1 hc.2
    · exact hb
/-- Each comparison halves the orders at best. -/
theorem need_ge {os : List (List Int)} {n : Nat} (hos : os.length ≤ 128) (hfit : os.length ≤ 2 ^ (n * n)) : ∀ (m S : Nat), manyS S ≤ m → S < 2 ^ 128 → Sub os S → manyS S ≤ 2 ^ needV os n S := by
  intro m
  induction m with
  | zero => intro S h _ _; rw [Nat.eq_zero_of_le_zero h]; exact Nat.zero_le _
  | succ m ih =>
    intro S h hS hsub
    by_cases hm : manyS S ≤ 1
    · rw [needV_few hm]; simpa using hm
    · rw [needV_step hos hS hm]
      refine fold_ge os n S _ (fun x h1 h2 => ?_) _ _ ?_
      · have l1 := many_lt hS (bef_sub os S x.1 x.2) h1
        have l2 := many_lt hS (aft_sub os S x.1 x.2) h2
        have i1 := ih _ (by omega) (bef_lt hos S x.1 x.2) (bef_in os S x.1 x.2)
        have i2 := ih _ (by omega) (aft_lt hos S x.1 x.2) (aft_in os S x.1 x.2)
        have ha := many_add hsub x.1 x.2
        unfold mxN
        have p1 : 2 ^ needV os n (befS os S x.1 x.2) ≤ 2 ^ max (needV os n (befS os S x.1 x.2)) (needV os n (aftS os S x.1 x.2)) := Nat.pow_le_pow_right (by decide) (Nat.le_max_left _ _)
        have p2 : 2 ^ needV os n (aftS os S x.1 x.2) ≤ 2 ^ max (needV os n (befS os S x.1 x.2)) (needV os n (aftS os S x.1 x.2)) := Nat.pow_le_pow_right (by decide) (Nat.le_max_right _ _)
        rw [Nat.pow_add]
        omega
      · rw [← sel_len hos hsub]
        refine Nat.le_trans ?_ hfit
        unfold selS
        rw [List.length_map]
        exact Nat.le_trans (List.length_filter_le _ _) (by simp)
/-- What splits some orders. -/
def splB (os : List (List Int)) (S : Nat) (x : Nat × Nat) : Bool := decide (befS os S x.1 x.2 ≠ S) && decide (aftS os S x.1 x.2 ≠ S)
theorem fold_hit (os : List (List Int)) (n S : Nat) {x : Nat × Nat} (h : splB os S x = true) : ∀ (l : List (Nat × Nat)) (b : Nat), x ∈ l → l.foldl (stepN os n S) b ≤ 1 + mxN (needV os n (befS os S x.1 x.2)) (needV os n (aftS os S x.1 x.2))
  | [], b, hx => by cases hx
  | y :: r, b, hx => by
    rcases List.mem_cons.1 hx with e | e
    · subst e
      refine Nat.le_trans (fold_le os n S r _) ?_
      unfold splB at h
      simp at h
      unfold stepN mnN
      rw [if_pos h]
      exact Nat.min_le_right _ _
    · exact fold_hit os n S h r _ e
theorem bit_of {S : Nat} (h : manyS S ≠ 0) : ∃ i, S.testBit i = true := Classical.byContradiction fun hn => h (many_none fun i => by
  cases hb : S.testBit i
  · rfl
  · exact (hn ⟨i, hb⟩).elim)
theorem bit_many {S i : Nat} (hS : S < 2 ^ 128) (h : S.testBit i = true) : manyS S ≠ 0 := fun e => by
  rw [many_zero e hS, Nat.zero_testBit] at h
  cases h
theorem spl_sub {os : List (List Int)} (hos : os.length ≤ 128) {S X : Nat} (hS : Sub os S) (hX : Sub os X) (hsub : ∀ i, X.testBit i = true → S.testBit i = true) {x : Nat × Nat} (h : splB os X x = true) : splB os S x = true := by
  unfold splB at h ⊢
  simp only [Bool.and_eq_true, decide_eq_true_eq] at h ⊢
  have h1 : manyS (aftS os X x.1 x.2) ≠ 0 := fun e => h.1 ((bef_all hos hX _ _).2 e)
  have h2 : manyS (befS os X x.1 x.2) ≠ 0 := fun e => h.2 ((aft_all hos hX _ _).2 e)
  refine ⟨fun e => ?_, fun e => ?_⟩
  · obtain ⟨i, hi⟩ := bit_of h1
    have := (bef_all hos hS _ _).1 e
    refine bit_many (i := i) (aft_lt hos S x.1 x.2) ?_ this
    rw [aft_bit] at hi ⊢
    simp only [Bool.and_eq_true] at hi ⊢
    exact ⟨hi.1, hsub i hi.2.1, hi.2.2⟩
  · obtain ⟨i, hi⟩ := bit_of h2
    have := (aft_all hos hS _ _).1 e
    refine bit_many (i := i) (bef_lt hos S x.1 x.2) ?_ this
    rw [bef_bit] at hi ⊢
    simp only [Bool.and_eq_true] at hi ⊢
    exact ⟨hi.1, hsub i hi.2.1, hi.2.2⟩
theorem bef_bef (os : List (List Int)) (S a b : Nat) : befS os (befS os S a b) a b = befS os S a b := Nat.eq_of_testBit_eq fun i => by
  rw [bef_bit, bef_bit]
  cases decide (i < os.length) <;> cases S.testBit i <;> cases befB a b (os.getD i []) <;> rfl
theorem aft_aft (os : List (List Int)) (S a b : Nat) : aftS os (aftS os S a b) a b = aftS os S a b := Nat.eq_of_testBit_eq fun i => by
  rw [aft_bit, aft_bit]
  cases decide (i < os.length) <;> cases S.testBit i <;> cases befB a b (os.getD i []) <;> rfl
theorem pairs_in {n a b : Nat} (h : a < b) (hb : b < n) : (a, b) ∈ pairsL n := List.mem_of_getElem? (pairs_at h hb)
/-- No more comparisons are needed than there are pairs that split. -/
theorem need_le {os : List (List Int)} {n : Nat} (hos : os.length ≤ 128) (hp : ∀ o ∈ os, IsPerm n o) (hnd : os.Nodup) : ∀ (m S : Nat), manyS S ≤ m → S < 2 ^ 128 → Sub os S → needV os n S ≤ (pairsL n).countP (splB os S) := by
  intro m
  induction m with
  | zero => intro S h _ _; rw [needV_few (by omega)]; exact Nat.zero_le _
  | succ m ih =>
    intro S h hS hsub
    by_cases hm : manyS S ≤ 1
    · rw [needV_few hm]; exact Nat.zero_le _
    · -- two orders
      have h2 : ∃ i j, i < j ∧ S.testBit i = true ∧ S.testBit j = true := by
        apply Classical.byContradiction
        intro hn
        obtain ⟨i, hi⟩ := bit_of (S := S) (by omega)
        have : ∀ j, S.testBit j = true → j = i := fun j hj => by
          rcases Nat.lt_trichotomy i j with e | e | e
          · exact (hn ⟨i, j, e, hi, hj⟩).elim
          · exact e.symm
          · exact (hn ⟨j, i, e, hj, hi⟩).elim
        have hle : manyS S ≤ 1 := by
          unfold manyS
          have : ∀ l : List Nat, l.Nodup → l.countP (fun k => S.testBit k) ≤ 1 := by
            intro l
            induction l with
            | nil => intro _; simp
            | cons k r ihr =>
              intro hl
              rw [List.nodup_cons] at hl
              simp only [List.countP_cons]
              cases hk : S.testBit k
              · simpa using ihr hl.2
              · have hz : r.countP (fun k => S.testBit k) = 0 := by
                  rw [List.countP_eq_zero]
                  intro q hq hqb
                  have e1 := this q hqb
                  have e2 := this k hk
                  exact hl.1 (by rw [e2, ← e1]; exact hq)
                rw [hz]; simp
          exact this _ List.nodup_range
        omega
      obtain ⟨i, j, hij, hi, hj⟩ := h2
      have hil := hsub i hi
      have hjl := hsub j hj
      have hne : os.getD i [] ≠ os.getD j [] := fun e => by
        have e2 : os[i] = os[j] := by simpa [hil, hjl] using e
        have := (List.getElem_inj hnd).1 e2
        omega
      obtain ⟨a, b, hab, hbn, hdiff⟩ := perm_diff (hp _ (by simp [hil] : os.getD i [] ∈ os)) (hp _ (by simp [hjl] : os.getD j [] ∈ os)) hne
      have hspl : splB os S (a, b) = true := by
        unfold splB
        simp only [Bool.and_eq_true, decide_eq_true_eq]
        refine ⟨fun e => ?_, fun e => ?_⟩
        · have hz := (bef_all hos hsub a b).1 e
          have hz2 := many_zero hz (aft_lt hos S a b)
          have b1 := aft_bit os S a b i
          have b2 := aft_bit os S a b j
          rw [hz2, Nat.zero_testBit] at b1 b2
          simp only [hil, hjl, hi, hj, decide_true, Bool.true_and] at b1 b2
          cases h1 : befB a b (os.getD i []) <;> cases h2 : befB a b (os.getD j []) <;> simp_all
        · have hz := (aft_all hos hsub a b).1 e
          have hz2 := many_zero hz (bef_lt hos S a b)
          have b1 := bef_bit os S a b i
          have b2 := bef_bit os S a b j
          rw [hz2, Nat.zero_testBit] at b1 b2
          simp only [hil, hjl, hi, hj, decide_true, Bool.true_and] at b1 b2
          cases h1 : befB a b (os.getD i []) <;> cases h2 : befB a b (os.getD j []) <;> simp_all
      have hin := pairs_in hab hbn
      rw [needV_step hos hS hm]
      refine Nat.le_trans (fold_hit os n S hspl _ _ hin) ?_
      have hs2 := hspl
      unfold splB at hs2
      simp only [Bool.and_eq_true, decide_eq_true_eq] at hs2
      have l1 := many_lt hS (bef_sub os S a b) hs2.1
      have l2 := many_lt hS (aft_sub os S a b) hs2.2
      have i1 := ih _ (by omega) (bef_lt hos S a b) (bef_in os S a b)
      have i2 := ih _ (by omega) (aft_lt hos S a b) (aft_in os S a b)
      have c1 : (pairsL n).countP (splB os (befS os S a b)) < (pairsL n).countP (splB os S) := cnt_lt (fun x _ hx => spl_sub hos hsub (bef_in os S a b) (bef_sub os S a b) hx) ⟨(a, b), hin, hspl, by unfold splB; rw [bef_bef]; simp⟩
      have c2 : (pairsL n).countP (splB os (aftS os S a b)) < (pairsL n).countP (splB os S) := cnt_lt (fun x _ hx => spl_sub hos hsub (aft_in os S a b) (aft_sub os S a b) hx) ⟨(a, b), hin, hspl, by unfold splB; rw [aft_aft]; simp⟩
      unfold mxN
      show 1 + max (needV os n (befS os S a b)) (needV os n (aftS os S a b)) ≤ _
      omega
/-- The worse case of a comparison. -/
def worstN (os : List (List Int)) (x : Nat × Nat) : Nat := mxN (manyS (befS os (allS os.length) x.1 x.2)) (manyS (aftS os (allS os.length) x.1 x.2))
theorem worst_le {os : List (List Int)} (hos : os.length ≤ 128) (x : Nat × Nat) : worstN os x ≤ os.length := by
  have := many_add (all_in os) x.1 x.2
  rw [many_all hos] at this
  unfold worstN mxN
  omega
theorem cmp_fold (os : List (List Int)) : ∀ (l : List (Nat × Nat)) (r : Nat × Nat × Nat), (l.foldl (cmpStep os) r = r ∧ ∀ y ∈ l, r.2.2 ≤ worstN os y) ∨
    ∃ l1 x l2, l = l1 ++ x :: l2 ∧ l.foldl (cmpStep os) r = (x.1, x.2, worstN os x) ∧ worstN os x < r.2.2 ∧ (∀ y ∈ l1, worstN os x < worstN os y) ∧ ∀ y ∈ l2, worstN os x ≤ worstN os y
  | [], r => .inl ⟨rfl, fun y hy => by cases hy⟩
  | z :: l, r => by
    have hstep : cmpStep os r z = if worstN os z < r.2.2 then (z.1, z.2, worstN os z) else r := rfl
    rw [List.foldl_cons, hstep]
    by_cases h : worstN os z < r.2.2
    · rw [if_pos h]
      rcases cmp_fold os l (z.1, z.2, worstN os z) with ⟨h1, h2⟩ | ⟨l1, x, l2, rfl, h1, h2, h3, h4⟩
      · exact .inr ⟨[], z, l, rfl, h1, h, (fun y hy => by cases hy), h2⟩
      · refine .inr ⟨z :: l1, x, l2, rfl, h1, ?_, fun y hy => ?_, h4⟩
        · have : worstN os x < worstN os z := h2
          omega
        · rcases List.mem_cons.1 hy with e | e
          · subst e; exact h2
          · exact h3 y e
    · rw [if_neg h]
      rcases cmp_fold os l r with ⟨h1, h2⟩ | ⟨l1, x, l2, rfl, h1, h2, h3, h4⟩
      · refine .inl ⟨h1, fun y hy => ?_⟩
        rcases List.mem_cons.1 hy with e | e
        · subst e; omega
        · exact h2 y e
      · refine .inr ⟨z :: l1, x, l2, rfl, h1, h2, fun y hy => ?_, h4⟩
        rcases List.mem_cons.1 hy with e | e
        · subst e; omega
        · exact h3 y e
theorem pairs_sorted (n : Nat) : (pairsL n).Pairwise fun x y => x.1 < y.1 ∨ x.1 = y.1 ∧ x.2 < y.2 := by
  rw [pairsL_eq, List.pairwise_flatMap]
  refine ⟨fun a _ => ?_, ?_⟩
  · unfold rowP
    rw [List.pairwise_map]
    exact (List.Pairwise.filter _ List.pairwise_lt_range).imp (fun h => .inr ⟨rfl, h⟩)
  · refine List.pairwise_lt_range.imp (fun {a b} hab => ?_)
    intro x hx y hy
    unfold rowP at hx hy
    obtain ⟨_, _, rfl⟩ := List.mem_map.1 hx
    obtain ⟨_, _, rfl⟩ := List.mem_map.1 hy
    exact .inl hab
/-- The pair that is told is the best one, and the first of these. -/
theorem cmp_best {os : List (List Int)} {n : Nat} (hos : os.length ≤ 128) (hn : 2 ≤ n) : ∃ a b, a < b ∧ b < n ∧ cmpN os n (pairsL n).length = (a, b, worstN os (a, b)) ∧
    ∀ i k, i < k → k < n → worstN os (a, b) ≤ worstN os (i, k) ∧ (worstN os (a, b) = worstN os (i, k) → ¬ (i < a ∨ i = a ∧ k < b)) := by
  have e0 : cmpN os n (pairsL n).length = (pairsL n).foldl (cmpStep os) (0, 0, os.length + 1) := by unfold cmpN; rw [List.take_length]
  rcases cmp_fold os (pairsL n) (0, 0, os.length + 1) with ⟨_, h2⟩ | ⟨l1, x, l2, hl, h1, _, h3, h4⟩
  · have h5 := h2 (0, 1) (pairs_in (by omega) (by omega))
    have h6 := worst_le hos (0, 1)
    simp at h5
    omega
  · have hx : x ∈ pairsL n := by rw [hl]; simp
    have hm := pairs_mem hx
    refine ⟨x.1, x.2, hm.1, hm.2, by rw [e0, h1], fun i k hik hk => ?_⟩
    have hin := pairs_in hik hk
    have hs := pairs_sorted n
    rw [hl] at hin hs
    rcases List.mem_append.1 hin with h | h
    · have := h3 _ h
      exact ⟨Nat.le_of_lt this, fun e => by have e' : worstN os x = worstN os (i, k) := e; omega⟩
    · rcases List.mem_cons.1 h with e | e
      · rw [← e]
        exact ⟨Nat.le_refl _, fun _ h => by simp at h⟩
      · refine ⟨h4 _ e, fun _ h => ?_⟩
        rw [List.pairwise_append] at hs
        have := (List.pairwise_cons.1 hs.2.1).1 _ e
        simp at this
        omega
end Go.Proofs.Ytnfhlbmapfoifaa
