/- How many comparisons are needed: what is known of it. How many comparisons are needed: walked. -/
import Derived.Test.YtnfhlbmapfoifaaW43
namespace Go.Proofs.Ytnfhlbmapfoifaa
open Go.RowKit
set_option linter.unusedVariables false

theorem many_zero {S : Nat} (h : manyS S = 0) (hS : S < 2 ^ 128) : S = 0 := by
  apply Nat.eq_of_testBit_eq
  intro i
  rw [Nat.zero_testBit]
  by_cases hi : i < 128
  · unfold manyS at h
    rw [List.countP_eq_zero] at h
    have := h i (List.mem_range.2 hi)
    simpa using this
  · exact Nat.testBit_lt_two_pow (Nat.lt_of_lt_of_le hS (Nat.pow_le_pow_right (by decide) (by omega)))
theorem many_lt {S X : Nat} (hS : S < 2 ^ 128) (hsub : ∀ i, X.testBit i = true → S.testBit i = true) (hne : X ≠ S) : manyS X < manyS S := by
  unfold manyS
  refine cnt_lt (fun x _ => hsub x) ?_
  have : ∃ i, X.testBit i ≠ S.testBit i := Classical.byContradiction fun h => hne (Nat.eq_of_testBit_eq fun i => Classical.byContradiction fun h2 => h ⟨i, h2⟩)
  obtain ⟨i, hi⟩ := this
  have hs : S.testBit i = true ∧ X.testBit i = false := by
    cases hx : X.testBit i
    · rw [hx] at hi
      cases hs : S.testBit i
      · rw [hs] at hi; exact (hi rfl).elim
      · exact ⟨rfl, rfl⟩
    · rw [hx, hsub i hx] at hi; exact (hi rfl).elim
  have hlt : i < 128 := by
    apply Classical.byContradiction
    intro h
    have := Nat.testBit_lt_two_pow (Nat.lt_of_lt_of_le hS (Nat.pow_le_pow_right (n := 2) (by decide) (show 128 ≤ i by omega)))
    rw [this] at hs
    exact absurd hs.1 (by simp)
  exact ⟨i, List.mem_range.2 hlt, hs⟩
theorem bef_sub (os : List (List Int)) (S a b i : Nat) (h : (befS os S a b).testBit i = true) : S.testBit i = true := by
  rw [befS_eq, cmpS_bit] at h
  unfold fBef at h
  simp at h
  exact h.2.1
theorem aft_sub (os : List (List Int)) (S a b i : Nat) (h : (aftS os S a b).testBit i = true) : S.testBit i = true := by
  rw [aftS_eq, cmpS_bit] at h
  unfold fAft at h
  simp at h
  exact h.2.1
theorem bef_lt {os : List (List Int)} (h : os.length ≤ 128) (S a b : Nat) : befS os S a b < 2 ^ 128 := by rw [befS_eq]; exact cmpS_lt _ h
theorem aft_lt {os : List (List Int)} (h : os.length ≤ 128) (S a b : Nat) : aftS os S a b < 2 ^ 128 := by rw [aftS_eq]; exact cmpS_lt _ h
theorem needsF_zero (os : List (List Int)) (n S : Nat) : needsF os n 0 S = 0 := rfl
def stepF (os : List (List Int)) (n d S : Nat) (best : Nat) (x : Nat × Nat) : Nat :=
  if befS os S x.1 x.2 ≠ S ∧ aftS os S x.1 x.2 ≠ S then min best (1 + max (needsF os n d (befS os S x.1 x.2)) (needsF os n d (aftS os S x.1 x.2))) else best
theorem needsF_succ (os : List (List Int)) (n d S : Nat) : needsF os n (d + 1) S = if manyS S ≤ 1 then 0 else (pairsL n).foldl (stepF os n d S) (n * n) := rfl
theorem needs_stable {os : List (List Int)} (hos : os.length ≤ 128) (n : Nat) : ∀ (d S d' : Nat), S < 2 ^ 128 → manyS S ≤ d → manyS S ≤ d' → needsF os n d S = needsF os n d' S := by
  have zero : ∀ (d S : Nat), manyS S = 0 → needsF os n d S = 0 := by
    intro d S h
    cases d with
    | zero => rfl
    | succ d => rw [needsF_succ, if_pos (by omega)]
  intro d
  induction d with
  | zero =>
    intro S d' hS h h'
    rw [zero 0 S (by omega), zero d' S (by omega)]
  | succ d ih =>
    intro S d' hS h h'
    cases d' with
    | zero => rw [zero _ S (by omega), zero _ S (by omega)]
    | succ d' =>
      rw [needsF_succ, needsF_succ]
      split
      · rfl
      · have e : stepF os n d S = stepF os n d' S := by
          funext best x
          unfold stepF
          split
          · rename_i hc
            have h1 := many_lt hS (bef_sub os S x.1 x.2) hc.1
            have h2 := many_lt hS (aft_sub os S x.1 x.2) hc.2
            rw [ih _ d' (bef_lt hos S x.1 x.2) (by omega) (by omega), ih _ d' (aft_lt hos S x.1 x.2) (by omega) (by omega)]
          · rfl
        rw [e]
def needV (os : List (List Int)) (n S : Nat) : Nat := needsF os n (manyS S) S
/-- One pair of cards more is tried. -/
def stepN (os : List (List Int)) (n S : Nat) (best : Nat) (x : Nat × Nat) : Nat :=
  if befS os S x.1 x.2 ≠ S ∧ aftS os S x.1 x.2 ≠ S then mnN best (1 + mxN (needV os n (befS os S x.1 x.2)) (needV os n (aftS os S x.1 x.2))) else best
theorem needV_few {os : List (List Int)} {n S : Nat} (h : manyS S ≤ 1) : needV os n S = 0 := by
  unfold needV
  cases e : manyS S with
  | zero => rfl
  | succ m => rw [needsF_succ, if_pos (by omega)]
theorem needV_step {os : List (List Int)} (hos : os.length ≤ 128) {n S : Nat} (hS : S < 2 ^ 128) (h : ¬ manyS S ≤ 1) : needV os n S = (pairsL n).foldl (stepN os n S) (n * n) := by
  have hm : ∃ m, manyS S = m + 1 := ⟨manyS S - 1, by omega⟩
  obtain ⟨m, hm⟩ := hm
  have e0 : needV os n S = needsF os n (m + 1) S := by unfold needV; rw [hm]
  rw [e0, needsF_succ, if_neg h]
  congr 1
  funext best x
  unfold stepF stepN
  split
  · rename_i hc
    have h1 := many_lt hS (bef_sub os S x.1 x.2) hc.1
    have h2 := many_lt hS (aft_sub os S x.1 x.2) hc.2
    unfold needV mnN mxN
    rw [needs_stable hos n m _ (manyS (befS os S x.1 x.2)) (bef_lt hos S x.1 x.2) (by omega) (Nat.le_refl _), needs_stable hos n m _ (manyS (aftS os S x.1 x.2)) (aft_lt hos S x.1 x.2) (by omega) (Nat.le_refl _)]
  · rfl
theorem fold_le (os : List (List Int)) (n S : Nat) : ∀ (l : List (Nat × Nat)) (b : Nat), l.foldl (stepN os n S) b ≤ b
  | [], b => Nat.le_refl _
  | x :: r, b => by
    have h := fold_le os n S r (stepN os n S b x)
    have h2 : stepN os n S b x ≤ b := by
      unfold stepN mnN
      split
      · exact Nat.min_le_left _ _
      · exact Nat.le_refl _
    exact Nat.le_trans h h2
theorem needV_le {os : List (List Int)} (hos : os.length ≤ 128) {n S : Nat} (hS : S < 2 ^ 128) : needV os n S ≤ n * n := by
  by_cases h : manyS S ≤ 1
  · rw [needV_few h]; omega
  · rw [needV_step hos hS h]; exact fold_le _ _ _ _ _
/-- What has been found after the first pairs. -/
def bestN (os : List (List Int)) (n S i : Nat) : Nat := ((pairsL n).take i).foldl (stepN os n S) (n * n)
theorem bestN_succ {os : List (List Int)} {n S i : Nat} {x : Nat × Nat} (h : (pairsL n)[i]? = some x) : bestN os n S (i + 1) = stepN os n S (bestN os n S i) x := by
  unfold bestN
  rw [List.take_succ_eq_append_getElem (List.getElem?_eq_some_iff.1 h).1, (List.getElem?_eq_some_iff.1 h).2, List.foldl_append]
  rfl
theorem bestN_le (os : List (List Int)) (n S i : Nat) : bestN os n S i ≤ n * n := fold_le _ _ _ _ _

/-! ### the map -/
theorem laidOut : laidOutB Try.prog = true := by kernel_rfl
theorem keyed95 : Maps.Keyed Try.prog 95 :=
  Maps.Keyed.of_law (deep_law_laid laidOut (m := 3) (by decide) (by rw [show Try.prog.types.size = 162 from by kernel_rfl]; decide) (by kernel_rfl) (by kernel_rfl))
theorem keyType95 : Try.prog.keyType 95 = true := by kernel_rfl
theorem cells93 : Try.prog.cellsOf 93 = 1 := by kernel_rfl
theorem cells95 : Try.prog.cellsOf 95 = 2 := by kernel_rfl
theorem lits95 (n : Nat) (a b : Int) (ha : (Lit.int .u64 a).wf = true) (hb : (Lit.int .u64 b).wf = true) :
    ∃ l, Try.prog.keyLits (n + 1 + 1) 95 [.int .u64 a, .int .u64 b] = some l := by
  simp [Program.keyLits, Try.underlying95, Try.underlying93, cells95, cells93, List.range_succ, ha, hb]
theorem key95 (a b : Int) (ha : (Lit.int .u64 a).wf = true) (hb : (Lit.int .u64 b).wf = true) : ∃ l, keyOf Try.prog 95 (.agg #[.int .u64 a, .int .u64 b]) = some l := by
  obtain ⟨l, hl⟩ := lits95 161 a b ha hb
  have hl' : Try.prog.keyLits 163 95 [.int .u64 a, .int .u64 b] = some l := hl
  refine ⟨.string (keyBytes l), ?_⟩
  simp [keyOf, Try.underlying95, keyType95, Value.formed, cells95, Value.cells, hl']
theorem wf_u64 {x : Int} (h0 : 0 ≤ x) (h1 : x < 18446744073709551616) : (Lit.int .u64 x).wf = true := by
  have e1 : IntKind.u64.min = 0 := by decide
  have e2 : IntKind.u64.max = 18446744073709551615 := by decide
  simp [Lit.wf, e1, e2]
  omega
theorem lo_rng (S : Nat) : 0 ≤ loN S ∧ loN S < 18446744073709551616 := by unfold loN; omega
theorem hi_rng {S : Nat} (hS : S < 2 ^ 128) : 0 ≤ hiN S ∧ hiN S < 18446744073709551616 := by
  have h : S / 18446744073709551616 < 18446744073709551616 := by
    rw [Nat.div_lt_iff_lt_mul (by decide)]
    have : (2 : Nat) ^ 128 = 18446744073709551616 * 18446744073709551616 := by decide
    omega
  unfold hiN
  omega
theorem left_key {S : Nat} (hS : S < 2 ^ 128) : ∃ l, keyOf Try.prog 95 (leftV S) = some l :=
  key95 _ _ (wf_u64 (lo_rng S).1 (lo_rng S).2) (wf_u64 (hi_rng hS).1 (hi_rng hS).2)
theorem left_inj {S T : Nat} (h : leftV S = leftV T) : S = T := by
  simp only [Value.agg.injEq, Array.mk.injEq, List.cons.injEq, Value.int.injEq, true_and, and_true] at h
  obtain ⟨h1, h2⟩ := h
  unfold loN at h1
  unfold hiN at h2
  omega
/-- What is known already: of some sets of orders, how many comparisons are needed. -/
def KnownI (os : List (List Int)) (n : Nat) (w : World) (mb : Nat) : Prop :=
  ∃ M : List Nat, MapRaw Try.prog 95 w mb (M.map fun X => (leftV X, .int .i64 (needV os n X : Nat))) ∧ ∀ X ∈ M, X < 2 ^ 128
theorem KnownI.kept {os : List (List Int)} {n : Nat} {w w' : World} {mb : Nat} (h : KnownI os n w mb) (hb : w'.heap[mb]? = w.heap[mb]?) : KnownI os n w' mb := by
  obtain ⟨M, h1, h2⟩ := h
  exact ⟨M, h1.kept hb, h2⟩
theorem KnownI.lt {os : List (List Int)} {n : Nat} {w : World} {mb : Nat} (h : KnownI os n w mb) : mb < w.heap.size := by
  obtain ⟨M, h1, h2⟩ := h
  exact h1.lt
theorem KnownI.map {os : List (List Int)} {n : Nat} {w : World} {mb : Nat} (h : KnownI os n w mb) : ∃ es c, w.heap[mb]? = some (.map es c) := by
  obtain ⟨M, ⟨es, clock, h1, _⟩, _⟩ := h
  exact ⟨es, clock, h1⟩
theorem KnownI.look {os : List (List Int)} {n : Nat} {w : World} {mb S : Nat} (h : KnownI os n w mb) (hS : S < 2 ^ 128) :
    ∃ (r : Int) (ok : Bool), (Instr.lookup 131 (.map (some mb)) (leftV S) true).run Try.prog w = .ok (.tuple #[.int .i64 r, .bool ok]) w ∧ (ok = true → r = (needV os n S : Nat)) := by
  obtain ⟨M, h1, h2⟩ := h
  have hz : (zeroValue 3).run Try.prog w = .ok (.int .i64 0) w := by
    obtain ⟨i0, hi0, hz0, _⟩ := info_parts infoI
    simp [zeroValue, typeInfo, hi0, hz0, Result.andThen]
  obtain ⟨v, ok, hr, hc⟩ := h1.look keyed95 Try.underlying131 (left_key hS) hz true
  rcases hc with ⟨rfl, rfl, _⟩ | ⟨rfl, hm⟩
  · exact ⟨0, false, by simpa using hr, fun h => by cases h⟩
  · obtain ⟨X, hX, e⟩ := List.mem_map.1 hm
    simp only [Prod.mk.injEq] at e
    obtain rfl := left_inj e.1
    obtain rfl := e.2
    exact ⟨_, true, by simpa using hr, fun _ => rfl⟩
theorem KnownI.update {os : List (List Int)} {n : Nat} {w : World} {mb S : Nat} (h : KnownI os n w mb) (hS : S < 2 ^ 128) :
    ∃ w', (Instr.mapUpdate 131 (.map (some mb)) (leftV S) (.int .i64 (needV os n S : Nat))).run Try.prog w = .ok () w' ∧ Same (fun k => k = mb) w w' ∧ w'.heap.size = w.heap.size ∧ KnownI os n w' mb := by
  obtain ⟨M, h1, h2⟩ := h
  obtain ⟨w', hr, hg, hsz, hc⟩ := h1.update keyed95 Try.underlying131 (left_key hS) (.int .i64 (needV os n S : Nat))
  refine ⟨w', hr, (Same.refl _ w).grown hg (fun k hk => by cases hk; exact .inl rfl), hsz, ?_⟩
  rcases hc with ⟨_, hm⟩ | ⟨j, v, hj, hm⟩
  · refine ⟨M ++ [S], by rw [List.map_append]; exact hm, fun X hX => ?_⟩
    rcases List.mem_append.1 hX with hX | hX
    · exact h2 X hX
    · rw [List.mem_singleton.1 hX]; exact hS
  · refine ⟨M, ?_, h2⟩
    have e : (M.map fun X => (leftV X, Value.int .i64 (needV os n X : Nat))).set j (leftV S, .int .i64 (needV os n S : Nat)) = M.map fun X => (leftV X, Value.int .i64 (needV os n X : Nat)) := by
      rw [List.getElem?_map] at hj
      cases hX : M[j]? with
      | none => rw [hX] at hj; simp at hj
      | some X =>
        rw [hX] at hj
        simp only [Option.map_some, Option.some.injEq, Prod.mk.injEq] at hj
        obtain rfl := left_inj hj.1
        have hlt := (List.getElem?_eq_some_iff.1 hX).1
        have hxj := (List.getElem?_eq_some_iff.1 hX).2
        apply List.ext_getElem?
        intro i
        rw [List.getElem?_set]
        split
        · rename_i he
          subst he
          simp [hlt, hxj]
        · rfl
    rw [e] at hm
    exact hm
theorem KnownI.made (os : List (List Int)) (n : Nat) {w : World} {mb : Nat} (h : w.heap[mb]? = some (.map #[] 0)) : KnownI os n w mb :=
  ⟨[], ⟨#[], 0, h, MapKept.stamped_empty 0, rfl, by simp⟩, fun X hX => by simp at hX⟩
end Go.Proofs.Ytnfhlbmapfoifaa

namespace Go.Proofs.Ytnfhlbmapfoifaa
open Go.RowKit
set_option linter.unusedVariables false

/-- What holds while all pairs are tried. -/
structure NedI (w : World) (sb mb n : Nat) (os : List (List Int)) (b2 b3 b7 S best : Nat) (A : World) : Prop where
  sw : Same (fun k => k = mb) w A
  c2 : A.heap[b2]? = some (.cells #[.pointer (some ⟨sb, 0, none⟩)] 92 (0, 0))
  c3 : A.heap[b3]? = some (.cells (leftA S) 95 (0, 0))
  c7 : A.heap[b7]? = some (.cells #[.int .i64 (best : Int)] 3 (0, 0))
  kn : KnownI os n A mb
theorem NedI.stable {w : World} {sb mb n : Nat} {os : List (List Int)} {b2 b3 b7 S best N lb : Nat} {A B : World} {C : Nat → Prop} (h : NedI w sb mb n os b2 b3 b7 S best A) (hs : Same (fun k => ¬ C k ∨ k = lb) A B) (hN : N ≤ lb) (h2 : b2 < N) (h3 : b3 < N) (h7 : b7 < N) (hm : mb < N) (hw : w.heap.size ≤ N) (hC : ∀ k, k < N → C k) : NedI w sb mb n os b2 b3 b7 S best B := by
  have hk : ∀ k, k < N → k < A.heap.size → B.heap[k]? = A.heap[k]? := fun k hk hka => hs.block k hka (fun e => by
    rcases e with e | e
    · exact e (hC k hk)
    · omega)
  exact ⟨same_later h.sw hs (fun k e => by
    by_cases hk' : k < w.heap.size
    · rcases e with e | e
      · exact (e (hC k (by omega))).elim
      · omega
    · exact .inr (by omega)), (hk _ h2 (heap_lt h.c2)).trans h.c2, (hk _ h3 (heap_lt h.c3)).trans h.c3, (hk _ h7 (heap_lt h.c7)).trans h.c7, h.kn.kept (hk _ hm h.kn.lt)⟩
theorem same_map {w A B : World} {mb : Nat} (h : Same (fun k => k = mb) w A) (h2 : Below A.heap.size A B) : Same (fun k => k = mb) w B := h.trans (Same.of_below _ h2)
theorem NedI.below {w : World} {sb mb n : Nat} {os : List (List Int)} {b2 b3 b7 S best : Nat} {A B : World} (h : NedI w sb mb n os b2 b3 b7 S best A) (hb : Below A.heap.size A B) : NedI w sb mb n os b2 b3 b7 S best B :=
  ⟨same_map h.sw hb, (hb.block _ (heap_lt h.c2)).trans h.c2, (hb.block _ (heap_lt h.c3)).trans h.c3, (hb.block _ (heap_lt h.c7)).trans h.c7, h.kn.kept (hb.block _ h.kn.lt)⟩
set_option linter.unusedSimpArgs false
theorem info93 : (Try.prog.info? 93).map (fun i => i.size) = some 1 := by kernel_rfl
theorem eq93 (d : Nat) (a c : Int) (w : World) : (Op.equalIn (d + 1) 93 (.int .u64 a) (.int .u64 c)).run Try.prog w = .ok (a == c) w := by
  simp [Op.equalIn, run_underlying Try.underlying93, Result.andThen]
theorem eq95 (d : Nat) (a b c e : Int) (w : World) : (Op.equalIn (d + 1 + 1) 95 (.agg #[.int .u64 a, .int .u64 b]) (.agg #[.int .u64 c, .int .u64 e])).run Try.prog w = .ok (a == c && b == e) w := by
  have hi : ∃ i, Try.prog.info? 93 = some i ∧ i.size = 1 := by
    cases h : Try.prog.info? 93 with
    | none => have := info93; rw [h] at this; cases this
    | some i => exact ⟨i, rfl, by have := info93; rw [h] at this; simpa using this⟩
  obtain ⟨i, hi, hs⟩ := hi
  have part0 : ∀ (x y : Int), (part 93 #[.int .u64 x, .int .u64 y] 0).run Try.prog w = .ok (.int .u64 x) w := fun x y => by
    simp [part, run_underlying Try.underlying93, Result.andThen, isAgg]
  have part1 : ∀ (x y : Int), (part 93 #[.int .u64 x, .int .u64 y] 1).run Try.prog w = .ok (.int .u64 y) w := fun x y => by
    simp [part, run_underlying Try.underlying93, Result.andThen, isAgg]
  rw [Op.equalIn]
  simp [run_underlying Try.underlying95, Result.andThen, sizeOf, typeInfo, hi, hs, Std.Legacy.Range.forIn_eq_forIn_range', Std.Legacy.Range.size, List.range', part0, part1, eq93]
  by_cases h1 : a = c <;> by_cases h2 : b = e <;> simp [h1, h2, part0, part1, eq93]
theorem run_cmp95 (X S : Nat) (w : World) : (binOp .neq 95 (leftV X) (leftV S)).run Try.prog w = .ok (.bool (!(loN X == loN S && hiN X == hiN S))) w := by
  have h : (Op.equal 95 (leftV X) (leftV S)).run Try.prog w = .ok (loN X == loN S && hiN X == hiN S) w := eq95 9998 _ _ _ _ w
  simp [binOp, go_sem, h, Result.andThen]
theorem run_neq95 {X S : Nat} (h : X ≠ S) (w : World) : (binOp .neq 95 (leftV X) (leftV S)).run Try.prog w = .ok (.bool true) w := by
  rw [run_cmp95]
  have : (loN X == loN S && hiN X == hiN S) = false := by
    cases e : (loN X == loN S && hiN X == hiN S) with
    | false => rfl
    | true =>
      simp at e
      exact (h (left_inj (by simp [e.1, e.2]))).elim
  rw [this]; rfl
theorem run_eq95 (S : Nat) (w : World) : (binOp .neq 95 (leftV S) (leftV S)).run Try.prog w = .ok (.bool false) w := by
  rw [run_cmp95]; simp
set_option maxRecDepth 100000 in
set_option maxHeartbeats 4000000 in
theorem needs_few {n sb mb : Nat} {os : List (List Int)} {S : Nat} {w : World} (hm : manyS S ≤ 1) (hS : S < 2 ^ 128) (hk : KnownI os n w mb) :
    Calls Try.prog 72 #[.pointer (some ⟨sb, 0, none⟩), leftV S] w fun e w' => e = .returned (.int .i64 (needV os n S : Nat)) ∧ Same (fun k => k = mb) w w' ∧ KnownI os n w' mb := by
  have HS := Lib.hid hS
  have HK := Lib.hid hk
  have HV : Hid (needV os n S = 0) := needV_few hm
  clear hS hk
  refine calls_of_wp_marks Try.func72 rfl ?_
  simp only [Try.ntmps72, List.size_toArray, List.length_cons, List.length_nil, Nat.reduceAdd, Nat.reduceSub, Array.replicate_succ, Array.replicate_zero, List.push_toArray, List.append_toArray, List.nil_append, List.cons_append]
  go_wp2_with fail
  obtain ⟨q0, q1, hz, hb⟩ := heap2 w (.cells #[.pointer (some ⟨sb, 0, none⟩)] 92) (.cells (leftA S) 95)
  revert q0 q1 hz hb
  generalize ((w.alloc (.cells #[.pointer (some ⟨sb, 0, none⟩)] 92)).alloc (.cells (leftA S) 95)) = W1
  intro q0 q1 hz hb
  refine (many_any HS.out W1).mono ?_
  rintro e w2 ⟨rfl, hb2⟩
  have HB := Lib.hid (hb.trans (hb2.mono hb.size))
  have hm' : (manyS S : Int) ≤ 1 := by omega
  clear q0 q1 hz hb hb2
  go_wp2_with fail
  refine ⟨_, results_tmp rfl _ _ _, ?_, Same.of_below _ HB.out, HK.out.kept (HB.out.block _ HK.out.lt)⟩
  rw [HV.out]
  rfl
end Go.Proofs.Ytnfhlbmapfoifaa

