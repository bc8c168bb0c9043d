/- The most pairs: the table. The most pairs. Is there a way? -/
import Derived.Test.YtbnhngfegnhaiaaDoorC2
namespace Go.Proofs.YtbnhngfegnhaiaaDoor
open Go.RowKit
set_option linter.unusedVariables false
set_option linter.unusedSimpArgs false
theorem heap_setCells_same {b : Nat} {c : Array Value} {t : TypeId} {f : Nat × Nat} : ∀ (vs : List Value) (o : Nat) (w : World), w.heap[b]? = some (.cells c t f) → (∀ j v, vs[j]? = some v → c[o + j]? = some v) → (w.setCells b o vs).heap[b]? = some (.cells c t f)
  | [], _, _, h, _ => h
  | v :: vs, o, w, h, hv => by
    show ((w.setCell ⟨b, o, none⟩ v).setCells b (o + 1) vs).heap[b]? = _
    have h0 := hv 0 v rfl
    have h1 : (w.setCell ⟨b, o, none⟩ v).heap[b]? = some (.cells c t f) := by
      have := heap_setCell_at (k := o) h v
      rw [this]
      congr 2
      apply Array.ext_getElem?
      intro i
      rw [Array.getElem?_setIfInBounds]
      split
      · next e =>
        subst e
        split
        · exact h0.symm
        · next h2 => rw [Array.getElem?_eq_none (by omega)]
      · rfl
    exact heap_setCells_same vs (o + 1) _ h1 (fun j u hj => by rw [show o + 1 + j = o + (j + 1) by omega]; exact hv (j + 1) u hj)
theorem below_setCells {B : Nat} {A : World} {b : Nat} (hB : B ≤ b) : ∀ (vs : List Value) (o : Nat) (w : World), Below B A w → Below B A (w.setCells b o vs)
  | [], _, _, h => h
  | v :: vs, o, w, h => below_setCells hB vs (o + 1) _ (h.setCell (p := ⟨b, o, none⟩) hB v)
/-- A table of numbers. -/
def numL (U : Nat → Int) : List Value := (List.range 121).map fun j => .int .i64 (U j)
theorem numL_len (U : Nat → Int) : (numL U).length = 121 := by simp [numL]
theorem numL_get (U : Nat → Int) {j : Nat} (h : j < 121) : (numL U)[j]? = some (.int .i64 (U j)) := by simp [numL, h]
theorem numL_set (U : Nat → Int) {j : Nat} (h : j < 121) (v : Int) : (numL U).set j (.int .i64 v) = numL fun x => if x = j then v else U x := by
  apply List.ext_getElem?
  intro k
  by_cases hk : k < 121
  · rw [numL_get _ hk, List.getElem?_set]
    by_cases he : j = k
    · subst he
      rw [if_pos rfl, if_pos (by rw [numL_len]; exact h), if_pos rfl]
    · rw [if_neg he, numL_get _ hk, if_neg (fun h => he h.symm)]
  · rw [List.getElem?_eq_none (by rw [List.length_set, numL_len]; omega), List.getElem?_eq_none (by rw [numL_len]; omega)]
theorem numL_one (U : Nat → Int) : (numL U).toArray.all (·.oneCell') = true := all_oneCell_toArray fun v hv => by
  unfold numL at hv
  rw [List.mem_map] at hv
  obtain ⟨j, _, rfl⟩ := hv
  rfl
theorem num_cell {w : World} {b : Nat} {U : Nat → Int} {t : TypeId} {f : Nat × Nat} (h : w.heap[b]? = some (.cells (numL U).toArray t f)) {j : Nat} (hj : j < 121) : w.cell? ⟨b, j, none⟩ = some (.int .i64 (U j)) := by
  rw [cell_of_heap h, List.getElem?_toArray, numL_get U hj]
theorem info156 : (Tryd.prog.info? 72).map (·.size) = some 121 := by kernel_rfl
/-- The table, when some rows from the last one on, and some of the next one, are through. -/
def dI (F : Nat → Nat → Bool) (n m i k : Nat) : Nat → Int := fun j => if i < j / 11 ∨ (j / 11 = i ∧ k ≤ j % 11) then (mst F n m (n - j / 11) (m - j % 11) : Int) else 0
theorem mst_zero (F : Nat → Nat → Bool) (n m b : Nat) : mst F n m 0 b = 0 := rfl
theorem mst_zero' (F : Nat → Nat → Bool) (n m : Nat) : ∀ a, mst F n m a 0 = 0
  | 0 => rfl
  | _ + 1 => rfl
theorem mst_step (F : Nat → Nat → Bool) {n m i k : Nat} (hi : i < n) (hk : k < m) : mst F n m (n - i) (m - k) = if F i k then max (max (mst F n m (n - (i + 1)) (m - k)) (mst F n m (n - i) (m - (k + 1)))) (1 + mst F n m (n - (i + 1)) (m - (k + 1))) else max (mst F n m (n - (i + 1)) (m - k)) (mst F n m (n - i) (m - (k + 1))) := by
  have e1 : n - i = (n - (i + 1)) + 1 := by omega
  have e2 : m - k = (m - (k + 1)) + 1 := by omega
  rw [e1, e2]
  show rowB (F (n - (n - (i + 1) + 1))) m (mst F n m (n - (i + 1))) (m - (k + 1) + 1) = _
  unfold rowB
  have e3 : n - (n - (i + 1) + 1) = i := by omega
  have e4 : m - (m - (k + 1) + 1) = k := by omega
  rw [e3, e4]
  have e5 : rowB (F i) m (mst F n m (n - (i + 1))) (m - (k + 1)) = mst F n m (n - (i + 1) + 1) (m - (k + 1)) := by
    show _ = rowB (F (n - (n - (i + 1) + 1))) m (mst F n m (n - (i + 1))) (m - (k + 1))
    rw [e3]
  rw [e5]
theorem dI_start (F : Nat → Nat → Bool) (n m : Nat) : dI F n m n 0 = fun _ => 0 := by
  funext j
  unfold dI
  split
  · next h =>
    have : n - j / 11 = 0 := by omega
    rw [this, mst_zero]
    rfl
  · rfl
theorem dI_row (F : Nat → Nat → Bool) (n m i : Nat) : dI F n m i m = dI F n m (i + 1) 0 := by
  funext j
  unfold dI
  by_cases h1 : i + 1 < j / 11
  · rw [if_pos (.inl (by omega)), if_pos (.inl h1)]
  · by_cases h2 : j / 11 = i + 1
    · rw [if_pos (.inl (by omega)), if_pos (.inr ⟨h2, Nat.zero_le _⟩)]
    · rw [if_neg (c := i + 1 < j / 11 ∨ (j / 11 = i + 1 ∧ 0 ≤ j % 11)) (by omega)]
      split
      · next h =>
        have : m - j % 11 = 0 := by omega
        rw [this, mst_zero']
        rfl
      · rfl
theorem dI_at (F : Nat → Nat → Bool) (n m : Nat) {i k a b : Nat} (hb : b < 11) (h : i < a ∨ (a = i ∧ k ≤ b)) : dI F n m i k (a * 11 + b) = (mst F n m (n - a) (m - b) : Int) := by
  unfold dI
  have e1 : (a * 11 + b) / 11 = a := by omega
  have e2 : (a * 11 + b) % 11 = b := by omega
  rw [e1, e2, if_pos h]
theorem dI_set (F : Nat → Nat → Bool) (n m : Nat) {i k : Nat} (hk : k < 11) : (fun x => if x = i * 11 + k then (mst F n m (n - i) (m - k) : Int) else dI F n m i (k + 1) x) = dI F n m i k := by
  funext x
  by_cases hx : x = i * 11 + k
  · rw [if_pos hx, hx, dI_at F n m hk (.inr ⟨rfl, Nat.le_refl _⟩)]
  · rw [if_neg hx]
    unfold dI
    have h : (i < x / 11 ∨ (x / 11 = i ∧ k + 1 ≤ x % 11)) ↔ (i < x / 11 ∨ (x / 11 = i ∧ k ≤ x % 11)) := by omega
    by_cases h2 : i < x / 11 ∨ (x / 11 = i ∧ k ≤ x % 11)
    · rw [if_pos h2, if_pos (h.2 h2)]
    · rw [if_neg h2, if_neg (fun h3 => h2 (h.1 h3))]
structure mos7F (b2 : Nat) (i : Nat) (k : Nat) (p : Nat) (q : Nat) (x : Int) (y : Int) (S0 : World → Prop) (S1 : World → Prop) (d : Nat → Bool) (x27 x28 x29 x30 x31 x32 x33 x34 x35 x36 x37 x38 x39 x40 x41 x42 x43 : Value) (w : World) : Prop where
  q3 : d 3 = true → d 2 = true
  q5 : d 5 = true → d 3 = true
  q6 : d 6 = true → d 4 = true ∧ d 5 = true
  q7 : d 7 = true → d 6 = true
  q10 : d 10 = true → d 9 = true
  q11 : d 11 = true → d 8 = true
  q12 : d 12 = true → d 10 = true ∧ d 11 = true
  q13 : d 13 = true → d 12 = true
  q14 : d 14 = true → d 7 = true ∧ d 13 = true
  q15 : d 15 = true → d 0 = true
  q16 : d 16 = true → d 0 = true ∧ d 1 = true ∧ d 2 = true ∧ d 3 = true ∧ d 4 = true ∧ d 5 = true ∧ d 6 = true ∧ d 7 = true ∧ d 8 = true ∧ d 9 = true ∧ d 10 = true ∧ d 11 = true ∧ d 12 = true ∧ d 13 = true ∧ d 14 = true ∧ d 15 = true
  q17 : d 17 = true → d 0 = true ∧ d 1 = true ∧ d 2 = true ∧ d 3 = true ∧ d 4 = true ∧ d 5 = true ∧ d 6 = true ∧ d 7 = true ∧ d 8 = true ∧ d 9 = true ∧ d 10 = true ∧ d 11 = true ∧ d 12 = true ∧ d 13 = true ∧ d 14 = true ∧ d 16 = true
  f0 : d 0 = true → x27 = .int .i64 i
  f1 : d 1 = true → x28 = .int .i64 k
  f2 : d 2 = true → x29 = .int .i64 i
  f3 : d 3 = true → x30 = .int .i64 p
  f4 : d 4 = true → x31 = .int .i64 k
  f5 : d 5 = true → x32 = .pointer (some ⟨b2, p * 11, none⟩)
  f6 : d 6 = true → x33 = .pointer (some ⟨b2, p * 11 + k, none⟩)
  f7 : d 7 = true → x34 = .int .i64 x
  f8 : d 8 = true → x35 = .int .i64 i
  f9 : d 9 = true → x36 = .int .i64 k
  f10 : d 10 = true → x37 = .int .i64 q
  f11 : d 11 = true → x38 = .pointer (some ⟨b2, i * 11, none⟩)
  f12 : d 12 = true → x39 = .pointer (some ⟨b2, i * 11 + q, none⟩)
  f13 : d 13 = true → x40 = .int .i64 y
  f14 : d 14 = true → x41 = .int .i64 (max x y)
  f15 : d 15 = true → x42 = .pointer (some ⟨b2, i * 11, none⟩)
  f16 : d 16 = true → x43 = .pointer (some ⟨b2, i * 11 + k, none⟩)
  st0 : d 17 = false → S0 w
  st1 : d 17 = true → S1 w
noncomputable def mos7C : Code := (Tryd.f29.body.bind (regionAt 7)).getD .skip
set_option maxRecDepth 100000 in
set_option maxHeartbeats 4000000 in
theorem mos7 {b2 : Nat} {i : Nat} {k : Nat} {p : Nat} {q : Nat} {x : Int} {y : Int} {S0 : World → Prop} {S1 : World → Prop} {Q : Exit → Act → World → Prop} {W1 : World} (hwi : IntKind.i64.wrap ((i : Int) + 1) = (p : Int)) (hwk : IntKind.i64.wrap ((k : Int) + 1) = (q : Int)) (hi1 : (0 : Int) ≤ i) (hi2 : (i : Int) < 11) (hk1 : (0 : Int) ≤ k) (hk2 : (k : Int) < 11) (hp1 : (0 : Int) ≤ p) (hp2 : (p : Int) < 11) (hq1 : (0 : Int) ≤ q) (hq2 : (q : Int) < 11) (h0 : S0 W1.drew)
    (kl7 : Hid (∀ (w : World), (S0 w) → w.cell? ⟨b2, p * 11 + k, none⟩ = some (.int .i64 x)))
    (kl13 : Hid (∀ (w : World), (S0 w) → w.cell? ⟨b2, i * 11 + q, none⟩ = some (.int .i64 y)))
    (kc17 : Hid (∀ (w : World), S0 w → (∃ u, w.cell? ⟨b2, i * 11 + k, none⟩ = some u) ∧ w.frozen? ⟨b2, i * 11 + k, none⟩ = false ∧ S1 (w.setCell ⟨b2, i * 11 + k, none⟩ (.int .i64 (max x y)))))
    {s0 s1 s5 s6 s7 s8 s9 s10 s11 s12 s13 s14 s15 s16 s17 s18 s19 s20 s21 s22 s23 s24 s25 s26 s27 s28 s29 s30 s31 s32 s33 s34 s35 s36 s37 s38 s39 s40 s41 s42 s43 s44 s45 s46 s47 s48 s49 s50 s51 s52 s53 s54 s55 s56 s57 s58 s59 s60 s61 s62 s63 s64 s65 s66 s67 s68 s69 s70 : Value} {dd : List Deferred}
    (hQ : ∀ (w' : World), S1 w' → Q .normal { tmps := List.toArray (s0 :: s1 :: .pointer (some ⟨b2, 0, none⟩) :: .int .i64 i :: .int .i64 k :: s5 :: s6 :: s7 :: s8 :: s9 :: s10 :: s11 :: s12 :: s13 :: s14 :: s15 :: s16 :: s17 :: s18 :: s19 :: s20 :: s21 :: s22 :: s23 :: s24 :: s25 :: s26 :: .int .i64 i :: .int .i64 k :: .int .i64 i :: .int .i64 p :: .int .i64 k :: .pointer (some ⟨b2, p * 11, none⟩) :: .pointer (some ⟨b2, p * 11 + k, none⟩) :: .int .i64 x :: .int .i64 i :: .int .i64 k :: .int .i64 q :: .pointer (some ⟨b2, i * 11, none⟩) :: .pointer (some ⟨b2, i * 11 + q, none⟩) :: .int .i64 y :: .int .i64 (max x y) :: .pointer (some ⟨b2, i * 11, none⟩) :: .pointer (some ⟨b2, i * 11 + k, none⟩) :: s44 :: s45 :: s46 :: s47 :: s48 :: s49 :: s50 :: s51 :: s52 :: s53 :: s54 :: s55 :: s56 :: s57 :: s58 :: s59 :: s60 :: s61 :: s62 :: s63 :: s64 :: s65 :: s66 :: s67 :: s68 :: s69 :: s70 :: []), defers := dd } w') :
    Code.wpIn (wideAt none) 0 Tryd.prog mos7C Q { tmps := List.toArray (s0 :: s1 :: .pointer (some ⟨b2, 0, none⟩) :: .int .i64 i :: .int .i64 k :: s5 :: s6 :: s7 :: s8 :: s9 :: s10 :: s11 :: s12 :: s13 :: s14 :: s15 :: s16 :: s17 :: s18 :: s19 :: s20 :: s21 :: s22 :: s23 :: s24 :: s25 :: s26 :: s27 :: s28 :: s29 :: s30 :: s31 :: s32 :: s33 :: s34 :: s35 :: s36 :: s37 :: s38 :: s39 :: s40 :: s41 :: s42 :: s43 :: s44 :: s45 :: s46 :: s47 :: s48 :: s49 :: s50 :: s51 :: s52 :: s53 :: s54 :: s55 :: s56 :: s57 :: s58 :: s59 :: s60 :: s61 :: s62 :: s63 :: s64 :: s65 :: s66 :: s67 :: s68 :: s69 :: s70 :: []), defers := dd } W1 := by
  have HQ := Lib.hid hQ
  clear hQ
  conv => arg 4; whnf
  refine wpIn_region_invG mixed (by kernel_rfl) (fun d_ a_ w' => ∃ (x27 : Value) (x28 : Value) (x29 : Value) (x30 : Value) (x31 : Value) (x32 : Value) (x33 : Value) (x34 : Value) (x35 : Value) (x36 : Value) (x37 : Value) (x38 : Value) (x39 : Value) (x40 : Value) (x41 : Value) (x42 : Value) (x43 : Value), a_ = { tmps := List.toArray (s0 :: s1 :: .pointer (some ⟨b2, 0, none⟩) :: .int .i64 i :: .int .i64 k :: s5 :: s6 :: s7 :: s8 :: s9 :: s10 :: s11 :: s12 :: s13 :: s14 :: s15 :: s16 :: s17 :: s18 :: s19 :: s20 :: s21 :: s22 :: s23 :: s24 :: s25 :: s26 :: x27 :: x28 :: x29 :: x30 :: x31 :: x32 :: x33 :: x34 :: x35 :: x36 :: x37 :: x38 :: x39 :: x40 :: x41 :: x42 :: x43 :: s44 :: s45 :: s46 :: s47 :: s48 :: s49 :: s50 :: s51 :: s52 :: s53 :: s54 :: s55 :: s56 :: s57 :: s58 :: s59 :: s60 :: s61 :: s62 :: s63 :: s64 :: s65 :: s66 :: s67 :: s68 :: s69 :: s70 :: []), defers := dd } ∧ mos7F b2 i k p q x y S0 S1 d_ x27 x28 x29 x30 x31 x32 x33 x34 x35 x36 x37 x38 x39 x40 x41 x42 x43 w') ?_ ?_ ?_
  · refine ⟨s27, s28, s29, s30, s31, s32, s33, s34, s35, s36, s37, s38, s39, s40, s41, s42, s43, rfl, ?_⟩
    constructor <;> first | rfl | (intro _; rfl) | (intro h; cases h; done) | (intro _; exact h0) | exact h0
  · refine ⟨?_, ?_, ?_, ?_, ?_, ?_, ?_, ?_, ?_, ?_, ?_, ?_, ?_, ?_, ?_, ?_, ?_, ?_, trivial⟩
    all_goals
      rintro d_ a_ w1 K hd_ hdep ⟨x27, x28, x29, x30, x31, x32, x33, x34, x35, x36, x37, x38, x39, x40, x41, x42, x43, rfl, F⟩ HK
      simp [Region.binds] at hdep
    · have HF : Hid (mos7F b2 i k p q x y S0 S1 (upd d_ 0) (.int .i64 i) x28 x29 x30 x31 x32 x33 x34 x35 x36 x37 x38 x39 x40 x41 x42 x43 w1) := ⟨F.q3, F.q5, F.q6, F.q7, F.q10, F.q11, F.q12, F.q13, F.q14, fun h => rfl, fun h => ⟨rfl, (F.q16 h).2.1, (F.q16 h).2.2.1, (F.q16 h).2.2.2.1, (F.q16 h).2.2.2.2.1, (F.q16 h).2.2.2.2.2.1, (F.q16 h).2.2.2.2.2.2.1, (F.q16 h).2.2.2.2.2.2.2.1, (F.q16 h).2.2.2.2.2.2.2.2.1, (F.q16 h).2.2.2.2.2.2.2.2.2.1, (F.q16 h).2.2.2.2.2.2.2.2.2.2.1, (F.q16 h).2.2.2.2.2.2.2.2.2.2.2.1, (F.q16 h).2.2.2.2.2.2.2.2.2.2.2.2.1, (F.q16 h).2.2.2.2.2.2.2.2.2.2.2.2.2.1, (F.q16 h).2.2.2.2.2.2.2.2.2.2.2.2.2.2.1, (F.q16 h).2.2.2.2.2.2.2.2.2.2.2.2.2.2.2⟩, fun h => ⟨rfl, (F.q17 h).2.1, (F.q17 h).2.2.1, (F.q17 h).2.2.2.1, (F.q17 h).2.2.2.2.1, (F.q17 h).2.2.2.2.2.1, (F.q17 h).2.2.2.2.2.2.1, (F.q17 h).2.2.2.2.2.2.2.1, (F.q17 h).2.2.2.2.2.2.2.2.1, (F.q17 h).2.2.2.2.2.2.2.2.2.1, (F.q17 h).2.2.2.2.2.2.2.2.2.2.1, (F.q17 h).2.2.2.2.2.2.2.2.2.2.2.1, (F.q17 h).2.2.2.2.2.2.2.2.2.2.2.2.1, (F.q17 h).2.2.2.2.2.2.2.2.2.2.2.2.2.1, (F.q17 h).2.2.2.2.2.2.2.2.2.2.2.2.2.2.1, (F.q17 h).2.2.2.2.2.2.2.2.2.2.2.2.2.2.2⟩, fun _ => rfl, F.f1, F.f2, F.f3, F.f4, F.f5, F.f6, F.f7, F.f8, F.f9, F.f10, F.f11, F.f12, F.f13, F.f14, F.f15, F.f16, F.st0, F.st1⟩
      clear F
      go_simp
      exact HK.out _ _ ⟨_, _, _, _, _, _, _, _, _, _, _, _, _, _, _, _, _, rfl, HF.out⟩
    · have HF : Hid (mos7F b2 i k p q x y S0 S1 (upd d_ 1) x27 (.int .i64 k) x29 x30 x31 x32 x33 x34 x35 x36 x37 x38 x39 x40 x41 x42 x43 w1) := ⟨F.q3, F.q5, F.q6, F.q7, F.q10, F.q11, F.q12, F.q13, F.q14, F.q15, fun h => ⟨(F.q16 h).1, rfl, (F.q16 h).2.2.1, (F.q16 h).2.2.2.1, (F.q16 h).2.2.2.2.1, (F.q16 h).2.2.2.2.2.1, (F.q16 h).2.2.2.2.2.2.1, (F.q16 h).2.2.2.2.2.2.2.1, (F.q16 h).2.2.2.2.2.2.2.2.1, (F.q16 h).2.2.2.2.2.2.2.2.2.1, (F.q16 h).2.2.2.2.2.2.2.2.2.2.1, (F.q16 h).2.2.2.2.2.2.2.2.2.2.2.1, (F.q16 h).2.2.2.2.2.2.2.2.2.2.2.2.1, (F.q16 h).2.2.2.2.2.2.2.2.2.2.2.2.2.1, (F.q16 h).2.2.2.2.2.2.2.2.2.2.2.2.2.2.1, (F.q16 h).2.2.2.2.2.2.2.2.2.2.2.2.2.2.2⟩, fun h => ⟨(F.q17 h).1, rfl, (F.q17 h).2.2.1, (F.q17 h).2.2.2.1, (F.q17 h).2.2.2.2.1, (F.q17 h).2.2.2.2.2.1, (F.q17 h).2.2.2.2.2.2.1, (F.q17 h).2.2.2.2.2.2.2.1, (F.q17 h).2.2.2.2.2.2.2.2.1, (F.q17 h).2.2.2.2.2.2.2.2.2.1, (F.q17 h).2.2.2.2.2.2.2.2.2.2.1, (F.q17 h).2.2.2.2.2.2.2.2.2.2.2.1, (F.q17 h).2.2.2.2.2.2.2.2.2.2.2.2.1, (F.q17 h).2.2.2.2.2.2.2.2.2.2.2.2.2.1, (F.q17 h).2.2.2.2.2.2.2.2.2.2.2.2.2.2.1, (F.q17 h).2.2.2.2.2.2.2.2.2.2.2.2.2.2.2⟩, F.f0, fun _ => rfl, F.f2, F.f3, F.f4, F.f5, F.f6, F.f7, F.f8, F.f9, F.f10, F.f11, F.f12, F.f13, F.f14, F.f15, F.f16, F.st0, F.st1⟩
      clear F
      go_simp
      exact HK.out _ _ ⟨_, _, _, _, _, _, _, _, _, _, _, _, _, _, _, _, _, rfl, HF.out⟩
    · have HF : Hid (mos7F b2 i k p q x y S0 S1 (upd d_ 2) x27 x28 (.int .i64 i) x30 x31 x32 x33 x34 x35 x36 x37 x38 x39 x40 x41 x42 x43 w1) := ⟨fun h => rfl, F.q5, F.q6, F.q7, F.q10, F.q11, F.q12, F.q13, F.q14, F.q15, fun h => ⟨(F.q16 h).1, (F.q16 h).2.1, rfl, (F.q16 h).2.2.2.1, (F.q16 h).2.2.2.2.1, (F.q16 h).2.2.2.2.2.1, (F.q16 h).2.2.2.2.2.2.1, (F.q16 h).2.2.2.2.2.2.2.1, (F.q16 h).2.2.2.2.2.2.2.2.1, (F.q16 h).2.2.2.2.2.2.2.2.2.1, (F.q16 h).2.2.2.2.2.2.2.2.2.2.1, (F.q16 h).2.2.2.2.2.2.2.2.2.2.2.1, (F.q16 h).2.2.2.2.2.2.2.2.2.2.2.2.1, (F.q16 h).2.2.2.2.2.2.2.2.2.2.2.2.2.1, (F.q16 h).2.2.2.2.2.2.2.2.2.2.2.2.2.2.1, (F.q16 h).2.2.2.2.2.2.2.2.2.2.2.2.2.2.2⟩, fun h => ⟨(F.q17 h).1, (F.q17 h).2.1, rfl, (F.q17 h).2.2.2.1, (F.q17 h).2.2.2.2.1, (F.q17 h).2.2.2.2.2.1, (F.q17 h).2.2.2.2.2.2.1, (F.q17 h).2.2.2.2.2.2.2.1, (F.q17 h).2.2.2.2.2.2.2.2.1, (F.q17 h).2.2.2.2.2.2.2.2.2.1, (F.q17 h).2.2.2.2.2.2.2.2.2.2.1, (F.q17 h).2.2.2.2.2.2.2.2.2.2.2.1, (F.q17 h).2.2.2.2.2.2.2.2.2.2.2.2.1, (F.q17 h).2.2.2.2.2.2.2.2.2.2.2.2.2.1, (F.q17 h).2.2.2.2.2.2.2.2.2.2.2.2.2.2.1, (F.q17 h).2.2.2.2.2.2.2.2.2.2.2.2.2.2.2⟩, F.f0, F.f1, fun _ => rfl, F.f3, F.f4, F.f5, F.f6, F.f7, F.f8, F.f9, F.f10, F.f11, F.f12, F.f13, F.f14, F.f15, F.f16, F.st0, F.st1⟩
      clear F
      go_simp
      exact HK.out _ _ ⟨_, _, _, _, _, _, _, _, _, _, _, _, _, _, _, _, _, rfl, HF.out⟩
    · obtain rfl := F.f2 (by simp [hdep])
      have HF : Hid (mos7F b2 i k p q x y S0 S1 (upd d_ 3) x27 x28 (.int .i64 i) (.int .i64 p) x31 x32 x33 x34 x35 x36 x37 x38 x39 x40 x41 x42 x43 w1) := ⟨fun _ => (show _ from (by simp [hdep] : d_ 2 = true)), fun h => rfl, F.q6, F.q7, F.q10, F.q11, F.q12, F.q13, F.q14, F.q15, fun h => ⟨(F.q16 h).1, (F.q16 h).2.1, (F.q16 h).2.2.1, rfl, (F.q16 h).2.2.2.2.1, (F.q16 h).2.2.2.2.2.1, (F.q16 h).2.2.2.2.2.2.1, (F.q16 h).2.2.2.2.2.2.2.1, (F.q16 h).2.2.2.2.2.2.2.2.1, (F.q16 h).2.2.2.2.2.2.2.2.2.1, (F.q16 h).2.2.2.2.2.2.2.2.2.2.1, (F.q16 h).2.2.2.2.2.2.2.2.2.2.2.1, (F.q16 h).2.2.2.2.2.2.2.2.2.2.2.2.1, (F.q16 h).2.2.2.2.2.2.2.2.2.2.2.2.2.1, (F.q16 h).2.2.2.2.2.2.2.2.2.2.2.2.2.2.1, (F.q16 h).2.2.2.2.2.2.2.2.2.2.2.2.2.2.2⟩, fun h => ⟨(F.q17 h).1, (F.q17 h).2.1, (F.q17 h).2.2.1, rfl, (F.q17 h).2.2.2.2.1, (F.q17 h).2.2.2.2.2.1, (F.q17 h).2.2.2.2.2.2.1, (F.q17 h).2.2.2.2.2.2.2.1, (F.q17 h).2.2.2.2.2.2.2.2.1, (F.q17 h).2.2.2.2.2.2.2.2.2.1, (F.q17 h).2.2.2.2.2.2.2.2.2.2.1, (F.q17 h).2.2.2.2.2.2.2.2.2.2.2.1, (F.q17 h).2.2.2.2.2.2.2.2.2.2.2.2.1, (F.q17 h).2.2.2.2.2.2.2.2.2.2.2.2.2.1, (F.q17 h).2.2.2.2.2.2.2.2.2.2.2.2.2.2.1, (F.q17 h).2.2.2.2.2.2.2.2.2.2.2.2.2.2.2⟩, F.f0, F.f1, F.f2, fun _ => rfl, F.f4, F.f5, F.f6, F.f7, F.f8, F.f9, F.f10, F.f11, F.f12, F.f13, F.f14, F.f15, F.f16, F.st0, F.st1⟩
      clear F
      go_simp
      exact HK.out _ _ ⟨_, _, _, _, _, _, _, _, _, _, _, _, _, _, _, _, _, rfl, HF.out⟩
    · have HF : Hid (mos7F b2 i k p q x y S0 S1 (upd d_ 4) x27 x28 x29 x30 (.int .i64 k) x32 x33 x34 x35 x36 x37 x38 x39 x40 x41 x42 x43 w1) := ⟨F.q3, F.q5, fun h => ⟨rfl, (F.q6 h).2⟩, F.q7, F.q10, F.q11, F.q12, F.q13, F.q14, F.q15, fun h => ⟨(F.q16 h).1, (F.q16 h).2.1, (F.q16 h).2.2.1, (F.q16 h).2.2.2.1, rfl, (F.q16 h).2.2.2.2.2.1, (F.q16 h).2.2.2.2.2.2.1, (F.q16 h).2.2.2.2.2.2.2.1, (F.q16 h).2.2.2.2.2.2.2.2.1, (F.q16 h).2.2.2.2.2.2.2.2.2.1, (F.q16 h).2.2.2.2.2.2.2.2.2.2.1, (F.q16 h).2.2.2.2.2.2.2.2.2.2.2.1, (F.q16 h).2.2.2.2.2.2.2.2.2.2.2.2.1, (F.q16 h).2.2.2.2.2.2.2.2.2.2.2.2.2.1, (F.q16 h).2.2.2.2.2.2.2.2.2.2.2.2.2.2.1, (F.q16 h).2.2.2.2.2.2.2.2.2.2.2.2.2.2.2⟩, fun h => ⟨(F.q17 h).1, (F.q17 h).2.1, (F.q17 h).2.2.1, (F.q17 h).2.2.2.1, rfl, (F.q17 h).2.2.2.2.2.1, (F.q17 h).2.2.2.2.2.2.1, (F.q17 h).2.2.2.2.2.2.2.1, (F.q17 h).2.2.2.2.2.2.2.2.1, (F.q17 h).2.2.2.2.2.2.2.2.2.1, (F.q17 h).2.2.2.2.2.2.2.2.2.2.1, (F.q17 h).2.2.2.2.2.2.2.2.2.2.2.1, (F.q17 h).2.2.2.2.2.2.2.2.2.2.2.2.1, (F.q17 h).2.2.2.2.2.2.2.2.2.2.2.2.2.1, (F.q17 h).2.2.2.2.2.2.2.2.2.2.2.2.2.2.1, (F.q17 h).2.2.2.2.2.2.2.2.2.2.2.2.2.2.2⟩, F.f0, F.f1, F.f2, F.f3, fun _ => rfl, F.f5, F.f6, F.f7, F.f8, F.f9, F.f10, F.f11, F.f12, F.f13, F.f14, F.f15, F.f16, F.st0, F.st1⟩
      clear F
      go_simp
      exact HK.out _ _ ⟨_, _, _, _, _, _, _, _, _, _, _, _, _, _, _, _, _, rfl, HF.out⟩
    · obtain rfl := F.f3 (by simp [hdep])
      have HF : Hid (mos7F b2 i k p q x y S0 S1 (upd d_ 5) x27 x28 x29 (.int .i64 p) x31 (.pointer (some ⟨b2, p * 11, none⟩)) x33 x34 x35 x36 x37 x38 x39 x40 x41 x42 x43 w1) := ⟨F.q3, fun _ => (show _ from (by simp [hdep] : d_ 3 = true)), fun h => ⟨(F.q6 h).1, rfl⟩, F.q7, F.q10, F.q11, F.q12, F.q13, F.q14, F.q15, fun h => ⟨(F.q16 h).1, (F.q16 h).2.1, (F.q16 h).2.2.1, (F.q16 h).2.2.2.1, (F.q16 h).2.2.2.2.1, rfl, (F.q16 h).2.2.2.2.2.2.1, (F.q16 h).2.2.2.2.2.2.2.1, (F.q16 h).2.2.2.2.2.2.2.2.1, (F.q16 h).2.2.2.2.2.2.2.2.2.1, (F.q16 h).2.2.2.2.2.2.2.2.2.2.1, (F.q16 h).2.2.2.2.2.2.2.2.2.2.2.1, (F.q16 h).2.2.2.2.2.2.2.2.2.2.2.2.1, (F.q16 h).2.2.2.2.2.2.2.2.2.2.2.2.2.1, (F.q16 h).2.2.2.2.2.2.2.2.2.2.2.2.2.2.1, (F.q16 h).2.2.2.2.2.2.2.2.2.2.2.2.2.2.2⟩, fun h => ⟨(F.q17 h).1, (F.q17 h).2.1, (F.q17 h).2.2.1, (F.q17 h).2.2.2.1, (F.q17 h).2.2.2.2.1, rfl, (F.q17 h).2.2.2.2.2.2.1, (F.q17 h).2.2.2.2.2.2.2.1, (F.q17 h).2.2.2.2.2.2.2.2.1, (F.q17 h).2.2.2.2.2.2.2.2.2.1, (F.q17 h).2.2.2.2.2.2.2.2.2.2.1, (F.q17 h).2.2.2.2.2.2.2.2.2.2.2.1, (F.q17 h).2.2.2.2.2.2.2.2.2.2.2.2.1, (F.q17 h).2.2.2.2.2.2.2.2.2.2.2.2.2.1, (F.q17 h).2.2.2.2.2.2.2.2.2.2.2.2.2.2.1, (F.q17 h).2.2.2.2.2.2.2.2.2.2.2.2.2.2.2⟩, F.f0, F.f1, F.f2, F.f3, F.f4, fun _ => rfl, F.f6, F.f7, F.f8, F.f9, F.f10, F.f11, F.f12, F.f13, F.f14, F.f15, F.f16, F.st0, F.st1⟩
      clear F
      go_simp
      exact HK.out _ _ ⟨_, _, _, _, _, _, _, _, _, _, _, _, _, _, _, _, _, rfl, HF.out⟩
    · obtain rfl := F.f4 (by simp [hdep])
      obtain rfl := F.f5 (by simp [hdep])
      have HF : Hid (mos7F b2 i k p q x y S0 S1 (upd d_ 6) x27 x28 x29 x30 (.int .i64 k) (.pointer (some ⟨b2, p * 11, none⟩)) (.pointer (some ⟨b2, p * 11 + k, none⟩)) x34 x35 x36 x37 x38 x39 x40 x41 x42 x43 w1) := ⟨F.q3, F.q5, fun _ => ⟨(show _ from (by simp [hdep] : d_ 4 = true)), (show _ from (by simp [hdep] : d_ 5 = true))⟩, fun h => rfl, F.q10, F.q11, F.q12, F.q13, F.q14, F.q15, fun h => ⟨(F.q16 h).1, (F.q16 h).2.1, (F.q16 h).2.2.1, (F.q16 h).2.2.2.1, (F.q16 h).2.2.2.2.1, (F.q16 h).2.2.2.2.2.1, rfl, (F.q16 h).2.2.2.2.2.2.2.1, (F.q16 h).2.2.2.2.2.2.2.2.1, (F.q16 h).2.2.2.2.2.2.2.2.2.1, (F.q16 h).2.2.2.2.2.2.2.2.2.2.1, (F.q16 h).2.2.2.2.2.2.2.2.2.2.2.1, (F.q16 h).2.2.2.2.2.2.2.2.2.2.2.2.1, (F.q16 h).2.2.2.2.2.2.2.2.2.2.2.2.2.1, (F.q16 h).2.2.2.2.2.2.2.2.2.2.2.2.2.2.1, (F.q16 h).2.2.2.2.2.2.2.2.2.2.2.2.2.2.2⟩, fun h => ⟨(F.q17 h).1, (F.q17 h).2.1, (F.q17 h).2.2.1, (F.q17 h).2.2.2.1, (F.q17 h).2.2.2.2.1, (F.q17 h).2.2.2.2.2.1, rfl, (F.q17 h).2.2.2.2.2.2.2.1, (F.q17 h).2.2.2.2.2.2.2.2.1, (F.q17 h).2.2.2.2.2.2.2.2.2.1, (F.q17 h).2.2.2.2.2.2.2.2.2.2.1, (F.q17 h).2.2.2.2.2.2.2.2.2.2.2.1, (F.q17 h).2.2.2.2.2.2.2.2.2.2.2.2.1, (F.q17 h).2.2.2.2.2.2.2.2.2.2.2.2.2.1, (F.q17 h).2.2.2.2.2.2.2.2.2.2.2.2.2.2.1, (F.q17 h).2.2.2.2.2.2.2.2.2.2.2.2.2.2.2⟩, F.f0, F.f1, F.f2, F.f3, F.f4, F.f5, fun _ => rfl, F.f7, F.f8, F.f9, F.f10, F.f11, F.f12, F.f13, F.f14, F.f15, F.f16, F.st0, F.st1⟩
      clear F
      go_simp
      exact HK.out _ _ ⟨_, _, _, _, _, _, _, _, _, _, _, _, _, _, _, _, _, rfl, HF.out⟩
    · have hst : S0 w1 := by
        have n_ : d_ 17 = false := by
          cases e_ : d_ 17 with
          | false => rfl
          | true => have h2 := (F.q17 e_).2.2.2.2.2.2.2.1; rw [show d_ 7 = false from hd_] at h2; cases h2
        exact (F.st0 n_)
      have kk := kl7.out w1 hst
      clear hst
      obtain rfl := F.f6 (by simp [hdep])
      have HF : Hid (mos7F b2 i k p q x y S0 S1 (upd d_ 7) x27 x28 x29 x30 x31 x32 (.pointer (some ⟨b2, p * 11 + k, none⟩)) (.int .i64 x) x35 x36 x37 x38 x39 x40 x41 x42 x43 w1) := ⟨F.q3, F.q5, F.q6, fun _ => (show _ from (by simp [hdep] : d_ 6 = true)), F.q10, F.q11, F.q12, F.q13, fun h => ⟨rfl, (F.q14 h).2⟩, F.q15, fun h => ⟨(F.q16 h).1, (F.q16 h).2.1, (F.q16 h).2.2.1, (F.q16 h).2.2.2.1, (F.q16 h).2.2.2.2.1, (F.q16 h).2.2.2.2.2.1, (F.q16 h).2.2.2.2.2.2.1, rfl, (F.q16 h).2.2.2.2.2.2.2.2.1, (F.q16 h).2.2.2.2.2.2.2.2.2.1, (F.q16 h).2.2.2.2.2.2.2.2.2.2.1, (F.q16 h).2.2.2.2.2.2.2.2.2.2.2.1, (F.q16 h).2.2.2.2.2.2.2.2.2.2.2.2.1, (F.q16 h).2.2.2.2.2.2.2.2.2.2.2.2.2.1, (F.q16 h).2.2.2.2.2.2.2.2.2.2.2.2.2.2.1, (F.q16 h).2.2.2.2.2.2.2.2.2.2.2.2.2.2.2⟩, fun h => ⟨(F.q17 h).1, (F.q17 h).2.1, (F.q17 h).2.2.1, (F.q17 h).2.2.2.1, (F.q17 h).2.2.2.2.1, (F.q17 h).2.2.2.2.2.1, (F.q17 h).2.2.2.2.2.2.1, rfl, (F.q17 h).2.2.2.2.2.2.2.2.1, (F.q17 h).2.2.2.2.2.2.2.2.2.1, (F.q17 h).2.2.2.2.2.2.2.2.2.2.1, (F.q17 h).2.2.2.2.2.2.2.2.2.2.2.1, (F.q17 h).2.2.2.2.2.2.2.2.2.2.2.2.1, (F.q17 h).2.2.2.2.2.2.2.2.2.2.2.2.2.1, (F.q17 h).2.2.2.2.2.2.2.2.2.2.2.2.2.2.1, (F.q17 h).2.2.2.2.2.2.2.2.2.2.2.2.2.2.2⟩, F.f0, F.f1, F.f2, F.f3, F.f4, F.f5, F.f6, fun _ => rfl, F.f8, F.f9, F.f10, F.f11, F.f12, F.f13, F.f14, F.f15, F.f16, F.st0, F.st1⟩
      clear F
      go_simp
      exact HK.out _ _ ⟨_, _, _, _, _, _, _, _, _, _, _, _, _, _, _, _, _, rfl, HF.out⟩
    · have HF : Hid (mos7F b2 i k p q x y S0 S1 (upd d_ 8) x27 x28 x29 x30 x31 x32 x33 x34 (.int .i64 i) x36 x37 x38 x39 x40 x41 x42 x43 w1) := ⟨F.q3, F.q5, F.q6, F.q7, F.q10, fun h => rfl, F.q12, F.q13, F.q14, F.q15, fun h => ⟨(F.q16 h).1, (F.q16 h).2.1, (F.q16 h).2.2.1, (F.q16 h).2.2.2.1, (F.q16 h).2.2.2.2.1, (F.q16 h).2.2.2.2.2.1, (F.q16 h).2.2.2.2.2.2.1, (F.q16 h).2.2.2.2.2.2.2.1, rfl, (F.q16 h).2.2.2.2.2.2.2.2.2.1, (F.q16 h).2.2.2.2.2.2.2.2.2.2.1, (F.q16 h).2.2.2.2.2.2.2.2.2.2.2.1, (F.q16 h).2.2.2.2.2.2.2.2.2.2.2.2.1, (F.q16 h).2.2.2.2.2.2.2.2.2.2.2.2.2.1, (F.q16 h).2.2.2.2.2.2.2.2.2.2.2.2.2.2.1, (F.q16 h).2.2.2.2.2.2.2.2.2.2.2.2.2.2.2⟩, fun h => ⟨(F.q17 h).1, (F.q17 h).2.1, (F.q17 h).2.2.1, (F.q17 h).2.2.2.1, (F.q17 h).2.2.2.2.1, (F.q17 h).2.2.2.2.2.1, (F.q17 h).2.2.2.2.2.2.1, (F.q17 h).2.2.2.2.2.2.2.1, rfl, (F.q17 h).2.2.2.2.2.2.2.2.2.1, (F.q17 h).2.2.2.2.2.2.2.2.2.2.1, (F.q17 h).2.2.2.2.2.2.2.2.2.2.2.1, (F.q17 h).2.2.2.2.2.2.2.2.2.2.2.2.1, (F.q17 h).2.2.2.2.2.2.2.2.2.2.2.2.2.1, (F.q17 h).2.2.2.2.2.2.2.2.2.2.2.2.2.2.1, (F.q17 h).2.2.2.2.2.2.2.2.2.2.2.2.2.2.2⟩, F.f0, F.f1, F.f2, F.f3, F.f4, F.f5, F.f6, F.f7, fun _ => rfl, F.f9, F.f10, F.f11, F.f12, F.f13, F.f14, F.f15, F.f16, F.st0, F.st1⟩
      clear F
      go_simp
      exact HK.out _ _ ⟨_, _, _, _, _, _, _, _, _, _, _, _, _, _, _, _, _, rfl, HF.out⟩
    · have HF : Hid (mos7F b2 i k p q x y S0 S1 (upd d_ 9) x27 x28 x29 x30 x31 x32 x33 x34 x35 (.int .i64 k) x37 x38 x39 x40 x41 x42 x43 w1) := ⟨F.q3, F.q5, F.q6, F.q7, fun h => rfl, F.q11, F.q12, F.q13, F.q14, F.q15, fun h => ⟨(F.q16 h).1, (F.q16 h).2.1, (F.q16 h).2.2.1, (F.q16 h).2.2.2.1, (F.q16 h).2.2.2.2.1, (F.q16 h).2.2.2.2.2.1, (F.q16 h).2.2.2.2.2.2.1, (F.q16 h).2.2.2.2.2.2.2.1, (F.q16 h).2.2.2.2.2.2.2.2.1, rfl, (F.q16 h).2.2.2.2.2.2.2.2.2.2.1, (F.q16 h).2.2.2.2.2.2.2.2.2.2.2.1, (F.q16 h).2.2.2.2.2.2.2.2.2.2.2.2.1, (F.q16 h).2.2.2.2.2.2.2.2.2.2.2.2.2.1, (F.q16 h).2.2.2.2.2.2.2.2.2.2.2.2.2.2.1, (F.q16 h).2.2.2.2.2.2.2.2.2.2.2.2.2.2.2⟩, fun h => ⟨(F.q17 h).1, (F.q17 h).2.1, (F.q17 h).2.2.1, (F.q17 h).2.2.2.1, (F.q17 h).2.2.2.2.1, (F.q17 h).2.2.2.2.2.1, (F.q17 h).2.2.2.2.2.2.1, (F.q17 h).2.2.2.2.2.2.2.1, (F.q17 h).2.2.2.2.2.2.2.2.1, rfl, (F.q17 h).2.2.2.2.2.2.2.2.2.2.1, (F.q17 h).2.2.2.2.2.2.2.2.2.2.2.1, (F.q17 h).2.2.2.2.2.2.2.2.2.2.2.2.1, (F.q17 h).2.2.2.2.2.2.2.2.2.2.2.2.2.1, (F.q17 h).2.2.2.2.2.2.2.2.2.2.2.2.2.2.1, (F.q17 h).2.2.2.2.2.2.2.2.2.2.2.2.2.2.2⟩, F.f0, F.f1, F.f2, F.f3, F.f4, F.f5, F.f6, F.f7, F.f8, fun _ => rfl, F.f10, F.f11, F.f12, F.f13, F.f14, F.f15, F.f16, F.st0, F.st1⟩
      clear F
      go_simp
      exact HK.out _ _ ⟨_, _, _, _, _, _, _, _, _, _, _, _, _, _, _, _, _, rfl, HF.out⟩
    · obtain rfl := F.f9 (by simp [hdep])
      have HF : Hid (mos7F b2 i k p q x y S0 S1 (upd d_ 10) x27 x28 x29 x30 x31 x32 x33 x34 x35 (.int .i64 k) (.int .i64 q) x38 x39 x40 x41 x42 x43 w1) := ⟨F.q3, F.q5, F.q6, F.q7, fun _ => (show _ from (by simp [hdep] : d_ 9 = true)), F.q11, fun h => ⟨rfl, (F.q12 h).2⟩, F.q13, F.q14, F.q15, fun h => ⟨(F.q16 h).1, (F.q16 h).2.1, (F.q16 h).2.2.1, (F.q16 h).2.2.2.1, (F.q16 h).2.2.2.2.1, (F.q16 h).2.2.2.2.2.1, (F.q16 h).2.2.2.2.2.2.1, (F.q16 h).2.2.2.2.2.2.2.1, (F.q16 h).2.2.2.2.2.2.2.2.1, (F.q16 h).2.2.2.2.2.2.2.2.2.1, rfl, (F.q16 h).2.2.2.2.2.2.2.2.2.2.2.1, (F.q16 h).2.2.2.2.2.2.2.2.2.2.2.2.1, (F.q16 h).2.2.2.2.2.2.2.2.2.2.2.2.2.1, (F.q16 h).2.2.2.2.2.2.2.2.2.2.2.2.2.2.1, (F.q16 h).2.2.2.2.2.2.2.2.2.2.2.2.2.2.2⟩, fun h => ⟨(F.q17 h).1, (F.q17 h).2.1, (F.q17 h).2.2.1, (F.q17 h).2.2.2.1, (F.q17 h).2.2.2.2.1, (F.q17 h).2.2.2.2.2.1, (F.q17 h).2.2.2.2.2.2.1, (F.q17 h).2.2.2.2.2.2.2.1, (F.q17 h).2.2.2.2.2.2.2.2.1, (F.q17 h).2.2.2.2.2.2.2.2.2.1, rfl, (F.q17 h).2.2.2.2.2.2.2.2.2.2.2.1, (F.q17 h).2.2.2.2.2.2.2.2.2.2.2.2.1, (F.q17 h).2.2.2.2.2.2.2.2.2.2.2.2.2.1, (F.q17 h).2.2.2.2.2.2.2.2.2.2.2.2.2.2.1, (F.q17 h).2.2.2.2.2.2.2.2.2.2.2.2.2.2.2⟩, F.f0, F.f1, F.f2, F.f3, F.f4, F.f5, F.f6, F.f7, F.f8, F.f9, fun _ => rfl, F.f11, F.f12, F.f13, F.f14, F.f15, F.f16, F.st0, F.st1⟩
      clear F
      go_simp
      exact HK.out _ _ ⟨_, _, _, _, _, _, _, _, _, _, _, _, _, _, _, _, _, rfl, HF.out⟩
    · obtain rfl := F.f8 (by simp [hdep])
      have HF : Hid (mos7F b2 i k p q x y S0 S1 (upd d_ 11) x27 x28 x29 x30 x31 x32 x33 x34 (.int .i64 i) x36 x37 (.pointer (some ⟨b2, i * 11, none⟩)) x39 x40 x41 x42 x43 w1) := ⟨F.q3, F.q5, F.q6, F.q7, F.q10, fun _ => (show _ from (by simp [hdep] : d_ 8 = true)), fun h => ⟨(F.q12 h).1, rfl⟩, F.q13, F.q14, F.q15, fun h => ⟨(F.q16 h).1, (F.q16 h).2.1, (F.q16 h).2.2.1, (F.q16 h).2.2.2.1, (F.q16 h).2.2.2.2.1, (F.q16 h).2.2.2.2.2.1, (F.q16 h).2.2.2.2.2.2.1, (F.q16 h).2.2.2.2.2.2.2.1, (F.q16 h).2.2.2.2.2.2.2.2.1, (F.q16 h).2.2.2.2.2.2.2.2.2.1, (F.q16 h).2.2.2.2.2.2.2.2.2.2.1, rfl, (F.q16 h).2.2.2.2.2.2.2.2.2.2.2.2.1, (F.q16 h).2.2.2.2.2.2.2.2.2.2.2.2.2.1, (F.q16 h).2.2.2.2.2.2.2.2.2.2.2.2.2.2.1, (F.q16 h).2.2.2.2.2.2.2.2.2.2.2.2.2.2.2⟩, fun h => ⟨(F.q17 h).1, (F.q17 h).2.1, (F.q17 h).2.2.1, (F.q17 h).2.2.2.1, (F.q17 h).2.2.2.2.1, (F.q17 h).2.2.2.2.2.1, (F.q17 h).2.2.2.2.2.2.1, (F.q17 h).2.2.2.2.2.2.2.1, (F.q17 h).2.2.2.2.2.2.2.2.1, (F.q17 h).2.2.2.2.2.2.2.2.2.1, (F.q17 h).2.2.2.2.2.2.2.2.2.2.1, rfl, (F.q17 h).2.2.2.2.2.2.2.2.2.2.2.2.1, (F.q17 h).2.2.2.2.2.2.2.2.2.2.2.2.2.1, (F.q17 h).2.2.2.2.2.2.2.2.2.2.2.2.2.2.1, (F.q17 h).2.2.2.2.2.2.2.2.2.2.2.2.2.2.2⟩, F.f0, F.f1, F.f2, F.f3, F.f4, F.f5, F.f6, F.f7, F.f8, F.f9, F.f10, fun _ => rfl, F.f12, F.f13, F.f14, F.f15, F.f16, F.st0, F.st1⟩
      clear F
      go_simp
      exact HK.out _ _ ⟨_, _, _, _, _, _, _, _, _, _, _, _, _, _, _, _, _, rfl, HF.out⟩
    · obtain rfl := F.f10 (by simp [hdep])
      obtain rfl := F.f11 (by simp [hdep])
      have HF : Hid (mos7F b2 i k p q x y S0 S1 (upd d_ 12) x27 x28 x29 x30 x31 x32 x33 x34 x35 x36 (.int .i64 q) (.pointer (some ⟨b2, i * 11, none⟩)) (.pointer (some ⟨b2, i * 11 + q, none⟩)) x40 x41 x42 x43 w1) := ⟨F.q3, F.q5, F.q6, F.q7, F.q10, F.q11, fun _ => ⟨(show _ from (by simp [hdep] : d_ 10 = true)), (show _ from (by simp [hdep] : d_ 11 = true))⟩, fun h => rfl, F.q14, F.q15, fun h => ⟨(F.q16 h).1, (F.q16 h).2.1, (F.q16 h).2.2.1, (F.q16 h).2.2.2.1, (F.q16 h).2.2.2.2.1, (F.q16 h).2.2.2.2.2.1, (F.q16 h).2.2.2.2.2.2.1, (F.q16 h).2.2.2.2.2.2.2.1, (F.q16 h).2.2.2.2.2.2.2.2.1, (F.q16 h).2.2.2.2.2.2.2.2.2.1, (F.q16 h).2.2.2.2.2.2.2.2.2.2.1, (F.q16 h).2.2.2.2.2.2.2.2.2.2.2.1, rfl, (F.q16 h).2.2.2.2.2.2.2.2.2.2.2.2.2.1, (F.q16 h).2.2.2.2.2.2.2.2.2.2.2.2.2.2.1, (F.q16 h).2.2.2.2.2.2.2.2.2.2.2.2.2.2.2⟩, fun h => ⟨(F.q17 h).1, (F.q17 h).2.1, (F.q17 h).2.2.1, (F.q17 h).2.2.2.1, (F.q17 h).2.2.2.2.1, (F.q17 h).2.2.2.2.2.1, (F.q17 h).2.2.2.2.2.2.1, (F.q17 h).2.2.2.2.2.2.2.1, (F.q17 h).2.2.2.2.2.2.2.2.1, (F.q17 h).2.2.2.2.2.2.2.2.2.1, (F.q17 h).2.2.2.2.2.2.2.2.2.2.1, (F.q17 h).2.2.2.2.2.2.2.2.2.2.2.1, rfl, (F.q17 h).2.2.2.2.2.2.2.2.2.2.2.2.2.1, (F.q17 h).2.2.2.2.2.2.2.2.2.2.2.2.2.2.1, (F.q17 h).2.2.2.2.2.2.2.2.2.2.2.2.2.2.2⟩, F.f0, F.f1, F.f2, F.f3, F.f4, F.f5, F.f6, F.f7, F.f8, F.f9, F.f10, F.f11, fun _ => rfl, F.f13, F.f14, F.f15, F.f16, F.st0, F.st1⟩
      clear F
      go_simp
      exact HK.out _ _ ⟨_, _, _, _, _, _, _, _, _, _, _, _, _, _, _, _, _, rfl, HF.out⟩
    · have hst : S0 w1 := by
        have n_ : d_ 17 = false := by
          cases e_ : d_ 17 with
          | false => rfl
          | true => have h2 := (F.q17 e_).2.2.2.2.2.2.2.2.2.2.2.2.2.1; rw [show d_ 13 = false from hd_] at h2; cases h2
        exact (F.st0 n_)
      have kk := kl13.out w1 hst
      clear hst
      obtain rfl := F.f12 (by simp [hdep])
      have HF : Hid (mos7F b2 i k p q x y S0 S1 (upd d_ 13) x27 x28 x29 x30 x31 x32 x33 x34 x35 x36 x37 x38 (.pointer (some ⟨b2, i * 11 + q, none⟩)) (.int .i64 y) x41 x42 x43 w1) := ⟨F.q3, F.q5, F.q6, F.q7, F.q10, F.q11, F.q12, fun _ => (show _ from (by simp [hdep] : d_ 12 = true)), fun h => ⟨(F.q14 h).1, rfl⟩, F.q15, fun h => ⟨(F.q16 h).1, (F.q16 h).2.1, (F.q16 h).2.2.1, (F.q16 h).2.2.2.1, (F.q16 h).2.2.2.2.1, (F.q16 h).2.2.2.2.2.1, (F.q16 h).2.2.2.2.2.2.1, (F.q16 h).2.2.2.2.2.2.2.1, (F.q16 h).2.2.2.2.2.2.2.2.1, (F.q16 h).2.2.2.2.2.2.2.2.2.1, (F.q16 h).2.2.2.2.2.2.2.2.2.2.1, (F.q16 h).2.2.2.2.2.2.2.2.2.2.2.1, (F.q16 h).2.2.2.2.2.2.2.2.2.2.2.2.1, rfl, (F.q16 h).2.2.2.2.2.2.2.2.2.2.2.2.2.2.1, (F.q16 h).2.2.2.2.2.2.2.2.2.2.2.2.2.2.2⟩, fun h => ⟨(F.q17 h).1, (F.q17 h).2.1, (F.q17 h).2.2.1, (F.q17 h).2.2.2.1, (F.q17 h).2.2.2.2.1, (F.q17 h).2.2.2.2.2.1, (F.q17 h).2.2.2.2.2.2.1, (F.q17 h).2.2.2.2.2.2.2.1, (F.q17 h).2.2.2.2.2.2.2.2.1, (F.q17 h).2.2.2.2.2.2.2.2.2.1, (F.q17 h).2.2.2.2.2.2.2.2.2.2.1, (F.q17 h).2.2.2.2.2.2.2.2.2.2.2.1, (F.q17 h).2.2.2.2.2.2.2.2.2.2.2.2.1, rfl, (F.q17 h).2.2.2.2.2.2.2.2.2.2.2.2.2.2.1, (F.q17 h).2.2.2.2.2.2.2.2.2.2.2.2.2.2.2⟩, F.f0, F.f1, F.f2, F.f3, F.f4, F.f5, F.f6, F.f7, F.f8, F.f9, F.f10, F.f11, F.f12, fun _ => rfl, F.f14, F.f15, F.f16, F.st0, F.st1⟩
      clear F
      go_simp
      exact HK.out _ _ ⟨_, _, _, _, _, _, _, _, _, _, _, _, _, _, _, _, _, rfl, HF.out⟩
    · obtain rfl := F.f7 (by simp [hdep])
      obtain rfl := F.f13 (by simp [hdep])
      have HF : Hid (mos7F b2 i k p q x y S0 S1 (upd d_ 14) x27 x28 x29 x30 x31 x32 x33 (.int .i64 x) x35 x36 x37 x38 x39 (.int .i64 y) (.int .i64 (max x y)) x42 x43 w1) := ⟨F.q3, F.q5, F.q6, F.q7, F.q10, F.q11, F.q12, F.q13, fun _ => ⟨(show _ from (by simp [hdep] : d_ 7 = true)), (show _ from (by simp [hdep] : d_ 13 = true))⟩, F.q15, fun h => ⟨(F.q16 h).1, (F.q16 h).2.1, (F.q16 h).2.2.1, (F.q16 h).2.2.2.1, (F.q16 h).2.2.2.2.1, (F.q16 h).2.2.2.2.2.1, (F.q16 h).2.2.2.2.2.2.1, (F.q16 h).2.2.2.2.2.2.2.1, (F.q16 h).2.2.2.2.2.2.2.2.1, (F.q16 h).2.2.2.2.2.2.2.2.2.1, (F.q16 h).2.2.2.2.2.2.2.2.2.2.1, (F.q16 h).2.2.2.2.2.2.2.2.2.2.2.1, (F.q16 h).2.2.2.2.2.2.2.2.2.2.2.2.1, (F.q16 h).2.2.2.2.2.2.2.2.2.2.2.2.2.1, rfl, (F.q16 h).2.2.2.2.2.2.2.2.2.2.2.2.2.2.2⟩, fun h => ⟨(F.q17 h).1, (F.q17 h).2.1, (F.q17 h).2.2.1, (F.q17 h).2.2.2.1, (F.q17 h).2.2.2.2.1, (F.q17 h).2.2.2.2.2.1, (F.q17 h).2.2.2.2.2.2.1, (F.q17 h).2.2.2.2.2.2.2.1, (F.q17 h).2.2.2.2.2.2.2.2.1, (F.q17 h).2.2.2.2.2.2.2.2.2.1, (F.q17 h).2.2.2.2.2.2.2.2.2.2.1, (F.q17 h).2.2.2.2.2.2.2.2.2.2.2.1, (F.q17 h).2.2.2.2.2.2.2.2.2.2.2.2.1, (F.q17 h).2.2.2.2.2.2.2.2.2.2.2.2.2.1, rfl, (F.q17 h).2.2.2.2.2.2.2.2.2.2.2.2.2.2.2⟩, F.f0, F.f1, F.f2, F.f3, F.f4, F.f5, F.f6, F.f7, F.f8, F.f9, F.f10, F.f11, F.f12, F.f13, fun _ => rfl, F.f15, F.f16, F.st0, F.st1⟩
      clear F
      go_simp
      exact HK.out _ _ ⟨_, _, _, _, _, _, _, _, _, _, _, _, _, _, _, _, _, rfl, HF.out⟩
    · obtain rfl := F.f0 (by simp [hdep])
      have HF : Hid (mos7F b2 i k p q x y S0 S1 (upd d_ 15) (.int .i64 i) x28 x29 x30 x31 x32 x33 x34 x35 x36 x37 x38 x39 x40 x41 (.pointer (some ⟨b2, i * 11, none⟩)) x43 w1) := ⟨F.q3, F.q5, F.q6, F.q7, F.q10, F.q11, F.q12, F.q13, F.q14, fun _ => (show _ from (by simp [hdep] : d_ 0 = true)), fun h => ⟨(F.q16 h).1, (F.q16 h).2.1, (F.q16 h).2.2.1, (F.q16 h).2.2.2.1, (F.q16 h).2.2.2.2.1, (F.q16 h).2.2.2.2.2.1, (F.q16 h).2.2.2.2.2.2.1, (F.q16 h).2.2.2.2.2.2.2.1, (F.q16 h).2.2.2.2.2.2.2.2.1, (F.q16 h).2.2.2.2.2.2.2.2.2.1, (F.q16 h).2.2.2.2.2.2.2.2.2.2.1, (F.q16 h).2.2.2.2.2.2.2.2.2.2.2.1, (F.q16 h).2.2.2.2.2.2.2.2.2.2.2.2.1, (F.q16 h).2.2.2.2.2.2.2.2.2.2.2.2.2.1, (F.q16 h).2.2.2.2.2.2.2.2.2.2.2.2.2.2.1, rfl⟩, F.q17, F.f0, F.f1, F.f2, F.f3, F.f4, F.f5, F.f6, F.f7, F.f8, F.f9, F.f10, F.f11, F.f12, F.f13, F.f14, fun _ => rfl, F.f16, F.st0, F.st1⟩
      clear F
      go_simp
      exact HK.out _ _ ⟨_, _, _, _, _, _, _, _, _, _, _, _, _, _, _, _, _, rfl, HF.out⟩
    · obtain rfl := F.f1 (by simp [hdep])
      obtain rfl := F.f15 (by simp [hdep])
      have HF : Hid (mos7F b2 i k p q x y S0 S1 (upd d_ 16) x27 (.int .i64 k) x29 x30 x31 x32 x33 x34 x35 x36 x37 x38 x39 x40 x41 (.pointer (some ⟨b2, i * 11, none⟩)) (.pointer (some ⟨b2, i * 11 + k, none⟩)) w1) := ⟨F.q3, F.q5, F.q6, F.q7, F.q10, F.q11, F.q12, F.q13, F.q14, F.q15, fun _ => ⟨(show _ from (by simp [hdep] : d_ 0 = true)), (show _ from (by simp [hdep] : d_ 1 = true)), (show _ from (by simp [hdep] : d_ 2 = true)), (show _ from (by simp [hdep] : d_ 3 = true)), (show _ from (by simp [hdep] : d_ 4 = true)), (show _ from (by simp [hdep] : d_ 5 = true)), (show _ from (by simp [hdep] : d_ 6 = true)), (show _ from (by simp [hdep] : d_ 7 = true)), (show _ from (by simp [hdep] : d_ 8 = true)), (show _ from (by simp [hdep] : d_ 9 = true)), (show _ from (by simp [hdep] : d_ 10 = true)), (show _ from (by simp [hdep] : d_ 11 = true)), (show _ from (by simp [hdep] : d_ 12 = true)), (show _ from (by simp [hdep] : d_ 13 = true)), (show _ from (by simp [hdep] : d_ 14 = true)), (show _ from (by simp [hdep] : d_ 15 = true))⟩, fun h => ⟨(F.q17 h).1, (F.q17 h).2.1, (F.q17 h).2.2.1, (F.q17 h).2.2.2.1, (F.q17 h).2.2.2.2.1, (F.q17 h).2.2.2.2.2.1, (F.q17 h).2.2.2.2.2.2.1, (F.q17 h).2.2.2.2.2.2.2.1, (F.q17 h).2.2.2.2.2.2.2.2.1, (F.q17 h).2.2.2.2.2.2.2.2.2.1, (F.q17 h).2.2.2.2.2.2.2.2.2.2.1, (F.q17 h).2.2.2.2.2.2.2.2.2.2.2.1, (F.q17 h).2.2.2.2.2.2.2.2.2.2.2.2.1, (F.q17 h).2.2.2.2.2.2.2.2.2.2.2.2.2.1, (F.q17 h).2.2.2.2.2.2.2.2.2.2.2.2.2.2.1, rfl⟩, F.f0, F.f1, F.f2, F.f3, F.f4, F.f5, F.f6, F.f7, F.f8, F.f9, F.f10, F.f11, F.f12, F.f13, F.f14, F.f15, fun _ => rfl, F.st0, F.st1⟩
      clear F
      go_simp
      exact HK.out _ _ ⟨_, _, _, _, _, _, _, _, _, _, _, _, _, _, _, _, _, rfl, HF.out⟩
    · have hS := F.st0  hd_
      obtain rfl := F.f14 (by simp [hdep])
      obtain rfl := F.f16 (by simp [hdep])
      obtain ⟨⟨ku0, kcell0⟩, kfr0, hres⟩ := kc17.out w1 hS
      have HF : Hid (mos7F b2 i k p q x y S0 S1 (upd d_ 17) x27 x28 x29 x30 x31 x32 x33 x34 x35 x36 x37 x38 x39 x40 (.int .i64 (max x y)) x42 (.pointer (some ⟨b2, i * 11 + k, none⟩)) (w1.setCell ⟨b2, i * 11 + k, none⟩ (.int .i64 (max x y)))) := ⟨F.q3, F.q5, F.q6, F.q7, F.q10, F.q11, F.q12, F.q13, F.q14, F.q15, F.q16, fun _ => ⟨(show _ from (by simp [hdep] : d_ 0 = true)), (show _ from (by simp [hdep] : d_ 1 = true)), (show _ from (by simp [hdep] : d_ 2 = true)), (show _ from (by simp [hdep] : d_ 3 = true)), (show _ from (by simp [hdep] : d_ 4 = true)), (show _ from (by simp [hdep] : d_ 5 = true)), (show _ from (by simp [hdep] : d_ 6 = true)), (show _ from (by simp [hdep] : d_ 7 = true)), (show _ from (by simp [hdep] : d_ 8 = true)), (show _ from (by simp [hdep] : d_ 9 = true)), (show _ from (by simp [hdep] : d_ 10 = true)), (show _ from (by simp [hdep] : d_ 11 = true)), (show _ from (by simp [hdep] : d_ 12 = true)), (show _ from (by simp [hdep] : d_ 13 = true)), (show _ from (by simp [hdep] : d_ 14 = true)), (show _ from (by simp [hdep] : d_ 16 = true))⟩, F.f0, F.f1, F.f2, F.f3, F.f4, F.f5, F.f6, F.f7, F.f8, F.f9, F.f10, F.f11, F.f12, F.f13, F.f14, F.f15, F.f16, fun h => (by simp [upd] at h), fun _ => hres⟩
      clear F hS hres
      go_simp
      exact HK.out _ _ ⟨_, _, _, _, _, _, _, _, _, _, _, _, _, _, _, _, _, rfl, HF.out⟩
  · rintro d_ a_ w1 hall ⟨x27, x28, x29, x30, x31, x32, x33, x34, x35, x36, x37, x38, x39, x40, x41, x42, x43, rfl, F⟩
    have hall' : ∀ k, k < 18 → d_ k = true := hall
    obtain rfl := F.f0 (hall' 0 (by decide))
    obtain rfl := F.f1 (hall' 1 (by decide))
    obtain rfl := F.f2 (hall' 2 (by decide))
    obtain rfl := F.f3 (hall' 3 (by decide))
    obtain rfl := F.f4 (hall' 4 (by decide))
    obtain rfl := F.f5 (hall' 5 (by decide))
    obtain rfl := F.f6 (hall' 6 (by decide))
    obtain rfl := F.f7 (hall' 7 (by decide))
    obtain rfl := F.f8 (hall' 8 (by decide))
    obtain rfl := F.f9 (hall' 9 (by decide))
    obtain rfl := F.f10 (hall' 10 (by decide))
    obtain rfl := F.f11 (hall' 11 (by decide))
    obtain rfl := F.f12 (hall' 12 (by decide))
    obtain rfl := F.f13 (hall' 13 (by decide))
    obtain rfl := F.f14 (hall' 14 (by decide))
    obtain rfl := F.f15 (hall' 15 (by decide))
    obtain rfl := F.f16 (hall' 16 (by decide))
    have hst := F.st1 (hall' 17 (by decide))
    exact HQ.out  w1 hst
structure mos9F (b2 : Nat) (i : Nat) (k : Nat) (p : Nat) (q : Nat) (x : Int) (y : Int) (z : Int) (S0 : World → Prop) (S1 : World → Prop) (d : Nat → Bool) (x52 x53 x54 x55 x56 x57 x58 x59 x60 x61 x62 x63 x64 x65 x66 x67 x68 x69 : Value) (w : World) : Prop where
  q4 : d 4 = true → d 2 = true
  q5 : d 5 = true → d 3 = true ∧ d 4 = true
  q6 : d 6 = true → d 5 = true
  q8 : d 8 = true → d 7 = true
  q10 : d 10 = true → d 9 = true
  q11 : d 11 = true → d 8 = true
  q12 : d 12 = true → d 10 = true ∧ d 11 = true
  q13 : d 13 = true → d 12 = true
  q14 : d 14 = true → d 13 = true
  q15 : d 15 = true → d 6 = true ∧ d 14 = true
  q16 : d 16 = true → d 0 = true
  q17 : d 17 = true → d 0 = true ∧ d 1 = true ∧ d 2 = true ∧ d 3 = true ∧ d 4 = true ∧ d 5 = true ∧ d 6 = true ∧ d 7 = true ∧ d 8 = true ∧ d 9 = true ∧ d 10 = true ∧ d 11 = true ∧ d 12 = true ∧ d 13 = true ∧ d 14 = true ∧ d 15 = true ∧ d 16 = true
  q18 : d 18 = true → d 0 = true ∧ d 1 = true ∧ d 2 = true ∧ d 3 = true ∧ d 4 = true ∧ d 5 = true ∧ d 6 = true ∧ d 7 = true ∧ d 8 = true ∧ d 9 = true ∧ d 10 = true ∧ d 11 = true ∧ d 12 = true ∧ d 13 = true ∧ d 14 = true ∧ d 15 = true ∧ d 17 = true
  f0 : d 0 = true → x52 = .int .i64 i
  f1 : d 1 = true → x53 = .int .i64 k
  f2 : d 2 = true → x54 = .int .i64 i
  f3 : d 3 = true → x55 = .int .i64 k
  f4 : d 4 = true → x56 = .pointer (some ⟨b2, i * 11, none⟩)
  f5 : d 5 = true → x57 = .pointer (some ⟨b2, i * 11 + k, none⟩)
  f6 : d 6 = true → x58 = .int .i64 x
  f7 : d 7 = true → x59 = .int .i64 i
  f8 : d 8 = true → x60 = .int .i64 p
  f9 : d 9 = true → x61 = .int .i64 k
  f10 : d 10 = true → x62 = .int .i64 q
  f11 : d 11 = true → x63 = .pointer (some ⟨b2, p * 11, none⟩)
  f12 : d 12 = true → x64 = .pointer (some ⟨b2, p * 11 + q, none⟩)
  f13 : d 13 = true → x65 = .int .i64 y
  f14 : d 14 = true → x66 = .int .i64 z
  f15 : d 15 = true → x67 = .int .i64 (max x z)
  f16 : d 16 = true → x68 = .pointer (some ⟨b2, i * 11, none⟩)
  f17 : d 17 = true → x69 = .pointer (some ⟨b2, i * 11 + k, none⟩)
  st0 : d 18 = false → S0 w
  st1 : d 18 = true → S1 w
noncomputable def mos9C : Code := (Tryd.f29.body.bind (regionAt 9)).getD .skip
set_option maxRecDepth 100000 in
set_option maxHeartbeats 4000000 in
theorem mos9 {b2 : Nat} {i : Nat} {k : Nat} {p : Nat} {q : Nat} {x : Int} {y : Int} {z : Int} {S0 : World → Prop} {S1 : World → Prop} {Q : Exit → Act → World → Prop} {W1 : World} (hwi : IntKind.i64.wrap ((i : Int) + 1) = (p : Int)) (hwk : IntKind.i64.wrap ((k : Int) + 1) = (q : Int)) (hi1 : (0 : Int) ≤ i) (hi2 : (i : Int) < 11) (hk1 : (0 : Int) ≤ k) (hk2 : (k : Int) < 11) (hp1 : (0 : Int) ≤ p) (hp2 : (p : Int) < 11) (hq1 : (0 : Int) ≤ q) (hq2 : (q : Int) < 11) (hwz : IntKind.i64.wrap (1 + y) = z) (h0 : S0 W1.drew)
    (kl6 : Hid (∀ (w : World), (S0 w) → w.cell? ⟨b2, i * 11 + k, none⟩ = some (.int .i64 x)))
    (kl13 : Hid (∀ (w : World), (S0 w) → w.cell? ⟨b2, p * 11 + q, none⟩ = some (.int .i64 y)))
    (kc18 : Hid (∀ (w : World), S0 w → (∃ u, w.cell? ⟨b2, i * 11 + k, none⟩ = some u) ∧ w.frozen? ⟨b2, i * 11 + k, none⟩ = false ∧ S1 (w.setCell ⟨b2, i * 11 + k, none⟩ (.int .i64 (max x z)))))
    {s0 s1 s5 s6 s7 s8 s9 s10 s11 s12 s13 s14 s15 s16 s17 s18 s19 s20 s21 s22 s23 s24 s25 s26 s27 s28 s29 s30 s31 s32 s33 s34 s35 s36 s37 s38 s39 s40 s41 s42 s43 s44 s45 s46 s47 s48 s49 s50 s51 s52 s53 s54 s55 s56 s57 s58 s59 s60 s61 s62 s63 s64 s65 s66 s67 s68 s69 s70 : Value} {dd : List Deferred}
    (hQ : ∀ (w' : World), S1 w' → Q .normal { tmps := List.toArray (s0 :: s1 :: .pointer (some ⟨b2, 0, none⟩) :: .int .i64 i :: .int .i64 k :: s5 :: s6 :: s7 :: s8 :: s9 :: s10 :: s11 :: s12 :: s13 :: s14 :: s15 :: s16 :: s17 :: s18 :: s19 :: s20 :: s21 :: s22 :: s23 :: s24 :: s25 :: s26 :: s27 :: s28 :: s29 :: s30 :: s31 :: s32 :: s33 :: s34 :: s35 :: s36 :: s37 :: s38 :: s39 :: s40 :: s41 :: s42 :: s43 :: s44 :: s45 :: s46 :: s47 :: s48 :: s49 :: s50 :: s51 :: .int .i64 i :: .int .i64 k :: .int .i64 i :: .int .i64 k :: .pointer (some ⟨b2, i * 11, none⟩) :: .pointer (some ⟨b2, i * 11 + k, none⟩) :: .int .i64 x :: .int .i64 i :: .int .i64 p :: .int .i64 k :: .int .i64 q :: .pointer (some ⟨b2, p * 11, none⟩) :: .pointer (some ⟨b2, p * 11 + q, none⟩) :: .int .i64 y :: .int .i64 z :: .int .i64 (max x z) :: .pointer (some ⟨b2, i * 11, none⟩) :: .pointer (some ⟨b2, i * 11 + k, none⟩) :: s70 :: []), defers := dd } w') :
    Code.wpIn (wideAt none) 0 Tryd.prog mos9C Q { tmps := List.toArray (s0 :: s1 :: .pointer (some ⟨b2, 0, none⟩) :: .int .i64 i :: .int .i64 k :: s5 :: s6 :: s7 :: s8 :: s9 :: s10 :: s11 :: s12 :: s13 :: s14 :: s15 :: s16 :: s17 :: s18 :: s19 :: s20 :: s21 :: s22 :: s23 :: s24 :: s25 :: s26 :: s27 :: s28 :: s29 :: s30 :: s31 :: s32 :: s33 :: s34 :: s35 :: s36 :: s37 :: s38 :: s39 :: s40 :: s41 :: s42 :: s43 :: s44 :: s45 :: s46 :: s47 :: s48 :: s49 :: s50 :: s51 :: s52 :: s53 :: s54 :: s55 :: s56 :: s57 :: s58 :: s59 :: s60 :: s61 :: s62 :: s63 :: s64 :: s65 :: s66 :: s67 :: s68 :: s69 :: s70 :: []), defers := dd } W1 := by
  have HQ := Lib.hid hQ
  clear hQ
  conv => arg 4; whnf
  refine wpIn_region_invG mixed (by kernel_rfl) (fun d_ a_ w' => ∃ (x52 : Value) (x53 : Value) (x54 : Value) (x55 : Value) (x56 : Value) (x57 : Value) (x58 : Value) (x59 : Value) (x60 : Value) (x61 : Value) (x62 : Value) (x63 : Value) (x64 : Value) (x65 : Value) (x66 : Value) (x67 : Value) (x68 : Value) (x69 : Value), a_ = { tmps := List.toArray (s0 :: s1 :: .pointer (some ⟨b2, 0, none⟩) :: .int .i64 i :: .int .i64 k :: s5 :: s6 :: s7 :: s8 :: s9 :: s10 :: s11 :: s12 :: s13 :: s14 :: s15 :: s16 :: s17 :: s18 :: s19 :: s20 :: s21 :: s22 :: s23 :: s24 :: s25 :: s26 :: s27 :: s28 :: s29 :: s30 :: s31 :: s32 :: s33 :: s34 :: s35 :: s36 :: s37 :: s38 :: s39 :: s40 :: s41 :: s42 :: s43 :: s44 :: s45 :: s46 :: s47 :: s48 :: s49 :: s50 :: s51 :: x52 :: x53 :: x54 :: x55 :: x56 :: x57 :: x58 :: x59 :: x60 :: x61 :: x62 :: x63 :: x64 :: x65 :: x66 :: x67 :: x68 :: x69 :: s70 :: []), defers := dd } ∧ mos9F b2 i k p q x y z S0 S1 d_ x52 x53 x54 x55 x56 x57 x58 x59 x60 x61 x62 x63 x64 x65 x66 x67 x68 x69 w') ?_ ?_ ?_
  · refine ⟨s52, s53, s54, s55, s56, s57, s58, s59, s60, s61, s62, s63, s64, s65, s66, s67, s68, s69, rfl, ?_⟩
    constructor <;> first | rfl | (intro _; rfl) | (intro h; cases h; done) | (intro _; exact h0) | exact h0
  · refine ⟨?_, ?_, ?_, ?_, ?_, ?_, ?_, ?_, ?_, ?_, ?_, ?_, ?_, ?_, ?_, ?_, ?_, ?_, ?_, trivial⟩
    all_goals
      rintro d_ a_ w1 K hd_ hdep ⟨x52, x53, x54, x55, x56, x57, x58, x59, x60, x61, x62, x63, x64, x65, x66, x67, x68, x69, rfl, F⟩ HK
      simp [Region.binds] at hdep
    · have HF : Hid (mos9F b2 i k p q x y z S0 S1 (upd d_ 0) (.int .i64 i) x53 x54 x55 x56 x57 x58 x59 x60 x61 x62 x63 x64 x65 x66 x67 x68 x69 w1) := ⟨F.q4, F.q5, F.q6, F.q8, F.q10, F.q11, F.q12, F.q13, F.q14, F.q15, fun h => rfl, fun h => ⟨rfl, (F.q17 h).2.1, (F.q17 h).2.2.1, (F.q17 h).2.2.2.1, (F.q17 h).2.2.2.2.1, (F.q17 h).2.2.2.2.2.1, (F.q17 h).2.2.2.2.2.2.1, (F.q17 h).2.2.2.2.2.2.2.1, (F.q17 h).2.2.2.2.2.2.2.2.1, (F.q17 h).2.2.2.2.2.2.2.2.2.1, (F.q17 h).2.2.2.2.2.2.2.2.2.2.1, (F.q17 h).2.2.2.2.2.2.2.2.2.2.2.1, (F.q17 h).2.2.2.2.2.2.2.2.2.2.2.2.1, (F.q17 h).2.2.2.2.2.2.2.2.2.2.2.2.2.1, (F.q17 h).2.2.2.2.2.2.2.2.2.2.2.2.2.2.1, (F.q17 h).2.2.2.2.2.2.2.2.2.2.2.2.2.2.2.1, (F.q17 h).2.2.2.2.2.2.2.2.2.2.2.2.2.2.2.2⟩, fun h => ⟨rfl, (F.q18 h).2.1, (F.q18 h).2.2.1, (F.q18 h).2.2.2.1, (F.q18 h).2.2.2.2.1, (F.q18 h).2.2.2.2.2.1, (F.q18 h).2.2.2.2.2.2.1, (F.q18 h).2.2.2.2.2.2.2.1, (F.q18 h).2.2.2.2.2.2.2.2.1, (F.q18 h).2.2.2.2.2.2.2.2.2.1, (F.q18 h).2.2.2.2.2.2.2.2.2.2.1, (F.q18 h).2.2.2.2.2.2.2.2.2.2.2.1, (F.q18 h).2.2.2.2.2.2.2.2.2.2.2.2.1, (F.q18 h).2.2.2.2.2.2.2.2.2.2.2.2.2.1, (F.q18 h).2.2.2.2.2.2.2.2.2.2.2.2.2.2.1, (F.q18 h).2.2.2.2.2.2.2.2.2.2.2.2.2.2.2.1, (F.q18 h).2.2.2.2.2.2.2.2.2.2.2.2.2.2.2.2⟩, fun _ => rfl, F.f1, F.f2, F.f3, F.f4, F.f5, F.f6, F.f7, F.f8, F.f9, F.f10, F.f11, F.f12, F.f13, F.f14, F.f15, F.f16, F.f17, F.st0, F.st1⟩
      clear F
      go_simp
      exact HK.out _ _ ⟨_, _, _, _, _, _, _, _, _, _, _, _, _, _, _, _, _, _, rfl, HF.out⟩
    · have HF : Hid (mos9F b2 i k p q x y z S0 S1 (upd d_ 1) x52 (.int .i64 k) x54 x55 x56 x57 x58 x59 x60 x61 x62 x63 x64 x65 x66 x67 x68 x69 w1) := ⟨F.q4, F.q5, F.q6, F.q8, F.q10, F.q11, F.q12, F.q13, F.q14, F.q15, F.q16, fun h => ⟨(F.q17 h).1, rfl, (F.q17 h).2.2.1, (F.q17 h).2.2.2.1, (F.q17 h).2.2.2.2.1, (F.q17 h).2.2.2.2.2.1, (F.q17 h).2.2.2.2.2.2.1, (F.q17 h).2.2.2.2.2.2.2.1, (F.q17 h).2.2.2.2.2.2.2.2.1, (F.q17 h).2.2.2.2.2.2.2.2.2.1, (F.q17 h).2.2.2.2.2.2.2.2.2.2.1, (F.q17 h).2.2.2.2.2.2.2.2.2.2.2.1, (F.q17 h).2.2.2.2.2.2.2.2.2.2.2.2.1, (F.q17 h).2.2.2.2.2.2.2.2.2.2.2.2.2.1, (F.q17 h).2.2.2.2.2.2.2.2.2.2.2.2.2.2.1, (F.q17 h).2.2.2.2.2.2.2.2.2.2.2.2.2.2.2.1, (F.q17 h).2.2.2.2.2.2.2.2.2.2.2.2.2.2.2.2⟩, fun h => ⟨(F.q18 h).1, rfl, (F.q18 h).2.2.1, (F.q18 h).2.2.2.1, (F.q18 h).2.2.2.2.1, (F.q18 h).2.2.2.2.2.1, (F.q18 h).2.2.2.2.2.2.1, (F.q18 h).2.2.2.2.2.2.2.1, (F.q18 h).2.2.2.2.2.2.2.2.1, (F.q18 h).2.2.2.2.2.2.2.2.2.1, (F.q18 h).2.2.2.2.2.2.2.2.2.2.1, (F.q18 h).2.2.2.2.2.2.2.2.2.2.2.1, (F.q18 h).2.2.2.2.2.2.2.2.2.2.2.2.1, (F.q18 h).2.2.2.2.2.2.2.2.2.2.2.2.2.1, (F.q18 h).2.2.2.2.2.2.2.2.2.2.2.2.2.2.1, (F.q18 h).2.2.2.2.2.2.2.2.2.2.2.2.2.2.2.1, (F.q18 h).2.2.2.2.2.2.2.2.2.2.2.2.2.2.2.2⟩, F.f0, fun _ => rfl, F.f2, F.f3, F.f4, F.f5, F.f6, F.f7, F.f8, F.f9, F.f10, F.f11, F.f12, F.f13, F.f14, F.f15, F.f16, F.f17, F.st0, F.st1⟩
      clear F
      go_simp
      exact HK.out _ _ ⟨_, _, _, _, _, _, _, _, _, _, _, _, _, _, _, _, _, _, rfl, HF.out⟩
    · have HF : Hid (mos9F b2 i k p q x y z S0 S1 (upd d_ 2) x52 x53 (.int .i64 i) x55 x56 x57 x58 x59 x60 x61 x62 x63 x64 x65 x66 x67 x68 x69 w1) := ⟨fun h => rfl, F.q5, F.q6, F.q8, F.q10, F.q11, F.q12, F.q13, F.q14, F.q15, F.q16, fun h => ⟨(F.q17 h).1, (F.q17 h).2.1, rfl, (F.q17 h).2.2.2.1, (F.q17 h).2.2.2.2.1, (F.q17 h).2.2.2.2.2.1, (F.q17 h).2.2.2.2.2.2.1, (F.q17 h).2.2.2.2.2.2.2.1, (F.q17 h).2.2.2.2.2.2.2.2.1, (F.q17 h).2.2.2.2.2.2.2.2.2.1, (F.q17 h).2.2.2.2.2.2.2.2.2.2.1, (F.q17 h).2.2.2.2.2.2.2.2.2.2.2.1, (F.q17 h).2.2.2.2.2.2.2.2.2.2.2.2.1, (F.q17 h).2.2.2.2.2.2.2.2.2.2.2.2.2.1, (F.q17 h).2.2.2.2.2.2.2.2.2.2.2.2.2.2.1, (F.q17 h).2.2.2.2.2.2.2.2.2.2.2.2.2.2.2.1, (F.q17 h).2.2.2.2.2.2.2.2.2.2.2.2.2.2.2.2⟩, fun h => ⟨(F.q18 h).1, (F.q18 h).2.1, rfl, (F.q18 h).2.2.2.1, (F.q18 h).2.2.2.2.1, (F.q18 h).2.2.2.2.2.1, (F.q18 h).2.2.2.2.2.2.1, (F.q18 h).2.2.2.2.2.2.2.1, (F.q18 h).2.2.2.2.2.2.2.2.1, (F.q18 h).2.2.2.2.2.2.2.2.2.1, (F.q18 h).2.2.2.2.2.2.2.2.2.2.1, (F.q18 h).2.2.2.2.2.2.2.2.2.2.2.1, (F.q18 h).2.2.2.2.2.2.2.2.2.2.2.2.1, (F.q18 h).2.2.2.2.2.2.2.2.2.2.2.2.2.1, (F.q18 h).2.2.2.2.2.2.2.2.2.2.2.2.2.2.1, (F.q18 h).2.2.2.2.2.2.2.2.2.2.2.2.2.2.2.1, (F.q18 h).2.2.2.2.2.2.2.2.2.2.2.2.2.2.2.2⟩, F.f0, F.f1, fun _ => rfl, F.f3, F.f4, F.f5, F.f6, F.f7, F.f8, F.f9, F.f10, F.f11, F.f12, F.f13, F.f14, F.f15, F.f16, F.f17, F.st0, F.st1⟩
      clear F
      go_simp
      exact HK.out _ _ ⟨_, _, _, _, _, _, _, _, _, _, _, _, _, _, _, _, _, _, rfl, HF.out⟩
    · have HF : Hid (mos9F b2 i k p q x y z S0 S1 (upd d_ 3) x52 x53 x54 (.int .i64 k) x56 x57 x58 x59 x60 x61 x62 x63 x64 x65 x66 x67 x68 x69 w1) := ⟨F.q4, fun h => ⟨rfl, (F.q5 h).2⟩, F.q6, F.q8, F.q10, F.q11, F.q12, F.q13, F.q14, F.q15, F.q16, fun h => ⟨(F.q17 h).1, (F.q17 h).2.1, (F.q17 h).2.2.1, rfl, (F.q17 h).2.2.2.2.1, (F.q17 h).2.2.2.2.2.1, (F.q17 h).2.2.2.2.2.2.1, (F.q17 h).2.2.2.2.2.2.2.1, (F.q17 h).2.2.2.2.2.2.2.2.1, (F.q17 h).2.2.2.2.2.2.2.2.2.1, (F.q17 h).2.2.2.2.2.2.2.2.2.2.1, (F.q17 h).2.2.2.2.2.2.2.2.2.2.2.1, (F.q17 h).2.2.2.2.2.2.2.2.2.2.2.2.1, (F.q17 h).2.2.2.2.2.2.2.2.2.2.2.2.2.1, (F.q17 h).2.2.2.2.2.2.2.2.2.2.2.2.2.2.1, (F.q17 h).2.2.2.2.2.2.2.2.2.2.2.2.2.2.2.1, (F.q17 h).2.2.2.2.2.2.2.2.2.2.2.2.2.2.2.2⟩, fun h => ⟨(F.q18 h).1, (F.q18 h).2.1, (F.q18 h).2.2.1, rfl, (F.q18 h).2.2.2.2.1, (F.q18 h).2.2.2.2.2.1, (F.q18 h).2.2.2.2.2.2.1, (F.q18 h).2.2.2.2.2.2.2.1, (F.q18 h).2.2.2.2.2.2.2.2.1, (F.q18 h).2.2.2.2.2.2.2.2.2.1, (F.q18 h).2.2.2.2.2.2.2.2.2.2.1, (F.q18 h).2.2.2.2.2.2.2.2.2.2.2.1, (F.q18 h).2.2.2.2.2.2.2.2.2.2.2.2.1, (F.q18 h).2.2.2.2.2.2.2.2.2.2.2.2.2.1, (F.q18 h).2.2.2.2.2.2.2.2.2.2.2.2.2.2.1, (F.q18 h).2.2.2.2.2.2.2.2.2.2.2.2.2.2.2.1, (F.q18 h).2.2.2.2.2.2.2.2.2.2.2.2.2.2.2.2⟩, F.f0, F.f1, F.f2, fun _ => rfl, F.f4, F.f5, F.f6, F.f7, F.f8, F.f9, F.f10, F.f11, F.f12, F.f13, F.f14, F.f15, F.f16, F.f17, F.st0, F.st1⟩
      clear F
      go_simp
      exact HK.out _ _ ⟨_, _, _, _, _, _, _, _, _, _, _, _, _, _, _, _, _, _, rfl, HF.out⟩
    · obtain rfl := F.f2 (by simp [hdep])
      have HF : Hid (mos9F b2 i k p q x y z S0 S1 (upd d_ 4) x52 x53 (.int .i64 i) x55 (.pointer (some ⟨b2, i * 11, none⟩)) x57 x58 x59 x60 x61 x62 x63 x64 x65 x66 x67 x68 x69 w1) := ⟨fun _ => (show _ from (by simp [hdep] : d_ 2 = true)), fun h => ⟨(F.q5 h).1, rfl⟩, F.q6, F.q8, F.q10, F.q11, F.q12, F.q13, F.q14, F.q15, F.q16, fun h => ⟨(F.q17 h).1, (F.q17 h).2.1, (F.q17 h).2.2.1, (F.q17 h).2.2.2.1, rfl, (F.q17 h).2.2.2.2.2.1, (F.q17 h).2.2.2.2.2.2.1, (F.q17 h).2.2.2.2.2.2.2.1, (F.q17 h).2.2.2.2.2.2.2.2.1, (F.q17 h).2.2.2.2.2.2.2.2.2.1, (F.q17 h).2.2.2.2.2.2.2.2.2.2.1, (F.q17 h).2.2.2.2.2.2.2.2.2.2.2.1, (F.q17 h).2.2.2.2.2.2.2.2.2.2.2.2.1, (F.q17 h).2.2.2.2.2.2.2.2.2.2.2.2.2.1, (F.q17 h).2.2.2.2.2.2.2.2.2.2.2.2.2.2.1, (F.q17 h).2.2.2.2.2.2.2.2.2.2.2.2.2.2.2.1, (F.q17 h).2.2.2.2.2.2.2.2.2.2.2.2.2.2.2.2⟩, fun h => ⟨(F.q18 h).1, (F.q18 h).2.1, (F.q18 h).2.2.1, (F.q18 h).2.2.2.1, rfl, (F.q18 h).2.2.2.2.2.1, (F.q18 h).2.2.2.2.2.2.1, (F.q18 h).2.2.2.2.2.2.2.1, (F.q18 h).2.2.2.2.2.2.2.2.1, (F.q18 h).2.2.2.2.2.2.2.2.2.1, (F.q18 h).2.2.2.2.2.2.2.2.2.2.1, (F.q18 h).2.2.2.2.2.2.2.2.2.2.2.1, (F.q18 h).2.2.2.2.2.2.2.2.2.2.2.2.1, (F.q18 h).2.2.2.2.2.2.2.2.2.2.2.2.2.1, (F.q18 h).2.2.2.2.2.2.2.2.2.2.2.2.2.2.1, (F.q18 h).2.2.2.2.2.2.2.2.2.2.2.2.2.2.2.1, (F.q18 h).2.2.2.2.2.2.2.2.2.2.2.2.2.2.2.2⟩, F.f0, F.f1, F.f2, F.f3, fun _ => rfl, F.f5, F.f6, F.f7, F.f8, F.f9, F.f10, F.f11, F.f12, F.f13, F.f14, F.f15, F.f16, F.f17, F.st0, F.st1⟩
      clear F
      go_simp
      exact HK.out _ _ ⟨_, _, _, _, _, _, _, _, _, _, _, _, _, _, _, _, _, _, rfl, HF.out⟩
    · obtain rfl := F.f3 (by simp [hdep])
      obtain rfl := F.f4 (by simp [hdep])
      have HF : Hid (mos9F b2 i k p q x y z S0 S1 (upd d_ 5) x52 x53 x54 (.int .i64 k) (.pointer (some ⟨b2, i * 11, none⟩)) (.pointer (some ⟨b2, i * 11 + k, none⟩)) x58 x59 x60 x61 x62 x63 x64 x65 x66 x67 x68 x69 w1) := ⟨F.q4, fun _ => ⟨(show _ from (by simp [hdep] : d_ 3 = true)), (show _ from (by simp [hdep] : d_ 4 = true))⟩, fun h => rfl, F.q8, F.q10, F.q11, F.q12, F.q13, F.q14, F.q15, F.q16, fun h => ⟨(F.q17 h).1, (F.q17 h).2.1, (F.q17 h).2.2.1, (F.q17 h).2.2.2.1, (F.q17 h).2.2.2.2.1, rfl, (F.q17 h).2.2.2.2.2.2.1, (F.q17 h).2.2.2.2.2.2.2.1, (F.q17 h).2.2.2.2.2.2.2.2.1, (F.q17 h).2.2.2.2.2.2.2.2.2.1, (F.q17 h).2.2.2.2.2.2.2.2.2.2.1, (F.q17 h).2.2.2.2.2.2.2.2.2.2.2.1, (F.q17 h).2.2.2.2.2.2.2.2.2.2.2.2.1, (F.q17 h).2.2.2.2.2.2.2.2.2.2.2.2.2.1, (F.q17 h).2.2.2.2.2.2.2.2.2.2.2.2.2.2.1, (F.q17 h).2.2.2.2.2.2.2.2.2.2.2.2.2.2.2.1, (F.q17 h).2.2.2.2.2.2.2.2.2.2.2.2.2.2.2.2⟩, fun h => ⟨(F.q18 h).1, (F.q18 h).2.1, (F.q18 h).2.2.1, (F.q18 h).2.2.2.1, (F.q18 h).2.2.2.2.1, rfl, (F.q18 h).2.2.2.2.2.2.1, (F.q18 h).2.2.2.2.2.2.2.1, (F.q18 h).2.2.2.2.2.2.2.2.1, (F.q18 h).2.2.2.2.2.2.2.2.2.1, (F.q18 h).2.2.2.2.2.2.2.2.2.2.1, (F.q18 h).2.2.2.2.2.2.2.2.2.2.2.1, (F.q18 h).2.2.2.2.2.2.2.2.2.2.2.2.1, (F.q18 h).2.2.2.2.2.2.2.2.2.2.2.2.2.1, (F.q18 h).2.2.2.2.2.2.2.2.2.2.2.2.2.2.1, (F.q18 h).2.2.2.2.2.2.2.2.2.2.2.2.2.2.2.1, (F.q18 h).2.2.2.2.2.2.2.2.2.2.2.2.2.2.2.2⟩, F.f0, F.f1, F.f2, F.f3, F.f4, fun _ => rfl, F.f6, F.f7, F.f8, F.f9, F.f10, F.f11, F.f12, F.f13, F.f14, F.f15, F.f16, F.f17, F.st0, F.st1⟩
      clear F
      go_simp
      exact HK.out _ _ ⟨_, _, _, _, _, _, _, _, _, _, _, _, _, _, _, _, _, _, rfl, HF.out⟩
    · have hst : S0 w1 := by
        have n_ : d_ 18 = false := by
          cases e_ : d_ 18 with
          | false => rfl
          | true => have h2 := (F.q18 e_).2.2.2.2.2.2.1; rw [show d_ 6 = false from hd_] at h2; cases h2
        exact (F.st0 n_)
      have kk := kl6.out w1 hst
      clear hst
      obtain rfl := F.f5 (by simp [hdep])
      have HF : Hid (mos9F b2 i k p q x y z S0 S1 (upd d_ 6) x52 x53 x54 x55 x56 (.pointer (some ⟨b2, i * 11 + k, none⟩)) (.int .i64 x) x59 x60 x61 x62 x63 x64 x65 x66 x67 x68 x69 w1) := ⟨F.q4, F.q5, fun _ => (show _ from (by simp [hdep] : d_ 5 = true)), F.q8, F.q10, F.q11, F.q12, F.q13, F.q14, fun h => ⟨rfl, (F.q15 h).2⟩, F.q16, fun h => ⟨(F.q17 h).1, (F.q17 h).2.1, (F.q17 h).2.2.1, (F.q17 h).2.2.2.1, (F.q17 h).2.2.2.2.1, (F.q17 h).2.2.2.2.2.1, rfl, (F.q17 h).2.2.2.2.2.2.2.1, (F.q17 h).2.2.2.2.2.2.2.2.1, (F.q17 h).2.2.2.2.2.2.2.2.2.1, (F.q17 h).2.2.2.2.2.2.2.2.2.2.1, (F.q17 h).2.2.2.2.2.2.2.2.2.2.2.1, (F.q17 h).2.2.2.2.2.2.2.2.2.2.2.2.1, (F.q17 h).2.2.2.2.2.2.2.2.2.2.2.2.2.1, (F.q17 h).2.2.2.2.2.2.2.2.2.2.2.2.2.2.1, (F.q17 h).2.2.2.2.2.2.2.2.2.2.2.2.2.2.2.1, (F.q17 h).2.2.2.2.2.2.2.2.2.2.2.2.2.2.2.2⟩, fun h => ⟨(F.q18 h).1, (F.q18 h).2.1, (F.q18 h).2.2.1, (F.q18 h).2.2.2.1, (F.q18 h).2.2.2.2.1, (F.q18 h).2.2.2.2.2.1, rfl, (F.q18 h).2.2.2.2.2.2.2.1, (F.q18 h).2.2.2.2.2.2.2.2.1, (F.q18 h).2.2.2.2.2.2.2.2.2.1, (F.q18 h).2.2.2.2.2.2.2.2.2.2.1, (F.q18 h).2.2.2.2.2.2.2.2.2.2.2.1, (F.q18 h).2.2.2.2.2.2.2.2.2.2.2.2.1, (F.q18 h).2.2.2.2.2.2.2.2.2.2.2.2.2.1, (F.q18 h).2.2.2.2.2.2.2.2.2.2.2.2.2.2.1, (F.q18 h).2.2.2.2.2.2.2.2.2.2.2.2.2.2.2.1, (F.q18 h).2.2.2.2.2.2.2.2.2.2.2.2.2.2.2.2⟩, F.f0, F.f1, F.f2, F.f3, F.f4, F.f5, fun _ => rfl, F.f7, F.f8, F.f9, F.f10, F.f11, F.f12, F.f13, F.f14, F.f15, F.f16, F.f17, F.st0, F.st1⟩
      clear F
      go_simp
      exact HK.out _ _ ⟨_, _, _, _, _, _, _, _, _, _, _, _, _, _, _, _, _, _, rfl, HF.out⟩
    · have HF : Hid (mos9F b2 i k p q x y z S0 S1 (upd d_ 7) x52 x53 x54 x55 x56 x57 x58 (.int .i64 i) x60 x61 x62 x63 x64 x65 x66 x67 x68 x69 w1) := ⟨F.q4, F.q5, F.q6, fun h => rfl, F.q10, F.q11, F.q12, F.q13, F.q14, F.q15, F.q16, fun h => ⟨(F.q17 h).1, (F.q17 h).2.1, (F.q17 h).2.2.1, (F.q17 h).2.2.2.1, (F.q17 h).2.2.2.2.1, (F.q17 h).2.2.2.2.2.1, (F.q17 h).2.2.2.2.2.2.1, rfl, (F.q17 h).2.2.2.2.2.2.2.2.1, (F.q17 h).2.2.2.2.2.2.2.2.2.1, (F.q17 h).2.2.2.2.2.2.2.2.2.2.1, (F.q17 h).2.2.2.2.2.2.2.2.2.2.2.1, (F.q17 h).2.2.2.2.2.2.2.2.2.2.2.2.1, (F.q17 h).2.2.2.2.2.2.2.2.2.2.2.2.2.1, (F.q17 h).2.2.2.2.2.2.2.2.2.2.2.2.2.2.1, (F.q17 h).2.2.2.2.2.2.2.2.2.2.2.2.2.2.2.1, (F.q17 h).2.2.2.2.2.2.2.2.2.2.2.2.2.2.2.2⟩, fun h => ⟨(F.q18 h).1, (F.q18 h).2.1, (F.q18 h).2.2.1, (F.q18 h).2.2.2.1, (F.q18 h).2.2.2.2.1, (F.q18 h).2.2.2.2.2.1, (F.q18 h).2.2.2.2.2.2.1, rfl, (F.q18 h).2.2.2.2.2.2.2.2.1, (F.q18 h).2.2.2.2.2.2.2.2.2.1, (F.q18 h).2.2.2.2.2.2.2.2.2.2.1, (F.q18 h).2.2.2.2.2.2.2.2.2.2.2.1, (F.q18 h).2.2.2.2.2.2.2.2.2.2.2.2.1, (F.q18 h).2.2.2.2.2.2.2.2.2.2.2.2.2.1, (F.q18 h).2.2.2.2.2.2.2.2.2.2.2.2.2.2.1, (F.q18 h).2.2.2.2.2.2.2.2.2.2.2.2.2.2.2.1, (F.q18 h).2.2.2.2.2.2.2.2.2.2.2.2.2.2.2.2⟩, F.f0, F.f1, F.f2, F.f3, F.f4, F.f5, F.f6, fun _ => rfl, F.f8, F.f9, F.f10, F.f11, F.f12, F.f13, F.f14, F.f15, F.f16, F.f17, F.st0, F.st1⟩
      clear F
      go_simp
      exact HK.out _ _ ⟨_, _, _, _, _, _, _, _, _, _, _, _, _, _, _, _, _, _, rfl, HF.out⟩
    · obtain rfl := F.f7 (by simp [hdep])
      have HF : Hid (mos9F b2 i k p q x y z S0 S1 (upd d_ 8) x52 x53 x54 x55 x56 x57 x58 (.int .i64 i) (.int .i64 p) x61 x62 x63 x64 x65 x66 x67 x68 x69 w1) := ⟨F.q4, F.q5, F.q6, fun _ => (show _ from (by simp [hdep] : d_ 7 = true)), F.q10, fun h => rfl, F.q12, F.q13, F.q14, F.q15, F.q16, fun h => ⟨(F.q17 h).1, (F.q17 h).2.1, (F.q17 h).2.2.1, (F.q17 h).2.2.2.1, (F.q17 h).2.2.2.2.1, (F.q17 h).2.2.2.2.2.1, (F.q17 h).2.2.2.2.2.2.1, (F.q17 h).2.2.2.2.2.2.2.1, rfl, (F.q17 h).2.2.2.2.2.2.2.2.2.1, (F.q17 h).2.2.2.2.2.2.2.2.2.2.1, (F.q17 h).2.2.2.2.2.2.2.2.2.2.2.1, (F.q17 h).2.2.2.2.2.2.2.2.2.2.2.2.1, (F.q17 h).2.2.2.2.2.2.2.2.2.2.2.2.2.1, (F.q17 h).2.2.2.2.2.2.2.2.2.2.2.2.2.2.1, (F.q17 h).2.2.2.2.2.2.2.2.2.2.2.2.2.2.2.1, (F.q17 h).2.2.2.2.2.2.2.2.2.2.2.2.2.2.2.2⟩, fun h => ⟨(F.q18 h).1, (F.q18 h).2.1, (F.q18 h).2.2.1, (F.q18 h).2.2.2.1, (F.q18 h).2.2.2.2.1, (F.q18 h).2.2.2.2.2.1, (F.q18 h).2.2.2.2.2.2.1, (F.q18 h).2.2.2.2.2.2.2.1, rfl, (F.q18 h).2.2.2.2.2.2.2.2.2.1, (F.q18 h).2.2.2.2.2.2.2.2.2.2.1, (F.q18 h).2.2.2.2.2.2.2.2.2.2.2.1, (F.q18 h).2.2.2.2.2.2.2.2.2.2.2.2.1, (F.q18 h).2.2.2.2.2.2.2.2.2.2.2.2.2.1, (F.q18 h).2.2.2.2.2.2.2.2.2.2.2.2.2.2.1, (F.q18 h).2.2.2.2.2.2.2.2.2.2.2.2.2.2.2.1, (F.q18 h).2.2.2.2.2.2.2.2.2.2.2.2.2.2.2.2⟩, F.f0, F.f1, F.f2, F.f3, F.f4, F.f5, F.f6, F.f7, fun _ => rfl, F.f9, F.f10, F.f11, F.f12, F.f13, F.f14, F.f15, F.f16, F.f17, F.st0, F.st1⟩
      clear F
      go_simp
      exact HK.out _ _ ⟨_, _, _, _, _, _, _, _, _, _, _, _, _, _, _, _, _, _, rfl, HF.out⟩
    · have HF : Hid (mos9F b2 i k p q x y z S0 S1 (upd d_ 9) x52 x53 x54 x55 x56 x57 x58 x59 x60 (.int .i64 k) x62 x63 x64 x65 x66 x67 x68 x69 w1) := ⟨F.q4, F.q5, F.q6, F.q8, fun h => rfl, F.q11, F.q12, F.q13, F.q14, F.q15, F.q16, fun h => ⟨(F.q17 h).1, (F.q17 h).2.1, (F.q17 h).2.2.1, (F.q17 h).2.2.2.1, (F.q17 h).2.2.2.2.1, (F.q17 h).2.2.2.2.2.1, (F.q17 h).2.2.2.2.2.2.1, (F.q17 h).2.2.2.2.2.2.2.1, (F.q17 h).2.2.2.2.2.2.2.2.1, rfl, (F.q17 h).2.2.2.2.2.2.2.2.2.2.1, (F.q17 h).2.2.2.2.2.2.2.2.2.2.2.1, (F.q17 h).2.2.2.2.2.2.2.2.2.2.2.2.1, (F.q17 h).2.2.2.2.2.2.2.2.2.2.2.2.2.1, (F.q17 h).2.2.2.2.2.2.2.2.2.2.2.2.2.2.1, (F.q17 h).2.2.2.2.2.2.2.2.2.2.2.2.2.2.2.1, (F.q17 h).2.2.2.2.2.2.2.2.2.2.2.2.2.2.2.2⟩, fun h => ⟨(F.q18 h).1, (F.q18 h).2.1, (F.q18 h).2.2.1, (F.q18 h).2.2.2.1, (F.q18 h).2.2.2.2.1, (F.q18 h).2.2.2.2.2.1, (F.q18 h).2.2.2.2.2.2.1, (F.q18 h).2.2.2.2.2.2.2.1, (F.q18 h).2.2.2.2.2.2.2.2.1, rfl, (F.q18 h).2.2.2.2.2.2.2.2.2.2.1, (F.q18 h).2.2.2.2.2.2.2.2.2.2.2.1, (F.q18 h).2.2.2.2.2.2.2.2.2.2.2.2.1, (F.q18 h).2.2.2.2.2.2.2.2.2.2.2.2.2.1, (F.q18 h).2.2.2.2.2.2.2.2.2.2.2.2.2.2.1, (F.q18 h).2.2.2.2.2.2.2.2.2.2.2.2.2.2.2.1, (F.q18 h).2.2.2.2.2.2.2.2.2.2.2.2.2.2.2.2⟩, F.f0, F.f1, F.f2, F.f3, F.f4, F.f5, F.f6, F.f7, F.f8, fun _ => rfl, F.f10, F.f11, F.f12, F.f13, F.f14, F.f15, F.f16, F.f17, F.st0, F.st1⟩
      clear F
      go_simp
      exact HK.out _ _ ⟨_, _, _, _, _, _, _, _, _, _, _, _, _, _, _, _, _, _, rfl, HF.out⟩
    · obtain rfl := F.f9 (by simp [hdep])
      have HF : Hid (mos9F b2 i k p q x y z S0 S1 (upd d_ 10) x52 x53 x54 x55 x56 x57 x58 x59 x60 (.int .i64 k) (.int .i64 q) x63 x64 x65 x66 x67 x68 x69 w1) := ⟨F.q4, F.q5, F.q6, F.q8, fun _ => (show _ from (by simp [hdep] : d_ 9 = true)), F.q11, fun h => ⟨rfl, (F.q12 h).2⟩, F.q13, F.q14, F.q15, F.q16, fun h => ⟨(F.q17 h).1, (F.q17 h).2.1, (F.q17 h).2.2.1, (F.q17 h).2.2.2.1, (F.q17 h).2.2.2.2.1, (F.q17 h).2.2.2.2.2.1, (F.q17 h).2.2.2.2.2.2.1, (F.q17 h).2.2.2.2.2.2.2.1, (F.q17 h).2.2.2.2.2.2.2.2.1, (F.q17 h).2.2.2.2.2.2.2.2.2.1, rfl, (F.q17 h).2.2.2.2.2.2.2.2.2.2.2.1, (F.q17 h).2.2.2.2.2.2.2.2.2.2.2.2.1, (F.q17 h).2.2.2.2.2.2.2.2.2.2.2.2.2.1, (F.q17 h).2.2.2.2.2.2.2.2.2.2.2.2.2.2.1, (F.q17 h).2.2.2.2.2.2.2.2.2.2.2.2.2.2.2.1, (F.q17 h).2.2.2.2.2.2.2.2.2.2.2.2.2.2.2.2⟩, fun h => ⟨(F.q18 h).1, (F.q18 h).2.1, (F.q18 h).2.2.1, (F.q18 h).2.2.2.1, (F.q18 h).2.2.2.2.1, (F.q18 h).2.2.2.2.2.1, (F.q18 h).2.2.2.2.2.2.1, (F.q18 h).2.2.2.2.2.2.2.1, (F.q18 h).2.2.2.2.2.2.2.2.1, (F.q18 h).2.2.2.2.2.2.2.2.2.1, rfl, (F.q18 h).2.2.2.2.2.2.2.2.2.2.2.1, (F.q18 h).2.2.2.2.2.2.2.2.2.2.2.2.1, (F.q18 h).2.2.2.2.2.2.2.2.2.2.2.2.2.1, (F.q18 h).2.2.2.2.2.2.2.2.2.2.2.2.2.2.1, (F.q18 h).2.2.2.2.2.2.2.2.2.2.2.2.2.2.2.1, (F.q18 h).2.2.2.2.2.2.2.2.2.2.2.2.2.2.2.2⟩, F.f0, F.f1, F.f2, F.f3, F.f4, F.f5, F.f6, F.f7, F.f8, F.f9, fun _ => rfl, F.f11, F.f12, F.f13, F.f14, F.f15, F.f16, F.f17, F.st0, F.st1⟩
      clear F
      go_simp
      exact HK.out _ _ ⟨_, _, _, _, _, _, _, _, _, _, _, _, _, _, _, _, _, _, rfl, HF.out⟩
    · obtain rfl := F.f8 (by simp [hdep])
      have HF : Hid (mos9F b2 i k p q x y z S0 S1 (upd d_ 11) x52 x53 x54 x55 x56 x57 x58 x59 (.int .i64 p) x61 x62 (.pointer (some ⟨b2, p * 11, none⟩)) x64 x65 x66 x67 x68 x69 w1) := ⟨F.q4, F.q5, F.q6, F.q8, F.q10, fun _ => (show _ from (by simp [hdep] : d_ 8 = true)), fun h => ⟨(F.q12 h).1, rfl⟩, F.q13, F.q14, F.q15, F.q16, fun h => ⟨(F.q17 h).1, (F.q17 h).2.1, (F.q17 h).2.2.1, (F.q17 h).2.2.2.1, (F.q17 h).2.2.2.2.1, (F.q17 h).2.2.2.2.2.1, (F.q17 h).2.2.2.2.2.2.1, (F.q17 h).2.2.2.2.2.2.2.1, (F.q17 h).2.2.2.2.2.2.2.2.1, (F.q17 h).2.2.2.2.2.2.2.2.2.1, (F.q17 h).2.2.2.2.2.2.2.2.2.2.1, rfl, (F.q17 h).2.2.2.2.2.2.2.2.2.2.2.2.1, (F.q17 h).2.2.2.2.2.2.2.2.2.2.2.2.2.1, (F.q17 h).2.2.2.2.2.2.2.2.2.2.2.2.2.2.1, (F.q17 h).2.2.2.2.2.2.2.2.2.2.2.2.2.2.2.1, (F.q17 h).2.2.2.2.2.2.2.2.2.2.2.2.2.2.2.2⟩, fun h => ⟨(F.q18 h).1, (F.q18 h).2.1, (F.q18 h).2.2.1, (F.q18 h).2.2.2.1, (F.q18 h).2.2.2.2.1, (F.q18 h).2.2.2.2.2.1, (F.q18 h).2.2.2.2.2.2.1, (F.q18 h).2.2.2.2.2.2.2.1, (F.q18 h).2.2.2.2.2.2.2.2.1, (F.q18 h).2.2.2.2.2.2.2.2.2.1, (F.q18 h).2.2.2.2.2.2.2.2.2.2.1, rfl, (F.q18 h).2.2.2.2.2.2.2.2.2.2.2.2.1, (F.q18 h).2.2.2.2.2.2.2.2.2.2.2.2.2.1, (F.q18 h).2.2.2.2.2.2.2.2.2.2.2.2.2.2.1, (F.q18 h).2.2.2.2.2.2.2.2.2.2.2.2.2.2.2.1, (F.q18 h).2.2.2.2.2.2.2.2.2.2.2.2.2.2.2.2⟩, F.f0, F.f1, F.f2, F.f3, F.f4, F.f5, F.f6, F.f7, F.f8, F.f9, F.f10, fun _ => rfl, F.f12, F.f13, F.f14, F.f15, F.f16, F.f17, F.st0, F.st1⟩
      clear F
      go_simp
      exact HK.out _ _ ⟨_, _, _, _, _, _, _, _, _, _, _, _, _, _, _, _, _, _, rfl, HF.out⟩
    · obtain rfl := F.f10 (by simp [hdep])
      obtain rfl := F.f11 (by simp [hdep])
      have HF : Hid (mos9F b2 i k p q x y z S0 S1 (upd d_ 12) x52 x53 x54 x55 x56 x57 x58 x59 x60 x61 (.int .i64 q) (.pointer (some ⟨b2, p * 11, none⟩)) (.pointer (some ⟨b2, p * 11 + q, none⟩)) x65 x66 x67 x68 x69 w1) := ⟨F.q4, F.q5, F.q6, F.q8, F.q10, F.q11, fun _ => ⟨(show _ from (by simp [hdep] : d_ 10 = true)), (show _ from (by simp [hdep] : d_ 11 = true))⟩, fun h => rfl, F.q14, F.q15, F.q16, fun h => ⟨(F.q17 h).1, (F.q17 h).2.1, (F.q17 h).2.2.1, (F.q17 h).2.2.2.1, (F.q17 h).2.2.2.2.1, (F.q17 h).2.2.2.2.2.1, (F.q17 h).2.2.2.2.2.2.1, (F.q17 h).2.2.2.2.2.2.2.1, (F.q17 h).2.2.2.2.2.2.2.2.1, (F.q17 h).2.2.2.2.2.2.2.2.2.1, (F.q17 h).2.2.2.2.2.2.2.2.2.2.1, (F.q17 h).2.2.2.2.2.2.2.2.2.2.2.1, rfl, (F.q17 h).2.2.2.2.2.2.2.2.2.2.2.2.2.1, (F.q17 h).2.2.2.2.2.2.2.2.2.2.2.2.2.2.1, (F.q17 h).2.2.2.2.2.2.2.2.2.2.2.2.2.2.2.1, (F.q17 h).2.2.2.2.2.2.2.2.2.2.2.2.2.2.2.2⟩, fun h => ⟨(F.q18 h).1, (F.q18 h).2.1, (F.q18 h).2.2.1, (F.q18 h).2.2.2.1, (F.q18 h).2.2.2.2.1, (F.q18 h).2.2.2.2.2.1, (F.q18 h).2.2.2.2.2.2.1, (F.q18 h).2.2.2.2.2.2.2.1, (F.q18 h).2.2.2.2.2.2.2.2.1, (F.q18 h).2.2.2.2.2.2.2.2.2.1, (F.q18 h).2.2.2.2.2.2.2.2.2.2.1, (F.q18 h).2.2.2.2.2.2.2.2.2.2.2.1, rfl, (F.q18 h).2.2.2.2.2.2.2.2.2.2.2.2.2.1, (F.q18 h).2.2.2.2.2.2.2.2.2.2.2.2.2.2.1, (F.q18 h).2.2.2.2.2.2.2.2.2.2.2.2.2.2.2.1, (F.q18 h).2.2.2.2.2.2.2.2.2.2.2.2.2.2.2.2⟩, F.f0, F.f1, F.f2, F.f3, F.f4, F.f5, F.f6, F.f7, F.f8, F.f9, F.f10, F.f11, fun _ => rfl, F.f13, F.f14, F.f15, F.f16, F.f17, F.st0, F.st1⟩
      clear F
      go_simp
      exact HK.out _ _ ⟨_, _, _, _, _, _, _, _, _, _, _, _, _, _, _, _, _, _, rfl, HF.out⟩
    · have hst : S0 w1 := by
        have n_ : d_ 18 = false := by
          cases e_ : d_ 18 with
          | false => rfl
          | true => have h2 := (F.q18 e_).2.2.2.2.2.2.2.2.2.2.2.2.2.1; rw [show d_ 13 = false from hd_] at h2; cases h2
        exact (F.st0 n_)
      have kk := kl13.out w1 hst
      clear hst
      obtain rfl := F.f12 (by simp [hdep])
      have HF : Hid (mos9F b2 i k p q x y z S0 S1 (upd d_ 13) x52 x53 x54 x55 x56 x57 x58 x59 x60 x61 x62 x63 (.pointer (some ⟨b2, p * 11 + q, none⟩)) (.int .i64 y) x66 x67 x68 x69 w1) := ⟨F.q4, F.q5, F.q6, F.q8, F.q10, F.q11, F.q12, fun _ => (show _ from (by simp [hdep] : d_ 12 = true)), fun h => rfl, F.q15, F.q16, fun h => ⟨(F.q17 h).1, (F.q17 h).2.1, (F.q17 h).2.2.1, (F.q17 h).2.2.2.1, (F.q17 h).2.2.2.2.1, (F.q17 h).2.2.2.2.2.1, (F.q17 h).2.2.2.2.2.2.1, (F.q17 h).2.2.2.2.2.2.2.1, (F.q17 h).2.2.2.2.2.2.2.2.1, (F.q17 h).2.2.2.2.2.2.2.2.2.1, (F.q17 h).2.2.2.2.2.2.2.2.2.2.1, (F.q17 h).2.2.2.2.2.2.2.2.2.2.2.1, (F.q17 h).2.2.2.2.2.2.2.2.2.2.2.2.1, rfl, (F.q17 h).2.2.2.2.2.2.2.2.2.2.2.2.2.2.1, (F.q17 h).2.2.2.2.2.2.2.2.2.2.2.2.2.2.2.1, (F.q17 h).2.2.2.2.2.2.2.2.2.2.2.2.2.2.2.2⟩, fun h => ⟨(F.q18 h).1, (F.q18 h).2.1, (F.q18 h).2.2.1, (F.q18 h).2.2.2.1, (F.q18 h).2.2.2.2.1, (F.q18 h).2.2.2.2.2.1, (F.q18 h).2.2.2.2.2.2.1, (F.q18 h).2.2.2.2.2.2.2.1, (F.q18 h).2.2.2.2.2.2.2.2.1, (F.q18 h).2.2.2.2.2.2.2.2.2.1, (F.q18 h).2.2.2.2.2.2.2.2.2.2.1, (F.q18 h).2.2.2.2.2.2.2.2.2.2.2.1, (F.q18 h).2.2.2.2.2.2.2.2.2.2.2.2.1, rfl, (F.q18 h).2.2.2.2.2.2.2.2.2.2.2.2.2.2.1, (F.q18 h).2.2.2.2.2.2.2.2.2.2.2.2.2.2.2.1, (F.q18 h).2.2.2.2.2.2.2.2.2.2.2.2.2.2.2.2⟩, F.f0, F.f1, F.f2, F.f3, F.f4, F.f5, F.f6, F.f7, F.f8, F.f9, F.f10, F.f11, F.f12, fun _ => rfl, F.f14, F.f15, F.f16, F.f17, F.st0, F.st1⟩
      clear F
      go_simp
      exact HK.out _ _ ⟨_, _, _, _, _, _, _, _, _, _, _, _, _, _, _, _, _, _, rfl, HF.out⟩
    · obtain rfl := F.f13 (by simp [hdep])
      have HF : Hid (mos9F b2 i k p q x y z S0 S1 (upd d_ 14) x52 x53 x54 x55 x56 x57 x58 x59 x60 x61 x62 x63 x64 (.int .i64 y) (.int .i64 z) x67 x68 x69 w1) := ⟨F.q4, F.q5, F.q6, F.q8, F.q10, F.q11, F.q12, F.q13, fun _ => (show _ from (by simp [hdep] : d_ 13 = true)), fun h => ⟨(F.q15 h).1, rfl⟩, F.q16, fun h => ⟨(F.q17 h).1, (F.q17 h).2.1, (F.q17 h).2.2.1, (F.q17 h).2.2.2.1, (F.q17 h).2.2.2.2.1, (F.q17 h).2.2.2.2.2.1, (F.q17 h).2.2.2.2.2.2.1, (F.q17 h).2.2.2.2.2.2.2.1, (F.q17 h).2.2.2.2.2.2.2.2.1, (F.q17 h).2.2.2.2.2.2.2.2.2.1, (F.q17 h).2.2.2.2.2.2.2.2.2.2.1, (F.q17 h).2.2.2.2.2.2.2.2.2.2.2.1, (F.q17 h).2.2.2.2.2.2.2.2.2.2.2.2.1, (F.q17 h).2.2.2.2.2.2.2.2.2.2.2.2.2.1, rfl, (F.q17 h).2.2.2.2.2.2.2.2.2.2.2.2.2.2.2.1, (F.q17 h).2.2.2.2.2.2.2.2.2.2.2.2.2.2.2.2⟩, fun h => ⟨(F.q18 h).1, (F.q18 h).2.1, (F.q18 h).2.2.1, (F.q18 h).2.2.2.1, (F.q18 h).2.2.2.2.1, (F.q18 h).2.2.2.2.2.1, (F.q18 h).2.2.2.2.2.2.1, (F.q18 h).2.2.2.2.2.2.2.1, (F.q18 h).2.2.2.2.2.2.2.2.1, (F.q18 h).2.2.2.2.2.2.2.2.2.1, (F.q18 h).2.2.2.2.2.2.2.2.2.2.1, (F.q18 h).2.2.2.2.2.2.2.2.2.2.2.1, (F.q18 h).2.2.2.2.2.2.2.2.2.2.2.2.1, (F.q18 h).2.2.2.2.2.2.2.2.2.2.2.2.2.1, rfl, (F.q18 h).2.2.2.2.2.2.2.2.2.2.2.2.2.2.2.1, (F.q18 h).2.2.2.2.2.2.2.2.2.2.2.2.2.2.2.2⟩, F.f0, F.f1, F.f2, F.f3, F.f4, F.f5, F.f6, F.f7, F.f8, F.f9, F.f10, F.f11, F.f12, F.f13, fun _ => rfl, F.f15, F.f16, F.f17, F.st0, F.st1⟩
      clear F
      go_simp
      exact HK.out _ _ ⟨_, _, _, _, _, _, _, _, _, _, _, _, _, _, _, _, _, _, rfl, HF.out⟩
    · obtain rfl := F.f6 (by simp [hdep])
      obtain rfl := F.f14 (by simp [hdep])
      have HF : Hid (mos9F b2 i k p q x y z S0 S1 (upd d_ 15) x52 x53 x54 x55 x56 x57 (.int .i64 x) x59 x60 x61 x62 x63 x64 x65 (.int .i64 z) (.int .i64 (max x z)) x68 x69 w1) := ⟨F.q4, F.q5, F.q6, F.q8, F.q10, F.q11, F.q12, F.q13, F.q14, fun _ => ⟨(show _ from (by simp [hdep] : d_ 6 = true)), (show _ from (by simp [hdep] : d_ 14 = true))⟩, F.q16, fun h => ⟨(F.q17 h).1, (F.q17 h).2.1, (F.q17 h).2.2.1, (F.q17 h).2.2.2.1, (F.q17 h).2.2.2.2.1, (F.q17 h).2.2.2.2.2.1, (F.q17 h).2.2.2.2.2.2.1, (F.q17 h).2.2.2.2.2.2.2.1, (F.q17 h).2.2.2.2.2.2.2.2.1, (F.q17 h).2.2.2.2.2.2.2.2.2.1, (F.q17 h).2.2.2.2.2.2.2.2.2.2.1, (F.q17 h).2.2.2.2.2.2.2.2.2.2.2.1, (F.q17 h).2.2.2.2.2.2.2.2.2.2.2.2.1, (F.q17 h).2.2.2.2.2.2.2.2.2.2.2.2.2.1, (F.q17 h).2.2.2.2.2.2.2.2.2.2.2.2.2.2.1, rfl, (F.q17 h).2.2.2.2.2.2.2.2.2.2.2.2.2.2.2.2⟩, fun h => ⟨(F.q18 h).1, (F.q18 h).2.1, (F.q18 h).2.2.1, (F.q18 h).2.2.2.1, (F.q18 h).2.2.2.2.1, (F.q18 h).2.2.2.2.2.1, (F.q18 h).2.2.2.2.2.2.1, (F.q18 h).2.2.2.2.2.2.2.1, (F.q18 h).2.2.2.2.2.2.2.2.1, (F.q18 h).2.2.2.2.2.2.2.2.2.1, (F.q18 h).2.2.2.2.2.2.2.2.2.2.1, (F.q18 h).2.2.2.2.2.2.2.2.2.2.2.1, (F.q18 h).2.2.2.2.2.2.2.2.2.2.2.2.1, (F.q18 h).2.2.2.2.2.2.2.2.2.2.2.2.2.1, (F.q18 h).2.2.2.2.2.2.2.2.2.2.2.2.2.2.1, rfl, (F.q18 h).2.2.2.2.2.2.2.2.2.2.2.2.2.2.2.2⟩, F.f0, F.f1, F.f2, F.f3, F.f4, F.f5, F.f6, F.f7, F.f8, F.f9, F.f10, F.f11, F.f12, F.f13, F.f14, fun _ => rfl, F.f16, F.f17, F.st0, F.st1⟩
      clear F
      go_simp
      exact HK.out _ _ ⟨_, _, _, _, _, _, _, _, _, _, _, _, _, _, _, _, _, _, rfl, HF.out⟩
    · obtain rfl := F.f0 (by simp [hdep])
      have HF : Hid (mos9F b2 i k p q x y z S0 S1 (upd d_ 16) (.int .i64 i) x53 x54 x55 x56 x57 x58 x59 x60 x61 x62 x63 x64 x65 x66 x67 (.pointer (some ⟨b2, i * 11, none⟩)) x69 w1) := ⟨F.q4, F.q5, F.q6, F.q8, F.q10, F.q11, F.q12, F.q13, F.q14, F.q15, fun _ => (show _ from (by simp [hdep] : d_ 0 = true)), fun h => ⟨(F.q17 h).1, (F.q17 h).2.1, (F.q17 h).2.2.1, (F.q17 h).2.2.2.1, (F.q17 h).2.2.2.2.1, (F.q17 h).2.2.2.2.2.1, (F.q17 h).2.2.2.2.2.2.1, (F.q17 h).2.2.2.2.2.2.2.1, (F.q17 h).2.2.2.2.2.2.2.2.1, (F.q17 h).2.2.2.2.2.2.2.2.2.1, (F.q17 h).2.2.2.2.2.2.2.2.2.2.1, (F.q17 h).2.2.2.2.2.2.2.2.2.2.2.1, (F.q17 h).2.2.2.2.2.2.2.2.2.2.2.2.1, (F.q17 h).2.2.2.2.2.2.2.2.2.2.2.2.2.1, (F.q17 h).2.2.2.2.2.2.2.2.2.2.2.2.2.2.1, (F.q17 h).2.2.2.2.2.2.2.2.2.2.2.2.2.2.2.1, rfl⟩, F.q18, F.f0, F.f1, F.f2, F.f3, F.f4, F.f5, F.f6, F.f7, F.f8, F.f9, F.f10, F.f11, F.f12, F.f13, F.f14, F.f15, fun _ => rfl, F.f17, F.st0, F.st1⟩
      clear F
      go_simp
      exact HK.out _ _ ⟨_, _, _, _, _, _, _, _, _, _, _, _, _, _, _, _, _, _, rfl, HF.out⟩
    · obtain rfl := F.f1 (by simp [hdep])
      obtain rfl := F.f16 (by simp [hdep])
      have HF : Hid (mos9F b2 i k p q x y z S0 S1 (upd d_ 17) x52 (.int .i64 k) x54 x55 x56 x57 x58 x59 x60 x61 x62 x63 x64 x65 x66 x67 (.pointer (some ⟨b2, i * 11, none⟩)) (.pointer (some ⟨b2, i * 11 + k, none⟩)) w1) := ⟨F.q4, F.q5, F.q6, F.q8, F.q10, F.q11, F.q12, F.q13, F.q14, F.q15, F.q16, fun _ => ⟨(show _ from (by simp [hdep] : d_ 0 = true)), (show _ from (by simp [hdep] : d_ 1 = true)), (show _ from (by simp [hdep] : d_ 2 = true)), (show _ from (by simp [hdep] : d_ 3 = true)), (show _ from (by simp [hdep] : d_ 4 = true)), (show _ from (by simp [hdep] : d_ 5 = true)), (show _ from (by simp [hdep] : d_ 6 = true)), (show _ from (by simp [hdep] : d_ 7 = true)), (show _ from (by simp [hdep] : d_ 8 = true)), (show _ from (by simp [hdep] : d_ 9 = true)), (show _ from (by simp [hdep] : d_ 10 = true)), (show _ from (by simp [hdep] : d_ 11 = true)), (show _ from (by simp [hdep] : d_ 12 = true)), (show _ from (by simp [hdep] : d_ 13 = true)), (show _ from (by simp [hdep] : d_ 14 = true)), (show _ from (by simp [hdep] : d_ 15 = true)), (show _ from (by simp [hdep] : d_ 16 = true))⟩, fun h => ⟨(F.q18 h).1, (F.q18 h).2.1, (F.q18 h).2.2.1, (F.q18 h).2.2.2.1, (F.q18 h).2.2.2.2.1, (F.q18 h).2.2.2.2.2.1, (F.q18 h).2.2.2.2.2.2.1, (F.q18 h).2.2.2.2.2.2.2.1, (F.q18 h).2.2.2.2.2.2.2.2.1, (F.q18 h).2.2.2.2.2.2.2.2.2.1, (F.q18 h).2.2.2.2.2.2.2.2.2.2.1, (F.q18 h).2.2.2.2.2.2.2.2.2.2.2.1, (F.q18 h).2.2.2.2.2.2.2.2.2.2.2.2.1, (F.q18 h).2.2.2.2.2.2.2.2.2.2.2.2.2.1, (F.q18 h).2.2.2.2.2.2.2.2.2.2.2.2.2.2.1, (F.q18 h).2.2.2.2.2.2.2.2.2.2.2.2.2.2.2.1, rfl⟩, F.f0, F.f1, F.f2, F.f3, F.f4, F.f5, F.f6, F.f7, F.f8, F.f9, F.f10, F.f11, F.f12, F.f13, F.f14, F.f15, F.f16, fun _ => rfl, F.st0, F.st1⟩
      clear F
      go_simp
      exact HK.out _ _ ⟨_, _, _, _, _, _, _, _, _, _, _, _, _, _, _, _, _, _, rfl, HF.out⟩
    · have hS := F.st0  hd_
      obtain rfl := F.f15 (by simp [hdep])
      obtain rfl := F.f17 (by simp [hdep])
      obtain ⟨⟨ku0, kcell0⟩, kfr0, hres⟩ := kc18.out w1 hS
      have HF : Hid (mos9F b2 i k p q x y z S0 S1 (upd d_ 18) x52 x53 x54 x55 x56 x57 x58 x59 x60 x61 x62 x63 x64 x65 x66 (.int .i64 (max x z)) x68 (.pointer (some ⟨b2, i * 11 + k, none⟩)) (w1.setCell ⟨b2, i * 11 + k, none⟩ (.int .i64 (max x z)))) := ⟨F.q4, F.q5, F.q6, F.q8, F.q10, F.q11, F.q12, F.q13, F.q14, F.q15, F.q16, F.q17, fun _ => ⟨(show _ from (by simp [hdep] : d_ 0 = true)), (show _ from (by simp [hdep] : d_ 1 = true)), (show _ from (by simp [hdep] : d_ 2 = true)), (show _ from (by simp [hdep] : d_ 3 = true)), (show _ from (by simp [hdep] : d_ 4 = true)), (show _ from (by simp [hdep] : d_ 5 = true)), (show _ from (by simp [hdep] : d_ 6 = true)), (show _ from (by simp [hdep] : d_ 7 = true)), (show _ from (by simp [hdep] : d_ 8 = true)), (show _ from (by simp [hdep] : d_ 9 = true)), (show _ from (by simp [hdep] : d_ 10 = true)), (show _ from (by simp [hdep] : d_ 11 = true)), (show _ from (by simp [hdep] : d_ 12 = true)), (show _ from (by simp [hdep] : d_ 13 = true)), (show _ from (by simp [hdep] : d_ 14 = true)), (show _ from (by simp [hdep] : d_ 15 = true)), (show _ from (by simp [hdep] : d_ 17 = true))⟩, F.f0, F.f1, F.f2, F.f3, F.f4, F.f5, F.f6, F.f7, F.f8, F.f9, F.f10, F.f11, F.f12, F.f13, F.f14, F.f15, F.f16, F.f17, fun h => (by simp [upd] at h), fun _ => hres⟩
      clear F hS hres
      go_simp
      exact HK.out _ _ ⟨_, _, _, _, _, _, _, _, _, _, _, _, _, _, _, _, _, _, rfl, HF.out⟩
  · rintro d_ a_ w1 hall ⟨x52, x53, x54, x55, x56, x57, x58, x59, x60, x61, x62, x63, x64, x65, x66, x67, x68, x69, rfl, F⟩
    have hall' : ∀ k, k < 19 → d_ k = true := hall
    obtain rfl := F.f0 (hall' 0 (by decide))
    obtain rfl := F.f1 (hall' 1 (by decide))
    obtain rfl := F.f2 (hall' 2 (by decide))
    obtain rfl := F.f3 (hall' 3 (by decide))
    obtain rfl := F.f4 (hall' 4 (by decide))
    obtain rfl := F.f5 (hall' 5 (by decide))
    obtain rfl := F.f6 (hall' 6 (by decide))
    obtain rfl := F.f7 (hall' 7 (by decide))
    obtain rfl := F.f8 (hall' 8 (by decide))
    obtain rfl := F.f9 (hall' 9 (by decide))
    obtain rfl := F.f10 (hall' 10 (by decide))
    obtain rfl := F.f11 (hall' 11 (by decide))
    obtain rfl := F.f12 (hall' 12 (by decide))
    obtain rfl := F.f13 (hall' 13 (by decide))
    obtain rfl := F.f14 (hall' 14 (by decide))
    obtain rfl := F.f15 (hall' 15 (by decide))
    obtain rfl := F.f16 (hall' 16 (by decide))
    obtain rfl := F.f17 (hall' 17 (by decide))
    have hst := F.st1 (hall' 18 (by decide))
    exact HQ.out  w1 hst
end Go.Proofs.YtbnhngfegnhaiaaDoor
namespace Go.Proofs.YtbnhngfegnhaiaaDoor
open Go.RowKit
set_option linter.unusedVariables false
set_option linter.unusedSimpArgs false
theorem zero156 : Tryd.zeroCells72 = (numL fun _ => 0).toArray := by rfl
theorem range_of {w : World} {b : Nat} {l : List Value} {t : TypeId} {fr : Nat × Nat} (hb : w.heap[b]? = some (.cells l.toArray t fr)) : w.rangeAt b 0 l := fun j v hv => by
  rw [Nat.zero_add]
  have e : w.cell? ⟨b, j, none⟩ = l.toArray[j]? := cell_of_heap hb
  rw [e]
  simpa using hv
theorem res_cell {P : Program} {fn : Func} {u : Tmp} {t : TypeId} {v : Value} (h : fn.results = #[.cell u t]) (tmps : Array Value) {w : World} {b : Nat} (hp : tmps.getD u undef = .pointer (some ⟨b, 0, none⟩)) (hr : (loadVar t ⟨b, 0, none⟩).run P w = .ok v w) :
    (results fn tmps).run P w = .ok v w := by
  have hp' : tmps[u]?.getD undef = .pointer (some ⟨b, 0, none⟩) := by simpa using hp
  simp [results, h, hp', asAddr, hr]
theorem res_big {fn : Func} {u : Tmp} (h : fn.results = #[.cell u 72]) (tmps : Array Value) {w : World} {b : Nat} {U : Nat → Int} (hp : tmps.getD u undef = .pointer (some ⟨b, 0, none⟩)) (hq : w.heap[b]? = some (.cells (numL U).toArray 72 (0, 0))) :
    (results fn tmps).run Tryd.prog w = .ok (.agg (numL U).toArray) w :=
  res_cell h tmps hp (run_loadVar_mid (P := Tryd.prog) w b 0 72 (numL U) _ (range_of hq) Tryd.underlying72 rfl (by rw [numL_len]; exact info156))
/-- What stays while the table is made. -/
structure MosI (w0 : World) (b2 : Nat) (U : Nat → Int) (v : World) : Prop where
  below : Below w0.heap.size w0 v
  tab : v.heap[b2]? = some (.cells (numL U).toArray 72 (0, 0))
theorem MosI.put {w0 v : World} {b2 : Nat} {U : Nat → Int} (h : MosI w0 b2 U v) (h2 : w0.heap.size ≤ b2) {j : Nat} (hj : j < 121) (z : Int) : MosI w0 b2 (fun x => if x = j then z else U x) (v.setCell ⟨b2, j, none⟩ (.int .i64 z)) := by
  refine ⟨h.below.setCell (p := ⟨b2, j, none⟩) h2 _, ?_⟩
  have h1 := heap_setCell_at (k := j) h.tab (.int .i64 z)
  rw [List.setIfInBounds_toArray, numL_set _ hj] at h1
  exact h1
theorem MosI.drew {w0 v : World} {b2 : Nat} {U : Nat → Int} (h : MosI w0 b2 U v) : MosI w0 b2 U v.drew := ⟨h.below.drew, h.tab⟩
theorem mst_le (F : Nat → Nat → Bool) (n m : Nat) : ∀ a b, mst F n m a b ≤ a
  | 0, _ => Nat.le_refl _
  | a + 1, b => by
    induction b with
    | zero => exact Nat.zero_le _
    | succ b ih =>
      show rowB (F (n - (a + 1))) m (mst F n m a) (b + 1) ≤ a + 1
      have h1 := mst_le F n m a (b + 1)
      have h2 := mst_le F n m a b
      have h3 : rowB (F (n - (a + 1))) m (mst F n m a) b ≤ a + 1 := ih
      unfold rowB
      split <;> omega
set_option maxRecDepth 100000 in
set_option maxHeartbeats 8000000 in
theorem most82 {r : Rws} {al ar : Option Addr} {cl cr b : Nat} {T : Nat → Bool} {need : Int} {w : World} (h : IsRws w b r al cl ar cr T need) (hl1 : r.left.length ≤ 10) (hl2 : r.right.length ≤ 10) :
    Calls Tryd.prog 29 #[.pointer (some ⟨b, 0, none⟩)] w fun e w' => e = .returned (.agg (numL (dI (fun i k => T (i * 10 + k)) r.left.length r.right.length 0 0)).toArray) ∧ Below w.heap.size w w' := by
  have HO : Hid (MosI w w.heap.size (dI (fun i k => T (i * 10 + k)) r.left.length r.right.length r.left.length 0) (w.alloc (.cells Tryd.zeroCells72 72))) := by
    rw [dI_start, zero156]
    exact ⟨alloc_below _ _, World.alloc_heap_new _ _⟩
  have H := Lib.hid h
  clear h
  go_enter Tryd.func29, Tryd.ntmps29
  refine wp_seq_hid ?_
  intro K0 HK0
  go_wp2_with fail
  refine HK0.out _ _ ?_
  clear HK0 K0
  revert HO
  generalize w.alloc (.cells Tryd.zeroCells72 72) = w1
  generalize hb2 : w.heap.size = b2
  intro HO
  have HB2 := Lib.hid hb2
  clear hb2
  have x1 : IntKind.i64.wrap ((r.left.length : Int) - 1) = (r.left.length : Int) - 1 := IntWalk.i64_in _ (by omega)
  have k0 : w1.cell? ⟨b, 0, none⟩ = some (.slice al r.left.length cl) := (H.out.mono HO.out.below).left
  refine wp_seq_hid ?_
  intro K1 HK1
  go_wp2_with fail
  clear k0 x1
  go_loopw [3] (fun q wr => ∃ i : Nat, i ≤ r.left.length ∧ q = .int .i64 ((i : Int) - 1) ∧ Hid (MosI w b2 (dI (fun i k => T (i * 10 + k)) r.left.length r.right.length i 0) wr)) (fun q _ => (intOf q + 1).toNat)
  case atStart => exact ⟨r.left.length, by omega, rfl, HO⟩
  case round =>
    obtain ⟨i0, hi0, rfl, HW⟩ := hrel
    clear HO
    by_cases hz : i0 = 0
    · subst hz
      have HF : Hid (MosI w b2 (dI (fun i k => T (i * 10 + k)) r.left.length r.right.length 0 0) wr) := HW.out
      clear HW
      have hm : (((0 : Nat) : Int) - 1) = -1 := rfl
      rw [hm]
      clear hm
      go_wp2_with fail
      refine HK1.out _ _ ?_
      revert HF
      generalize dI (fun i k => T (i * 10 + k)) r.left.length r.right.length 0 0 = U
      intro HF
      go_wp2_with (first | (refine wpList_load_mid rfl 72 _ (by rfl) b2 0 (by rfl) (numL U) _ (range_of HF.out.tab) Tryd.underlying72 rfl (by rw [numL_len]; exact info156) ?_) | (refine wpList_store_mid rfl 72 _ _ (by rfl) b2 0 (numL U).toArray (by rfl) (by rfl) ?ht (by rw [List.size_toArray, numL_len]; exact info156) (numL_one U) ?_))
      case ht => exact fun j hj => ⟨by rw [Nat.zero_add, num_cell HF.out.tab (by rw [List.size_toArray, numL_len] at hj; exact hj)]; rfl, frozen_of_heap HF.out.tab⟩
      have hs : (wr.setCells b2 0 (numL U)).heap[b2]? = some (.cells (numL U).toArray 72 (0, 0)) := heap_setCells_same _ 0 _ HF.out.tab (fun j v hj => by rw [Nat.zero_add, List.getElem?_toArray]; exact hj)
      have hb := below_setCells (B := b2) (A := w) (Nat.le_refl b2) (numL U) 0 wr (by have := HF.out.below; rw [HB2.out] at this; exact this)
      exact bodyPost_ret (res_big rfl _ rfl hs) rfl ⟨rfl, hb⟩
    · obtain ⟨i, rfl⟩ : ∃ i, i0 = i + 1 := ⟨i0 - 1, by omega⟩
      rw [show (((i + 1 : Nat) : Int) - 1) = i by omega]
      have k1 : wr.cell? ⟨b, 1, none⟩ = some (.slice ar r.right.length cr) := (H.out.mono HW.out.below).right
      have x1 : IntKind.i64.wrap ((r.right.length : Int) - 1) = (r.right.length : Int) - 1 := IntWalk.i64_in _ (by omega)
      have HY : Hid (MosI w b2 (dI (fun i k => T (i * 10 + k)) r.left.length r.right.length i r.right.length) wr) := by
        rw [dI_row]
        exact HW.out
      clear HW
      go_wp2_with fail
      clear k1 x1
      go_loopw [4] (fun q wr => ∃ k : Nat, k ≤ r.right.length ∧ q = .int .i64 ((k : Int) - 1) ∧ Hid (MosI w b2 (dI (fun i k => T (i * 10 + k)) r.left.length r.right.length i k) wr)) (fun q _ => (intOf q + 1).toNat)
      case atStart => exact ⟨r.right.length, by omega, rfl, HY⟩
      case round =>
        obtain ⟨k0, hk0, rfl, HW⟩ := hrel
        clear HY
        by_cases hzk : k0 = 0
        · subst hzk
          have HF : Hid (MosI w b2 (dI (fun i k => T (i * 10 + k)) r.left.length r.right.length i 0) wr) := HW.out
          clear HW
          rw [show (((0 : Nat) : Int) - 1) = -1 from rfl]
          go_wp2_with fail
          go_roundw
          case rel => exact ⟨i, by omega, rfl, HF.out⟩
          case measure => simp [intOf]
        · obtain ⟨k, rfl⟩ : ∃ k, k0 = k + 1 := ⟨k0 - 1, by omega⟩
          rw [show (((k + 1 : Nat) : Int) - 1) = k by omega]
          have HST := Lib.hid (mst_step (fun i k => T (i * 10 + k)) (n := r.left.length) (m := r.right.length) (i := i) (k := k) (by omega) (by omega))
          have HVA := Lib.hid (dI_at (fun i k => T (i * 10 + k)) r.left.length r.right.length (i := i) (k := k + 1) (a := i + 1) (b := k) (by omega) (.inl (by omega)))
          have HVB := Lib.hid (dI_at (fun i k => T (i * 10 + k)) r.left.length r.right.length (i := i) (k := k + 1) (a := i) (b := k + 1) (by omega) (.inr ⟨rfl, Nat.le_refl _⟩))
          have HVC := Lib.hid (dI_at (fun i k => T (i * 10 + k)) r.left.length r.right.length (i := i) (k := k + 1) (a := i + 1) (b := k + 1) (by omega) (.inl (by omega)))
          have HDS := Lib.hid (dI_set (fun i k => T (i * 10 + k)) r.left.length r.right.length (i := i) (k := k) (by omega))
          have HLC := Lib.hid (mst_le (fun i k => T (i * 10 + k)) r.left.length r.right.length (r.left.length - (i + 1)) (r.right.length - (k + 1)))
          go_upto_region 7 with fail
          revert HW HST HVA HVB HVC HDS HLC
          generalize dI (fun i k => T (i * 10 + k)) r.left.length r.right.length i (k + 1) = U
          generalize hU : dI (fun i k => T (i * 10 + k)) r.left.length r.right.length i k = U'
          generalize mst (fun i k => T (i * 10 + k)) r.left.length r.right.length (r.left.length - i) (r.right.length - k) = vd
          generalize mst (fun i k => T (i * 10 + k)) r.left.length r.right.length (r.left.length - (i + 1)) (r.right.length - k) = va
          generalize mst (fun i k => T (i * 10 + k)) r.left.length r.right.length (r.left.length - i) (r.right.length - (k + 1)) = vb
          generalize mst (fun i k => T (i * 10 + k)) r.left.length r.right.length (r.left.length - (i + 1)) (r.right.length - (k + 1)) = vc
          intro HW HST HVA HVB HVC HDS HLC
          have HUE := Lib.hid hU
          clear hU
          refine wpIn_wide.1 (mos7 (b2 := b2) (i := i) (k := k) (p := i + 1) (q := k + 1) (x := va) (y := vb)
            (S0 := fun v => MosI w b2 U v) (S1 := fun v => MosI w b2 (fun x => if x = i * 11 + k then max (va : Int) vb else U x) v)
            (IntWalk.i64_in _ (by omega)) (IntWalk.i64_in _ (by omega)) (by omega) (by omega) (by omega) (by omega) (by omega) (by omega) (by omega) (by omega) ?h0 ?l7 ?l13 ?c17 ?hQ)
          case h0 => exact HW.out.drew
          case l7 => exact fun v h => by rw [num_cell h.tab (by omega), HVA.out]
          case l13 => exact fun v h => by rw [num_cell h.tab (by omega), HVB.out]
          case c17 => exact fun v h => ⟨⟨_, num_cell h.tab (by omega)⟩, frozen_of_heap h.tab, h.put (by rw [HB2.out]; exact Nat.le_refl _) (by omega) _⟩
          intro w4 h
          have HF := Lib.hid h
          clear h HW HVA HVB
          have kt : w4.cell? ⟨b, 5 + i * 10 + k, none⟩ = some (.bool (T (i * 10 + k))) := by
            rw [Nat.add_assoc]
            exact (H.out.mono HF.out.below).tab (by omega)
          have g1 : (i : Int) < 10 := by omega
          have g2 : (k : Int) < 10 := by omega
          cases ht : T (i * 10 + k)
          · rw [ht] at kt
            have HEQ : Hid ((fun x => if x = i * 11 + k then max (va : Int) vb else U x) = U') := by
              rw [Hid, ← HDS.out]
              funext x
              have e := HST.out
              rw [if_neg (by rw [ht]; decide)] at e
              split
              · rw [e]; omega
              · rfl
            clear ht
            go_wp2_with fail
            clear kt g1 g2
            go_roundw
            case rel => exact ⟨k, by omega, rfl, by have h := HF.out; rw [HEQ.out, ← HUE.out] at h; exact h⟩
            case measure => simp [intOf] <;> omega
          · rw [ht] at kt
            have HEQ : Hid ((fun t => if t = i * 11 + k then max (max (va : Int) vb) (1 + vc) else (if t = i * 11 + k then max (va : Int) vb else U t)) = U') := by
              rw [Hid, ← HDS.out]
              funext x
              have e := HST.out
              rw [if_pos (by rw [ht])] at e
              split
              · rw [e]; omega
              · next h => rfl
            clear ht
            go_upto_region 9 with fail
            clear kt
            refine wpIn_wide.1 (mos9 (b2 := b2) (i := i) (k := k) (p := i + 1) (q := k + 1) (x := max (va : Int) vb) (y := vc) (z := 1 + vc)
              (S0 := fun v => MosI w b2 (fun x => if x = i * 11 + k then max (va : Int) vb else U x) v) (S1 := fun v => MosI w b2 U' v)
              (IntWalk.i64_in _ (by omega)) (IntWalk.i64_in _ (by omega)) (by omega) (by omega) (by omega) (by omega) (by omega) (by omega) (by omega) (by omega) (IntWalk.i64_in _ (by have := HLC.out; omega)) ?h0_b ?l6_b ?l13_b ?c18_b ?hQ_b)
            case h0_b => exact HF.out.drew
            case l6_b => exact fun v h => by rw [num_cell h.tab (by omega), if_pos rfl]
            case l13_b => exact fun v h => by rw [num_cell h.tab (by omega), if_neg (by omega), HVC.out]
            case c18_b =>
              intro v h
              refine ⟨⟨_, num_cell h.tab (by omega)⟩, frozen_of_heap h.tab, ?_⟩
              have h2 := h.put (by rw [HB2.out]; exact Nat.le_refl _) (j := i * 11 + k) (by omega) (max (max (va : Int) vb) (1 + vc))
              rw [HEQ.out] at h2
              exact h2
            intro w5 h
            have HF5 := Lib.hid h
            clear h g1 g2
            go_wp2_with fail
            go_roundw
            case rel => exact ⟨k, by omega, rfl, by have h := HF5.out; rw [← HUE.out] at h; exact h⟩
            case measure => simp [intOf] <;> omega
end Go.Proofs.YtbnhngfegnhaiaaDoor
namespace Go.Proofs.YtbnhngfegnhaiaaDoor
open Go.RowKit
set_option linter.unusedVariables false
set_option linter.unusedSimpArgs false
def rowV (U : Nat → Int) (i : Nat) : Value := .agg #[.int .i64 (U (i * 11)), .int .i64 (U (i * 11 + 1)), .int .i64 (U (i * 11 + 2)), .int .i64 (U (i * 11 + 3)), .int .i64 (U (i * 11 + 4)), .int .i64 (U (i * 11 + 5)), .int .i64 (U (i * 11 + 6)), .int .i64 (U (i * 11 + 7)), .int .i64 (U (i * 11 + 8)), .int .i64 (U (i * 11 + 9)), .int .i64 (U (i * 11 + 10))]
structure isrF (b : Nat) (U : Nat → Int) (nd : Int) (S0 : World → Prop) (S1 : Unit → World → Prop) (d : Nat → Bool) (x3 x4 x5 x6 x7 x8 x9 x10 x11 x2 : Value) (u : Unit) (w : World) : Prop where
  q1 : d 1 = true → d 0 = true
  q2 : d 2 = true → d 1 = true
  q3 : d 3 = true → d 2 = true
  q5 : d 5 = true → d 4 = true
  q6 : d 6 = true → d 5 = true
  q7 : d 7 = true → d 6 = true
  q8 : d 8 = true → d 3 = true ∧ d 7 = true
  q9 : d 9 = true → d 0 = true ∧ d 1 = true ∧ d 2 = true ∧ d 3 = true ∧ d 4 = true ∧ d 5 = true ∧ d 6 = true ∧ d 7 = true ∧ d 8 = true
  f0 : d 0 = true → x3 = .pointer (some ⟨b, 0, none⟩)
  f1 : d 1 = true → x4 = .agg (numL U).toArray
  f2 : d 2 = true → x5 = rowV U 0
  f3 : d 3 = true → x6 = .int .i64 (U 0)
  f4 : d 4 = true → x7 = .pointer (some ⟨b, 0, none⟩)
  f5 : d 5 = true → x8 = .pointer (some ⟨b, 0, none⟩)
  f6 : d 6 = true → x9 = .pointer (some ⟨b, 105, none⟩)
  f7 : d 7 = true → x10 = .int .i64 nd
  f8 : d 8 = true → x11 = .bool (decide (nd ≤ U 0))
  f9 : d 9 = true → x2 = .bool (decide (nd ≤ U 0))
  st0 : d 1 = false → S0 w
  st1 : d 1 = true → S1 u w
noncomputable def isrC : Code := (Tryd.f66.body.bind (regionAt 1)).getD .skip
set_option maxRecDepth 100000 in
set_option maxHeartbeats 4000000 in
theorem isr {b : Nat} {U : Nat → Int} {nd : Int} {S0 : World → Prop} {S1 : Unit → World → Prop} {Q : Exit → Act → World → Prop} {W1 : World} (h0 : S0 W1.drew)
    (kc1 : Hid (∀ (w : World), S0 w → Calls Tryd.prog 29 #[.pointer (some ⟨b, 0, none⟩)] w fun e w' => ∃ u : Unit, e = .returned (.agg (numL U).toArray) ∧ S1 u w'))
    (kl7 : Hid (∀ (u : Unit) (w : World), (S0 w ∨ S1 u w) → w.cell? ⟨b, 105, none⟩ = some (.int .i64 nd)))
    {s1 s2 s3 s4 s5 s6 s7 s8 s9 s10 s11 : Value} {dd : List Deferred}
    (hQ : ∀ (u : Unit) (w' : World), S1 u w' → Q .normal { tmps := #[.pointer (some ⟨b, 0, none⟩), s1, .bool (decide (nd ≤ U 0)), .pointer (some ⟨b, 0, none⟩), .agg (numL U).toArray, rowV U 0, .int .i64 (U 0), .pointer (some ⟨b, 0, none⟩), .pointer (some ⟨b, 0, none⟩), .pointer (some ⟨b, 105, none⟩), .int .i64 nd, .bool (decide (nd ≤ U 0))], defers := dd } w') :
    Code.wpIn (wideAt none) 0 Tryd.prog isrC Q { tmps := #[.pointer (some ⟨b, 0, none⟩), s1, s2, s3, s4, s5, s6, s7, s8, s9, s10, s11], defers := dd } W1 := by
  have HQ := Lib.hid hQ
  clear hQ
  conv => arg 4; whnf
  refine wpIn_region_invG mixed (by kernel_rfl) (fun d_ a_ w' => ∃ (x3 : Value) (x4 : Value) (x5 : Value) (x6 : Value) (x7 : Value) (x8 : Value) (x9 : Value) (x10 : Value) (x11 : Value) (x2 : Value) (u : Unit), a_ = { tmps := #[.pointer (some ⟨b, 0, none⟩), s1, x2, x3, x4, x5, x6, x7, x8, x9, x10, x11], defers := dd } ∧ isrF b U nd S0 S1 d_ x3 x4 x5 x6 x7 x8 x9 x10 x11 x2 u w') ?_ ?_ ?_
  · refine ⟨s3, s4, s5, s6, s7, s8, s9, s10, s11, s2, default, rfl, ?_⟩
    constructor <;> first | rfl | (intro _; rfl) | (intro h; cases h; done) | (intro _; exact h0) | exact h0
  · refine ⟨?_, ?_, ?_, ?_, ?_, ?_, ?_, ?_, ?_, ?_, trivial⟩
    all_goals
      rintro d_ a_ w1 K hd_ hdep ⟨x3, x4, x5, x6, x7, x8, x9, x10, x11, x2, u, rfl, F⟩ HK
      simp [Region.binds] at hdep
    · have HF : Hid (isrF b U nd S0 S1 (upd d_ 0) (.pointer (some ⟨b, 0, none⟩)) x4 x5 x6 x7 x8 x9 x10 x11 x2 u w1) := ⟨fun h => rfl, F.q2, F.q3, F.q5, F.q6, F.q7, F.q8, fun h => ⟨rfl, (F.q9 h).2.1, (F.q9 h).2.2.1, (F.q9 h).2.2.2.1, (F.q9 h).2.2.2.2.1, (F.q9 h).2.2.2.2.2.1, (F.q9 h).2.2.2.2.2.2.1, (F.q9 h).2.2.2.2.2.2.2.1, (F.q9 h).2.2.2.2.2.2.2.2⟩, fun _ => rfl, F.f1, F.f2, F.f3, F.f4, F.f5, F.f6, F.f7, F.f8, F.f9, F.st0, F.st1⟩
      clear F
      go_simp
      exact HK.out _ _ ⟨_, _, _, _, _, _, _, _, _, _, _, rfl, HF.out⟩
    · have hS := F.st0  hd_
      obtain rfl := F.f0 (by simp [hdep])
      have hc := kc1.out w1 hS
      have HF := Lib.hid F
      clear F
      go_simp
      refine ⟨trivial, rfl, wideAt_calls (hc.mono ?_)⟩
      rintro e w5 ⟨v_, rfl, hres⟩
      exact HK.out _ _ ⟨_, _, _, _, _, _, _, _, _, _, v_, rfl, ⟨fun _ => (show _ from (by simp [hdep] : d_ 0 = true)), fun h => rfl, HF.out.q3, HF.out.q5, HF.out.q6, HF.out.q7, HF.out.q8, fun h => ⟨(HF.out.q9 h).1, rfl, (HF.out.q9 h).2.2.1, (HF.out.q9 h).2.2.2.1, (HF.out.q9 h).2.2.2.2.1, (HF.out.q9 h).2.2.2.2.2.1, (HF.out.q9 h).2.2.2.2.2.2.1, (HF.out.q9 h).2.2.2.2.2.2.2.1, (HF.out.q9 h).2.2.2.2.2.2.2.2⟩, HF.out.f0, fun _ => rfl, HF.out.f2, HF.out.f3, HF.out.f4, HF.out.f5, HF.out.f6, HF.out.f7, HF.out.f8, HF.out.f9, fun h => (by simp [upd] at h), fun _ => hres⟩⟩
    · obtain rfl := F.f1 (by simp [hdep])
      have HF : Hid (isrF b U nd S0 S1 (upd d_ 2) x3 (.agg (numL U).toArray) (rowV U 0) x6 x7 x8 x9 x10 x11 x2 u w1) := ⟨F.q1, fun _ => (show _ from (by simp [hdep] : d_ 1 = true)), fun h => rfl, F.q5, F.q6, F.q7, F.q8, fun h => ⟨(F.q9 h).1, (F.q9 h).2.1, rfl, (F.q9 h).2.2.2.1, (F.q9 h).2.2.2.2.1, (F.q9 h).2.2.2.2.2.1, (F.q9 h).2.2.2.2.2.2.1, (F.q9 h).2.2.2.2.2.2.2.1, (F.q9 h).2.2.2.2.2.2.2.2⟩, F.f0, F.f1, fun _ => rfl, F.f3, F.f4, F.f5, F.f6, F.f7, F.f8, F.f9, F.st0, F.st1⟩
      clear F
      go_simp
      exact HK.out _ _ ⟨_, _, _, _, _, _, _, _, _, _, _, rfl, HF.out⟩
    · obtain rfl := F.f2 (by simp [hdep])
      have HF : Hid (isrF b U nd S0 S1 (upd d_ 3) x3 x4 (rowV U 0) (.int .i64 (U 0)) x7 x8 x9 x10 x11 x2 u w1) := ⟨F.q1, F.q2, fun _ => (show _ from (by simp [hdep] : d_ 2 = true)), F.q5, F.q6, F.q7, fun h => ⟨rfl, (F.q8 h).2⟩, fun h => ⟨(F.q9 h).1, (F.q9 h).2.1, (F.q9 h).2.2.1, rfl, (F.q9 h).2.2.2.2.1, (F.q9 h).2.2.2.2.2.1, (F.q9 h).2.2.2.2.2.2.1, (F.q9 h).2.2.2.2.2.2.2.1, (F.q9 h).2.2.2.2.2.2.2.2⟩, F.f0, F.f1, F.f2, fun _ => rfl, F.f4, F.f5, F.f6, F.f7, F.f8, F.f9, F.st0, F.st1⟩
      clear F
      go_simp
      exact HK.out _ _ ⟨_, _, _, _, _, _, _, _, _, _, _, rfl, HF.out⟩
    · have HF : Hid (isrF b U nd S0 S1 (upd d_ 4) x3 x4 x5 x6 (.pointer (some ⟨b, 0, none⟩)) x8 x9 x10 x11 x2 u w1) := ⟨F.q1, F.q2, F.q3, fun h => rfl, F.q6, F.q7, F.q8, fun h => ⟨(F.q9 h).1, (F.q9 h).2.1, (F.q9 h).2.2.1, (F.q9 h).2.2.2.1, rfl, (F.q9 h).2.2.2.2.2.1, (F.q9 h).2.2.2.2.2.2.1, (F.q9 h).2.2.2.2.2.2.2.1, (F.q9 h).2.2.2.2.2.2.2.2⟩, F.f0, F.f1, F.f2, F.f3, fun _ => rfl, F.f5, F.f6, F.f7, F.f8, F.f9, F.st0, F.st1⟩
      clear F
      go_simp
      exact HK.out _ _ ⟨_, _, _, _, _, _, _, _, _, _, _, rfl, HF.out⟩
    · obtain rfl := F.f4 (by simp [hdep])
      have HF : Hid (isrF b U nd S0 S1 (upd d_ 5) x3 x4 x5 x6 (.pointer (some ⟨b, 0, none⟩)) (.pointer (some ⟨b, 0, none⟩)) x9 x10 x11 x2 u w1) := ⟨F.q1, F.q2, F.q3, fun _ => (show _ from (by simp [hdep] : d_ 4 = true)), fun h => rfl, F.q7, F.q8, fun h => ⟨(F.q9 h).1, (F.q9 h).2.1, (F.q9 h).2.2.1, (F.q9 h).2.2.2.1, (F.q9 h).2.2.2.2.1, rfl, (F.q9 h).2.2.2.2.2.2.1, (F.q9 h).2.2.2.2.2.2.2.1, (F.q9 h).2.2.2.2.2.2.2.2⟩, F.f0, F.f1, F.f2, F.f3, F.f4, fun _ => rfl, F.f6, F.f7, F.f8, F.f9, F.st0, F.st1⟩
      clear F
      go_simp
      exact HK.out _ _ ⟨_, _, _, _, _, _, _, _, _, _, _, rfl, HF.out⟩
    · obtain rfl := F.f5 (by simp [hdep])
      have HF : Hid (isrF b U nd S0 S1 (upd d_ 6) x3 x4 x5 x6 x7 (.pointer (some ⟨b, 0, none⟩)) (.pointer (some ⟨b, 105, none⟩)) x10 x11 x2 u w1) := ⟨F.q1, F.q2, F.q3, F.q5, fun _ => (show _ from (by simp [hdep] : d_ 5 = true)), fun h => rfl, F.q8, fun h => ⟨(F.q9 h).1, (F.q9 h).2.1, (F.q9 h).2.2.1, (F.q9 h).2.2.2.1, (F.q9 h).2.2.2.2.1, (F.q9 h).2.2.2.2.2.1, rfl, (F.q9 h).2.2.2.2.2.2.2.1, (F.q9 h).2.2.2.2.2.2.2.2⟩, F.f0, F.f1, F.f2, F.f3, F.f4, F.f5, fun _ => rfl, F.f7, F.f8, F.f9, F.st0, F.st1⟩
      clear F
      go_simp
      exact HK.out _ _ ⟨_, _, _, _, _, _, _, _, _, _, _, rfl, HF.out⟩
    · have hst : S0 w1 ∨ S1 u w1 := by
        cases e1 : d_ 1 with
        | false => exact .inl ((F.st0 e1))
        | true =>
          exact .inr ((F.st1 e1))
      have kk := kl7.out u w1 hst
      clear hst
      obtain rfl := F.f6 (by simp [hdep])
      have HF : Hid (isrF b U nd S0 S1 (upd d_ 7) x3 x4 x5 x6 x7 x8 (.pointer (some ⟨b, 105, none⟩)) (.int .i64 nd) x11 x2 u w1) := ⟨F.q1, F.q2, F.q3, F.q5, F.q6, fun _ => (show _ from (by simp [hdep] : d_ 6 = true)), fun h => ⟨(F.q8 h).1, rfl⟩, fun h => ⟨(F.q9 h).1, (F.q9 h).2.1, (F.q9 h).2.2.1, (F.q9 h).2.2.2.1, (F.q9 h).2.2.2.2.1, (F.q9 h).2.2.2.2.2.1, (F.q9 h).2.2.2.2.2.2.1, rfl, (F.q9 h).2.2.2.2.2.2.2.2⟩, F.f0, F.f1, F.f2, F.f3, F.f4, F.f5, F.f6, fun _ => rfl, F.f8, F.f9, F.st0, F.st1⟩
      clear F
      go_simp
      exact HK.out _ _ ⟨_, _, _, _, _, _, _, _, _, _, _, rfl, HF.out⟩
    · obtain rfl := F.f3 (by simp [hdep])
      obtain rfl := F.f7 (by simp [hdep])
      have HF : Hid (isrF b U nd S0 S1 (upd d_ 8) x3 x4 x5 (.int .i64 (U 0)) x7 x8 x9 (.int .i64 nd) (.bool (decide (nd ≤ U 0))) x2 u w1) := ⟨F.q1, F.q2, F.q3, F.q5, F.q6, F.q7, fun _ => ⟨(show _ from (by simp [hdep] : d_ 3 = true)), (show _ from (by simp [hdep] : d_ 7 = true))⟩, fun h => ⟨(F.q9 h).1, (F.q9 h).2.1, (F.q9 h).2.2.1, (F.q9 h).2.2.2.1, (F.q9 h).2.2.2.2.1, (F.q9 h).2.2.2.2.2.1, (F.q9 h).2.2.2.2.2.2.1, (F.q9 h).2.2.2.2.2.2.2.1, rfl⟩, F.f0, F.f1, F.f2, F.f3, F.f4, F.f5, F.f6, F.f7, fun _ => rfl, F.f9, F.st0, F.st1⟩
      clear F
      go_simp
      exact HK.out _ _ ⟨_, _, _, _, _, _, _, _, _, _, _, rfl, HF.out⟩
    · obtain rfl := F.f8 (by simp [hdep])
      have HF : Hid (isrF b U nd S0 S1 (upd d_ 9) x3 x4 x5 x6 x7 x8 x9 x10 (.bool (decide (nd ≤ U 0))) (.bool (decide (nd ≤ U 0))) u w1) := ⟨F.q1, F.q2, F.q3, F.q5, F.q6, F.q7, F.q8, fun _ => ⟨(show _ from (by simp [hdep] : d_ 0 = true)), (show _ from (by simp [hdep] : d_ 1 = true)), (show _ from (by simp [hdep] : d_ 2 = true)), (show _ from (by simp [hdep] : d_ 3 = true)), (show _ from (by simp [hdep] : d_ 4 = true)), (show _ from (by simp [hdep] : d_ 5 = true)), (show _ from (by simp [hdep] : d_ 6 = true)), (show _ from (by simp [hdep] : d_ 7 = true)), (show _ from (by simp [hdep] : d_ 8 = true))⟩, F.f0, F.f1, F.f2, F.f3, F.f4, F.f5, F.f6, F.f7, F.f8, fun _ => rfl, F.st0, F.st1⟩
      clear F
      go_simp
      exact HK.out _ _ ⟨_, _, _, _, _, _, _, _, _, _, _, rfl, HF.out⟩
  · rintro d_ a_ w1 hall ⟨x3, x4, x5, x6, x7, x8, x9, x10, x11, x2, u, rfl, F⟩
    have hall' : ∀ k, k < 10 → d_ k = true := hall
    obtain rfl := F.f0 (hall' 0 (by decide))
    obtain rfl := F.f1 (hall' 1 (by decide))
    obtain rfl := F.f2 (hall' 2 (by decide))
    obtain rfl := F.f3 (hall' 3 (by decide))
    obtain rfl := F.f4 (hall' 4 (by decide))
    obtain rfl := F.f5 (hall' 5 (by decide))
    obtain rfl := F.f6 (hall' 6 (by decide))
    obtain rfl := F.f7 (hall' 7 (by decide))
    obtain rfl := F.f8 (hall' 8 (by decide))
    obtain rfl := F.f9 (hall' 9 (by decide))
    have hst := F.st1 (hall' 1 (by decide))
    exact HQ.out u w1 hst
set_option maxRecDepth 100000 in
set_option maxHeartbeats 8000000 in
theorem is71 {r : Rws} {al ar : Option Addr} {cl cr b : Nat} {T : Nat → Bool} {need : Int} {w : World} (h : IsRws w b r al cl ar cr T need) (hl1 : r.left.length ≤ 10) (hl2 : r.right.length ≤ 10) :
    Calls Tryd.prog 66 #[.pointer (some ⟨b, 0, none⟩)] w fun e w' => e = .returned (.bool (isE (fun i k => T (i * 10 + k)) r.left.length r.right.length need)) ∧ Below w.heap.size w w' := by
  have H := Lib.hid h
  have HU : Hid (decide (need ≤ dI (fun i k => T (i * 10 + k)) r.left.length r.right.length 0 0 0) = isE (fun i k => T (i * 10 + k)) r.left.length r.right.length need) := by
    have e := dI_at (fun i k => T (i * 10 + k)) r.left.length r.right.length (i := 0) (k := 0) (a := 0) (b := 0) (by omega) (.inr ⟨rfl, Nat.le_refl _⟩)
    unfold isE
    rw [Hid]
    have e2 : dI (fun i k => T (i * 10 + k)) r.left.length r.right.length 0 0 0 = _ := e
    rw [e2]
    rfl
  have HC := Lib.hid (fun (v : World) (hv : IsRws v b r al cl ar cr T need) => most82 hv hl1 hl2)
  clear h
  revert HU HC
  generalize dI (fun i k => T (i * 10 + k)) r.left.length r.right.length 0 0 = U
  intro HU HC
  go_enter Tryd.func66, Tryd.ntmps66
  refine wp_seq_hid ?_
  intro K0 HK0
  go_wp2_with fail
  refine HK0.out _ _ ?_
  clear HK0 K0
  refine wp_seq_hid ?_
  intro K1 HK1
  refine wpIn_wide.1 (isr (b := b) (U := U) (nd := need)
    (S0 := fun v => Below w.heap.size w v) (S1 := fun _ v => Below w.heap.size w v) ?h0 ?c1 ?l7 ?hQ)
  case h0 => exact (Below.refl _ _).drew
  case c1 =>
    intro v h
    refine (HC.out v (H.out.mono h)).mono ?_
    rintro e v' ⟨rfl, hb⟩
    exact ⟨(), rfl, h.trans (hb.mono h.size)⟩
  case l7 =>
    rintro u v (h | h)
    · exact (H.out.mono h).need
    · exact (H.out.mono h).need
  intro u w2 h
  have HF := Lib.hid h
  clear h
  rw [HU.out]
  refine HK1.out _ _ ?_
  go_wp2_with fail
  go_ret
  exact ⟨rfl, HF.out⟩
theorem mst_congr {F G : Nat → Nat → Bool} {n m : Nat} (h : ∀ i k, i < n → k < m → F i k = G i k) : ∀ a b, a ≤ n → b ≤ m → mst F n m a b = mst G n m a b
  | 0, _, _, _ => rfl
  | a + 1, b, ha, hb => by
    induction b with
    | zero => rfl
    | succ b ih =>
      show rowB (F (n - (a + 1))) m (mst F n m a) (b + 1) = rowB (G (n - (a + 1))) m (mst G n m a) (b + 1)
      have ih2 : rowB (F (n - (a + 1))) m (mst F n m a) b = rowB (G (n - (a + 1))) m (mst G n m a) b := ih (by omega)
      unfold rowB
      rw [h (n - (a + 1)) (m - (b + 1)) (by omega) (by omega), mst_congr h a (b + 1) (by omega) hb, mst_congr h a b (by omega) (by omega), ih2]
theorem isE_congr {F G : Nat → Nat → Bool} {n m : Nat} (h : ∀ i k, i < n → k < m → F i k = G i k) (need : Int) : isE F n m need = isE G n m need := by
  unfold isE
  rw [mst_congr h n m (Nat.le_refl _) (Nat.le_refl _)]
set_option maxRecDepth 100000 in
set_option maxHeartbeats 8000000 in
theorem open49 {r : Rws} {al ar : Option Addr} {cl cr : Nat} {w : World} (hv : r.valid = true) (h1 : IsMks w al r.left) (h2 : IsMks w ar r.right) :
    Calls Tryd.prog 28 #[r.v al cl ar cr, .bool true] w fun e w' => Below w.heap.size w w' ∧ ((r.is = false ∧ e = .returned (.tuple #[.pointer none, .int .i64 4])) ∨ (r.is = true ∧ ∃ b, e = .returned (.tuple #[.pointer (some ⟨b, 0, none⟩), .int .i64 0]) ∧ w.heap.size ≤ b ∧ IsRws w' b r al cl ar cr (fun j => r.fit (j / 10) (j % 10)) r.need)) := by
  have HX := Lib.hid (And.intro (World.alloc_heap_new w (.cells (r.arr al cl ar cr) 26)) (And.intro (alloc_below w (.cells (r.arr al cl ar cr) 26)) (And.intro (h1.mono (alloc_below w (.cells (r.arr al cl ar cr) 26))) (h2.mono (alloc_below w (.cells (r.arr al cl ar cr) 26))))))
  have HV := Lib.hid (And.intro hv (rnums_of hv))
  clear hv h1 h2
  go_enter Tryd.func28, Tryd.ntmps28
  refine wp_seq_hid ?_
  intro K0 HK0
  go_wp2_with fail
  refine HK0.out _ _ ?_
  clear HK0 K0
  revert HX
  generalize w.alloc (.cells (r.arr al cl ar cr) 26) = w1
  generalize hb1 : w.heap.size = b1
  intro HX
  have HB1 := Lib.hid hb1
  clear hb1
  have HW : Hid (b1 ≤ w1.heap.size) := by have := HX.out.2.1.size; rw [HB1.out] at this; exact this
  have k0 : w1.cell? ⟨b1, 0, none⟩ = some (.slice al r.left.length cl) := by rw [cell_of_heap HX.out.1]; rfl
  have k1 : w1.cell? ⟨b1, 1, none⟩ = some (.slice ar r.right.length cr) := by rw [cell_of_heap HX.out.1]; rfl
  have k2 : w1.cell? ⟨b1, 2, none⟩ = some (.int .i64 r.shift.lo) := by rw [cell_of_heap HX.out.1]; rfl
  have k3 : w1.cell? ⟨b1, 3, none⟩ = some (.int .i64 r.shift.hi) := by rw [cell_of_heap HX.out.1]; rfl
  have k4 : w1.cell? ⟨b1, 4, none⟩ = some (.int .i64 r.hidden) := by rw [cell_of_heap HX.out.1]; rfl
  refine wp_seq_hid ?_
  intro K1 HK1
  go_wp2_with fail
  refine (isRows45 HV.out.1 HX.out.2.2.1 HX.out.2.2.2).mono ?_
  clear k0 k1 k2 k3 k4
  rintro e w2 ⟨rfl, hb⟩
  have HB2 := Lib.hid hb
  clear hb
  go_wp2_with fail
  refine HK1.out _ _ ?_
  clear HK1 K1
  have hq := (HB2.out.block _ (heap_lt HX.out.1)).trans HX.out.1
  have k0 : w2.cell? ⟨b1, 0, none⟩ = some (.slice al r.left.length cl) := by rw [cell_of_heap hq]; rfl
  have k1 : w2.cell? ⟨b1, 1, none⟩ = some (.slice ar r.right.length cr) := by rw [cell_of_heap hq]; rfl
  have k2 : w2.cell? ⟨b1, 2, none⟩ = some (.int .i64 r.shift.lo) := by rw [cell_of_heap hq]; rfl
  have k3 : w2.cell? ⟨b1, 3, none⟩ = some (.int .i64 r.shift.hi) := by rw [cell_of_heap hq]; rfl
  have k4 : w2.cell? ⟨b1, 4, none⟩ = some (.int .i64 r.hidden) := by rw [cell_of_heap hq]; rfl
  clear hq
  refine wp_seq_hid ?_
  intro K5 HK5
  go_wp2_with fail
  refine (look46 HV.out.2 (HX.out.2.2.1.mono HB2.out) (HX.out.2.2.2.mono HB2.out)).mono ?_
  clear k0 k1 k2 k3 k4
  rintro e w3 ⟨b, rfl, hbb, hR, hb⟩
  have HR := Lib.hid (And.intro hR (And.intro (HX.out.2.1.trans ((HB2.out.trans (hb.mono HB2.out.size)).mono HW.out)) (And.intro (Nat.le_trans HW.out (Nat.le_trans HB2.out.size hbb)) (Nat.le_trans HW.out (Nat.le_trans HB2.out.size hb.size)))))
  clear hb hbb hR
  go_wp2_with fail
  refine HK5.out _ _ ?_
  clear HK5 K5
  have CI := is71 HR.out.1 HV.out.2.l1 HV.out.2.l2
  have e1 : isE (fun i k => (fun j => r.fit (j / 10) (j % 10)) (i * 10 + k)) r.left.length r.right.length r.need = r.is := by
    unfold Rws.is
    refine isE_congr (fun i k hi hk => ?_) _
    have h2 := HV.out.2.l2
    show r.fit ((i * 10 + k) / 10) ((i * 10 + k) % 10) = r.fit i k
    rw [show (i * 10 + k) / 10 = i by omega, show (i * 10 + k) % 10 = k by omega]
  rw [e1] at CI
  have HCI := Lib.hid CI
  clear CI e1
  cases hz : r.is
  all_goals
    rw [hz] at HCI
    have HZ := Lib.hid hz
    clear hz
    refine wp_seq_hid ?_
    intro K6 HK6
    go_wp2_with fail
    refine HCI.out.mono ?_
    rintro e w4 ⟨rfl, hb⟩
    have HF := Lib.hid (And.intro (HR.out.2.1.trans (hb.mono HR.out.2.2.2)) (HR.out.1.mono hb))
    clear hb
    go_wp2_with fail
  · go_ret2
    exact ⟨HF.out.1, .inl ⟨trivial, rfl⟩⟩
  · refine HK6.out _ _ ?_
    go_wp2_with fail
    go_ret2
    exact ⟨HF.out.1, .inr ⟨trivial, b, rfl, HR.out.2.2.1, HF.out.2⟩⟩
end Go.Proofs.YtbnhngfegnhaiaaDoor
