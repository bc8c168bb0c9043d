/- Rows without pairs that a rule forbids. Rows without pairs that a rule forbids: the walk. Can two marks be a pair? The marks with which a left mark is a pair in some way. Sets of marks; the marks with which a left mark is a pair in some way. Small functions of paint, and of its reference. Is a mark hidden in some way: the walk. How many zeros end a power of two: bits.TrailingZeros. The shift of two marks; the least and the greatest of numbers: the walks. The shift of a left mark: the walk. Which marks are a pair in each way: Sure: the walk. -/
import Derived.Test.YtbnhngfegnhaiaaDoorC3
namespace Go.Proofs.YtbnhngfegnhaiaaDoor
open Go.RowKit
set_option linter.unusedVariables false
set_option linter.unusedSimpArgs false
theorem heap_setCells_at {b : Nat} {t : TypeId} {f : Nat × Nat} : ∀ (vs : List Value) (o : Nat) (w : World) (c : Array Value), w.heap[b]? = some (.cells c t f) → o + vs.length ≤ c.size →
    ∃ c', (w.setCells b o vs).heap[b]? = some (.cells c' t f) ∧ c'.size = c.size ∧ (∀ i, i < o → c'[i]? = c[i]?) ∧ (∀ j, j < vs.length → c'[o + j]? = vs[j]?) ∧ (∀ i, o + vs.length ≤ i → c'[i]? = c[i]?)
  | [], o, w, c, h, _ => ⟨c, h, rfl, fun _ _ => rfl, fun j hj => absurd hj (Nat.not_lt_zero _), fun _ _ => rfl⟩
  | v :: vs, o, w, c, h, hl => by
    have h1 := heap_setCell_at (k := o) h v
    have hl2 : o + 1 + vs.length ≤ (c.setIfInBounds o v).size := by
      rw [Array.size_setIfInBounds]
      simp only [List.length_cons] at hl
      omega
    obtain ⟨c', g1, g2, g3, g4, g5⟩ := heap_setCells_at vs (o + 1) _ _ h1 hl2
    refine ⟨c', g1, by rw [g2, Array.size_setIfInBounds], fun i hi => ?_, fun j hj => ?_, fun i hi => ?_⟩
    · rw [g3 i (by omega), Array.getElem?_setIfInBounds, if_neg (by omega)]
    · cases j with
      | zero =>
        rw [Nat.add_zero, g3 o (by omega), Array.getElem?_setIfInBounds, if_pos rfl, if_pos (by simp only [List.length_cons] at hl; omega)]
        rfl
      | succ j =>
        have := g4 j (by simpa using hj)
        rw [show o + (j + 1) = o + 1 + j by omega, this]
        rfl
    · simp only [List.length_cons] at hi
      rw [g5 i (by omega), Array.getElem?_setIfInBounds, if_neg (by omega)]
theorem heap_setCells_all {b : Nat} {t : TypeId} {f : Nat × Nat} {vs : List Value} {w : World} {c : Array Value} (h : w.heap[b]? = some (.cells c t f)) (hs : c.size = vs.length) : (w.setCells b 0 vs).heap[b]? = some (.cells vs.toArray t f) := by
  obtain ⟨c', g1, g2, _, g4, _⟩ := heap_setCells_at vs 0 w c h (by omega)
  rw [g1]
  congr 2
  apply Array.ext_getElem?
  intro i
  by_cases hi : i < vs.length
  · have := g4 i hi
    rw [Nat.zero_add] at this
    rw [this, List.getElem?_toArray]
  · rw [Array.getElem?_eq_none (by omega), List.getElem?_toArray, List.getElem?_eq_none (by omega)]
theorem info130 : (Tryd.prog.info? 130).map (·.size) = some 106 := by kernel_rfl
theorem rowsL_one (r : Rws) (al : Option Addr) (cl : Nat) (ar : Option Addr) (cr : Nat) (T : Nat → Bool) (need : Int) : (rowsL r al cl ar cr T need).toArray.all (·.oneCell') = true := all_oneCell_toArray fun v hv => by
  unfold rowsL tabL at hv
  simp only [List.mem_append, List.mem_cons, List.not_mem_nil, or_false, List.mem_map] at hv
  rcases hv with (rfl | rfl | rfl | rfl | rfl) | ⟨j, _, rfl⟩ | rfl <;> rfl
/-- A table without what is forbidden, so far. -/
def wI (T : Nat → Bool) (P : Nat → Nat → Bool) (n m i k : Nat) : Nat → Bool := fun j => T j && !(decide (j / 10 < n) && decide (j % 10 < m) && (decide (j / 10 < i) || (decide (j / 10 = i) && decide (j % 10 < k))) && P (j / 10) (j % 10))
theorem wI_zero (T : Nat → Bool) (P : Nat → Nat → Bool) (n m : Nat) : wI T P n m 0 0 = T := by
  funext j
  simp [wI]
theorem wI_next (T : Nat → Bool) (P : Nat → Nat → Bool) (n m i : Nat) : wI T P n m i m = wI T P n m (i + 1) 0 := by
  funext j
  unfold wI
  by_cases h : j % 10 < m
  · by_cases h1 : j / 10 < i
    · simp [h1, show j / 10 < i + 1 by omega]
    · by_cases h2 : j / 10 = i
      · simp [h2, h]
      · simp [h1, h2, show ¬ j / 10 < i + 1 by omega]
  · simp [h]
theorem wI_set (T : Nat → Bool) (P : Nat → Nat → Bool) {n m i k : Nat} (hi : i < n) (hk : k < m) (hk2 : k < 10) : (fun x => if x = i * 10 + k then (T (i * 10 + k) && !P i k) else wI T P n m i k x) = wI T P n m i (k + 1) := by
  funext x
  by_cases hx : x = i * 10 + k
  · rw [if_pos hx]
    unfold wI
    have h1 : x / 10 = i := by omega
    have h2 : x % 10 = k := by omega
    rw [h1, h2, hx]
    simp [hi, hk]
  · rw [if_neg hx]
    unfold wI
    by_cases h1 : x / 10 = i
    · have h2 : x % 10 ≠ k := fun h2 => hx (by omega)
      have h3 : decide (x % 10 < k + 1) = decide (x % 10 < k) := by
        rw [Bool.eq_iff_iff]
        simp
        omega
      rw [h3]
    · simp [h1]
structure wit8F (b : Nat) (b5 : Nat) (i : Nat) (k : Nat) (f : Nat) (p1 : Nat) (p2 : Nat) (z : Bool) (S0 : World → Prop) (S1 : Unit → World → Prop) (S2 : Unit → World → Prop) (d : Nat → Bool) (x29 x30 x31 x32 x33 x34 x35 x36 x37 x38 x39 x40 x41 x42 x43 x44 x45 x46 x47 x48 : Value) (u : Unit) (w : World) : Prop where
  q5 : d 5 = true → d 2 = true
  q6 : d 6 = true → d 5 = true
  q7 : d 7 = true → d 3 = true ∧ d 6 = true
  q8 : d 8 = true → d 4 = true ∧ d 7 = true
  q9 : d 9 = true → d 8 = true
  q10 : d 10 = true → d 9 = true
  q11 : d 11 = true → d 10 = true
  q12 : d 12 = true → d 10 = true
  q13 : d 13 = true → d 10 = true
  q14 : d 14 = true → d 10 = true ∧ d 11 = true ∧ d 12 = true ∧ d 13 = true
  q15 : d 15 = true → d 10 = true ∧ d 14 = true
  q16 : d 16 = true → d 10 = true ∧ d 15 = true
  q18 : d 18 = true → d 0 = true ∧ d 17 = true
  q19 : d 19 = true → d 0 = true ∧ d 1 = true ∧ d 2 = true ∧ d 3 = true ∧ d 4 = true ∧ d 5 = true ∧ d 6 = true ∧ d 7 = true ∧ d 8 = true ∧ d 9 = true ∧ d 10 = true ∧ d 11 = true ∧ d 12 = true ∧ d 13 = true ∧ d 14 = true ∧ d 15 = true ∧ d 16 = true ∧ d 18 = true
  q20 : d 20 = true → d 0 = true ∧ d 1 = true ∧ d 2 = true ∧ d 3 = true ∧ d 4 = true ∧ d 5 = true ∧ d 6 = true ∧ d 7 = true ∧ d 8 = true ∧ d 9 = true ∧ d 10 = true ∧ d 11 = true ∧ d 12 = true ∧ d 13 = true ∧ d 14 = true ∧ d 15 = true ∧ d 16 = true ∧ d 19 = true
  f0 : d 0 = true → x29 = .int .i64 i
  f1 : d 1 = true → x30 = .int .i64 k
  f2 : d 2 = true → x31 = .pointer (some ⟨b, 0, none⟩)
  f3 : d 3 = true → x32 = .int .i64 i
  f4 : d 4 = true → x33 = .int .i64 k
  f5 : d 5 = true → x34 = .pointer (some ⟨b, 0, none⟩)
  f6 : d 6 = true → x35 = .pointer (some ⟨b, 5, none⟩)
  f7 : d 7 = true → x36 = .pointer (some ⟨b, 5 + i * 10, none⟩)
  f8 : d 8 = true → x37 = .pointer (some ⟨b, 5 + i * 10 + k, none⟩)
  f9 : d 9 = true → x38 = .bool true
  f10 : d 10 = true → x39 = .bool true
  f11 : d 11 = true → x40 = .func (.func f) #[] #[.pointer (some ⟨p1, 0, none⟩), .pointer (some ⟨p2, 0, none⟩)]
  f12 : d 12 = true → x41 = .int .i64 i
  f13 : d 13 = true → x42 = .int .i64 k
  f14 : d 14 = true → x43 = .bool z
  f15 : d 15 = true → x44 = .bool (!z)
  f16 : d 16 = true → x45 = .bool (!z)
  f17 : d 17 = true → x46 = .pointer (some ⟨b5, 5, none⟩)
  f18 : d 18 = true → x47 = .pointer (some ⟨b5, 5 + i * 10, none⟩)
  f19 : d 19 = true → x48 = .pointer (some ⟨b5, 5 + i * 10 + k, none⟩)
  st0 : d 14 = false → S0 w
  st1 : d 14 = true → d 20 = false → S1 u w
  st2 : d 20 = true → S2 u w
noncomputable def wit8C : Code := (Tryd.f71.body.bind (regionAt 8)).getD .skip
set_option maxRecDepth 100000 in
set_option maxHeartbeats 4000000 in
theorem wit8 {b : Nat} {b5 : Nat} {i : Nat} {k : Nat} {f : Nat} {p1 : Nat} {p2 : Nat} {z : Bool} {S0 : World → Prop} {S1 : Unit → World → Prop} {S2 : Unit → World → Prop} {Q : Exit → Act → World → Prop} {W1 : World} (hi1 : (0 : Int) ≤ i) (hi2 : (i : Int) < 10) (hk1 : (0 : Int) ≤ k) (hk2 : (k : Int) < 10) (cf : ∀ args w, (callFunc f args).run Tryd.prog w = .ok (.enter f args) w) (h0 : S0 W1.drew)
    (kl9 : Hid (∀ (w : World), (S0 w) → w.cell? ⟨b, 5 + i * 10 + k, none⟩ = some (.bool true)))
    (kc14 : Hid (∀ (w : World), S0 w → Calls Tryd.prog f #[.int .i64 i, .int .i64 k, .pointer (some ⟨p1, 0, none⟩), .pointer (some ⟨p2, 0, none⟩)] w fun e w' => ∃ u : Unit, e = .returned (.bool z) ∧ S1 u w'))
    (kc20 : Hid (∀ (u : Unit) (w : World), S1 u w → (∃ u, w.cell? ⟨b5, 5 + i * 10 + k, none⟩ = some u) ∧ w.frozen? ⟨b5, 5 + i * 10 + k, none⟩ = false ∧ S2 u (w.setCell ⟨b5, 5 + i * 10 + k, none⟩ (.bool (!z)))))
    {s2 s3 s4 s8 s9 s10 s11 s12 s13 s14 s15 s16 s17 s18 s19 s20 s21 s22 s23 s24 s25 s26 s27 s28 s29 s30 s31 s32 s33 s34 s35 s36 s37 s38 s39 s40 s41 s42 s43 s44 s45 s46 s47 s48 s49 s50 : Value} {dd : List Deferred}
    (hQ : ∀ (u : Unit) (w' : World), S2 u w' → Q .normal { tmps := List.toArray (.pointer (some ⟨b, 0, none⟩) :: .func (.func f) #[] #[.pointer (some ⟨p1, 0, none⟩), .pointer (some ⟨p2, 0, none⟩)] :: s2 :: s3 :: s4 :: .pointer (some ⟨b5, 0, none⟩) :: .int .i64 i :: .int .i64 k :: s8 :: s9 :: s10 :: s11 :: s12 :: s13 :: s14 :: s15 :: s16 :: s17 :: s18 :: s19 :: s20 :: s21 :: s22 :: s23 :: s24 :: s25 :: s26 :: s27 :: s28 :: .int .i64 i :: .int .i64 k :: .pointer (some ⟨b, 0, none⟩) :: .int .i64 i :: .int .i64 k :: .pointer (some ⟨b, 0, none⟩) :: .pointer (some ⟨b, 5, none⟩) :: .pointer (some ⟨b, 5 + i * 10, none⟩) :: .pointer (some ⟨b, 5 + i * 10 + k, none⟩) :: .bool true :: .bool true :: .func (.func f) #[] #[.pointer (some ⟨p1, 0, none⟩), .pointer (some ⟨p2, 0, none⟩)] :: .int .i64 i :: .int .i64 k :: .bool z :: .bool (!z) :: .bool (!z) :: .pointer (some ⟨b5, 5, none⟩) :: .pointer (some ⟨b5, 5 + i * 10, none⟩) :: .pointer (some ⟨b5, 5 + i * 10 + k, none⟩) :: s49 :: s50 :: []), defers := dd } w') :
    Code.wpIn (wideAt none) 0 Tryd.prog wit8C Q { tmps := List.toArray (.pointer (some ⟨b, 0, none⟩) :: .func (.func f) #[] #[.pointer (some ⟨p1, 0, none⟩), .pointer (some ⟨p2, 0, none⟩)] :: s2 :: s3 :: s4 :: .pointer (some ⟨b5, 0, none⟩) :: .int .i64 i :: .int .i64 k :: s8 :: s9 :: s10 :: s11 :: s12 :: s13 :: s14 :: s15 :: s16 :: s17 :: s18 :: s19 :: s20 :: s21 :: s22 :: s23 :: s24 :: s25 :: s26 :: s27 :: s28 :: s29 :: s30 :: s31 :: s32 :: s33 :: s34 :: s35 :: s36 :: s37 :: s38 :: s39 :: s40 :: s41 :: s42 :: s43 :: s44 :: s45 :: s46 :: s47 :: s48 :: s49 :: s50 :: []), defers := dd } W1 := by
  have HQ := Lib.hid hQ
  clear hQ
  conv => arg 4; whnf
  refine wpIn_region_invG mixed (by kernel_rfl) (fun d_ a_ w' => ∃ (x29 : Value) (x30 : Value) (x31 : Value) (x32 : Value) (x33 : Value) (x34 : Value) (x35 : Value) (x36 : Value) (x37 : Value) (x38 : Value) (x39 : Value) (x40 : Value) (x41 : Value) (x42 : Value) (x43 : Value) (x44 : Value) (x45 : Value) (x46 : Value) (x47 : Value) (x48 : Value) (u : Unit), a_ = { tmps := List.toArray (.pointer (some ⟨b, 0, none⟩) :: .func (.func f) #[] #[.pointer (some ⟨p1, 0, none⟩), .pointer (some ⟨p2, 0, none⟩)] :: s2 :: s3 :: s4 :: .pointer (some ⟨b5, 0, none⟩) :: .int .i64 i :: .int .i64 k :: s8 :: s9 :: s10 :: s11 :: s12 :: s13 :: s14 :: s15 :: s16 :: s17 :: s18 :: s19 :: s20 :: s21 :: s22 :: s23 :: s24 :: s25 :: s26 :: s27 :: s28 :: x29 :: x30 :: x31 :: x32 :: x33 :: x34 :: x35 :: x36 :: x37 :: x38 :: x39 :: x40 :: x41 :: x42 :: x43 :: x44 :: x45 :: x46 :: x47 :: x48 :: s49 :: s50 :: []), defers := dd } ∧ wit8F b b5 i k f p1 p2 z S0 S1 S2 d_ x29 x30 x31 x32 x33 x34 x35 x36 x37 x38 x39 x40 x41 x42 x43 x44 x45 x46 x47 x48 u w') ?_ ?_ ?_
  · refine ⟨s29, s30, s31, s32, s33, s34, s35, s36, s37, s38, s39, s40, s41, s42, s43, s44, s45, s46, s47, s48, default, rfl, ?_⟩
    constructor <;> first | rfl | (intro _; rfl) | (intro h; cases h; done) | (intro _; exact h0) | exact h0
  · refine ⟨?_, ?_, ?_, ?_, ?_, ?_, ?_, ?_, ?_, ?_, ?_, ?_, ?_, ?_, ?_, ?_, ?_, ?_, ?_, ?_, ?_, trivial⟩
    all_goals
      rintro d_ a_ w1 K hd_ hdep ⟨x29, x30, x31, x32, x33, x34, x35, x36, x37, x38, x39, x40, x41, x42, x43, x44, x45, x46, x47, x48, u, rfl, F⟩ HK
      simp [Region.binds] at hdep
    · have HF : Hid (wit8F b b5 i k f p1 p2 z S0 S1 S2 (upd d_ 0) (.int .i64 i) x30 x31 x32 x33 x34 x35 x36 x37 x38 x39 x40 x41 x42 x43 x44 x45 x46 x47 x48 u w1) := ⟨F.q5, F.q6, F.q7, F.q8, F.q9, F.q10, F.q11, F.q12, F.q13, F.q14, F.q15, F.q16, fun h => ⟨rfl, (F.q18 h).2⟩, fun h => ⟨rfl, (F.q19 h).2.1, (F.q19 h).2.2.1, (F.q19 h).2.2.2.1, (F.q19 h).2.2.2.2.1, (F.q19 h).2.2.2.2.2.1, (F.q19 h).2.2.2.2.2.2.1, (F.q19 h).2.2.2.2.2.2.2.1, (F.q19 h).2.2.2.2.2.2.2.2.1, (F.q19 h).2.2.2.2.2.2.2.2.2.1, (F.q19 h).2.2.2.2.2.2.2.2.2.2.1, (F.q19 h).2.2.2.2.2.2.2.2.2.2.2.1, (F.q19 h).2.2.2.2.2.2.2.2.2.2.2.2.1, (F.q19 h).2.2.2.2.2.2.2.2.2.2.2.2.2.1, (F.q19 h).2.2.2.2.2.2.2.2.2.2.2.2.2.2.1, (F.q19 h).2.2.2.2.2.2.2.2.2.2.2.2.2.2.2.1, (F.q19 h).2.2.2.2.2.2.2.2.2.2.2.2.2.2.2.2.1, (F.q19 h).2.2.2.2.2.2.2.2.2.2.2.2.2.2.2.2.2⟩, fun h => ⟨rfl, (F.q20 h).2.1, (F.q20 h).2.2.1, (F.q20 h).2.2.2.1, (F.q20 h).2.2.2.2.1, (F.q20 h).2.2.2.2.2.1, (F.q20 h).2.2.2.2.2.2.1, (F.q20 h).2.2.2.2.2.2.2.1, (F.q20 h).2.2.2.2.2.2.2.2.1, (F.q20 h).2.2.2.2.2.2.2.2.2.1, (F.q20 h).2.2.2.2.2.2.2.2.2.2.1, (F.q20 h).2.2.2.2.2.2.2.2.2.2.2.1, (F.q20 h).2.2.2.2.2.2.2.2.2.2.2.2.1, (F.q20 h).2.2.2.2.2.2.2.2.2.2.2.2.2.1, (F.q20 h).2.2.2.2.2.2.2.2.2.2.2.2.2.2.1, (F.q20 h).2.2.2.2.2.2.2.2.2.2.2.2.2.2.2.1, (F.q20 h).2.2.2.2.2.2.2.2.2.2.2.2.2.2.2.2.1, (F.q20 h).2.2.2.2.2.2.2.2.2.2.2.2.2.2.2.2.2⟩, fun _ => rfl, F.f1, F.f2, F.f3, F.f4, F.f5, F.f6, F.f7, F.f8, F.f9, F.f10, F.f11, F.f12, F.f13, F.f14, F.f15, F.f16, F.f17, F.f18, F.f19, F.st0, F.st1, F.st2⟩
      clear F
      go_simp
      exact HK.out _ _ ⟨_, _, _, _, _, _, _, _, _, _, _, _, _, _, _, _, _, _, _, _, _, rfl, HF.out⟩
    · have HF : Hid (wit8F b b5 i k f p1 p2 z S0 S1 S2 (upd d_ 1) x29 (.int .i64 k) x31 x32 x33 x34 x35 x36 x37 x38 x39 x40 x41 x42 x43 x44 x45 x46 x47 x48 u w1) := ⟨F.q5, F.q6, F.q7, F.q8, F.q9, F.q10, F.q11, F.q12, F.q13, F.q14, F.q15, F.q16, F.q18, fun h => ⟨(F.q19 h).1, rfl, (F.q19 h).2.2.1, (F.q19 h).2.2.2.1, (F.q19 h).2.2.2.2.1, (F.q19 h).2.2.2.2.2.1, (F.q19 h).2.2.2.2.2.2.1, (F.q19 h).2.2.2.2.2.2.2.1, (F.q19 h).2.2.2.2.2.2.2.2.1, (F.q19 h).2.2.2.2.2.2.2.2.2.1, (F.q19 h).2.2.2.2.2.2.2.2.2.2.1, (F.q19 h).2.2.2.2.2.2.2.2.2.2.2.1, (F.q19 h).2.2.2.2.2.2.2.2.2.2.2.2.1, (F.q19 h).2.2.2.2.2.2.2.2.2.2.2.2.2.1, (F.q19 h).2.2.2.2.2.2.2.2.2.2.2.2.2.2.1, (F.q19 h).2.2.2.2.2.2.2.2.2.2.2.2.2.2.2.1, (F.q19 h).2.2.2.2.2.2.2.2.2.2.2.2.2.2.2.2.1, (F.q19 h).2.2.2.2.2.2.2.2.2.2.2.2.2.2.2.2.2⟩, fun h => ⟨(F.q20 h).1, rfl, (F.q20 h).2.2.1, (F.q20 h).2.2.2.1, (F.q20 h).2.2.2.2.1, (F.q20 h).2.2.2.2.2.1, (F.q20 h).2.2.2.2.2.2.1, (F.q20 h).2.2.2.2.2.2.2.1, (F.q20 h).2.2.2.2.2.2.2.2.1, (F.q20 h).2.2.2.2.2.2.2.2.2.1, (F.q20 h).2.2.2.2.2.2.2.2.2.2.1, (F.q20 h).2.2.2.2.2.2.2.2.2.2.2.1, (F.q20 h).2.2.2.2.2.2.2.2.2.2.2.2.1, (F.q20 h).2.2.2.2.2.2.2.2.2.2.2.2.2.1, (F.q20 h).2.2.2.2.2.2.2.2.2.2.2.2.2.2.1, (F.q20 h).2.2.2.2.2.2.2.2.2.2.2.2.2.2.2.1, (F.q20 h).2.2.2.2.2.2.2.2.2.2.2.2.2.2.2.2.1, (F.q20 h).2.2.2.2.2.2.2.2.2.2.2.2.2.2.2.2.2⟩, F.f0, fun _ => rfl, F.f2, F.f3, F.f4, F.f5, F.f6, F.f7, F.f8, F.f9, F.f10, F.f11, F.f12, F.f13, F.f14, F.f15, F.f16, F.f17, F.f18, F.f19, F.st0, F.st1, F.st2⟩
      clear F
      go_simp
      exact HK.out _ _ ⟨_, _, _, _, _, _, _, _, _, _, _, _, _, _, _, _, _, _, _, _, _, rfl, HF.out⟩
    · have HF : Hid (wit8F b b5 i k f p1 p2 z S0 S1 S2 (upd d_ 2) x29 x30 (.pointer (some ⟨b, 0, none⟩)) x32 x33 x34 x35 x36 x37 x38 x39 x40 x41 x42 x43 x44 x45 x46 x47 x48 u w1) := ⟨fun h => rfl, F.q6, F.q7, F.q8, F.q9, F.q10, F.q11, F.q12, F.q13, F.q14, F.q15, F.q16, F.q18, fun h => ⟨(F.q19 h).1, (F.q19 h).2.1, rfl, (F.q19 h).2.2.2.1, (F.q19 h).2.2.2.2.1, (F.q19 h).2.2.2.2.2.1, (F.q19 h).2.2.2.2.2.2.1, (F.q19 h).2.2.2.2.2.2.2.1, (F.q19 h).2.2.2.2.2.2.2.2.1, (F.q19 h).2.2.2.2.2.2.2.2.2.1, (F.q19 h).2.2.2.2.2.2.2.2.2.2.1, (F.q19 h).2.2.2.2.2.2.2.2.2.2.2.1, (F.q19 h).2.2.2.2.2.2.2.2.2.2.2.2.1, (F.q19 h).2.2.2.2.2.2.2.2.2.2.2.2.2.1, (F.q19 h).2.2.2.2.2.2.2.2.2.2.2.2.2.2.1, (F.q19 h).2.2.2.2.2.2.2.2.2.2.2.2.2.2.2.1, (F.q19 h).2.2.2.2.2.2.2.2.2.2.2.2.2.2.2.2.1, (F.q19 h).2.2.2.2.2.2.2.2.2.2.2.2.2.2.2.2.2⟩, fun h => ⟨(F.q20 h).1, (F.q20 h).2.1, rfl, (F.q20 h).2.2.2.1, (F.q20 h).2.2.2.2.1, (F.q20 h).2.2.2.2.2.1, (F.q20 h).2.2.2.2.2.2.1, (F.q20 h).2.2.2.2.2.2.2.1, (F.q20 h).2.2.2.2.2.2.2.2.1, (F.q20 h).2.2.2.2.2.2.2.2.2.1, (F.q20 h).2.2.2.2.2.2.2.2.2.2.1, (F.q20 h).2.2.2.2.2.2.2.2.2.2.2.1, (F.q20 h).2.2.2.2.2.2.2.2.2.2.2.2.1, (F.q20 h).2.2.2.2.2.2.2.2.2.2.2.2.2.1, (F.q20 h).2.2.2.2.2.2.2.2.2.2.2.2.2.2.1, (F.q20 h).2.2.2.2.2.2.2.2.2.2.2.2.2.2.2.1, (F.q20 h).2.2.2.2.2.2.2.2.2.2.2.2.2.2.2.2.1, (F.q20 h).2.2.2.2.2.2.2.2.2.2.2.2.2.2.2.2.2⟩, F.f0, F.f1, fun _ => rfl, F.f3, F.f4, F.f5, F.f6, F.f7, F.f8, F.f9, F.f10, F.f11, F.f12, F.f13, F.f14, F.f15, F.f16, F.f17, F.f18, F.f19, F.st0, F.st1, F.st2⟩
      clear F
      go_simp
      exact HK.out _ _ ⟨_, _, _, _, _, _, _, _, _, _, _, _, _, _, _, _, _, _, _, _, _, rfl, HF.out⟩
    · have HF : Hid (wit8F b b5 i k f p1 p2 z S0 S1 S2 (upd d_ 3) x29 x30 x31 (.int .i64 i) x33 x34 x35 x36 x37 x38 x39 x40 x41 x42 x43 x44 x45 x46 x47 x48 u w1) := ⟨F.q5, F.q6, fun h => ⟨rfl, (F.q7 h).2⟩, F.q8, F.q9, F.q10, F.q11, F.q12, F.q13, F.q14, F.q15, F.q16, F.q18, fun h => ⟨(F.q19 h).1, (F.q19 h).2.1, (F.q19 h).2.2.1, rfl, (F.q19 h).2.2.2.2.1, (F.q19 h).2.2.2.2.2.1, (F.q19 h).2.2.2.2.2.2.1, (F.q19 h).2.2.2.2.2.2.2.1, (F.q19 h).2.2.2.2.2.2.2.2.1, (F.q19 h).2.2.2.2.2.2.2.2.2.1, (F.q19 h).2.2.2.2.2.2.2.2.2.2.1, (F.q19 h).2.2.2.2.2.2.2.2.2.2.2.1, (F.q19 h).2.2.2.2.2.2.2.2.2.2.2.2.1, (F.q19 h).2.2.2.2.2.2.2.2.2.2.2.2.2.1, (F.q19 h).2.2.2.2.2.2.2.2.2.2.2.2.2.2.1, (F.q19 h).2.2.2.2.2.2.2.2.2.2.2.2.2.2.2.1, (F.q19 h).2.2.2.2.2.2.2.2.2.2.2.2.2.2.2.2.1, (F.q19 h).2.2.2.2.2.2.2.2.2.2.2.2.2.2.2.2.2⟩, fun h => ⟨(F.q20 h).1, (F.q20 h).2.1, (F.q20 h).2.2.1, rfl, (F.q20 h).2.2.2.2.1, (F.q20 h).2.2.2.2.2.1, (F.q20 h).2.2.2.2.2.2.1, (F.q20 h).2.2.2.2.2.2.2.1, (F.q20 h).2.2.2.2.2.2.2.2.1, (F.q20 h).2.2.2.2.2.2.2.2.2.1, (F.q20 h).2.2.2.2.2.2.2.2.2.2.1, (F.q20 h).2.2.2.2.2.2.2.2.2.2.2.1, (F.q20 h).2.2.2.2.2.2.2.2.2.2.2.2.1, (F.q20 h).2.2.2.2.2.2.2.2.2.2.2.2.2.1, (F.q20 h).2.2.2.2.2.2.2.2.2.2.2.2.2.2.1, (F.q20 h).2.2.2.2.2.2.2.2.2.2.2.2.2.2.2.1, (F.q20 h).2.2.2.2.2.2.2.2.2.2.2.2.2.2.2.2.1, (F.q20 h).2.2.2.2.2.2.2.2.2.2.2.2.2.2.2.2.2⟩, F.f0, F.f1, F.f2, fun _ => rfl, F.f4, F.f5, F.f6, F.f7, F.f8, F.f9, F.f10, F.f11, F.f12, F.f13, F.f14, F.f15, F.f16, F.f17, F.f18, F.f19, F.st0, F.st1, F.st2⟩
      clear F
      go_simp
      exact HK.out _ _ ⟨_, _, _, _, _, _, _, _, _, _, _, _, _, _, _, _, _, _, _, _, _, rfl, HF.out⟩
    · have HF : Hid (wit8F b b5 i k f p1 p2 z S0 S1 S2 (upd d_ 4) x29 x30 x31 x32 (.int .i64 k) x34 x35 x36 x37 x38 x39 x40 x41 x42 x43 x44 x45 x46 x47 x48 u w1) := ⟨F.q5, F.q6, F.q7, fun h => ⟨rfl, (F.q8 h).2⟩, F.q9, F.q10, F.q11, F.q12, F.q13, F.q14, F.q15, F.q16, F.q18, fun h => ⟨(F.q19 h).1, (F.q19 h).2.1, (F.q19 h).2.2.1, (F.q19 h).2.2.2.1, rfl, (F.q19 h).2.2.2.2.2.1, (F.q19 h).2.2.2.2.2.2.1, (F.q19 h).2.2.2.2.2.2.2.1, (F.q19 h).2.2.2.2.2.2.2.2.1, (F.q19 h).2.2.2.2.2.2.2.2.2.1, (F.q19 h).2.2.2.2.2.2.2.2.2.2.1, (F.q19 h).2.2.2.2.2.2.2.2.2.2.2.1, (F.q19 h).2.2.2.2.2.2.2.2.2.2.2.2.1, (F.q19 h).2.2.2.2.2.2.2.2.2.2.2.2.2.1, (F.q19 h).2.2.2.2.2.2.2.2.2.2.2.2.2.2.1, (F.q19 h).2.2.2.2.2.2.2.2.2.2.2.2.2.2.2.1, (F.q19 h).2.2.2.2.2.2.2.2.2.2.2.2.2.2.2.2.1, (F.q19 h).2.2.2.2.2.2.2.2.2.2.2.2.2.2.2.2.2⟩, fun h => ⟨(F.q20 h).1, (F.q20 h).2.1, (F.q20 h).2.2.1, (F.q20 h).2.2.2.1, rfl, (F.q20 h).2.2.2.2.2.1, (F.q20 h).2.2.2.2.2.2.1, (F.q20 h).2.2.2.2.2.2.2.1, (F.q20 h).2.2.2.2.2.2.2.2.1, (F.q20 h).2.2.2.2.2.2.2.2.2.1, (F.q20 h).2.2.2.2.2.2.2.2.2.2.1, (F.q20 h).2.2.2.2.2.2.2.2.2.2.2.1, (F.q20 h).2.2.2.2.2.2.2.2.2.2.2.2.1, (F.q20 h).2.2.2.2.2.2.2.2.2.2.2.2.2.1, (F.q20 h).2.2.2.2.2.2.2.2.2.2.2.2.2.2.1, (F.q20 h).2.2.2.2.2.2.2.2.2.2.2.2.2.2.2.1, (F.q20 h).2.2.2.2.2.2.2.2.2.2.2.2.2.2.2.2.1, (F.q20 h).2.2.2.2.2.2.2.2.2.2.2.2.2.2.2.2.2⟩, F.f0, F.f1, F.f2, F.f3, fun _ => rfl, F.f5, F.f6, F.f7, F.f8, F.f9, F.f10, F.f11, F.f12, F.f13, F.f14, F.f15, F.f16, F.f17, F.f18, F.f19, F.st0, F.st1, F.st2⟩
      clear F
      go_simp
      exact HK.out _ _ ⟨_, _, _, _, _, _, _, _, _, _, _, _, _, _, _, _, _, _, _, _, _, rfl, HF.out⟩
    · obtain rfl := F.f2 (by simp [hdep])
      have HF : Hid (wit8F b b5 i k f p1 p2 z S0 S1 S2 (upd d_ 5) x29 x30 (.pointer (some ⟨b, 0, none⟩)) x32 x33 (.pointer (some ⟨b, 0, none⟩)) x35 x36 x37 x38 x39 x40 x41 x42 x43 x44 x45 x46 x47 x48 u w1) := ⟨fun _ => (show _ from (by simp [hdep] : d_ 2 = true)), fun h => rfl, F.q7, F.q8, F.q9, F.q10, F.q11, F.q12, F.q13, F.q14, F.q15, F.q16, F.q18, fun h => ⟨(F.q19 h).1, (F.q19 h).2.1, (F.q19 h).2.2.1, (F.q19 h).2.2.2.1, (F.q19 h).2.2.2.2.1, rfl, (F.q19 h).2.2.2.2.2.2.1, (F.q19 h).2.2.2.2.2.2.2.1, (F.q19 h).2.2.2.2.2.2.2.2.1, (F.q19 h).2.2.2.2.2.2.2.2.2.1, (F.q19 h).2.2.2.2.2.2.2.2.2.2.1, (F.q19 h).2.2.2.2.2.2.2.2.2.2.2.1, (F.q19 h).2.2.2.2.2.2.2.2.2.2.2.2.1, (F.q19 h).2.2.2.2.2.2.2.2.2.2.2.2.2.1, (F.q19 h).2.2.2.2.2.2.2.2.2.2.2.2.2.2.1, (F.q19 h).2.2.2.2.2.2.2.2.2.2.2.2.2.2.2.1, (F.q19 h).2.2.2.2.2.2.2.2.2.2.2.2.2.2.2.2.1, (F.q19 h).2.2.2.2.2.2.2.2.2.2.2.2.2.2.2.2.2⟩, fun h => ⟨(F.q20 h).1, (F.q20 h).2.1, (F.q20 h).2.2.1, (F.q20 h).2.2.2.1, (F.q20 h).2.2.2.2.1, rfl, (F.q20 h).2.2.2.2.2.2.1, (F.q20 h).2.2.2.2.2.2.2.1, (F.q20 h).2.2.2.2.2.2.2.2.1, (F.q20 h).2.2.2.2.2.2.2.2.2.1, (F.q20 h).2.2.2.2.2.2.2.2.2.2.1, (F.q20 h).2.2.2.2.2.2.2.2.2.2.2.1, (F.q20 h).2.2.2.2.2.2.2.2.2.2.2.2.1, (F.q20 h).2.2.2.2.2.2.2.2.2.2.2.2.2.1, (F.q20 h).2.2.2.2.2.2.2.2.2.2.2.2.2.2.1, (F.q20 h).2.2.2.2.2.2.2.2.2.2.2.2.2.2.2.1, (F.q20 h).2.2.2.2.2.2.2.2.2.2.2.2.2.2.2.2.1, (F.q20 h).2.2.2.2.2.2.2.2.2.2.2.2.2.2.2.2.2⟩, F.f0, F.f1, F.f2, F.f3, F.f4, fun _ => rfl, F.f6, F.f7, F.f8, F.f9, F.f10, F.f11, F.f12, F.f13, F.f14, F.f15, F.f16, F.f17, F.f18, F.f19, F.st0, F.st1, F.st2⟩
      clear F
      go_simp
      exact HK.out _ _ ⟨_, _, _, _, _, _, _, _, _, _, _, _, _, _, _, _, _, _, _, _, _, rfl, HF.out⟩
    · obtain rfl := F.f5 (by simp [hdep])
      have HF : Hid (wit8F b b5 i k f p1 p2 z S0 S1 S2 (upd d_ 6) x29 x30 x31 x32 x33 (.pointer (some ⟨b, 0, none⟩)) (.pointer (some ⟨b, 5, none⟩)) x36 x37 x38 x39 x40 x41 x42 x43 x44 x45 x46 x47 x48 u w1) := ⟨F.q5, fun _ => (show _ from (by simp [hdep] : d_ 5 = true)), fun h => ⟨(F.q7 h).1, rfl⟩, F.q8, F.q9, F.q10, F.q11, F.q12, F.q13, F.q14, F.q15, F.q16, F.q18, fun h => ⟨(F.q19 h).1, (F.q19 h).2.1, (F.q19 h).2.2.1, (F.q19 h).2.2.2.1, (F.q19 h).2.2.2.2.1, (F.q19 h).2.2.2.2.2.1, rfl, (F.q19 h).2.2.2.2.2.2.2.1, (F.q19 h).2.2.2.2.2.2.2.2.1, (F.q19 h).2.2.2.2.2.2.2.2.2.1, (F.q19 h).2.2.2.2.2.2.2.2.2.2.1, (F.q19 h).2.2.2.2.2.2.2.2.2.2.2.1, (F.q19 h).2.2.2.2.2.2.2.2.2.2.2.2.1, (F.q19 h).2.2.2.2.2.2.2.2.2.2.2.2.2.1, (F.q19 h).2.2.2.2.2.2.2.2.2.2.2.2.2.2.1, (F.q19 h).2.2.2.2.2.2.2.2.2.2.2.2.2.2.2.1, (F.q19 h).2.2.2.2.2.2.2.2.2.2.2.2.2.2.2.2.1, (F.q19 h).2.2.2.2.2.2.2.2.2.2.2.2.2.2.2.2.2⟩, fun h => ⟨(F.q20 h).1, (F.q20 h).2.1, (F.q20 h).2.2.1, (F.q20 h).2.2.2.1, (F.q20 h).2.2.2.2.1, (F.q20 h).2.2.2.2.2.1, rfl, (F.q20 h).2.2.2.2.2.2.2.1, (F.q20 h).2.2.2.2.2.2.2.2.1, (F.q20 h).2.2.2.2.2.2.2.2.2.1, (F.q20 h).2.2.2.2.2.2.2.2.2.2.1, (F.q20 h).2.2.2.2.2.2.2.2.2.2.2.1, (F.q20 h).2.2.2.2.2.2.2.2.2.2.2.2.1, (F.q20 h).2.2.2.2.2.2.2.2.2.2.2.2.2.1, (F.q20 h).2.2.2.2.2.2.2.2.2.2.2.2.2.2.1, (F.q20 h).2.2.2.2.2.2.2.2.2.2.2.2.2.2.2.1, (F.q20 h).2.2.2.2.2.2.2.2.2.2.2.2.2.2.2.2.1, (F.q20 h).2.2.2.2.2.2.2.2.2.2.2.2.2.2.2.2.2⟩, F.f0, F.f1, F.f2, F.f3, F.f4, F.f5, fun _ => rfl, F.f7, F.f8, F.f9, F.f10, F.f11, F.f12, F.f13, F.f14, F.f15, F.f16, F.f17, F.f18, F.f19, F.st0, F.st1, F.st2⟩
      clear F
      go_simp
      exact HK.out _ _ ⟨_, _, _, _, _, _, _, _, _, _, _, _, _, _, _, _, _, _, _, _, _, rfl, HF.out⟩
    · obtain rfl := F.f3 (by simp [hdep])
      obtain rfl := F.f6 (by simp [hdep])
      have HF : Hid (wit8F b b5 i k f p1 p2 z S0 S1 S2 (upd d_ 7) x29 x30 x31 (.int .i64 i) x33 x34 (.pointer (some ⟨b, 5, none⟩)) (.pointer (some ⟨b, 5 + i * 10, none⟩)) x37 x38 x39 x40 x41 x42 x43 x44 x45 x46 x47 x48 u w1) := ⟨F.q5, F.q6, fun _ => ⟨(show _ from (by simp [hdep] : d_ 3 = true)), (show _ from (by simp [hdep] : d_ 6 = true))⟩, fun h => ⟨(F.q8 h).1, rfl⟩, F.q9, F.q10, F.q11, F.q12, F.q13, F.q14, F.q15, F.q16, F.q18, fun h => ⟨(F.q19 h).1, (F.q19 h).2.1, (F.q19 h).2.2.1, (F.q19 h).2.2.2.1, (F.q19 h).2.2.2.2.1, (F.q19 h).2.2.2.2.2.1, (F.q19 h).2.2.2.2.2.2.1, rfl, (F.q19 h).2.2.2.2.2.2.2.2.1, (F.q19 h).2.2.2.2.2.2.2.2.2.1, (F.q19 h).2.2.2.2.2.2.2.2.2.2.1, (F.q19 h).2.2.2.2.2.2.2.2.2.2.2.1, (F.q19 h).2.2.2.2.2.2.2.2.2.2.2.2.1, (F.q19 h).2.2.2.2.2.2.2.2.2.2.2.2.2.1, (F.q19 h).2.2.2.2.2.2.2.2.2.2.2.2.2.2.1, (F.q19 h).2.2.2.2.2.2.2.2.2.2.2.2.2.2.2.1, (F.q19 h).2.2.2.2.2.2.2.2.2.2.2.2.2.2.2.2.1, (F.q19 h).2.2.2.2.2.2.2.2.2.2.2.2.2.2.2.2.2⟩, fun h => ⟨(F.q20 h).1, (F.q20 h).2.1, (F.q20 h).2.2.1, (F.q20 h).2.2.2.1, (F.q20 h).2.2.2.2.1, (F.q20 h).2.2.2.2.2.1, (F.q20 h).2.2.2.2.2.2.1, rfl, (F.q20 h).2.2.2.2.2.2.2.2.1, (F.q20 h).2.2.2.2.2.2.2.2.2.1, (F.q20 h).2.2.2.2.2.2.2.2.2.2.1, (F.q20 h).2.2.2.2.2.2.2.2.2.2.2.1, (F.q20 h).2.2.2.2.2.2.2.2.2.2.2.2.1, (F.q20 h).2.2.2.2.2.2.2.2.2.2.2.2.2.1, (F.q20 h).2.2.2.2.2.2.2.2.2.2.2.2.2.2.1, (F.q20 h).2.2.2.2.2.2.2.2.2.2.2.2.2.2.2.1, (F.q20 h).2.2.2.2.2.2.2.2.2.2.2.2.2.2.2.2.1, (F.q20 h).2.2.2.2.2.2.2.2.2.2.2.2.2.2.2.2.2⟩, F.f0, F.f1, F.f2, F.f3, F.f4, F.f5, F.f6, fun _ => rfl, F.f8, F.f9, F.f10, F.f11, F.f12, F.f13, F.f14, F.f15, F.f16, F.f17, F.f18, F.f19, F.st0, F.st1, F.st2⟩
      clear F
      go_simp
      exact HK.out _ _ ⟨_, _, _, _, _, _, _, _, _, _, _, _, _, _, _, _, _, _, _, _, _, rfl, HF.out⟩
    · obtain rfl := F.f4 (by simp [hdep])
      obtain rfl := F.f7 (by simp [hdep])
      have HF : Hid (wit8F b b5 i k f p1 p2 z S0 S1 S2 (upd d_ 8) x29 x30 x31 x32 (.int .i64 k) x34 x35 (.pointer (some ⟨b, 5 + i * 10, none⟩)) (.pointer (some ⟨b, 5 + i * 10 + k, none⟩)) x38 x39 x40 x41 x42 x43 x44 x45 x46 x47 x48 u w1) := ⟨F.q5, F.q6, F.q7, fun _ => ⟨(show _ from (by simp [hdep] : d_ 4 = true)), (show _ from (by simp [hdep] : d_ 7 = true))⟩, fun h => rfl, F.q10, F.q11, F.q12, F.q13, F.q14, F.q15, F.q16, F.q18, fun h => ⟨(F.q19 h).1, (F.q19 h).2.1, (F.q19 h).2.2.1, (F.q19 h).2.2.2.1, (F.q19 h).2.2.2.2.1, (F.q19 h).2.2.2.2.2.1, (F.q19 h).2.2.2.2.2.2.1, (F.q19 h).2.2.2.2.2.2.2.1, rfl, (F.q19 h).2.2.2.2.2.2.2.2.2.1, (F.q19 h).2.2.2.2.2.2.2.2.2.2.1, (F.q19 h).2.2.2.2.2.2.2.2.2.2.2.1, (F.q19 h).2.2.2.2.2.2.2.2.2.2.2.2.1, (F.q19 h).2.2.2.2.2.2.2.2.2.2.2.2.2.1, (F.q19 h).2.2.2.2.2.2.2.2.2.2.2.2.2.2.1, (F.q19 h).2.2.2.2.2.2.2.2.2.2.2.2.2.2.2.1, (F.q19 h).2.2.2.2.2.2.2.2.2.2.2.2.2.2.2.2.1, (F.q19 h).2.2.2.2.2.2.2.2.2.2.2.2.2.2.2.2.2⟩, fun h => ⟨(F.q20 h).1, (F.q20 h).2.1, (F.q20 h).2.2.1, (F.q20 h).2.2.2.1, (F.q20 h).2.2.2.2.1, (F.q20 h).2.2.2.2.2.1, (F.q20 h).2.2.2.2.2.2.1, (F.q20 h).2.2.2.2.2.2.2.1, rfl, (F.q20 h).2.2.2.2.2.2.2.2.2.1, (F.q20 h).2.2.2.2.2.2.2.2.2.2.1, (F.q20 h).2.2.2.2.2.2.2.2.2.2.2.1, (F.q20 h).2.2.2.2.2.2.2.2.2.2.2.2.1, (F.q20 h).2.2.2.2.2.2.2.2.2.2.2.2.2.1, (F.q20 h).2.2.2.2.2.2.2.2.2.2.2.2.2.2.1, (F.q20 h).2.2.2.2.2.2.2.2.2.2.2.2.2.2.2.1, (F.q20 h).2.2.2.2.2.2.2.2.2.2.2.2.2.2.2.2.1, (F.q20 h).2.2.2.2.2.2.2.2.2.2.2.2.2.2.2.2.2⟩, F.f0, F.f1, F.f2, F.f3, F.f4, F.f5, F.f6, F.f7, fun _ => rfl, F.f9, F.f10, F.f11, F.f12, F.f13, F.f14, F.f15, F.f16, F.f17, F.f18, F.f19, F.st0, F.st1, F.st2⟩
      clear F
      go_simp
      exact HK.out _ _ ⟨_, _, _, _, _, _, _, _, _, _, _, _, _, _, _, _, _, _, _, _, _, rfl, HF.out⟩
    · have hst : S0 w1 := by
        have n_ : d_ 14 = false := by
          cases e_ : d_ 14 with
          | false => rfl
          | true => have h2 := (F.q10 (F.q14 e_).1); rw [show d_ 9 = false from hd_] at h2; cases h2
        exact (F.st0 n_)
      have kk := kl9.out w1 hst
      clear hst
      obtain rfl := F.f8 (by simp [hdep])
      have HF : Hid (wit8F b b5 i k f p1 p2 z S0 S1 S2 (upd d_ 9) x29 x30 x31 x32 x33 x34 x35 x36 (.pointer (some ⟨b, 5 + i * 10 + k, none⟩)) (.bool true) x39 x40 x41 x42 x43 x44 x45 x46 x47 x48 u w1) := ⟨F.q5, F.q6, F.q7, F.q8, fun _ => (show _ from (by simp [hdep] : d_ 8 = true)), fun h => rfl, F.q11, F.q12, F.q13, F.q14, F.q15, F.q16, F.q18, fun h => ⟨(F.q19 h).1, (F.q19 h).2.1, (F.q19 h).2.2.1, (F.q19 h).2.2.2.1, (F.q19 h).2.2.2.2.1, (F.q19 h).2.2.2.2.2.1, (F.q19 h).2.2.2.2.2.2.1, (F.q19 h).2.2.2.2.2.2.2.1, (F.q19 h).2.2.2.2.2.2.2.2.1, rfl, (F.q19 h).2.2.2.2.2.2.2.2.2.2.1, (F.q19 h).2.2.2.2.2.2.2.2.2.2.2.1, (F.q19 h).2.2.2.2.2.2.2.2.2.2.2.2.1, (F.q19 h).2.2.2.2.2.2.2.2.2.2.2.2.2.1, (F.q19 h).2.2.2.2.2.2.2.2.2.2.2.2.2.2.1, (F.q19 h).2.2.2.2.2.2.2.2.2.2.2.2.2.2.2.1, (F.q19 h).2.2.2.2.2.2.2.2.2.2.2.2.2.2.2.2.1, (F.q19 h).2.2.2.2.2.2.2.2.2.2.2.2.2.2.2.2.2⟩, fun h => ⟨(F.q20 h).1, (F.q20 h).2.1, (F.q20 h).2.2.1, (F.q20 h).2.2.2.1, (F.q20 h).2.2.2.2.1, (F.q20 h).2.2.2.2.2.1, (F.q20 h).2.2.2.2.2.2.1, (F.q20 h).2.2.2.2.2.2.2.1, (F.q20 h).2.2.2.2.2.2.2.2.1, rfl, (F.q20 h).2.2.2.2.2.2.2.2.2.2.1, (F.q20 h).2.2.2.2.2.2.2.2.2.2.2.1, (F.q20 h).2.2.2.2.2.2.2.2.2.2.2.2.1, (F.q20 h).2.2.2.2.2.2.2.2.2.2.2.2.2.1, (F.q20 h).2.2.2.2.2.2.2.2.2.2.2.2.2.2.1, (F.q20 h).2.2.2.2.2.2.2.2.2.2.2.2.2.2.2.1, (F.q20 h).2.2.2.2.2.2.2.2.2.2.2.2.2.2.2.2.1, (F.q20 h).2.2.2.2.2.2.2.2.2.2.2.2.2.2.2.2.2⟩, F.f0, F.f1, F.f2, F.f3, F.f4, F.f5, F.f6, F.f7, F.f8, fun _ => rfl, F.f10, F.f11, F.f12, F.f13, F.f14, F.f15, F.f16, F.f17, F.f18, F.f19, F.st0, F.st1, F.st2⟩
      clear F
      go_simp
      exact HK.out _ _ ⟨_, _, _, _, _, _, _, _, _, _, _, _, _, _, _, _, _, _, _, _, _, rfl, HF.out⟩
    · obtain rfl := F.f9 (by simp [hdep])
      have HF : Hid (wit8F b b5 i k f p1 p2 z S0 S1 S2 (upd d_ 10) x29 x30 x31 x32 x33 x34 x35 x36 x37 (.bool true) (.bool true) x40 x41 x42 x43 x44 x45 x46 x47 x48 u w1) := ⟨F.q5, F.q6, F.q7, F.q8, F.q9, fun _ => (show _ from (by simp [hdep] : d_ 9 = true)), fun h => rfl, fun h => rfl, fun h => rfl, fun h => ⟨rfl, (F.q14 h).2.1, (F.q14 h).2.2.1, (F.q14 h).2.2.2⟩, fun h => ⟨rfl, (F.q15 h).2⟩, fun h => ⟨rfl, (F.q16 h).2⟩, F.q18, fun h => ⟨(F.q19 h).1, (F.q19 h).2.1, (F.q19 h).2.2.1, (F.q19 h).2.2.2.1, (F.q19 h).2.2.2.2.1, (F.q19 h).2.2.2.2.2.1, (F.q19 h).2.2.2.2.2.2.1, (F.q19 h).2.2.2.2.2.2.2.1, (F.q19 h).2.2.2.2.2.2.2.2.1, (F.q19 h).2.2.2.2.2.2.2.2.2.1, rfl, (F.q19 h).2.2.2.2.2.2.2.2.2.2.2.1, (F.q19 h).2.2.2.2.2.2.2.2.2.2.2.2.1, (F.q19 h).2.2.2.2.2.2.2.2.2.2.2.2.2.1, (F.q19 h).2.2.2.2.2.2.2.2.2.2.2.2.2.2.1, (F.q19 h).2.2.2.2.2.2.2.2.2.2.2.2.2.2.2.1, (F.q19 h).2.2.2.2.2.2.2.2.2.2.2.2.2.2.2.2.1, (F.q19 h).2.2.2.2.2.2.2.2.2.2.2.2.2.2.2.2.2⟩, fun h => ⟨(F.q20 h).1, (F.q20 h).2.1, (F.q20 h).2.2.1, (F.q20 h).2.2.2.1, (F.q20 h).2.2.2.2.1, (F.q20 h).2.2.2.2.2.1, (F.q20 h).2.2.2.2.2.2.1, (F.q20 h).2.2.2.2.2.2.2.1, (F.q20 h).2.2.2.2.2.2.2.2.1, (F.q20 h).2.2.2.2.2.2.2.2.2.1, rfl, (F.q20 h).2.2.2.2.2.2.2.2.2.2.2.1, (F.q20 h).2.2.2.2.2.2.2.2.2.2.2.2.1, (F.q20 h).2.2.2.2.2.2.2.2.2.2.2.2.2.1, (F.q20 h).2.2.2.2.2.2.2.2.2.2.2.2.2.2.1, (F.q20 h).2.2.2.2.2.2.2.2.2.2.2.2.2.2.2.1, (F.q20 h).2.2.2.2.2.2.2.2.2.2.2.2.2.2.2.2.1, (F.q20 h).2.2.2.2.2.2.2.2.2.2.2.2.2.2.2.2.2⟩, F.f0, F.f1, F.f2, F.f3, F.f4, F.f5, F.f6, F.f7, F.f8, F.f9, fun _ => rfl, F.f11, F.f12, F.f13, F.f14, F.f15, F.f16, F.f17, F.f18, F.f19, F.st0, F.st1, F.st2⟩
      clear F
      go_simp
      exact HK.out _ _ ⟨_, _, _, _, _, _, _, _, _, _, _, _, _, _, _, _, _, _, _, _, _, rfl, HF.out⟩
    · obtain rfl := F.f10 (by simp [hdep])
      have HF : Hid (wit8F b b5 i k f p1 p2 z S0 S1 S2 (upd d_ 11) x29 x30 x31 x32 x33 x34 x35 x36 x37 x38 (.bool true) (.func (.func f) #[] #[.pointer (some ⟨p1, 0, none⟩), .pointer (some ⟨p2, 0, none⟩)]) x41 x42 x43 x44 x45 x46 x47 x48 u w1) := ⟨F.q5, F.q6, F.q7, F.q8, F.q9, F.q10, fun _ => (show _ from (by simp [hdep] : d_ 10 = true)), F.q12, F.q13, fun h => ⟨(F.q14 h).1, rfl, (F.q14 h).2.2.1, (F.q14 h).2.2.2⟩, F.q15, F.q16, F.q18, fun h => ⟨(F.q19 h).1, (F.q19 h).2.1, (F.q19 h).2.2.1, (F.q19 h).2.2.2.1, (F.q19 h).2.2.2.2.1, (F.q19 h).2.2.2.2.2.1, (F.q19 h).2.2.2.2.2.2.1, (F.q19 h).2.2.2.2.2.2.2.1, (F.q19 h).2.2.2.2.2.2.2.2.1, (F.q19 h).2.2.2.2.2.2.2.2.2.1, (F.q19 h).2.2.2.2.2.2.2.2.2.2.1, rfl, (F.q19 h).2.2.2.2.2.2.2.2.2.2.2.2.1, (F.q19 h).2.2.2.2.2.2.2.2.2.2.2.2.2.1, (F.q19 h).2.2.2.2.2.2.2.2.2.2.2.2.2.2.1, (F.q19 h).2.2.2.2.2.2.2.2.2.2.2.2.2.2.2.1, (F.q19 h).2.2.2.2.2.2.2.2.2.2.2.2.2.2.2.2.1, (F.q19 h).2.2.2.2.2.2.2.2.2.2.2.2.2.2.2.2.2⟩, fun h => ⟨(F.q20 h).1, (F.q20 h).2.1, (F.q20 h).2.2.1, (F.q20 h).2.2.2.1, (F.q20 h).2.2.2.2.1, (F.q20 h).2.2.2.2.2.1, (F.q20 h).2.2.2.2.2.2.1, (F.q20 h).2.2.2.2.2.2.2.1, (F.q20 h).2.2.2.2.2.2.2.2.1, (F.q20 h).2.2.2.2.2.2.2.2.2.1, (F.q20 h).2.2.2.2.2.2.2.2.2.2.1, rfl, (F.q20 h).2.2.2.2.2.2.2.2.2.2.2.2.1, (F.q20 h).2.2.2.2.2.2.2.2.2.2.2.2.2.1, (F.q20 h).2.2.2.2.2.2.2.2.2.2.2.2.2.2.1, (F.q20 h).2.2.2.2.2.2.2.2.2.2.2.2.2.2.2.1, (F.q20 h).2.2.2.2.2.2.2.2.2.2.2.2.2.2.2.2.1, (F.q20 h).2.2.2.2.2.2.2.2.2.2.2.2.2.2.2.2.2⟩, F.f0, F.f1, F.f2, F.f3, F.f4, F.f5, F.f6, F.f7, F.f8, F.f9, F.f10, fun _ => rfl, F.f12, F.f13, F.f14, F.f15, F.f16, F.f17, F.f18, F.f19, F.st0, F.st1, F.st2⟩
      clear F
      go_simp
      exact HK.out _ _ ⟨_, _, _, _, _, _, _, _, _, _, _, _, _, _, _, _, _, _, _, _, _, rfl, HF.out⟩
    · obtain rfl := F.f10 (by simp [hdep])
      have HF : Hid (wit8F b b5 i k f p1 p2 z S0 S1 S2 (upd d_ 12) x29 x30 x31 x32 x33 x34 x35 x36 x37 x38 (.bool true) x40 (.int .i64 i) x42 x43 x44 x45 x46 x47 x48 u w1) := ⟨F.q5, F.q6, F.q7, F.q8, F.q9, F.q10, F.q11, fun _ => (show _ from (by simp [hdep] : d_ 10 = true)), F.q13, fun h => ⟨(F.q14 h).1, (F.q14 h).2.1, rfl, (F.q14 h).2.2.2⟩, F.q15, F.q16, F.q18, fun h => ⟨(F.q19 h).1, (F.q19 h).2.1, (F.q19 h).2.2.1, (F.q19 h).2.2.2.1, (F.q19 h).2.2.2.2.1, (F.q19 h).2.2.2.2.2.1, (F.q19 h).2.2.2.2.2.2.1, (F.q19 h).2.2.2.2.2.2.2.1, (F.q19 h).2.2.2.2.2.2.2.2.1, (F.q19 h).2.2.2.2.2.2.2.2.2.1, (F.q19 h).2.2.2.2.2.2.2.2.2.2.1, (F.q19 h).2.2.2.2.2.2.2.2.2.2.2.1, rfl, (F.q19 h).2.2.2.2.2.2.2.2.2.2.2.2.2.1, (F.q19 h).2.2.2.2.2.2.2.2.2.2.2.2.2.2.1, (F.q19 h).2.2.2.2.2.2.2.2.2.2.2.2.2.2.2.1, (F.q19 h).2.2.2.2.2.2.2.2.2.2.2.2.2.2.2.2.1, (F.q19 h).2.2.2.2.2.2.2.2.2.2.2.2.2.2.2.2.2⟩, fun h => ⟨(F.q20 h).1, (F.q20 h).2.1, (F.q20 h).2.2.1, (F.q20 h).2.2.2.1, (F.q20 h).2.2.2.2.1, (F.q20 h).2.2.2.2.2.1, (F.q20 h).2.2.2.2.2.2.1, (F.q20 h).2.2.2.2.2.2.2.1, (F.q20 h).2.2.2.2.2.2.2.2.1, (F.q20 h).2.2.2.2.2.2.2.2.2.1, (F.q20 h).2.2.2.2.2.2.2.2.2.2.1, (F.q20 h).2.2.2.2.2.2.2.2.2.2.2.1, rfl, (F.q20 h).2.2.2.2.2.2.2.2.2.2.2.2.2.1, (F.q20 h).2.2.2.2.2.2.2.2.2.2.2.2.2.2.1, (F.q20 h).2.2.2.2.2.2.2.2.2.2.2.2.2.2.2.1, (F.q20 h).2.2.2.2.2.2.2.2.2.2.2.2.2.2.2.2.1, (F.q20 h).2.2.2.2.2.2.2.2.2.2.2.2.2.2.2.2.2⟩, F.f0, F.f1, F.f2, F.f3, F.f4, F.f5, F.f6, F.f7, F.f8, F.f9, F.f10, F.f11, fun _ => rfl, F.f13, F.f14, F.f15, F.f16, F.f17, F.f18, F.f19, F.st0, F.st1, F.st2⟩
      clear F
      go_simp
      exact HK.out _ _ ⟨_, _, _, _, _, _, _, _, _, _, _, _, _, _, _, _, _, _, _, _, _, rfl, HF.out⟩
    · obtain rfl := F.f10 (by simp [hdep])
      have HF : Hid (wit8F b b5 i k f p1 p2 z S0 S1 S2 (upd d_ 13) x29 x30 x31 x32 x33 x34 x35 x36 x37 x38 (.bool true) x40 x41 (.int .i64 k) x43 x44 x45 x46 x47 x48 u w1) := ⟨F.q5, F.q6, F.q7, F.q8, F.q9, F.q10, F.q11, F.q12, fun _ => (show _ from (by simp [hdep] : d_ 10 = true)), fun h => ⟨(F.q14 h).1, (F.q14 h).2.1, (F.q14 h).2.2.1, rfl⟩, F.q15, F.q16, F.q18, fun h => ⟨(F.q19 h).1, (F.q19 h).2.1, (F.q19 h).2.2.1, (F.q19 h).2.2.2.1, (F.q19 h).2.2.2.2.1, (F.q19 h).2.2.2.2.2.1, (F.q19 h).2.2.2.2.2.2.1, (F.q19 h).2.2.2.2.2.2.2.1, (F.q19 h).2.2.2.2.2.2.2.2.1, (F.q19 h).2.2.2.2.2.2.2.2.2.1, (F.q19 h).2.2.2.2.2.2.2.2.2.2.1, (F.q19 h).2.2.2.2.2.2.2.2.2.2.2.1, (F.q19 h).2.2.2.2.2.2.2.2.2.2.2.2.1, rfl, (F.q19 h).2.2.2.2.2.2.2.2.2.2.2.2.2.2.1, (F.q19 h).2.2.2.2.2.2.2.2.2.2.2.2.2.2.2.1, (F.q19 h).2.2.2.2.2.2.2.2.2.2.2.2.2.2.2.2.1, (F.q19 h).2.2.2.2.2.2.2.2.2.2.2.2.2.2.2.2.2⟩, fun h => ⟨(F.q20 h).1, (F.q20 h).2.1, (F.q20 h).2.2.1, (F.q20 h).2.2.2.1, (F.q20 h).2.2.2.2.1, (F.q20 h).2.2.2.2.2.1, (F.q20 h).2.2.2.2.2.2.1, (F.q20 h).2.2.2.2.2.2.2.1, (F.q20 h).2.2.2.2.2.2.2.2.1, (F.q20 h).2.2.2.2.2.2.2.2.2.1, (F.q20 h).2.2.2.2.2.2.2.2.2.2.1, (F.q20 h).2.2.2.2.2.2.2.2.2.2.2.1, (F.q20 h).2.2.2.2.2.2.2.2.2.2.2.2.1, rfl, (F.q20 h).2.2.2.2.2.2.2.2.2.2.2.2.2.2.1, (F.q20 h).2.2.2.2.2.2.2.2.2.2.2.2.2.2.2.1, (F.q20 h).2.2.2.2.2.2.2.2.2.2.2.2.2.2.2.2.1, (F.q20 h).2.2.2.2.2.2.2.2.2.2.2.2.2.2.2.2.2⟩, F.f0, F.f1, F.f2, F.f3, F.f4, F.f5, F.f6, F.f7, F.f8, F.f9, F.f10, F.f11, F.f12, fun _ => rfl, F.f14, F.f15, F.f16, F.f17, F.f18, F.f19, F.st0, F.st1, F.st2⟩
      clear F
      go_simp
      exact HK.out _ _ ⟨_, _, _, _, _, _, _, _, _, _, _, _, _, _, _, _, _, _, _, _, _, rfl, HF.out⟩
    · have hS := F.st0  hd_
      obtain rfl := F.f10 (by simp [hdep])
      obtain rfl := F.f11 (by simp [hdep])
      obtain rfl := F.f12 (by simp [hdep])
      obtain rfl := F.f13 (by simp [hdep])
      have hc := kc14.out w1 hS
      have HF := Lib.hid F
      clear F
      have cfx := cf
      go_simp
      refine ⟨trivial, rfl, wideAt_calls (hc.mono ?_)⟩
      rintro e w5 ⟨v_, rfl, hres⟩
      exact HK.out _ _ ⟨_, _, _, _, _, _, _, _, _, _, _, _, _, _, _, _, _, _, _, _, v_, rfl, ⟨HF.out.q5, HF.out.q6, HF.out.q7, HF.out.q8, HF.out.q9, HF.out.q10, HF.out.q11, HF.out.q12, HF.out.q13, fun _ => ⟨(show _ from (by simp [hdep] : d_ 10 = true)), (show _ from (by simp [hdep] : d_ 11 = true)), (show _ from (by simp [hdep] : d_ 12 = true)), (show _ from (by simp [hdep] : d_ 13 = true))⟩, fun h => ⟨(HF.out.q15 h).1, rfl⟩, HF.out.q16, HF.out.q18, fun h => ⟨(HF.out.q19 h).1, (HF.out.q19 h).2.1, (HF.out.q19 h).2.2.1, (HF.out.q19 h).2.2.2.1, (HF.out.q19 h).2.2.2.2.1, (HF.out.q19 h).2.2.2.2.2.1, (HF.out.q19 h).2.2.2.2.2.2.1, (HF.out.q19 h).2.2.2.2.2.2.2.1, (HF.out.q19 h).2.2.2.2.2.2.2.2.1, (HF.out.q19 h).2.2.2.2.2.2.2.2.2.1, (HF.out.q19 h).2.2.2.2.2.2.2.2.2.2.1, (HF.out.q19 h).2.2.2.2.2.2.2.2.2.2.2.1, (HF.out.q19 h).2.2.2.2.2.2.2.2.2.2.2.2.1, (HF.out.q19 h).2.2.2.2.2.2.2.2.2.2.2.2.2.1, rfl, (HF.out.q19 h).2.2.2.2.2.2.2.2.2.2.2.2.2.2.2.1, (HF.out.q19 h).2.2.2.2.2.2.2.2.2.2.2.2.2.2.2.2.1, (HF.out.q19 h).2.2.2.2.2.2.2.2.2.2.2.2.2.2.2.2.2⟩, fun h => ⟨(HF.out.q20 h).1, (HF.out.q20 h).2.1, (HF.out.q20 h).2.2.1, (HF.out.q20 h).2.2.2.1, (HF.out.q20 h).2.2.2.2.1, (HF.out.q20 h).2.2.2.2.2.1, (HF.out.q20 h).2.2.2.2.2.2.1, (HF.out.q20 h).2.2.2.2.2.2.2.1, (HF.out.q20 h).2.2.2.2.2.2.2.2.1, (HF.out.q20 h).2.2.2.2.2.2.2.2.2.1, (HF.out.q20 h).2.2.2.2.2.2.2.2.2.2.1, (HF.out.q20 h).2.2.2.2.2.2.2.2.2.2.2.1, (HF.out.q20 h).2.2.2.2.2.2.2.2.2.2.2.2.1, (HF.out.q20 h).2.2.2.2.2.2.2.2.2.2.2.2.2.1, rfl, (HF.out.q20 h).2.2.2.2.2.2.2.2.2.2.2.2.2.2.2.1, (HF.out.q20 h).2.2.2.2.2.2.2.2.2.2.2.2.2.2.2.2.1, (HF.out.q20 h).2.2.2.2.2.2.2.2.2.2.2.2.2.2.2.2.2⟩, HF.out.f0, HF.out.f1, HF.out.f2, HF.out.f3, HF.out.f4, HF.out.f5, HF.out.f6, HF.out.f7, HF.out.f8, HF.out.f9, HF.out.f10, HF.out.f11, HF.out.f12, HF.out.f13, fun _ => rfl, HF.out.f15, HF.out.f16, HF.out.f17, HF.out.f18, HF.out.f19, fun h => (by simp [upd] at h), fun _ _ => hres, fun h => (by have h2 : d_ 14 = true := (HF.out.q20 h).2.2.2.2.2.2.2.2.2.2.2.2.2.2.1; rw [show d_ 14 = false from hd_] at h2; cases h2)⟩⟩
    · obtain rfl := F.f10 (by simp [hdep])
      obtain rfl := F.f14 (by simp [hdep])
      have HF : Hid (wit8F b b5 i k f p1 p2 z S0 S1 S2 (upd d_ 15) x29 x30 x31 x32 x33 x34 x35 x36 x37 x38 (.bool true) x40 x41 x42 (.bool z) (.bool (!z)) x45 x46 x47 x48 u w1) := ⟨F.q5, F.q6, F.q7, F.q8, F.q9, F.q10, F.q11, F.q12, F.q13, F.q14, fun _ => ⟨(show _ from (by simp [hdep] : d_ 10 = true)), (show _ from (by simp [hdep] : d_ 14 = true))⟩, fun h => ⟨(F.q16 h).1, rfl⟩, F.q18, fun h => ⟨(F.q19 h).1, (F.q19 h).2.1, (F.q19 h).2.2.1, (F.q19 h).2.2.2.1, (F.q19 h).2.2.2.2.1, (F.q19 h).2.2.2.2.2.1, (F.q19 h).2.2.2.2.2.2.1, (F.q19 h).2.2.2.2.2.2.2.1, (F.q19 h).2.2.2.2.2.2.2.2.1, (F.q19 h).2.2.2.2.2.2.2.2.2.1, (F.q19 h).2.2.2.2.2.2.2.2.2.2.1, (F.q19 h).2.2.2.2.2.2.2.2.2.2.2.1, (F.q19 h).2.2.2.2.2.2.2.2.2.2.2.2.1, (F.q19 h).2.2.2.2.2.2.2.2.2.2.2.2.2.1, (F.q19 h).2.2.2.2.2.2.2.2.2.2.2.2.2.2.1, rfl, (F.q19 h).2.2.2.2.2.2.2.2.2.2.2.2.2.2.2.2.1, (F.q19 h).2.2.2.2.2.2.2.2.2.2.2.2.2.2.2.2.2⟩, fun h => ⟨(F.q20 h).1, (F.q20 h).2.1, (F.q20 h).2.2.1, (F.q20 h).2.2.2.1, (F.q20 h).2.2.2.2.1, (F.q20 h).2.2.2.2.2.1, (F.q20 h).2.2.2.2.2.2.1, (F.q20 h).2.2.2.2.2.2.2.1, (F.q20 h).2.2.2.2.2.2.2.2.1, (F.q20 h).2.2.2.2.2.2.2.2.2.1, (F.q20 h).2.2.2.2.2.2.2.2.2.2.1, (F.q20 h).2.2.2.2.2.2.2.2.2.2.2.1, (F.q20 h).2.2.2.2.2.2.2.2.2.2.2.2.1, (F.q20 h).2.2.2.2.2.2.2.2.2.2.2.2.2.1, (F.q20 h).2.2.2.2.2.2.2.2.2.2.2.2.2.2.1, rfl, (F.q20 h).2.2.2.2.2.2.2.2.2.2.2.2.2.2.2.2.1, (F.q20 h).2.2.2.2.2.2.2.2.2.2.2.2.2.2.2.2.2⟩, F.f0, F.f1, F.f2, F.f3, F.f4, F.f5, F.f6, F.f7, F.f8, F.f9, F.f10, F.f11, F.f12, F.f13, F.f14, fun _ => rfl, F.f16, F.f17, F.f18, F.f19, F.st0, F.st1, F.st2⟩
      clear F
      go_simp
      exact HK.out _ _ ⟨_, _, _, _, _, _, _, _, _, _, _, _, _, _, _, _, _, _, _, _, _, rfl, HF.out⟩
    · obtain rfl := F.f10 (by simp [hdep])
      obtain rfl := F.f15 (by simp [hdep])
      have HF : Hid (wit8F b b5 i k f p1 p2 z S0 S1 S2 (upd d_ 16) x29 x30 x31 x32 x33 x34 x35 x36 x37 x38 (.bool true) x40 x41 x42 x43 (.bool (!z)) (.bool (!z)) x46 x47 x48 u w1) := ⟨F.q5, F.q6, F.q7, F.q8, F.q9, F.q10, F.q11, F.q12, F.q13, F.q14, F.q15, fun _ => ⟨(show _ from (by simp [hdep] : d_ 10 = true)), (show _ from (by simp [hdep] : d_ 15 = true))⟩, F.q18, fun h => ⟨(F.q19 h).1, (F.q19 h).2.1, (F.q19 h).2.2.1, (F.q19 h).2.2.2.1, (F.q19 h).2.2.2.2.1, (F.q19 h).2.2.2.2.2.1, (F.q19 h).2.2.2.2.2.2.1, (F.q19 h).2.2.2.2.2.2.2.1, (F.q19 h).2.2.2.2.2.2.2.2.1, (F.q19 h).2.2.2.2.2.2.2.2.2.1, (F.q19 h).2.2.2.2.2.2.2.2.2.2.1, (F.q19 h).2.2.2.2.2.2.2.2.2.2.2.1, (F.q19 h).2.2.2.2.2.2.2.2.2.2.2.2.1, (F.q19 h).2.2.2.2.2.2.2.2.2.2.2.2.2.1, (F.q19 h).2.2.2.2.2.2.2.2.2.2.2.2.2.2.1, (F.q19 h).2.2.2.2.2.2.2.2.2.2.2.2.2.2.2.1, rfl, (F.q19 h).2.2.2.2.2.2.2.2.2.2.2.2.2.2.2.2.2⟩, fun h => ⟨(F.q20 h).1, (F.q20 h).2.1, (F.q20 h).2.2.1, (F.q20 h).2.2.2.1, (F.q20 h).2.2.2.2.1, (F.q20 h).2.2.2.2.2.1, (F.q20 h).2.2.2.2.2.2.1, (F.q20 h).2.2.2.2.2.2.2.1, (F.q20 h).2.2.2.2.2.2.2.2.1, (F.q20 h).2.2.2.2.2.2.2.2.2.1, (F.q20 h).2.2.2.2.2.2.2.2.2.2.1, (F.q20 h).2.2.2.2.2.2.2.2.2.2.2.1, (F.q20 h).2.2.2.2.2.2.2.2.2.2.2.2.1, (F.q20 h).2.2.2.2.2.2.2.2.2.2.2.2.2.1, (F.q20 h).2.2.2.2.2.2.2.2.2.2.2.2.2.2.1, (F.q20 h).2.2.2.2.2.2.2.2.2.2.2.2.2.2.2.1, rfl, (F.q20 h).2.2.2.2.2.2.2.2.2.2.2.2.2.2.2.2.2⟩, F.f0, F.f1, F.f2, F.f3, F.f4, F.f5, F.f6, F.f7, F.f8, F.f9, F.f10, F.f11, F.f12, F.f13, F.f14, F.f15, fun _ => rfl, F.f17, F.f18, F.f19, F.st0, F.st1, F.st2⟩
      clear F
      go_simp
      exact HK.out _ _ ⟨_, _, _, _, _, _, _, _, _, _, _, _, _, _, _, _, _, _, _, _, _, rfl, HF.out⟩
    · have HF : Hid (wit8F b b5 i k f p1 p2 z S0 S1 S2 (upd d_ 17) x29 x30 x31 x32 x33 x34 x35 x36 x37 x38 x39 x40 x41 x42 x43 x44 x45 (.pointer (some ⟨b5, 5, none⟩)) x47 x48 u w1) := ⟨F.q5, F.q6, F.q7, F.q8, F.q9, F.q10, F.q11, F.q12, F.q13, F.q14, F.q15, F.q16, fun h => ⟨(F.q18 h).1, rfl⟩, F.q19, F.q20, F.f0, F.f1, F.f2, F.f3, F.f4, F.f5, F.f6, F.f7, F.f8, F.f9, F.f10, F.f11, F.f12, F.f13, F.f14, F.f15, F.f16, fun _ => rfl, F.f18, F.f19, F.st0, F.st1, F.st2⟩
      clear F
      go_simp
      exact HK.out _ _ ⟨_, _, _, _, _, _, _, _, _, _, _, _, _, _, _, _, _, _, _, _, _, rfl, HF.out⟩
    · obtain rfl := F.f0 (by simp [hdep])
      obtain rfl := F.f17 (by simp [hdep])
      have HF : Hid (wit8F b b5 i k f p1 p2 z S0 S1 S2 (upd d_ 18) (.int .i64 i) x30 x31 x32 x33 x34 x35 x36 x37 x38 x39 x40 x41 x42 x43 x44 x45 (.pointer (some ⟨b5, 5, none⟩)) (.pointer (some ⟨b5, 5 + i * 10, none⟩)) x48 u w1) := ⟨F.q5, F.q6, F.q7, F.q8, F.q9, F.q10, F.q11, F.q12, F.q13, F.q14, F.q15, F.q16, fun _ => ⟨(show _ from (by simp [hdep] : d_ 0 = true)), (show _ from (by simp [hdep] : d_ 17 = true))⟩, fun h => ⟨(F.q19 h).1, (F.q19 h).2.1, (F.q19 h).2.2.1, (F.q19 h).2.2.2.1, (F.q19 h).2.2.2.2.1, (F.q19 h).2.2.2.2.2.1, (F.q19 h).2.2.2.2.2.2.1, (F.q19 h).2.2.2.2.2.2.2.1, (F.q19 h).2.2.2.2.2.2.2.2.1, (F.q19 h).2.2.2.2.2.2.2.2.2.1, (F.q19 h).2.2.2.2.2.2.2.2.2.2.1, (F.q19 h).2.2.2.2.2.2.2.2.2.2.2.1, (F.q19 h).2.2.2.2.2.2.2.2.2.2.2.2.1, (F.q19 h).2.2.2.2.2.2.2.2.2.2.2.2.2.1, (F.q19 h).2.2.2.2.2.2.2.2.2.2.2.2.2.2.1, (F.q19 h).2.2.2.2.2.2.2.2.2.2.2.2.2.2.2.1, (F.q19 h).2.2.2.2.2.2.2.2.2.2.2.2.2.2.2.2.1, rfl⟩, F.q20, F.f0, F.f1, F.f2, F.f3, F.f4, F.f5, F.f6, F.f7, F.f8, F.f9, F.f10, F.f11, F.f12, F.f13, F.f14, F.f15, F.f16, F.f17, fun _ => rfl, F.f19, F.st0, F.st1, F.st2⟩
      clear F
      go_simp
      exact HK.out _ _ ⟨_, _, _, _, _, _, _, _, _, _, _, _, _, _, _, _, _, _, _, _, _, rfl, HF.out⟩
    · obtain rfl := F.f1 (by simp [hdep])
      obtain rfl := F.f18 (by simp [hdep])
      have HF : Hid (wit8F b b5 i k f p1 p2 z S0 S1 S2 (upd d_ 19) x29 (.int .i64 k) x31 x32 x33 x34 x35 x36 x37 x38 x39 x40 x41 x42 x43 x44 x45 x46 (.pointer (some ⟨b5, 5 + i * 10, none⟩)) (.pointer (some ⟨b5, 5 + i * 10 + k, none⟩)) u w1) := ⟨F.q5, F.q6, F.q7, F.q8, F.q9, F.q10, F.q11, F.q12, F.q13, F.q14, F.q15, F.q16, F.q18, fun _ => ⟨(show _ from (by simp [hdep] : d_ 0 = true)), (show _ from (by simp [hdep] : d_ 1 = true)), (show _ from (by simp [hdep] : d_ 2 = true)), (show _ from (by simp [hdep] : d_ 3 = true)), (show _ from (by simp [hdep] : d_ 4 = true)), (show _ from (by simp [hdep] : d_ 5 = true)), (show _ from (by simp [hdep] : d_ 6 = true)), (show _ from (by simp [hdep] : d_ 7 = true)), (show _ from (by simp [hdep] : d_ 8 = true)), (show _ from (by simp [hdep] : d_ 9 = true)), (show _ from (by simp [hdep] : d_ 10 = true)), (show _ from (by simp [hdep] : d_ 11 = true)), (show _ from (by simp [hdep] : d_ 12 = true)), (show _ from (by simp [hdep] : d_ 13 = true)), (show _ from (by simp [hdep] : d_ 14 = true)), (show _ from (by simp [hdep] : d_ 15 = true)), (show _ from (by simp [hdep] : d_ 16 = true)), (show _ from (by simp [hdep] : d_ 18 = true))⟩, fun h => ⟨(F.q20 h).1, (F.q20 h).2.1, (F.q20 h).2.2.1, (F.q20 h).2.2.2.1, (F.q20 h).2.2.2.2.1, (F.q20 h).2.2.2.2.2.1, (F.q20 h).2.2.2.2.2.2.1, (F.q20 h).2.2.2.2.2.2.2.1, (F.q20 h).2.2.2.2.2.2.2.2.1, (F.q20 h).2.2.2.2.2.2.2.2.2.1, (F.q20 h).2.2.2.2.2.2.2.2.2.2.1, (F.q20 h).2.2.2.2.2.2.2.2.2.2.2.1, (F.q20 h).2.2.2.2.2.2.2.2.2.2.2.2.1, (F.q20 h).2.2.2.2.2.2.2.2.2.2.2.2.2.1, (F.q20 h).2.2.2.2.2.2.2.2.2.2.2.2.2.2.1, (F.q20 h).2.2.2.2.2.2.2.2.2.2.2.2.2.2.2.1, (F.q20 h).2.2.2.2.2.2.2.2.2.2.2.2.2.2.2.2.1, rfl⟩, F.f0, F.f1, F.f2, F.f3, F.f4, F.f5, F.f6, F.f7, F.f8, F.f9, F.f10, F.f11, F.f12, F.f13, F.f14, F.f15, F.f16, F.f17, F.f18, fun _ => rfl, F.st0, F.st1, F.st2⟩
      clear F
      go_simp
      exact HK.out _ _ ⟨_, _, _, _, _, _, _, _, _, _, _, _, _, _, _, _, _, _, _, _, _, rfl, HF.out⟩
    · have hS := F.st1 (by simp [hdep] : d_ 14 = true) hd_
      obtain rfl := F.f16 (by simp [hdep])
      obtain rfl := F.f19 (by simp [hdep])
      obtain ⟨⟨ku0, kcell0⟩, kfr0, hres⟩ := kc20.out u w1 hS
      have HF : Hid (wit8F b b5 i k f p1 p2 z S0 S1 S2 (upd d_ 20) x29 x30 x31 x32 x33 x34 x35 x36 x37 x38 x39 x40 x41 x42 x43 x44 (.bool (!z)) x46 x47 (.pointer (some ⟨b5, 5 + i * 10 + k, none⟩)) u (w1.setCell ⟨b5, 5 + i * 10 + k, none⟩ (.bool (!z)))) := ⟨F.q5, F.q6, F.q7, F.q8, F.q9, F.q10, F.q11, F.q12, F.q13, F.q14, F.q15, F.q16, F.q18, F.q19, fun _ => ⟨(show _ from (by simp [hdep] : d_ 0 = true)), (show _ from (by simp [hdep] : d_ 1 = true)), (show _ from (by simp [hdep] : d_ 2 = true)), (show _ from (by simp [hdep] : d_ 3 = true)), (show _ from (by simp [hdep] : d_ 4 = true)), (show _ from (by simp [hdep] : d_ 5 = true)), (show _ from (by simp [hdep] : d_ 6 = true)), (show _ from (by simp [hdep] : d_ 7 = true)), (show _ from (by simp [hdep] : d_ 8 = true)), (show _ from (by simp [hdep] : d_ 9 = true)), (show _ from (by simp [hdep] : d_ 10 = true)), (show _ from (by simp [hdep] : d_ 11 = true)), (show _ from (by simp [hdep] : d_ 12 = true)), (show _ from (by simp [hdep] : d_ 13 = true)), (show _ from (by simp [hdep] : d_ 14 = true)), (show _ from (by simp [hdep] : d_ 15 = true)), (show _ from (by simp [hdep] : d_ 16 = true)), (show _ from (by simp [hdep] : d_ 19 = true))⟩, F.f0, F.f1, F.f2, F.f3, F.f4, F.f5, F.f6, F.f7, F.f8, F.f9, F.f10, F.f11, F.f12, F.f13, F.f14, F.f15, F.f16, F.f17, F.f18, F.f19, fun h => (by have h2 : d_ 14 = false := h; rw [(by simp [hdep] : d_ 14 = true)] at h2; cases h2), fun _ h => (by simp [upd] at h), fun _ => hres⟩
      clear F hS hres
      go_simp
      exact HK.out _ _ ⟨_, _, _, _, _, _, _, _, _, _, _, _, _, _, _, _, _, _, _, _, _, rfl, HF.out⟩
  · rintro d_ a_ w1 hall ⟨x29, x30, x31, x32, x33, x34, x35, x36, x37, x38, x39, x40, x41, x42, x43, x44, x45, x46, x47, x48, u, rfl, F⟩
    have hall' : ∀ k, k < 21 → d_ k = true := hall
    obtain rfl := F.f0 (hall' 0 (by decide))
    obtain rfl := F.f1 (hall' 1 (by decide))
    obtain rfl := F.f2 (hall' 2 (by decide))
    obtain rfl := F.f3 (hall' 3 (by decide))
    obtain rfl := F.f4 (hall' 4 (by decide))
    obtain rfl := F.f5 (hall' 5 (by decide))
    obtain rfl := F.f6 (hall' 6 (by decide))
    obtain rfl := F.f7 (hall' 7 (by decide))
    obtain rfl := F.f8 (hall' 8 (by decide))
    obtain rfl := F.f9 (hall' 9 (by decide))
    obtain rfl := F.f10 (hall' 10 (by decide))
    obtain rfl := F.f11 (hall' 11 (by decide))
    obtain rfl := F.f12 (hall' 12 (by decide))
    obtain rfl := F.f13 (hall' 13 (by decide))
    obtain rfl := F.f14 (hall' 14 (by decide))
    obtain rfl := F.f15 (hall' 15 (by decide))
    obtain rfl := F.f16 (hall' 16 (by decide))
    obtain rfl := F.f17 (hall' 17 (by decide))
    obtain rfl := F.f18 (hall' 18 (by decide))
    obtain rfl := F.f19 (hall' 19 (by decide))
    have hst := F.st2 (hall' 20 (by decide))
    exact HQ.out u w1 hst
structure wit8nF (b : Nat) (b5 : Nat) (i : Nat) (k : Nat) (f : Nat) (p1 : Nat) (p2 : Nat) (S0 : World → Prop) (S1 : World → Prop) (d : Nat → Bool) (x29 x30 x31 x32 x33 x34 x35 x36 x37 x38 x39 x40 x41 x42 x43 x44 x45 x46 x47 x48 : Value) (w : World) : Prop where
  q5 : d 5 = true → d 2 = true
  q6 : d 6 = true → d 5 = true
  q7 : d 7 = true → d 3 = true ∧ d 6 = true
  q8 : d 8 = true → d 4 = true ∧ d 7 = true
  q9 : d 9 = true → d 8 = true
  q10 : d 10 = true → d 9 = true
  q11 : d 11 = true → d 10 = true
  q12 : d 12 = true → d 10 = true
  q13 : d 13 = true → d 10 = true
  q14 : d 14 = true → d 10 = true ∧ d 11 = true ∧ d 12 = true ∧ d 13 = true
  q15 : d 15 = true → d 10 = true ∧ d 14 = true
  q16 : d 16 = true → d 10 = true ∧ d 15 = true
  q18 : d 18 = true → d 0 = true ∧ d 17 = true
  q19 : d 19 = true → d 0 = true ∧ d 1 = true ∧ d 2 = true ∧ d 3 = true ∧ d 4 = true ∧ d 5 = true ∧ d 6 = true ∧ d 7 = true ∧ d 8 = true ∧ d 9 = true ∧ d 10 = true ∧ d 11 = true ∧ d 12 = true ∧ d 13 = true ∧ d 14 = true ∧ d 15 = true ∧ d 16 = true ∧ d 18 = true
  q20 : d 20 = true → d 0 = true ∧ d 1 = true ∧ d 2 = true ∧ d 3 = true ∧ d 4 = true ∧ d 5 = true ∧ d 6 = true ∧ d 7 = true ∧ d 8 = true ∧ d 9 = true ∧ d 10 = true ∧ d 11 = true ∧ d 12 = true ∧ d 13 = true ∧ d 14 = true ∧ d 15 = true ∧ d 16 = true ∧ d 19 = true
  f0 : d 0 = true → x29 = .int .i64 i
  f1 : d 1 = true → x30 = .int .i64 k
  f2 : d 2 = true → x31 = .pointer (some ⟨b, 0, none⟩)
  f3 : d 3 = true → x32 = .int .i64 i
  f4 : d 4 = true → x33 = .int .i64 k
  f5 : d 5 = true → x34 = .pointer (some ⟨b, 0, none⟩)
  f6 : d 6 = true → x35 = .pointer (some ⟨b, 5, none⟩)
  f7 : d 7 = true → x36 = .pointer (some ⟨b, 5 + i * 10, none⟩)
  f8 : d 8 = true → x37 = .pointer (some ⟨b, 5 + i * 10 + k, none⟩)
  f9 : d 9 = true → x38 = .bool false
  f10 : d 10 = true → x39 = .bool false
  f11 : d 11 = true → x40 = undef
  f12 : d 12 = true → x41 = undef
  f13 : d 13 = true → x42 = undef
  f14 : d 14 = true → x43 = undef
  f15 : d 15 = true → x44 = undef
  f16 : d 16 = true → x45 = .bool false
  f17 : d 17 = true → x46 = .pointer (some ⟨b5, 5, none⟩)
  f18 : d 18 = true → x47 = .pointer (some ⟨b5, 5 + i * 10, none⟩)
  f19 : d 19 = true → x48 = .pointer (some ⟨b5, 5 + i * 10 + k, none⟩)
  st0 : d 20 = false → S0 w
  st1 : d 20 = true → S1 w
noncomputable def wit8nC : Code := (Tryd.f71.body.bind (regionAt 8)).getD .skip
set_option maxRecDepth 100000 in
set_option maxHeartbeats 4000000 in
theorem wit8n {b : Nat} {b5 : Nat} {i : Nat} {k : Nat} {f : Nat} {p1 : Nat} {p2 : Nat} {S0 : World → Prop} {S1 : World → Prop} {Q : Exit → Act → World → Prop} {W1 : World} (hi1 : (0 : Int) ≤ i) (hi2 : (i : Int) < 10) (hk1 : (0 : Int) ≤ k) (hk2 : (k : Int) < 10) (h0 : S0 W1.drew)
    (kl9 : Hid (∀ (w : World), (S0 w) → w.cell? ⟨b, 5 + i * 10 + k, none⟩ = some (.bool false)))
    (kc20 : Hid (∀ (w : World), S0 w → (∃ u, w.cell? ⟨b5, 5 + i * 10 + k, none⟩ = some u) ∧ w.frozen? ⟨b5, 5 + i * 10 + k, none⟩ = false ∧ S1 (w.setCell ⟨b5, 5 + i * 10 + k, none⟩ (.bool false))))
    {s2 s3 s4 s8 s9 s10 s11 s12 s13 s14 s15 s16 s17 s18 s19 s20 s21 s22 s23 s24 s25 s26 s27 s28 s29 s30 s31 s32 s33 s34 s35 s36 s37 s38 s39 s40 s41 s42 s43 s44 s45 s46 s47 s48 s49 s50 : Value} {dd : List Deferred}
    (hQ : ∀ (w' : World), S1 w' → Q .normal { tmps := List.toArray (.pointer (some ⟨b, 0, none⟩) :: .func (.func f) #[] #[.pointer (some ⟨p1, 0, none⟩), .pointer (some ⟨p2, 0, none⟩)] :: s2 :: s3 :: s4 :: .pointer (some ⟨b5, 0, none⟩) :: .int .i64 i :: .int .i64 k :: s8 :: s9 :: s10 :: s11 :: s12 :: s13 :: s14 :: s15 :: s16 :: s17 :: s18 :: s19 :: s20 :: s21 :: s22 :: s23 :: s24 :: s25 :: s26 :: s27 :: s28 :: .int .i64 i :: .int .i64 k :: .pointer (some ⟨b, 0, none⟩) :: .int .i64 i :: .int .i64 k :: .pointer (some ⟨b, 0, none⟩) :: .pointer (some ⟨b, 5, none⟩) :: .pointer (some ⟨b, 5 + i * 10, none⟩) :: .pointer (some ⟨b, 5 + i * 10 + k, none⟩) :: .bool false :: .bool false :: undef :: undef :: undef :: undef :: undef :: .bool false :: .pointer (some ⟨b5, 5, none⟩) :: .pointer (some ⟨b5, 5 + i * 10, none⟩) :: .pointer (some ⟨b5, 5 + i * 10 + k, none⟩) :: s49 :: s50 :: []), defers := dd } w') :
    Code.wpIn (wideAt none) 0 Tryd.prog wit8nC Q { tmps := List.toArray (.pointer (some ⟨b, 0, none⟩) :: .func (.func f) #[] #[.pointer (some ⟨p1, 0, none⟩), .pointer (some ⟨p2, 0, none⟩)] :: s2 :: s3 :: s4 :: .pointer (some ⟨b5, 0, none⟩) :: .int .i64 i :: .int .i64 k :: s8 :: s9 :: s10 :: s11 :: s12 :: s13 :: s14 :: s15 :: s16 :: s17 :: s18 :: s19 :: s20 :: s21 :: s22 :: s23 :: s24 :: s25 :: s26 :: s27 :: s28 :: s29 :: s30 :: s31 :: s32 :: s33 :: s34 :: s35 :: s36 :: s37 :: s38 :: s39 :: s40 :: s41 :: s42 :: s43 :: s44 :: s45 :: s46 :: s47 :: s48 :: s49 :: s50 :: []), defers := dd } W1 := by
  have HQ := Lib.hid hQ
  clear hQ
  conv => arg 4; whnf
  refine wpIn_region_invG mixed (by kernel_rfl) (fun d_ a_ w' => ∃ (x29 : Value) (x30 : Value) (x31 : Value) (x32 : Value) (x33 : Value) (x34 : Value) (x35 : Value) (x36 : Value) (x37 : Value) (x38 : Value) (x39 : Value) (x40 : Value) (x41 : Value) (x42 : Value) (x43 : Value) (x44 : Value) (x45 : Value) (x46 : Value) (x47 : Value) (x48 : Value), a_ = { tmps := List.toArray (.pointer (some ⟨b, 0, none⟩) :: .func (.func f) #[] #[.pointer (some ⟨p1, 0, none⟩), .pointer (some ⟨p2, 0, none⟩)] :: s2 :: s3 :: s4 :: .pointer (some ⟨b5, 0, none⟩) :: .int .i64 i :: .int .i64 k :: s8 :: s9 :: s10 :: s11 :: s12 :: s13 :: s14 :: s15 :: s16 :: s17 :: s18 :: s19 :: s20 :: s21 :: s22 :: s23 :: s24 :: s25 :: s26 :: s27 :: s28 :: x29 :: x30 :: x31 :: x32 :: x33 :: x34 :: x35 :: x36 :: x37 :: x38 :: x39 :: x40 :: x41 :: x42 :: x43 :: x44 :: x45 :: x46 :: x47 :: x48 :: s49 :: s50 :: []), defers := dd } ∧ wit8nF b b5 i k f p1 p2 S0 S1 d_ x29 x30 x31 x32 x33 x34 x35 x36 x37 x38 x39 x40 x41 x42 x43 x44 x45 x46 x47 x48 w') ?_ ?_ ?_
  · refine ⟨s29, s30, s31, s32, s33, s34, s35, s36, s37, s38, s39, s40, s41, s42, s43, s44, s45, s46, s47, s48, rfl, ?_⟩
    constructor <;> first | rfl | (intro _; rfl) | (intro h; cases h; done) | (intro _; exact h0) | exact h0
  · refine ⟨?_, ?_, ?_, ?_, ?_, ?_, ?_, ?_, ?_, ?_, ?_, ?_, ?_, ?_, ?_, ?_, ?_, ?_, ?_, ?_, ?_, trivial⟩
    all_goals
      rintro d_ a_ w1 K hd_ hdep ⟨x29, x30, x31, x32, x33, x34, x35, x36, x37, x38, x39, x40, x41, x42, x43, x44, x45, x46, x47, x48, rfl, F⟩ HK
      simp [Region.binds] at hdep
    · have HF : Hid (wit8nF b b5 i k f p1 p2 S0 S1 (upd d_ 0) (.int .i64 i) x30 x31 x32 x33 x34 x35 x36 x37 x38 x39 x40 x41 x42 x43 x44 x45 x46 x47 x48 w1) := ⟨F.q5, F.q6, F.q7, F.q8, F.q9, F.q10, F.q11, F.q12, F.q13, F.q14, F.q15, F.q16, fun h => ⟨rfl, (F.q18 h).2⟩, fun h => ⟨rfl, (F.q19 h).2.1, (F.q19 h).2.2.1, (F.q19 h).2.2.2.1, (F.q19 h).2.2.2.2.1, (F.q19 h).2.2.2.2.2.1, (F.q19 h).2.2.2.2.2.2.1, (F.q19 h).2.2.2.2.2.2.2.1, (F.q19 h).2.2.2.2.2.2.2.2.1, (F.q19 h).2.2.2.2.2.2.2.2.2.1, (F.q19 h).2.2.2.2.2.2.2.2.2.2.1, (F.q19 h).2.2.2.2.2.2.2.2.2.2.2.1, (F.q19 h).2.2.2.2.2.2.2.2.2.2.2.2.1, (F.q19 h).2.2.2.2.2.2.2.2.2.2.2.2.2.1, (F.q19 h).2.2.2.2.2.2.2.2.2.2.2.2.2.2.1, (F.q19 h).2.2.2.2.2.2.2.2.2.2.2.2.2.2.2.1, (F.q19 h).2.2.2.2.2.2.2.2.2.2.2.2.2.2.2.2.1, (F.q19 h).2.2.2.2.2.2.2.2.2.2.2.2.2.2.2.2.2⟩, fun h => ⟨rfl, (F.q20 h).2.1, (F.q20 h).2.2.1, (F.q20 h).2.2.2.1, (F.q20 h).2.2.2.2.1, (F.q20 h).2.2.2.2.2.1, (F.q20 h).2.2.2.2.2.2.1, (F.q20 h).2.2.2.2.2.2.2.1, (F.q20 h).2.2.2.2.2.2.2.2.1, (F.q20 h).2.2.2.2.2.2.2.2.2.1, (F.q20 h).2.2.2.2.2.2.2.2.2.2.1, (F.q20 h).2.2.2.2.2.2.2.2.2.2.2.1, (F.q20 h).2.2.2.2.2.2.2.2.2.2.2.2.1, (F.q20 h).2.2.2.2.2.2.2.2.2.2.2.2.2.1, (F.q20 h).2.2.2.2.2.2.2.2.2.2.2.2.2.2.1, (F.q20 h).2.2.2.2.2.2.2.2.2.2.2.2.2.2.2.1, (F.q20 h).2.2.2.2.2.2.2.2.2.2.2.2.2.2.2.2.1, (F.q20 h).2.2.2.2.2.2.2.2.2.2.2.2.2.2.2.2.2⟩, fun _ => rfl, F.f1, F.f2, F.f3, F.f4, F.f5, F.f6, F.f7, F.f8, F.f9, F.f10, F.f11, F.f12, F.f13, F.f14, F.f15, F.f16, F.f17, F.f18, F.f19, F.st0, F.st1⟩
      clear F
      go_simp
      exact HK.out _ _ ⟨_, _, _, _, _, _, _, _, _, _, _, _, _, _, _, _, _, _, _, _, rfl, HF.out⟩
    · have HF : Hid (wit8nF b b5 i k f p1 p2 S0 S1 (upd d_ 1) x29 (.int .i64 k) x31 x32 x33 x34 x35 x36 x37 x38 x39 x40 x41 x42 x43 x44 x45 x46 x47 x48 w1) := ⟨F.q5, F.q6, F.q7, F.q8, F.q9, F.q10, F.q11, F.q12, F.q13, F.q14, F.q15, F.q16, F.q18, fun h => ⟨(F.q19 h).1, rfl, (F.q19 h).2.2.1, (F.q19 h).2.2.2.1, (F.q19 h).2.2.2.2.1, (F.q19 h).2.2.2.2.2.1, (F.q19 h).2.2.2.2.2.2.1, (F.q19 h).2.2.2.2.2.2.2.1, (F.q19 h).2.2.2.2.2.2.2.2.1, (F.q19 h).2.2.2.2.2.2.2.2.2.1, (F.q19 h).2.2.2.2.2.2.2.2.2.2.1, (F.q19 h).2.2.2.2.2.2.2.2.2.2.2.1, (F.q19 h).2.2.2.2.2.2.2.2.2.2.2.2.1, (F.q19 h).2.2.2.2.2.2.2.2.2.2.2.2.2.1, (F.q19 h).2.2.2.2.2.2.2.2.2.2.2.2.2.2.1, (F.q19 h).2.2.2.2.2.2.2.2.2.2.2.2.2.2.2.1, (F.q19 h).2.2.2.2.2.2.2.2.2.2.2.2.2.2.2.2.1, (F.q19 h).2.2.2.2.2.2.2.2.2.2.2.2.2.2.2.2.2⟩, fun h => ⟨(F.q20 h).1, rfl, (F.q20 h).2.2.1, (F.q20 h).2.2.2.1, (F.q20 h).2.2.2.2.1, (F.q20 h).2.2.2.2.2.1, (F.q20 h).2.2.2.2.2.2.1, (F.q20 h).2.2.2.2.2.2.2.1, (F.q20 h).2.2.2.2.2.2.2.2.1, (F.q20 h).2.2.2.2.2.2.2.2.2.1, (F.q20 h).2.2.2.2.2.2.2.2.2.2.1, (F.q20 h).2.2.2.2.2.2.2.2.2.2.2.1, (F.q20 h).2.2.2.2.2.2.2.2.2.2.2.2.1, (F.q20 h).2.2.2.2.2.2.2.2.2.2.2.2.2.1, (F.q20 h).2.2.2.2.2.2.2.2.2.2.2.2.2.2.1, (F.q20 h).2.2.2.2.2.2.2.2.2.2.2.2.2.2.2.1, (F.q20 h).2.2.2.2.2.2.2.2.2.2.2.2.2.2.2.2.1, (F.q20 h).2.2.2.2.2.2.2.2.2.2.2.2.2.2.2.2.2⟩, F.f0, fun _ => rfl, F.f2, F.f3, F.f4, F.f5, F.f6, F.f7, F.f8, F.f9, F.f10, F.f11, F.f12, F.f13, F.f14, F.f15, F.f16, F.f17, F.f18, F.f19, F.st0, F.st1⟩
      clear F
      go_simp
      exact HK.out _ _ ⟨_, _, _, _, _, _, _, _, _, _, _, _, _, _, _, _, _, _, _, _, rfl, HF.out⟩
    · have HF : Hid (wit8nF b b5 i k f p1 p2 S0 S1 (upd d_ 2) x29 x30 (.pointer (some ⟨b, 0, none⟩)) x32 x33 x34 x35 x36 x37 x38 x39 x40 x41 x42 x43 x44 x45 x46 x47 x48 w1) := ⟨fun h => rfl, F.q6, F.q7, F.q8, F.q9, F.q10, F.q11, F.q12, F.q13, F.q14, F.q15, F.q16, F.q18, fun h => ⟨(F.q19 h).1, (F.q19 h).2.1, rfl, (F.q19 h).2.2.2.1, (F.q19 h).2.2.2.2.1, (F.q19 h).2.2.2.2.2.1, (F.q19 h).2.2.2.2.2.2.1, (F.q19 h).2.2.2.2.2.2.2.1, (F.q19 h).2.2.2.2.2.2.2.2.1, (F.q19 h).2.2.2.2.2.2.2.2.2.1, (F.q19 h).2.2.2.2.2.2.2.2.2.2.1, (F.q19 h).2.2.2.2.2.2.2.2.2.2.2.1, (F.q19 h).2.2.2.2.2.2.2.2.2.2.2.2.1, (F.q19 h).2.2.2.2.2.2.2.2.2.2.2.2.2.1, (F.q19 h).2.2.2.2.2.2.2.2.2.2.2.2.2.2.1, (F.q19 h).2.2.2.2.2.2.2.2.2.2.2.2.2.2.2.1, (F.q19 h).2.2.2.2.2.2.2.2.2.2.2.2.2.2.2.2.1, (F.q19 h).2.2.2.2.2.2.2.2.2.2.2.2.2.2.2.2.2⟩, fun h => ⟨(F.q20 h).1, (F.q20 h).2.1, rfl, (F.q20 h).2.2.2.1, (F.q20 h).2.2.2.2.1, (F.q20 h).2.2.2.2.2.1, (F.q20 h).2.2.2.2.2.2.1, (F.q20 h).2.2.2.2.2.2.2.1, (F.q20 h).2.2.2.2.2.2.2.2.1, (F.q20 h).2.2.2.2.2.2.2.2.2.1, (F.q20 h).2.2.2.2.2.2.2.2.2.2.1, (F.q20 h).2.2.2.2.2.2.2.2.2.2.2.1, (F.q20 h).2.2.2.2.2.2.2.2.2.2.2.2.1, (F.q20 h).2.2.2.2.2.2.2.2.2.2.2.2.2.1, (F.q20 h).2.2.2.2.2.2.2.2.2.2.2.2.2.2.1, (F.q20 h).2.2.2.2.2.2.2.2.2.2.2.2.2.2.2.1, (F.q20 h).2.2.2.2.2.2.2.2.2.2.2.2.2.2.2.2.1, (F.q20 h).2.2.2.2.2.2.2.2.2.2.2.2.2.2.2.2.2⟩, F.f0, F.f1, fun _ => rfl, F.f3, F.f4, F.f5, F.f6, F.f7, F.f8, F.f9, F.f10, F.f11, F.f12, F.f13, F.f14, F.f15, F.f16, F.f17, F.f18, F.f19, F.st0, F.st1⟩
      clear F
      go_simp
      exact HK.out _ _ ⟨_, _, _, _, _, _, _, _, _, _, _, _, _, _, _, _, _, _, _, _, rfl, HF.out⟩
    · have HF : Hid (wit8nF b b5 i k f p1 p2 S0 S1 (upd d_ 3) x29 x30 x31 (.int .i64 i) x33 x34 x35 x36 x37 x38 x39 x40 x41 x42 x43 x44 x45 x46 x47 x48 w1) := ⟨F.q5, F.q6, fun h => ⟨rfl, (F.q7 h).2⟩, F.q8, F.q9, F.q10, F.q11, F.q12, F.q13, F.q14, F.q15, F.q16, F.q18, fun h => ⟨(F.q19 h).1, (F.q19 h).2.1, (F.q19 h).2.2.1, rfl, (F.q19 h).2.2.2.2.1, (F.q19 h).2.2.2.2.2.1, (F.q19 h).2.2.2.2.2.2.1, (F.q19 h).2.2.2.2.2.2.2.1, (F.q19 h).2.2.2.2.2.2.2.2.1, (F.q19 h).2.2.2.2.2.2.2.2.2.1, (F.q19 h).2.2.2.2.2.2.2.2.2.2.1, (F.q19 h).2.2.2.2.2.2.2.2.2.2.2.1, (F.q19 h).2.2.2.2.2.2.2.2.2.2.2.2.1, (F.q19 h).2.2.2.2.2.2.2.2.2.2.2.2.2.1, (F.q19 h).2.2.2.2.2.2.2.2.2.2.2.2.2.2.1, (F.q19 h).2.2.2.2.2.2.2.2.2.2.2.2.2.2.2.1, (F.q19 h).2.2.2.2.2.2.2.2.2.2.2.2.2.2.2.2.1, (F.q19 h).2.2.2.2.2.2.2.2.2.2.2.2.2.2.2.2.2⟩, fun h => ⟨(F.q20 h).1, (F.q20 h).2.1, (F.q20 h).2.2.1, rfl, (F.q20 h).2.2.2.2.1, (F.q20 h).2.2.2.2.2.1, (F.q20 h).2.2.2.2.2.2.1, (F.q20 h).2.2.2.2.2.2.2.1, (F.q20 h).2.2.2.2.2.2.2.2.1, (F.q20 h).2.2.2.2.2.2.2.2.2.1, (F.q20 h).2.2.2.2.2.2.2.2.2.2.1, (F.q20 h).2.2.2.2.2.2.2.2.2.2.2.1, (F.q20 h).2.2.2.2.2.2.2.2.2.2.2.2.1, (F.q20 h).2.2.2.2.2.2.2.2.2.2.2.2.2.1, (F.q20 h).2.2.2.2.2.2.2.2.2.2.2.2.2.2.1, (F.q20 h).2.2.2.2.2.2.2.2.2.2.2.2.2.2.2.1, (F.q20 h).2.2.2.2.2.2.2.2.2.2.2.2.2.2.2.2.1, (F.q20 h).2.2.2.2.2.2.2.2.2.2.2.2.2.2.2.2.2⟩, F.f0, F.f1, F.f2, fun _ => rfl, F.f4, F.f5, F.f6, F.f7, F.f8, F.f9, F.f10, F.f11, F.f12, F.f13, F.f14, F.f15, F.f16, F.f17, F.f18, F.f19, F.st0, F.st1⟩
      clear F
      go_simp
      exact HK.out _ _ ⟨_, _, _, _, _, _, _, _, _, _, _, _, _, _, _, _, _, _, _, _, rfl, HF.out⟩
    · have HF : Hid (wit8nF b b5 i k f p1 p2 S0 S1 (upd d_ 4) x29 x30 x31 x32 (.int .i64 k) x34 x35 x36 x37 x38 x39 x40 x41 x42 x43 x44 x45 x46 x47 x48 w1) := ⟨F.q5, F.q6, F.q7, fun h => ⟨rfl, (F.q8 h).2⟩, F.q9, F.q10, F.q11, F.q12, F.q13, F.q14, F.q15, F.q16, F.q18, fun h => ⟨(F.q19 h).1, (F.q19 h).2.1, (F.q19 h).2.2.1, (F.q19 h).2.2.2.1, rfl, (F.q19 h).2.2.2.2.2.1, (F.q19 h).2.2.2.2.2.2.1, (F.q19 h).2.2.2.2.2.2.2.1, (F.q19 h).2.2.2.2.2.2.2.2.1, (F.q19 h).2.2.2.2.2.2.2.2.2.1, (F.q19 h).2.2.2.2.2.2.2.2.2.2.1, (F.q19 h).2.2.2.2.2.2.2.2.2.2.2.1, (F.q19 h).2.2.2.2.2.2.2.2.2.2.2.2.1, (F.q19 h).2.2.2.2.2.2.2.2.2.2.2.2.2.1, (F.q19 h).2.2.2.2.2.2.2.2.2.2.2.2.2.2.1, (F.q19 h).2.2.2.2.2.2.2.2.2.2.2.2.2.2.2.1, (F.q19 h).2.2.2.2.2.2.2.2.2.2.2.2.2.2.2.2.1, (F.q19 h).2.2.2.2.2.2.2.2.2.2.2.2.2.2.2.2.2⟩, fun h => ⟨(F.q20 h).1, (F.q20 h).2.1, (F.q20 h).2.2.1, (F.q20 h).2.2.2.1, rfl, (F.q20 h).2.2.2.2.2.1, (F.q20 h).2.2.2.2.2.2.1, (F.q20 h).2.2.2.2.2.2.2.1, (F.q20 h).2.2.2.2.2.2.2.2.1, (F.q20 h).2.2.2.2.2.2.2.2.2.1, (F.q20 h).2.2.2.2.2.2.2.2.2.2.1, (F.q20 h).2.2.2.2.2.2.2.2.2.2.2.1, (F.q20 h).2.2.2.2.2.2.2.2.2.2.2.2.1, (F.q20 h).2.2.2.2.2.2.2.2.2.2.2.2.2.1, (F.q20 h).2.2.2.2.2.2.2.2.2.2.2.2.2.2.1, (F.q20 h).2.2.2.2.2.2.2.2.2.2.2.2.2.2.2.1, (F.q20 h).2.2.2.2.2.2.2.2.2.2.2.2.2.2.2.2.1, (F.q20 h).2.2.2.2.2.2.2.2.2.2.2.2.2.2.2.2.2⟩, F.f0, F.f1, F.f2, F.f3, fun _ => rfl, F.f5, F.f6, F.f7, F.f8, F.f9, F.f10, F.f11, F.f12, F.f13, F.f14, F.f15, F.f16, F.f17, F.f18, F.f19, F.st0, F.st1⟩
      clear F
      go_simp
      exact HK.out _ _ ⟨_, _, _, _, _, _, _, _, _, _, _, _, _, _, _, _, _, _, _, _, rfl, HF.out⟩
    · obtain rfl := F.f2 (by simp [hdep])
      have HF : Hid (wit8nF b b5 i k f p1 p2 S0 S1 (upd d_ 5) x29 x30 (.pointer (some ⟨b, 0, none⟩)) x32 x33 (.pointer (some ⟨b, 0, none⟩)) x35 x36 x37 x38 x39 x40 x41 x42 x43 x44 x45 x46 x47 x48 w1) := ⟨fun _ => (show _ from (by simp [hdep] : d_ 2 = true)), fun h => rfl, F.q7, F.q8, F.q9, F.q10, F.q11, F.q12, F.q13, F.q14, F.q15, F.q16, F.q18, fun h => ⟨(F.q19 h).1, (F.q19 h).2.1, (F.q19 h).2.2.1, (F.q19 h).2.2.2.1, (F.q19 h).2.2.2.2.1, rfl, (F.q19 h).2.2.2.2.2.2.1, (F.q19 h).2.2.2.2.2.2.2.1, (F.q19 h).2.2.2.2.2.2.2.2.1, (F.q19 h).2.2.2.2.2.2.2.2.2.1, (F.q19 h).2.2.2.2.2.2.2.2.2.2.1, (F.q19 h).2.2.2.2.2.2.2.2.2.2.2.1, (F.q19 h).2.2.2.2.2.2.2.2.2.2.2.2.1, (F.q19 h).2.2.2.2.2.2.2.2.2.2.2.2.2.1, (F.q19 h).2.2.2.2.2.2.2.2.2.2.2.2.2.2.1, (F.q19 h).2.2.2.2.2.2.2.2.2.2.2.2.2.2.2.1, (F.q19 h).2.2.2.2.2.2.2.2.2.2.2.2.2.2.2.2.1, (F.q19 h).2.2.2.2.2.2.2.2.2.2.2.2.2.2.2.2.2⟩, fun h => ⟨(F.q20 h).1, (F.q20 h).2.1, (F.q20 h).2.2.1, (F.q20 h).2.2.2.1, (F.q20 h).2.2.2.2.1, rfl, (F.q20 h).2.2.2.2.2.2.1, (F.q20 h).2.2.2.2.2.2.2.1, (F.q20 h).2.2.2.2.2.2.2.2.1, (F.q20 h).2.2.2.2.2.2.2.2.2.1, (F.q20 h).2.2.2.2.2.2.2.2.2.2.1, (F.q20 h).2.2.2.2.2.2.2.2.2.2.2.1, (F.q20 h).2.2.2.2.2.2.2.2.2.2.2.2.1, (F.q20 h).2.2.2.2.2.2.2.2.2.2.2.2.2.1, (F.q20 h).2.2.2.2.2.2.2.2.2.2.2.2.2.2.1, (F.q20 h).2.2.2.2.2.2.2.2.2.2.2.2.2.2.2.1, (F.q20 h).2.2.2.2.2.2.2.2.2.2.2.2.2.2.2.2.1, (F.q20 h).2.2.2.2.2.2.2.2.2.2.2.2.2.2.2.2.2⟩, F.f0, F.f1, F.f2, F.f3, F.f4, fun _ => rfl, F.f6, F.f7, F.f8, F.f9, F.f10, F.f11, F.f12, F.f13, F.f14, F.f15, F.f16, F.f17, F.f18, F.f19, F.st0, F.st1⟩
      clear F
      go_simp
      exact HK.out _ _ ⟨_, _, _, _, _, _, _, _, _, _, _, _, _, _, _, _, _, _, _, _, rfl, HF.out⟩
    · obtain rfl := F.f5 (by simp [hdep])
      have HF : Hid (wit8nF b b5 i k f p1 p2 S0 S1 (upd d_ 6) x29 x30 x31 x32 x33 (.pointer (some ⟨b, 0, none⟩)) (.pointer (some ⟨b, 5, none⟩)) x36 x37 x38 x39 x40 x41 x42 x43 x44 x45 x46 x47 x48 w1) := ⟨F.q5, fun _ => (show _ from (by simp [hdep] : d_ 5 = true)), fun h => ⟨(F.q7 h).1, rfl⟩, F.q8, F.q9, F.q10, F.q11, F.q12, F.q13, F.q14, F.q15, F.q16, F.q18, fun h => ⟨(F.q19 h).1, (F.q19 h).2.1, (F.q19 h).2.2.1, (F.q19 h).2.2.2.1, (F.q19 h).2.2.2.2.1, (F.q19 h).2.2.2.2.2.1, rfl, (F.q19 h).2.2.2.2.2.2.2.1, (F.q19 h).2.2.2.2.2.2.2.2.1, (F.q19 h).2.2.2.2.2.2.2.2.2.1, (F.q19 h).2.2.2.2.2.2.2.2.2.2.1, (F.q19 h).2.2.2.2.2.2.2.2.2.2.2.1, (F.q19 h).2.2.2.2.2.2.2.2.2.2.2.2.1, (F.q19 h).2.2.2.2.2.2.2.2.2.2.2.2.2.1, (F.q19 h).2.2.2.2.2.2.2.2.2.2.2.2.2.2.1, (F.q19 h).2.2.2.2.2.2.2.2.2.2.2.2.2.2.2.1, (F.q19 h).2.2.2.2.2.2.2.2.2.2.2.2.2.2.2.2.1, (F.q19 h).2.2.2.2.2.2.2.2.2.2.2.2.2.2.2.2.2⟩, fun h => ⟨(F.q20 h).1, (F.q20 h).2.1, (F.q20 h).2.2.1, (F.q20 h).2.2.2.1, (F.q20 h).2.2.2.2.1, (F.q20 h).2.2.2.2.2.1, rfl, (F.q20 h).2.2.2.2.2.2.2.1, (F.q20 h).2.2.2.2.2.2.2.2.1, (F.q20 h).2.2.2.2.2.2.2.2.2.1, (F.q20 h).2.2.2.2.2.2.2.2.2.2.1, (F.q20 h).2.2.2.2.2.2.2.2.2.2.2.1, (F.q20 h).2.2.2.2.2.2.2.2.2.2.2.2.1, (F.q20 h).2.2.2.2.2.2.2.2.2.2.2.2.2.1, (F.q20 h).2.2.2.2.2.2.2.2.2.2.2.2.2.2.1, (F.q20 h).2.2.2.2.2.2.2.2.2.2.2.2.2.2.2.1, (F.q20 h).2.2.2.2.2.2.2.2.2.2.2.2.2.2.2.2.1, (F.q20 h).2.2.2.2.2.2.2.2.2.2.2.2.2.2.2.2.2⟩, F.f0, F.f1, F.f2, F.f3, F.f4, F.f5, fun _ => rfl, F.f7, F.f8, F.f9, F.f10, F.f11, F.f12, F.f13, F.f14, F.f15, F.f16, F.f17, F.f18, F.f19, F.st0, F.st1⟩
      clear F
      go_simp
      exact HK.out _ _ ⟨_, _, _, _, _, _, _, _, _, _, _, _, _, _, _, _, _, _, _, _, rfl, HF.out⟩
    · obtain rfl := F.f3 (by simp [hdep])
      obtain rfl := F.f6 (by simp [hdep])
      have HF : Hid (wit8nF b b5 i k f p1 p2 S0 S1 (upd d_ 7) x29 x30 x31 (.int .i64 i) x33 x34 (.pointer (some ⟨b, 5, none⟩)) (.pointer (some ⟨b, 5 + i * 10, none⟩)) x37 x38 x39 x40 x41 x42 x43 x44 x45 x46 x47 x48 w1) := ⟨F.q5, F.q6, fun _ => ⟨(show _ from (by simp [hdep] : d_ 3 = true)), (show _ from (by simp [hdep] : d_ 6 = true))⟩, fun h => ⟨(F.q8 h).1, rfl⟩, F.q9, F.q10, F.q11, F.q12, F.q13, F.q14, F.q15, F.q16, F.q18, fun h => ⟨(F.q19 h).1, (F.q19 h).2.1, (F.q19 h).2.2.1, (F.q19 h).2.2.2.1, (F.q19 h).2.2.2.2.1, (F.q19 h).2.2.2.2.2.1, (F.q19 h).2.2.2.2.2.2.1, rfl, (F.q19 h).2.2.2.2.2.2.2.2.1, (F.q19 h).2.2.2.2.2.2.2.2.2.1, (F.q19 h).2.2.2.2.2.2.2.2.2.2.1, (F.q19 h).2.2.2.2.2.2.2.2.2.2.2.1, (F.q19 h).2.2.2.2.2.2.2.2.2.2.2.2.1, (F.q19 h).2.2.2.2.2.2.2.2.2.2.2.2.2.1, (F.q19 h).2.2.2.2.2.2.2.2.2.2.2.2.2.2.1, (F.q19 h).2.2.2.2.2.2.2.2.2.2.2.2.2.2.2.1, (F.q19 h).2.2.2.2.2.2.2.2.2.2.2.2.2.2.2.2.1, (F.q19 h).2.2.2.2.2.2.2.2.2.2.2.2.2.2.2.2.2⟩, fun h => ⟨(F.q20 h).1, (F.q20 h).2.1, (F.q20 h).2.2.1, (F.q20 h).2.2.2.1, (F.q20 h).2.2.2.2.1, (F.q20 h).2.2.2.2.2.1, (F.q20 h).2.2.2.2.2.2.1, rfl, (F.q20 h).2.2.2.2.2.2.2.2.1, (F.q20 h).2.2.2.2.2.2.2.2.2.1, (F.q20 h).2.2.2.2.2.2.2.2.2.2.1, (F.q20 h).2.2.2.2.2.2.2.2.2.2.2.1, (F.q20 h).2.2.2.2.2.2.2.2.2.2.2.2.1, (F.q20 h).2.2.2.2.2.2.2.2.2.2.2.2.2.1, (F.q20 h).2.2.2.2.2.2.2.2.2.2.2.2.2.2.1, (F.q20 h).2.2.2.2.2.2.2.2.2.2.2.2.2.2.2.1, (F.q20 h).2.2.2.2.2.2.2.2.2.2.2.2.2.2.2.2.1, (F.q20 h).2.2.2.2.2.2.2.2.2.2.2.2.2.2.2.2.2⟩, F.f0, F.f1, F.f2, F.f3, F.f4, F.f5, F.f6, fun _ => rfl, F.f8, F.f9, F.f10, F.f11, F.f12, F.f13, F.f14, F.f15, F.f16, F.f17, F.f18, F.f19, F.st0, F.st1⟩
      clear F
      go_simp
      exact HK.out _ _ ⟨_, _, _, _, _, _, _, _, _, _, _, _, _, _, _, _, _, _, _, _, rfl, HF.out⟩
    · obtain rfl := F.f4 (by simp [hdep])
      obtain rfl := F.f7 (by simp [hdep])
      have HF : Hid (wit8nF b b5 i k f p1 p2 S0 S1 (upd d_ 8) x29 x30 x31 x32 (.int .i64 k) x34 x35 (.pointer (some ⟨b, 5 + i * 10, none⟩)) (.pointer (some ⟨b, 5 + i * 10 + k, none⟩)) x38 x39 x40 x41 x42 x43 x44 x45 x46 x47 x48 w1) := ⟨F.q5, F.q6, F.q7, fun _ => ⟨(show _ from (by simp [hdep] : d_ 4 = true)), (show _ from (by simp [hdep] : d_ 7 = true))⟩, fun h => rfl, F.q10, F.q11, F.q12, F.q13, F.q14, F.q15, F.q16, F.q18, fun h => ⟨(F.q19 h).1, (F.q19 h).2.1, (F.q19 h).2.2.1, (F.q19 h).2.2.2.1, (F.q19 h).2.2.2.2.1, (F.q19 h).2.2.2.2.2.1, (F.q19 h).2.2.2.2.2.2.1, (F.q19 h).2.2.2.2.2.2.2.1, rfl, (F.q19 h).2.2.2.2.2.2.2.2.2.1, (F.q19 h).2.2.2.2.2.2.2.2.2.2.1, (F.q19 h).2.2.2.2.2.2.2.2.2.2.2.1, (F.q19 h).2.2.2.2.2.2.2.2.2.2.2.2.1, (F.q19 h).2.2.2.2.2.2.2.2.2.2.2.2.2.1, (F.q19 h).2.2.2.2.2.2.2.2.2.2.2.2.2.2.1, (F.q19 h).2.2.2.2.2.2.2.2.2.2.2.2.2.2.2.1, (F.q19 h).2.2.2.2.2.2.2.2.2.2.2.2.2.2.2.2.1, (F.q19 h).2.2.2.2.2.2.2.2.2.2.2.2.2.2.2.2.2⟩, fun h => ⟨(F.q20 h).1, (F.q20 h).2.1, (F.q20 h).2.2.1, (F.q20 h).2.2.2.1, (F.q20 h).2.2.2.2.1, (F.q20 h).2.2.2.2.2.1, (F.q20 h).2.2.2.2.2.2.1, (F.q20 h).2.2.2.2.2.2.2.1, rfl, (F.q20 h).2.2.2.2.2.2.2.2.2.1, (F.q20 h).2.2.2.2.2.2.2.2.2.2.1, (F.q20 h).2.2.2.2.2.2.2.2.2.2.2.1, (F.q20 h).2.2.2.2.2.2.2.2.2.2.2.2.1, (F.q20 h).2.2.2.2.2.2.2.2.2.2.2.2.2.1, (F.q20 h).2.2.2.2.2.2.2.2.2.2.2.2.2.2.1, (F.q20 h).2.2.2.2.2.2.2.2.2.2.2.2.2.2.2.1, (F.q20 h).2.2.2.2.2.2.2.2.2.2.2.2.2.2.2.2.1, (F.q20 h).2.2.2.2.2.2.2.2.2.2.2.2.2.2.2.2.2⟩, F.f0, F.f1, F.f2, F.f3, F.f4, F.f5, F.f6, F.f7, fun _ => rfl, F.f9, F.f10, F.f11, F.f12, F.f13, F.f14, F.f15, F.f16, F.f17, F.f18, F.f19, F.st0, F.st1⟩
      clear F
      go_simp
      exact HK.out _ _ ⟨_, _, _, _, _, _, _, _, _, _, _, _, _, _, _, _, _, _, _, _, rfl, HF.out⟩
    · have hst : S0 w1 := by
        have n_ : d_ 20 = false := by
          cases e_ : d_ 20 with
          | false => rfl
          | true => have h2 := (F.q20 e_).2.2.2.2.2.2.2.2.2.1; rw [show d_ 9 = false from hd_] at h2; cases h2
        exact (F.st0 n_)
      have kk := kl9.out w1 hst
      clear hst
      obtain rfl := F.f8 (by simp [hdep])
      have HF : Hid (wit8nF b b5 i k f p1 p2 S0 S1 (upd d_ 9) x29 x30 x31 x32 x33 x34 x35 x36 (.pointer (some ⟨b, 5 + i * 10 + k, none⟩)) (.bool false) x39 x40 x41 x42 x43 x44 x45 x46 x47 x48 w1) := ⟨F.q5, F.q6, F.q7, F.q8, fun _ => (show _ from (by simp [hdep] : d_ 8 = true)), fun h => rfl, F.q11, F.q12, F.q13, F.q14, F.q15, F.q16, F.q18, fun h => ⟨(F.q19 h).1, (F.q19 h).2.1, (F.q19 h).2.2.1, (F.q19 h).2.2.2.1, (F.q19 h).2.2.2.2.1, (F.q19 h).2.2.2.2.2.1, (F.q19 h).2.2.2.2.2.2.1, (F.q19 h).2.2.2.2.2.2.2.1, (F.q19 h).2.2.2.2.2.2.2.2.1, rfl, (F.q19 h).2.2.2.2.2.2.2.2.2.2.1, (F.q19 h).2.2.2.2.2.2.2.2.2.2.2.1, (F.q19 h).2.2.2.2.2.2.2.2.2.2.2.2.1, (F.q19 h).2.2.2.2.2.2.2.2.2.2.2.2.2.1, (F.q19 h).2.2.2.2.2.2.2.2.2.2.2.2.2.2.1, (F.q19 h).2.2.2.2.2.2.2.2.2.2.2.2.2.2.2.1, (F.q19 h).2.2.2.2.2.2.2.2.2.2.2.2.2.2.2.2.1, (F.q19 h).2.2.2.2.2.2.2.2.2.2.2.2.2.2.2.2.2⟩, fun h => ⟨(F.q20 h).1, (F.q20 h).2.1, (F.q20 h).2.2.1, (F.q20 h).2.2.2.1, (F.q20 h).2.2.2.2.1, (F.q20 h).2.2.2.2.2.1, (F.q20 h).2.2.2.2.2.2.1, (F.q20 h).2.2.2.2.2.2.2.1, (F.q20 h).2.2.2.2.2.2.2.2.1, rfl, (F.q20 h).2.2.2.2.2.2.2.2.2.2.1, (F.q20 h).2.2.2.2.2.2.2.2.2.2.2.1, (F.q20 h).2.2.2.2.2.2.2.2.2.2.2.2.1, (F.q20 h).2.2.2.2.2.2.2.2.2.2.2.2.2.1, (F.q20 h).2.2.2.2.2.2.2.2.2.2.2.2.2.2.1, (F.q20 h).2.2.2.2.2.2.2.2.2.2.2.2.2.2.2.1, (F.q20 h).2.2.2.2.2.2.2.2.2.2.2.2.2.2.2.2.1, (F.q20 h).2.2.2.2.2.2.2.2.2.2.2.2.2.2.2.2.2⟩, F.f0, F.f1, F.f2, F.f3, F.f4, F.f5, F.f6, F.f7, F.f8, fun _ => rfl, F.f10, F.f11, F.f12, F.f13, F.f14, F.f15, F.f16, F.f17, F.f18, F.f19, F.st0, F.st1⟩
      clear F
      go_simp
      exact HK.out _ _ ⟨_, _, _, _, _, _, _, _, _, _, _, _, _, _, _, _, _, _, _, _, rfl, HF.out⟩
    · obtain rfl := F.f9 (by simp [hdep])
      have HF : Hid (wit8nF b b5 i k f p1 p2 S0 S1 (upd d_ 10) x29 x30 x31 x32 x33 x34 x35 x36 x37 (.bool false) (.bool false) x40 x41 x42 x43 x44 x45 x46 x47 x48 w1) := ⟨F.q5, F.q6, F.q7, F.q8, F.q9, fun _ => (show _ from (by simp [hdep] : d_ 9 = true)), fun h => rfl, fun h => rfl, fun h => rfl, fun h => ⟨rfl, (F.q14 h).2.1, (F.q14 h).2.2.1, (F.q14 h).2.2.2⟩, fun h => ⟨rfl, (F.q15 h).2⟩, fun h => ⟨rfl, (F.q16 h).2⟩, F.q18, fun h => ⟨(F.q19 h).1, (F.q19 h).2.1, (F.q19 h).2.2.1, (F.q19 h).2.2.2.1, (F.q19 h).2.2.2.2.1, (F.q19 h).2.2.2.2.2.1, (F.q19 h).2.2.2.2.2.2.1, (F.q19 h).2.2.2.2.2.2.2.1, (F.q19 h).2.2.2.2.2.2.2.2.1, (F.q19 h).2.2.2.2.2.2.2.2.2.1, rfl, (F.q19 h).2.2.2.2.2.2.2.2.2.2.2.1, (F.q19 h).2.2.2.2.2.2.2.2.2.2.2.2.1, (F.q19 h).2.2.2.2.2.2.2.2.2.2.2.2.2.1, (F.q19 h).2.2.2.2.2.2.2.2.2.2.2.2.2.2.1, (F.q19 h).2.2.2.2.2.2.2.2.2.2.2.2.2.2.2.1, (F.q19 h).2.2.2.2.2.2.2.2.2.2.2.2.2.2.2.2.1, (F.q19 h).2.2.2.2.2.2.2.2.2.2.2.2.2.2.2.2.2⟩, fun h => ⟨(F.q20 h).1, (F.q20 h).2.1, (F.q20 h).2.2.1, (F.q20 h).2.2.2.1, (F.q20 h).2.2.2.2.1, (F.q20 h).2.2.2.2.2.1, (F.q20 h).2.2.2.2.2.2.1, (F.q20 h).2.2.2.2.2.2.2.1, (F.q20 h).2.2.2.2.2.2.2.2.1, (F.q20 h).2.2.2.2.2.2.2.2.2.1, rfl, (F.q20 h).2.2.2.2.2.2.2.2.2.2.2.1, (F.q20 h).2.2.2.2.2.2.2.2.2.2.2.2.1, (F.q20 h).2.2.2.2.2.2.2.2.2.2.2.2.2.1, (F.q20 h).2.2.2.2.2.2.2.2.2.2.2.2.2.2.1, (F.q20 h).2.2.2.2.2.2.2.2.2.2.2.2.2.2.2.1, (F.q20 h).2.2.2.2.2.2.2.2.2.2.2.2.2.2.2.2.1, (F.q20 h).2.2.2.2.2.2.2.2.2.2.2.2.2.2.2.2.2⟩, F.f0, F.f1, F.f2, F.f3, F.f4, F.f5, F.f6, F.f7, F.f8, F.f9, fun _ => rfl, F.f11, F.f12, F.f13, F.f14, F.f15, F.f16, F.f17, F.f18, F.f19, F.st0, F.st1⟩
      clear F
      go_simp
      exact HK.out _ _ ⟨_, _, _, _, _, _, _, _, _, _, _, _, _, _, _, _, _, _, _, _, rfl, HF.out⟩
    · obtain rfl := F.f10 (by simp [hdep])
      have HF : Hid (wit8nF b b5 i k f p1 p2 S0 S1 (upd d_ 11) x29 x30 x31 x32 x33 x34 x35 x36 x37 x38 (.bool false) (undef) x41 x42 x43 x44 x45 x46 x47 x48 w1) := ⟨F.q5, F.q6, F.q7, F.q8, F.q9, F.q10, fun _ => (show _ from (by simp [hdep] : d_ 10 = true)), F.q12, F.q13, fun h => ⟨(F.q14 h).1, rfl, (F.q14 h).2.2.1, (F.q14 h).2.2.2⟩, F.q15, F.q16, F.q18, fun h => ⟨(F.q19 h).1, (F.q19 h).2.1, (F.q19 h).2.2.1, (F.q19 h).2.2.2.1, (F.q19 h).2.2.2.2.1, (F.q19 h).2.2.2.2.2.1, (F.q19 h).2.2.2.2.2.2.1, (F.q19 h).2.2.2.2.2.2.2.1, (F.q19 h).2.2.2.2.2.2.2.2.1, (F.q19 h).2.2.2.2.2.2.2.2.2.1, (F.q19 h).2.2.2.2.2.2.2.2.2.2.1, rfl, (F.q19 h).2.2.2.2.2.2.2.2.2.2.2.2.1, (F.q19 h).2.2.2.2.2.2.2.2.2.2.2.2.2.1, (F.q19 h).2.2.2.2.2.2.2.2.2.2.2.2.2.2.1, (F.q19 h).2.2.2.2.2.2.2.2.2.2.2.2.2.2.2.1, (F.q19 h).2.2.2.2.2.2.2.2.2.2.2.2.2.2.2.2.1, (F.q19 h).2.2.2.2.2.2.2.2.2.2.2.2.2.2.2.2.2⟩, fun h => ⟨(F.q20 h).1, (F.q20 h).2.1, (F.q20 h).2.2.1, (F.q20 h).2.2.2.1, (F.q20 h).2.2.2.2.1, (F.q20 h).2.2.2.2.2.1, (F.q20 h).2.2.2.2.2.2.1, (F.q20 h).2.2.2.2.2.2.2.1, (F.q20 h).2.2.2.2.2.2.2.2.1, (F.q20 h).2.2.2.2.2.2.2.2.2.1, (F.q20 h).2.2.2.2.2.2.2.2.2.2.1, rfl, (F.q20 h).2.2.2.2.2.2.2.2.2.2.2.2.1, (F.q20 h).2.2.2.2.2.2.2.2.2.2.2.2.2.1, (F.q20 h).2.2.2.2.2.2.2.2.2.2.2.2.2.2.1, (F.q20 h).2.2.2.2.2.2.2.2.2.2.2.2.2.2.2.1, (F.q20 h).2.2.2.2.2.2.2.2.2.2.2.2.2.2.2.2.1, (F.q20 h).2.2.2.2.2.2.2.2.2.2.2.2.2.2.2.2.2⟩, F.f0, F.f1, F.f2, F.f3, F.f4, F.f5, F.f6, F.f7, F.f8, F.f9, F.f10, fun _ => rfl, F.f12, F.f13, F.f14, F.f15, F.f16, F.f17, F.f18, F.f19, F.st0, F.st1⟩
      clear F
      go_simp
      exact HK.out _ _ ⟨_, _, _, _, _, _, _, _, _, _, _, _, _, _, _, _, _, _, _, _, rfl, HF.out⟩
    · obtain rfl := F.f10 (by simp [hdep])
      have HF : Hid (wit8nF b b5 i k f p1 p2 S0 S1 (upd d_ 12) x29 x30 x31 x32 x33 x34 x35 x36 x37 x38 (.bool false) x40 (undef) x42 x43 x44 x45 x46 x47 x48 w1) := ⟨F.q5, F.q6, F.q7, F.q8, F.q9, F.q10, F.q11, fun _ => (show _ from (by simp [hdep] : d_ 10 = true)), F.q13, fun h => ⟨(F.q14 h).1, (F.q14 h).2.1, rfl, (F.q14 h).2.2.2⟩, F.q15, F.q16, F.q18, fun h => ⟨(F.q19 h).1, (F.q19 h).2.1, (F.q19 h).2.2.1, (F.q19 h).2.2.2.1, (F.q19 h).2.2.2.2.1, (F.q19 h).2.2.2.2.2.1, (F.q19 h).2.2.2.2.2.2.1, (F.q19 h).2.2.2.2.2.2.2.1, (F.q19 h).2.2.2.2.2.2.2.2.1, (F.q19 h).2.2.2.2.2.2.2.2.2.1, (F.q19 h).2.2.2.2.2.2.2.2.2.2.1, (F.q19 h).2.2.2.2.2.2.2.2.2.2.2.1, rfl, (F.q19 h).2.2.2.2.2.2.2.2.2.2.2.2.2.1, (F.q19 h).2.2.2.2.2.2.2.2.2.2.2.2.2.2.1, (F.q19 h).2.2.2.2.2.2.2.2.2.2.2.2.2.2.2.1, (F.q19 h).2.2.2.2.2.2.2.2.2.2.2.2.2.2.2.2.1, (F.q19 h).2.2.2.2.2.2.2.2.2.2.2.2.2.2.2.2.2⟩, fun h => ⟨(F.q20 h).1, (F.q20 h).2.1, (F.q20 h).2.2.1, (F.q20 h).2.2.2.1, (F.q20 h).2.2.2.2.1, (F.q20 h).2.2.2.2.2.1, (F.q20 h).2.2.2.2.2.2.1, (F.q20 h).2.2.2.2.2.2.2.1, (F.q20 h).2.2.2.2.2.2.2.2.1, (F.q20 h).2.2.2.2.2.2.2.2.2.1, (F.q20 h).2.2.2.2.2.2.2.2.2.2.1, (F.q20 h).2.2.2.2.2.2.2.2.2.2.2.1, rfl, (F.q20 h).2.2.2.2.2.2.2.2.2.2.2.2.2.1, (F.q20 h).2.2.2.2.2.2.2.2.2.2.2.2.2.2.1, (F.q20 h).2.2.2.2.2.2.2.2.2.2.2.2.2.2.2.1, (F.q20 h).2.2.2.2.2.2.2.2.2.2.2.2.2.2.2.2.1, (F.q20 h).2.2.2.2.2.2.2.2.2.2.2.2.2.2.2.2.2⟩, F.f0, F.f1, F.f2, F.f3, F.f4, F.f5, F.f6, F.f7, F.f8, F.f9, F.f10, F.f11, fun _ => rfl, F.f13, F.f14, F.f15, F.f16, F.f17, F.f18, F.f19, F.st0, F.st1⟩
      clear F
      go_simp
      exact HK.out _ _ ⟨_, _, _, _, _, _, _, _, _, _, _, _, _, _, _, _, _, _, _, _, rfl, HF.out⟩
    · obtain rfl := F.f10 (by simp [hdep])
      have HF : Hid (wit8nF b b5 i k f p1 p2 S0 S1 (upd d_ 13) x29 x30 x31 x32 x33 x34 x35 x36 x37 x38 (.bool false) x40 x41 (undef) x43 x44 x45 x46 x47 x48 w1) := ⟨F.q5, F.q6, F.q7, F.q8, F.q9, F.q10, F.q11, F.q12, fun _ => (show _ from (by simp [hdep] : d_ 10 = true)), fun h => ⟨(F.q14 h).1, (F.q14 h).2.1, (F.q14 h).2.2.1, rfl⟩, F.q15, F.q16, F.q18, fun h => ⟨(F.q19 h).1, (F.q19 h).2.1, (F.q19 h).2.2.1, (F.q19 h).2.2.2.1, (F.q19 h).2.2.2.2.1, (F.q19 h).2.2.2.2.2.1, (F.q19 h).2.2.2.2.2.2.1, (F.q19 h).2.2.2.2.2.2.2.1, (F.q19 h).2.2.2.2.2.2.2.2.1, (F.q19 h).2.2.2.2.2.2.2.2.2.1, (F.q19 h).2.2.2.2.2.2.2.2.2.2.1, (F.q19 h).2.2.2.2.2.2.2.2.2.2.2.1, (F.q19 h).2.2.2.2.2.2.2.2.2.2.2.2.1, rfl, (F.q19 h).2.2.2.2.2.2.2.2.2.2.2.2.2.2.1, (F.q19 h).2.2.2.2.2.2.2.2.2.2.2.2.2.2.2.1, (F.q19 h).2.2.2.2.2.2.2.2.2.2.2.2.2.2.2.2.1, (F.q19 h).2.2.2.2.2.2.2.2.2.2.2.2.2.2.2.2.2⟩, fun h => ⟨(F.q20 h).1, (F.q20 h).2.1, (F.q20 h).2.2.1, (F.q20 h).2.2.2.1, (F.q20 h).2.2.2.2.1, (F.q20 h).2.2.2.2.2.1, (F.q20 h).2.2.2.2.2.2.1, (F.q20 h).2.2.2.2.2.2.2.1, (F.q20 h).2.2.2.2.2.2.2.2.1, (F.q20 h).2.2.2.2.2.2.2.2.2.1, (F.q20 h).2.2.2.2.2.2.2.2.2.2.1, (F.q20 h).2.2.2.2.2.2.2.2.2.2.2.1, (F.q20 h).2.2.2.2.2.2.2.2.2.2.2.2.1, rfl, (F.q20 h).2.2.2.2.2.2.2.2.2.2.2.2.2.2.1, (F.q20 h).2.2.2.2.2.2.2.2.2.2.2.2.2.2.2.1, (F.q20 h).2.2.2.2.2.2.2.2.2.2.2.2.2.2.2.2.1, (F.q20 h).2.2.2.2.2.2.2.2.2.2.2.2.2.2.2.2.2⟩, F.f0, F.f1, F.f2, F.f3, F.f4, F.f5, F.f6, F.f7, F.f8, F.f9, F.f10, F.f11, F.f12, fun _ => rfl, F.f14, F.f15, F.f16, F.f17, F.f18, F.f19, F.st0, F.st1⟩
      clear F
      go_simp
      exact HK.out _ _ ⟨_, _, _, _, _, _, _, _, _, _, _, _, _, _, _, _, _, _, _, _, rfl, HF.out⟩
    · obtain rfl := F.f10 (by simp [hdep])
      obtain rfl := F.f11 (by simp [hdep])
      obtain rfl := F.f12 (by simp [hdep])
      obtain rfl := F.f13 (by simp [hdep])
      have HF : Hid (wit8nF b b5 i k f p1 p2 S0 S1 (upd d_ 14) x29 x30 x31 x32 x33 x34 x35 x36 x37 x38 (.bool false) (undef) (undef) (undef) (undef) x44 x45 x46 x47 x48 w1) := ⟨F.q5, F.q6, F.q7, F.q8, F.q9, F.q10, F.q11, F.q12, F.q13, fun _ => ⟨(show _ from (by simp [hdep] : d_ 10 = true)), (show _ from (by simp [hdep] : d_ 11 = true)), (show _ from (by simp [hdep] : d_ 12 = true)), (show _ from (by simp [hdep] : d_ 13 = true))⟩, fun h => ⟨(F.q15 h).1, rfl⟩, F.q16, F.q18, fun h => ⟨(F.q19 h).1, (F.q19 h).2.1, (F.q19 h).2.2.1, (F.q19 h).2.2.2.1, (F.q19 h).2.2.2.2.1, (F.q19 h).2.2.2.2.2.1, (F.q19 h).2.2.2.2.2.2.1, (F.q19 h).2.2.2.2.2.2.2.1, (F.q19 h).2.2.2.2.2.2.2.2.1, (F.q19 h).2.2.2.2.2.2.2.2.2.1, (F.q19 h).2.2.2.2.2.2.2.2.2.2.1, (F.q19 h).2.2.2.2.2.2.2.2.2.2.2.1, (F.q19 h).2.2.2.2.2.2.2.2.2.2.2.2.1, (F.q19 h).2.2.2.2.2.2.2.2.2.2.2.2.2.1, rfl, (F.q19 h).2.2.2.2.2.2.2.2.2.2.2.2.2.2.2.1, (F.q19 h).2.2.2.2.2.2.2.2.2.2.2.2.2.2.2.2.1, (F.q19 h).2.2.2.2.2.2.2.2.2.2.2.2.2.2.2.2.2⟩, fun h => ⟨(F.q20 h).1, (F.q20 h).2.1, (F.q20 h).2.2.1, (F.q20 h).2.2.2.1, (F.q20 h).2.2.2.2.1, (F.q20 h).2.2.2.2.2.1, (F.q20 h).2.2.2.2.2.2.1, (F.q20 h).2.2.2.2.2.2.2.1, (F.q20 h).2.2.2.2.2.2.2.2.1, (F.q20 h).2.2.2.2.2.2.2.2.2.1, (F.q20 h).2.2.2.2.2.2.2.2.2.2.1, (F.q20 h).2.2.2.2.2.2.2.2.2.2.2.1, (F.q20 h).2.2.2.2.2.2.2.2.2.2.2.2.1, (F.q20 h).2.2.2.2.2.2.2.2.2.2.2.2.2.1, rfl, (F.q20 h).2.2.2.2.2.2.2.2.2.2.2.2.2.2.2.1, (F.q20 h).2.2.2.2.2.2.2.2.2.2.2.2.2.2.2.2.1, (F.q20 h).2.2.2.2.2.2.2.2.2.2.2.2.2.2.2.2.2⟩, F.f0, F.f1, F.f2, F.f3, F.f4, F.f5, F.f6, F.f7, F.f8, F.f9, F.f10, F.f11, F.f12, F.f13, fun _ => rfl, F.f15, F.f16, F.f17, F.f18, F.f19, F.st0, F.st1⟩
      clear F
      go_simp
      exact HK.out _ _ ⟨_, _, _, _, _, _, _, _, _, _, _, _, _, _, _, _, _, _, _, _, rfl, HF.out⟩
    · obtain rfl := F.f10 (by simp [hdep])
      obtain rfl := F.f14 (by simp [hdep])
      have HF : Hid (wit8nF b b5 i k f p1 p2 S0 S1 (upd d_ 15) x29 x30 x31 x32 x33 x34 x35 x36 x37 x38 (.bool false) x40 x41 x42 (undef) (undef) x45 x46 x47 x48 w1) := ⟨F.q5, F.q6, F.q7, F.q8, F.q9, F.q10, F.q11, F.q12, F.q13, F.q14, fun _ => ⟨(show _ from (by simp [hdep] : d_ 10 = true)), (show _ from (by simp [hdep] : d_ 14 = true))⟩, fun h => ⟨(F.q16 h).1, rfl⟩, F.q18, fun h => ⟨(F.q19 h).1, (F.q19 h).2.1, (F.q19 h).2.2.1, (F.q19 h).2.2.2.1, (F.q19 h).2.2.2.2.1, (F.q19 h).2.2.2.2.2.1, (F.q19 h).2.2.2.2.2.2.1, (F.q19 h).2.2.2.2.2.2.2.1, (F.q19 h).2.2.2.2.2.2.2.2.1, (F.q19 h).2.2.2.2.2.2.2.2.2.1, (F.q19 h).2.2.2.2.2.2.2.2.2.2.1, (F.q19 h).2.2.2.2.2.2.2.2.2.2.2.1, (F.q19 h).2.2.2.2.2.2.2.2.2.2.2.2.1, (F.q19 h).2.2.2.2.2.2.2.2.2.2.2.2.2.1, (F.q19 h).2.2.2.2.2.2.2.2.2.2.2.2.2.2.1, rfl, (F.q19 h).2.2.2.2.2.2.2.2.2.2.2.2.2.2.2.2.1, (F.q19 h).2.2.2.2.2.2.2.2.2.2.2.2.2.2.2.2.2⟩, fun h => ⟨(F.q20 h).1, (F.q20 h).2.1, (F.q20 h).2.2.1, (F.q20 h).2.2.2.1, (F.q20 h).2.2.2.2.1, (F.q20 h).2.2.2.2.2.1, (F.q20 h).2.2.2.2.2.2.1, (F.q20 h).2.2.2.2.2.2.2.1, (F.q20 h).2.2.2.2.2.2.2.2.1, (F.q20 h).2.2.2.2.2.2.2.2.2.1, (F.q20 h).2.2.2.2.2.2.2.2.2.2.1, (F.q20 h).2.2.2.2.2.2.2.2.2.2.2.1, (F.q20 h).2.2.2.2.2.2.2.2.2.2.2.2.1, (F.q20 h).2.2.2.2.2.2.2.2.2.2.2.2.2.1, (F.q20 h).2.2.2.2.2.2.2.2.2.2.2.2.2.2.1, rfl, (F.q20 h).2.2.2.2.2.2.2.2.2.2.2.2.2.2.2.2.1, (F.q20 h).2.2.2.2.2.2.2.2.2.2.2.2.2.2.2.2.2⟩, F.f0, F.f1, F.f2, F.f3, F.f4, F.f5, F.f6, F.f7, F.f8, F.f9, F.f10, F.f11, F.f12, F.f13, F.f14, fun _ => rfl, F.f16, F.f17, F.f18, F.f19, F.st0, F.st1⟩
      clear F
      go_simp
      exact HK.out _ _ ⟨_, _, _, _, _, _, _, _, _, _, _, _, _, _, _, _, _, _, _, _, rfl, HF.out⟩
    · obtain rfl := F.f10 (by simp [hdep])
      obtain rfl := F.f15 (by simp [hdep])
      have HF : Hid (wit8nF b b5 i k f p1 p2 S0 S1 (upd d_ 16) x29 x30 x31 x32 x33 x34 x35 x36 x37 x38 (.bool false) x40 x41 x42 x43 (undef) (.bool false) x46 x47 x48 w1) := ⟨F.q5, F.q6, F.q7, F.q8, F.q9, F.q10, F.q11, F.q12, F.q13, F.q14, F.q15, fun _ => ⟨(show _ from (by simp [hdep] : d_ 10 = true)), (show _ from (by simp [hdep] : d_ 15 = true))⟩, F.q18, fun h => ⟨(F.q19 h).1, (F.q19 h).2.1, (F.q19 h).2.2.1, (F.q19 h).2.2.2.1, (F.q19 h).2.2.2.2.1, (F.q19 h).2.2.2.2.2.1, (F.q19 h).2.2.2.2.2.2.1, (F.q19 h).2.2.2.2.2.2.2.1, (F.q19 h).2.2.2.2.2.2.2.2.1, (F.q19 h).2.2.2.2.2.2.2.2.2.1, (F.q19 h).2.2.2.2.2.2.2.2.2.2.1, (F.q19 h).2.2.2.2.2.2.2.2.2.2.2.1, (F.q19 h).2.2.2.2.2.2.2.2.2.2.2.2.1, (F.q19 h).2.2.2.2.2.2.2.2.2.2.2.2.2.1, (F.q19 h).2.2.2.2.2.2.2.2.2.2.2.2.2.2.1, (F.q19 h).2.2.2.2.2.2.2.2.2.2.2.2.2.2.2.1, rfl, (F.q19 h).2.2.2.2.2.2.2.2.2.2.2.2.2.2.2.2.2⟩, fun h => ⟨(F.q20 h).1, (F.q20 h).2.1, (F.q20 h).2.2.1, (F.q20 h).2.2.2.1, (F.q20 h).2.2.2.2.1, (F.q20 h).2.2.2.2.2.1, (F.q20 h).2.2.2.2.2.2.1, (F.q20 h).2.2.2.2.2.2.2.1, (F.q20 h).2.2.2.2.2.2.2.2.1, (F.q20 h).2.2.2.2.2.2.2.2.2.1, (F.q20 h).2.2.2.2.2.2.2.2.2.2.1, (F.q20 h).2.2.2.2.2.2.2.2.2.2.2.1, (F.q20 h).2.2.2.2.2.2.2.2.2.2.2.2.1, (F.q20 h).2.2.2.2.2.2.2.2.2.2.2.2.2.1, (F.q20 h).2.2.2.2.2.2.2.2.2.2.2.2.2.2.1, (F.q20 h).2.2.2.2.2.2.2.2.2.2.2.2.2.2.2.1, rfl, (F.q20 h).2.2.2.2.2.2.2.2.2.2.2.2.2.2.2.2.2⟩, F.f0, F.f1, F.f2, F.f3, F.f4, F.f5, F.f6, F.f7, F.f8, F.f9, F.f10, F.f11, F.f12, F.f13, F.f14, F.f15, fun _ => rfl, F.f17, F.f18, F.f19, F.st0, F.st1⟩
      clear F
      go_simp
      exact HK.out _ _ ⟨_, _, _, _, _, _, _, _, _, _, _, _, _, _, _, _, _, _, _, _, rfl, HF.out⟩
    · have HF : Hid (wit8nF b b5 i k f p1 p2 S0 S1 (upd d_ 17) x29 x30 x31 x32 x33 x34 x35 x36 x37 x38 x39 x40 x41 x42 x43 x44 x45 (.pointer (some ⟨b5, 5, none⟩)) x47 x48 w1) := ⟨F.q5, F.q6, F.q7, F.q8, F.q9, F.q10, F.q11, F.q12, F.q13, F.q14, F.q15, F.q16, fun h => ⟨(F.q18 h).1, rfl⟩, F.q19, F.q20, F.f0, F.f1, F.f2, F.f3, F.f4, F.f5, F.f6, F.f7, F.f8, F.f9, F.f10, F.f11, F.f12, F.f13, F.f14, F.f15, F.f16, fun _ => rfl, F.f18, F.f19, F.st0, F.st1⟩
      clear F
      go_simp
      exact HK.out _ _ ⟨_, _, _, _, _, _, _, _, _, _, _, _, _, _, _, _, _, _, _, _, rfl, HF.out⟩
    · obtain rfl := F.f0 (by simp [hdep])
      obtain rfl := F.f17 (by simp [hdep])
      have HF : Hid (wit8nF b b5 i k f p1 p2 S0 S1 (upd d_ 18) (.int .i64 i) x30 x31 x32 x33 x34 x35 x36 x37 x38 x39 x40 x41 x42 x43 x44 x45 (.pointer (some ⟨b5, 5, none⟩)) (.pointer (some ⟨b5, 5 + i * 10, none⟩)) x48 w1) := ⟨F.q5, F.q6, F.q7, F.q8, F.q9, F.q10, F.q11, F.q12, F.q13, F.q14, F.q15, F.q16, fun _ => ⟨(show _ from (by simp [hdep] : d_ 0 = true)), (show _ from (by simp [hdep] : d_ 17 = true))⟩, fun h => ⟨(F.q19 h).1, (F.q19 h).2.1, (F.q19 h).2.2.1, (F.q19 h).2.2.2.1, (F.q19 h).2.2.2.2.1, (F.q19 h).2.2.2.2.2.1, (F.q19 h).2.2.2.2.2.2.1, (F.q19 h).2.2.2.2.2.2.2.1, (F.q19 h).2.2.2.2.2.2.2.2.1, (F.q19 h).2.2.2.2.2.2.2.2.2.1, (F.q19 h).2.2.2.2.2.2.2.2.2.2.1, (F.q19 h).2.2.2.2.2.2.2.2.2.2.2.1, (F.q19 h).2.2.2.2.2.2.2.2.2.2.2.2.1, (F.q19 h).2.2.2.2.2.2.2.2.2.2.2.2.2.1, (F.q19 h).2.2.2.2.2.2.2.2.2.2.2.2.2.2.1, (F.q19 h).2.2.2.2.2.2.2.2.2.2.2.2.2.2.2.1, (F.q19 h).2.2.2.2.2.2.2.2.2.2.2.2.2.2.2.2.1, rfl⟩, F.q20, F.f0, F.f1, F.f2, F.f3, F.f4, F.f5, F.f6, F.f7, F.f8, F.f9, F.f10, F.f11, F.f12, F.f13, F.f14, F.f15, F.f16, F.f17, fun _ => rfl, F.f19, F.st0, F.st1⟩
      clear F
      go_simp
      exact HK.out _ _ ⟨_, _, _, _, _, _, _, _, _, _, _, _, _, _, _, _, _, _, _, _, rfl, HF.out⟩
    · obtain rfl := F.f1 (by simp [hdep])
      obtain rfl := F.f18 (by simp [hdep])
      have HF : Hid (wit8nF b b5 i k f p1 p2 S0 S1 (upd d_ 19) x29 (.int .i64 k) x31 x32 x33 x34 x35 x36 x37 x38 x39 x40 x41 x42 x43 x44 x45 x46 (.pointer (some ⟨b5, 5 + i * 10, none⟩)) (.pointer (some ⟨b5, 5 + i * 10 + k, none⟩)) w1) := ⟨F.q5, F.q6, F.q7, F.q8, F.q9, F.q10, F.q11, F.q12, F.q13, F.q14, F.q15, F.q16, F.q18, fun _ => ⟨(show _ from (by simp [hdep] : d_ 0 = true)), (show _ from (by simp [hdep] : d_ 1 = true)), (show _ from (by simp [hdep] : d_ 2 = true)), (show _ from (by simp [hdep] : d_ 3 = true)), (show _ from (by simp [hdep] : d_ 4 = true)), (show _ from (by simp [hdep] : d_ 5 = true)), (show _ from (by simp [hdep] : d_ 6 = true)), (show _ from (by simp [hdep] : d_ 7 = true)), (show _ from (by simp [hdep] : d_ 8 = true)), (show _ from (by simp [hdep] : d_ 9 = true)), (show _ from (by simp [hdep] : d_ 10 = true)), (show _ from (by simp [hdep] : d_ 11 = true)), (show _ from (by simp [hdep] : d_ 12 = true)), (show _ from (by simp [hdep] : d_ 13 = true)), (show _ from (by simp [hdep] : d_ 14 = true)), (show _ from (by simp [hdep] : d_ 15 = true)), (show _ from (by simp [hdep] : d_ 16 = true)), (show _ from (by simp [hdep] : d_ 18 = true))⟩, fun h => ⟨(F.q20 h).1, (F.q20 h).2.1, (F.q20 h).2.2.1, (F.q20 h).2.2.2.1, (F.q20 h).2.2.2.2.1, (F.q20 h).2.2.2.2.2.1, (F.q20 h).2.2.2.2.2.2.1, (F.q20 h).2.2.2.2.2.2.2.1, (F.q20 h).2.2.2.2.2.2.2.2.1, (F.q20 h).2.2.2.2.2.2.2.2.2.1, (F.q20 h).2.2.2.2.2.2.2.2.2.2.1, (F.q20 h).2.2.2.2.2.2.2.2.2.2.2.1, (F.q20 h).2.2.2.2.2.2.2.2.2.2.2.2.1, (F.q20 h).2.2.2.2.2.2.2.2.2.2.2.2.2.1, (F.q20 h).2.2.2.2.2.2.2.2.2.2.2.2.2.2.1, (F.q20 h).2.2.2.2.2.2.2.2.2.2.2.2.2.2.2.1, (F.q20 h).2.2.2.2.2.2.2.2.2.2.2.2.2.2.2.2.1, rfl⟩, F.f0, F.f1, F.f2, F.f3, F.f4, F.f5, F.f6, F.f7, F.f8, F.f9, F.f10, F.f11, F.f12, F.f13, F.f14, F.f15, F.f16, F.f17, F.f18, fun _ => rfl, F.st0, F.st1⟩
      clear F
      go_simp
      exact HK.out _ _ ⟨_, _, _, _, _, _, _, _, _, _, _, _, _, _, _, _, _, _, _, _, rfl, HF.out⟩
    · have hS := F.st0  hd_
      obtain rfl := F.f16 (by simp [hdep])
      obtain rfl := F.f19 (by simp [hdep])
      obtain ⟨⟨ku0, kcell0⟩, kfr0, hres⟩ := kc20.out w1 hS
      have HF : Hid (wit8nF b b5 i k f p1 p2 S0 S1 (upd d_ 20) x29 x30 x31 x32 x33 x34 x35 x36 x37 x38 x39 x40 x41 x42 x43 x44 (.bool false) x46 x47 (.pointer (some ⟨b5, 5 + i * 10 + k, none⟩)) (w1.setCell ⟨b5, 5 + i * 10 + k, none⟩ (.bool false))) := ⟨F.q5, F.q6, F.q7, F.q8, F.q9, F.q10, F.q11, F.q12, F.q13, F.q14, F.q15, F.q16, F.q18, F.q19, fun _ => ⟨(show _ from (by simp [hdep] : d_ 0 = true)), (show _ from (by simp [hdep] : d_ 1 = true)), (show _ from (by simp [hdep] : d_ 2 = true)), (show _ from (by simp [hdep] : d_ 3 = true)), (show _ from (by simp [hdep] : d_ 4 = true)), (show _ from (by simp [hdep] : d_ 5 = true)), (show _ from (by simp [hdep] : d_ 6 = true)), (show _ from (by simp [hdep] : d_ 7 = true)), (show _ from (by simp [hdep] : d_ 8 = true)), (show _ from (by simp [hdep] : d_ 9 = true)), (show _ from (by simp [hdep] : d_ 10 = true)), (show _ from (by simp [hdep] : d_ 11 = true)), (show _ from (by simp [hdep] : d_ 12 = true)), (show _ from (by simp [hdep] : d_ 13 = true)), (show _ from (by simp [hdep] : d_ 14 = true)), (show _ from (by simp [hdep] : d_ 15 = true)), (show _ from (by simp [hdep] : d_ 16 = true)), (show _ from (by simp [hdep] : d_ 19 = true))⟩, F.f0, F.f1, F.f2, F.f3, F.f4, F.f5, F.f6, F.f7, F.f8, F.f9, F.f10, F.f11, F.f12, F.f13, F.f14, F.f15, F.f16, F.f17, F.f18, F.f19, fun h => (by simp [upd] at h), fun _ => hres⟩
      clear F hS hres
      go_simp
      exact HK.out _ _ ⟨_, _, _, _, _, _, _, _, _, _, _, _, _, _, _, _, _, _, _, _, rfl, HF.out⟩
  · rintro d_ a_ w1 hall ⟨x29, x30, x31, x32, x33, x34, x35, x36, x37, x38, x39, x40, x41, x42, x43, x44, x45, x46, x47, x48, rfl, F⟩
    have hall' : ∀ k, k < 21 → d_ k = true := hall
    obtain rfl := F.f0 (hall' 0 (by decide))
    obtain rfl := F.f1 (hall' 1 (by decide))
    obtain rfl := F.f2 (hall' 2 (by decide))
    obtain rfl := F.f3 (hall' 3 (by decide))
    obtain rfl := F.f4 (hall' 4 (by decide))
    obtain rfl := F.f5 (hall' 5 (by decide))
    obtain rfl := F.f6 (hall' 6 (by decide))
    obtain rfl := F.f7 (hall' 7 (by decide))
    obtain rfl := F.f8 (hall' 8 (by decide))
    obtain rfl := F.f9 (hall' 9 (by decide))
    obtain rfl := F.f10 (hall' 10 (by decide))
    obtain rfl := F.f11 (hall' 11 (by decide))
    obtain rfl := F.f12 (hall' 12 (by decide))
    obtain rfl := F.f13 (hall' 13 (by decide))
    obtain rfl := F.f14 (hall' 14 (by decide))
    obtain rfl := F.f15 (hall' 15 (by decide))
    obtain rfl := F.f16 (hall' 16 (by decide))
    obtain rfl := F.f17 (hall' 17 (by decide))
    obtain rfl := F.f18 (hall' 18 (by decide))
    obtain rfl := F.f19 (hall' 19 (by decide))
    have hst := F.st1 (hall' 20 (by decide))
    exact HQ.out  w1 hst
end Go.Proofs.YtbnhngfegnhaiaaDoor
namespace Go.Proofs.YtbnhngfegnhaiaaDoor
open Go.RowKit
set_option linter.unusedVariables false
set_option linter.unusedSimpArgs false
structure WitI (w0 : World) (b5 : Nat) (r : Rws) (al : Option Addr) (cl : Nat) (ar : Option Addr) (cr : Nat) (T : Nat → Bool) (need : Int) (v : World) : Prop where
  below : Below w0.heap.size w0 v
  tab : v.heap[b5]? = some (.cells (rowsL r al cl ar cr T need).toArray 130 (0, 0))
theorem WitI.mono {w0 v v' : World} {b5 : Nat} {r : Rws} {al ar : Option Addr} {cl cr : Nat} {T : Nat → Bool} {need : Int} (h : WitI w0 b5 r al cl ar cr T need v) (hb : Below v.heap.size v v') : WitI w0 b5 r al cl ar cr T need v' := ⟨h.below.trans (hb.mono h.below.size), (hb.block _ (heap_lt h.tab)).trans h.tab⟩
theorem WitI.put {w0 v : World} {b5 : Nat} {r : Rws} {al ar : Option Addr} {cl cr : Nat} {T : Nat → Bool} {need : Int} (h : WitI w0 b5 r al cl ar cr T need v) (h5 : w0.heap.size ≤ b5) {j : Nat} (hj : j < 100) (z : Bool) :
    WitI w0 b5 r al cl ar cr (fun x => if x = j then z else T x) need (v.setCell ⟨b5, 5 + j, none⟩ (.bool z)) := by
  refine ⟨h.below.setCell (p := ⟨b5, 5 + j, none⟩) h5 _, ?_⟩
  have h1 := heap_setCell_at (k := 5 + j) h.tab (.bool z)
  rw [List.setIfInBounds_toArray, rowsL_set _ _ _ _ _ _ _ hj] at h1
  exact h1
set_option maxRecDepth 100000 in
set_option maxHeartbeats 8000000 in
theorem without84 {r : Rws} {al ar : Option Addr} {cl cr b f p1 p2 : Nat} {T : Nat → Bool} {P : Nat → Nat → Bool} {need : Int} {w : World} (h : IsRws w b r al cl ar cr T need) (hl1 : r.left.length ≤ 10) (hl2 : r.right.length ≤ 10)
    (cf : Hid (∀ args w, (callFunc f args).run Tryd.prog w = .ok (.enter f args) w))
    (HC : Hid (∀ (v : World) (i k : Nat), Below w.heap.size w v → i < r.left.length → k < r.right.length → Calls Tryd.prog f #[.int .i64 i, .int .i64 k, .pointer (some ⟨p1, 0, none⟩), .pointer (some ⟨p2, 0, none⟩)] v fun e w' => e = .returned (.bool (P i k)) ∧ Below v.heap.size v w')) :
    Calls Tryd.prog 71 #[.pointer (some ⟨b, 0, none⟩), .func (.func f) #[] #[.pointer (some ⟨p1, 0, none⟩), .pointer (some ⟨p2, 0, none⟩)]] w fun e w' => ∃ b', e = .returned (.pointer (some ⟨b', 0, none⟩)) ∧ w.heap.size ≤ b' ∧ IsRws w' b' r al cl ar cr (wI T P r.left.length r.right.length r.left.length 0) need ∧ Below w.heap.size w w' := by
  have H := Lib.hid h
  clear h
  go_enter Tryd.func71, Tryd.ntmps71
  refine wp_seq_hid ?_
  intro K0 HK0
  go_wp2_with fail
  refine HK0.out _ _ ?_
  clear HK0 K0
  have HO : Hid (WitI w w.heap.size r al cl ar cr (wI T P r.left.length r.right.length 0 0) need ((w.alloc (.cells Tryd.zeroCells130 130)).setCells w.heap.size 0 (rowsL r al cl ar cr T need))) := by
    rw [wI_zero]
    have hz : Tryd.zeroCells130.size = (rowsL r al cl ar cr T need).length := by rw [rowsL_len]; rfl
    exact ⟨below_setCells (Nat.le_refl _) _ 0 _ (alloc_below _ _), heap_setCells_all (World.alloc_heap_new _ _) hz⟩
  have HTH : Hid ((w.alloc (.cells Tryd.zeroCells130 130)).there w.heap.size 0 (rowsL r al cl ar cr T need).toArray.size) := fun j hj => by
    rw [List.size_toArray, rowsL_len] at hj
    refine ⟨?_, frozen_of_heap (World.alloc_heap_new _ _)⟩
    rw [Nat.zero_add, cell_of_heap (World.alloc_heap_new _ _)]
    have hz : Tryd.zeroCells130.size = 106 := by rfl
    rw [Array.getElem?_eq_getElem (by omega)]
    rfl
  refine wp_seq_hid ?_
  intro K1 HK1
  go_wp2_with (first | (refine wpList_load_mid rfl 130 _ (by rfl) b 0 (by rfl) (rowsL r al cl ar cr T need) _ (range_of H.out.h) Tryd.underlying130 rfl (by rw [rowsL_len]; exact info130) ?_) | (refine wpList_store_mid rfl 130 _ _ (by rfl) w.heap.size 0 (rowsL r al cl ar cr T need).toArray (by rfl) (by rfl) HTH.out (by rw [List.size_toArray, rowsL_len]; exact info130) (rowsL_one _ _ _ _ _ _ _) ?_))
  refine HK1.out _ _ ?_
  clear HK1 K1 HTH
  revert HO
  generalize (w.alloc (.cells Tryd.zeroCells130 130)).setCells w.heap.size 0 (rowsL r al cl ar cr T need) = w1
  generalize Value.agg (rowsL r al cl ar cr T need).toArray = big
  generalize hb5 : w.heap.size = b5
  intro HO
  have HB5 := Lib.hid hb5
  clear hb5
  have k0 : w1.cell? ⟨b, 0, none⟩ = some (.slice al r.left.length cl) := (H.out.mono HO.out.below).left
  refine wp_seq_hid ?_
  intro K2 HK2
  go_wp2_with fail
  clear k0
  go_loopw [17] (fun q wr => ∃ i : Nat, i ≤ r.left.length ∧ q = .int .i64 i ∧ Hid (WitI w b5 r al cl ar cr (wI T P r.left.length r.right.length i 0) need wr)) (fun q _ => r.left.length - (intOf q).toNat)
  case atStart => exact ⟨0, by omega, rfl, HO⟩
  case round =>
    obtain ⟨i, hi, rfl, HW⟩ := hrel
    clear HO
    by_cases hlt : i < r.left.length
    · have k1 : wr.cell? ⟨b, 1, none⟩ = some (.slice ar r.right.length cr) := (H.out.mono HW.out.below).right
      have l3 : i < 10 := by omega
      go_wp2_with fail
      clear k1
      rename World => w2
      go_loopw [26] (fun q wy => ∃ k : Nat, k ≤ r.right.length ∧ q = .int .i64 k ∧ Hid (WitI w b5 r al cl ar cr (wI T P r.left.length r.right.length i k) need wy)) (fun q _ => r.right.length - (intOf q).toNat)
      case atStart => exact ⟨0, by omega, rfl, HW⟩
      case round =>
        obtain ⟨k, hk, rfl, HY⟩ := hrel
        clear HW
        by_cases hlk : k < r.right.length
        · have HS := Lib.hid (wI_set T P (n := r.left.length) (m := r.right.length) hlt hlk (by omega))
          have HCC := Lib.hid (fun (v : World) (hv : Below w.heap.size w v) => HC.out v i k (by rw [HB5.out] at hv ⊢; exact hv) hlt hlk)
          have HTB := Lib.hid (fun (v : World) (hv : Below w.heap.size w v) => (H.out.mono hv).tab (j := i * 10 + k) (by omega))
          go_upto_region 8 with fail
          revert HS HCC HTB
          generalize hU : wI T P r.left.length r.right.length i (k + 1) = U'
          generalize wI T P r.left.length r.right.length i k = U at HY
          generalize P i k = z
          cases ht : T (i * 10 + k)
          · intro HS HCC HTB
            have HUE := Lib.hid hU
            clear hU ht
            refine wpIn_wide.1 (wit8n (b := b) (b5 := b5) (i := i) (k := k) (f := f) (p1 := p1) (p2 := p2)
              (S0 := fun v => WitI w b5 r al cl ar cr U need v) (S1 := fun v => WitI w b5 r al cl ar cr U' need v) (by omega) (by omega) (by omega) (by omega) ?h0 ?l9 ?c19 ?hQ)
            case h0 => exact ⟨HY.out.below.drew, HY.out.tab⟩
            case l9 => exact fun v h => by rw [Nat.add_assoc]; exact HTB.out v h.below
            case c19 =>
              intro v h
              have hc : v.cell? ⟨b5, 5 + i * 10 + k, none⟩ = some (.bool (U (i * 10 + k))) := by
                rw [cell_of_heap h.tab, List.getElem?_toArray, Nat.add_assoc, rowsL_tab _ _ _ _ _ _ _ (by omega)]
              refine ⟨⟨_, hc⟩, frozen_of_heap h.tab, ?_⟩
              have h1 := h.put (by rw [HB5.out]; exact Nat.le_refl _) (j := i * 10 + k) (by omega) false
              have h2 := HS.out
              simp only [Bool.false_and] at h2
              rw [h2, ← Nat.add_assoc] at h1
              exact h1
            intro w6 h
            have HF := Lib.hid h
            clear h
            go_wp2_with fail
            go_roundw
            case rel => exact ⟨k + 1, by omega, by go_num, by have h := HF.out; rw [← HUE.out] at h; exact h⟩
            case measure => simp [intOf]; omega
          · intro HS HCC HTB
            have HUE := Lib.hid hU
            clear hU ht
            refine wpIn_wide.1 (wit8 (b := b) (b5 := b5) (i := i) (k := k) (f := f) (p1 := p1) (p2 := p2) (z := z)
              (S0 := fun v => WitI w b5 r al cl ar cr U need v) (S1 := fun _ v => WitI w b5 r al cl ar cr U need v) (S2 := fun _ v => WitI w b5 r al cl ar cr U' need v) (by omega) (by omega) (by omega) (by omega) cf.out ?h0_b ?l9_b ?c14_b ?c19_b ?hQ_b)
            case h0_b => exact ⟨HY.out.below.drew, HY.out.tab⟩
            case l9_b => exact fun v h => by rw [Nat.add_assoc]; exact HTB.out v h.below
            case c14_b =>
              intro v h
              refine (HCC.out v h.below).mono ?_
              rintro e v' ⟨rfl, hb⟩
              exact ⟨(), rfl, h.mono hb⟩
            case c19_b =>
              intro u v h
              have hc : v.cell? ⟨b5, 5 + i * 10 + k, none⟩ = some (.bool (U (i * 10 + k))) := by
                rw [cell_of_heap h.tab, List.getElem?_toArray, Nat.add_assoc, rowsL_tab _ _ _ _ _ _ _ (by omega)]
              refine ⟨⟨_, hc⟩, frozen_of_heap h.tab, ?_⟩
              have h1 := h.put (by rw [HB5.out]; exact Nat.le_refl _) (j := i * 10 + k) (by omega) (!z)
              have h2 := HS.out
              simp only [Bool.true_and] at h2
              rw [h2, ← Nat.add_assoc] at h1
              exact h1
            intro u w6 h
            have HF := Lib.hid h
            clear h
            go_wp2_with fail
            go_roundw
            case rel => exact ⟨k + 1, by omega, by go_num, by have h := HF.out; rw [← HUE.out] at h; exact h⟩
            case measure => simp [intOf]; omega
        · obtain rfl : k = r.right.length := by omega
          have HY2 : Hid (WitI w b5 r al cl ar cr (wI T P r.left.length r.right.length (i + 1) 0) need wr) := by
            have h := HY.out
            rw [wI_next] at h
            exact h
          clear HY
          go_wp2_with fail
          go_roundw
          case rel => exact ⟨i + 1, by omega, by go_num, HY2.out⟩
          case measure => simp [intOf]; omega
    · obtain rfl : i = r.left.length := by omega
      go_wp2_with fail
      refine HK2.out _ _ ?_
      go_wp2_with fail
      go_ret
      exact ⟨b5, rfl, Nat.le_refl _, ⟨HW.out.tab, H.out.lm.mono HW.out.below, H.out.rm.mono HW.out.below⟩, by rw [← HB5.out]; exact HW.out.below⟩
end Go.Proofs.YtbnhngfegnhaiaaDoor
namespace Go.Proofs.YtbnhngfegnhaiaaDoor
open Go.RowKit
set_option linter.unusedVariables false
set_option linter.unusedSimpArgs false
theorem cf83 (args : Array Value) (w : World) : (callFunc 100 args).run Tryd.prog w = .ok (.enter 100 args) w := by simp [callFunc, Tryd.func100, Tryd.f100, go_sem]
theorem beq_yes {a i : Nat} (h : a = i) : (a == i) = true ∧ ((a : Int) == (i : Int)) = true := by
  subst h
  simp
theorem beq_no {a i : Nat} (h : ¬ a = i) : (a == i) = false ∧ ((a : Int) == (i : Int)) = false := by
  constructor
  · simpa using h
  · simp only [beq_eq_false_iff_ne, ne_eq]
    omega
set_option maxRecDepth 100000 in
set_option maxHeartbeats 4000000 in
theorem apart83 {i k a b p1 p2 : Nat} {w : World} (h1 : w.cell? ⟨p1, 0, none⟩ = some (.int .i64 i)) (h2 : w.cell? ⟨p2, 0, none⟩ = some (.int .i64 k)) :
    Calls Tryd.prog 100 #[.int .i64 a, .int .i64 b, .pointer (some ⟨p1, 0, none⟩), .pointer (some ⟨p2, 0, none⟩)] w fun e w' => e = .returned (.bool (apart i k a b)) ∧ w = w' := by
  unfold apart
  by_cases c1 : a < i <;> by_cases c2 : b < k <;> by_cases c3 : a = i <;> by_cases c4 : b = k
  all_goals try (exfalso; omega)
  all_goals
    obtain ⟨e3, e5⟩ := (by first | exact beq_yes c3 | exact beq_no c3)
    obtain ⟨e4, e6⟩ := (by first | exact beq_yes c4 | exact beq_no c4)
    have E := Lib.hid (And.intro c3 c4)
    clear c3 c4
    go_enter Tryd.func100, Tryd.ntmps100
    go_wp2_with fail
    go_ret
    exact ⟨ret_bool (by simp [c1, c2, E.out.1, E.out.2]), rfl⟩
structure can3F (b : Nat) (b8 : Nat) (i : Nat) (k : Nat) (p1 : Nat) (p2 : Nat) (z : Bool) (S0 : World → Prop) (S1 : Unit → World → Prop) (d : Nat → Bool) (x13 x14 x15 x16 x17 x18 x19 x20 x21 x22 x23 x24 x6 : Value) (u : Unit) (w : World) : Prop where
  q3 : d 3 = true → d 0 = true
  q4 : d 4 = true → d 3 = true
  q5 : d 5 = true → d 1 = true ∧ d 4 = true
  q6 : d 6 = true → d 2 = true ∧ d 5 = true
  q7 : d 7 = true → d 6 = true
  q8 : d 8 = true → d 7 = true
  q9 : d 9 = true → d 8 = true
  q10 : d 10 = true → d 8 = true ∧ d 9 = true
  q11 : d 11 = true → d 8 = true ∧ d 10 = true
  q12 : d 12 = true → d 0 = true ∧ d 1 = true ∧ d 2 = true ∧ d 3 = true ∧ d 4 = true ∧ d 5 = true ∧ d 6 = true ∧ d 7 = true ∧ d 8 = true ∧ d 9 = true ∧ d 10 = true ∧ d 11 = true
  f0 : d 0 = true → x13 = .pointer (some ⟨b, 0, none⟩)
  f1 : d 1 = true → x14 = .int .i64 i
  f2 : d 2 = true → x15 = .int .i64 k
  f3 : d 3 = true → x16 = .pointer (some ⟨b, 0, none⟩)
  f4 : d 4 = true → x17 = .pointer (some ⟨b, 5, none⟩)
  f5 : d 5 = true → x18 = .pointer (some ⟨b, 5 + i * 10, none⟩)
  f6 : d 6 = true → x19 = .pointer (some ⟨b, 5 + i * 10 + k, none⟩)
  f7 : d 7 = true → x20 = .bool true
  f8 : d 8 = true → x21 = .bool true
  f9 : d 9 = true → x22 = .pointer (some ⟨b8, 0, none⟩)
  f10 : d 10 = true → x23 = .bool z
  f11 : d 11 = true → x24 = .bool z
  f12 : d 12 = true → x6 = .bool z
  st0 : d 10 = false → S0 w
  st1 : d 10 = true → S1 u w
noncomputable def can3C : Code := (Tryd.f68.body.bind (regionAt 3)).getD .skip
set_option maxRecDepth 100000 in
set_option maxHeartbeats 4000000 in
theorem can3 {b : Nat} {b8 : Nat} {i : Nat} {k : Nat} {p1 : Nat} {p2 : Nat} {z : Bool} {S0 : World → Prop} {S1 : Unit → World → Prop} {Q : Exit → Act → World → Prop} {W1 : World} (hi1 : (0 : Int) ≤ i) (hi2 : (i : Int) < 10) (hk1 : (0 : Int) ≤ k) (hk2 : (k : Int) < 10) (h0 : S0 W1.drew)
    (kl1 : Hid (∀ (w : World), (S0 w) → w.cell? ⟨p1, 0, none⟩ = some (.int .i64 i)))
    (kl2 : Hid (∀ (w : World), (S0 w) → w.cell? ⟨p2, 0, none⟩ = some (.int .i64 k)))
    (kl7 : Hid (∀ (w : World), (S0 w) → w.cell? ⟨b, 5 + i * 10 + k, none⟩ = some (.bool true)))
    (kc10 : Hid (∀ (w : World), S0 w → Calls Tryd.prog 66 #[.pointer (some ⟨b8, 0, none⟩)] w fun e w' => ∃ u : Unit, e = .returned (.bool z) ∧ S1 u w'))
    {s1 s2 s3 s6 s7 s9 s10 s11 s12 s13 s14 s15 s16 s17 s18 s19 s20 s21 s22 s23 s24 : Value} {dd : List Deferred}
    (hQ : ∀ (u : Unit) (w' : World), S1 u w' → Q .normal { tmps := #[.pointer (some ⟨b, 0, none⟩), s1, s2, s3, .pointer (some ⟨p1, 0, none⟩), .pointer (some ⟨p2, 0, none⟩), .bool z, s7, .pointer (some ⟨b8, 0, none⟩), s9, s10, s11, s12, .pointer (some ⟨b, 0, none⟩), .int .i64 i, .int .i64 k, .pointer (some ⟨b, 0, none⟩), .pointer (some ⟨b, 5, none⟩), .pointer (some ⟨b, 5 + i * 10, none⟩), .pointer (some ⟨b, 5 + i * 10 + k, none⟩), .bool true, .bool true, .pointer (some ⟨b8, 0, none⟩), .bool z, .bool z], defers := dd } w') :
    Code.wpIn (wideAt none) 0 Tryd.prog can3C Q { tmps := #[.pointer (some ⟨b, 0, none⟩), s1, s2, s3, .pointer (some ⟨p1, 0, none⟩), .pointer (some ⟨p2, 0, none⟩), s6, s7, .pointer (some ⟨b8, 0, none⟩), s9, s10, s11, s12, s13, s14, s15, s16, s17, s18, s19, s20, s21, s22, s23, s24], defers := dd } W1 := by
  have HQ := Lib.hid hQ
  clear hQ
  conv => arg 4; whnf
  refine wpIn_region_invG mixed (by kernel_rfl) (fun d_ a_ w' => ∃ (x13 : Value) (x14 : Value) (x15 : Value) (x16 : Value) (x17 : Value) (x18 : Value) (x19 : Value) (x20 : Value) (x21 : Value) (x22 : Value) (x23 : Value) (x24 : Value) (x6 : Value) (u : Unit), a_ = { tmps := #[.pointer (some ⟨b, 0, none⟩), s1, s2, s3, .pointer (some ⟨p1, 0, none⟩), .pointer (some ⟨p2, 0, none⟩), x6, s7, .pointer (some ⟨b8, 0, none⟩), s9, s10, s11, s12, x13, x14, x15, x16, x17, x18, x19, x20, x21, x22, x23, x24], defers := dd } ∧ can3F b b8 i k p1 p2 z S0 S1 d_ x13 x14 x15 x16 x17 x18 x19 x20 x21 x22 x23 x24 x6 u w') ?_ ?_ ?_
  · refine ⟨s13, s14, s15, s16, s17, s18, s19, s20, s21, s22, s23, s24, s6, default, rfl, ?_⟩
    constructor <;> first | rfl | (intro _; rfl) | (intro h; cases h; done) | (intro _; exact h0) | exact h0
  · refine ⟨?_, ?_, ?_, ?_, ?_, ?_, ?_, ?_, ?_, ?_, ?_, ?_, ?_, trivial⟩
    all_goals
      rintro d_ a_ w1 K hd_ hdep ⟨x13, x14, x15, x16, x17, x18, x19, x20, x21, x22, x23, x24, x6, u, rfl, F⟩ HK
      simp [Region.binds] at hdep
    · have HF : Hid (can3F b b8 i k p1 p2 z S0 S1 (upd d_ 0) (.pointer (some ⟨b, 0, none⟩)) x14 x15 x16 x17 x18 x19 x20 x21 x22 x23 x24 x6 u w1) := ⟨fun h => rfl, F.q4, F.q5, F.q6, F.q7, F.q8, F.q9, F.q10, F.q11, fun h => ⟨rfl, (F.q12 h).2.1, (F.q12 h).2.2.1, (F.q12 h).2.2.2.1, (F.q12 h).2.2.2.2.1, (F.q12 h).2.2.2.2.2.1, (F.q12 h).2.2.2.2.2.2.1, (F.q12 h).2.2.2.2.2.2.2.1, (F.q12 h).2.2.2.2.2.2.2.2.1, (F.q12 h).2.2.2.2.2.2.2.2.2.1, (F.q12 h).2.2.2.2.2.2.2.2.2.2.1, (F.q12 h).2.2.2.2.2.2.2.2.2.2.2⟩, fun _ => rfl, F.f1, F.f2, F.f3, F.f4, F.f5, F.f6, F.f7, F.f8, F.f9, F.f10, F.f11, F.f12, F.st0, F.st1⟩
      clear F
      go_simp
      exact HK.out _ _ ⟨_, _, _, _, _, _, _, _, _, _, _, _, _, _, rfl, HF.out⟩
    · have hst : S0 w1 := by
        have n_ : d_ 10 = false := by
          cases e_ : d_ 10 with
          | false => rfl
          | true => have h2 := (F.q5 (F.q6 (F.q7 (F.q8 (F.q10 e_).1))).2).1; rw [show d_ 1 = false from hd_] at h2; cases h2
        exact (F.st0 n_)
      have kk := kl1.out w1 hst
      clear hst
      have HF : Hid (can3F b b8 i k p1 p2 z S0 S1 (upd d_ 1) x13 (.int .i64 i) x15 x16 x17 x18 x19 x20 x21 x22 x23 x24 x6 u w1) := ⟨F.q3, F.q4, fun h => ⟨rfl, (F.q5 h).2⟩, F.q6, F.q7, F.q8, F.q9, F.q10, F.q11, fun h => ⟨(F.q12 h).1, rfl, (F.q12 h).2.2.1, (F.q12 h).2.2.2.1, (F.q12 h).2.2.2.2.1, (F.q12 h).2.2.2.2.2.1, (F.q12 h).2.2.2.2.2.2.1, (F.q12 h).2.2.2.2.2.2.2.1, (F.q12 h).2.2.2.2.2.2.2.2.1, (F.q12 h).2.2.2.2.2.2.2.2.2.1, (F.q12 h).2.2.2.2.2.2.2.2.2.2.1, (F.q12 h).2.2.2.2.2.2.2.2.2.2.2⟩, F.f0, fun _ => rfl, F.f2, F.f3, F.f4, F.f5, F.f6, F.f7, F.f8, F.f9, F.f10, F.f11, F.f12, F.st0, F.st1⟩
      clear F
      go_simp
      exact HK.out _ _ ⟨_, _, _, _, _, _, _, _, _, _, _, _, _, _, rfl, HF.out⟩
    · have hst : S0 w1 := by
        have n_ : d_ 10 = false := by
          cases e_ : d_ 10 with
          | false => rfl
          | true => have h2 := (F.q6 (F.q7 (F.q8 (F.q10 e_).1))).1; rw [show d_ 2 = false from hd_] at h2; cases h2
        exact (F.st0 n_)
      have kk := kl2.out w1 hst
      clear hst
      have HF : Hid (can3F b b8 i k p1 p2 z S0 S1 (upd d_ 2) x13 x14 (.int .i64 k) x16 x17 x18 x19 x20 x21 x22 x23 x24 x6 u w1) := ⟨F.q3, F.q4, F.q5, fun h => ⟨rfl, (F.q6 h).2⟩, F.q7, F.q8, F.q9, F.q10, F.q11, fun h => ⟨(F.q12 h).1, (F.q12 h).2.1, rfl, (F.q12 h).2.2.2.1, (F.q12 h).2.2.2.2.1, (F.q12 h).2.2.2.2.2.1, (F.q12 h).2.2.2.2.2.2.1, (F.q12 h).2.2.2.2.2.2.2.1, (F.q12 h).2.2.2.2.2.2.2.2.1, (F.q12 h).2.2.2.2.2.2.2.2.2.1, (F.q12 h).2.2.2.2.2.2.2.2.2.2.1, (F.q12 h).2.2.2.2.2.2.2.2.2.2.2⟩, F.f0, F.f1, fun _ => rfl, F.f3, F.f4, F.f5, F.f6, F.f7, F.f8, F.f9, F.f10, F.f11, F.f12, F.st0, F.st1⟩
      clear F
      go_simp
      exact HK.out _ _ ⟨_, _, _, _, _, _, _, _, _, _, _, _, _, _, rfl, HF.out⟩
    · obtain rfl := F.f0 (by simp [hdep])
      have HF : Hid (can3F b b8 i k p1 p2 z S0 S1 (upd d_ 3) (.pointer (some ⟨b, 0, none⟩)) x14 x15 (.pointer (some ⟨b, 0, none⟩)) x17 x18 x19 x20 x21 x22 x23 x24 x6 u w1) := ⟨fun _ => (show _ from (by simp [hdep] : d_ 0 = true)), fun h => rfl, F.q5, F.q6, F.q7, F.q8, F.q9, F.q10, F.q11, fun h => ⟨(F.q12 h).1, (F.q12 h).2.1, (F.q12 h).2.2.1, rfl, (F.q12 h).2.2.2.2.1, (F.q12 h).2.2.2.2.2.1, (F.q12 h).2.2.2.2.2.2.1, (F.q12 h).2.2.2.2.2.2.2.1, (F.q12 h).2.2.2.2.2.2.2.2.1, (F.q12 h).2.2.2.2.2.2.2.2.2.1, (F.q12 h).2.2.2.2.2.2.2.2.2.2.1, (F.q12 h).2.2.2.2.2.2.2.2.2.2.2⟩, F.f0, F.f1, F.f2, fun _ => rfl, F.f4, F.f5, F.f6, F.f7, F.f8, F.f9, F.f10, F.f11, F.f12, F.st0, F.st1⟩
      clear F
      go_simp
      exact HK.out _ _ ⟨_, _, _, _, _, _, _, _, _, _, _, _, _, _, rfl, HF.out⟩
    · obtain rfl := F.f3 (by simp [hdep])
      have HF : Hid (can3F b b8 i k p1 p2 z S0 S1 (upd d_ 4) x13 x14 x15 (.pointer (some ⟨b, 0, none⟩)) (.pointer (some ⟨b, 5, none⟩)) x18 x19 x20 x21 x22 x23 x24 x6 u w1) := ⟨F.q3, fun _ => (show _ from (by simp [hdep] : d_ 3 = true)), fun h => ⟨(F.q5 h).1, rfl⟩, F.q6, F.q7, F.q8, F.q9, F.q10, F.q11, fun h => ⟨(F.q12 h).1, (F.q12 h).2.1, (F.q12 h).2.2.1, (F.q12 h).2.2.2.1, rfl, (F.q12 h).2.2.2.2.2.1, (F.q12 h).2.2.2.2.2.2.1, (F.q12 h).2.2.2.2.2.2.2.1, (F.q12 h).2.2.2.2.2.2.2.2.1, (F.q12 h).2.2.2.2.2.2.2.2.2.1, (F.q12 h).2.2.2.2.2.2.2.2.2.2.1, (F.q12 h).2.2.2.2.2.2.2.2.2.2.2⟩, F.f0, F.f1, F.f2, F.f3, fun _ => rfl, F.f5, F.f6, F.f7, F.f8, F.f9, F.f10, F.f11, F.f12, F.st0, F.st1⟩
      clear F
      go_simp
      exact HK.out _ _ ⟨_, _, _, _, _, _, _, _, _, _, _, _, _, _, rfl, HF.out⟩
    · obtain rfl := F.f1 (by simp [hdep])
      obtain rfl := F.f4 (by simp [hdep])
      have HF : Hid (can3F b b8 i k p1 p2 z S0 S1 (upd d_ 5) x13 (.int .i64 i) x15 x16 (.pointer (some ⟨b, 5, none⟩)) (.pointer (some ⟨b, 5 + i * 10, none⟩)) x19 x20 x21 x22 x23 x24 x6 u w1) := ⟨F.q3, F.q4, fun _ => ⟨(show _ from (by simp [hdep] : d_ 1 = true)), (show _ from (by simp [hdep] : d_ 4 = true))⟩, fun h => ⟨(F.q6 h).1, rfl⟩, F.q7, F.q8, F.q9, F.q10, F.q11, fun h => ⟨(F.q12 h).1, (F.q12 h).2.1, (F.q12 h).2.2.1, (F.q12 h).2.2.2.1, (F.q12 h).2.2.2.2.1, rfl, (F.q12 h).2.2.2.2.2.2.1, (F.q12 h).2.2.2.2.2.2.2.1, (F.q12 h).2.2.2.2.2.2.2.2.1, (F.q12 h).2.2.2.2.2.2.2.2.2.1, (F.q12 h).2.2.2.2.2.2.2.2.2.2.1, (F.q12 h).2.2.2.2.2.2.2.2.2.2.2⟩, F.f0, F.f1, F.f2, F.f3, F.f4, fun _ => rfl, F.f6, F.f7, F.f8, F.f9, F.f10, F.f11, F.f12, F.st0, F.st1⟩
      clear F
      go_simp
      exact HK.out _ _ ⟨_, _, _, _, _, _, _, _, _, _, _, _, _, _, rfl, HF.out⟩
    · obtain rfl := F.f2 (by simp [hdep])
      obtain rfl := F.f5 (by simp [hdep])
      have HF : Hid (can3F b b8 i k p1 p2 z S0 S1 (upd d_ 6) x13 x14 (.int .i64 k) x16 x17 (.pointer (some ⟨b, 5 + i * 10, none⟩)) (.pointer (some ⟨b, 5 + i * 10 + k, none⟩)) x20 x21 x22 x23 x24 x6 u w1) := ⟨F.q3, F.q4, F.q5, fun _ => ⟨(show _ from (by simp [hdep] : d_ 2 = true)), (show _ from (by simp [hdep] : d_ 5 = true))⟩, fun h => rfl, F.q8, F.q9, F.q10, F.q11, fun h => ⟨(F.q12 h).1, (F.q12 h).2.1, (F.q12 h).2.2.1, (F.q12 h).2.2.2.1, (F.q12 h).2.2.2.2.1, (F.q12 h).2.2.2.2.2.1, rfl, (F.q12 h).2.2.2.2.2.2.2.1, (F.q12 h).2.2.2.2.2.2.2.2.1, (F.q12 h).2.2.2.2.2.2.2.2.2.1, (F.q12 h).2.2.2.2.2.2.2.2.2.2.1, (F.q12 h).2.2.2.2.2.2.2.2.2.2.2⟩, F.f0, F.f1, F.f2, F.f3, F.f4, F.f5, fun _ => rfl, F.f7, F.f8, F.f9, F.f10, F.f11, F.f12, F.st0, F.st1⟩
      clear F
      go_simp
      exact HK.out _ _ ⟨_, _, _, _, _, _, _, _, _, _, _, _, _, _, rfl, HF.out⟩
    · have hst : S0 w1 := by
        have n_ : d_ 10 = false := by
          cases e_ : d_ 10 with
          | false => rfl
          | true => have h2 := (F.q8 (F.q10 e_).1); rw [show d_ 7 = false from hd_] at h2; cases h2
        exact (F.st0 n_)
      have kk := kl7.out w1 hst
      clear hst
      obtain rfl := F.f6 (by simp [hdep])
      have HF : Hid (can3F b b8 i k p1 p2 z S0 S1 (upd d_ 7) x13 x14 x15 x16 x17 x18 (.pointer (some ⟨b, 5 + i * 10 + k, none⟩)) (.bool true) x21 x22 x23 x24 x6 u w1) := ⟨F.q3, F.q4, F.q5, F.q6, fun _ => (show _ from (by simp [hdep] : d_ 6 = true)), fun h => rfl, F.q9, F.q10, F.q11, fun h => ⟨(F.q12 h).1, (F.q12 h).2.1, (F.q12 h).2.2.1, (F.q12 h).2.2.2.1, (F.q12 h).2.2.2.2.1, (F.q12 h).2.2.2.2.2.1, (F.q12 h).2.2.2.2.2.2.1, rfl, (F.q12 h).2.2.2.2.2.2.2.2.1, (F.q12 h).2.2.2.2.2.2.2.2.2.1, (F.q12 h).2.2.2.2.2.2.2.2.2.2.1, (F.q12 h).2.2.2.2.2.2.2.2.2.2.2⟩, F.f0, F.f1, F.f2, F.f3, F.f4, F.f5, F.f6, fun _ => rfl, F.f8, F.f9, F.f10, F.f11, F.f12, F.st0, F.st1⟩
      clear F
      go_simp
      exact HK.out _ _ ⟨_, _, _, _, _, _, _, _, _, _, _, _, _, _, rfl, HF.out⟩
    · obtain rfl := F.f7 (by simp [hdep])
      have HF : Hid (can3F b b8 i k p1 p2 z S0 S1 (upd d_ 8) x13 x14 x15 x16 x17 x18 x19 (.bool true) (.bool true) x22 x23 x24 x6 u w1) := ⟨F.q3, F.q4, F.q5, F.q6, F.q7, fun _ => (show _ from (by simp [hdep] : d_ 7 = true)), fun h => rfl, fun h => ⟨rfl, (F.q10 h).2⟩, fun h => ⟨rfl, (F.q11 h).2⟩, fun h => ⟨(F.q12 h).1, (F.q12 h).2.1, (F.q12 h).2.2.1, (F.q12 h).2.2.2.1, (F.q12 h).2.2.2.2.1, (F.q12 h).2.2.2.2.2.1, (F.q12 h).2.2.2.2.2.2.1, (F.q12 h).2.2.2.2.2.2.2.1, rfl, (F.q12 h).2.2.2.2.2.2.2.2.2.1, (F.q12 h).2.2.2.2.2.2.2.2.2.2.1, (F.q12 h).2.2.2.2.2.2.2.2.2.2.2⟩, F.f0, F.f1, F.f2, F.f3, F.f4, F.f5, F.f6, F.f7, fun _ => rfl, F.f9, F.f10, F.f11, F.f12, F.st0, F.st1⟩
      clear F
      go_simp
      exact HK.out _ _ ⟨_, _, _, _, _, _, _, _, _, _, _, _, _, _, rfl, HF.out⟩
    · obtain rfl := F.f8 (by simp [hdep])
      have HF : Hid (can3F b b8 i k p1 p2 z S0 S1 (upd d_ 9) x13 x14 x15 x16 x17 x18 x19 x20 (.bool true) (.pointer (some ⟨b8, 0, none⟩)) x23 x24 x6 u w1) := ⟨F.q3, F.q4, F.q5, F.q6, F.q7, F.q8, fun _ => (show _ from (by simp [hdep] : d_ 8 = true)), fun h => ⟨(F.q10 h).1, rfl⟩, F.q11, fun h => ⟨(F.q12 h).1, (F.q12 h).2.1, (F.q12 h).2.2.1, (F.q12 h).2.2.2.1, (F.q12 h).2.2.2.2.1, (F.q12 h).2.2.2.2.2.1, (F.q12 h).2.2.2.2.2.2.1, (F.q12 h).2.2.2.2.2.2.2.1, (F.q12 h).2.2.2.2.2.2.2.2.1, rfl, (F.q12 h).2.2.2.2.2.2.2.2.2.2.1, (F.q12 h).2.2.2.2.2.2.2.2.2.2.2⟩, F.f0, F.f1, F.f2, F.f3, F.f4, F.f5, F.f6, F.f7, F.f8, fun _ => rfl, F.f10, F.f11, F.f12, F.st0, F.st1⟩
      clear F
      go_simp
      exact HK.out _ _ ⟨_, _, _, _, _, _, _, _, _, _, _, _, _, _, rfl, HF.out⟩
    · have hS := F.st0  hd_
      obtain rfl := F.f8 (by simp [hdep])
      obtain rfl := F.f9 (by simp [hdep])
      have hc := kc10.out w1 hS
      have HF := Lib.hid F
      clear F
      go_simp
      refine ⟨trivial, rfl, wideAt_calls (hc.mono ?_)⟩
      rintro e w5 ⟨v_, rfl, hres⟩
      exact HK.out _ _ ⟨_, _, _, _, _, _, _, _, _, _, _, _, _, v_, rfl, ⟨HF.out.q3, HF.out.q4, HF.out.q5, HF.out.q6, HF.out.q7, HF.out.q8, HF.out.q9, fun _ => ⟨(show _ from (by simp [hdep] : d_ 8 = true)), (show _ from (by simp [hdep] : d_ 9 = true))⟩, fun h => ⟨(HF.out.q11 h).1, rfl⟩, fun h => ⟨(HF.out.q12 h).1, (HF.out.q12 h).2.1, (HF.out.q12 h).2.2.1, (HF.out.q12 h).2.2.2.1, (HF.out.q12 h).2.2.2.2.1, (HF.out.q12 h).2.2.2.2.2.1, (HF.out.q12 h).2.2.2.2.2.2.1, (HF.out.q12 h).2.2.2.2.2.2.2.1, (HF.out.q12 h).2.2.2.2.2.2.2.2.1, (HF.out.q12 h).2.2.2.2.2.2.2.2.2.1, rfl, (HF.out.q12 h).2.2.2.2.2.2.2.2.2.2.2⟩, HF.out.f0, HF.out.f1, HF.out.f2, HF.out.f3, HF.out.f4, HF.out.f5, HF.out.f6, HF.out.f7, HF.out.f8, HF.out.f9, fun _ => rfl, HF.out.f11, HF.out.f12, fun h => (by simp [upd] at h), fun _ => hres⟩⟩
    · obtain rfl := F.f8 (by simp [hdep])
      obtain rfl := F.f10 (by simp [hdep])
      have HF : Hid (can3F b b8 i k p1 p2 z S0 S1 (upd d_ 11) x13 x14 x15 x16 x17 x18 x19 x20 (.bool true) x22 (.bool z) (.bool z) x6 u w1) := ⟨F.q3, F.q4, F.q5, F.q6, F.q7, F.q8, F.q9, F.q10, fun _ => ⟨(show _ from (by simp [hdep] : d_ 8 = true)), (show _ from (by simp [hdep] : d_ 10 = true))⟩, fun h => ⟨(F.q12 h).1, (F.q12 h).2.1, (F.q12 h).2.2.1, (F.q12 h).2.2.2.1, (F.q12 h).2.2.2.2.1, (F.q12 h).2.2.2.2.2.1, (F.q12 h).2.2.2.2.2.2.1, (F.q12 h).2.2.2.2.2.2.2.1, (F.q12 h).2.2.2.2.2.2.2.2.1, (F.q12 h).2.2.2.2.2.2.2.2.2.1, (F.q12 h).2.2.2.2.2.2.2.2.2.2.1, rfl⟩, F.f0, F.f1, F.f2, F.f3, F.f4, F.f5, F.f6, F.f7, F.f8, F.f9, F.f10, fun _ => rfl, F.f12, F.st0, F.st1⟩
      clear F
      go_simp
      exact HK.out _ _ ⟨_, _, _, _, _, _, _, _, _, _, _, _, _, _, rfl, HF.out⟩
    · obtain rfl := F.f11 (by simp [hdep])
      have HF : Hid (can3F b b8 i k p1 p2 z S0 S1 (upd d_ 12) x13 x14 x15 x16 x17 x18 x19 x20 x21 x22 x23 (.bool z) (.bool z) u w1) := ⟨F.q3, F.q4, F.q5, F.q6, F.q7, F.q8, F.q9, F.q10, F.q11, fun _ => ⟨(show _ from (by simp [hdep] : d_ 0 = true)), (show _ from (by simp [hdep] : d_ 1 = true)), (show _ from (by simp [hdep] : d_ 2 = true)), (show _ from (by simp [hdep] : d_ 3 = true)), (show _ from (by simp [hdep] : d_ 4 = true)), (show _ from (by simp [hdep] : d_ 5 = true)), (show _ from (by simp [hdep] : d_ 6 = true)), (show _ from (by simp [hdep] : d_ 7 = true)), (show _ from (by simp [hdep] : d_ 8 = true)), (show _ from (by simp [hdep] : d_ 9 = true)), (show _ from (by simp [hdep] : d_ 10 = true)), (show _ from (by simp [hdep] : d_ 11 = true))⟩, F.f0, F.f1, F.f2, F.f3, F.f4, F.f5, F.f6, F.f7, F.f8, F.f9, F.f10, F.f11, fun _ => rfl, F.st0, F.st1⟩
      clear F
      go_simp
      exact HK.out _ _ ⟨_, _, _, _, _, _, _, _, _, _, _, _, _, _, rfl, HF.out⟩
  · rintro d_ a_ w1 hall ⟨x13, x14, x15, x16, x17, x18, x19, x20, x21, x22, x23, x24, x6, u, rfl, F⟩
    have hall' : ∀ k, k < 13 → d_ k = true := hall
    obtain rfl := F.f0 (hall' 0 (by decide))
    obtain rfl := F.f1 (hall' 1 (by decide))
    obtain rfl := F.f2 (hall' 2 (by decide))
    obtain rfl := F.f3 (hall' 3 (by decide))
    obtain rfl := F.f4 (hall' 4 (by decide))
    obtain rfl := F.f5 (hall' 5 (by decide))
    obtain rfl := F.f6 (hall' 6 (by decide))
    obtain rfl := F.f7 (hall' 7 (by decide))
    obtain rfl := F.f8 (hall' 8 (by decide))
    obtain rfl := F.f9 (hall' 9 (by decide))
    obtain rfl := F.f10 (hall' 10 (by decide))
    obtain rfl := F.f11 (hall' 11 (by decide))
    obtain rfl := F.f12 (hall' 12 (by decide))
    have hst := F.st1 (hall' 10 (by decide))
    exact HQ.out u w1 hst
structure can3nF (b : Nat) (b8 : Nat) (i : Nat) (k : Nat) (p1 : Nat) (p2 : Nat) (S0 : World → Prop) (d : Nat → Bool) (x13 x14 x15 x16 x17 x18 x19 x20 x21 x22 x23 x24 x6 : Value) (w : World) : Prop where
  q3 : d 3 = true → d 0 = true
  q4 : d 4 = true → d 3 = true
  q5 : d 5 = true → d 1 = true ∧ d 4 = true
  q6 : d 6 = true → d 2 = true ∧ d 5 = true
  q7 : d 7 = true → d 6 = true
  q8 : d 8 = true → d 7 = true
  q9 : d 9 = true → d 8 = true
  q10 : d 10 = true → d 8 = true ∧ d 9 = true
  q11 : d 11 = true → d 8 = true ∧ d 10 = true
  q12 : d 12 = true → d 0 = true ∧ d 1 = true ∧ d 2 = true ∧ d 3 = true ∧ d 4 = true ∧ d 5 = true ∧ d 6 = true ∧ d 7 = true ∧ d 8 = true ∧ d 9 = true ∧ d 10 = true ∧ d 11 = true
  f0 : d 0 = true → x13 = .pointer (some ⟨b, 0, none⟩)
  f1 : d 1 = true → x14 = .int .i64 i
  f2 : d 2 = true → x15 = .int .i64 k
  f3 : d 3 = true → x16 = .pointer (some ⟨b, 0, none⟩)
  f4 : d 4 = true → x17 = .pointer (some ⟨b, 5, none⟩)
  f5 : d 5 = true → x18 = .pointer (some ⟨b, 5 + i * 10, none⟩)
  f6 : d 6 = true → x19 = .pointer (some ⟨b, 5 + i * 10 + k, none⟩)
  f7 : d 7 = true → x20 = .bool false
  f8 : d 8 = true → x21 = .bool false
  f9 : d 9 = true → x22 = undef
  f10 : d 10 = true → x23 = undef
  f11 : d 11 = true → x24 = .bool false
  f12 : d 12 = true → x6 = .bool false
  st0 : S0 w
noncomputable def can3nC : Code := (Tryd.f68.body.bind (regionAt 3)).getD .skip
set_option maxRecDepth 100000 in
set_option maxHeartbeats 4000000 in
theorem can3n {b : Nat} {b8 : Nat} {i : Nat} {k : Nat} {p1 : Nat} {p2 : Nat} {S0 : World → Prop} {Q : Exit → Act → World → Prop} {W1 : World} (hi1 : (0 : Int) ≤ i) (hi2 : (i : Int) < 10) (hk1 : (0 : Int) ≤ k) (hk2 : (k : Int) < 10) (h0 : S0 W1.drew)
    (kl1 : Hid (∀ (w : World), (S0 w) → w.cell? ⟨p1, 0, none⟩ = some (.int .i64 i)))
    (kl2 : Hid (∀ (w : World), (S0 w) → w.cell? ⟨p2, 0, none⟩ = some (.int .i64 k)))
    (kl7 : Hid (∀ (w : World), (S0 w) → w.cell? ⟨b, 5 + i * 10 + k, none⟩ = some (.bool false)))
    {s1 s2 s3 s6 s7 s9 s10 s11 s12 s13 s14 s15 s16 s17 s18 s19 s20 s21 s22 s23 s24 : Value} {dd : List Deferred}
    (hQ : ∀ (w' : World), S0 w' → Q .normal { tmps := #[.pointer (some ⟨b, 0, none⟩), s1, s2, s3, .pointer (some ⟨p1, 0, none⟩), .pointer (some ⟨p2, 0, none⟩), .bool false, s7, .pointer (some ⟨b8, 0, none⟩), s9, s10, s11, s12, .pointer (some ⟨b, 0, none⟩), .int .i64 i, .int .i64 k, .pointer (some ⟨b, 0, none⟩), .pointer (some ⟨b, 5, none⟩), .pointer (some ⟨b, 5 + i * 10, none⟩), .pointer (some ⟨b, 5 + i * 10 + k, none⟩), .bool false, .bool false, undef, undef, .bool false], defers := dd } w') :
    Code.wpIn (wideAt none) 0 Tryd.prog can3nC Q { tmps := #[.pointer (some ⟨b, 0, none⟩), s1, s2, s3, .pointer (some ⟨p1, 0, none⟩), .pointer (some ⟨p2, 0, none⟩), s6, s7, .pointer (some ⟨b8, 0, none⟩), s9, s10, s11, s12, s13, s14, s15, s16, s17, s18, s19, s20, s21, s22, s23, s24], defers := dd } W1 := by
  have HQ := Lib.hid hQ
  clear hQ
  conv => arg 4; whnf
  refine wpIn_region_invG mixed (by kernel_rfl) (fun d_ a_ w' => ∃ (x13 : Value) (x14 : Value) (x15 : Value) (x16 : Value) (x17 : Value) (x18 : Value) (x19 : Value) (x20 : Value) (x21 : Value) (x22 : Value) (x23 : Value) (x24 : Value) (x6 : Value), a_ = { tmps := #[.pointer (some ⟨b, 0, none⟩), s1, s2, s3, .pointer (some ⟨p1, 0, none⟩), .pointer (some ⟨p2, 0, none⟩), x6, s7, .pointer (some ⟨b8, 0, none⟩), s9, s10, s11, s12, x13, x14, x15, x16, x17, x18, x19, x20, x21, x22, x23, x24], defers := dd } ∧ can3nF b b8 i k p1 p2 S0 d_ x13 x14 x15 x16 x17 x18 x19 x20 x21 x22 x23 x24 x6 w') ?_ ?_ ?_
  · refine ⟨s13, s14, s15, s16, s17, s18, s19, s20, s21, s22, s23, s24, s6, rfl, ?_⟩
    constructor <;> first | rfl | (intro _; rfl) | (intro h; cases h; done) | (intro _; exact h0) | exact h0
  · refine ⟨?_, ?_, ?_, ?_, ?_, ?_, ?_, ?_, ?_, ?_, ?_, ?_, ?_, trivial⟩
    all_goals
      rintro d_ a_ w1 K hd_ hdep ⟨x13, x14, x15, x16, x17, x18, x19, x20, x21, x22, x23, x24, x6, rfl, F⟩ HK
      simp [Region.binds] at hdep
    · have HF : Hid (can3nF b b8 i k p1 p2 S0 (upd d_ 0) (.pointer (some ⟨b, 0, none⟩)) x14 x15 x16 x17 x18 x19 x20 x21 x22 x23 x24 x6 w1) := ⟨fun h => rfl, F.q4, F.q5, F.q6, F.q7, F.q8, F.q9, F.q10, F.q11, fun h => ⟨rfl, (F.q12 h).2.1, (F.q12 h).2.2.1, (F.q12 h).2.2.2.1, (F.q12 h).2.2.2.2.1, (F.q12 h).2.2.2.2.2.1, (F.q12 h).2.2.2.2.2.2.1, (F.q12 h).2.2.2.2.2.2.2.1, (F.q12 h).2.2.2.2.2.2.2.2.1, (F.q12 h).2.2.2.2.2.2.2.2.2.1, (F.q12 h).2.2.2.2.2.2.2.2.2.2.1, (F.q12 h).2.2.2.2.2.2.2.2.2.2.2⟩, fun _ => rfl, F.f1, F.f2, F.f3, F.f4, F.f5, F.f6, F.f7, F.f8, F.f9, F.f10, F.f11, F.f12, F.st0⟩
      clear F
      go_simp
      exact HK.out _ _ ⟨_, _, _, _, _, _, _, _, _, _, _, _, _, rfl, HF.out⟩
    · have hst : S0 w1 := by
        exact F.st0
      have kk := kl1.out w1 hst
      clear hst
      have HF : Hid (can3nF b b8 i k p1 p2 S0 (upd d_ 1) x13 (.int .i64 i) x15 x16 x17 x18 x19 x20 x21 x22 x23 x24 x6 w1) := ⟨F.q3, F.q4, fun h => ⟨rfl, (F.q5 h).2⟩, F.q6, F.q7, F.q8, F.q9, F.q10, F.q11, fun h => ⟨(F.q12 h).1, rfl, (F.q12 h).2.2.1, (F.q12 h).2.2.2.1, (F.q12 h).2.2.2.2.1, (F.q12 h).2.2.2.2.2.1, (F.q12 h).2.2.2.2.2.2.1, (F.q12 h).2.2.2.2.2.2.2.1, (F.q12 h).2.2.2.2.2.2.2.2.1, (F.q12 h).2.2.2.2.2.2.2.2.2.1, (F.q12 h).2.2.2.2.2.2.2.2.2.2.1, (F.q12 h).2.2.2.2.2.2.2.2.2.2.2⟩, F.f0, fun _ => rfl, F.f2, F.f3, F.f4, F.f5, F.f6, F.f7, F.f8, F.f9, F.f10, F.f11, F.f12, F.st0⟩
      clear F
      go_simp
      exact HK.out _ _ ⟨_, _, _, _, _, _, _, _, _, _, _, _, _, rfl, HF.out⟩
    · have hst : S0 w1 := by
        exact F.st0
      have kk := kl2.out w1 hst
      clear hst
      have HF : Hid (can3nF b b8 i k p1 p2 S0 (upd d_ 2) x13 x14 (.int .i64 k) x16 x17 x18 x19 x20 x21 x22 x23 x24 x6 w1) := ⟨F.q3, F.q4, F.q5, fun h => ⟨rfl, (F.q6 h).2⟩, F.q7, F.q8, F.q9, F.q10, F.q11, fun h => ⟨(F.q12 h).1, (F.q12 h).2.1, rfl, (F.q12 h).2.2.2.1, (F.q12 h).2.2.2.2.1, (F.q12 h).2.2.2.2.2.1, (F.q12 h).2.2.2.2.2.2.1, (F.q12 h).2.2.2.2.2.2.2.1, (F.q12 h).2.2.2.2.2.2.2.2.1, (F.q12 h).2.2.2.2.2.2.2.2.2.1, (F.q12 h).2.2.2.2.2.2.2.2.2.2.1, (F.q12 h).2.2.2.2.2.2.2.2.2.2.2⟩, F.f0, F.f1, fun _ => rfl, F.f3, F.f4, F.f5, F.f6, F.f7, F.f8, F.f9, F.f10, F.f11, F.f12, F.st0⟩
      clear F
      go_simp
      exact HK.out _ _ ⟨_, _, _, _, _, _, _, _, _, _, _, _, _, rfl, HF.out⟩
    · obtain rfl := F.f0 (by simp [hdep])
      have HF : Hid (can3nF b b8 i k p1 p2 S0 (upd d_ 3) (.pointer (some ⟨b, 0, none⟩)) x14 x15 (.pointer (some ⟨b, 0, none⟩)) x17 x18 x19 x20 x21 x22 x23 x24 x6 w1) := ⟨fun _ => (show _ from (by simp [hdep] : d_ 0 = true)), fun h => rfl, F.q5, F.q6, F.q7, F.q8, F.q9, F.q10, F.q11, fun h => ⟨(F.q12 h).1, (F.q12 h).2.1, (F.q12 h).2.2.1, rfl, (F.q12 h).2.2.2.2.1, (F.q12 h).2.2.2.2.2.1, (F.q12 h).2.2.2.2.2.2.1, (F.q12 h).2.2.2.2.2.2.2.1, (F.q12 h).2.2.2.2.2.2.2.2.1, (F.q12 h).2.2.2.2.2.2.2.2.2.1, (F.q12 h).2.2.2.2.2.2.2.2.2.2.1, (F.q12 h).2.2.2.2.2.2.2.2.2.2.2⟩, F.f0, F.f1, F.f2, fun _ => rfl, F.f4, F.f5, F.f6, F.f7, F.f8, F.f9, F.f10, F.f11, F.f12, F.st0⟩
      clear F
      go_simp
      exact HK.out _ _ ⟨_, _, _, _, _, _, _, _, _, _, _, _, _, rfl, HF.out⟩
    · obtain rfl := F.f3 (by simp [hdep])
      have HF : Hid (can3nF b b8 i k p1 p2 S0 (upd d_ 4) x13 x14 x15 (.pointer (some ⟨b, 0, none⟩)) (.pointer (some ⟨b, 5, none⟩)) x18 x19 x20 x21 x22 x23 x24 x6 w1) := ⟨F.q3, fun _ => (show _ from (by simp [hdep] : d_ 3 = true)), fun h => ⟨(F.q5 h).1, rfl⟩, F.q6, F.q7, F.q8, F.q9, F.q10, F.q11, fun h => ⟨(F.q12 h).1, (F.q12 h).2.1, (F.q12 h).2.2.1, (F.q12 h).2.2.2.1, rfl, (F.q12 h).2.2.2.2.2.1, (F.q12 h).2.2.2.2.2.2.1, (F.q12 h).2.2.2.2.2.2.2.1, (F.q12 h).2.2.2.2.2.2.2.2.1, (F.q12 h).2.2.2.2.2.2.2.2.2.1, (F.q12 h).2.2.2.2.2.2.2.2.2.2.1, (F.q12 h).2.2.2.2.2.2.2.2.2.2.2⟩, F.f0, F.f1, F.f2, F.f3, fun _ => rfl, F.f5, F.f6, F.f7, F.f8, F.f9, F.f10, F.f11, F.f12, F.st0⟩
      clear F
      go_simp
      exact HK.out _ _ ⟨_, _, _, _, _, _, _, _, _, _, _, _, _, rfl, HF.out⟩
    · obtain rfl := F.f1 (by simp [hdep])
      obtain rfl := F.f4 (by simp [hdep])
      have HF : Hid (can3nF b b8 i k p1 p2 S0 (upd d_ 5) x13 (.int .i64 i) x15 x16 (.pointer (some ⟨b, 5, none⟩)) (.pointer (some ⟨b, 5 + i * 10, none⟩)) x19 x20 x21 x22 x23 x24 x6 w1) := ⟨F.q3, F.q4, fun _ => ⟨(show _ from (by simp [hdep] : d_ 1 = true)), (show _ from (by simp [hdep] : d_ 4 = true))⟩, fun h => ⟨(F.q6 h).1, rfl⟩, F.q7, F.q8, F.q9, F.q10, F.q11, fun h => ⟨(F.q12 h).1, (F.q12 h).2.1, (F.q12 h).2.2.1, (F.q12 h).2.2.2.1, (F.q12 h).2.2.2.2.1, rfl, (F.q12 h).2.2.2.2.2.2.1, (F.q12 h).2.2.2.2.2.2.2.1, (F.q12 h).2.2.2.2.2.2.2.2.1, (F.q12 h).2.2.2.2.2.2.2.2.2.1, (F.q12 h).2.2.2.2.2.2.2.2.2.2.1, (F.q12 h).2.2.2.2.2.2.2.2.2.2.2⟩, F.f0, F.f1, F.f2, F.f3, F.f4, fun _ => rfl, F.f6, F.f7, F.f8, F.f9, F.f10, F.f11, F.f12, F.st0⟩
      clear F
      go_simp
      exact HK.out _ _ ⟨_, _, _, _, _, _, _, _, _, _, _, _, _, rfl, HF.out⟩
    · obtain rfl := F.f2 (by simp [hdep])
      obtain rfl := F.f5 (by simp [hdep])
      have HF : Hid (can3nF b b8 i k p1 p2 S0 (upd d_ 6) x13 x14 (.int .i64 k) x16 x17 (.pointer (some ⟨b, 5 + i * 10, none⟩)) (.pointer (some ⟨b, 5 + i * 10 + k, none⟩)) x20 x21 x22 x23 x24 x6 w1) := ⟨F.q3, F.q4, F.q5, fun _ => ⟨(show _ from (by simp [hdep] : d_ 2 = true)), (show _ from (by simp [hdep] : d_ 5 = true))⟩, fun h => rfl, F.q8, F.q9, F.q10, F.q11, fun h => ⟨(F.q12 h).1, (F.q12 h).2.1, (F.q12 h).2.2.1, (F.q12 h).2.2.2.1, (F.q12 h).2.2.2.2.1, (F.q12 h).2.2.2.2.2.1, rfl, (F.q12 h).2.2.2.2.2.2.2.1, (F.q12 h).2.2.2.2.2.2.2.2.1, (F.q12 h).2.2.2.2.2.2.2.2.2.1, (F.q12 h).2.2.2.2.2.2.2.2.2.2.1, (F.q12 h).2.2.2.2.2.2.2.2.2.2.2⟩, F.f0, F.f1, F.f2, F.f3, F.f4, F.f5, fun _ => rfl, F.f7, F.f8, F.f9, F.f10, F.f11, F.f12, F.st0⟩
      clear F
      go_simp
      exact HK.out _ _ ⟨_, _, _, _, _, _, _, _, _, _, _, _, _, rfl, HF.out⟩
    · have hst : S0 w1 := by
        exact F.st0
      have kk := kl7.out w1 hst
      clear hst
      obtain rfl := F.f6 (by simp [hdep])
      have HF : Hid (can3nF b b8 i k p1 p2 S0 (upd d_ 7) x13 x14 x15 x16 x17 x18 (.pointer (some ⟨b, 5 + i * 10 + k, none⟩)) (.bool false) x21 x22 x23 x24 x6 w1) := ⟨F.q3, F.q4, F.q5, F.q6, fun _ => (show _ from (by simp [hdep] : d_ 6 = true)), fun h => rfl, F.q9, F.q10, F.q11, fun h => ⟨(F.q12 h).1, (F.q12 h).2.1, (F.q12 h).2.2.1, (F.q12 h).2.2.2.1, (F.q12 h).2.2.2.2.1, (F.q12 h).2.2.2.2.2.1, (F.q12 h).2.2.2.2.2.2.1, rfl, (F.q12 h).2.2.2.2.2.2.2.2.1, (F.q12 h).2.2.2.2.2.2.2.2.2.1, (F.q12 h).2.2.2.2.2.2.2.2.2.2.1, (F.q12 h).2.2.2.2.2.2.2.2.2.2.2⟩, F.f0, F.f1, F.f2, F.f3, F.f4, F.f5, F.f6, fun _ => rfl, F.f8, F.f9, F.f10, F.f11, F.f12, F.st0⟩
      clear F
      go_simp
      exact HK.out _ _ ⟨_, _, _, _, _, _, _, _, _, _, _, _, _, rfl, HF.out⟩
    · obtain rfl := F.f7 (by simp [hdep])
      have HF : Hid (can3nF b b8 i k p1 p2 S0 (upd d_ 8) x13 x14 x15 x16 x17 x18 x19 (.bool false) (.bool false) x22 x23 x24 x6 w1) := ⟨F.q3, F.q4, F.q5, F.q6, F.q7, fun _ => (show _ from (by simp [hdep] : d_ 7 = true)), fun h => rfl, fun h => ⟨rfl, (F.q10 h).2⟩, fun h => ⟨rfl, (F.q11 h).2⟩, fun h => ⟨(F.q12 h).1, (F.q12 h).2.1, (F.q12 h).2.2.1, (F.q12 h).2.2.2.1, (F.q12 h).2.2.2.2.1, (F.q12 h).2.2.2.2.2.1, (F.q12 h).2.2.2.2.2.2.1, (F.q12 h).2.2.2.2.2.2.2.1, rfl, (F.q12 h).2.2.2.2.2.2.2.2.2.1, (F.q12 h).2.2.2.2.2.2.2.2.2.2.1, (F.q12 h).2.2.2.2.2.2.2.2.2.2.2⟩, F.f0, F.f1, F.f2, F.f3, F.f4, F.f5, F.f6, F.f7, fun _ => rfl, F.f9, F.f10, F.f11, F.f12, F.st0⟩
      clear F
      go_simp
      exact HK.out _ _ ⟨_, _, _, _, _, _, _, _, _, _, _, _, _, rfl, HF.out⟩
    · obtain rfl := F.f8 (by simp [hdep])
      have HF : Hid (can3nF b b8 i k p1 p2 S0 (upd d_ 9) x13 x14 x15 x16 x17 x18 x19 x20 (.bool false) (undef) x23 x24 x6 w1) := ⟨F.q3, F.q4, F.q5, F.q6, F.q7, F.q8, fun _ => (show _ from (by simp [hdep] : d_ 8 = true)), fun h => ⟨(F.q10 h).1, rfl⟩, F.q11, fun h => ⟨(F.q12 h).1, (F.q12 h).2.1, (F.q12 h).2.2.1, (F.q12 h).2.2.2.1, (F.q12 h).2.2.2.2.1, (F.q12 h).2.2.2.2.2.1, (F.q12 h).2.2.2.2.2.2.1, (F.q12 h).2.2.2.2.2.2.2.1, (F.q12 h).2.2.2.2.2.2.2.2.1, rfl, (F.q12 h).2.2.2.2.2.2.2.2.2.2.1, (F.q12 h).2.2.2.2.2.2.2.2.2.2.2⟩, F.f0, F.f1, F.f2, F.f3, F.f4, F.f5, F.f6, F.f7, F.f8, fun _ => rfl, F.f10, F.f11, F.f12, F.st0⟩
      clear F
      go_simp
      exact HK.out _ _ ⟨_, _, _, _, _, _, _, _, _, _, _, _, _, rfl, HF.out⟩
    · obtain rfl := F.f8 (by simp [hdep])
      obtain rfl := F.f9 (by simp [hdep])
      have HF : Hid (can3nF b b8 i k p1 p2 S0 (upd d_ 10) x13 x14 x15 x16 x17 x18 x19 x20 (.bool false) (undef) (undef) x24 x6 w1) := ⟨F.q3, F.q4, F.q5, F.q6, F.q7, F.q8, F.q9, fun _ => ⟨(show _ from (by simp [hdep] : d_ 8 = true)), (show _ from (by simp [hdep] : d_ 9 = true))⟩, fun h => ⟨(F.q11 h).1, rfl⟩, fun h => ⟨(F.q12 h).1, (F.q12 h).2.1, (F.q12 h).2.2.1, (F.q12 h).2.2.2.1, (F.q12 h).2.2.2.2.1, (F.q12 h).2.2.2.2.2.1, (F.q12 h).2.2.2.2.2.2.1, (F.q12 h).2.2.2.2.2.2.2.1, (F.q12 h).2.2.2.2.2.2.2.2.1, (F.q12 h).2.2.2.2.2.2.2.2.2.1, rfl, (F.q12 h).2.2.2.2.2.2.2.2.2.2.2⟩, F.f0, F.f1, F.f2, F.f3, F.f4, F.f5, F.f6, F.f7, F.f8, F.f9, fun _ => rfl, F.f11, F.f12, F.st0⟩
      clear F
      go_simp
      exact HK.out _ _ ⟨_, _, _, _, _, _, _, _, _, _, _, _, _, rfl, HF.out⟩
    · obtain rfl := F.f8 (by simp [hdep])
      obtain rfl := F.f10 (by simp [hdep])
      have HF : Hid (can3nF b b8 i k p1 p2 S0 (upd d_ 11) x13 x14 x15 x16 x17 x18 x19 x20 (.bool false) x22 (undef) (.bool false) x6 w1) := ⟨F.q3, F.q4, F.q5, F.q6, F.q7, F.q8, F.q9, F.q10, fun _ => ⟨(show _ from (by simp [hdep] : d_ 8 = true)), (show _ from (by simp [hdep] : d_ 10 = true))⟩, fun h => ⟨(F.q12 h).1, (F.q12 h).2.1, (F.q12 h).2.2.1, (F.q12 h).2.2.2.1, (F.q12 h).2.2.2.2.1, (F.q12 h).2.2.2.2.2.1, (F.q12 h).2.2.2.2.2.2.1, (F.q12 h).2.2.2.2.2.2.2.1, (F.q12 h).2.2.2.2.2.2.2.2.1, (F.q12 h).2.2.2.2.2.2.2.2.2.1, (F.q12 h).2.2.2.2.2.2.2.2.2.2.1, rfl⟩, F.f0, F.f1, F.f2, F.f3, F.f4, F.f5, F.f6, F.f7, F.f8, F.f9, F.f10, fun _ => rfl, F.f12, F.st0⟩
      clear F
      go_simp
      exact HK.out _ _ ⟨_, _, _, _, _, _, _, _, _, _, _, _, _, rfl, HF.out⟩
    · obtain rfl := F.f11 (by simp [hdep])
      have HF : Hid (can3nF b b8 i k p1 p2 S0 (upd d_ 12) x13 x14 x15 x16 x17 x18 x19 x20 x21 x22 x23 (.bool false) (.bool false) w1) := ⟨F.q3, F.q4, F.q5, F.q6, F.q7, F.q8, F.q9, F.q10, F.q11, fun _ => ⟨(show _ from (by simp [hdep] : d_ 0 = true)), (show _ from (by simp [hdep] : d_ 1 = true)), (show _ from (by simp [hdep] : d_ 2 = true)), (show _ from (by simp [hdep] : d_ 3 = true)), (show _ from (by simp [hdep] : d_ 4 = true)), (show _ from (by simp [hdep] : d_ 5 = true)), (show _ from (by simp [hdep] : d_ 6 = true)), (show _ from (by simp [hdep] : d_ 7 = true)), (show _ from (by simp [hdep] : d_ 8 = true)), (show _ from (by simp [hdep] : d_ 9 = true)), (show _ from (by simp [hdep] : d_ 10 = true)), (show _ from (by simp [hdep] : d_ 11 = true))⟩, F.f0, F.f1, F.f2, F.f3, F.f4, F.f5, F.f6, F.f7, F.f8, F.f9, F.f10, F.f11, fun _ => rfl, F.st0⟩
      clear F
      go_simp
      exact HK.out _ _ ⟨_, _, _, _, _, _, _, _, _, _, _, _, _, rfl, HF.out⟩
  · rintro d_ a_ w1 hall ⟨x13, x14, x15, x16, x17, x18, x19, x20, x21, x22, x23, x24, x6, rfl, F⟩
    have hall' : ∀ k, k < 13 → d_ k = true := hall
    obtain rfl := F.f0 (hall' 0 (by decide))
    obtain rfl := F.f1 (hall' 1 (by decide))
    obtain rfl := F.f2 (hall' 2 (by decide))
    obtain rfl := F.f3 (hall' 3 (by decide))
    obtain rfl := F.f4 (hall' 4 (by decide))
    obtain rfl := F.f5 (hall' 5 (by decide))
    obtain rfl := F.f6 (hall' 6 (by decide))
    obtain rfl := F.f7 (hall' 7 (by decide))
    obtain rfl := F.f8 (hall' 8 (by decide))
    obtain rfl := F.f9 (hall' 9 (by decide))
    obtain rfl := F.f10 (hall' 10 (by decide))
    obtain rfl := F.f11 (hall' 11 (by decide))
    obtain rfl := F.f12 (hall' 12 (by decide))
    have hst := F.st0
    exact HQ.out  w1 hst
end Go.Proofs.YtbnhngfegnhaiaaDoor
namespace Go.Proofs.YtbnhngfegnhaiaaDoor
open Go.RowKit
set_option linter.unusedVariables false
set_option linter.unusedSimpArgs false
theorem own_isE {T : Nat → Bool} {n m i k : Nat} (need : Int) (hm : m ≤ 10) : isE (fun a b => wI T (apart i k) n m n 0 (a * 10 + b)) n m need = isE (own (fun a b => T (a * 10 + b)) i k) n m need := by
  refine isE_congr (fun a b ha hb => ?_) need
  unfold wI own
  rw [show (a * 10 + b) / 10 = a by omega, show (a * 10 + b) % 10 = b by omega]
  simp [ha, hb]
set_option maxRecDepth 100000 in
set_option maxHeartbeats 8000000 in
theorem can72 {r : Rws} {al ar : Option Addr} {cl cr b i k : Nat} {T : Nat → Bool} {need : Int} {w : World} (h : IsRws w b r al cl ar cr T need) (hl1 : r.left.length ≤ 10) (hl2 : r.right.length ≤ 10) (hi : i < r.left.length) (hk : k < r.right.length) :
    Calls Tryd.prog 68 #[.pointer (some ⟨b, 0, none⟩), .int .i64 i, .int .i64 k] w fun e w' => e = .returned (.bool (canE (fun a b => T (a * 10 + b)) r.left.length r.right.length need i k)) ∧ Below w.heap.size w w' := by
  have HX := Lib.hid (alloc2 w #[.int .i64 i] #[.int .i64 k] 3 3)
  have H := Lib.hid (h.mono HX.out.2.2)
  have HL := Lib.hid (And.intro (And.intro hl1 hl2) (And.intro hi hk))
  have HCAN : Hid (canE (fun a b => T (a * 10 + b)) r.left.length r.right.length need i k = (T (i * 10 + k) && isE (fun a b => wI T (apart i k) r.left.length r.right.length r.left.length 0 (a * 10 + b)) r.left.length r.right.length need)) := by
    rw [Hid, own_isE need hl2]
    rfl
  have HCA := Lib.hid (fun (v : World) (b' : Nat) (hv : IsRws v b' r al cl ar cr (wI T (apart i k) r.left.length r.right.length r.left.length 0) need) => is71 hv hl1 hl2)
  have g1 : (i : Int) < 10 := by omega
  have g2 : (k : Int) < 10 := by omega
  clear h hl1 hl2 hi hk
  revert HCAN HCA
  generalize canE (fun a b => T (a * 10 + b)) r.left.length r.right.length need i k = z
  generalize isE (fun a b => wI T (apart i k) r.left.length r.right.length r.left.length 0 (a * 10 + b)) r.left.length r.right.length need = y
  intro HCAN HCA
  go_enter Tryd.func68, Tryd.ntmps68
  refine wp_seq_hid ?_
  intro K0 HK0
  go_wp2_with fail
  refine HK0.out _ _ ?_
  clear HK0 K0
  revert HX H
  generalize (w.alloc (.cells #[.int .i64 i] 3)).alloc (.cells #[.int .i64 k] 3) = w1
  generalize hp2 : w.heap.size + 1 = p2
  generalize hp1 : w.heap.size = p1
  intro HX H
  have HP := Lib.hid hp1
  clear hp1 hp2
  refine wp_seq_hid ?_
  intro K1 HK1
  go_wp2_with fail
  refine HK1.out _ _ ?_
  clear HK1 K1
  refine wp_seq_hid ?_
  intro K2 HK2
  go_wp2_with fail
  refine (without84 (f := 100) (p1 := p1) (p2 := p2) (P := apart i k) H.out HL.out.1.1 HL.out.1.2 cf83 ?_).mono ?_
  · intro v a c hv ha hc
    refine (apart83 (i := i) (k := k) (by rw [cell_of_heap ((hv.block _ (heap_lt HX.out.1)).trans HX.out.1)]; rfl) (by rw [cell_of_heap ((hv.block _ (heap_lt HX.out.2.1)).trans HX.out.2.1)]; rfl)).mono ?_
    rintro e v' ⟨rfl, rfl⟩
    exact ⟨rfl, Below.refl _ _⟩
  rintro e w2 ⟨b8, rfl, hbb, hR, hb⟩
  have HR := Lib.hid (And.intro hR hb)
  have HW : Hid (p1 ≤ w1.heap.size) := Nat.le_of_lt (heap_lt HX.out.1)
  clear hR hb hbb
  go_wp2_with fail
  refine HK2.out _ _ ?_
  clear HK2 K2
  have KF : Hid (∀ v, Below w2.heap.size w2 v → v.cell? ⟨p1, 0, none⟩ = some (.int .i64 i) ∧ v.cell? ⟨p2, 0, none⟩ = some (.int .i64 k) ∧ v.cell? ⟨b, 5 + i * 10 + k, none⟩ = some (.bool (T (i * 10 + k))) ∧ Below p1 w v) := fun v hv => by
    have h1 := HR.out.2.trans (hv.mono HR.out.2.size)
    refine ⟨by rw [cell_of_heap ((h1.block _ (heap_lt HX.out.1)).trans HX.out.1)]; rfl, by rw [cell_of_heap ((h1.block _ (heap_lt HX.out.2.1)).trans HX.out.2.1)]; rfl, ?_, HX.out.2.2.trans (h1.mono HW.out)⟩
    rw [Nat.add_assoc]
    have l1 := HL.out.1.1
    have l2 := HL.out.1.2
    have l3 := HL.out.2.1
    have l4 := HL.out.2.2
    exact (H.out.mono h1).tab (by omega)
  refine wp_seq_hid ?_
  intro K3 HK3
  cases ht : T (i * 10 + k)
  · have HZ : Hid (z = false) := by rw [Hid, HCAN.out, ht]; rfl
    rw [ht] at KF
    clear ht
    refine wpIn_wide.1 (can3n (b := b) (b8 := b8) (i := i) (k := k) (p1 := p1) (p2 := p2) (S0 := fun v => Below w2.heap.size w2 v) (by omega) (by omega) (by omega) (by omega) ?h0 ?l1 ?l2 ?l7 ?hQ)
    case h0 => exact (Below.refl _ _).drew
    case l1 => exact fun v h => (KF.out v h).1
    case l2 => exact fun v h => (KF.out v h).2.1
    case l7 => exact fun v h => (KF.out v h).2.2.1
    intro w3 h
    have HF := Lib.hid (KF.out w3 h).2.2.2
    clear h
    refine HK3.out _ _ ?_
    go_wp2_with fail
    go_ret
    exact ⟨by rw [HZ.out]; rfl, HF.out⟩
  · have HZ : Hid (z = y) := by rw [Hid, HCAN.out, ht]; rfl
    rw [ht] at KF
    clear ht
    refine wpIn_wide.1 (can3 (b := b) (b8 := b8) (i := i) (k := k) (p1 := p1) (p2 := p2) (z := y) (S0 := fun v => Below w2.heap.size w2 v) (S1 := fun _ v => Below w2.heap.size w2 v) (by omega) (by omega) (by omega) (by omega) ?h0_b ?l1_b ?l2_b ?l7_b ?c10_b ?hQ_b)
    case h0_b => exact (Below.refl _ _).drew
    case l1_b =>
      intro v h
      exact (KF.out v h).1
    case l2_b => exact fun v h => (KF.out v h).2.1
    case l7_b => exact fun v h => (KF.out v h).2.2.1
    case c10_b =>
      intro v h
      refine (HCA.out v b8 (HR.out.1.mono h)).mono ?_
      rintro e v' ⟨rfl, hb⟩
      exact ⟨(), rfl, h.trans (hb.mono h.size)⟩
    intro u w3 h
    have HF := Lib.hid (KF.out w3 h).2.2.2
    clear h
    refine HK3.out _ _ ?_
    go_wp2_with fail
    go_ret
    exact ⟨by rw [HZ.out]; rfl, HF.out⟩
end Go.Proofs.YtbnhngfegnhaiaaDoor
namespace Go.Proofs.YtbnhngfegnhaiaaDoor
open Go.RowKit
set_option linter.unusedVariables false
set_option linter.unusedSimpArgs false
theorem and_nat (a b : Nat) (ha : a < 2 ^ 62) (hb : b < 2 ^ 62) : bits .and .i64 (a : Int) (b : Int) = ((a &&& b : Nat) : Int) :=
  (bits_nat .i64 62 (by decide) (fun n h1 h2 => by rw [IntKind.wrap_i64]; omega) a b ha hb).1
theorem or_nat (a b : Nat) (ha : a < 2 ^ 62) (hb : b < 2 ^ 62) : bits .or .i64 (a : Int) (b : Int) = ((a ||| b : Nat) : Int) :=
  (bits_nat .i64 62 (by decide) (fun n h1 h2 => by rw [IntKind.wrap_i64]; omega) a b ha hb).2
theorem bit_test (n k : Nat) (hn : n < 2 ^ 62) : (bits .and .i64 ((n : Int) / 2 ^ k) 1 == 1) = n.testBit k := by
  have h1 : ((n : Int) / 2 ^ k) = ((n / 2 ^ k : Nat) : Int) := by simp
  have h2 : n / 2 ^ k < 2 ^ 62 := Nat.lt_of_le_of_lt (Nat.div_le_self _ _) hn
  rw [h1]
  have := and_nat (n / 2 ^ k) 1 h2 (by decide)
  rw [show ((1 : Nat) : Int) = 1 from rfl] at this
  rw [this, Nat.and_one_is_mod, Nat.testBit_eq_decide_div_mod_eq]
  rw [Bool.eq_iff_iff]
  simp
  omega
theorem bitsOf_lt (p : Nat → Bool) : ∀ n, bitsOf p n < 2 ^ n
  | 0 => by simp [bitsOf]
  | n + 1 => by
    unfold bitsOf
    have h1 := bitsOf_lt p n
    have h2 : 2 ^ n < 2 ^ (n + 1) := Nat.pow_lt_pow_right (by omega) (by omega)
    refine Nat.or_lt_two_pow (by omega) ?_
    split
    · exact h2
    · exact Nat.two_pow_pos _
theorem bitsOf_test (p : Nat → Bool) : ∀ (n k : Nat), (bitsOf p n).testBit k = (decide (k < n) && p k)
  | 0, k => by simp [bitsOf]
  | n + 1, k => by
    unfold bitsOf
    rw [Nat.testBit_or, bitsOf_test p n k]
    by_cases hp : p n = true
    · rw [if_pos hp, Nat.testBit_two_pow]
      by_cases h : n = k
      · subst h
        simp [hp]
      · have e : decide (k < n + 1) = decide (k < n) := by
          rw [Bool.eq_iff_iff]
          simp
          omega
        simp [h, e]
    · rw [if_neg hp, Nat.zero_testBit, Bool.or_false]
      by_cases h : n = k
      · subst h
        simp [hp]
      · have e : decide (k < n + 1) = decide (k < n) := by
          rw [Bool.eq_iff_iff]
          simp
          omega
        rw [e]
set_option maxRecDepth 100000 in
set_option maxHeartbeats 4000000 in
theorem union73 {a c bs : Nat} {w : World} (ha : a < 2 ^ 62) (hc : c < 2 ^ 62) (hq : w.heap[bs]? = some (.cells #[.int .i64 a, .int .i64 c] 77 (0, 0))) : Calls Tryd.prog 61 #[.slice (some ⟨bs, 0, none⟩) 2 2] w fun e w' => e = .returned (.int .i64 ((a ||| c : Nat) : Int)) ∧ w = w' := by
  have h1 : bits .or .i64 0 (a : Int) = (a : Int) := by
    have := or_nat 0 a (by decide) ha
    rw [Nat.zero_or] at this
    exact this
  have h2 : bits .or .i64 (a : Int) (c : Int) = ((a ||| c : Nat) : Int) := or_nat a c ha hc
  have s0 : w.cell? ⟨bs, 0, none⟩ = some (.int .i64 a) := by rw [cell_of_heap hq]; rfl
  have s1 : w.cell? ⟨bs, 1, none⟩ = some (.int .i64 c) := by rw [cell_of_heap hq]; rfl
  clear hq ha hc
  revert h2
  generalize a ||| c = d
  intro h2
  go_enter Tryd.func61, Tryd.ntmps61
  go_wp2_with fail
  go_loop [2, 7] (fun z i => ∃ k : Int, (k = 0 ∨ k = 1 ∨ k = 2) ∧ i = .int .i64 k ∧ z = .int .i64 (if 1 ≤ k then (if 2 ≤ k then (d : Int) else a) else 0)) (fun _ i => 2 - (intOf i).toNat)
  case atStart => exact ⟨0, .inl rfl, rfl, rfl⟩
  case round =>
    obtain ⟨k, hk, rfl, rfl⟩ := hrel
    rcases hk with rfl | rfl | rfl
    · have e : (if (1 : Int) ≤ 0 then (if (2 : Int) ≤ 0 then (d : Int) else a) else 0) = 0 := by simp
      rw [e]
      clear e
      go_wp2_with fail
      go_round
      case rel => exact ⟨1, .inr (.inl rfl), rfl, by simp⟩
      case measure => simp [intOf]
    · have e : (if (1 : Int) ≤ 1 then (if (2 : Int) ≤ 1 then (d : Int) else a) else 0) = a := by simp
      rw [e]
      clear e
      go_wp2_with fail
      go_round
      case rel => exact ⟨2, .inr (.inr rfl), rfl, by simp⟩
      case measure => simp [intOf]
    · have e : (if (1 : Int) ≤ 2 then (if (2 : Int) ≤ 2 then (d : Int) else a) else 0) = d := by simp
      rw [e]
      clear e
      go_wp2_with fail
      go_ret
      exact ⟨rfl, rfl⟩
theorem two_wrap {f : Nat} (h : f < 10) : IntKind.i64.wrap (2 ^ f) = ((2 ^ f : Nat) : Int) := by
  have : f = 0 ∨ f = 1 ∨ f = 2 ∨ f = 3 ∨ f = 4 ∨ f = 5 ∨ f = 6 ∨ f = 7 ∨ f = 8 ∨ f = 9 := by omega
  rcases this with rfl | rfl | rfl | rfl | rfl | rfl | rfl | rfl | rfl | rfl <;> decide +kernel
theorem two_lt {f : Nat} (h : f < 10) : 2 ^ f < 2 ^ 62 := Nat.pow_lt_pow_right (by omega) (by omega)
set_option maxRecDepth 100000 in
set_option maxHeartbeats 8000000 in
theorem cans51 {r : Rws} {al ar : Option Addr} {cl cr b i : Nat} {T : Nat → Bool} {need : Int} {w : World} (h : IsRws w b r al cl ar cr T need) (hl1 : r.left.length ≤ 10) (hl2 : r.right.length ≤ 10) (hi : i < r.left.length) :
    Calls Tryd.prog 31 #[.pointer (some ⟨b, 0, none⟩), .int .i64 i] w fun e w' => e = .returned (.int .i64 (bitsOf (canE (fun a b => T (a * 10 + b)) r.left.length r.right.length need i) r.right.length : Nat)) ∧ Below w.heap.size w w' := by
  have H := Lib.hid h
  have HC := Lib.hid (fun (v : World) (k : Nat) (hv : IsRws v b r al cl ar cr T need) (hk : k < r.right.length) => can72 hv hl1 hl2 hi hk)
  clear h
  revert HC
  generalize canE (fun a b => T (a * 10 + b)) r.left.length r.right.length need i = p
  intro HC
  have k1 : w.cell? ⟨b, 1, none⟩ = some (.slice ar r.right.length cr) := H.out.right
  go_enter Tryd.func31, Tryd.ntmps31
  refine wp_seq_hid ?_
  intro K0 HK0
  go_wp2_with fail
  refine HK0.out _ _ ?_
  clear HK0 K0
  refine wp_seq_hid ?_
  intro K1 HK1
  go_wp2_with fail
  clear k1
  go_loopw [4, 12] (fun z q wr => ∃ k : Nat, k ≤ r.right.length ∧ q = .int .i64 k ∧ z = .int .i64 (bitsOf p k : Nat) ∧ Hid (Below w.heap.size w wr)) (fun _ q _ => r.right.length - (intOf q).toNat)
  case atStart => exact ⟨0, by omega, rfl, rfl, Below.refl _ _⟩
  case round =>
    obtain ⟨k, hk, rfl, rfl, HW⟩ := hrel
    by_cases hlt : k < r.right.length
    · have HCK := Lib.hid (HC.out wr k (H.out.mono HW.out) hlt)
      have hbs : bitsOf p (k + 1) = bitsOf p k ||| (if p k then 2 ^ k else 0) := rfl
      have HBL : Hid (bitsOf p k < 2 ^ 62) := Nat.lt_trans (bitsOf_lt p k) (two_lt (by omega))
      have htw := two_wrap (f := k) (by omega)
      have HTL := Lib.hid (two_lt (f := k) (by omega))
      have HTW := Lib.hid htw
      clear htw
      revert HCK hbs HBL
      generalize bitsOf p k = s
      generalize hs2 : bitsOf p (k + 1) = s2
      cases hp : p k
      · intro HCK hbs HBL
        have e : s2 = s := by rw [hbs]; simp
        have HS2 := Lib.hid (e.symm.trans hs2.symm)
        clear hbs hs2 e hp
        go_wp2_with fail
        refine HCK.out.mono ?_
        rintro e w' ⟨rfl, hb⟩
        have HB2 := Lib.hid (HW.out.trans (hb.mono HW.out.size))
        clear hb
        go_wp2_with fail
        go_roundw
        case rel => exact ⟨k + 1, by omega, by go_num, by rw [← HS2.out], HB2.out⟩
        case measure => simp [intOf]; omega
      · intro HCK hbs HBL
        rw [if_pos rfl] at hbs
        have HS2 := Lib.hid (hbs.symm.trans hs2.symm)
        clear hbs hs2 hp
        have htw := HTW.out
        revert htw HTL HS2
        generalize (2 : Nat) ^ k = t
        intro HTL HS2 htw
        go_wp2_with fail
        refine HCK.out.mono ?_
        rintro e w' ⟨rfl, hb⟩
        have HB2 := Lib.hid (HW.out.trans (hb.mono HW.out.size))
        clear hb
        have HQ := Lib.hid (And.intro (World.alloc_heap_new w' (.cells #[.int .i64 s, .int .i64 t] 77)) (alloc_below w' (.cells #[.int .i64 s, .int .i64 t] 77)))
        have k9 : (k : Int) < 10 := by omega
        go_wp2_with fail
        refine (union73 HBL.out HTL.out HQ.out.1).mono ?_
        rintro e w5 ⟨rfl, rfl⟩
        have HB3 := Lib.hid (HB2.out.trans (HQ.out.2.mono HB2.out.size))
        clear htw k9
        go_wp2_with fail
        go_roundw
        case rel => exact ⟨k + 1, by omega, by go_num, by rw [← HS2.out], HB3.out⟩
        case measure => simp [intOf]; omega
    · obtain rfl : k = r.right.length := by omega
      go_wp2_with fail
      refine HK1.out _ _ ?_
      go_wp2_with fail
      go_ret
      exact ⟨rfl, HW.out⟩
end Go.Proofs.YtbnhngfegnhaiaaDoor
namespace Go.Proofs.YtbnhngfegnhaiaaDoor
open Go.RowKit
set_option linter.unusedVariables false
set_option linter.unusedSimpArgs false
theorem in50 (n lo hi : Int) (w : World) :
    Calls Tryd.prog 50 #[.int .i64 n, .int .i64 lo, .int .i64 hi] w fun e w' => e = .returned (.bool (inR n lo hi)) ∧ w = w' := by
  unfold inR
  go_enter Tryd.func50, Tryd.ntmps50
  go_wp2
  all_goals go_ret
  all_goals refine ⟨ret_bool ?_, rfl⟩
  · have h : lo ≤ n := by assumption
    simp [h]
  · have h : n < lo := by assumption
    simp; omega
theorem within86 (n lo hi : Int) (w : World) :
    Calls Tryd.prog 86 #[.int .i64 n, .int .i64 lo, .int .i64 hi] w fun e w' => e = .returned (.bool (inR n lo hi)) ∧ w = w' := by
  unfold inR
  go_enter Tryd.func86, Tryd.ntmps86
  go_wp2
  all_goals go_ret
  all_goals refine ⟨ret_bool ?_, rfl⟩
  · have h : lo ≤ n := by assumption
    simp [h]
  · have h : n < lo := by assumption
    simp; omega
theorem need85_yes (e : Int) (w : World) : Calls Tryd.prog 85 #[.bool true, .int .i64 e] w fun en w' => en = .returned (.tuple #[]) ∧ w = w' := by
  go_enter Tryd.func85, Tryd.ntmps85
  go_wp2
  go_end0
  exact ⟨rfl, rfl⟩
theorem need85_no (e : Int) (w : World) : Calls Tryd.prog 85 #[.bool false, .int .i64 e] w fun en w' => en = .panicked [{ v := .iface 151 (.agg #[.int .i64 e]), recovered := false }] ∧ w = w' := by
  go_enter Tryd.func85, Tryd.ntmps85
  go_wp2
  exact ⟨rfl, rfl, rfl⟩
theorem nan143 (n : Int) (w : World) : Calls Tryd.prog 143 #[.int .i64 n] w fun e w' => e = .returned (.bool false) ∧ w = w' := by
  go_enter Tryd.func143, Tryd.ntmps143
  go_wp2_with fail
  go_ret
  exact ⟨ret_bool (by simp), rfl⟩
/-- How two numbers compare. -/
def cmpI (a b : Int) : Int := if a < b then -1 else if b < a then 1 else 0
theorem cmp139 (a b : Int) (w : World) : Calls Tryd.prog 139 #[.int .i64 a, .int .i64 b] w fun e w' => e = .returned (.int .i64 (cmpI a b)) ∧ w = w' := by
  unfold cmpI
  have h3 : (a < b ∧ ¬ b < a) ∨ (¬ a < b ∧ b < a) ∨ (¬ a < b ∧ ¬ b < a) := by omega
  rcases h3 with ⟨h1, h2⟩ | ⟨h1, h2⟩ | ⟨h1, h2⟩
  all_goals
    go_enter Tryd.func139, Tryd.ntmps139
    go_wp2_with fail
    refine (nan143 a w).mono ?_
    rintro e w' ⟨rfl, rfl⟩
    go_wp2_with fail
    refine (nan143 b w).mono ?_
    rintro e w' ⟨rfl, rfl⟩
    go_wp2_with fail
    go_ret
    refine ⟨?_, rfl⟩
    simp [h1, h2]
theorem many113 {x : Nat} (hx : x < 1024) (w : World) : Calls Tryd.prog 113 #[.int .u64 x] w fun e w' => e = .returned (.int .i64 (ones x.testBit 10)) ∧ w = w' := by
  have HX := Lib.hid hx
  clear hx
  go_enter Tryd.func113, Tryd.ntmps113
  go_wp2_with fail
  refine (ones32 HX.out _).mono ?_
  rintro e w' ⟨rfl, rfl⟩
  go_wp2_with fail
  go_ret
  exact ⟨rfl, rfl⟩
theorem and_u64 (a b : Nat) (ha : a < 2 ^ 62) (hb : b < 2 ^ 62) : bits .and .u64 (a : Int) (b : Int) = ((a &&& b : Nat) : Int) :=
  (bits_nat .u64 62 (by decide) (fun n h1 h2 => by rw [IntKind.wrap_u64]; omega) a b ha hb).1
theorem or_u64 (a b : Nat) (ha : a < 2 ^ 62) (hb : b < 2 ^ 62) : bits .or .u64 (a : Int) (b : Int) = ((a ||| b : Nat) : Int) :=
  (bits_nat .u64 62 (by decide) (fun n h1 h2 => by rw [IntKind.wrap_u64]; omega) a b ha hb).2
theorem bit_test_u (n k : Nat) (hn : n < 2 ^ 62) : (bits .and .u64 ((n : Int) / 2 ^ k) 1 == 1) = n.testBit k := by
  have h1 : ((n : Int) / 2 ^ k) = ((n / 2 ^ k : Nat) : Int) := by simp
  have h2 : n / 2 ^ k < 2 ^ 62 := Nat.lt_of_le_of_lt (Nat.div_le_self _ _) hn
  rw [h1]
  have := and_u64 (n / 2 ^ k) 1 h2 (by decide)
  rw [show ((1 : Nat) : Int) = 1 from rfl] at this
  rw [this, Nat.and_one_is_mod, Nat.testBit_eq_decide_div_mod_eq]
  rw [Bool.eq_iff_iff]
  simp
  omega
theorem has118 {s k : Nat} (hs : s < 1024) (hk : k < 60) (w : World) : Calls Tryd.prog 118 #[.int .u64 s, .int .i64 k] w fun e w' => e = .returned (.bool (s.testBit k)) ∧ w = w' := by
  have HB := Lib.hid (bit_test_u s k (by omega))
  clear hs
  go_enter Tryd.func118, Tryd.ntmps118
  go_wp2_with fail
  go_ret
  exact ⟨ret_bool HB.out, rfl⟩
set_option maxRecDepth 100000 in
set_option maxHeartbeats 4000000 in
theorem union135 {a c bs : Nat} {w : World} (ha : a < 1024) (hc : c < 1024) (hq : w.heap[bs]? = some (.cells #[.int .u64 a, .int .u64 c] 104 (0, 0))) : Calls Tryd.prog 135 #[.slice (some ⟨bs, 0, none⟩) 2 2] w fun e w' => e = .returned (.int .u64 ((a ||| c : Nat) : Int)) ∧ w = w' := by
  have h1 : bits .or .u64 0 (a : Int) = (a : Int) := by
    have := or_u64 0 a (by decide) (by omega)
    rw [Nat.zero_or] at this
    exact this
  have h2 : bits .or .u64 (a : Int) (c : Int) = ((a ||| c : Nat) : Int) := or_u64 a c (by omega) (by omega)
  have s0 : w.cell? ⟨bs, 0, none⟩ = some (.int .u64 a) := by rw [cell_of_heap hq]; rfl
  have s1 : w.cell? ⟨bs, 1, none⟩ = some (.int .u64 c) := by rw [cell_of_heap hq]; rfl
  clear hq ha hc
  revert h2
  generalize a ||| c = d
  intro h2
  go_enter Tryd.func135, Tryd.ntmps135
  go_wp2_with fail
  go_loop [2, 7] (fun z i => ∃ k : Int, (k = 0 ∨ k = 1 ∨ k = 2) ∧ i = .int .i64 k ∧ z = .int .u64 (if 1 ≤ k then (if 2 ≤ k then (d : Int) else a) else 0)) (fun _ i => 2 - (intOf i).toNat)
  case atStart => exact ⟨0, .inl rfl, rfl, rfl⟩
  case round =>
    obtain ⟨k, hk, rfl, rfl⟩ := hrel
    rcases hk with rfl | rfl | rfl
    · have e : (if (1 : Int) ≤ 0 then (if (2 : Int) ≤ 0 then (d : Int) else a) else 0) = 0 := by simp
      rw [e]
      clear e
      go_wp2_with fail
      go_round
      case rel => exact ⟨1, .inr (.inl rfl), rfl, by simp⟩
      case measure => simp [intOf]
    · have e : (if (1 : Int) ≤ 1 then (if (2 : Int) ≤ 1 then (d : Int) else a) else 0) = a := by simp
      rw [e]
      clear e
      go_wp2_with fail
      go_round
      case rel => exact ⟨2, .inr (.inr rfl), rfl, by simp⟩
      case measure => simp [intOf]
    · have e : (if (1 : Int) ≤ 2 then (if (2 : Int) ≤ 2 then (d : Int) else a) else 0) = d := by simp
      rw [e]
      clear e
      go_wp2_with fail
      go_ret
      exact ⟨rfl, rfl⟩
theorem pow_step {j : Nat} (h : j < 10) : wrap64 (2 * ((2 ^ j : Nat) : Int)) = ((2 ^ (j + 1) : Nat) : Int) := by
  have h1 : 2 ^ j ≤ 2 ^ 10 := Nat.pow_le_pow_right (by omega) (by omega)
  have h2 : 2 ^ (j + 1) = 2 * 2 ^ j := by rw [Nat.pow_succ]; omega
  rw [h2]
  generalize 2 ^ j = p at h1
  have h3 : p ≤ 1024 := h1
  unfold wrap64
  omega
set_option maxRecDepth 100000 in
set_option maxHeartbeats 4000000 in
theorem power62 {k : Nat} (hk : k ≤ 10) (w : World) : Calls Tryd.prog 62 #[.int .i64 k] w fun e w' => e = .returned (.int .i64 ((2 ^ k : Nat) : Int)) ∧ w = w' := by
  have hk2 : (k : Int) ≤ 10 := by omega
  go_enter Tryd.func62, Tryd.ntmps62
  go_wp2_with fail
  go_loop [3, 4] (fun x i => ∃ j : Nat, j ≤ k ∧ x = .int .i64 ((2 ^ j : Nat) : Int) ∧ i = .int .i64 (j : Int)) (fun _ i => k - (intOf i).toNat)
  case atStart => exact ⟨0, Nat.zero_le _, rfl, rfl⟩
  case round =>
    obtain ⟨j, hj, rfl, rfl⟩ := hrel
    by_cases hlt : j < k
    · have hlt' : (j : Int) < k := by omega
      have hj10 : (j : Int) < 10 := by omega
      have HP := Lib.hid (pow_step (j := j) (by omega))
      revert HP
      generalize ((2 ^ j : Nat) : Int) = p0
      intro HP
      go_wp2_with fail
      go_round
      case rel => exact ⟨j + 1, by omega, congrArg (Value.int .i64) HP.out, by go_num⟩
      case measure => simp [intOf]; omega
    · have hlt' : ¬ (j : Int) < k := by omega
      have HJ := Lib.hid (congrArg (fun z : Nat => ((2 ^ z : Nat) : Int)) (by omega : j = k))
      revert HJ
      generalize ((2 ^ j : Nat) : Int) = p0
      intro HJ
      go_wp2_with fail
      go_ret
      exact ⟨congrArg (fun z => Ending.returned (.int .i64 z)) HJ.out, rfl⟩
set_option maxRecDepth 100000 in
set_option maxHeartbeats 4000000 in
theorem power111 {k : Nat} (hk : k ≤ 10) (w : World) : Calls Tryd.prog 111 #[.int .i64 k] w fun e w' => e = .returned (.int .i64 ((2 ^ k : Nat) : Int)) ∧ w = w' := by
  have hk2 : (k : Int) ≤ 10 := by omega
  go_enter Tryd.func111, Tryd.ntmps111
  go_wp2_with fail
  go_loop [3, 4] (fun x i => ∃ j : Nat, j ≤ k ∧ x = .int .i64 ((2 ^ j : Nat) : Int) ∧ i = .int .i64 (j : Int)) (fun _ i => k - (intOf i).toNat)
  case atStart => exact ⟨0, Nat.zero_le _, rfl, rfl⟩
  case round =>
    obtain ⟨j, hj, rfl, rfl⟩ := hrel
    by_cases hlt : j < k
    · have hlt' : (j : Int) < k := by omega
      have hj10 : (j : Int) < 10 := by omega
      have HP := Lib.hid (pow_step (j := j) (by omega))
      revert HP
      generalize ((2 ^ j : Nat) : Int) = p0
      intro HP
      go_wp2_with fail
      go_round
      case rel => exact ⟨j + 1, by omega, congrArg (Value.int .i64) HP.out, by go_num⟩
      case measure => simp [intOf]; omega
    · have hlt' : ¬ (j : Int) < k := by omega
      have HJ := Lib.hid (congrArg (fun z : Nat => ((2 ^ z : Nat) : Int)) (by omega : j = k))
      revert HJ
      generalize ((2 ^ j : Nat) : Int) = p0
      intro HJ
      go_wp2_with fail
      go_ret
      exact ⟨congrArg (fun z => Ending.returned (.int .i64 z)) HJ.out, rfl⟩
/-- A number of two is in a set. -/
theorem bit_quo {s k p : Nat} (hs : s < 1024) (hp : p = 2 ^ k) : ((wrap64 ((s : Int) / (p : Int))).tmod 2 == 1) = s.testBit k := by
  have h1 : (s : Int) / (p : Int) = ((s / p : Nat) : Int) := (Int.natCast_ediv s p).symm
  have h3 : s / p ≤ s := Nat.div_le_self _ _
  have h4 : wrap64 ((s / p : Nat) : Int) = ((s / p : Nat) : Int) := by
    generalize s / p = z at h3
    unfold wrap64; omega
  have h2 : ((s / p : Nat) : Int).tmod 2 = ((s / p % 2 : Nat) : Int) := rfl
  rw [h1, h4, h2, Nat.testBit_eq_decide_div_mod_eq, hp]
  have : s / 2 ^ k % 2 = 0 ∨ s / 2 ^ k % 2 = 1 := by omega
  rcases this with h | h <;> rw [h] <;> rfl
set_option maxRecDepth 100000 in
set_option maxHeartbeats 4000000 in
theorem has99 {s k : Nat} (hs : s < 1024) (hk : k < 10) (w : World) : Calls Tryd.prog 99 #[.int .i64 s, .int .i64 k] w fun e w' => e = .returned (.bool (s.testBit k)) ∧ w = w' := by
  have HK := Lib.hid hk
  have hp : (0 : Int) < ((2 ^ k : Nat) : Int) := by have := Nat.two_pow_pos k; omega
  have HB := Lib.hid (bit_quo (k := k) hs rfl)
  have HP := Lib.hid (power111 (k := k) (by omega) w)
  revert HB HP hp
  generalize 2 ^ k = p
  intro hp HB HP
  have hp0 : ¬ (p : Int) = 0 := by omega
  clear hs hk
  go_enter Tryd.func99, Tryd.ntmps99
  go_wp2_with fail
  refine HP.out.mono ?_
  rintro e w' ⟨rfl, rfl⟩
  go_wp2_with fail
  go_ret
  exact ⟨ret_bool HB.out, rfl⟩
end Go.Proofs.YtbnhngfegnhaiaaDoor
namespace Go.Proofs.YtbnhngfegnhaiaaDoor
open Go.RowKit
set_option linter.unusedVariables false
set_option linter.unusedSimpArgs false
theorem cf72 (args : Array Value) (w : World) : (callFunc 72 args).run Tryd.prog w = .ok (.enter 72 args) w := by simp [callFunc, Tryd.func72, Tryd.f72, go_sem]
theorem beqI_yes {a x : Int} (h : a = x) : (a == x) = true := by
  subst h
  simp
theorem beqI_no {a x : Int} (h : ¬ a = x) : (a == x) = false := by
  simpa using h
set_option maxRecDepth 100000 in
set_option maxHeartbeats 4000000 in
theorem hid72 {x y : Int} {a b p1 p2 : Nat} {w : World} (h1 : w.cell? ⟨p1, 0, none⟩ = some (.int .i64 x)) (h2 : w.cell? ⟨p2, 0, none⟩ = some (.int .i64 y)) :
    Calls Tryd.prog 72 #[.int .i64 a, .int .i64 b, .pointer (some ⟨p1, 0, none⟩), .pointer (some ⟨p2, 0, none⟩)] w fun e w' => e = .returned (.bool (decide ((a : Int) = x) || decide ((b : Int) = y))) ∧ w = w' := by
  by_cases c1 : (a : Int) = x <;> by_cases c2 : (b : Int) = y
  all_goals
    have e3 := (by first | exact beqI_yes c1 | exact beqI_no c1)
    have e4 := (by first | exact beqI_yes c2 | exact beqI_no c2)
    have E := Lib.hid (And.intro c1 c2)
    clear c1 c2
    go_enter Tryd.func72, Tryd.ntmps72
    go_wp2_with fail
    go_ret
    exact ⟨ret_bool (by simp [E.out.1, E.out.2]), rfl⟩
theorem hid_isE {T : Nat → Bool} {n m : Nat} {x y : Int} (need : Int) (hm : m ≤ 10) : isE (fun a b => wI T (fun i k => decide ((i : Int) = x) || decide ((k : Int) = y)) n m n 0 (a * 10 + b)) n m need = hidE (fun a b => T (a * 10 + b)) n m need x y := by
  refine isE_congr (fun a b ha hb => ?_) need
  unfold wI hidF
  rw [show (a * 10 + b) / 10 = a by omega, show (a * 10 + b) % 10 = b by omega]
  simp [ha, hb]
set_option maxRecDepth 100000 in
set_option maxHeartbeats 8000000 in
theorem hidden33 {r : Rws} {al ar : Option Addr} {cl cr b : Nat} {x y : Int} {T : Nat → Bool} {need : Int} {w : World} (h : IsRws w b r al cl ar cr T need) (hl1 : r.left.length ≤ 10) (hl2 : r.right.length ≤ 10) :
    Calls Tryd.prog 33 #[.pointer (some ⟨b, 0, none⟩), .int .i64 x, .int .i64 y] w fun e w' => e = .returned (.bool (hidE (fun a b => T (a * 10 + b)) r.left.length r.right.length need x y)) ∧ Below w.heap.size w w' := by
  have hmf : ∀ (fn : Fn) (first cap : Array Value) (w : World), (Instr.makeFunc fn first cap).run Tryd.prog w = .ok (.func fn first cap) w := fun _ _ _ _ => rfl
  have HX := Lib.hid (alloc2 w #[.int .i64 x] #[.int .i64 y] 3 3)
  have H := Lib.hid (h.mono HX.out.2.2)
  have HL := Lib.hid (And.intro hl1 hl2)
  have HCA := Lib.hid (fun (v : World) (b' : Nat) (hv : IsRws v b' r al cl ar cr (wI T (fun i k => decide ((i : Int) = x) || decide ((k : Int) = y)) r.left.length r.right.length r.left.length 0) need) => is71 hv hl1 hl2)
  have HE := Lib.hid (hid_isE (T := T) (n := r.left.length) (x := x) (y := y) need hl2)
  clear h hl1 hl2
  revert HCA HE
  generalize hidE (fun a b => T (a * 10 + b)) r.left.length r.right.length need x y = z
  generalize isE (fun a b => wI T (fun i k => decide ((i : Int) = x) || decide ((k : Int) = y)) r.left.length r.right.length r.left.length 0 (a * 10 + b)) r.left.length r.right.length need = q
  intro HCA HE
  go_enter Tryd.func33, Tryd.ntmps33
  refine wp_seq_hid ?_
  intro K0 HK0
  go_wp2_with fail
  refine HK0.out _ _ ?_
  clear HK0 K0
  revert HX H
  generalize (w.alloc (.cells #[.int .i64 x] 3)).alloc (.cells #[.int .i64 y] 3) = w1
  generalize hp2 : w.heap.size + 1 = p2
  generalize hp1 : w.heap.size = p1
  intro HX H
  have HP := Lib.hid hp1
  clear hp1 hp2
  go_wp2_with fail
  refine (without84 (f := 72) (p1 := p1) (p2 := p2) (P := fun i k => decide ((i : Int) = x) || decide ((k : Int) = y)) H.out HL.out.1 HL.out.2 cf72 ?_).mono ?_
  · intro v a c hv ha hc
    refine (hid72 (x := x) (y := y) (by rw [cell_of_heap ((hv.block _ (heap_lt HX.out.1)).trans HX.out.1)]; rfl) (by rw [cell_of_heap ((hv.block _ (heap_lt HX.out.2.1)).trans HX.out.2.1)]; rfl)).mono ?_
    rintro e v' ⟨rfl, rfl⟩
    exact ⟨rfl, Below.refl _ _⟩
  rintro e w2 ⟨b8, rfl, hbb, hR, hb⟩
  have HR := Lib.hid (And.intro hR hb)
  have HW : Hid (p1 ≤ w1.heap.size) := Nat.le_of_lt (heap_lt HX.out.1)
  clear hR hb hbb
  go_wp2_with fail
  refine (HCA.out w2 b8 HR.out.1).mono ?_
  rintro e w3 ⟨rfl, hb⟩
  have HB := Lib.hid hb
  clear hb
  go_wp2_with fail
  go_ret
  exact ⟨by rw [← HE.out]; rfl, HX.out.2.2.trans ((HR.out.2.trans (HB.out.mono HR.out.2.size)).mono HW.out)⟩
end Go.Proofs.YtbnhngfegnhaiaaDoor
namespace Go.Proofs.YtbnhngfegnhaiaaDoor
open Go.RowKit
set_option linter.unusedVariables false
set_option linter.unusedSimpArgs false
def tab64 : List Int := [0, 1, 56, 2, 57, 49, 28, 3, 61, 58, 42, 50, 38, 29, 17, 4, 62, 47, 59, 36, 45, 43, 51, 22, 53, 39, 33, 30, 24, 18, 12, 5, 63, 55, 48, 27, 60, 41, 37, 16, 46, 35, 44, 21, 52, 32, 23, 11, 54, 26, 40, 15, 34, 20, 31, 10, 25, 14, 19, 9, 13, 8, 7, 6]
/-- The library's table lies where it does. -/
def TabOk (w : World) : Prop := 2 ≤ w.heap.size ∧ ∀ i, i < 64 → w.cell? ⟨1, i, none⟩ = some (.int .u8 (tab64.getD i 0))
theorem TabOk.mono {w w' : World} (h : TabOk w) (hb : Below w.heap.size w w') : TabOk w' := ⟨Nat.le_trans h.1 hb.size, fun i hi => by
  rw [← h.2 i hi]
  exact hb.cell (show 1 < w.heap.size from h.1)⟩
set_option maxRecDepth 100000 in
set_option maxHeartbeats 4000000 in
theorem tz74_0 {w : World} (h : TabOk w) : Calls Tryd.prog 74 #[.int .u64 1] w fun e w' => e = .returned (.int .i64 0) ∧ w' = w := by
  have c : w.cell? ⟨1, 0, none⟩ = some (.int .u8 0) := h.2 0 (by decide)
  have hd : IntKind.u64.wrap (bits .and .u64 1 (IntKind.u64.wrap (-1)) * 285870213051353865) / 288230376151711744 = 0 := by decide +kernel
  clear h
  go_enter Tryd.func74, Tryd.ntmps74
  go_wp2_with fail
  go_ret
  exact ⟨rfl, rfl⟩
set_option maxRecDepth 100000 in
set_option maxHeartbeats 4000000 in
theorem tz74_1 {w : World} (h : TabOk w) : Calls Tryd.prog 74 #[.int .u64 2] w fun e w' => e = .returned (.int .i64 1) ∧ w' = w := by
  have c : w.cell? ⟨1, 1, none⟩ = some (.int .u8 1) := h.2 1 (by decide)
  have hd : IntKind.u64.wrap (bits .and .u64 2 (IntKind.u64.wrap (-2)) * 285870213051353865) / 288230376151711744 = 1 := by decide +kernel
  clear h
  go_enter Tryd.func74, Tryd.ntmps74
  go_wp2_with fail
  go_ret
  exact ⟨rfl, rfl⟩
set_option maxRecDepth 100000 in
set_option maxHeartbeats 4000000 in
theorem tz74_2 {w : World} (h : TabOk w) : Calls Tryd.prog 74 #[.int .u64 4] w fun e w' => e = .returned (.int .i64 2) ∧ w' = w := by
  have c : w.cell? ⟨1, 3, none⟩ = some (.int .u8 2) := h.2 3 (by decide)
  have hd : IntKind.u64.wrap (bits .and .u64 4 (IntKind.u64.wrap (-4)) * 285870213051353865) / 288230376151711744 = 3 := by decide +kernel
  clear h
  go_enter Tryd.func74, Tryd.ntmps74
  go_wp2_with fail
  go_ret
  exact ⟨rfl, rfl⟩
set_option maxRecDepth 100000 in
set_option maxHeartbeats 4000000 in
theorem tz74_3 {w : World} (h : TabOk w) : Calls Tryd.prog 74 #[.int .u64 8] w fun e w' => e = .returned (.int .i64 3) ∧ w' = w := by
  have c : w.cell? ⟨1, 7, none⟩ = some (.int .u8 3) := h.2 7 (by decide)
  have hd : IntKind.u64.wrap (bits .and .u64 8 (IntKind.u64.wrap (-8)) * 285870213051353865) / 288230376151711744 = 7 := by decide +kernel
  clear h
  go_enter Tryd.func74, Tryd.ntmps74
  go_wp2_with fail
  go_ret
  exact ⟨rfl, rfl⟩
set_option maxRecDepth 100000 in
set_option maxHeartbeats 4000000 in
theorem tz74_4 {w : World} (h : TabOk w) : Calls Tryd.prog 74 #[.int .u64 16] w fun e w' => e = .returned (.int .i64 4) ∧ w' = w := by
  have c : w.cell? ⟨1, 15, none⟩ = some (.int .u8 4) := h.2 15 (by decide)
  have hd : IntKind.u64.wrap (bits .and .u64 16 (IntKind.u64.wrap (-16)) * 285870213051353865) / 288230376151711744 = 15 := by decide +kernel
  clear h
  go_enter Tryd.func74, Tryd.ntmps74
  go_wp2_with fail
  go_ret
  exact ⟨rfl, rfl⟩
set_option maxRecDepth 100000 in
set_option maxHeartbeats 4000000 in
theorem tz74_5 {w : World} (h : TabOk w) : Calls Tryd.prog 74 #[.int .u64 32] w fun e w' => e = .returned (.int .i64 5) ∧ w' = w := by
  have c : w.cell? ⟨1, 31, none⟩ = some (.int .u8 5) := h.2 31 (by decide)
  have hd : IntKind.u64.wrap (bits .and .u64 32 (IntKind.u64.wrap (-32)) * 285870213051353865) / 288230376151711744 = 31 := by decide +kernel
  clear h
  go_enter Tryd.func74, Tryd.ntmps74
  go_wp2_with fail
  go_ret
  exact ⟨rfl, rfl⟩
set_option maxRecDepth 100000 in
set_option maxHeartbeats 4000000 in
theorem tz74_6 {w : World} (h : TabOk w) : Calls Tryd.prog 74 #[.int .u64 64] w fun e w' => e = .returned (.int .i64 6) ∧ w' = w := by
  have c : w.cell? ⟨1, 63, none⟩ = some (.int .u8 6) := h.2 63 (by decide)
  have hd : IntKind.u64.wrap (bits .and .u64 64 (IntKind.u64.wrap (-64)) * 285870213051353865) / 288230376151711744 = 63 := by decide +kernel
  clear h
  go_enter Tryd.func74, Tryd.ntmps74
  go_wp2_with fail
  go_ret
  exact ⟨rfl, rfl⟩
set_option maxRecDepth 100000 in
set_option maxHeartbeats 4000000 in
theorem tz74_7 {w : World} (h : TabOk w) : Calls Tryd.prog 74 #[.int .u64 128] w fun e w' => e = .returned (.int .i64 7) ∧ w' = w := by
  have c : w.cell? ⟨1, 62, none⟩ = some (.int .u8 7) := h.2 62 (by decide)
  have hd : IntKind.u64.wrap (bits .and .u64 128 (IntKind.u64.wrap (-128)) * 285870213051353865) / 288230376151711744 = 62 := by decide +kernel
  clear h
  go_enter Tryd.func74, Tryd.ntmps74
  go_wp2_with fail
  go_ret
  exact ⟨rfl, rfl⟩
set_option maxRecDepth 100000 in
set_option maxHeartbeats 4000000 in
theorem tz74_8 {w : World} (h : TabOk w) : Calls Tryd.prog 74 #[.int .u64 256] w fun e w' => e = .returned (.int .i64 8) ∧ w' = w := by
  have c : w.cell? ⟨1, 61, none⟩ = some (.int .u8 8) := h.2 61 (by decide)
  have hd : IntKind.u64.wrap (bits .and .u64 256 (IntKind.u64.wrap (-256)) * 285870213051353865) / 288230376151711744 = 61 := by decide +kernel
  clear h
  go_enter Tryd.func74, Tryd.ntmps74
  go_wp2_with fail
  go_ret
  exact ⟨rfl, rfl⟩
set_option maxRecDepth 100000 in
set_option maxHeartbeats 4000000 in
theorem tz74_9 {w : World} (h : TabOk w) : Calls Tryd.prog 74 #[.int .u64 512] w fun e w' => e = .returned (.int .i64 9) ∧ w' = w := by
  have c : w.cell? ⟨1, 59, none⟩ = some (.int .u8 9) := h.2 59 (by decide)
  have hd : IntKind.u64.wrap (bits .and .u64 512 (IntKind.u64.wrap (-512)) * 285870213051353865) / 288230376151711744 = 59 := by decide +kernel
  clear h
  go_enter Tryd.func74, Tryd.ntmps74
  go_wp2_with fail
  go_ret
  exact ⟨rfl, rfl⟩
set_option maxRecDepth 100000 in
theorem tz74 {w : World} {k : Nat} (hk : k < 10) (h : TabOk w) : Calls Tryd.prog 74 #[.int .u64 ((2 ^ k : Nat) : Int)] w fun e w' => e = .returned (.int .i64 k) ∧ w' = w := by
  match k, hk with
  | 0, _ => exact tz74_0 h
  | 1, _ => exact tz74_1 h
  | 2, _ => exact tz74_2 h
  | 3, _ => exact tz74_3 h
  | 4, _ => exact tz74_4 h
  | 5, _ => exact tz74_5 h
  | 6, _ => exact tz74_6 h
  | 7, _ => exact tz74_7 h
  | 8, _ => exact tz74_8 h
  | 9, _ => exact tz74_9 h
  | k + 10, hk => exact absurd hk (by omega)
set_option maxRecDepth 100000 in
theorem tz34 {w : World} {k : Nat} (hk : k < 10) (h : TabOk w) : Calls Tryd.prog 34 #[.int .u64 ((2 ^ k : Nat) : Int)] w fun e w' => e = .returned (.int .i64 k) ∧ w' = w := by
  have HC := Lib.hid (tz74 hk h)
  clear h hk
  revert HC
  generalize ((2 ^ k : Nat) : Int) = x
  intro HC
  go_enter Tryd.func34, Tryd.ntmps34
  go_wp2_with fail
  refine HC.out.mono ?_
  rintro e w' ⟨rfl, rfl⟩
  go_wp2_with fail
  go_ret
  exact ⟨rfl, rfl⟩
end Go.Proofs.YtbnhngfegnhaiaaDoor
namespace Go.Proofs.YtbnhngfegnhaiaaDoor
open Go.RowKit
set_option linter.unusedVariables false
set_option linter.unusedSimpArgs false
def FreshP (W : World) (p : Nat) (x y : Int) (v : World) : Prop := W.heap.size ≤ p ∧ v.heap[p]? = some (.cells #[.int .i64 x, .int .i64 y] 24 (0, 0))
theorem FreshP.mono {W v v' : World} {p : Nat} {x y : Int} (h : FreshP W p x y v) (hb : Below v.heap.size v v') : FreshP W p x y v' := ⟨h.1, (hb.block _ (heap_lt h.2)).trans h.2⟩
theorem FreshP.put {W v : World} {p q : Nat} {x y : Int} (h : FreshP W p x y v) (hne : q ≠ p) (z1 z2 : Value) : FreshP W p x y ((v.setCell ⟨q, 0, none⟩ z1).setCell ⟨q, 1, none⟩ z2) := ⟨h.1, by
  rw [Below.heap_setCell _ _ _ _ (Ne.symm hne), Below.heap_setCell _ _ _ _ (Ne.symm hne)]
  exact h.2⟩
def EndsAt (w : World) (b : Nat) (lo hi : Int) (s : Bool) : Prop := w.heap[b]? = some (.cells #[.int .i64 lo, .int .i64 hi, .bool s] 90 (0, 0))
end Go.Proofs.YtbnhngfegnhaiaaDoor
namespace Go.Proofs.YtbnhngfegnhaiaaDoor
open Go.RowKit
set_option linter.unusedVariables false
set_option linter.unusedSimpArgs false
def eLo (o : Option Spn) : Int := match o with | none => 0 | some q => q.lo
def eHi (o : Option Spn) : Int := match o with | none => 0 | some q => q.hi
def EndsO (w : World) (b : Nat) (o : Option Spn) : Prop := EndsAt w b (eLo o) (eHi o) o.isSome
theorem EndsO.mono {w w' : World} {b : Nat} {o : Option Spn} (h : EndsO w b o) (hb : Below w.heap.size w w') : EndsO w' b o := (hb.block _ (heap_lt h)).trans h
theorem fit_can {r : Rws} {i k : Nat} (h2 : r.right.length ≤ 10) (hi : i < r.left.length) (hk : k < r.right.length) : canE (fun a b => (fun j => r.fit (j / 10) (j % 10)) (a * 10 + b)) r.left.length r.right.length r.need i k = r.can i k := by
  have hF : ∀ a b, a < r.left.length → b < r.right.length → (fun a b => (fun j => r.fit (j / 10) (j % 10)) (a * 10 + b)) a b = r.fit a b := fun a b _ hb => by
    show r.fit ((a * 10 + b) / 10) ((a * 10 + b) % 10) = r.fit a b
    rw [show (a * 10 + b) / 10 = a by omega, show (a * 10 + b) % 10 = b by omega]
  unfold Rws.can canE
  rw [hF i k hi hk]
  congr 1
  refine isE_congr (fun a b ha hb => ?_) _
  unfold own
  rw [hF a b ha hb]
theorem bitsOf_congr {p q : Nat → Bool} : ∀ (m : Nat), (∀ k, k < m → p k = q k) → bitsOf p m = bitsOf q m
  | 0, _ => rfl
  | m + 1, h => by
    unfold bitsOf
    rw [bitsOf_congr m (fun k hk => h k (by omega)), h m (by omega)]
end Go.Proofs.YtbnhngfegnhaiaaDoor
namespace Go.Proofs.YtbnhngfegnhaiaaDoor
open Go.RowKit
set_option linter.unusedVariables false
set_option linter.unusedSimpArgs false
theorem ints_news {w : World} {a : Option Addr} {l : List Int} (h : IsInts w a l) : l.length ≠ 0 → ∃ ad, a = some ad ∧ ∀ j u, (l.map (Value.int .i64))[j]? = some u → w.cell? (ad.add j) = some u := by
  intro h0
  obtain ⟨b, off, rfl, _⟩ := h 0 (by omega)
  refine ⟨_, rfl, fun j u hj => ?_⟩
  have hj' : j < l.length := by have := (List.getElem?_eq_some_iff.1 hj).1; simpa using this
  obtain ⟨b', off', he, hc⟩ := h j hj'
  cases he
  have e2 : ((⟨b, off, none⟩ : Addr).add j) = ⟨b, off + j, none⟩ := by unfold Addr.add; split <;> simp_all
  rw [e2, hc]
  rw [← hj]
  simp [gi, hj']
theorem app_ints {W w : World} {av : Option Addr} {l m : List Int} {cv n : Nat} {r : Option Addr × Nat} (hn : n = l.length) (hk : l.length + m.length ≤ 1000) (hb : Below W.heap.size W w) (hx : w.ownsRow W.heap.size 3 1 (.slice r.1 n r.2) n (l.map (Value.int .i64))) (hi : IsInts w av m) :
    ∃ (r1 : Option Addr × Nat) (w' : World), (Builtin.append_ #[35, 35] 35 #[.slice r.1 n r.2, .slice av m.length cv]).run Tryd.prog w = .ok (.slice r1.1 (n + m.length) r1.2) w' ∧ Below W.heap.size W w' ∧ w'.ownsRow W.heap.size 3 1 (.slice r1.1 (n + m.length) r1.2) (n + m.length) ((l ++ m).map (Value.int .i64)) ∧
      ∀ k, k < w.heap.size → (Value.slice r.1 n r.2).ownBlock ≠ some k → w'.heap[k]? = w.heap[k]? := by
  obtain ⟨i0, hi0, hz0, hz1, hz2⟩ := info_parts infoI
  obtain ⟨v', w', hr, hn, hg, hor⟩ := append_rows_at (P := Tryd.prog) (w := w) W.heap.size 35 35 3 i0 _ 1 8 Tryd.underlying35 hi0 hz0 hz1 hz2 rfl (by decide) _ n _ hx av m.length cv (m.map (Value.int .i64)) (by simp) (ints_news hi) (by intro u hu; simp at hu; obtain ⟨x, _, rfl⟩ := hu; rfl) (by simp [maxLen]; omega) (by omega) hb.size
  rw [← List.map_append] at hn
  obtain ⟨a', c', rfl, _⟩ := own_slice hn
  exact ⟨(a', c'), w', hr, hb.grown hg hb.size (fun k hk => (hx.lt k hk).1), hn, fun k hk hne => hg.block k hk (fun e => hne e.symm)⟩
structure NumI (W : World) (l : List Int) (r : Option Addr × Nat) (w : World) : Prop where
  le : Below W.heap.size W w
  own : w.ownsRow W.heap.size 3 1 (.slice r.1 l.length r.2) l.length (l.map (Value.int .i64))
theorem NumI.mono {W : World} {l : List Int} {r : Option Addr × Nat} {w w' : World} (h : NumI W l r w) (hb : Below w.heap.size w w') : NumI W l r w' := ⟨h.le.trans (hb.mono h.le.size), own_below h.own hb⟩
theorem ones_congr {p q : Nat → Bool} : ∀ {m : Nat}, (∀ k, k < m → p k = q k) → ones p m = ones q m
  | 0, _ => rfl
  | m + 1, h => by
    unfold ones
    rw [ones_congr (m := m) fun k hk => h k (by omega), h m (by omega)]
theorem ones_more {p : Nat → Bool} {m : Nat} : ∀ d, (∀ k, m ≤ k → p k = false) → ones p (m + d) = ones p m
  | 0, _ => rfl
  | d + 1, h => by
    show ones p (m + d) + (if p (m + d) then 1 else 0) = ones p m
    rw [ones_more d h, h (m + d) (by omega)]
    simp
theorem ones_bits (p : Nat → Bool) {m : Nat} (hm : m ≤ 10) : ones (bitsOf p m).testBit 10 = ones p m := by
  have e : 10 = m + (10 - m) := by omega
  rw [e, ones_more (m := m) (10 - m) (fun k hk => by rw [bitsOf_test]; simp; omega)]
  exact ones_congr fun k hk => by rw [bitsOf_test]; simp [hk]
theorem bits_one {p : Nat → Bool} {m : Nat} (h : ones p m = 1) : bitsOf p m = 2 ^ firstN p m := by
  obtain ⟨h1, h2, h3⟩ := ones_one h
  apply Nat.eq_of_testBit_eq
  intro j
  rw [bitsOf_test, Nat.testBit_two_pow]
  by_cases hj : firstN p m = j
  · subst hj
    simp [h1, h2]
  · have : ¬ (j < m ∧ p j = true) := fun h => hj (h3 j h.1 h.2).symm
    by_cases hjm : j < m
    · have : p j = false := by
        cases hp : p j
        · rfl
        · exact absurd ⟨hjm, hp⟩ this
      simp [hj, this]
    · simp [hj, hjm]
theorem u64_small {s : Nat} (h : s < 2 ^ 62) : IntKind.u64.wrap (s : Int) = s := by
  have : (s : Int) < 2 ^ 62 := by exact_mod_cast h
  simp [IntKind.wrap, IntKind.bits, IntKind.signed]
  omega
def Rws.sureL (r : Rws) : List Int := (List.range r.left.length).map r.sure
theorem sure_fit {r : Rws} {k : Nat} (h2 : r.right.length ≤ 10) (hk : k < r.left.length) : (r.can k) = r.can k ∧ hidE (fun a b => (fun j => r.fit (j / 10) (j % 10)) (a * 10 + b)) r.left.length r.right.length r.need k (-1) = hidE r.fit r.left.length r.right.length r.need k (-1) := by
  refine ⟨rfl, ?_⟩
  unfold hidE
  refine isE_congr (fun a b ha hb => ?_) _
  unfold hidF
  show (r.fit ((a * 10 + b) / 10) ((a * 10 + b) % 10) && _) = _
  rw [show (a * 10 + b) / 10 = a by omega, show (a * 10 + b) % 10 = b by omega]
set_option maxRecDepth 100000 in
set_option maxHeartbeats 16000000 in
theorem sure8 {r : Rws} {al ar : Option Addr} {cl cr : Nat} {w : World} (hv : r.valid = true) (h1 : IsMks w al r.left) (h2 : IsMks w ar r.right) (ht : TabOk w) :
    Calls Tryd.prog 8 #[r.v al cl ar cr] w fun e w' => Below w.heap.size w w' ∧ ((r.is = false ∧ e = .returned (.tuple #[.slice none 0 0, .int .i64 4])) ∨ (r.is = true ∧ ∃ q : Option Addr × Nat, e = .returned (.tuple #[.slice q.1 r.left.length q.2, .int .i64 0]) ∧ IsInts w' q.1 r.sureL)) := by
  have HX := Lib.hid (And.intro (World.alloc_heap_new w (.cells (r.arr al cl ar cr) 26)) (And.intro (alloc_below w (.cells (r.arr al cl ar cr) 26)) (And.intro (h1.mono (alloc_below w (.cells (r.arr al cl ar cr) 26))) (And.intro (h2.mono (alloc_below w (.cells (r.arr al cl ar cr) 26))) (ht.mono (alloc_below w (.cells (r.arr al cl ar cr) 26)))))))
  have HV := Lib.hid (And.intro hv (rnums_of hv))
  have l1 : r.left.length ≤ 10 := HV.out.2.l1
  have l2 : r.right.length ≤ 10 := HV.out.2.l2
  clear hv h1 h2 ht
  go_enter Tryd.func8, Tryd.ntmps8
  refine wp_seq_hid ?_
  intro K0 HK0
  go_wp2_with fail
  refine HK0.out _ _ ?_
  clear HK0 K0
  revert HX
  generalize w.alloc (.cells (r.arr al cl ar cr) 26) = w1
  generalize hb : w.heap.size = b1
  intro HX
  clear hb
  have HLT : Hid (b1 ≤ w1.heap.size) := Nat.le_of_lt (heap_lt HX.out.1)
  have KF : Hid (∀ v, Below w1.heap.size w1 v → v.heap[b1]? = some (.cells (r.arr al cl ar cr) 26 (0, 0)) ∧ Below b1 w v ∧ IsMks v al r.left ∧ IsMks v ar r.right ∧ TabOk v) := fun v hv =>
    ⟨(hv.block _ (heap_lt HX.out.1)).trans HX.out.1, HX.out.2.1.trans (hv.mono HLT.out), HX.out.2.2.1.mono hv, HX.out.2.2.2.1.mono hv, HX.out.2.2.2.2.mono hv⟩
  have HR0 := Lib.hid (Below.refl w1.heap.size w1)
  clear HX
  refine wp_seq_hid ?_
  intro K1 HK1
  have m0 : w1.cell? ⟨b1, 0, none⟩ = some (.slice al r.left.length cl) := by rw [cell_of_heap (KF.out w1 HR0.out).1]; rfl
  have m1 : w1.cell? ⟨b1, 1, none⟩ = some (.slice ar r.right.length cr) := by rw [cell_of_heap (KF.out w1 HR0.out).1]; rfl
  have m2 : w1.cell? ⟨b1, 2, none⟩ = some (.int .i64 r.shift.lo) := by rw [cell_of_heap (KF.out w1 HR0.out).1]; rfl
  have m3 : w1.cell? ⟨b1, 3, none⟩ = some (.int .i64 r.shift.hi) := by rw [cell_of_heap (KF.out w1 HR0.out).1]; rfl
  have m4 : w1.cell? ⟨b1, 4, none⟩ = some (.int .i64 r.hidden) := by rw [cell_of_heap (KF.out w1 HR0.out).1]; rfl
  go_wp2_with fail
  refine (open49 HV.out.1 (KF.out w1 HR0.out).2.2.1 (KF.out w1 HR0.out).2.2.2.1).mono ?_
  clear m0 m1 m2 m3 m4
  rintro e w2 ⟨hb, (⟨his, rfl⟩ | ⟨his, b, rfl, hlt, hR⟩)⟩
  · have HE := Lib.hid (And.intro his hb)
    clear his hb
    go_wp2_with fail
    refine HK1.out _ _ ?_
    go_wp2_with fail
    go_ret2
    exact ⟨(KF.out w2 HE.out.2).2.1, .inl ⟨HE.out.1, rfl⟩⟩
  · have HE := Lib.hid (And.intro his (And.intro hb (And.intro hR hlt)))
    clear his hb hR hlt
    go_wp2_with fail
    refine HK1.out _ _ ?_
    clear HK1 K1
    have m0 : w2.cell? ⟨b1, 0, none⟩ = some (.slice al r.left.length cl) := by rw [cell_of_heap (KF.out w2 HE.out.2.1).1]; rfl
    refine wp_seq_hid ?_
    intro K2 HK2
    go_wp2_with fail
    refine HK2.out _ _ ?_
    clear HK2 K2
    refine wp_seq_hid ?_
    intro K4 HK4
    go_wp2_with fail
    clear m0
    go_loopw [2, 19] (fun v i wr => ∃ (k : Nat) (q : Option Addr × Nat), k ≤ r.left.length ∧ i = .int .i64 k ∧ v = .slice q.1 k q.2 ∧ Hid (Below w2.heap.size w2 wr ∧ wr.ownsRow w2.heap.size 3 1 (.slice q.1 k q.2) k (((List.range k).map r.sure).map (Value.int .i64)))) (fun _ i _ => r.left.length - (intOf i).toNat)
    case atStart => exact ⟨0, (none, 0), by omega, rfl, rfl, Below.refl _ _, World.ownsRow_nil w2 _ _ _⟩
    case round =>
      obtain ⟨k, q, hk, rfl, rfl, HW⟩ := hrel
      by_cases hlt : k < r.left.length
      · have HS := Lib.hid (show r.sure k = sureV r.fit r.left.length r.right.length r.need k from rfl)
        have HRK := Lib.hid (fun (v : World) (h : Below w2.heap.size w2 v) => HE.out.2.2.1.mono h)
        have CC := cans51 (HRK.out wr HW.out.1) l1 l2 hlt
        have e1 : bitsOf (canE (fun a b => (fun j => r.fit (j / 10) (j % 10)) (a * 10 + b)) r.left.length r.right.length r.need k) r.right.length = bitsOf (r.can k) r.right.length := bitsOf_congr _ (fun j hj => fit_can l2 hlt hj)
        rw [e1] at CC
        have HCC := Lib.hid CC
        have HO := Lib.hid (ones_bits (r.can k) l2)
        have HBL : Hid (bitsOf (r.can k) r.right.length < 1024) := Nat.lt_of_lt_of_le (bitsOf_lt _ _) (Nat.le_trans (Nat.pow_le_pow_right (by omega) l2) (by decide))
        have HBO := Lib.hid (fun (h : ones (r.can k) r.right.length = 1) => bits_one h)
        have HFO := Lib.hid (fun (h : ones (r.can k) r.right.length = 1) => (ones_one h).1)
        have HHD := Lib.hid (fun (v : World) (h : IsRws v b r al cl ar cr (fun j => r.fit (j / 10) (j % 10)) r.need) => hidden33 (x := (k : Int)) (y := -1) h l1 l2)
        have HHE := Lib.hid (sure_fit l2 hlt).2
        have HSV : Hid (r.sure k = if ones (r.can k) r.right.length = 1 ∧ hidE r.fit r.left.length r.right.length r.need k (-1) = false then (firstN (r.can k) r.right.length : Int) else -1) := rfl
        clear CC e1 HS
        revert HCC HO HBL HBO HFO HHD HHE HSV
        generalize hidE r.fit r.left.length r.right.length r.need k (-1) = z
        generalize hidE (fun a b => (fun j => r.fit (j / 10) (j % 10)) (a * 10 + b)) r.left.length r.right.length r.need k (-1) = z'
        generalize bitsOf (r.can k) r.right.length = s
        generalize ones (r.can k) r.right.length = o
        generalize firstN (r.can k) r.right.length = f
        intro HCC HO HBL HBO HFO HHD HHE HSV
        have hu : IntKind.u64.wrap (s : Int) = s := u64_small (Nat.lt_trans HBL.out (by decide))
        go_wp2_with fail
        refine HCC.out.mono ?_
        rintro e w4 ⟨rfl, hb4⟩
        have HB4 := Lib.hid (And.intro (HW.out.1.trans (hb4.mono HW.out.1.size)) (own_below HW.out.2 hb4))
        clear hb4 HCC
        go_wp2_with fail
        refine (ones32 HBL.out _).mono ?_
        rintro e w5 ⟨rfl, hw5⟩
        rw [HO.out]
        subst hw5
        clear HO
        by_cases ho : o = 1
        · have ho2 : ((o : Int) == 1) = true := by rw [ho]; rfl
          have HO1 := Lib.hid ho
          clear ho
          go_wp2_with fail
          refine (HHD.out w5 (HRK.out w5 HB4.out.1)).mono ?_
          rintro e w6 ⟨rfl, hb6⟩
          rw [HHE.out]
          have HB := Lib.hid (And.intro (HB4.out.1.trans (hb6.mono HB4.out.1.size)) (own_below HB4.out.2 hb6))
          clear hb6 HB4
          cases hz : z
          · have HX7 : Hid (r.sure k = (f : Int)) := by rw [Hid, HSV.out, if_pos ⟨HO1.out, hz⟩]
            have HS7 := Lib.hid (HBO.out HO1.out)
            have HF7 := Lib.hid (Nat.lt_of_lt_of_le (HFO.out HO1.out) l2)
            clear hz HSV HBO HFO HHD HHE HO1
            go_wp2_with fail
            have HTZ := Lib.hid (tz34 (w := w6) HF7.out ((KF.out w6 (HE.out.2.1.trans (HB.out.1.mono HE.out.2.1.size))).2.2.2.2))
            rw [HS7.out]
            refine HTZ.out.mono ?_
            rintro e V ⟨rfl, hV⟩
            subst hV
            clear HTZ
            have HAP := Lib.hid (app_ints (W := w2) (w := V.alloc (.cells #[.int .i64 ((f : Int))] 3)) (l := (List.range k).map r.sure) (m := [(f : Int)]) (cv := 1) (r := q) (av := some ⟨V.heap.size, 0, none⟩) (n := k) (by simp) (by simp; omega) (HB.out.1.trans ((alloc_below V _).mono HB.out.1.size)) (own_below HB.out.2 (alloc_below V _)) (fun i hi => by
              have h0 : i = 0 := by simpa using hi
              subst h0
              exact ⟨_, _, rfl, by rw [cell_of_heap (World.alloc_heap_new V _)]; rfl⟩))
            clear HB
            obtain ⟨q1, w9, hrun, hq1, hq2, _⟩ := HAP.out
            have HR9 : Hid ((Builtin.append_ #[35, 35] 35 #[.slice q.1 k q.2, .slice (some ⟨V.heap.size, 0, none⟩) 1 1]).run Tryd.prog (V.alloc (.cells #[.int .i64 ((f : Int))] 3)) = .ok (.slice q1.1 (k + 1) q1.2) w9) := hrun
            have HQ9 := Lib.hid (And.intro hq1 hq2)
            clear hrun hq1 hq2 HAP
            go_wp2_with (at_builtin; refine wpList_append_run rfl (.tmp 38) (.tmp 40) 35 rfl (.slice q.1 k q.2) (.slice (some ⟨V.heap.size, 0, none⟩) 1 1) (.slice q1.1 (k + 1) q1.2) w9 rfl rfl HR9.out ?_)
            go_roundw
            case rel => exact ⟨k + 1, q1, by omega, by go_num, rfl, HQ9.out.1, by rw [List.range_succ, List.map_append]; show w9.ownsRow _ _ _ _ _ ((_ ++ [r.sure k]).map _); rw [HX7.out]; exact HQ9.out.2⟩
            case measure => simp [intOf]; omega
          · have HX7 : Hid (r.sure k = -1) := by rw [Hid, HSV.out, if_neg (fun h => by rw [hz] at h; cases h.2)]
            clear hz HSV HBO HFO HHD HHE HO1 ho2
            have HAP := Lib.hid (app_ints (W := w2) (w := w6.alloc (.cells #[.int .i64 (-1)] 3)) (l := (List.range k).map r.sure) (m := [-1]) (cv := 1) (r := q) (av := some ⟨w6.heap.size, 0, none⟩) (n := k) (by simp) (by simp; omega) (HB.out.1.trans ((alloc_below w6 _).mono HB.out.1.size)) (own_below HB.out.2 (alloc_below w6 _)) (fun i hi => by
              have h0 : i = 0 := by simpa using hi
              subst h0
              exact ⟨_, _, rfl, by rw [cell_of_heap (World.alloc_heap_new w6 _)]; rfl⟩))
            clear HB
            obtain ⟨q1, w9, hrun, hq1, hq2, _⟩ := HAP.out
            have HR9 : Hid ((Builtin.append_ #[35, 35] 35 #[.slice q.1 k q.2, .slice (some ⟨w6.heap.size, 0, none⟩) 1 1]).run Tryd.prog (w6.alloc (.cells #[.int .i64 (-1)] 3)) = .ok (.slice q1.1 (k + 1) q1.2) w9) := hrun
            have HQ9 := Lib.hid (And.intro hq1 hq2)
            clear hrun hq1 hq2 HAP
            go_wp2_with (at_builtin; refine wpList_append_run rfl (.tmp 38) (.tmp 40) 35 rfl (.slice q.1 k q.2) (.slice (some ⟨w6.heap.size, 0, none⟩) 1 1) (.slice q1.1 (k + 1) q1.2) w9 rfl rfl HR9.out ?_)
            go_roundw
            case rel => exact ⟨k + 1, q1, by omega, by go_num, rfl, HQ9.out.1, by rw [List.range_succ, List.map_append]; show w9.ownsRow _ _ _ _ _ ((_ ++ [r.sure k]).map _); rw [HX7.out]; exact HQ9.out.2⟩
            case measure => simp [intOf]; omega
        · have ho2 : ((o : Int) == 1) = false := by
            simp only [beq_eq_false_iff_ne, ne_eq]
            omega
          have HX7 : Hid (r.sure k = -1) := by rw [Hid, HSV.out, if_neg (fun h => ho h.1)]
          have HB := HB4
          clear ho HB4 HSV HBO HFO HHD HHE
          have HAP := Lib.hid (app_ints (W := w2) (w := w5.alloc (.cells #[.int .i64 (-1)] 3)) (l := (List.range k).map r.sure) (m := [-1]) (cv := 1) (r := q) (av := some ⟨w5.heap.size, 0, none⟩) (n := k) (by simp) (by simp; omega) (HB.out.1.trans ((alloc_below w5 _).mono HB.out.1.size)) (own_below HB.out.2 (alloc_below w5 _)) (fun i hi => by
            have h0 : i = 0 := by simpa using hi
            subst h0
            exact ⟨_, _, rfl, by rw [cell_of_heap (World.alloc_heap_new w5 _)]; rfl⟩))
          clear HB
          obtain ⟨q1, w9, hrun, hq1, hq2, _⟩ := HAP.out
          have HR9 : Hid ((Builtin.append_ #[35, 35] 35 #[.slice q.1 k q.2, .slice (some ⟨w5.heap.size, 0, none⟩) 1 1]).run Tryd.prog (w5.alloc (.cells #[.int .i64 (-1)] 3)) = .ok (.slice q1.1 (k + 1) q1.2) w9) := hrun
          have HQ9 := Lib.hid (And.intro hq1 hq2)
          clear hrun hq1 hq2 HAP
          go_wp2_with (at_builtin; refine wpList_append_run rfl (.tmp 38) (.tmp 40) 35 rfl (.slice q.1 k q.2) (.slice (some ⟨w5.heap.size, 0, none⟩) 1 1) (.slice q1.1 (k + 1) q1.2) w9 rfl rfl HR9.out ?_)
          go_roundw
          case rel => exact ⟨k + 1, q1, by omega, by go_num, rfl, HQ9.out.1, by rw [List.range_succ, List.map_append]; show w9.ownsRow _ _ _ _ _ ((_ ++ [r.sure k]).map _); rw [HX7.out]; exact HQ9.out.2⟩
          case measure => simp [intOf]; omega
      · obtain rfl : k = r.left.length := by omega
        go_wp2_with fail
        refine HK4.out _ _ ?_
        go_wp2_with fail
        go_ret2
        exact ⟨(KF.out wr (HE.out.2.1.trans (HW.out.1.mono HE.out.2.1.size))).2.1, .inr ⟨HE.out.1, q, rfl, own_ints (by have h := HW.out.2; unfold Rws.sureL; simpa using h)⟩⟩
end Go.Proofs.YtbnhngfegnhaiaaDoor
