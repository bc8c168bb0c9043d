/- Is there a way? Rows without pairs that a rule forbids. Rows without pairs that a rule forbids: the walk. Can two marks be a pair? The marks with which a left mark is a pair in some way. Sets of marks; the marks with which a left mark is a pair in some way. -/
import Derived.Test.YtbnhngfegnhaiaaDoorC3
namespace Go.Proofs.YtbnhngfegnhaiaaDoor
open Go.RowKit
set_option linter.unusedVariables false
set_option linter.unusedSimpArgs false
def rowV (U : Nat → Int) (i : Nat) : Value := .agg #[.int .i64 (U (i * 11)), .int .i64 (U (i * 11 + 1)), .int .i64 (U (i * 11 + 2)), .int .i64 (U (i * 11 + 3)), .int .i64 (U (i * 11 + 4)), .int .i64 (U (i * 11 + 5)), .int .i64 (U (i * 11 + 6)), .int .i64 (U (i * 11 + 7)), .int .i64 (U (i * 11 + 8)), .int .i64 (U (i * 11 + 9)), .int .i64 (U (i * 11 + 10))]
structure isrF (b : Nat) (U : Nat → Int) (nd : Int) (S0 : World → Prop) (S1 : Unit → World → Prop) (d : Nat → Bool) (x3 x4 x5 x6 x7 x8 x9 x10 x11 x2 : Value) (u : Unit) (w : World) : Prop where
  q1 : d 1 = true → d 0 = true
  q2 : d 2 = true → d 1 = true
  q3 : d 3 = true → d 2 = true
  q5 : d 5 = true → d 4 = true
  q6 : d 6 = true → d 5 = true
  q7 : d 7 = true → d 6 = true
  q8 : d 8 = true → d 3 = true ∧ d 7 = true
  q9 : d 9 = true → d 0 = true ∧ d 1 = true ∧ d 2 = true ∧ d 3 = true ∧ d 4 = true ∧ d 5 = true ∧ d 6 = true ∧ d 7 = true ∧ d 8 = true
  f0 : d 0 = true → x3 = .pointer (some ⟨b, 0, none⟩)
  f1 : d 1 = true → x4 = .agg (numL U).toArray
  f2 : d 2 = true → x5 = rowV U 0
  f3 : d 3 = true → x6 = .int .i64 (U 0)
  f4 : d 4 = true → x7 = .pointer (some ⟨b, 0, none⟩)
  f5 : d 5 = true → x8 = .pointer (some ⟨b, 0, none⟩)
  f6 : d 6 = true → x9 = .pointer (some ⟨b, 105, none⟩)
  f7 : d 7 = true → x10 = .int .i64 nd
  f8 : d 8 = true → x11 = .bool (decide (nd ≤ U 0))
  f9 : d 9 = true → x2 = .bool (decide (nd ≤ U 0))
  st0 : d 1 = false → S0 w
  st1 : d 1 = true → S1 u w
noncomputable def isrC : Code := (Tryd.f66.body.bind (regionAt 1)).getD .skip
set_option maxRecDepth 100000 in
set_option maxHeartbeats 4000000 in
theorem isr {b : Nat} {U : Nat → Int} {nd : Int} {S0 : World → Prop} {S1 : Unit → World → Prop} {Q : Exit → Act → World → Prop} {W1 : World} (h0 : S0 W1.drew)
    (kc1 : Hid (∀ (w : World), S0 w → Calls Tryd.prog 29 #[.pointer (some ⟨b, 0, none⟩)] w fun e w' => ∃ u : Unit, e = .returned (.agg (numL U).toArray) ∧ S1 u w'))
    (kl7 : Hid (∀ (u : Unit) (w : World), (S0 w ∨ S1 u w) → w.cell? ⟨b, 105, none⟩ = some (.int .i64 nd)))
    {s1 s2 s3 s4 s5 s6 s7 s8 s9 s10 s11 : Value} {dd : List Deferred}
    (hQ : ∀ (u : Unit) (w' : World), S1 u w' → Q .normal { tmps := #[.pointer (some ⟨b, 0, none⟩), s1, .bool (decide (nd ≤ U 0)), .pointer (some ⟨b, 0, none⟩), .agg (numL U).toArray, rowV U 0, .int .i64 (U 0), .pointer (some ⟨b, 0, none⟩), .pointer (some ⟨b, 0, none⟩), .pointer (some ⟨b, 105, none⟩), .int .i64 nd, .bool (decide (nd ≤ U 0))], defers := dd } w') :
    Code.wpIn (wideAt none) 0 Tryd.prog isrC Q { tmps := #[.pointer (some ⟨b, 0, none⟩), s1, s2, s3, s4, s5, s6, s7, s8, s9, s10, s11], defers := dd } W1 := by
  have HQ := Lib.hid hQ
  clear hQ
  conv => arg 4; whnf
  refine wpIn_region_invG mixed (by kernel_rfl) (fun d_ a_ w' => ∃ (x3 : Value) (x4 : Value) (x5 : Value) (x6 : Value) (x7 : Value) (x8 : Value) (x9 : Value) (x10 : Value) (x11 : Value) (x2 : Value) (u : Unit), a_ = { tmps := #[.pointer (some ⟨b, 0, none⟩), s1, x2, x3, x4, x5, x6, x7, x8, x9, x10, x11], defers := dd } ∧ isrF b U nd S0 S1 d_ x3 x4 x5 x6 x7 x8 x9 x10 x11 x2 u w') ?_ ?_ ?_
  · refine ⟨s3, s4, s5, s6, s7, s8, s9, s10, s11, s2, default, rfl, ?_⟩
    constructor <;> first | rfl | (intro _; rfl) | (intro h; cases h; done) | (intro _; exact h0) | exact h0
  · refine ⟨?_, ?_, ?_, ?_, ?_, ?_, ?_, ?_, ?_, ?_, trivial⟩
    all_goals
      rintro d_ a_ w1 K hd_ hdep ⟨x3, x4, x5, x6, x7, x8, x9, x10, x11, x2, u, rfl, F⟩ HK
      simp [Region.binds] at hdep
    · have HF : Hid (isrF b U nd S0 S1 (upd d_ 0) (.pointer (some ⟨b, 0, none⟩)) x4 x5 x6 x7 x8 x9 x10 x11 x2 u w1) := ⟨fun h => rfl, F.q2, F.q3, F.q5, F.q6, F.q7, F.q8, fun h => andM0 (F.q9 h) rfl, fun _ => rfl, F.f1, F.f2, F.f3, F.f4, F.f5, F.f6, F.f7, F.f8, F.f9, F.st0, F.st1⟩
      clear F
      go_simp
      exact HK.out _ _ ⟨_, _, _, _, _, _, _, _, _, _, _, rfl, HF.out⟩
    · have hS := F.st0  hd_
      obtain rfl := F.f0 (by simp [hdep])
      have hc := kc1.out w1 hS
      have HF := Lib.hid F
      clear F
      go_simp
      refine ⟨trivial, rfl, wideAt_calls (hc.mono ?_)⟩
      rintro e w5 ⟨v_, rfl, hres⟩
      exact HK.out _ _ ⟨_, _, _, _, _, _, _, _, _, _, v_, rfl, ⟨fun _ => (show _ from (by simp [hdep] : d_ 0 = true)), fun h => rfl, HF.out.q3, HF.out.q5, HF.out.q6, HF.out.q7, HF.out.q8, fun h => ⟨(HF.out.q9 h).1, rfl, (HF.out.q9 h).2.2.1, (HF.out.q9 h).2.2.2.1, (HF.out.q9 h).2.2.2.2.1, (HF.out.q9 h).2.2.2.2.2.1, (HF.out.q9 h).2.2.2.2.2.2.1, (HF.out.q9 h).2.2.2.2.2.2.2.1, (HF.out.q9 h).2.2.2.2.2.2.2.2⟩, HF.out.f0, fun _ => rfl, HF.out.f2, HF.out.f3, HF.out.f4, HF.out.f5, HF.out.f6, HF.out.f7, HF.out.f8, HF.out.f9, fun h => (by simp [upd] at h), fun _ => hres⟩⟩
    · obtain rfl := F.f1 (by simp [hdep])
      have HF : Hid (isrF b U nd S0 S1 (upd d_ 2) x3 (.agg (numL U).toArray) (rowV U 0) x6 x7 x8 x9 x10 x11 x2 u w1) := ⟨F.q1, fun _ => (show _ from (by simp [hdep] : d_ 1 = true)), fun h => rfl, F.q5, F.q6, F.q7, F.q8, fun h => andM2 (F.q9 h) rfl, F.f0, F.f1, fun _ => rfl, F.f3, F.f4, F.f5, F.f6, F.f7, F.f8, F.f9, F.st0, F.st1⟩
      clear F
      go_simp
      exact HK.out _ _ ⟨_, _, _, _, _, _, _, _, _, _, _, rfl, HF.out⟩
    · obtain rfl := F.f2 (by simp [hdep])
      have HF : Hid (isrF b U nd S0 S1 (upd d_ 3) x3 x4 (rowV U 0) (.int .i64 (U 0)) x7 x8 x9 x10 x11 x2 u w1) := ⟨F.q1, F.q2, fun _ => (show _ from (by simp [hdep] : d_ 2 = true)), F.q5, F.q6, F.q7, fun h => andM0 (F.q8 h) rfl, fun h => andM3 (F.q9 h) rfl, F.f0, F.f1, F.f2, fun _ => rfl, F.f4, F.f5, F.f6, F.f7, F.f8, F.f9, F.st0, F.st1⟩
      clear F
      go_simp
      exact HK.out _ _ ⟨_, _, _, _, _, _, _, _, _, _, _, rfl, HF.out⟩
    · have HF : Hid (isrF b U nd S0 S1 (upd d_ 4) x3 x4 x5 x6 (.pointer (some ⟨b, 0, none⟩)) x8 x9 x10 x11 x2 u w1) := ⟨F.q1, F.q2, F.q3, fun h => rfl, F.q6, F.q7, F.q8, fun h => andM4 (F.q9 h) rfl, F.f0, F.f1, F.f2, F.f3, fun _ => rfl, F.f5, F.f6, F.f7, F.f8, F.f9, F.st0, F.st1⟩
      clear F
      go_simp
      exact HK.out _ _ ⟨_, _, _, _, _, _, _, _, _, _, _, rfl, HF.out⟩
    · obtain rfl := F.f4 (by simp [hdep])
      have HF : Hid (isrF b U nd S0 S1 (upd d_ 5) x3 x4 x5 x6 (.pointer (some ⟨b, 0, none⟩)) (.pointer (some ⟨b, 0, none⟩)) x9 x10 x11 x2 u w1) := ⟨F.q1, F.q2, F.q3, fun _ => (show _ from (by simp [hdep] : d_ 4 = true)), fun h => rfl, F.q7, F.q8, fun h => andM5 (F.q9 h) rfl, F.f0, F.f1, F.f2, F.f3, F.f4, fun _ => rfl, F.f6, F.f7, F.f8, F.f9, F.st0, F.st1⟩
      clear F
      go_simp
      exact HK.out _ _ ⟨_, _, _, _, _, _, _, _, _, _, _, rfl, HF.out⟩
    · obtain rfl := F.f5 (by simp [hdep])
      have HF : Hid (isrF b U nd S0 S1 (upd d_ 6) x3 x4 x5 x6 x7 (.pointer (some ⟨b, 0, none⟩)) (.pointer (some ⟨b, 105, none⟩)) x10 x11 x2 u w1) := ⟨F.q1, F.q2, F.q3, F.q5, fun _ => (show _ from (by simp [hdep] : d_ 5 = true)), fun h => rfl, F.q8, fun h => andM6 (F.q9 h) rfl, F.f0, F.f1, F.f2, F.f3, F.f4, F.f5, fun _ => rfl, F.f7, F.f8, F.f9, F.st0, F.st1⟩
      clear F
      go_simp
      exact HK.out _ _ ⟨_, _, _, _, _, _, _, _, _, _, _, rfl, HF.out⟩
    · have hst : S0 w1 ∨ S1 u w1 := by
        cases e1 : d_ 1 with
        | false => exact .inl ((F.st0 e1))
        | true =>
          exact .inr ((F.st1 e1))
      have kk := kl7.out u w1 hst
      clear hst
      obtain rfl := F.f6 (by simp [hdep])
      have HF : Hid (isrF b U nd S0 S1 (upd d_ 7) x3 x4 x5 x6 x7 x8 (.pointer (some ⟨b, 105, none⟩)) (.int .i64 nd) x11 x2 u w1) := ⟨F.q1, F.q2, F.q3, F.q5, F.q6, fun _ => (show _ from (by simp [hdep] : d_ 6 = true)), fun h => andL1 (F.q8 h) rfl, fun h => andM7 (F.q9 h) rfl, F.f0, F.f1, F.f2, F.f3, F.f4, F.f5, F.f6, fun _ => rfl, F.f8, F.f9, F.st0, F.st1⟩
      clear F
      go_simp
      exact HK.out _ _ ⟨_, _, _, _, _, _, _, _, _, _, _, rfl, HF.out⟩
    · obtain rfl := F.f3 (by simp [hdep])
      obtain rfl := F.f7 (by simp [hdep])
      have HF : Hid (isrF b U nd S0 S1 (upd d_ 8) x3 x4 x5 (.int .i64 (U 0)) x7 x8 x9 (.int .i64 nd) (.bool (decide (nd ≤ U 0))) x2 u w1) := ⟨F.q1, F.q2, F.q3, F.q5, F.q6, F.q7, fun _ => ⟨(show _ from (by simp [hdep] : d_ 3 = true)), (show _ from (by simp [hdep] : d_ 7 = true))⟩, fun h => andL8 (F.q9 h) rfl, F.f0, F.f1, F.f2, F.f3, F.f4, F.f5, F.f6, F.f7, fun _ => rfl, F.f9, F.st0, F.st1⟩
      clear F
      go_simp
      exact HK.out _ _ ⟨_, _, _, _, _, _, _, _, _, _, _, rfl, HF.out⟩
    · obtain rfl := F.f8 (by simp [hdep])
      have HF : Hid (isrF b U nd S0 S1 (upd d_ 9) x3 x4 x5 x6 x7 x8 x9 x10 (.bool (decide (nd ≤ U 0))) (.bool (decide (nd ≤ U 0))) u w1) := ⟨F.q1, F.q2, F.q3, F.q5, F.q6, F.q7, F.q8, fun _ => ⟨(show _ from (by simp [hdep] : d_ 0 = true)), (show _ from (by simp [hdep] : d_ 1 = true)), (show _ from (by simp [hdep] : d_ 2 = true)), (show _ from (by simp [hdep] : d_ 3 = true)), (show _ from (by simp [hdep] : d_ 4 = true)), (show _ from (by simp [hdep] : d_ 5 = true)), (show _ from (by simp [hdep] : d_ 6 = true)), (show _ from (by simp [hdep] : d_ 7 = true)), (show _ from (by simp [hdep] : d_ 8 = true))⟩, F.f0, F.f1, F.f2, F.f3, F.f4, F.f5, F.f6, F.f7, F.f8, fun _ => rfl, F.st0, F.st1⟩
      clear F
      go_simp
      exact HK.out _ _ ⟨_, _, _, _, _, _, _, _, _, _, _, rfl, HF.out⟩
  · rintro d_ a_ w1 hall ⟨x3, x4, x5, x6, x7, x8, x9, x10, x11, x2, u, rfl, F⟩
    have hall' : ∀ k, k < 10 → d_ k = true := hall
    obtain rfl := F.f0 (hall' 0 (by decide))
    obtain rfl := F.f1 (hall' 1 (by decide))
    obtain rfl := F.f2 (hall' 2 (by decide))
    obtain rfl := F.f3 (hall' 3 (by decide))
    obtain rfl := F.f4 (hall' 4 (by decide))
    obtain rfl := F.f5 (hall' 5 (by decide))
    obtain rfl := F.f6 (hall' 6 (by decide))
    obtain rfl := F.f7 (hall' 7 (by decide))
    obtain rfl := F.f8 (hall' 8 (by decide))
    obtain rfl := F.f9 (hall' 9 (by decide))
    have hst := F.st1 (hall' 1 (by decide))
    exact HQ.out u w1 hst
set_option maxRecDepth 100000 in
set_option maxHeartbeats 8000000 in
theorem is71 {r : Rws} {al ar : Option Addr} {cl cr b : Nat} {T : Nat → Bool} {need : Int} {w : World} (h : IsRws w b r al cl ar cr T need) (hl1 : r.left.length ≤ 10) (hl2 : r.right.length ≤ 10) :
    Calls Tryd.prog 66 #[.pointer (some ⟨b, 0, none⟩)] w fun e w' => e = .returned (.bool (isE (fun i k => T (i * 10 + k)) r.left.length r.right.length need)) ∧ Below w.heap.size w w' := by
  have H := Lib.hid h
  have HU : Hid (decide (need ≤ dI (fun i k => T (i * 10 + k)) r.left.length r.right.length 0 0 0) = isE (fun i k => T (i * 10 + k)) r.left.length r.right.length need) := by
    have e := dI_at (fun i k => T (i * 10 + k)) r.left.length r.right.length (i := 0) (k := 0) (a := 0) (b := 0) (by omega) (.inr ⟨rfl, Nat.le_refl _⟩)
    unfold isE
    rw [Hid]
    have e2 : dI (fun i k => T (i * 10 + k)) r.left.length r.right.length 0 0 0 = _ := e
    rw [e2]
    rfl
  have HC := Lib.hid (fun (v : World) (hv : IsRws v b r al cl ar cr T need) => most82 hv hl1 hl2)
  clear h
  revert HU HC
  generalize dI (fun i k => T (i * 10 + k)) r.left.length r.right.length 0 0 = U
  intro HU HC
  go_enter Tryd.func66, Tryd.ntmps66
  refine wp_seq_hid ?_
  intro K0 HK0
  go_wp2_with fail
  refine HK0.out _ _ ?_
  clear HK0 K0
  refine wp_seq_hid ?_
  intro K1 HK1
  refine wpIn_wide.1 (isr (b := b) (U := U) (nd := need)
    (S0 := fun v => Below w.heap.size w v) (S1 := fun _ v => Below w.heap.size w v) ?h0 ?c1 ?l7 ?hQ)
  case h0 => exact (Below.refl _ _).drew
  case c1 =>
    intro v h
    refine (HC.out v (H.out.mono h)).mono ?_
    rintro e v' ⟨rfl, hb⟩
    exact ⟨(), rfl, h.trans (hb.mono h.size)⟩
  case l7 =>
    rintro u v (h | h)
    · exact (H.out.mono h).need
    · exact (H.out.mono h).need
  intro u w2 h
  have HF := Lib.hid h
  clear h
  rw [HU.out]
  refine HK1.out _ _ ?_
  go_wp2_with fail
  go_ret
  exact ⟨rfl, HF.out⟩
theorem mst_congr {F G : Nat → Nat → Bool} {n m : Nat} (h : ∀ i k, i < n → k < m → F i k = G i k) : ∀ a b, a ≤ n → b ≤ m → mst F n m a b = mst G n m a b
  | 0, _, _, _ => rfl
  | a + 1, b, ha, hb => by
    induction b with
    | zero => rfl
    | succ b ih =>
      show rowB (F (n - (a + 1))) m (mst F n m a) (b + 1) = rowB (G (n - (a + 1))) m (mst G n m a) (b + 1)
      have ih2 : rowB (F (n - (a + 1))) m (mst F n m a) b = rowB (G (n - (a + 1))) m (mst G n m a) b := ih (by omega)
      unfold rowB
      rw [h (n - (a + 1)) (m - (b + 1)) (by omega) (by omega), mst_congr h a (b + 1) (by omega) hb, mst_congr h a b (by omega) (by omega), ih2]
theorem isE_congr {F G : Nat → Nat → Bool} {n m : Nat} (h : ∀ i k, i < n → k < m → F i k = G i k) (need : Int) : isE F n m need = isE G n m need := by
  unfold isE
  rw [mst_congr h n m (Nat.le_refl _) (Nat.le_refl _)]
set_option maxRecDepth 100000 in
set_option maxHeartbeats 8000000 in
theorem open49 {r : Rws} {al ar : Option Addr} {cl cr : Nat} {w : World} (hv : r.valid = true) (h1 : IsMks w al r.left) (h2 : IsMks w ar r.right) :
    Calls Tryd.prog 28 #[r.v al cl ar cr, .bool true] w fun e w' => Below w.heap.size w w' ∧ ((r.is = false ∧ e = .returned (.tuple #[.pointer none, .int .i64 4])) ∨ (r.is = true ∧ ∃ b, e = .returned (.tuple #[.pointer (some ⟨b, 0, none⟩), .int .i64 0]) ∧ w.heap.size ≤ b ∧ IsRws w' b r al cl ar cr (fun j => r.fit (j / 10) (j % 10)) r.need)) := by
  have HX := Lib.hid (And.intro (World.alloc_heap_new w (.cells (r.arr al cl ar cr) 26)) (And.intro (alloc_below w (.cells (r.arr al cl ar cr) 26)) (And.intro (h1.mono (alloc_below w (.cells (r.arr al cl ar cr) 26))) (h2.mono (alloc_below w (.cells (r.arr al cl ar cr) 26))))))
  have HV := Lib.hid (And.intro hv (rnums_of hv))
  clear hv h1 h2
  go_enter Tryd.func28, Tryd.ntmps28
  refine wp_seq_hid ?_
  intro K0 HK0
  go_wp2_with fail
  refine HK0.out _ _ ?_
  clear HK0 K0
  revert HX
  generalize w.alloc (.cells (r.arr al cl ar cr) 26) = w1
  generalize hb1 : w.heap.size = b1
  intro HX
  have HB1 := Lib.hid hb1
  clear hb1
  have HW : Hid (b1 ≤ w1.heap.size) := by have := HX.out.2.1.size; rw [HB1.out] at this; exact this
  have k0 : w1.cell? ⟨b1, 0, none⟩ = some (.slice al r.left.length cl) := by rw [cell_of_heap HX.out.1]; rfl
  have k1 : w1.cell? ⟨b1, 1, none⟩ = some (.slice ar r.right.length cr) := by rw [cell_of_heap HX.out.1]; rfl
  have k2 : w1.cell? ⟨b1, 2, none⟩ = some (.int .i64 r.shift.lo) := by rw [cell_of_heap HX.out.1]; rfl
  have k3 : w1.cell? ⟨b1, 3, none⟩ = some (.int .i64 r.shift.hi) := by rw [cell_of_heap HX.out.1]; rfl
  have k4 : w1.cell? ⟨b1, 4, none⟩ = some (.int .i64 r.hidden) := by rw [cell_of_heap HX.out.1]; rfl
  refine wp_seq_hid ?_
  intro K1 HK1
  go_wp2_with fail
  refine (isRows45 HV.out.1 HX.out.2.2.1 HX.out.2.2.2).mono ?_
  clear k0 k1 k2 k3 k4
  rintro e w2 ⟨rfl, hb⟩
  have HB2 := Lib.hid hb
  clear hb
  go_wp2_with fail
  refine HK1.out _ _ ?_
  clear HK1 K1
  have hq := (HB2.out.block _ (heap_lt HX.out.1)).trans HX.out.1
  have k0 : w2.cell? ⟨b1, 0, none⟩ = some (.slice al r.left.length cl) := by rw [cell_of_heap hq]; rfl
  have k1 : w2.cell? ⟨b1, 1, none⟩ = some (.slice ar r.right.length cr) := by rw [cell_of_heap hq]; rfl
  have k2 : w2.cell? ⟨b1, 2, none⟩ = some (.int .i64 r.shift.lo) := by rw [cell_of_heap hq]; rfl
  have k3 : w2.cell? ⟨b1, 3, none⟩ = some (.int .i64 r.shift.hi) := by rw [cell_of_heap hq]; rfl
  have k4 : w2.cell? ⟨b1, 4, none⟩ = some (.int .i64 r.hidden) := by rw [cell_of_heap hq]; rfl
  clear hq
  refine wp_seq_hid ?_
  intro K5 HK5
  go_wp2_with fail
  refine (look46 HV.out.2 (HX.out.2.2.1.mono HB2.out) (HX.out.2.2.2.mono HB2.out)).mono ?_
  clear k0 k1 k2 k3 k4
  rintro e w3 ⟨b, rfl, hbb, hR, hb⟩
  have HR := Lib.hid (And.intro hR (And.intro (HX.out.2.1.trans ((HB2.out.trans (hb.mono HB2.out.size)).mono HW.out)) (And.intro (Nat.le_trans HW.out (Nat.le_trans HB2.out.size hbb)) (Nat.le_trans HW.out (Nat.le_trans HB2.out.size hb.size)))))
  clear hb hbb hR
  go_wp2_with fail
  refine HK5.out _ _ ?_
  clear HK5 K5
  have CI := is71 HR.out.1 HV.out.2.l1 HV.out.2.l2
  have e1 : isE (fun i k => (fun j => r.fit (j / 10) (j % 10)) (i * 10 + k)) r.left.length r.right.length r.need = r.is := by
    unfold Rws.is
    refine isE_congr (fun i k hi hk => ?_) _
    have h2 := HV.out.2.l2
    show r.fit ((i * 10 + k) / 10) ((i * 10 + k) % 10) = r.fit i k
    rw [show (i * 10 + k) / 10 = i by omega, show (i * 10 + k) % 10 = k by omega]
  rw [e1] at CI
  have HCI := Lib.hid CI
  clear CI e1
  cases hz : r.is
  all_goals
    rw [hz] at HCI
    have HZ := Lib.hid hz
    clear hz
    refine wp_seq_hid ?_
    intro K6 HK6
    go_wp2_with fail
    refine HCI.out.mono ?_
    rintro e w4 ⟨rfl, hb⟩
    have HF := Lib.hid (And.intro (HR.out.2.1.trans (hb.mono HR.out.2.2.2)) (HR.out.1.mono hb))
    clear hb
    go_wp2_with fail
  · go_ret2
    exact ⟨HF.out.1, .inl ⟨trivial, rfl⟩⟩
  · refine HK6.out _ _ ?_
    go_wp2_with fail
    go_ret2
    exact ⟨HF.out.1, .inr ⟨trivial, b, rfl, HR.out.2.2.1, HF.out.2⟩⟩
end Go.Proofs.YtbnhngfegnhaiaaDoor
namespace Go.Proofs.YtbnhngfegnhaiaaDoor
open Go.RowKit
set_option linter.unusedVariables false
set_option linter.unusedSimpArgs false
theorem heap_setCells_at {b : Nat} {t : TypeId} {f : Nat × Nat} : ∀ (vs : List Value) (o : Nat) (w : World) (c : Array Value), w.heap[b]? = some (.cells c t f) → o + vs.length ≤ c.size →
    ∃ c', (w.setCells b o vs).heap[b]? = some (.cells c' t f) ∧ c'.size = c.size ∧ (∀ i, i < o → c'[i]? = c[i]?) ∧ (∀ j, j < vs.length → c'[o + j]? = vs[j]?) ∧ (∀ i, o + vs.length ≤ i → c'[i]? = c[i]?)
  | [], o, w, c, h, _ => ⟨c, h, rfl, fun _ _ => rfl, fun j hj => absurd hj (Nat.not_lt_zero _), fun _ _ => rfl⟩
  | v :: vs, o, w, c, h, hl => by
    have h1 := heap_setCell_at (k := o) h v
    have hl2 : o + 1 + vs.length ≤ (c.setIfInBounds o v).size := by
      rw [Array.size_setIfInBounds]
      simp only [List.length_cons] at hl
      omega
    obtain ⟨c', g1, g2, g3, g4, g5⟩ := heap_setCells_at vs (o + 1) _ _ h1 hl2
    refine ⟨c', g1, by rw [g2, Array.size_setIfInBounds], fun i hi => ?_, fun j hj => ?_, fun i hi => ?_⟩
    · rw [g3 i (by omega), Array.getElem?_setIfInBounds, if_neg (by omega)]
    · cases j with
      | zero =>
        rw [Nat.add_zero, g3 o (by omega), Array.getElem?_setIfInBounds, if_pos rfl, if_pos (by simp only [List.length_cons] at hl; omega)]
        rfl
      | succ j =>
        have := g4 j (by simpa using hj)
        rw [show o + (j + 1) = o + 1 + j by omega, this]
        rfl
    · simp only [List.length_cons] at hi
      rw [g5 i (by omega), Array.getElem?_setIfInBounds, if_neg (by omega)]
theorem heap_setCells_all {b : Nat} {t : TypeId} {f : Nat × Nat} {vs : List Value} {w : World} {c : Array Value} (h : w.heap[b]? = some (.cells c t f)) (hs : c.size = vs.length) : (w.setCells b 0 vs).heap[b]? = some (.cells vs.toArray t f) := by
  obtain ⟨c', g1, g2, _, g4, _⟩ := heap_setCells_at vs 0 w c h (by omega)
  rw [g1]
  congr 2
  apply Array.ext_getElem?
  intro i
  by_cases hi : i < vs.length
  · have := g4 i hi
    rw [Nat.zero_add] at this
    rw [this, List.getElem?_toArray]
  · rw [Array.getElem?_eq_none (by omega), List.getElem?_toArray, List.getElem?_eq_none (by omega)]
theorem info130 : (Tryd.prog.info? 130).map (·.size) = some 106 := by kernel_rfl
theorem rowsL_one (r : Rws) (al : Option Addr) (cl : Nat) (ar : Option Addr) (cr : Nat) (T : Nat → Bool) (need : Int) : (rowsL r al cl ar cr T need).toArray.all (·.oneCell') = true := all_oneCell_toArray fun v hv => by
  unfold rowsL tabL at hv
  simp only [List.mem_append, List.mem_cons, List.not_mem_nil, or_false, List.mem_map] at hv
  rcases hv with (rfl | rfl | rfl | rfl | rfl) | ⟨j, _, rfl⟩ | rfl <;> rfl
/-- A table without what is forbidden, so far. -/
def wI (T : Nat → Bool) (P : Nat → Nat → Bool) (n m i k : Nat) : Nat → Bool := fun j => T j && !(decide (j / 10 < n) && decide (j % 10 < m) && (decide (j / 10 < i) || (decide (j / 10 = i) && decide (j % 10 < k))) && P (j / 10) (j % 10))
theorem wI_zero (T : Nat → Bool) (P : Nat → Nat → Bool) (n m : Nat) : wI T P n m 0 0 = T := by
  funext j
  simp [wI]
theorem wI_next (T : Nat → Bool) (P : Nat → Nat → Bool) (n m i : Nat) : wI T P n m i m = wI T P n m (i + 1) 0 := by
  funext j
  unfold wI
  by_cases h : j % 10 < m
  · by_cases h1 : j / 10 < i
    · simp [h1, show j / 10 < i + 1 by omega]
    · by_cases h2 : j / 10 = i
      · simp [h2, h]
      · simp [h1, h2, show ¬ j / 10 < i + 1 by omega]
  · simp [h]
theorem wI_set (T : Nat → Bool) (P : Nat → Nat → Bool) {n m i k : Nat} (hi : i < n) (hk : k < m) (hk2 : k < 10) : (fun x => if x = i * 10 + k then (T (i * 10 + k) && !P i k) else wI T P n m i k x) = wI T P n m i (k + 1) := by
  funext x
  by_cases hx : x = i * 10 + k
  · rw [if_pos hx]
    unfold wI
    have h1 : x / 10 = i := by omega
    have h2 : x % 10 = k := by omega
    rw [h1, h2, hx]
    simp [hi, hk]
  · rw [if_neg hx]
    unfold wI
    by_cases h1 : x / 10 = i
    · have h2 : x % 10 ≠ k := fun h2 => hx (by omega)
      have h3 : decide (x % 10 < k + 1) = decide (x % 10 < k) := by
        rw [Bool.eq_iff_iff]
        simp
        omega
      rw [h3]
    · simp [h1]
structure wit8F (b : Nat) (b5 : Nat) (i : Nat) (k : Nat) (f : Nat) (p1 : Nat) (p2 : Nat) (z : Bool) (S0 : World → Prop) (S1 : Unit → World → Prop) (S2 : Unit → World → Prop) (d : Nat → Bool) (x29 x30 x31 x32 x33 x34 x35 x36 x37 x38 x39 x40 x41 x42 x43 x44 x45 x46 x47 x48 : Value) (u : Unit) (w : World) : Prop where
  q5 : d 5 = true → d 2 = true
  q6 : d 6 = true → d 5 = true
  q7 : d 7 = true → d 3 = true ∧ d 6 = true
  q8 : d 8 = true → d 4 = true ∧ d 7 = true
  q9 : d 9 = true → d 8 = true
  q10 : d 10 = true → d 9 = true
  q11 : d 11 = true → d 10 = true
  q12 : d 12 = true → d 10 = true
  q13 : d 13 = true → d 10 = true
  q14 : d 14 = true → d 10 = true ∧ d 11 = true ∧ d 12 = true ∧ d 13 = true
  q15 : d 15 = true → d 10 = true ∧ d 14 = true
  q16 : d 16 = true → d 10 = true ∧ d 15 = true
  q18 : d 18 = true → d 0 = true ∧ d 17 = true
  q19 : d 19 = true → d 0 = true ∧ d 1 = true ∧ d 2 = true ∧ d 3 = true ∧ d 4 = true ∧ d 5 = true ∧ d 6 = true ∧ d 7 = true ∧ d 8 = true ∧ d 9 = true ∧ d 10 = true ∧ d 11 = true ∧ d 12 = true ∧ d 13 = true ∧ d 14 = true ∧ d 15 = true ∧ d 16 = true ∧ d 18 = true
  q20 : d 20 = true → d 0 = true ∧ d 1 = true ∧ d 2 = true ∧ d 3 = true ∧ d 4 = true ∧ d 5 = true ∧ d 6 = true ∧ d 7 = true ∧ d 8 = true ∧ d 9 = true ∧ d 10 = true ∧ d 11 = true ∧ d 12 = true ∧ d 13 = true ∧ d 14 = true ∧ d 15 = true ∧ d 16 = true ∧ d 19 = true
  f0 : d 0 = true → x29 = .int .i64 i
  f1 : d 1 = true → x30 = .int .i64 k
  f2 : d 2 = true → x31 = .pointer (some ⟨b, 0, none⟩)
  f3 : d 3 = true → x32 = .int .i64 i
  f4 : d 4 = true → x33 = .int .i64 k
  f5 : d 5 = true → x34 = .pointer (some ⟨b, 0, none⟩)
  f6 : d 6 = true → x35 = .pointer (some ⟨b, 5, none⟩)
  f7 : d 7 = true → x36 = .pointer (some ⟨b, 5 + i * 10, none⟩)
  f8 : d 8 = true → x37 = .pointer (some ⟨b, 5 + i * 10 + k, none⟩)
  f9 : d 9 = true → x38 = .bool true
  f10 : d 10 = true → x39 = .bool true
  f11 : d 11 = true → x40 = .func (.func f) #[] #[.pointer (some ⟨p1, 0, none⟩), .pointer (some ⟨p2, 0, none⟩)]
  f12 : d 12 = true → x41 = .int .i64 i
  f13 : d 13 = true → x42 = .int .i64 k
  f14 : d 14 = true → x43 = .bool z
  f15 : d 15 = true → x44 = .bool (!z)
  f16 : d 16 = true → x45 = .bool (!z)
  f17 : d 17 = true → x46 = .pointer (some ⟨b5, 5, none⟩)
  f18 : d 18 = true → x47 = .pointer (some ⟨b5, 5 + i * 10, none⟩)
  f19 : d 19 = true → x48 = .pointer (some ⟨b5, 5 + i * 10 + k, none⟩)
  st0 : d 14 = false → S0 w
  st1 : d 14 = true → d 20 = false → S1 u w
  st2 : d 20 = true → S2 u w
noncomputable def wit8C : Code := (Tryd.f71.body.bind (regionAt 8)).getD .skip
set_option maxRecDepth 100000 in
set_option maxHeartbeats 4000000 in
theorem wit8 {b : Nat} {b5 : Nat} {i : Nat} {k : Nat} {f : Nat} {p1 : Nat} {p2 : Nat} {z : Bool} {S0 : World → Prop} {S1 : Unit → World → Prop} {S2 : Unit → World → Prop} {Q : Exit → Act → World → Prop} {W1 : World} (hi1 : (0 : Int) ≤ i) (hi2 : (i : Int) < 10) (hk1 : (0 : Int) ≤ k) (hk2 : (k : Int) < 10) (cf : ∀ args w, (callFunc f args).run Tryd.prog w = .ok (.enter f args) w) (h0 : S0 W1.drew)
    (kl9 : Hid (∀ (w : World), (S0 w) → w.cell? ⟨b, 5 + i * 10 + k, none⟩ = some (.bool true)))
    (kc14 : Hid (∀ (w : World), S0 w → Calls Tryd.prog f #[.int .i64 i, .int .i64 k, .pointer (some ⟨p1, 0, none⟩), .pointer (some ⟨p2, 0, none⟩)] w fun e w' => ∃ u : Unit, e = .returned (.bool z) ∧ S1 u w'))
    (kc20 : Hid (∀ (u : Unit) (w : World), S1 u w → (∃ u, w.cell? ⟨b5, 5 + i * 10 + k, none⟩ = some u) ∧ w.frozen? ⟨b5, 5 + i * 10 + k, none⟩ = false ∧ S2 u (w.setCell ⟨b5, 5 + i * 10 + k, none⟩ (.bool (!z)))))
    {s2 s3 s4 s8 s9 s10 s11 s12 s13 s14 s15 s16 s17 s18 s19 s20 s21 s22 s23 s24 s25 s26 s27 s28 s29 s30 s31 s32 s33 s34 s35 s36 s37 s38 s39 s40 s41 s42 s43 s44 s45 s46 s47 s48 s49 s50 : Value} {dd : List Deferred}
    (hQ : ∀ (u : Unit) (w' : World), S2 u w' → Q .normal { tmps := List.toArray (.pointer (some ⟨b, 0, none⟩) :: .func (.func f) #[] #[.pointer (some ⟨p1, 0, none⟩), .pointer (some ⟨p2, 0, none⟩)] :: s2 :: s3 :: s4 :: .pointer (some ⟨b5, 0, none⟩) :: .int .i64 i :: .int .i64 k :: s8 :: s9 :: s10 :: s11 :: s12 :: s13 :: s14 :: s15 :: s16 :: s17 :: s18 :: s19 :: s20 :: s21 :: s22 :: s23 :: s24 :: s25 :: s26 :: s27 :: s28 :: .int .i64 i :: .int .i64 k :: .pointer (some ⟨b, 0, none⟩) :: .int .i64 i :: .int .i64 k :: .pointer (some ⟨b, 0, none⟩) :: .pointer (some ⟨b, 5, none⟩) :: .pointer (some ⟨b, 5 + i * 10, none⟩) :: .pointer (some ⟨b, 5 + i * 10 + k, none⟩) :: .bool true :: .bool true :: .func (.func f) #[] #[.pointer (some ⟨p1, 0, none⟩), .pointer (some ⟨p2, 0, none⟩)] :: .int .i64 i :: .int .i64 k :: .bool z :: .bool (!z) :: .bool (!z) :: .pointer (some ⟨b5, 5, none⟩) :: .pointer (some ⟨b5, 5 + i * 10, none⟩) :: .pointer (some ⟨b5, 5 + i * 10 + k, none⟩) :: s49 :: s50 :: []), defers := dd } w') :
    Code.wpIn (wideAt none) 0 Tryd.prog wit8C Q { tmps := List.toArray (.pointer (some ⟨b, 0, none⟩) :: .func (.func f) #[] #[.pointer (some ⟨p1, 0, none⟩), .pointer (some ⟨p2, 0, none⟩)] :: s2 :: s3 :: s4 :: .pointer (some ⟨b5, 0, none⟩) :: .int .i64 i :: .int .i64 k :: s8 :: s9 :: s10 :: s11 :: s12 :: s13 :: s14 :: s15 :: s16 :: s17 :: s18 :: s19 :: s20 :: s21 :: s22 :: s23 :: s24 :: s25 :: s26 :: s27 :: s28 :: s29 :: s30 :: s31 :: s32 :: s33 :: s34 :: s35 :: s36 :: s37 :: s38 :: s39 :: s40 :: s41 :: s42 :: s43 :: s44 :: s45 :: s46 :: s47 :: s48 :: s49 :: s50 :: []), defers := dd } W1 := by
  have HQ := Lib.hid hQ
  clear hQ
  conv => arg 4; whnf
  refine wpIn_region_invG mixed (by kernel_rfl) (fun d_ a_ w' => ∃ (x29 : Value) (x30 : Value) (x31 : Value) (x32 : Value) (x33 : Value) (x34 : Value) (x35 : Value) (x36 : Value) (x37 : Value) (x38 : Value) (x39 : Value) (x40 : Value) (x41 : Value) (x42 : Value) (x43 : Value) (x44 : Value) (x45 : Value) (x46 : Value) (x47 : Value) (x48 : Value) (u : Unit), a_ = { tmps := List.toArray (.pointer (some ⟨b, 0, none⟩) :: .func (.func f) #[] #[.pointer (some ⟨p1, 0, none⟩), .pointer (some ⟨p2, 0, none⟩)] :: s2 :: s3 :: s4 :: .pointer (some ⟨b5, 0, none⟩) :: .int .i64 i :: .int .i64 k :: s8 :: s9 :: s10 :: s11 :: s12 :: s13 :: s14 :: s15 :: s16 :: s17 :: s18 :: s19 :: s20 :: s21 :: s22 :: s23 :: s24 :: s25 :: s26 :: s27 :: s28 :: x29 :: x30 :: x31 :: x32 :: x33 :: x34 :: x35 :: x36 :: x37 :: x38 :: x39 :: x40 :: x41 :: x42 :: x43 :: x44 :: x45 :: x46 :: x47 :: x48 :: s49 :: s50 :: []), defers := dd } ∧ wit8F b b5 i k f p1 p2 z S0 S1 S2 d_ x29 x30 x31 x32 x33 x34 x35 x36 x37 x38 x39 x40 x41 x42 x43 x44 x45 x46 x47 x48 u w') ?_ ?_ ?_
  · refine ⟨s29, s30, s31, s32, s33, s34, s35, s36, s37, s38, s39, s40, s41, s42, s43, s44, s45, s46, s47, s48, default, rfl, ?_⟩
    constructor <;> first | rfl | (intro _; rfl) | (intro h; cases h; done) | (intro _; exact h0) | exact h0
  · refine ⟨?_, ?_, ?_, ?_, ?_, ?_, ?_, ?_, ?_, ?_, ?_, ?_, ?_, ?_, ?_, ?_, ?_, ?_, ?_, ?_, ?_, trivial⟩
    all_goals
      rintro d_ a_ w1 K hd_ hdep ⟨x29, x30, x31, x32, x33, x34, x35, x36, x37, x38, x39, x40, x41, x42, x43, x44, x45, x46, x47, x48, u, rfl, F⟩ HK
      simp [Region.binds] at hdep
    · have HF : Hid (wit8F b b5 i k f p1 p2 z S0 S1 S2 (upd d_ 0) (.int .i64 i) x30 x31 x32 x33 x34 x35 x36 x37 x38 x39 x40 x41 x42 x43 x44 x45 x46 x47 x48 u w1) := ⟨F.q5, F.q6, F.q7, F.q8, F.q9, F.q10, F.q11, F.q12, F.q13, F.q14, F.q15, F.q16, fun h => andM0 (F.q18 h) rfl, fun h => andM0 (F.q19 h) rfl, fun h => andM0 (F.q20 h) rfl, fun _ => rfl, F.f1, F.f2, F.f3, F.f4, F.f5, F.f6, F.f7, F.f8, F.f9, F.f10, F.f11, F.f12, F.f13, F.f14, F.f15, F.f16, F.f17, F.f18, F.f19, F.st0, F.st1, F.st2⟩
      clear F
      go_simp
      exact HK.out _ _ ⟨_, _, _, _, _, _, _, _, _, _, _, _, _, _, _, _, _, _, _, _, _, rfl, HF.out⟩
    · have HF : Hid (wit8F b b5 i k f p1 p2 z S0 S1 S2 (upd d_ 1) x29 (.int .i64 k) x31 x32 x33 x34 x35 x36 x37 x38 x39 x40 x41 x42 x43 x44 x45 x46 x47 x48 u w1) := ⟨F.q5, F.q6, F.q7, F.q8, F.q9, F.q10, F.q11, F.q12, F.q13, F.q14, F.q15, F.q16, F.q18, fun h => andM1 (F.q19 h) rfl, fun h => andM1 (F.q20 h) rfl, F.f0, fun _ => rfl, F.f2, F.f3, F.f4, F.f5, F.f6, F.f7, F.f8, F.f9, F.f10, F.f11, F.f12, F.f13, F.f14, F.f15, F.f16, F.f17, F.f18, F.f19, F.st0, F.st1, F.st2⟩
      clear F
      go_simp
      exact HK.out _ _ ⟨_, _, _, _, _, _, _, _, _, _, _, _, _, _, _, _, _, _, _, _, _, rfl, HF.out⟩
    · have HF : Hid (wit8F b b5 i k f p1 p2 z S0 S1 S2 (upd d_ 2) x29 x30 (.pointer (some ⟨b, 0, none⟩)) x32 x33 x34 x35 x36 x37 x38 x39 x40 x41 x42 x43 x44 x45 x46 x47 x48 u w1) := ⟨fun h => rfl, F.q6, F.q7, F.q8, F.q9, F.q10, F.q11, F.q12, F.q13, F.q14, F.q15, F.q16, F.q18, fun h => andM2 (F.q19 h) rfl, fun h => andM2 (F.q20 h) rfl, F.f0, F.f1, fun _ => rfl, F.f3, F.f4, F.f5, F.f6, F.f7, F.f8, F.f9, F.f10, F.f11, F.f12, F.f13, F.f14, F.f15, F.f16, F.f17, F.f18, F.f19, F.st0, F.st1, F.st2⟩
      clear F
      go_simp
      exact HK.out _ _ ⟨_, _, _, _, _, _, _, _, _, _, _, _, _, _, _, _, _, _, _, _, _, rfl, HF.out⟩
    · have HF : Hid (wit8F b b5 i k f p1 p2 z S0 S1 S2 (upd d_ 3) x29 x30 x31 (.int .i64 i) x33 x34 x35 x36 x37 x38 x39 x40 x41 x42 x43 x44 x45 x46 x47 x48 u w1) := ⟨F.q5, F.q6, fun h => andM0 (F.q7 h) rfl, F.q8, F.q9, F.q10, F.q11, F.q12, F.q13, F.q14, F.q15, F.q16, F.q18, fun h => andM3 (F.q19 h) rfl, fun h => andM3 (F.q20 h) rfl, F.f0, F.f1, F.f2, fun _ => rfl, F.f4, F.f5, F.f6, F.f7, F.f8, F.f9, F.f10, F.f11, F.f12, F.f13, F.f14, F.f15, F.f16, F.f17, F.f18, F.f19, F.st0, F.st1, F.st2⟩
      clear F
      go_simp
      exact HK.out _ _ ⟨_, _, _, _, _, _, _, _, _, _, _, _, _, _, _, _, _, _, _, _, _, rfl, HF.out⟩
    · have HF : Hid (wit8F b b5 i k f p1 p2 z S0 S1 S2 (upd d_ 4) x29 x30 x31 x32 (.int .i64 k) x34 x35 x36 x37 x38 x39 x40 x41 x42 x43 x44 x45 x46 x47 x48 u w1) := ⟨F.q5, F.q6, F.q7, fun h => andM0 (F.q8 h) rfl, F.q9, F.q10, F.q11, F.q12, F.q13, F.q14, F.q15, F.q16, F.q18, fun h => andM4 (F.q19 h) rfl, fun h => andM4 (F.q20 h) rfl, F.f0, F.f1, F.f2, F.f3, fun _ => rfl, F.f5, F.f6, F.f7, F.f8, F.f9, F.f10, F.f11, F.f12, F.f13, F.f14, F.f15, F.f16, F.f17, F.f18, F.f19, F.st0, F.st1, F.st2⟩
      clear F
      go_simp
      exact HK.out _ _ ⟨_, _, _, _, _, _, _, _, _, _, _, _, _, _, _, _, _, _, _, _, _, rfl, HF.out⟩
    · obtain rfl := F.f2 (by simp [hdep])
      have HF : Hid (wit8F b b5 i k f p1 p2 z S0 S1 S2 (upd d_ 5) x29 x30 (.pointer (some ⟨b, 0, none⟩)) x32 x33 (.pointer (some ⟨b, 0, none⟩)) x35 x36 x37 x38 x39 x40 x41 x42 x43 x44 x45 x46 x47 x48 u w1) := ⟨fun _ => (show _ from (by simp [hdep] : d_ 2 = true)), fun h => rfl, F.q7, F.q8, F.q9, F.q10, F.q11, F.q12, F.q13, F.q14, F.q15, F.q16, F.q18, fun h => andM5 (F.q19 h) rfl, fun h => andM5 (F.q20 h) rfl, F.f0, F.f1, F.f2, F.f3, F.f4, fun _ => rfl, F.f6, F.f7, F.f8, F.f9, F.f10, F.f11, F.f12, F.f13, F.f14, F.f15, F.f16, F.f17, F.f18, F.f19, F.st0, F.st1, F.st2⟩
      clear F
      go_simp
      exact HK.out _ _ ⟨_, _, _, _, _, _, _, _, _, _, _, _, _, _, _, _, _, _, _, _, _, rfl, HF.out⟩
    · obtain rfl := F.f5 (by simp [hdep])
      have HF : Hid (wit8F b b5 i k f p1 p2 z S0 S1 S2 (upd d_ 6) x29 x30 x31 x32 x33 (.pointer (some ⟨b, 0, none⟩)) (.pointer (some ⟨b, 5, none⟩)) x36 x37 x38 x39 x40 x41 x42 x43 x44 x45 x46 x47 x48 u w1) := ⟨F.q5, fun _ => (show _ from (by simp [hdep] : d_ 5 = true)), fun h => andL1 (F.q7 h) rfl, F.q8, F.q9, F.q10, F.q11, F.q12, F.q13, F.q14, F.q15, F.q16, F.q18, fun h => andM6 (F.q19 h) rfl, fun h => andM6 (F.q20 h) rfl, F.f0, F.f1, F.f2, F.f3, F.f4, F.f5, fun _ => rfl, F.f7, F.f8, F.f9, F.f10, F.f11, F.f12, F.f13, F.f14, F.f15, F.f16, F.f17, F.f18, F.f19, F.st0, F.st1, F.st2⟩
      clear F
      go_simp
      exact HK.out _ _ ⟨_, _, _, _, _, _, _, _, _, _, _, _, _, _, _, _, _, _, _, _, _, rfl, HF.out⟩
    · obtain rfl := F.f3 (by simp [hdep])
      obtain rfl := F.f6 (by simp [hdep])
      have HF : Hid (wit8F b b5 i k f p1 p2 z S0 S1 S2 (upd d_ 7) x29 x30 x31 (.int .i64 i) x33 x34 (.pointer (some ⟨b, 5, none⟩)) (.pointer (some ⟨b, 5 + i * 10, none⟩)) x37 x38 x39 x40 x41 x42 x43 x44 x45 x46 x47 x48 u w1) := ⟨F.q5, F.q6, fun _ => ⟨(show _ from (by simp [hdep] : d_ 3 = true)), (show _ from (by simp [hdep] : d_ 6 = true))⟩, fun h => andL1 (F.q8 h) rfl, F.q9, F.q10, F.q11, F.q12, F.q13, F.q14, F.q15, F.q16, F.q18, fun h => andM7 (F.q19 h) rfl, fun h => andM7 (F.q20 h) rfl, F.f0, F.f1, F.f2, F.f3, F.f4, F.f5, F.f6, fun _ => rfl, F.f8, F.f9, F.f10, F.f11, F.f12, F.f13, F.f14, F.f15, F.f16, F.f17, F.f18, F.f19, F.st0, F.st1, F.st2⟩
      clear F
      go_simp
      exact HK.out _ _ ⟨_, _, _, _, _, _, _, _, _, _, _, _, _, _, _, _, _, _, _, _, _, rfl, HF.out⟩
    · obtain rfl := F.f4 (by simp [hdep])
      obtain rfl := F.f7 (by simp [hdep])
      have HF : Hid (wit8F b b5 i k f p1 p2 z S0 S1 S2 (upd d_ 8) x29 x30 x31 x32 (.int .i64 k) x34 x35 (.pointer (some ⟨b, 5 + i * 10, none⟩)) (.pointer (some ⟨b, 5 + i * 10 + k, none⟩)) x38 x39 x40 x41 x42 x43 x44 x45 x46 x47 x48 u w1) := ⟨F.q5, F.q6, F.q7, fun _ => ⟨(show _ from (by simp [hdep] : d_ 4 = true)), (show _ from (by simp [hdep] : d_ 7 = true))⟩, fun h => rfl, F.q10, F.q11, F.q12, F.q13, F.q14, F.q15, F.q16, F.q18, fun h => andM8 (F.q19 h) rfl, fun h => andM8 (F.q20 h) rfl, F.f0, F.f1, F.f2, F.f3, F.f4, F.f5, F.f6, F.f7, fun _ => rfl, F.f9, F.f10, F.f11, F.f12, F.f13, F.f14, F.f15, F.f16, F.f17, F.f18, F.f19, F.st0, F.st1, F.st2⟩
      clear F
      go_simp
      exact HK.out _ _ ⟨_, _, _, _, _, _, _, _, _, _, _, _, _, _, _, _, _, _, _, _, _, rfl, HF.out⟩
    · have hst : S0 w1 := by
        have n_ : d_ 14 = false := by
          cases e_ : d_ 14 with
          | false => rfl
          | true => have h2 := (F.q10 (F.q14 e_).1); rw [show d_ 9 = false from hd_] at h2; cases h2
        exact (F.st0 n_)
      have kk := kl9.out w1 hst
      clear hst
      obtain rfl := F.f8 (by simp [hdep])
      have HF : Hid (wit8F b b5 i k f p1 p2 z S0 S1 S2 (upd d_ 9) x29 x30 x31 x32 x33 x34 x35 x36 (.pointer (some ⟨b, 5 + i * 10 + k, none⟩)) (.bool true) x39 x40 x41 x42 x43 x44 x45 x46 x47 x48 u w1) := ⟨F.q5, F.q6, F.q7, F.q8, fun _ => (show _ from (by simp [hdep] : d_ 8 = true)), fun h => rfl, F.q11, F.q12, F.q13, F.q14, F.q15, F.q16, F.q18, fun h => andM9 (F.q19 h) rfl, fun h => andM9 (F.q20 h) rfl, F.f0, F.f1, F.f2, F.f3, F.f4, F.f5, F.f6, F.f7, F.f8, fun _ => rfl, F.f10, F.f11, F.f12, F.f13, F.f14, F.f15, F.f16, F.f17, F.f18, F.f19, F.st0, F.st1, F.st2⟩
      clear F
      go_simp
      exact HK.out _ _ ⟨_, _, _, _, _, _, _, _, _, _, _, _, _, _, _, _, _, _, _, _, _, rfl, HF.out⟩
    · obtain rfl := F.f9 (by simp [hdep])
      have HF : Hid (wit8F b b5 i k f p1 p2 z S0 S1 S2 (upd d_ 10) x29 x30 x31 x32 x33 x34 x35 x36 x37 (.bool true) (.bool true) x40 x41 x42 x43 x44 x45 x46 x47 x48 u w1) := ⟨F.q5, F.q6, F.q7, F.q8, F.q9, fun _ => (show _ from (by simp [hdep] : d_ 9 = true)), fun h => rfl, fun h => rfl, fun h => rfl, fun h => andM0 (F.q14 h) rfl, fun h => andM0 (F.q15 h) rfl, fun h => andM0 (F.q16 h) rfl, F.q18, fun h => andM10 (F.q19 h) rfl, fun h => andM10 (F.q20 h) rfl, F.f0, F.f1, F.f2, F.f3, F.f4, F.f5, F.f6, F.f7, F.f8, F.f9, fun _ => rfl, F.f11, F.f12, F.f13, F.f14, F.f15, F.f16, F.f17, F.f18, F.f19, F.st0, F.st1, F.st2⟩
      clear F
      go_simp
      exact HK.out _ _ ⟨_, _, _, _, _, _, _, _, _, _, _, _, _, _, _, _, _, _, _, _, _, rfl, HF.out⟩
    · obtain rfl := F.f10 (by simp [hdep])
      have HF : Hid (wit8F b b5 i k f p1 p2 z S0 S1 S2 (upd d_ 11) x29 x30 x31 x32 x33 x34 x35 x36 x37 x38 (.bool true) (.func (.func f) #[] #[.pointer (some ⟨p1, 0, none⟩), .pointer (some ⟨p2, 0, none⟩)]) x41 x42 x43 x44 x45 x46 x47 x48 u w1) := ⟨F.q5, F.q6, F.q7, F.q8, F.q9, F.q10, fun _ => (show _ from (by simp [hdep] : d_ 10 = true)), F.q12, F.q13, fun h => andM1 (F.q14 h) rfl, F.q15, F.q16, F.q18, fun h => andM11 (F.q19 h) rfl, fun h => andM11 (F.q20 h) rfl, F.f0, F.f1, F.f2, F.f3, F.f4, F.f5, F.f6, F.f7, F.f8, F.f9, F.f10, fun _ => rfl, F.f12, F.f13, F.f14, F.f15, F.f16, F.f17, F.f18, F.f19, F.st0, F.st1, F.st2⟩
      clear F
      go_simp
      exact HK.out _ _ ⟨_, _, _, _, _, _, _, _, _, _, _, _, _, _, _, _, _, _, _, _, _, rfl, HF.out⟩
    · obtain rfl := F.f10 (by simp [hdep])
      have HF : Hid (wit8F b b5 i k f p1 p2 z S0 S1 S2 (upd d_ 12) x29 x30 x31 x32 x33 x34 x35 x36 x37 x38 (.bool true) x40 (.int .i64 i) x42 x43 x44 x45 x46 x47 x48 u w1) := ⟨F.q5, F.q6, F.q7, F.q8, F.q9, F.q10, F.q11, fun _ => (show _ from (by simp [hdep] : d_ 10 = true)), F.q13, fun h => andM2 (F.q14 h) rfl, F.q15, F.q16, F.q18, fun h => andM12 (F.q19 h) rfl, fun h => andM12 (F.q20 h) rfl, F.f0, F.f1, F.f2, F.f3, F.f4, F.f5, F.f6, F.f7, F.f8, F.f9, F.f10, F.f11, fun _ => rfl, F.f13, F.f14, F.f15, F.f16, F.f17, F.f18, F.f19, F.st0, F.st1, F.st2⟩
      clear F
      go_simp
      exact HK.out _ _ ⟨_, _, _, _, _, _, _, _, _, _, _, _, _, _, _, _, _, _, _, _, _, rfl, HF.out⟩
    · obtain rfl := F.f10 (by simp [hdep])
      have HF : Hid (wit8F b b5 i k f p1 p2 z S0 S1 S2 (upd d_ 13) x29 x30 x31 x32 x33 x34 x35 x36 x37 x38 (.bool true) x40 x41 (.int .i64 k) x43 x44 x45 x46 x47 x48 u w1) := ⟨F.q5, F.q6, F.q7, F.q8, F.q9, F.q10, F.q11, F.q12, fun _ => (show _ from (by simp [hdep] : d_ 10 = true)), fun h => andL3 (F.q14 h) rfl, F.q15, F.q16, F.q18, fun h => andM13 (F.q19 h) rfl, fun h => andM13 (F.q20 h) rfl, F.f0, F.f1, F.f2, F.f3, F.f4, F.f5, F.f6, F.f7, F.f8, F.f9, F.f10, F.f11, F.f12, fun _ => rfl, F.f14, F.f15, F.f16, F.f17, F.f18, F.f19, F.st0, F.st1, F.st2⟩
      clear F
      go_simp
      exact HK.out _ _ ⟨_, _, _, _, _, _, _, _, _, _, _, _, _, _, _, _, _, _, _, _, _, rfl, HF.out⟩
    · have hS := F.st0  hd_
      obtain rfl := F.f10 (by simp [hdep])
      obtain rfl := F.f11 (by simp [hdep])
      obtain rfl := F.f12 (by simp [hdep])
      obtain rfl := F.f13 (by simp [hdep])
      have hc := kc14.out w1 hS
      have HF := Lib.hid F
      clear F
      have cfx := cf
      go_simp
      refine ⟨trivial, rfl, wideAt_calls (hc.mono ?_)⟩
      rintro e w5 ⟨v_, rfl, hres⟩
      exact HK.out _ _ ⟨_, _, _, _, _, _, _, _, _, _, _, _, _, _, _, _, _, _, _, _, v_, rfl, ⟨HF.out.q5, HF.out.q6, HF.out.q7, HF.out.q8, HF.out.q9, HF.out.q10, HF.out.q11, HF.out.q12, HF.out.q13, fun _ => ⟨(show _ from (by simp [hdep] : d_ 10 = true)), (show _ from (by simp [hdep] : d_ 11 = true)), (show _ from (by simp [hdep] : d_ 12 = true)), (show _ from (by simp [hdep] : d_ 13 = true))⟩, fun h => ⟨(HF.out.q15 h).1, rfl⟩, HF.out.q16, HF.out.q18, fun h => ⟨(HF.out.q19 h).1, (HF.out.q19 h).2.1, (HF.out.q19 h).2.2.1, (HF.out.q19 h).2.2.2.1, (HF.out.q19 h).2.2.2.2.1, (HF.out.q19 h).2.2.2.2.2.1, (HF.out.q19 h).2.2.2.2.2.2.1, (HF.out.q19 h).2.2.2.2.2.2.2.1, (HF.out.q19 h).2.2.2.2.2.2.2.2.1, (HF.out.q19 h).2.2.2.2.2.2.2.2.2.1, (HF.out.q19 h).2.2.2.2.2.2.2.2.2.2.1, (HF.out.q19 h).2.2.2.2.2.2.2.2.2.2.2.1, (HF.out.q19 h).2.2.2.2.2.2.2.2.2.2.2.2.1, (HF.out.q19 h).2.2.2.2.2.2.2.2.2.2.2.2.2.1, rfl, (HF.out.q19 h).2.2.2.2.2.2.2.2.2.2.2.2.2.2.2.1, (HF.out.q19 h).2.2.2.2.2.2.2.2.2.2.2.2.2.2.2.2.1, (HF.out.q19 h).2.2.2.2.2.2.2.2.2.2.2.2.2.2.2.2.2⟩, fun h => ⟨(HF.out.q20 h).1, (HF.out.q20 h).2.1, (HF.out.q20 h).2.2.1, (HF.out.q20 h).2.2.2.1, (HF.out.q20 h).2.2.2.2.1, (HF.out.q20 h).2.2.2.2.2.1, (HF.out.q20 h).2.2.2.2.2.2.1, (HF.out.q20 h).2.2.2.2.2.2.2.1, (HF.out.q20 h).2.2.2.2.2.2.2.2.1, (HF.out.q20 h).2.2.2.2.2.2.2.2.2.1, (HF.out.q20 h).2.2.2.2.2.2.2.2.2.2.1, (HF.out.q20 h).2.2.2.2.2.2.2.2.2.2.2.1, (HF.out.q20 h).2.2.2.2.2.2.2.2.2.2.2.2.1, (HF.out.q20 h).2.2.2.2.2.2.2.2.2.2.2.2.2.1, rfl, (HF.out.q20 h).2.2.2.2.2.2.2.2.2.2.2.2.2.2.2.1, (HF.out.q20 h).2.2.2.2.2.2.2.2.2.2.2.2.2.2.2.2.1, (HF.out.q20 h).2.2.2.2.2.2.2.2.2.2.2.2.2.2.2.2.2⟩, HF.out.f0, HF.out.f1, HF.out.f2, HF.out.f3, HF.out.f4, HF.out.f5, HF.out.f6, HF.out.f7, HF.out.f8, HF.out.f9, HF.out.f10, HF.out.f11, HF.out.f12, HF.out.f13, fun _ => rfl, HF.out.f15, HF.out.f16, HF.out.f17, HF.out.f18, HF.out.f19, fun h => (by simp [upd] at h), fun _ _ => hres, fun h => (by have h2 : d_ 14 = true := (HF.out.q20 h).2.2.2.2.2.2.2.2.2.2.2.2.2.2.1; rw [show d_ 14 = false from hd_] at h2; cases h2)⟩⟩
    · obtain rfl := F.f10 (by simp [hdep])
      obtain rfl := F.f14 (by simp [hdep])
      have HF : Hid (wit8F b b5 i k f p1 p2 z S0 S1 S2 (upd d_ 15) x29 x30 x31 x32 x33 x34 x35 x36 x37 x38 (.bool true) x40 x41 x42 (.bool z) (.bool (!z)) x45 x46 x47 x48 u w1) := ⟨F.q5, F.q6, F.q7, F.q8, F.q9, F.q10, F.q11, F.q12, F.q13, F.q14, fun _ => ⟨(show _ from (by simp [hdep] : d_ 10 = true)), (show _ from (by simp [hdep] : d_ 14 = true))⟩, fun h => andL1 (F.q16 h) rfl, F.q18, fun h => andM15 (F.q19 h) rfl, fun h => andM15 (F.q20 h) rfl, F.f0, F.f1, F.f2, F.f3, F.f4, F.f5, F.f6, F.f7, F.f8, F.f9, F.f10, F.f11, F.f12, F.f13, F.f14, fun _ => rfl, F.f16, F.f17, F.f18, F.f19, F.st0, F.st1, F.st2⟩
      clear F
      go_simp
      exact HK.out _ _ ⟨_, _, _, _, _, _, _, _, _, _, _, _, _, _, _, _, _, _, _, _, _, rfl, HF.out⟩
    · obtain rfl := F.f10 (by simp [hdep])
      obtain rfl := F.f15 (by simp [hdep])
      have HF : Hid (wit8F b b5 i k f p1 p2 z S0 S1 S2 (upd d_ 16) x29 x30 x31 x32 x33 x34 x35 x36 x37 x38 (.bool true) x40 x41 x42 x43 (.bool (!z)) (.bool (!z)) x46 x47 x48 u w1) := ⟨F.q5, F.q6, F.q7, F.q8, F.q9, F.q10, F.q11, F.q12, F.q13, F.q14, F.q15, fun _ => ⟨(show _ from (by simp [hdep] : d_ 10 = true)), (show _ from (by simp [hdep] : d_ 15 = true))⟩, F.q18, fun h => andM16 (F.q19 h) rfl, fun h => andM16 (F.q20 h) rfl, F.f0, F.f1, F.f2, F.f3, F.f4, F.f5, F.f6, F.f7, F.f8, F.f9, F.f10, F.f11, F.f12, F.f13, F.f14, F.f15, fun _ => rfl, F.f17, F.f18, F.f19, F.st0, F.st1, F.st2⟩
      clear F
      go_simp
      exact HK.out _ _ ⟨_, _, _, _, _, _, _, _, _, _, _, _, _, _, _, _, _, _, _, _, _, rfl, HF.out⟩
    · have HF : Hid (wit8F b b5 i k f p1 p2 z S0 S1 S2 (upd d_ 17) x29 x30 x31 x32 x33 x34 x35 x36 x37 x38 x39 x40 x41 x42 x43 x44 x45 (.pointer (some ⟨b5, 5, none⟩)) x47 x48 u w1) := ⟨F.q5, F.q6, F.q7, F.q8, F.q9, F.q10, F.q11, F.q12, F.q13, F.q14, F.q15, F.q16, fun h => andL1 (F.q18 h) rfl, F.q19, F.q20, F.f0, F.f1, F.f2, F.f3, F.f4, F.f5, F.f6, F.f7, F.f8, F.f9, F.f10, F.f11, F.f12, F.f13, F.f14, F.f15, F.f16, fun _ => rfl, F.f18, F.f19, F.st0, F.st1, F.st2⟩
      clear F
      go_simp
      exact HK.out _ _ ⟨_, _, _, _, _, _, _, _, _, _, _, _, _, _, _, _, _, _, _, _, _, rfl, HF.out⟩
    · obtain rfl := F.f0 (by simp [hdep])
      obtain rfl := F.f17 (by simp [hdep])
      have HF : Hid (wit8F b b5 i k f p1 p2 z S0 S1 S2 (upd d_ 18) (.int .i64 i) x30 x31 x32 x33 x34 x35 x36 x37 x38 x39 x40 x41 x42 x43 x44 x45 (.pointer (some ⟨b5, 5, none⟩)) (.pointer (some ⟨b5, 5 + i * 10, none⟩)) x48 u w1) := ⟨F.q5, F.q6, F.q7, F.q8, F.q9, F.q10, F.q11, F.q12, F.q13, F.q14, F.q15, F.q16, fun _ => ⟨(show _ from (by simp [hdep] : d_ 0 = true)), (show _ from (by simp [hdep] : d_ 17 = true))⟩, fun h => andL17 (F.q19 h) rfl, F.q20, F.f0, F.f1, F.f2, F.f3, F.f4, F.f5, F.f6, F.f7, F.f8, F.f9, F.f10, F.f11, F.f12, F.f13, F.f14, F.f15, F.f16, F.f17, fun _ => rfl, F.f19, F.st0, F.st1, F.st2⟩
      clear F
      go_simp
      exact HK.out _ _ ⟨_, _, _, _, _, _, _, _, _, _, _, _, _, _, _, _, _, _, _, _, _, rfl, HF.out⟩
    · obtain rfl := F.f1 (by simp [hdep])
      obtain rfl := F.f18 (by simp [hdep])
      have HF : Hid (wit8F b b5 i k f p1 p2 z S0 S1 S2 (upd d_ 19) x29 (.int .i64 k) x31 x32 x33 x34 x35 x36 x37 x38 x39 x40 x41 x42 x43 x44 x45 x46 (.pointer (some ⟨b5, 5 + i * 10, none⟩)) (.pointer (some ⟨b5, 5 + i * 10 + k, none⟩)) u w1) := ⟨F.q5, F.q6, F.q7, F.q8, F.q9, F.q10, F.q11, F.q12, F.q13, F.q14, F.q15, F.q16, F.q18, fun _ => ⟨(show _ from (by simp [hdep] : d_ 0 = true)), (show _ from (by simp [hdep] : d_ 1 = true)), (show _ from (by simp [hdep] : d_ 2 = true)), (show _ from (by simp [hdep] : d_ 3 = true)), (show _ from (by simp [hdep] : d_ 4 = true)), (show _ from (by simp [hdep] : d_ 5 = true)), (show _ from (by simp [hdep] : d_ 6 = true)), (show _ from (by simp [hdep] : d_ 7 = true)), (show _ from (by simp [hdep] : d_ 8 = true)), (show _ from (by simp [hdep] : d_ 9 = true)), (show _ from (by simp [hdep] : d_ 10 = true)), (show _ from (by simp [hdep] : d_ 11 = true)), (show _ from (by simp [hdep] : d_ 12 = true)), (show _ from (by simp [hdep] : d_ 13 = true)), (show _ from (by simp [hdep] : d_ 14 = true)), (show _ from (by simp [hdep] : d_ 15 = true)), (show _ from (by simp [hdep] : d_ 16 = true)), (show _ from (by simp [hdep] : d_ 18 = true))⟩, fun h => andL17 (F.q20 h) rfl, F.f0, F.f1, F.f2, F.f3, F.f4, F.f5, F.f6, F.f7, F.f8, F.f9, F.f10, F.f11, F.f12, F.f13, F.f14, F.f15, F.f16, F.f17, F.f18, fun _ => rfl, F.st0, F.st1, F.st2⟩
      clear F
      go_simp
      exact HK.out _ _ ⟨_, _, _, _, _, _, _, _, _, _, _, _, _, _, _, _, _, _, _, _, _, rfl, HF.out⟩
    · have hS := F.st1 (by simp [hdep] : d_ 14 = true) hd_
      obtain rfl := F.f16 (by simp [hdep])
      obtain rfl := F.f19 (by simp [hdep])
      obtain ⟨⟨ku0, kcell0⟩, kfr0, hres⟩ := kc20.out u w1 hS
      have HF : Hid (wit8F b b5 i k f p1 p2 z S0 S1 S2 (upd d_ 20) x29 x30 x31 x32 x33 x34 x35 x36 x37 x38 x39 x40 x41 x42 x43 x44 (.bool (!z)) x46 x47 (.pointer (some ⟨b5, 5 + i * 10 + k, none⟩)) u (w1.setCell ⟨b5, 5 + i * 10 + k, none⟩ (.bool (!z)))) := ⟨F.q5, F.q6, F.q7, F.q8, F.q9, F.q10, F.q11, F.q12, F.q13, F.q14, F.q15, F.q16, F.q18, F.q19, fun _ => ⟨(show _ from (by simp [hdep] : d_ 0 = true)), (show _ from (by simp [hdep] : d_ 1 = true)), (show _ from (by simp [hdep] : d_ 2 = true)), (show _ from (by simp [hdep] : d_ 3 = true)), (show _ from (by simp [hdep] : d_ 4 = true)), (show _ from (by simp [hdep] : d_ 5 = true)), (show _ from (by simp [hdep] : d_ 6 = true)), (show _ from (by simp [hdep] : d_ 7 = true)), (show _ from (by simp [hdep] : d_ 8 = true)), (show _ from (by simp [hdep] : d_ 9 = true)), (show _ from (by simp [hdep] : d_ 10 = true)), (show _ from (by simp [hdep] : d_ 11 = true)), (show _ from (by simp [hdep] : d_ 12 = true)), (show _ from (by simp [hdep] : d_ 13 = true)), (show _ from (by simp [hdep] : d_ 14 = true)), (show _ from (by simp [hdep] : d_ 15 = true)), (show _ from (by simp [hdep] : d_ 16 = true)), (show _ from (by simp [hdep] : d_ 19 = true))⟩, F.f0, F.f1, F.f2, F.f3, F.f4, F.f5, F.f6, F.f7, F.f8, F.f9, F.f10, F.f11, F.f12, F.f13, F.f14, F.f15, F.f16, F.f17, F.f18, F.f19, fun h => (by have h2 : d_ 14 = false := h; rw [(by simp [hdep] : d_ 14 = true)] at h2; cases h2), fun _ h => (by simp [upd] at h), fun _ => hres⟩
      clear F hS hres
      go_simp
      exact HK.out _ _ ⟨_, _, _, _, _, _, _, _, _, _, _, _, _, _, _, _, _, _, _, _, _, rfl, HF.out⟩
  · rintro d_ a_ w1 hall ⟨x29, x30, x31, x32, x33, x34, x35, x36, x37, x38, x39, x40, x41, x42, x43, x44, x45, x46, x47, x48, u, rfl, F⟩
    have hall' : ∀ k, k < 21 → d_ k = true := hall
    obtain rfl := F.f0 (hall' 0 (by decide))
    obtain rfl := F.f1 (hall' 1 (by decide))
    obtain rfl := F.f2 (hall' 2 (by decide))
    obtain rfl := F.f3 (hall' 3 (by decide))
    obtain rfl := F.f4 (hall' 4 (by decide))
    obtain rfl := F.f5 (hall' 5 (by decide))
    obtain rfl := F.f6 (hall' 6 (by decide))
    obtain rfl := F.f7 (hall' 7 (by decide))
    obtain rfl := F.f8 (hall' 8 (by decide))
    obtain rfl := F.f9 (hall' 9 (by decide))
    obtain rfl := F.f10 (hall' 10 (by decide))
    obtain rfl := F.f11 (hall' 11 (by decide))
    obtain rfl := F.f12 (hall' 12 (by decide))
    obtain rfl := F.f13 (hall' 13 (by decide))
    obtain rfl := F.f14 (hall' 14 (by decide))
    obtain rfl := F.f15 (hall' 15 (by decide))
    obtain rfl := F.f16 (hall' 16 (by decide))
    obtain rfl := F.f17 (hall' 17 (by decide))
    obtain rfl := F.f18 (hall' 18 (by decide))
    obtain rfl := F.f19 (hall' 19 (by decide))
    have hst := F.st2 (hall' 20 (by decide))
    exact HQ.out u w1 hst
structure wit8nF (b : Nat) (b5 : Nat) (i : Nat) (k : Nat) (f : Nat) (p1 : Nat) (p2 : Nat) (S0 : World → Prop) (S1 : World → Prop) (d : Nat → Bool) (x29 x30 x31 x32 x33 x34 x35 x36 x37 x38 x39 x40 x41 x42 x43 x44 x45 x46 x47 x48 : Value) (w : World) : Prop where
  q5 : d 5 = true → d 2 = true
  q6 : d 6 = true → d 5 = true
  q7 : d 7 = true → d 3 = true ∧ d 6 = true
  q8 : d 8 = true → d 4 = true ∧ d 7 = true
  q9 : d 9 = true → d 8 = true
  q10 : d 10 = true → d 9 = true
  q11 : d 11 = true → d 10 = true
  q12 : d 12 = true → d 10 = true
  q13 : d 13 = true → d 10 = true
  q14 : d 14 = true → d 10 = true ∧ d 11 = true ∧ d 12 = true ∧ d 13 = true
  q15 : d 15 = true → d 10 = true ∧ d 14 = true
  q16 : d 16 = true → d 10 = true ∧ d 15 = true
  q18 : d 18 = true → d 0 = true ∧ d 17 = true
  q19 : d 19 = true → d 0 = true ∧ d 1 = true ∧ d 2 = true ∧ d 3 = true ∧ d 4 = true ∧ d 5 = true ∧ d 6 = true ∧ d 7 = true ∧ d 8 = true ∧ d 9 = true ∧ d 10 = true ∧ d 11 = true ∧ d 12 = true ∧ d 13 = true ∧ d 14 = true ∧ d 15 = true ∧ d 16 = true ∧ d 18 = true
  q20 : d 20 = true → d 0 = true ∧ d 1 = true ∧ d 2 = true ∧ d 3 = true ∧ d 4 = true ∧ d 5 = true ∧ d 6 = true ∧ d 7 = true ∧ d 8 = true ∧ d 9 = true ∧ d 10 = true ∧ d 11 = true ∧ d 12 = true ∧ d 13 = true ∧ d 14 = true ∧ d 15 = true ∧ d 16 = true ∧ d 19 = true
  f0 : d 0 = true → x29 = .int .i64 i
  f1 : d 1 = true → x30 = .int .i64 k
  f2 : d 2 = true → x31 = .pointer (some ⟨b, 0, none⟩)
  f3 : d 3 = true → x32 = .int .i64 i
  f4 : d 4 = true → x33 = .int .i64 k
  f5 : d 5 = true → x34 = .pointer (some ⟨b, 0, none⟩)
  f6 : d 6 = true → x35 = .pointer (some ⟨b, 5, none⟩)
  f7 : d 7 = true → x36 = .pointer (some ⟨b, 5 + i * 10, none⟩)
  f8 : d 8 = true → x37 = .pointer (some ⟨b, 5 + i * 10 + k, none⟩)
  f9 : d 9 = true → x38 = .bool false
  f10 : d 10 = true → x39 = .bool false
  f11 : d 11 = true → x40 = undef
  f12 : d 12 = true → x41 = undef
  f13 : d 13 = true → x42 = undef
  f14 : d 14 = true → x43 = undef
  f15 : d 15 = true → x44 = undef
  f16 : d 16 = true → x45 = .bool false
  f17 : d 17 = true → x46 = .pointer (some ⟨b5, 5, none⟩)
  f18 : d 18 = true → x47 = .pointer (some ⟨b5, 5 + i * 10, none⟩)
  f19 : d 19 = true → x48 = .pointer (some ⟨b5, 5 + i * 10 + k, none⟩)
  st0 : d 20 = false → S0 w
  st1 : d 20 = true → S1 w
noncomputable def wit8nC : Code := (Tryd.f71.body.bind (regionAt 8)).getD .skip
set_option maxRecDepth 100000 in
set_option maxHeartbeats 4000000 in
theorem wit8n {b : Nat} {b5 : Nat} {i : Nat} {k : Nat} {f : Nat} {p1 : Nat} {p2 : Nat} {S0 : World → Prop} {S1 : World → Prop} {Q : Exit → Act → World → Prop} {W1 : World} (hi1 : (0 : Int) ≤ i) (hi2 : (i : Int) < 10) (hk1 : (0 : Int) ≤ k) (hk2 : (k : Int) < 10) (h0 : S0 W1.drew)
    (kl9 : Hid (∀ (w : World), (S0 w) → w.cell? ⟨b, 5 + i * 10 + k, none⟩ = some (.bool false)))
    (kc20 : Hid (∀ (w : World), S0 w → (∃ u, w.cell? ⟨b5, 5 + i * 10 + k, none⟩ = some u) ∧ w.frozen? ⟨b5, 5 + i * 10 + k, none⟩ = false ∧ S1 (w.setCell ⟨b5, 5 + i * 10 + k, none⟩ (.bool false))))
    {s2 s3 s4 s8 s9 s10 s11 s12 s13 s14 s15 s16 s17 s18 s19 s20 s21 s22 s23 s24 s25 s26 s27 s28 s29 s30 s31 s32 s33 s34 s35 s36 s37 s38 s39 s40 s41 s42 s43 s44 s45 s46 s47 s48 s49 s50 : Value} {dd : List Deferred}
    (hQ : ∀ (w' : World), S1 w' → Q .normal { tmps := List.toArray (.pointer (some ⟨b, 0, none⟩) :: .func (.func f) #[] #[.pointer (some ⟨p1, 0, none⟩), .pointer (some ⟨p2, 0, none⟩)] :: s2 :: s3 :: s4 :: .pointer (some ⟨b5, 0, none⟩) :: .int .i64 i :: .int .i64 k :: s8 :: s9 :: s10 :: s11 :: s12 :: s13 :: s14 :: s15 :: s16 :: s17 :: s18 :: s19 :: s20 :: s21 :: s22 :: s23 :: s24 :: s25 :: s26 :: s27 :: s28 :: .int .i64 i :: .int .i64 k :: .pointer (some ⟨b, 0, none⟩) :: .int .i64 i :: .int .i64 k :: .pointer (some ⟨b, 0, none⟩) :: .pointer (some ⟨b, 5, none⟩) :: .pointer (some ⟨b, 5 + i * 10, none⟩) :: .pointer (some ⟨b, 5 + i * 10 + k, none⟩) :: .bool false :: .bool false :: undef :: undef :: undef :: undef :: undef :: .bool false :: .pointer (some ⟨b5, 5, none⟩) :: .pointer (some ⟨b5, 5 + i * 10, none⟩) :: .pointer (some ⟨b5, 5 + i * 10 + k, none⟩) :: s49 :: s50 :: []), defers := dd } w') :
    Code.wpIn (wideAt none) 0 Tryd.prog wit8nC Q { tmps := List.toArray (.pointer (some ⟨b, 0, none⟩) :: .func (.func f) #[] #[.pointer (some ⟨p1, 0, none⟩), .pointer (some ⟨p2, 0, none⟩)] :: s2 :: s3 :: s4 :: .pointer (some ⟨b5, 0, none⟩) :: .int .i64 i :: .int .i64 k :: s8 :: s9 :: s10 :: s11 :: s12 :: s13 :: s14 :: s15 :: s16 :: s17 :: s18 :: s19 :: s20 :: s21 :: s22 :: s23 :: s24 :: s25 :: s26 :: s27 :: s28 :: s29 :: s30 :: s31 :: s32 :: s33 :: s34 :: s35 :: s36 :: s37 :: s38 :: s39 :: s40 :: s41 :: s42 :: s43 :: s44 :: s45 :: s46 :: s47 :: s48 :: s49 :: s50 :: []), defers := dd } W1 := by
  have HQ := Lib.hid hQ
  clear hQ
  conv => arg 4; whnf
  refine wpIn_region_invG mixed (by kernel_rfl) (fun d_ a_ w' => ∃ (x29 : Value) (x30 : Value) (x31 : Value) (x32 : Value) (x33 : Value) (x34 : Value) (x35 : Value) (x36 : Value) (x37 : Value) (x38 : Value) (x39 : Value) (x40 : Value) (x41 : Value) (x42 : Value) (x43 : Value) (x44 : Value) (x45 : Value) (x46 : Value) (x47 : Value) (x48 : Value), a_ = { tmps := List.toArray (.pointer (some ⟨b, 0, none⟩) :: .func (.func f) #[] #[.pointer (some ⟨p1, 0, none⟩), .pointer (some ⟨p2, 0, none⟩)] :: s2 :: s3 :: s4 :: .pointer (some ⟨b5, 0, none⟩) :: .int .i64 i :: .int .i64 k :: s8 :: s9 :: s10 :: s11 :: s12 :: s13 :: s14 :: s15 :: s16 :: s17 :: s18 :: s19 :: s20 :: s21 :: s22 :: s23 :: s24 :: s25 :: s26 :: s27 :: s28 :: x29 :: x30 :: x31 :: x32 :: x33 :: x34 :: x35 :: x36 :: x37 :: x38 :: x39 :: x40 :: x41 :: x42 :: x43 :: x44 :: x45 :: x46 :: x47 :: x48 :: s49 :: s50 :: []), defers := dd } ∧ wit8nF b b5 i k f p1 p2 S0 S1 d_ x29 x30 x31 x32 x33 x34 x35 x36 x37 x38 x39 x40 x41 x42 x43 x44 x45 x46 x47 x48 w') ?_ ?_ ?_
  · refine ⟨s29, s30, s31, s32, s33, s34, s35, s36, s37, s38, s39, s40, s41, s42, s43, s44, s45, s46, s47, s48, rfl, ?_⟩
    constructor <;> first | rfl | (intro _; rfl) | (intro h; cases h; done) | (intro _; exact h0) | exact h0
  · refine ⟨?_, ?_, ?_, ?_, ?_, ?_, ?_, ?_, ?_, ?_, ?_, ?_, ?_, ?_, ?_, ?_, ?_, ?_, ?_, ?_, ?_, trivial⟩
    all_goals
      rintro d_ a_ w1 K hd_ hdep ⟨x29, x30, x31, x32, x33, x34, x35, x36, x37, x38, x39, x40, x41, x42, x43, x44, x45, x46, x47, x48, rfl, F⟩ HK
      simp [Region.binds] at hdep
    · have HF : Hid (wit8nF b b5 i k f p1 p2 S0 S1 (upd d_ 0) (.int .i64 i) x30 x31 x32 x33 x34 x35 x36 x37 x38 x39 x40 x41 x42 x43 x44 x45 x46 x47 x48 w1) := ⟨F.q5, F.q6, F.q7, F.q8, F.q9, F.q10, F.q11, F.q12, F.q13, F.q14, F.q15, F.q16, fun h => andM0 (F.q18 h) rfl, fun h => andM0 (F.q19 h) rfl, fun h => andM0 (F.q20 h) rfl, fun _ => rfl, F.f1, F.f2, F.f3, F.f4, F.f5, F.f6, F.f7, F.f8, F.f9, F.f10, F.f11, F.f12, F.f13, F.f14, F.f15, F.f16, F.f17, F.f18, F.f19, F.st0, F.st1⟩
      clear F
      go_simp
      exact HK.out _ _ ⟨_, _, _, _, _, _, _, _, _, _, _, _, _, _, _, _, _, _, _, _, rfl, HF.out⟩
    · have HF : Hid (wit8nF b b5 i k f p1 p2 S0 S1 (upd d_ 1) x29 (.int .i64 k) x31 x32 x33 x34 x35 x36 x37 x38 x39 x40 x41 x42 x43 x44 x45 x46 x47 x48 w1) := ⟨F.q5, F.q6, F.q7, F.q8, F.q9, F.q10, F.q11, F.q12, F.q13, F.q14, F.q15, F.q16, F.q18, fun h => andM1 (F.q19 h) rfl, fun h => andM1 (F.q20 h) rfl, F.f0, fun _ => rfl, F.f2, F.f3, F.f4, F.f5, F.f6, F.f7, F.f8, F.f9, F.f10, F.f11, F.f12, F.f13, F.f14, F.f15, F.f16, F.f17, F.f18, F.f19, F.st0, F.st1⟩
      clear F
      go_simp
      exact HK.out _ _ ⟨_, _, _, _, _, _, _, _, _, _, _, _, _, _, _, _, _, _, _, _, rfl, HF.out⟩
    · have HF : Hid (wit8nF b b5 i k f p1 p2 S0 S1 (upd d_ 2) x29 x30 (.pointer (some ⟨b, 0, none⟩)) x32 x33 x34 x35 x36 x37 x38 x39 x40 x41 x42 x43 x44 x45 x46 x47 x48 w1) := ⟨fun h => rfl, F.q6, F.q7, F.q8, F.q9, F.q10, F.q11, F.q12, F.q13, F.q14, F.q15, F.q16, F.q18, fun h => andM2 (F.q19 h) rfl, fun h => andM2 (F.q20 h) rfl, F.f0, F.f1, fun _ => rfl, F.f3, F.f4, F.f5, F.f6, F.f7, F.f8, F.f9, F.f10, F.f11, F.f12, F.f13, F.f14, F.f15, F.f16, F.f17, F.f18, F.f19, F.st0, F.st1⟩
      clear F
      go_simp
      exact HK.out _ _ ⟨_, _, _, _, _, _, _, _, _, _, _, _, _, _, _, _, _, _, _, _, rfl, HF.out⟩
    · have HF : Hid (wit8nF b b5 i k f p1 p2 S0 S1 (upd d_ 3) x29 x30 x31 (.int .i64 i) x33 x34 x35 x36 x37 x38 x39 x40 x41 x42 x43 x44 x45 x46 x47 x48 w1) := ⟨F.q5, F.q6, fun h => andM0 (F.q7 h) rfl, F.q8, F.q9, F.q10, F.q11, F.q12, F.q13, F.q14, F.q15, F.q16, F.q18, fun h => andM3 (F.q19 h) rfl, fun h => andM3 (F.q20 h) rfl, F.f0, F.f1, F.f2, fun _ => rfl, F.f4, F.f5, F.f6, F.f7, F.f8, F.f9, F.f10, F.f11, F.f12, F.f13, F.f14, F.f15, F.f16, F.f17, F.f18, F.f19, F.st0, F.st1⟩
      clear F
      go_simp
      exact HK.out _ _ ⟨_, _, _, _, _, _, _, _, _, _, _, _, _, _, _, _, _, _, _, _, rfl, HF.out⟩
    · have HF : Hid (wit8nF b b5 i k f p1 p2 S0 S1 (upd d_ 4) x29 x30 x31 x32 (.int .i64 k) x34 x35 x36 x37 x38 x39 x40 x41 x42 x43 x44 x45 x46 x47 x48 w1) := ⟨F.q5, F.q6, F.q7, fun h => andM0 (F.q8 h) rfl, F.q9, F.q10, F.q11, F.q12, F.q13, F.q14, F.q15, F.q16, F.q18, fun h => andM4 (F.q19 h) rfl, fun h => andM4 (F.q20 h) rfl, F.f0, F.f1, F.f2, F.f3, fun _ => rfl, F.f5, F.f6, F.f7, F.f8, F.f9, F.f10, F.f11, F.f12, F.f13, F.f14, F.f15, F.f16, F.f17, F.f18, F.f19, F.st0, F.st1⟩
      clear F
      go_simp
      exact HK.out _ _ ⟨_, _, _, _, _, _, _, _, _, _, _, _, _, _, _, _, _, _, _, _, rfl, HF.out⟩
    · obtain rfl := F.f2 (by simp [hdep])
      have HF : Hid (wit8nF b b5 i k f p1 p2 S0 S1 (upd d_ 5) x29 x30 (.pointer (some ⟨b, 0, none⟩)) x32 x33 (.pointer (some ⟨b, 0, none⟩)) x35 x36 x37 x38 x39 x40 x41 x42 x43 x44 x45 x46 x47 x48 w1) := ⟨fun _ => (show _ from (by simp [hdep] : d_ 2 = true)), fun h => rfl, F.q7, F.q8, F.q9, F.q10, F.q11, F.q12, F.q13, F.q14, F.q15, F.q16, F.q18, fun h => andM5 (F.q19 h) rfl, fun h => andM5 (F.q20 h) rfl, F.f0, F.f1, F.f2, F.f3, F.f4, fun _ => rfl, F.f6, F.f7, F.f8, F.f9, F.f10, F.f11, F.f12, F.f13, F.f14, F.f15, F.f16, F.f17, F.f18, F.f19, F.st0, F.st1⟩
      clear F
      go_simp
      exact HK.out _ _ ⟨_, _, _, _, _, _, _, _, _, _, _, _, _, _, _, _, _, _, _, _, rfl, HF.out⟩
    · obtain rfl := F.f5 (by simp [hdep])
      have HF : Hid (wit8nF b b5 i k f p1 p2 S0 S1 (upd d_ 6) x29 x30 x31 x32 x33 (.pointer (some ⟨b, 0, none⟩)) (.pointer (some ⟨b, 5, none⟩)) x36 x37 x38 x39 x40 x41 x42 x43 x44 x45 x46 x47 x48 w1) := ⟨F.q5, fun _ => (show _ from (by simp [hdep] : d_ 5 = true)), fun h => andL1 (F.q7 h) rfl, F.q8, F.q9, F.q10, F.q11, F.q12, F.q13, F.q14, F.q15, F.q16, F.q18, fun h => andM6 (F.q19 h) rfl, fun h => andM6 (F.q20 h) rfl, F.f0, F.f1, F.f2, F.f3, F.f4, F.f5, fun _ => rfl, F.f7, F.f8, F.f9, F.f10, F.f11, F.f12, F.f13, F.f14, F.f15, F.f16, F.f17, F.f18, F.f19, F.st0, F.st1⟩
      clear F
      go_simp
      exact HK.out _ _ ⟨_, _, _, _, _, _, _, _, _, _, _, _, _, _, _, _, _, _, _, _, rfl, HF.out⟩
    · obtain rfl := F.f3 (by simp [hdep])
      obtain rfl := F.f6 (by simp [hdep])
      have HF : Hid (wit8nF b b5 i k f p1 p2 S0 S1 (upd d_ 7) x29 x30 x31 (.int .i64 i) x33 x34 (.pointer (some ⟨b, 5, none⟩)) (.pointer (some ⟨b, 5 + i * 10, none⟩)) x37 x38 x39 x40 x41 x42 x43 x44 x45 x46 x47 x48 w1) := ⟨F.q5, F.q6, fun _ => ⟨(show _ from (by simp [hdep] : d_ 3 = true)), (show _ from (by simp [hdep] : d_ 6 = true))⟩, fun h => andL1 (F.q8 h) rfl, F.q9, F.q10, F.q11, F.q12, F.q13, F.q14, F.q15, F.q16, F.q18, fun h => andM7 (F.q19 h) rfl, fun h => andM7 (F.q20 h) rfl, F.f0, F.f1, F.f2, F.f3, F.f4, F.f5, F.f6, fun _ => rfl, F.f8, F.f9, F.f10, F.f11, F.f12, F.f13, F.f14, F.f15, F.f16, F.f17, F.f18, F.f19, F.st0, F.st1⟩
      clear F
      go_simp
      exact HK.out _ _ ⟨_, _, _, _, _, _, _, _, _, _, _, _, _, _, _, _, _, _, _, _, rfl, HF.out⟩
    · obtain rfl := F.f4 (by simp [hdep])
      obtain rfl := F.f7 (by simp [hdep])
      have HF : Hid (wit8nF b b5 i k f p1 p2 S0 S1 (upd d_ 8) x29 x30 x31 x32 (.int .i64 k) x34 x35 (.pointer (some ⟨b, 5 + i * 10, none⟩)) (.pointer (some ⟨b, 5 + i * 10 + k, none⟩)) x38 x39 x40 x41 x42 x43 x44 x45 x46 x47 x48 w1) := ⟨F.q5, F.q6, F.q7, fun _ => ⟨(show _ from (by simp [hdep] : d_ 4 = true)), (show _ from (by simp [hdep] : d_ 7 = true))⟩, fun h => rfl, F.q10, F.q11, F.q12, F.q13, F.q14, F.q15, F.q16, F.q18, fun h => andM8 (F.q19 h) rfl, fun h => andM8 (F.q20 h) rfl, F.f0, F.f1, F.f2, F.f3, F.f4, F.f5, F.f6, F.f7, fun _ => rfl, F.f9, F.f10, F.f11, F.f12, F.f13, F.f14, F.f15, F.f16, F.f17, F.f18, F.f19, F.st0, F.st1⟩
      clear F
      go_simp
      exact HK.out _ _ ⟨_, _, _, _, _, _, _, _, _, _, _, _, _, _, _, _, _, _, _, _, rfl, HF.out⟩
    · have hst : S0 w1 := by
        have n_ : d_ 20 = false := by
          cases e_ : d_ 20 with
          | false => rfl
          | true => have h2 := (F.q20 e_).2.2.2.2.2.2.2.2.2.1; rw [show d_ 9 = false from hd_] at h2; cases h2
        exact (F.st0 n_)
      have kk := kl9.out w1 hst
      clear hst
      obtain rfl := F.f8 (by simp [hdep])
      have HF : Hid (wit8nF b b5 i k f p1 p2 S0 S1 (upd d_ 9) x29 x30 x31 x32 x33 x34 x35 x36 (.pointer (some ⟨b, 5 + i * 10 + k, none⟩)) (.bool false) x39 x40 x41 x42 x43 x44 x45 x46 x47 x48 w1) := ⟨F.q5, F.q6, F.q7, F.q8, fun _ => (show _ from (by simp [hdep] : d_ 8 = true)), fun h => rfl, F.q11, F.q12, F.q13, F.q14, F.q15, F.q16, F.q18, fun h => andM9 (F.q19 h) rfl, fun h => andM9 (F.q20 h) rfl, F.f0, F.f1, F.f2, F.f3, F.f4, F.f5, F.f6, F.f7, F.f8, fun _ => rfl, F.f10, F.f11, F.f12, F.f13, F.f14, F.f15, F.f16, F.f17, F.f18, F.f19, F.st0, F.st1⟩
      clear F
      go_simp
      exact HK.out _ _ ⟨_, _, _, _, _, _, _, _, _, _, _, _, _, _, _, _, _, _, _, _, rfl, HF.out⟩
    · obtain rfl := F.f9 (by simp [hdep])
      have HF : Hid (wit8nF b b5 i k f p1 p2 S0 S1 (upd d_ 10) x29 x30 x31 x32 x33 x34 x35 x36 x37 (.bool false) (.bool false) x40 x41 x42 x43 x44 x45 x46 x47 x48 w1) := ⟨F.q5, F.q6, F.q7, F.q8, F.q9, fun _ => (show _ from (by simp [hdep] : d_ 9 = true)), fun h => rfl, fun h => rfl, fun h => rfl, fun h => andM0 (F.q14 h) rfl, fun h => andM0 (F.q15 h) rfl, fun h => andM0 (F.q16 h) rfl, F.q18, fun h => andM10 (F.q19 h) rfl, fun h => andM10 (F.q20 h) rfl, F.f0, F.f1, F.f2, F.f3, F.f4, F.f5, F.f6, F.f7, F.f8, F.f9, fun _ => rfl, F.f11, F.f12, F.f13, F.f14, F.f15, F.f16, F.f17, F.f18, F.f19, F.st0, F.st1⟩
      clear F
      go_simp
      exact HK.out _ _ ⟨_, _, _, _, _, _, _, _, _, _, _, _, _, _, _, _, _, _, _, _, rfl, HF.out⟩
    · obtain rfl := F.f10 (by simp [hdep])
      have HF : Hid (wit8nF b b5 i k f p1 p2 S0 S1 (upd d_ 11) x29 x30 x31 x32 x33 x34 x35 x36 x37 x38 (.bool false) (undef) x41 x42 x43 x44 x45 x46 x47 x48 w1) := ⟨F.q5, F.q6, F.q7, F.q8, F.q9, F.q10, fun _ => (show _ from (by simp [hdep] : d_ 10 = true)), F.q12, F.q13, fun h => andM1 (F.q14 h) rfl, F.q15, F.q16, F.q18, fun h => andM11 (F.q19 h) rfl, fun h => andM11 (F.q20 h) rfl, F.f0, F.f1, F.f2, F.f3, F.f4, F.f5, F.f6, F.f7, F.f8, F.f9, F.f10, fun _ => rfl, F.f12, F.f13, F.f14, F.f15, F.f16, F.f17, F.f18, F.f19, F.st0, F.st1⟩
      clear F
      go_simp
      exact HK.out _ _ ⟨_, _, _, _, _, _, _, _, _, _, _, _, _, _, _, _, _, _, _, _, rfl, HF.out⟩
    · obtain rfl := F.f10 (by simp [hdep])
      have HF : Hid (wit8nF b b5 i k f p1 p2 S0 S1 (upd d_ 12) x29 x30 x31 x32 x33 x34 x35 x36 x37 x38 (.bool false) x40 (undef) x42 x43 x44 x45 x46 x47 x48 w1) := ⟨F.q5, F.q6, F.q7, F.q8, F.q9, F.q10, F.q11, fun _ => (show _ from (by simp [hdep] : d_ 10 = true)), F.q13, fun h => andM2 (F.q14 h) rfl, F.q15, F.q16, F.q18, fun h => andM12 (F.q19 h) rfl, fun h => andM12 (F.q20 h) rfl, F.f0, F.f1, F.f2, F.f3, F.f4, F.f5, F.f6, F.f7, F.f8, F.f9, F.f10, F.f11, fun _ => rfl, F.f13, F.f14, F.f15, F.f16, F.f17, F.f18, F.f19, F.st0, F.st1⟩
      clear F
      go_simp
      exact HK.out _ _ ⟨_, _, _, _, _, _, _, _, _, _, _, _, _, _, _, _, _, _, _, _, rfl, HF.out⟩
    · obtain rfl := F.f10 (by simp [hdep])
      have HF : Hid (wit8nF b b5 i k f p1 p2 S0 S1 (upd d_ 13) x29 x30 x31 x32 x33 x34 x35 x36 x37 x38 (.bool false) x40 x41 (undef) x43 x44 x45 x46 x47 x48 w1) := ⟨F.q5, F.q6, F.q7, F.q8, F.q9, F.q10, F.q11, F.q12, fun _ => (show _ from (by simp [hdep] : d_ 10 = true)), fun h => andL3 (F.q14 h) rfl, F.q15, F.q16, F.q18, fun h => andM13 (F.q19 h) rfl, fun h => andM13 (F.q20 h) rfl, F.f0, F.f1, F.f2, F.f3, F.f4, F.f5, F.f6, F.f7, F.f8, F.f9, F.f10, F.f11, F.f12, fun _ => rfl, F.f14, F.f15, F.f16, F.f17, F.f18, F.f19, F.st0, F.st1⟩
      clear F
      go_simp
      exact HK.out _ _ ⟨_, _, _, _, _, _, _, _, _, _, _, _, _, _, _, _, _, _, _, _, rfl, HF.out⟩
    · obtain rfl := F.f10 (by simp [hdep])
      obtain rfl := F.f11 (by simp [hdep])
      obtain rfl := F.f12 (by simp [hdep])
      obtain rfl := F.f13 (by simp [hdep])
      have HF : Hid (wit8nF b b5 i k f p1 p2 S0 S1 (upd d_ 14) x29 x30 x31 x32 x33 x34 x35 x36 x37 x38 (.bool false) (undef) (undef) (undef) (undef) x44 x45 x46 x47 x48 w1) := ⟨F.q5, F.q6, F.q7, F.q8, F.q9, F.q10, F.q11, F.q12, F.q13, fun _ => ⟨(show _ from (by simp [hdep] : d_ 10 = true)), (show _ from (by simp [hdep] : d_ 11 = true)), (show _ from (by simp [hdep] : d_ 12 = true)), (show _ from (by simp [hdep] : d_ 13 = true))⟩, fun h => andL1 (F.q15 h) rfl, F.q16, F.q18, fun h => andM14 (F.q19 h) rfl, fun h => andM14 (F.q20 h) rfl, F.f0, F.f1, F.f2, F.f3, F.f4, F.f5, F.f6, F.f7, F.f8, F.f9, F.f10, F.f11, F.f12, F.f13, fun _ => rfl, F.f15, F.f16, F.f17, F.f18, F.f19, F.st0, F.st1⟩
      clear F
      go_simp
      exact HK.out _ _ ⟨_, _, _, _, _, _, _, _, _, _, _, _, _, _, _, _, _, _, _, _, rfl, HF.out⟩
    · obtain rfl := F.f10 (by simp [hdep])
      obtain rfl := F.f14 (by simp [hdep])
      have HF : Hid (wit8nF b b5 i k f p1 p2 S0 S1 (upd d_ 15) x29 x30 x31 x32 x33 x34 x35 x36 x37 x38 (.bool false) x40 x41 x42 (undef) (undef) x45 x46 x47 x48 w1) := ⟨F.q5, F.q6, F.q7, F.q8, F.q9, F.q10, F.q11, F.q12, F.q13, F.q14, fun _ => ⟨(show _ from (by simp [hdep] : d_ 10 = true)), (show _ from (by simp [hdep] : d_ 14 = true))⟩, fun h => andL1 (F.q16 h) rfl, F.q18, fun h => andM15 (F.q19 h) rfl, fun h => andM15 (F.q20 h) rfl, F.f0, F.f1, F.f2, F.f3, F.f4, F.f5, F.f6, F.f7, F.f8, F.f9, F.f10, F.f11, F.f12, F.f13, F.f14, fun _ => rfl, F.f16, F.f17, F.f18, F.f19, F.st0, F.st1⟩
      clear F
      go_simp
      exact HK.out _ _ ⟨_, _, _, _, _, _, _, _, _, _, _, _, _, _, _, _, _, _, _, _, rfl, HF.out⟩
    · obtain rfl := F.f10 (by simp [hdep])
      obtain rfl := F.f15 (by simp [hdep])
      have HF : Hid (wit8nF b b5 i k f p1 p2 S0 S1 (upd d_ 16) x29 x30 x31 x32 x33 x34 x35 x36 x37 x38 (.bool false) x40 x41 x42 x43 (undef) (.bool false) x46 x47 x48 w1) := ⟨F.q5, F.q6, F.q7, F.q8, F.q9, F.q10, F.q11, F.q12, F.q13, F.q14, F.q15, fun _ => ⟨(show _ from (by simp [hdep] : d_ 10 = true)), (show _ from (by simp [hdep] : d_ 15 = true))⟩, F.q18, fun h => andM16 (F.q19 h) rfl, fun h => andM16 (F.q20 h) rfl, F.f0, F.f1, F.f2, F.f3, F.f4, F.f5, F.f6, F.f7, F.f8, F.f9, F.f10, F.f11, F.f12, F.f13, F.f14, F.f15, fun _ => rfl, F.f17, F.f18, F.f19, F.st0, F.st1⟩
      clear F
      go_simp
      exact HK.out _ _ ⟨_, _, _, _, _, _, _, _, _, _, _, _, _, _, _, _, _, _, _, _, rfl, HF.out⟩
    · have HF : Hid (wit8nF b b5 i k f p1 p2 S0 S1 (upd d_ 17) x29 x30 x31 x32 x33 x34 x35 x36 x37 x38 x39 x40 x41 x42 x43 x44 x45 (.pointer (some ⟨b5, 5, none⟩)) x47 x48 w1) := ⟨F.q5, F.q6, F.q7, F.q8, F.q9, F.q10, F.q11, F.q12, F.q13, F.q14, F.q15, F.q16, fun h => andL1 (F.q18 h) rfl, F.q19, F.q20, F.f0, F.f1, F.f2, F.f3, F.f4, F.f5, F.f6, F.f7, F.f8, F.f9, F.f10, F.f11, F.f12, F.f13, F.f14, F.f15, F.f16, fun _ => rfl, F.f18, F.f19, F.st0, F.st1⟩
      clear F
      go_simp
      exact HK.out _ _ ⟨_, _, _, _, _, _, _, _, _, _, _, _, _, _, _, _, _, _, _, _, rfl, HF.out⟩
    · obtain rfl := F.f0 (by simp [hdep])
      obtain rfl := F.f17 (by simp [hdep])
      have HF : Hid (wit8nF b b5 i k f p1 p2 S0 S1 (upd d_ 18) (.int .i64 i) x30 x31 x32 x33 x34 x35 x36 x37 x38 x39 x40 x41 x42 x43 x44 x45 (.pointer (some ⟨b5, 5, none⟩)) (.pointer (some ⟨b5, 5 + i * 10, none⟩)) x48 w1) := ⟨F.q5, F.q6, F.q7, F.q8, F.q9, F.q10, F.q11, F.q12, F.q13, F.q14, F.q15, F.q16, fun _ => ⟨(show _ from (by simp [hdep] : d_ 0 = true)), (show _ from (by simp [hdep] : d_ 17 = true))⟩, fun h => andL17 (F.q19 h) rfl, F.q20, F.f0, F.f1, F.f2, F.f3, F.f4, F.f5, F.f6, F.f7, F.f8, F.f9, F.f10, F.f11, F.f12, F.f13, F.f14, F.f15, F.f16, F.f17, fun _ => rfl, F.f19, F.st0, F.st1⟩
      clear F
      go_simp
      exact HK.out _ _ ⟨_, _, _, _, _, _, _, _, _, _, _, _, _, _, _, _, _, _, _, _, rfl, HF.out⟩
    · obtain rfl := F.f1 (by simp [hdep])
      obtain rfl := F.f18 (by simp [hdep])
      have HF : Hid (wit8nF b b5 i k f p1 p2 S0 S1 (upd d_ 19) x29 (.int .i64 k) x31 x32 x33 x34 x35 x36 x37 x38 x39 x40 x41 x42 x43 x44 x45 x46 (.pointer (some ⟨b5, 5 + i * 10, none⟩)) (.pointer (some ⟨b5, 5 + i * 10 + k, none⟩)) w1) := ⟨F.q5, F.q6, F.q7, F.q8, F.q9, F.q10, F.q11, F.q12, F.q13, F.q14, F.q15, F.q16, F.q18, fun _ => ⟨(show _ from (by simp [hdep] : d_ 0 = true)), (show _ from (by simp [hdep] : d_ 1 = true)), (show _ from (by simp [hdep] : d_ 2 = true)), (show _ from (by simp [hdep] : d_ 3 = true)), (show _ from (by simp [hdep] : d_ 4 = true)), (show _ from (by simp [hdep] : d_ 5 = true)), (show _ from (by simp [hdep] : d_ 6 = true)), (show _ from (by simp [hdep] : d_ 7 = true)), (show _ from (by simp [hdep] : d_ 8 = true)), (show _ from (by simp [hdep] : d_ 9 = true)), (show _ from (by simp [hdep] : d_ 10 = true)), (show _ from (by simp [hdep] : d_ 11 = true)), (show _ from (by simp [hdep] : d_ 12 = true)), (show _ from (by simp [hdep] : d_ 13 = true)), (show _ from (by simp [hdep] : d_ 14 = true)), (show _ from (by simp [hdep] : d_ 15 = true)), (show _ from (by simp [hdep] : d_ 16 = true)), (show _ from (by simp [hdep] : d_ 18 = true))⟩, fun h => andL17 (F.q20 h) rfl, F.f0, F.f1, F.f2, F.f3, F.f4, F.f5, F.f6, F.f7, F.f8, F.f9, F.f10, F.f11, F.f12, F.f13, F.f14, F.f15, F.f16, F.f17, F.f18, fun _ => rfl, F.st0, F.st1⟩
      clear F
      go_simp
      exact HK.out _ _ ⟨_, _, _, _, _, _, _, _, _, _, _, _, _, _, _, _, _, _, _, _, rfl, HF.out⟩
    · have hS := F.st0  hd_
      obtain rfl := F.f16 (by simp [hdep])
      obtain rfl := F.f19 (by simp [hdep])
      obtain ⟨⟨ku0, kcell0⟩, kfr0, hres⟩ := kc20.out w1 hS
      have HF : Hid (wit8nF b b5 i k f p1 p2 S0 S1 (upd d_ 20) x29 x30 x31 x32 x33 x34 x35 x36 x37 x38 x39 x40 x41 x42 x43 x44 (.bool false) x46 x47 (.pointer (some ⟨b5, 5 + i * 10 + k, none⟩)) (w1.setCell ⟨b5, 5 + i * 10 + k, none⟩ (.bool false))) := ⟨F.q5, F.q6, F.q7, F.q8, F.q9, F.q10, F.q11, F.q12, F.q13, F.q14, F.q15, F.q16, F.q18, F.q19, fun _ => ⟨(show _ from (by simp [hdep] : d_ 0 = true)), (show _ from (by simp [hdep] : d_ 1 = true)), (show _ from (by simp [hdep] : d_ 2 = true)), (show _ from (by simp [hdep] : d_ 3 = true)), (show _ from (by simp [hdep] : d_ 4 = true)), (show _ from (by simp [hdep] : d_ 5 = true)), (show _ from (by simp [hdep] : d_ 6 = true)), (show _ from (by simp [hdep] : d_ 7 = true)), (show _ from (by simp [hdep] : d_ 8 = true)), (show _ from (by simp [hdep] : d_ 9 = true)), (show _ from (by simp [hdep] : d_ 10 = true)), (show _ from (by simp [hdep] : d_ 11 = true)), (show _ from (by simp [hdep] : d_ 12 = true)), (show _ from (by simp [hdep] : d_ 13 = true)), (show _ from (by simp [hdep] : d_ 14 = true)), (show _ from (by simp [hdep] : d_ 15 = true)), (show _ from (by simp [hdep] : d_ 16 = true)), (show _ from (by simp [hdep] : d_ 19 = true))⟩, F.f0, F.f1, F.f2, F.f3, F.f4, F.f5, F.f6, F.f7, F.f8, F.f9, F.f10, F.f11, F.f12, F.f13, F.f14, F.f15, F.f16, F.f17, F.f18, F.f19, fun h => (by simp [upd] at h), fun _ => hres⟩
      clear F hS hres
      go_simp
      exact HK.out _ _ ⟨_, _, _, _, _, _, _, _, _, _, _, _, _, _, _, _, _, _, _, _, rfl, HF.out⟩
  · rintro d_ a_ w1 hall ⟨x29, x30, x31, x32, x33, x34, x35, x36, x37, x38, x39, x40, x41, x42, x43, x44, x45, x46, x47, x48, rfl, F⟩
    have hall' : ∀ k, k < 21 → d_ k = true := hall
    obtain rfl := F.f0 (hall' 0 (by decide))
    obtain rfl := F.f1 (hall' 1 (by decide))
    obtain rfl := F.f2 (hall' 2 (by decide))
    obtain rfl := F.f3 (hall' 3 (by decide))
    obtain rfl := F.f4 (hall' 4 (by decide))
    obtain rfl := F.f5 (hall' 5 (by decide))
    obtain rfl := F.f6 (hall' 6 (by decide))
    obtain rfl := F.f7 (hall' 7 (by decide))
    obtain rfl := F.f8 (hall' 8 (by decide))
    obtain rfl := F.f9 (hall' 9 (by decide))
    obtain rfl := F.f10 (hall' 10 (by decide))
    obtain rfl := F.f11 (hall' 11 (by decide))
    obtain rfl := F.f12 (hall' 12 (by decide))
    obtain rfl := F.f13 (hall' 13 (by decide))
    obtain rfl := F.f14 (hall' 14 (by decide))
    obtain rfl := F.f15 (hall' 15 (by decide))
    obtain rfl := F.f16 (hall' 16 (by decide))
    obtain rfl := F.f17 (hall' 17 (by decide))
    obtain rfl := F.f18 (hall' 18 (by decide))
    obtain rfl := F.f19 (hall' 19 (by decide))
    have hst := F.st1 (hall' 20 (by decide))
    exact HQ.out  w1 hst
end Go.Proofs.YtbnhngfegnhaiaaDoor
namespace Go.Proofs.YtbnhngfegnhaiaaDoor
open Go.RowKit
set_option linter.unusedVariables false
set_option linter.unusedSimpArgs false
structure WitI (w0 : World) (b5 : Nat) (r : Rws) (al : Option Addr) (cl : Nat) (ar : Option Addr) (cr : Nat) (T : Nat → Bool) (need : Int) (v : World) : Prop where
  below : Below w0.heap.size w0 v
  tab : v.heap[b5]? = some (.cells (rowsL r al cl ar cr T need).toArray 130 (0, 0))
theorem WitI.mono {w0 v v' : World} {b5 : Nat} {r : Rws} {al ar : Option Addr} {cl cr : Nat} {T : Nat → Bool} {need : Int} (h : WitI w0 b5 r al cl ar cr T need v) (hb : Below v.heap.size v v') : WitI w0 b5 r al cl ar cr T need v' := ⟨h.below.trans (hb.mono h.below.size), (hb.block _ (heap_lt h.tab)).trans h.tab⟩
theorem WitI.put {w0 v : World} {b5 : Nat} {r : Rws} {al ar : Option Addr} {cl cr : Nat} {T : Nat → Bool} {need : Int} (h : WitI w0 b5 r al cl ar cr T need v) (h5 : w0.heap.size ≤ b5) {j : Nat} (hj : j < 100) (z : Bool) :
    WitI w0 b5 r al cl ar cr (fun x => if x = j then z else T x) need (v.setCell ⟨b5, 5 + j, none⟩ (.bool z)) := by
  refine ⟨h.below.setCell (p := ⟨b5, 5 + j, none⟩) h5 _, ?_⟩
  have h1 := heap_setCell_at (k := 5 + j) h.tab (.bool z)
  rw [List.setIfInBounds_toArray, rowsL_set _ _ _ _ _ _ _ hj] at h1
  exact h1
set_option maxRecDepth 100000 in
set_option maxHeartbeats 8000000 in
theorem without84 {r : Rws} {al ar : Option Addr} {cl cr b f p1 p2 : Nat} {T : Nat → Bool} {P : Nat → Nat → Bool} {need : Int} {w : World} (h : IsRws w b r al cl ar cr T need) (hl1 : r.left.length ≤ 10) (hl2 : r.right.length ≤ 10)
    (cf : Hid (∀ args w, (callFunc f args).run Tryd.prog w = .ok (.enter f args) w))
    (HC : Hid (∀ (v : World) (i k : Nat), Below w.heap.size w v → i < r.left.length → k < r.right.length → Calls Tryd.prog f #[.int .i64 i, .int .i64 k, .pointer (some ⟨p1, 0, none⟩), .pointer (some ⟨p2, 0, none⟩)] v fun e w' => e = .returned (.bool (P i k)) ∧ Below v.heap.size v w')) :
    Calls Tryd.prog 71 #[.pointer (some ⟨b, 0, none⟩), .func (.func f) #[] #[.pointer (some ⟨p1, 0, none⟩), .pointer (some ⟨p2, 0, none⟩)]] w fun e w' => ∃ b', e = .returned (.pointer (some ⟨b', 0, none⟩)) ∧ w.heap.size ≤ b' ∧ IsRws w' b' r al cl ar cr (wI T P r.left.length r.right.length r.left.length 0) need ∧ Below w.heap.size w w' := by
  have H := Lib.hid h
  clear h
  go_enter Tryd.func71, Tryd.ntmps71
  refine wp_seq_hid ?_
  intro K0 HK0
  go_wp2_with fail
  refine HK0.out _ _ ?_
  clear HK0 K0
  have HO : Hid (WitI w w.heap.size r al cl ar cr (wI T P r.left.length r.right.length 0 0) need ((w.alloc (.cells Tryd.zeroCells130 130)).setCells w.heap.size 0 (rowsL r al cl ar cr T need))) := by
    rw [wI_zero]
    have hz : Tryd.zeroCells130.size = (rowsL r al cl ar cr T need).length := by rw [rowsL_len]; rfl
    exact ⟨below_setCells (Nat.le_refl _) _ 0 _ (alloc_below _ _), heap_setCells_all (World.alloc_heap_new _ _) hz⟩
  have HTH : Hid ((w.alloc (.cells Tryd.zeroCells130 130)).there w.heap.size 0 (rowsL r al cl ar cr T need).toArray.size) := fun j hj => by
    rw [List.size_toArray, rowsL_len] at hj
    refine ⟨?_, frozen_of_heap (World.alloc_heap_new _ _)⟩
    rw [Nat.zero_add, cell_of_heap (World.alloc_heap_new _ _)]
    have hz : Tryd.zeroCells130.size = 106 := by rfl
    rw [Array.getElem?_eq_getElem (by omega)]
    rfl
  refine wp_seq_hid ?_
  intro K1 HK1
  go_wp2_with (first | (refine wpList_load_mid rfl 130 _ (by rfl) b 0 (by rfl) (rowsL r al cl ar cr T need) _ (range_of H.out.h) Tryd.underlying130 rfl (by rw [rowsL_len]; exact info130) ?_) | (refine wpList_store_mid rfl 130 _ _ (by rfl) w.heap.size 0 (rowsL r al cl ar cr T need).toArray (by rfl) (by rfl) HTH.out (by rw [List.size_toArray, rowsL_len]; exact info130) (rowsL_one _ _ _ _ _ _ _) ?_))
  refine HK1.out _ _ ?_
  clear HK1 K1 HTH
  revert HO
  generalize (w.alloc (.cells Tryd.zeroCells130 130)).setCells w.heap.size 0 (rowsL r al cl ar cr T need) = w1
  generalize Value.agg (rowsL r al cl ar cr T need).toArray = big
  generalize hb5 : w.heap.size = b5
  intro HO
  have HB5 := Lib.hid hb5
  clear hb5
  have k0 : w1.cell? ⟨b, 0, none⟩ = some (.slice al r.left.length cl) := (H.out.mono HO.out.below).left
  refine wp_seq_hid ?_
  intro K2 HK2
  go_wp2_with fail
  clear k0
  go_loopw [17] (fun q wr => ∃ i : Nat, i ≤ r.left.length ∧ q = .int .i64 i ∧ Hid (WitI w b5 r al cl ar cr (wI T P r.left.length r.right.length i 0) need wr)) (fun q _ => r.left.length - (intOf q).toNat)
  case atStart => exact ⟨0, by omega, rfl, HO⟩
  case round =>
    obtain ⟨i, hi, rfl, HW⟩ := hrel
    clear HO
    by_cases hlt : i < r.left.length
    · have k1 : wr.cell? ⟨b, 1, none⟩ = some (.slice ar r.right.length cr) := (H.out.mono HW.out.below).right
      have l3 : i < 10 := by omega
      go_wp2_with fail
      clear k1
      rename World => w2
      go_loopw [26] (fun q wy => ∃ k : Nat, k ≤ r.right.length ∧ q = .int .i64 k ∧ Hid (WitI w b5 r al cl ar cr (wI T P r.left.length r.right.length i k) need wy)) (fun q _ => r.right.length - (intOf q).toNat)
      case atStart => exact ⟨0, by omega, rfl, HW⟩
      case round =>
        obtain ⟨k, hk, rfl, HY⟩ := hrel
        clear HW
        by_cases hlk : k < r.right.length
        · have HS := Lib.hid (wI_set T P (n := r.left.length) (m := r.right.length) hlt hlk (by omega))
          have HCC := Lib.hid (fun (v : World) (hv : Below w.heap.size w v) => HC.out v i k (by rw [HB5.out] at hv ⊢; exact hv) hlt hlk)
          have HTB := Lib.hid (fun (v : World) (hv : Below w.heap.size w v) => (H.out.mono hv).tab (j := i * 10 + k) (by omega))
          go_upto_region 8 with fail
          revert HS HCC HTB
          generalize hU : wI T P r.left.length r.right.length i (k + 1) = U'
          generalize wI T P r.left.length r.right.length i k = U at HY
          generalize P i k = z
          cases ht : T (i * 10 + k)
          · intro HS HCC HTB
            have HUE := Lib.hid hU
            clear hU ht
            refine wpIn_wide.1 (wit8n (b := b) (b5 := b5) (i := i) (k := k) (f := f) (p1 := p1) (p2 := p2)
              (S0 := fun v => WitI w b5 r al cl ar cr U need v) (S1 := fun v => WitI w b5 r al cl ar cr U' need v) (by omega) (by omega) (by omega) (by omega) ?h0 ?l9 ?c19 ?hQ)
            case h0 => exact ⟨HY.out.below.drew, HY.out.tab⟩
            case l9 => exact fun v h => by rw [Nat.add_assoc]; exact HTB.out v h.below
            case c19 =>
              intro v h
              have hc : v.cell? ⟨b5, 5 + i * 10 + k, none⟩ = some (.bool (U (i * 10 + k))) := by
                rw [cell_of_heap h.tab, List.getElem?_toArray, Nat.add_assoc, rowsL_tab _ _ _ _ _ _ _ (by omega)]
              refine ⟨⟨_, hc⟩, frozen_of_heap h.tab, ?_⟩
              have h1 := h.put (by rw [HB5.out]; exact Nat.le_refl _) (j := i * 10 + k) (by omega) false
              have h2 := HS.out
              simp only [Bool.false_and] at h2
              rw [h2, ← Nat.add_assoc] at h1
              exact h1
            intro w6 h
            have HF := Lib.hid h
            clear h
            go_wp2_with fail
            go_roundw
            case rel => exact ⟨k + 1, by omega, by go_num, by have h := HF.out; rw [← HUE.out] at h; exact h⟩
            case measure => simp [intOf]; omega
          · intro HS HCC HTB
            have HUE := Lib.hid hU
            clear hU ht
            refine wpIn_wide.1 (wit8 (b := b) (b5 := b5) (i := i) (k := k) (f := f) (p1 := p1) (p2 := p2) (z := z)
              (S0 := fun v => WitI w b5 r al cl ar cr U need v) (S1 := fun _ v => WitI w b5 r al cl ar cr U need v) (S2 := fun _ v => WitI w b5 r al cl ar cr U' need v) (by omega) (by omega) (by omega) (by omega) cf.out ?h0_b ?l9_b ?c14_b ?c19_b ?hQ_b)
            case h0_b => exact ⟨HY.out.below.drew, HY.out.tab⟩
            case l9_b => exact fun v h => by rw [Nat.add_assoc]; exact HTB.out v h.below
            case c14_b =>
              intro v h
              refine (HCC.out v h.below).mono ?_
              rintro e v' ⟨rfl, hb⟩
              exact ⟨(), rfl, h.mono hb⟩
            case c19_b =>
              intro u v h
              have hc : v.cell? ⟨b5, 5 + i * 10 + k, none⟩ = some (.bool (U (i * 10 + k))) := by
                rw [cell_of_heap h.tab, List.getElem?_toArray, Nat.add_assoc, rowsL_tab _ _ _ _ _ _ _ (by omega)]
              refine ⟨⟨_, hc⟩, frozen_of_heap h.tab, ?_⟩
              have h1 := h.put (by rw [HB5.out]; exact Nat.le_refl _) (j := i * 10 + k) (by omega) (!z)
              have h2 := HS.out
              simp only [Bool.true_and] at h2
              rw [h2, ← Nat.add_assoc] at h1
              exact h1
            intro u w6 h
            have HF := Lib.hid h
            clear h
            go_wp2_with fail
            go_roundw
            case rel => exact ⟨k + 1, by omega, by go_num, by have h := HF.out; rw [← HUE.out] at h; exact h⟩
            case measure => simp [intOf]; omega
        · obtain rfl : k = r.right.length := by omega
          have HY2 : Hid (WitI w b5 r al cl ar cr (wI T P r.left.length r.right.length (i + 1) 0) need wr) := by
            have h := HY.out
            rw [wI_next] at h
            exact h
          clear HY
          go_wp2_with fail
          go_roundw
          case rel => exact ⟨i + 1, by omega, by go_num, HY2.out⟩
          case measure => simp [intOf]; omega
    · obtain rfl : i = r.left.length := by omega
      go_wp2_with fail
      refine HK2.out _ _ ?_
      go_wp2_with fail
      go_ret
      exact ⟨b5, rfl, Nat.le_refl _, ⟨HW.out.tab, H.out.lm.mono HW.out.below, H.out.rm.mono HW.out.below⟩, by rw [← HB5.out]; exact HW.out.below⟩
end Go.Proofs.YtbnhngfegnhaiaaDoor
namespace Go.Proofs.YtbnhngfegnhaiaaDoor
open Go.RowKit
set_option linter.unusedVariables false
set_option linter.unusedSimpArgs false
theorem cf83 (args : Array Value) (w : World) : (callFunc 100 args).run Tryd.prog w = .ok (.enter 100 args) w := by simp [callFunc, Tryd.func100, Tryd.f100, go_sem]
theorem beq_yes {a i : Nat} (h : a = i) : (a == i) = true ∧ ((a : Int) == (i : Int)) = true := by
  subst h
  simp
theorem beq_no {a i : Nat} (h : ¬ a = i) : (a == i) = false ∧ ((a : Int) == (i : Int)) = false := by
  constructor
  · simpa using h
  · simp only [beq_eq_false_iff_ne, ne_eq]
    omega
set_option maxRecDepth 100000 in
set_option maxHeartbeats 4000000 in
theorem apart83 {i k a b p1 p2 : Nat} {w : World} (h1 : w.cell? ⟨p1, 0, none⟩ = some (.int .i64 i)) (h2 : w.cell? ⟨p2, 0, none⟩ = some (.int .i64 k)) :
    Calls Tryd.prog 100 #[.int .i64 a, .int .i64 b, .pointer (some ⟨p1, 0, none⟩), .pointer (some ⟨p2, 0, none⟩)] w fun e w' => e = .returned (.bool (apart i k a b)) ∧ w = w' := by
  unfold apart
  by_cases c1 : a < i <;> by_cases c2 : b < k <;> by_cases c3 : a = i <;> by_cases c4 : b = k
  all_goals try (exfalso; omega)
  all_goals
    obtain ⟨e3, e5⟩ := (by first | exact beq_yes c3 | exact beq_no c3)
    obtain ⟨e4, e6⟩ := (by first | exact beq_yes c4 | exact beq_no c4)
    have E := Lib.hid (And.intro c3 c4)
    clear c3 c4
    go_enter Tryd.func100, Tryd.ntmps100
    go_wp2_with fail
    go_ret
    exact ⟨ret_bool (by simp [c1, c2, E.out.1, E.out.2]), rfl⟩
structure can3F (b : Nat) (b8 : Nat) (i : Nat) (k : Nat) (p1 : Nat) (p2 : Nat) (z : Bool) (S0 : World → Prop) (S1 : Unit → World → Prop) (d : Nat → Bool) (x13 x14 x15 x16 x17 x18 x19 x20 x21 x22 x23 x24 x6 : Value) (u : Unit) (w : World) : Prop where
  q3 : d 3 = true → d 0 = true
  q4 : d 4 = true → d 3 = true
  q5 : d 5 = true → d 1 = true ∧ d 4 = true
  q6 : d 6 = true → d 2 = true ∧ d 5 = true
  q7 : d 7 = true → d 6 = true
  q8 : d 8 = true → d 7 = true
  q9 : d 9 = true → d 8 = true
  q10 : d 10 = true → d 8 = true ∧ d 9 = true
  q11 : d 11 = true → d 8 = true ∧ d 10 = true
  q12 : d 12 = true → d 0 = true ∧ d 1 = true ∧ d 2 = true ∧ d 3 = true ∧ d 4 = true ∧ d 5 = true ∧ d 6 = true ∧ d 7 = true ∧ d 8 = true ∧ d 9 = true ∧ d 10 = true ∧ d 11 = true
  f0 : d 0 = true → x13 = .pointer (some ⟨b, 0, none⟩)
  f1 : d 1 = true → x14 = .int .i64 i
  f2 : d 2 = true → x15 = .int .i64 k
  f3 : d 3 = true → x16 = .pointer (some ⟨b, 0, none⟩)
  f4 : d 4 = true → x17 = .pointer (some ⟨b, 5, none⟩)
  f5 : d 5 = true → x18 = .pointer (some ⟨b, 5 + i * 10, none⟩)
  f6 : d 6 = true → x19 = .pointer (some ⟨b, 5 + i * 10 + k, none⟩)
  f7 : d 7 = true → x20 = .bool true
  f8 : d 8 = true → x21 = .bool true
  f9 : d 9 = true → x22 = .pointer (some ⟨b8, 0, none⟩)
  f10 : d 10 = true → x23 = .bool z
  f11 : d 11 = true → x24 = .bool z
  f12 : d 12 = true → x6 = .bool z
  st0 : d 10 = false → S0 w
  st1 : d 10 = true → S1 u w
noncomputable def can3C : Code := (Tryd.f68.body.bind (regionAt 3)).getD .skip
set_option maxRecDepth 100000 in
set_option maxHeartbeats 4000000 in
theorem can3 {b : Nat} {b8 : Nat} {i : Nat} {k : Nat} {p1 : Nat} {p2 : Nat} {z : Bool} {S0 : World → Prop} {S1 : Unit → World → Prop} {Q : Exit → Act → World → Prop} {W1 : World} (hi1 : (0 : Int) ≤ i) (hi2 : (i : Int) < 10) (hk1 : (0 : Int) ≤ k) (hk2 : (k : Int) < 10) (h0 : S0 W1.drew)
    (kl1 : Hid (∀ (w : World), (S0 w) → w.cell? ⟨p1, 0, none⟩ = some (.int .i64 i)))
    (kl2 : Hid (∀ (w : World), (S0 w) → w.cell? ⟨p2, 0, none⟩ = some (.int .i64 k)))
    (kl7 : Hid (∀ (w : World), (S0 w) → w.cell? ⟨b, 5 + i * 10 + k, none⟩ = some (.bool true)))
    (kc10 : Hid (∀ (w : World), S0 w → Calls Tryd.prog 66 #[.pointer (some ⟨b8, 0, none⟩)] w fun e w' => ∃ u : Unit, e = .returned (.bool z) ∧ S1 u w'))
    {s1 s2 s3 s6 s7 s9 s10 s11 s12 s13 s14 s15 s16 s17 s18 s19 s20 s21 s22 s23 s24 : Value} {dd : List Deferred}
    (hQ : ∀ (u : Unit) (w' : World), S1 u w' → Q .normal { tmps := #[.pointer (some ⟨b, 0, none⟩), s1, s2, s3, .pointer (some ⟨p1, 0, none⟩), .pointer (some ⟨p2, 0, none⟩), .bool z, s7, .pointer (some ⟨b8, 0, none⟩), s9, s10, s11, s12, .pointer (some ⟨b, 0, none⟩), .int .i64 i, .int .i64 k, .pointer (some ⟨b, 0, none⟩), .pointer (some ⟨b, 5, none⟩), .pointer (some ⟨b, 5 + i * 10, none⟩), .pointer (some ⟨b, 5 + i * 10 + k, none⟩), .bool true, .bool true, .pointer (some ⟨b8, 0, none⟩), .bool z, .bool z], defers := dd } w') :
    Code.wpIn (wideAt none) 0 Tryd.prog can3C Q { tmps := #[.pointer (some ⟨b, 0, none⟩), s1, s2, s3, .pointer (some ⟨p1, 0, none⟩), .pointer (some ⟨p2, 0, none⟩), s6, s7, .pointer (some ⟨b8, 0, none⟩), s9, s10, s11, s12, s13, s14, s15, s16, s17, s18, s19, s20, s21, s22, s23, s24], defers := dd } W1 := by
  have HQ := Lib.hid hQ
  clear hQ
  conv => arg 4; whnf
  refine wpIn_region_invG mixed (by kernel_rfl) (fun d_ a_ w' => ∃ (x13 : Value) (x14 : Value) (x15 : Value) (x16 : Value) (x17 : Value) (x18 : Value) (x19 : Value) (x20 : Value) (x21 : Value) (x22 : Value) (x23 : Value) (x24 : Value) (x6 : Value) (u : Unit), a_ = { tmps := #[.pointer (some ⟨b, 0, none⟩), s1, s2, s3, .pointer (some ⟨p1, 0, none⟩), .pointer (some ⟨p2, 0, none⟩), x6, s7, .pointer (some ⟨b8, 0, none⟩), s9, s10, s11, s12, x13, x14, x15, x16, x17, x18, x19, x20, x21, x22, x23, x24], defers := dd } ∧ can3F b b8 i k p1 p2 z S0 S1 d_ x13 x14 x15 x16 x17 x18 x19 x20 x21 x22 x23 x24 x6 u w') ?_ ?_ ?_
  · refine ⟨s13, s14, s15, s16, s17, s18, s19, s20, s21, s22, s23, s24, s6, default, rfl, ?_⟩
    constructor <;> first | rfl | (intro _; rfl) | (intro h; cases h; done) | (intro _; exact h0) | exact h0
  · refine ⟨?_, ?_, ?_, ?_, ?_, ?_, ?_, ?_, ?_, ?_, ?_, ?_, ?_, trivial⟩
    all_goals
      rintro d_ a_ w1 K hd_ hdep ⟨x13, x14, x15, x16, x17, x18, x19, x20, x21, x22, x23, x24, x6, u, rfl, F⟩ HK
      simp [Region.binds] at hdep
    · have HF : Hid (can3F b b8 i k p1 p2 z S0 S1 (upd d_ 0) (.pointer (some ⟨b, 0, none⟩)) x14 x15 x16 x17 x18 x19 x20 x21 x22 x23 x24 x6 u w1) := ⟨fun h => rfl, F.q4, F.q5, F.q6, F.q7, F.q8, F.q9, F.q10, F.q11, fun h => andM0 (F.q12 h) rfl, fun _ => rfl, F.f1, F.f2, F.f3, F.f4, F.f5, F.f6, F.f7, F.f8, F.f9, F.f10, F.f11, F.f12, F.st0, F.st1⟩
      clear F
      go_simp
      exact HK.out _ _ ⟨_, _, _, _, _, _, _, _, _, _, _, _, _, _, rfl, HF.out⟩
    · have hst : S0 w1 := by
        have n_ : d_ 10 = false := by
          cases e_ : d_ 10 with
          | false => rfl
          | true => have h2 := (F.q5 (F.q6 (F.q7 (F.q8 (F.q10 e_).1))).2).1; rw [show d_ 1 = false from hd_] at h2; cases h2
        exact (F.st0 n_)
      have kk := kl1.out w1 hst
      clear hst
      have HF : Hid (can3F b b8 i k p1 p2 z S0 S1 (upd d_ 1) x13 (.int .i64 i) x15 x16 x17 x18 x19 x20 x21 x22 x23 x24 x6 u w1) := ⟨F.q3, F.q4, fun h => andM0 (F.q5 h) rfl, F.q6, F.q7, F.q8, F.q9, F.q10, F.q11, fun h => andM1 (F.q12 h) rfl, F.f0, fun _ => rfl, F.f2, F.f3, F.f4, F.f5, F.f6, F.f7, F.f8, F.f9, F.f10, F.f11, F.f12, F.st0, F.st1⟩
      clear F
      go_simp
      exact HK.out _ _ ⟨_, _, _, _, _, _, _, _, _, _, _, _, _, _, rfl, HF.out⟩
    · have hst : S0 w1 := by
        have n_ : d_ 10 = false := by
          cases e_ : d_ 10 with
          | false => rfl
          | true => have h2 := (F.q6 (F.q7 (F.q8 (F.q10 e_).1))).1; rw [show d_ 2 = false from hd_] at h2; cases h2
        exact (F.st0 n_)
      have kk := kl2.out w1 hst
      clear hst
      have HF : Hid (can3F b b8 i k p1 p2 z S0 S1 (upd d_ 2) x13 x14 (.int .i64 k) x16 x17 x18 x19 x20 x21 x22 x23 x24 x6 u w1) := ⟨F.q3, F.q4, F.q5, fun h => andM0 (F.q6 h) rfl, F.q7, F.q8, F.q9, F.q10, F.q11, fun h => andM2 (F.q12 h) rfl, F.f0, F.f1, fun _ => rfl, F.f3, F.f4, F.f5, F.f6, F.f7, F.f8, F.f9, F.f10, F.f11, F.f12, F.st0, F.st1⟩
      clear F
      go_simp
      exact HK.out _ _ ⟨_, _, _, _, _, _, _, _, _, _, _, _, _, _, rfl, HF.out⟩
    · obtain rfl := F.f0 (by simp [hdep])
      have HF : Hid (can3F b b8 i k p1 p2 z S0 S1 (upd d_ 3) (.pointer (some ⟨b, 0, none⟩)) x14 x15 (.pointer (some ⟨b, 0, none⟩)) x17 x18 x19 x20 x21 x22 x23 x24 x6 u w1) := ⟨fun _ => (show _ from (by simp [hdep] : d_ 0 = true)), fun h => rfl, F.q5, F.q6, F.q7, F.q8, F.q9, F.q10, F.q11, fun h => andM3 (F.q12 h) rfl, F.f0, F.f1, F.f2, fun _ => rfl, F.f4, F.f5, F.f6, F.f7, F.f8, F.f9, F.f10, F.f11, F.f12, F.st0, F.st1⟩
      clear F
      go_simp
      exact HK.out _ _ ⟨_, _, _, _, _, _, _, _, _, _, _, _, _, _, rfl, HF.out⟩
    · obtain rfl := F.f3 (by simp [hdep])
      have HF : Hid (can3F b b8 i k p1 p2 z S0 S1 (upd d_ 4) x13 x14 x15 (.pointer (some ⟨b, 0, none⟩)) (.pointer (some ⟨b, 5, none⟩)) x18 x19 x20 x21 x22 x23 x24 x6 u w1) := ⟨F.q3, fun _ => (show _ from (by simp [hdep] : d_ 3 = true)), fun h => andL1 (F.q5 h) rfl, F.q6, F.q7, F.q8, F.q9, F.q10, F.q11, fun h => andM4 (F.q12 h) rfl, F.f0, F.f1, F.f2, F.f3, fun _ => rfl, F.f5, F.f6, F.f7, F.f8, F.f9, F.f10, F.f11, F.f12, F.st0, F.st1⟩
      clear F
      go_simp
      exact HK.out _ _ ⟨_, _, _, _, _, _, _, _, _, _, _, _, _, _, rfl, HF.out⟩
    · obtain rfl := F.f1 (by simp [hdep])
      obtain rfl := F.f4 (by simp [hdep])
      have HF : Hid (can3F b b8 i k p1 p2 z S0 S1 (upd d_ 5) x13 (.int .i64 i) x15 x16 (.pointer (some ⟨b, 5, none⟩)) (.pointer (some ⟨b, 5 + i * 10, none⟩)) x19 x20 x21 x22 x23 x24 x6 u w1) := ⟨F.q3, F.q4, fun _ => ⟨(show _ from (by simp [hdep] : d_ 1 = true)), (show _ from (by simp [hdep] : d_ 4 = true))⟩, fun h => andL1 (F.q6 h) rfl, F.q7, F.q8, F.q9, F.q10, F.q11, fun h => andM5 (F.q12 h) rfl, F.f0, F.f1, F.f2, F.f3, F.f4, fun _ => rfl, F.f6, F.f7, F.f8, F.f9, F.f10, F.f11, F.f12, F.st0, F.st1⟩
      clear F
      go_simp
      exact HK.out _ _ ⟨_, _, _, _, _, _, _, _, _, _, _, _, _, _, rfl, HF.out⟩
    · obtain rfl := F.f2 (by simp [hdep])
      obtain rfl := F.f5 (by simp [hdep])
      have HF : Hid (can3F b b8 i k p1 p2 z S0 S1 (upd d_ 6) x13 x14 (.int .i64 k) x16 x17 (.pointer (some ⟨b, 5 + i * 10, none⟩)) (.pointer (some ⟨b, 5 + i * 10 + k, none⟩)) x20 x21 x22 x23 x24 x6 u w1) := ⟨F.q3, F.q4, F.q5, fun _ => ⟨(show _ from (by simp [hdep] : d_ 2 = true)), (show _ from (by simp [hdep] : d_ 5 = true))⟩, fun h => rfl, F.q8, F.q9, F.q10, F.q11, fun h => andM6 (F.q12 h) rfl, F.f0, F.f1, F.f2, F.f3, F.f4, F.f5, fun _ => rfl, F.f7, F.f8, F.f9, F.f10, F.f11, F.f12, F.st0, F.st1⟩
      clear F
      go_simp
      exact HK.out _ _ ⟨_, _, _, _, _, _, _, _, _, _, _, _, _, _, rfl, HF.out⟩
    · have hst : S0 w1 := by
        have n_ : d_ 10 = false := by
          cases e_ : d_ 10 with
          | false => rfl
          | true => have h2 := (F.q8 (F.q10 e_).1); rw [show d_ 7 = false from hd_] at h2; cases h2
        exact (F.st0 n_)
      have kk := kl7.out w1 hst
      clear hst
      obtain rfl := F.f6 (by simp [hdep])
      have HF : Hid (can3F b b8 i k p1 p2 z S0 S1 (upd d_ 7) x13 x14 x15 x16 x17 x18 (.pointer (some ⟨b, 5 + i * 10 + k, none⟩)) (.bool true) x21 x22 x23 x24 x6 u w1) := ⟨F.q3, F.q4, F.q5, F.q6, fun _ => (show _ from (by simp [hdep] : d_ 6 = true)), fun h => rfl, F.q9, F.q10, F.q11, fun h => andM7 (F.q12 h) rfl, F.f0, F.f1, F.f2, F.f3, F.f4, F.f5, F.f6, fun _ => rfl, F.f8, F.f9, F.f10, F.f11, F.f12, F.st0, F.st1⟩
      clear F
      go_simp
      exact HK.out _ _ ⟨_, _, _, _, _, _, _, _, _, _, _, _, _, _, rfl, HF.out⟩
    · obtain rfl := F.f7 (by simp [hdep])
      have HF : Hid (can3F b b8 i k p1 p2 z S0 S1 (upd d_ 8) x13 x14 x15 x16 x17 x18 x19 (.bool true) (.bool true) x22 x23 x24 x6 u w1) := ⟨F.q3, F.q4, F.q5, F.q6, F.q7, fun _ => (show _ from (by simp [hdep] : d_ 7 = true)), fun h => rfl, fun h => andM0 (F.q10 h) rfl, fun h => andM0 (F.q11 h) rfl, fun h => andM8 (F.q12 h) rfl, F.f0, F.f1, F.f2, F.f3, F.f4, F.f5, F.f6, F.f7, fun _ => rfl, F.f9, F.f10, F.f11, F.f12, F.st0, F.st1⟩
      clear F
      go_simp
      exact HK.out _ _ ⟨_, _, _, _, _, _, _, _, _, _, _, _, _, _, rfl, HF.out⟩
    · obtain rfl := F.f8 (by simp [hdep])
      have HF : Hid (can3F b b8 i k p1 p2 z S0 S1 (upd d_ 9) x13 x14 x15 x16 x17 x18 x19 x20 (.bool true) (.pointer (some ⟨b8, 0, none⟩)) x23 x24 x6 u w1) := ⟨F.q3, F.q4, F.q5, F.q6, F.q7, F.q8, fun _ => (show _ from (by simp [hdep] : d_ 8 = true)), fun h => andL1 (F.q10 h) rfl, F.q11, fun h => andM9 (F.q12 h) rfl, F.f0, F.f1, F.f2, F.f3, F.f4, F.f5, F.f6, F.f7, F.f8, fun _ => rfl, F.f10, F.f11, F.f12, F.st0, F.st1⟩
      clear F
      go_simp
      exact HK.out _ _ ⟨_, _, _, _, _, _, _, _, _, _, _, _, _, _, rfl, HF.out⟩
    · have hS := F.st0  hd_
      obtain rfl := F.f8 (by simp [hdep])
      obtain rfl := F.f9 (by simp [hdep])
      have hc := kc10.out w1 hS
      have HF := Lib.hid F
      clear F
      go_simp
      refine ⟨trivial, rfl, wideAt_calls (hc.mono ?_)⟩
      rintro e w5 ⟨v_, rfl, hres⟩
      exact HK.out _ _ ⟨_, _, _, _, _, _, _, _, _, _, _, _, _, v_, rfl, ⟨HF.out.q3, HF.out.q4, HF.out.q5, HF.out.q6, HF.out.q7, HF.out.q8, HF.out.q9, fun _ => ⟨(show _ from (by simp [hdep] : d_ 8 = true)), (show _ from (by simp [hdep] : d_ 9 = true))⟩, fun h => ⟨(HF.out.q11 h).1, rfl⟩, fun h => ⟨(HF.out.q12 h).1, (HF.out.q12 h).2.1, (HF.out.q12 h).2.2.1, (HF.out.q12 h).2.2.2.1, (HF.out.q12 h).2.2.2.2.1, (HF.out.q12 h).2.2.2.2.2.1, (HF.out.q12 h).2.2.2.2.2.2.1, (HF.out.q12 h).2.2.2.2.2.2.2.1, (HF.out.q12 h).2.2.2.2.2.2.2.2.1, (HF.out.q12 h).2.2.2.2.2.2.2.2.2.1, rfl, (HF.out.q12 h).2.2.2.2.2.2.2.2.2.2.2⟩, HF.out.f0, HF.out.f1, HF.out.f2, HF.out.f3, HF.out.f4, HF.out.f5, HF.out.f6, HF.out.f7, HF.out.f8, HF.out.f9, fun _ => rfl, HF.out.f11, HF.out.f12, fun h => (by simp [upd] at h), fun _ => hres⟩⟩
    · obtain rfl := F.f8 (by simp [hdep])
      obtain rfl := F.f10 (by simp [hdep])
      have HF : Hid (can3F b b8 i k p1 p2 z S0 S1 (upd d_ 11) x13 x14 x15 x16 x17 x18 x19 x20 (.bool true) x22 (.bool z) (.bool z) x6 u w1) := ⟨F.q3, F.q4, F.q5, F.q6, F.q7, F.q8, F.q9, F.q10, fun _ => ⟨(show _ from (by simp [hdep] : d_ 8 = true)), (show _ from (by simp [hdep] : d_ 10 = true))⟩, fun h => andL11 (F.q12 h) rfl, F.f0, F.f1, F.f2, F.f3, F.f4, F.f5, F.f6, F.f7, F.f8, F.f9, F.f10, fun _ => rfl, F.f12, F.st0, F.st1⟩
      clear F
      go_simp
      exact HK.out _ _ ⟨_, _, _, _, _, _, _, _, _, _, _, _, _, _, rfl, HF.out⟩
    · obtain rfl := F.f11 (by simp [hdep])
      have HF : Hid (can3F b b8 i k p1 p2 z S0 S1 (upd d_ 12) x13 x14 x15 x16 x17 x18 x19 x20 x21 x22 x23 (.bool z) (.bool z) u w1) := ⟨F.q3, F.q4, F.q5, F.q6, F.q7, F.q8, F.q9, F.q10, F.q11, fun _ => ⟨(show _ from (by simp [hdep] : d_ 0 = true)), (show _ from (by simp [hdep] : d_ 1 = true)), (show _ from (by simp [hdep] : d_ 2 = true)), (show _ from (by simp [hdep] : d_ 3 = true)), (show _ from (by simp [hdep] : d_ 4 = true)), (show _ from (by simp [hdep] : d_ 5 = true)), (show _ from (by simp [hdep] : d_ 6 = true)), (show _ from (by simp [hdep] : d_ 7 = true)), (show _ from (by simp [hdep] : d_ 8 = true)), (show _ from (by simp [hdep] : d_ 9 = true)), (show _ from (by simp [hdep] : d_ 10 = true)), (show _ from (by simp [hdep] : d_ 11 = true))⟩, F.f0, F.f1, F.f2, F.f3, F.f4, F.f5, F.f6, F.f7, F.f8, F.f9, F.f10, F.f11, fun _ => rfl, F.st0, F.st1⟩
      clear F
      go_simp
      exact HK.out _ _ ⟨_, _, _, _, _, _, _, _, _, _, _, _, _, _, rfl, HF.out⟩
  · rintro d_ a_ w1 hall ⟨x13, x14, x15, x16, x17, x18, x19, x20, x21, x22, x23, x24, x6, u, rfl, F⟩
    have hall' : ∀ k, k < 13 → d_ k = true := hall
    obtain rfl := F.f0 (hall' 0 (by decide))
    obtain rfl := F.f1 (hall' 1 (by decide))
    obtain rfl := F.f2 (hall' 2 (by decide))
    obtain rfl := F.f3 (hall' 3 (by decide))
    obtain rfl := F.f4 (hall' 4 (by decide))
    obtain rfl := F.f5 (hall' 5 (by decide))
    obtain rfl := F.f6 (hall' 6 (by decide))
    obtain rfl := F.f7 (hall' 7 (by decide))
    obtain rfl := F.f8 (hall' 8 (by decide))
    obtain rfl := F.f9 (hall' 9 (by decide))
    obtain rfl := F.f10 (hall' 10 (by decide))
    obtain rfl := F.f11 (hall' 11 (by decide))
    obtain rfl := F.f12 (hall' 12 (by decide))
    have hst := F.st1 (hall' 10 (by decide))
    exact HQ.out u w1 hst
structure can3nF (b : Nat) (b8 : Nat) (i : Nat) (k : Nat) (p1 : Nat) (p2 : Nat) (S0 : World → Prop) (d : Nat → Bool) (x13 x14 x15 x16 x17 x18 x19 x20 x21 x22 x23 x24 x6 : Value) (w : World) : Prop where
  q3 : d 3 = true → d 0 = true
  q4 : d 4 = true → d 3 = true
  q5 : d 5 = true → d 1 = true ∧ d 4 = true
  q6 : d 6 = true → d 2 = true ∧ d 5 = true
  q7 : d 7 = true → d 6 = true
  q8 : d 8 = true → d 7 = true
  q9 : d 9 = true → d 8 = true
  q10 : d 10 = true → d 8 = true ∧ d 9 = true
  q11 : d 11 = true → d 8 = true ∧ d 10 = true
  q12 : d 12 = true → d 0 = true ∧ d 1 = true ∧ d 2 = true ∧ d 3 = true ∧ d 4 = true ∧ d 5 = true ∧ d 6 = true ∧ d 7 = true ∧ d 8 = true ∧ d 9 = true ∧ d 10 = true ∧ d 11 = true
  f0 : d 0 = true → x13 = .pointer (some ⟨b, 0, none⟩)
  f1 : d 1 = true → x14 = .int .i64 i
  f2 : d 2 = true → x15 = .int .i64 k
  f3 : d 3 = true → x16 = .pointer (some ⟨b, 0, none⟩)
  f4 : d 4 = true → x17 = .pointer (some ⟨b, 5, none⟩)
  f5 : d 5 = true → x18 = .pointer (some ⟨b, 5 + i * 10, none⟩)
  f6 : d 6 = true → x19 = .pointer (some ⟨b, 5 + i * 10 + k, none⟩)
  f7 : d 7 = true → x20 = .bool false
  f8 : d 8 = true → x21 = .bool false
  f9 : d 9 = true → x22 = undef
  f10 : d 10 = true → x23 = undef
  f11 : d 11 = true → x24 = .bool false
  f12 : d 12 = true → x6 = .bool false
  st0 : S0 w
noncomputable def can3nC : Code := (Tryd.f68.body.bind (regionAt 3)).getD .skip
set_option maxRecDepth 100000 in
set_option maxHeartbeats 4000000 in
theorem can3n {b : Nat} {b8 : Nat} {i : Nat} {k : Nat} {p1 : Nat} {p2 : Nat} {S0 : World → Prop} {Q : Exit → Act → World → Prop} {W1 : World} (hi1 : (0 : Int) ≤ i) (hi2 : (i : Int) < 10) (hk1 : (0 : Int) ≤ k) (hk2 : (k : Int) < 10) (h0 : S0 W1.drew)
    (kl1 : Hid (∀ (w : World), (S0 w) → w.cell? ⟨p1, 0, none⟩ = some (.int .i64 i)))
    (kl2 : Hid (∀ (w : World), (S0 w) → w.cell? ⟨p2, 0, none⟩ = some (.int .i64 k)))
    (kl7 : Hid (∀ (w : World), (S0 w) → w.cell? ⟨b, 5 + i * 10 + k, none⟩ = some (.bool false)))
    {s1 s2 s3 s6 s7 s9 s10 s11 s12 s13 s14 s15 s16 s17 s18 s19 s20 s21 s22 s23 s24 : Value} {dd : List Deferred}
    (hQ : ∀ (w' : World), S0 w' → Q .normal { tmps := #[.pointer (some ⟨b, 0, none⟩), s1, s2, s3, .pointer (some ⟨p1, 0, none⟩), .pointer (some ⟨p2, 0, none⟩), .bool false, s7, .pointer (some ⟨b8, 0, none⟩), s9, s10, s11, s12, .pointer (some ⟨b, 0, none⟩), .int .i64 i, .int .i64 k, .pointer (some ⟨b, 0, none⟩), .pointer (some ⟨b, 5, none⟩), .pointer (some ⟨b, 5 + i * 10, none⟩), .pointer (some ⟨b, 5 + i * 10 + k, none⟩), .bool false, .bool false, undef, undef, .bool false], defers := dd } w') :
    Code.wpIn (wideAt none) 0 Tryd.prog can3nC Q { tmps := #[.pointer (some ⟨b, 0, none⟩), s1, s2, s3, .pointer (some ⟨p1, 0, none⟩), .pointer (some ⟨p2, 0, none⟩), s6, s7, .pointer (some ⟨b8, 0, none⟩), s9, s10, s11, s12, s13, s14, s15, s16, s17, s18, s19, s20, s21, s22, s23, s24], defers := dd } W1 := by
  have HQ := Lib.hid hQ
  clear hQ
  conv => arg 4; whnf
  refine wpIn_region_invG mixed (by kernel_rfl) (fun d_ a_ w' => ∃ (x13 : Value) (x14 : Value) (x15 : Value) (x16 : Value) (x17 : Value) (x18 : Value) (x19 : Value) (x20 : Value) (x21 : Value) (x22 : Value) (x23 : Value) (x24 : Value) (x6 : Value), a_ = { tmps := #[.pointer (some ⟨b, 0, none⟩), s1, s2, s3, .pointer (some ⟨p1, 0, none⟩), .pointer (some ⟨p2, 0, none⟩), x6, s7, .pointer (some ⟨b8, 0, none⟩), s9, s10, s11, s12, x13, x14, x15, x16, x17, x18, x19, x20, x21, x22, x23, x24], defers := dd } ∧ can3nF b b8 i k p1 p2 S0 d_ x13 x14 x15 x16 x17 x18 x19 x20 x21 x22 x23 x24 x6 w') ?_ ?_ ?_
  · refine ⟨s13, s14, s15, s16, s17, s18, s19, s20, s21, s22, s23, s24, s6, rfl, ?_⟩
    constructor <;> first | rfl | (intro _; rfl) | (intro h; cases h; done) | (intro _; exact h0) | exact h0
  · refine ⟨?_, ?_, ?_, ?_, ?_, ?_, ?_, ?_, ?_, ?_, ?_, ?_, ?_, trivial⟩
    all_goals
      rintro d_ a_ w1 K hd_ hdep ⟨x13, x14, x15, x16, x17, x18, x19, x20, x21, x22, x23, x24, x6, rfl, F⟩ HK
      simp [Region.binds] at hdep
    · have HF : Hid (can3nF b b8 i k p1 p2 S0 (upd d_ 0) (.pointer (some ⟨b, 0, none⟩)) x14 x15 x16 x17 x18 x19 x20 x21 x22 x23 x24 x6 w1) := ⟨fun h => rfl, F.q4, F.q5, F.q6, F.q7, F.q8, F.q9, F.q10, F.q11, fun h => andM0 (F.q12 h) rfl, fun _ => rfl, F.f1, F.f2, F.f3, F.f4, F.f5, F.f6, F.f7, F.f8, F.f9, F.f10, F.f11, F.f12, F.st0⟩
      clear F
      go_simp
      exact HK.out _ _ ⟨_, _, _, _, _, _, _, _, _, _, _, _, _, rfl, HF.out⟩
    · have hst : S0 w1 := by
        exact F.st0
      have kk := kl1.out w1 hst
      clear hst
      have HF : Hid (can3nF b b8 i k p1 p2 S0 (upd d_ 1) x13 (.int .i64 i) x15 x16 x17 x18 x19 x20 x21 x22 x23 x24 x6 w1) := ⟨F.q3, F.q4, fun h => andM0 (F.q5 h) rfl, F.q6, F.q7, F.q8, F.q9, F.q10, F.q11, fun h => andM1 (F.q12 h) rfl, F.f0, fun _ => rfl, F.f2, F.f3, F.f4, F.f5, F.f6, F.f7, F.f8, F.f9, F.f10, F.f11, F.f12, F.st0⟩
      clear F
      go_simp
      exact HK.out _ _ ⟨_, _, _, _, _, _, _, _, _, _, _, _, _, rfl, HF.out⟩
    · have hst : S0 w1 := by
        exact F.st0
      have kk := kl2.out w1 hst
      clear hst
      have HF : Hid (can3nF b b8 i k p1 p2 S0 (upd d_ 2) x13 x14 (.int .i64 k) x16 x17 x18 x19 x20 x21 x22 x23 x24 x6 w1) := ⟨F.q3, F.q4, F.q5, fun h => andM0 (F.q6 h) rfl, F.q7, F.q8, F.q9, F.q10, F.q11, fun h => andM2 (F.q12 h) rfl, F.f0, F.f1, fun _ => rfl, F.f3, F.f4, F.f5, F.f6, F.f7, F.f8, F.f9, F.f10, F.f11, F.f12, F.st0⟩
      clear F
      go_simp
      exact HK.out _ _ ⟨_, _, _, _, _, _, _, _, _, _, _, _, _, rfl, HF.out⟩
    · obtain rfl := F.f0 (by simp [hdep])
      have HF : Hid (can3nF b b8 i k p1 p2 S0 (upd d_ 3) (.pointer (some ⟨b, 0, none⟩)) x14 x15 (.pointer (some ⟨b, 0, none⟩)) x17 x18 x19 x20 x21 x22 x23 x24 x6 w1) := ⟨fun _ => (show _ from (by simp [hdep] : d_ 0 = true)), fun h => rfl, F.q5, F.q6, F.q7, F.q8, F.q9, F.q10, F.q11, fun h => andM3 (F.q12 h) rfl, F.f0, F.f1, F.f2, fun _ => rfl, F.f4, F.f5, F.f6, F.f7, F.f8, F.f9, F.f10, F.f11, F.f12, F.st0⟩
      clear F
      go_simp
      exact HK.out _ _ ⟨_, _, _, _, _, _, _, _, _, _, _, _, _, rfl, HF.out⟩
    · obtain rfl := F.f3 (by simp [hdep])
      have HF : Hid (can3nF b b8 i k p1 p2 S0 (upd d_ 4) x13 x14 x15 (.pointer (some ⟨b, 0, none⟩)) (.pointer (some ⟨b, 5, none⟩)) x18 x19 x20 x21 x22 x23 x24 x6 w1) := ⟨F.q3, fun _ => (show _ from (by simp [hdep] : d_ 3 = true)), fun h => andL1 (F.q5 h) rfl, F.q6, F.q7, F.q8, F.q9, F.q10, F.q11, fun h => andM4 (F.q12 h) rfl, F.f0, F.f1, F.f2, F.f3, fun _ => rfl, F.f5, F.f6, F.f7, F.f8, F.f9, F.f10, F.f11, F.f12, F.st0⟩
      clear F
      go_simp
      exact HK.out _ _ ⟨_, _, _, _, _, _, _, _, _, _, _, _, _, rfl, HF.out⟩
    · obtain rfl := F.f1 (by simp [hdep])
      obtain rfl := F.f4 (by simp [hdep])
      have HF : Hid (can3nF b b8 i k p1 p2 S0 (upd d_ 5) x13 (.int .i64 i) x15 x16 (.pointer (some ⟨b, 5, none⟩)) (.pointer (some ⟨b, 5 + i * 10, none⟩)) x19 x20 x21 x22 x23 x24 x6 w1) := ⟨F.q3, F.q4, fun _ => ⟨(show _ from (by simp [hdep] : d_ 1 = true)), (show _ from (by simp [hdep] : d_ 4 = true))⟩, fun h => andL1 (F.q6 h) rfl, F.q7, F.q8, F.q9, F.q10, F.q11, fun h => andM5 (F.q12 h) rfl, F.f0, F.f1, F.f2, F.f3, F.f4, fun _ => rfl, F.f6, F.f7, F.f8, F.f9, F.f10, F.f11, F.f12, F.st0⟩
      clear F
      go_simp
      exact HK.out _ _ ⟨_, _, _, _, _, _, _, _, _, _, _, _, _, rfl, HF.out⟩
    · obtain rfl := F.f2 (by simp [hdep])
      obtain rfl := F.f5 (by simp [hdep])
      have HF : Hid (can3nF b b8 i k p1 p2 S0 (upd d_ 6) x13 x14 (.int .i64 k) x16 x17 (.pointer (some ⟨b, 5 + i * 10, none⟩)) (.pointer (some ⟨b, 5 + i * 10 + k, none⟩)) x20 x21 x22 x23 x24 x6 w1) := ⟨F.q3, F.q4, F.q5, fun _ => ⟨(show _ from (by simp [hdep] : d_ 2 = true)), (show _ from (by simp [hdep] : d_ 5 = true))⟩, fun h => rfl, F.q8, F.q9, F.q10, F.q11, fun h => andM6 (F.q12 h) rfl, F.f0, F.f1, F.f2, F.f3, F.f4, F.f5, fun _ => rfl, F.f7, F.f8, F.f9, F.f10, F.f11, F.f12, F.st0⟩
      clear F
      go_simp
      exact HK.out _ _ ⟨_, _, _, _, _, _, _, _, _, _, _, _, _, rfl, HF.out⟩
    · have hst : S0 w1 := by
        exact F.st0
      have kk := kl7.out w1 hst
      clear hst
      obtain rfl := F.f6 (by simp [hdep])
      have HF : Hid (can3nF b b8 i k p1 p2 S0 (upd d_ 7) x13 x14 x15 x16 x17 x18 (.pointer (some ⟨b, 5 + i * 10 + k, none⟩)) (.bool false) x21 x22 x23 x24 x6 w1) := ⟨F.q3, F.q4, F.q5, F.q6, fun _ => (show _ from (by simp [hdep] : d_ 6 = true)), fun h => rfl, F.q9, F.q10, F.q11, fun h => andM7 (F.q12 h) rfl, F.f0, F.f1, F.f2, F.f3, F.f4, F.f5, F.f6, fun _ => rfl, F.f8, F.f9, F.f10, F.f11, F.f12, F.st0⟩
      clear F
      go_simp
      exact HK.out _ _ ⟨_, _, _, _, _, _, _, _, _, _, _, _, _, rfl, HF.out⟩
    · obtain rfl := F.f7 (by simp [hdep])
      have HF : Hid (can3nF b b8 i k p1 p2 S0 (upd d_ 8) x13 x14 x15 x16 x17 x18 x19 (.bool false) (.bool false) x22 x23 x24 x6 w1) := ⟨F.q3, F.q4, F.q5, F.q6, F.q7, fun _ => (show _ from (by simp [hdep] : d_ 7 = true)), fun h => rfl, fun h => andM0 (F.q10 h) rfl, fun h => andM0 (F.q11 h) rfl, fun h => andM8 (F.q12 h) rfl, F.f0, F.f1, F.f2, F.f3, F.f4, F.f5, F.f6, F.f7, fun _ => rfl, F.f9, F.f10, F.f11, F.f12, F.st0⟩
      clear F
      go_simp
      exact HK.out _ _ ⟨_, _, _, _, _, _, _, _, _, _, _, _, _, rfl, HF.out⟩
    · obtain rfl := F.f8 (by simp [hdep])
      have HF : Hid (can3nF b b8 i k p1 p2 S0 (upd d_ 9) x13 x14 x15 x16 x17 x18 x19 x20 (.bool false) (undef) x23 x24 x6 w1) := ⟨F.q3, F.q4, F.q5, F.q6, F.q7, F.q8, fun _ => (show _ from (by simp [hdep] : d_ 8 = true)), fun h => andL1 (F.q10 h) rfl, F.q11, fun h => andM9 (F.q12 h) rfl, F.f0, F.f1, F.f2, F.f3, F.f4, F.f5, F.f6, F.f7, F.f8, fun _ => rfl, F.f10, F.f11, F.f12, F.st0⟩
      clear F
      go_simp
      exact HK.out _ _ ⟨_, _, _, _, _, _, _, _, _, _, _, _, _, rfl, HF.out⟩
    · obtain rfl := F.f8 (by simp [hdep])
      obtain rfl := F.f9 (by simp [hdep])
      have HF : Hid (can3nF b b8 i k p1 p2 S0 (upd d_ 10) x13 x14 x15 x16 x17 x18 x19 x20 (.bool false) (undef) (undef) x24 x6 w1) := ⟨F.q3, F.q4, F.q5, F.q6, F.q7, F.q8, F.q9, fun _ => ⟨(show _ from (by simp [hdep] : d_ 8 = true)), (show _ from (by simp [hdep] : d_ 9 = true))⟩, fun h => andL1 (F.q11 h) rfl, fun h => andM10 (F.q12 h) rfl, F.f0, F.f1, F.f2, F.f3, F.f4, F.f5, F.f6, F.f7, F.f8, F.f9, fun _ => rfl, F.f11, F.f12, F.st0⟩
      clear F
      go_simp
      exact HK.out _ _ ⟨_, _, _, _, _, _, _, _, _, _, _, _, _, rfl, HF.out⟩
    · obtain rfl := F.f8 (by simp [hdep])
      obtain rfl := F.f10 (by simp [hdep])
      have HF : Hid (can3nF b b8 i k p1 p2 S0 (upd d_ 11) x13 x14 x15 x16 x17 x18 x19 x20 (.bool false) x22 (undef) (.bool false) x6 w1) := ⟨F.q3, F.q4, F.q5, F.q6, F.q7, F.q8, F.q9, F.q10, fun _ => ⟨(show _ from (by simp [hdep] : d_ 8 = true)), (show _ from (by simp [hdep] : d_ 10 = true))⟩, fun h => andL11 (F.q12 h) rfl, F.f0, F.f1, F.f2, F.f3, F.f4, F.f5, F.f6, F.f7, F.f8, F.f9, F.f10, fun _ => rfl, F.f12, F.st0⟩
      clear F
      go_simp
      exact HK.out _ _ ⟨_, _, _, _, _, _, _, _, _, _, _, _, _, rfl, HF.out⟩
    · obtain rfl := F.f11 (by simp [hdep])
      have HF : Hid (can3nF b b8 i k p1 p2 S0 (upd d_ 12) x13 x14 x15 x16 x17 x18 x19 x20 x21 x22 x23 (.bool false) (.bool false) w1) := ⟨F.q3, F.q4, F.q5, F.q6, F.q7, F.q8, F.q9, F.q10, F.q11, fun _ => ⟨(show _ from (by simp [hdep] : d_ 0 = true)), (show _ from (by simp [hdep] : d_ 1 = true)), (show _ from (by simp [hdep] : d_ 2 = true)), (show _ from (by simp [hdep] : d_ 3 = true)), (show _ from (by simp [hdep] : d_ 4 = true)), (show _ from (by simp [hdep] : d_ 5 = true)), (show _ from (by simp [hdep] : d_ 6 = true)), (show _ from (by simp [hdep] : d_ 7 = true)), (show _ from (by simp [hdep] : d_ 8 = true)), (show _ from (by simp [hdep] : d_ 9 = true)), (show _ from (by simp [hdep] : d_ 10 = true)), (show _ from (by simp [hdep] : d_ 11 = true))⟩, F.f0, F.f1, F.f2, F.f3, F.f4, F.f5, F.f6, F.f7, F.f8, F.f9, F.f10, F.f11, fun _ => rfl, F.st0⟩
      clear F
      go_simp
      exact HK.out _ _ ⟨_, _, _, _, _, _, _, _, _, _, _, _, _, rfl, HF.out⟩
  · rintro d_ a_ w1 hall ⟨x13, x14, x15, x16, x17, x18, x19, x20, x21, x22, x23, x24, x6, rfl, F⟩
    have hall' : ∀ k, k < 13 → d_ k = true := hall
    obtain rfl := F.f0 (hall' 0 (by decide))
    obtain rfl := F.f1 (hall' 1 (by decide))
    obtain rfl := F.f2 (hall' 2 (by decide))
    obtain rfl := F.f3 (hall' 3 (by decide))
    obtain rfl := F.f4 (hall' 4 (by decide))
    obtain rfl := F.f5 (hall' 5 (by decide))
    obtain rfl := F.f6 (hall' 6 (by decide))
    obtain rfl := F.f7 (hall' 7 (by decide))
    obtain rfl := F.f8 (hall' 8 (by decide))
    obtain rfl := F.f9 (hall' 9 (by decide))
    obtain rfl := F.f10 (hall' 10 (by decide))
    obtain rfl := F.f11 (hall' 11 (by decide))
    obtain rfl := F.f12 (hall' 12 (by decide))
    have hst := F.st0
    exact HQ.out  w1 hst
end Go.Proofs.YtbnhngfegnhaiaaDoor
namespace Go.Proofs.YtbnhngfegnhaiaaDoor
open Go.RowKit
set_option linter.unusedVariables false
set_option linter.unusedSimpArgs false
theorem own_isE {T : Nat → Bool} {n m i k : Nat} (need : Int) (hm : m ≤ 10) : isE (fun a b => wI T (apart i k) n m n 0 (a * 10 + b)) n m need = isE (own (fun a b => T (a * 10 + b)) i k) n m need := by
  refine isE_congr (fun a b ha hb => ?_) need
  unfold wI own
  rw [show (a * 10 + b) / 10 = a by omega, show (a * 10 + b) % 10 = b by omega]
  simp [ha, hb]
set_option maxRecDepth 100000 in
set_option maxHeartbeats 8000000 in
theorem can72 {r : Rws} {al ar : Option Addr} {cl cr b i k : Nat} {T : Nat → Bool} {need : Int} {w : World} (h : IsRws w b r al cl ar cr T need) (hl1 : r.left.length ≤ 10) (hl2 : r.right.length ≤ 10) (hi : i < r.left.length) (hk : k < r.right.length) :
    Calls Tryd.prog 68 #[.pointer (some ⟨b, 0, none⟩), .int .i64 i, .int .i64 k] w fun e w' => e = .returned (.bool (canE (fun a b => T (a * 10 + b)) r.left.length r.right.length need i k)) ∧ Below w.heap.size w w' := by
  have HX := Lib.hid (alloc2 w #[.int .i64 i] #[.int .i64 k] 3 3)
  have H := Lib.hid (h.mono HX.out.2.2)
  have HL := Lib.hid (And.intro (And.intro hl1 hl2) (And.intro hi hk))
  have HCAN : Hid (canE (fun a b => T (a * 10 + b)) r.left.length r.right.length need i k = (T (i * 10 + k) && isE (fun a b => wI T (apart i k) r.left.length r.right.length r.left.length 0 (a * 10 + b)) r.left.length r.right.length need)) := by
    rw [Hid, own_isE need hl2]
    rfl
  have HCA := Lib.hid (fun (v : World) (b' : Nat) (hv : IsRws v b' r al cl ar cr (wI T (apart i k) r.left.length r.right.length r.left.length 0) need) => is71 hv hl1 hl2)
  have g1 : (i : Int) < 10 := by omega
  have g2 : (k : Int) < 10 := by omega
  clear h hl1 hl2 hi hk
  revert HCAN HCA
  generalize canE (fun a b => T (a * 10 + b)) r.left.length r.right.length need i k = z
  generalize isE (fun a b => wI T (apart i k) r.left.length r.right.length r.left.length 0 (a * 10 + b)) r.left.length r.right.length need = y
  intro HCAN HCA
  go_enter Tryd.func68, Tryd.ntmps68
  refine wp_seq_hid ?_
  intro K0 HK0
  go_wp2_with fail
  refine HK0.out _ _ ?_
  clear HK0 K0
  revert HX H
  generalize (w.alloc (.cells #[.int .i64 i] 3)).alloc (.cells #[.int .i64 k] 3) = w1
  generalize hp2 : w.heap.size + 1 = p2
  generalize hp1 : w.heap.size = p1
  intro HX H
  have HP := Lib.hid hp1
  clear hp1 hp2
  refine wp_seq_hid ?_
  intro K1 HK1
  go_wp2_with fail
  refine HK1.out _ _ ?_
  clear HK1 K1
  refine wp_seq_hid ?_
  intro K2 HK2
  go_wp2_with fail
  refine (without84 (f := 100) (p1 := p1) (p2 := p2) (P := apart i k) H.out HL.out.1.1 HL.out.1.2 cf83 ?_).mono ?_
  · intro v a c hv ha hc
    refine (apart83 (i := i) (k := k) (by rw [cell_of_heap ((hv.block _ (heap_lt HX.out.1)).trans HX.out.1)]; rfl) (by rw [cell_of_heap ((hv.block _ (heap_lt HX.out.2.1)).trans HX.out.2.1)]; rfl)).mono ?_
    rintro e v' ⟨rfl, rfl⟩
    exact ⟨rfl, Below.refl _ _⟩
  rintro e w2 ⟨b8, rfl, hbb, hR, hb⟩
  have HR := Lib.hid (And.intro hR hb)
  have HW : Hid (p1 ≤ w1.heap.size) := Nat.le_of_lt (heap_lt HX.out.1)
  clear hR hb hbb
  go_wp2_with fail
  refine HK2.out _ _ ?_
  clear HK2 K2
  have KF : Hid (∀ v, Below w2.heap.size w2 v → v.cell? ⟨p1, 0, none⟩ = some (.int .i64 i) ∧ v.cell? ⟨p2, 0, none⟩ = some (.int .i64 k) ∧ v.cell? ⟨b, 5 + i * 10 + k, none⟩ = some (.bool (T (i * 10 + k))) ∧ Below p1 w v) := fun v hv => by
    have h1 := HR.out.2.trans (hv.mono HR.out.2.size)
    refine ⟨by rw [cell_of_heap ((h1.block _ (heap_lt HX.out.1)).trans HX.out.1)]; rfl, by rw [cell_of_heap ((h1.block _ (heap_lt HX.out.2.1)).trans HX.out.2.1)]; rfl, ?_, HX.out.2.2.trans (h1.mono HW.out)⟩
    rw [Nat.add_assoc]
    have l1 := HL.out.1.1
    have l2 := HL.out.1.2
    have l3 := HL.out.2.1
    have l4 := HL.out.2.2
    exact (H.out.mono h1).tab (by omega)
  refine wp_seq_hid ?_
  intro K3 HK3
  cases ht : T (i * 10 + k)
  · have HZ : Hid (z = false) := by rw [Hid, HCAN.out, ht]; rfl
    rw [ht] at KF
    clear ht
    refine wpIn_wide.1 (can3n (b := b) (b8 := b8) (i := i) (k := k) (p1 := p1) (p2 := p2) (S0 := fun v => Below w2.heap.size w2 v) (by omega) (by omega) (by omega) (by omega) ?h0 ?l1 ?l2 ?l7 ?hQ)
    case h0 => exact (Below.refl _ _).drew
    case l1 => exact fun v h => (KF.out v h).1
    case l2 => exact fun v h => (KF.out v h).2.1
    case l7 => exact fun v h => (KF.out v h).2.2.1
    intro w3 h
    have HF := Lib.hid (KF.out w3 h).2.2.2
    clear h
    refine HK3.out _ _ ?_
    go_wp2_with fail
    go_ret
    exact ⟨by rw [HZ.out]; rfl, HF.out⟩
  · have HZ : Hid (z = y) := by rw [Hid, HCAN.out, ht]; rfl
    rw [ht] at KF
    clear ht
    refine wpIn_wide.1 (can3 (b := b) (b8 := b8) (i := i) (k := k) (p1 := p1) (p2 := p2) (z := y) (S0 := fun v => Below w2.heap.size w2 v) (S1 := fun _ v => Below w2.heap.size w2 v) (by omega) (by omega) (by omega) (by omega) ?h0_b ?l1_b ?l2_b ?l7_b ?c10_b ?hQ_b)
    case h0_b => exact (Below.refl _ _).drew
    case l1_b =>
      intro v h
      exact (KF.out v h).1
    case l2_b => exact fun v h => (KF.out v h).2.1
    case l7_b => exact fun v h => (KF.out v h).2.2.1
    case c10_b =>
      intro v h
      refine (HCA.out v b8 (HR.out.1.mono h)).mono ?_
      rintro e v' ⟨rfl, hb⟩
      exact ⟨(), rfl, h.trans (hb.mono h.size)⟩
    intro u w3 h
    have HF := Lib.hid (KF.out w3 h).2.2.2
    clear h
    refine HK3.out _ _ ?_
    go_wp2_with fail
    go_ret
    exact ⟨by rw [HZ.out]; rfl, HF.out⟩
end Go.Proofs.YtbnhngfegnhaiaaDoor
namespace Go.Proofs.YtbnhngfegnhaiaaDoor
open Go.RowKit
set_option linter.unusedVariables false
set_option linter.unusedSimpArgs false
theorem and_nat (a b : Nat) (ha : a < 2 ^ 62) (hb : b < 2 ^ 62) : bits .and .i64 (a : Int) (b : Int) = ((a &&& b : Nat) : Int) :=
  (bits_nat .i64 62 (by decide) (fun n h1 h2 => by rw [IntKind.wrap_i64]; omega) a b ha hb).1
theorem or_nat (a b : Nat) (ha : a < 2 ^ 62) (hb : b < 2 ^ 62) : bits .or .i64 (a : Int) (b : Int) = ((a ||| b : Nat) : Int) :=
  (bits_nat .i64 62 (by decide) (fun n h1 h2 => by rw [IntKind.wrap_i64]; omega) a b ha hb).2
theorem bit_test (n k : Nat) (hn : n < 2 ^ 62) : (bits .and .i64 ((n : Int) / 2 ^ k) 1 == 1) = n.testBit k := by
  have h1 : ((n : Int) / 2 ^ k) = ((n / 2 ^ k : Nat) : Int) := by simp
  have h2 : n / 2 ^ k < 2 ^ 62 := Nat.lt_of_le_of_lt (Nat.div_le_self _ _) hn
  rw [h1]
  have := and_nat (n / 2 ^ k) 1 h2 (by decide)
  rw [show ((1 : Nat) : Int) = 1 from rfl] at this
  rw [this, Nat.and_one_is_mod, Nat.testBit_eq_decide_div_mod_eq]
  rw [Bool.eq_iff_iff]
  simp
  omega
theorem bitsOf_lt (p : Nat → Bool) : ∀ n, bitsOf p n < 2 ^ n
  | 0 => by simp [bitsOf]
  | n + 1 => by
    unfold bitsOf
    have h1 := bitsOf_lt p n
    have h2 : 2 ^ n < 2 ^ (n + 1) := Nat.pow_lt_pow_right (by omega) (by omega)
    refine Nat.or_lt_two_pow (by omega) ?_
    split
    · exact h2
    · exact Nat.two_pow_pos _
theorem bitsOf_test (p : Nat → Bool) : ∀ (n k : Nat), (bitsOf p n).testBit k = (decide (k < n) && p k)
  | 0, k => by simp [bitsOf]
  | n + 1, k => by
    unfold bitsOf
    rw [Nat.testBit_or, bitsOf_test p n k]
    by_cases hp : p n = true
    · rw [if_pos hp, Nat.testBit_two_pow]
      by_cases h : n = k
      · subst h
        simp [hp]
      · have e : decide (k < n + 1) = decide (k < n) := by
          rw [Bool.eq_iff_iff]
          simp
          omega
        simp [h, e]
    · rw [if_neg hp, Nat.zero_testBit, Bool.or_false]
      by_cases h : n = k
      · subst h
        simp [hp]
      · have e : decide (k < n + 1) = decide (k < n) := by
          rw [Bool.eq_iff_iff]
          simp
          omega
        rw [e]
theorem has52 {s k : Nat} (hs : s < 2 ^ 62) (hk : k < 60) (w : World) : Calls Tryd.prog 39 #[.int .i64 s, .int .i64 k] w fun e w' => e = .returned (.bool (s.testBit k)) ∧ w = w' := by
  have HB := Lib.hid (bit_test s k hs)
  clear hs
  go_enter Tryd.func39, Tryd.ntmps39
  go_wp2_with fail
  go_ret
  exact ⟨ret_bool HB.out, rfl⟩
set_option maxRecDepth 100000 in
set_option maxHeartbeats 4000000 in
theorem union73 {a c bs : Nat} {w : World} (ha : a < 2 ^ 62) (hc : c < 2 ^ 62) (hq : w.heap[bs]? = some (.cells #[.int .i64 a, .int .i64 c] 77 (0, 0))) : Calls Tryd.prog 61 #[.slice (some ⟨bs, 0, none⟩) 2 2] w fun e w' => e = .returned (.int .i64 ((a ||| c : Nat) : Int)) ∧ w = w' := by
  have h1 : bits .or .i64 0 (a : Int) = (a : Int) := by
    have := or_nat 0 a (by decide) ha
    rw [Nat.zero_or] at this
    exact this
  have h2 : bits .or .i64 (a : Int) (c : Int) = ((a ||| c : Nat) : Int) := or_nat a c ha hc
  have s0 : w.cell? ⟨bs, 0, none⟩ = some (.int .i64 a) := by rw [cell_of_heap hq]; rfl
  have s1 : w.cell? ⟨bs, 1, none⟩ = some (.int .i64 c) := by rw [cell_of_heap hq]; rfl
  clear hq ha hc
  revert h2
  generalize a ||| c = d
  intro h2
  go_enter Tryd.func61, Tryd.ntmps61
  go_wp2_with fail
  go_loop [2, 7] (fun z i => ∃ k : Int, (k = 0 ∨ k = 1 ∨ k = 2) ∧ i = .int .i64 k ∧ z = .int .i64 (if 1 ≤ k then (if 2 ≤ k then (d : Int) else a) else 0)) (fun _ i => 2 - (intOf i).toNat)
  case atStart => exact ⟨0, .inl rfl, rfl, rfl⟩
  case round =>
    obtain ⟨k, hk, rfl, rfl⟩ := hrel
    rcases hk with rfl | rfl | rfl
    · have e : (if (1 : Int) ≤ 0 then (if (2 : Int) ≤ 0 then (d : Int) else a) else 0) = 0 := by simp
      rw [e]
      clear e
      go_wp2_with fail
      go_round
      case rel => exact ⟨1, .inr (.inl rfl), rfl, by simp⟩
      case measure => simp [intOf]
    · have e : (if (1 : Int) ≤ 1 then (if (2 : Int) ≤ 1 then (d : Int) else a) else 0) = a := by simp
      rw [e]
      clear e
      go_wp2_with fail
      go_round
      case rel => exact ⟨2, .inr (.inr rfl), rfl, by simp⟩
      case measure => simp [intOf]
    · have e : (if (1 : Int) ≤ 2 then (if (2 : Int) ≤ 2 then (d : Int) else a) else 0) = d := by simp
      rw [e]
      clear e
      go_wp2_with fail
      go_ret
      exact ⟨rfl, rfl⟩
theorem two_wrap {f : Nat} (h : f < 10) : IntKind.i64.wrap (2 ^ f) = ((2 ^ f : Nat) : Int) := by
  have : f = 0 ∨ f = 1 ∨ f = 2 ∨ f = 3 ∨ f = 4 ∨ f = 5 ∨ f = 6 ∨ f = 7 ∨ f = 8 ∨ f = 9 := by omega
  rcases this with rfl | rfl | rfl | rfl | rfl | rfl | rfl | rfl | rfl | rfl <;> decide +kernel
theorem two_lt {f : Nat} (h : f < 10) : 2 ^ f < 2 ^ 62 := Nat.pow_lt_pow_right (by omega) (by omega)
set_option maxRecDepth 100000 in
set_option maxHeartbeats 8000000 in
theorem cans51 {r : Rws} {al ar : Option Addr} {cl cr b i : Nat} {T : Nat → Bool} {need : Int} {w : World} (h : IsRws w b r al cl ar cr T need) (hl1 : r.left.length ≤ 10) (hl2 : r.right.length ≤ 10) (hi : i < r.left.length) :
    Calls Tryd.prog 31 #[.pointer (some ⟨b, 0, none⟩), .int .i64 i] w fun e w' => e = .returned (.int .i64 (bitsOf (canE (fun a b => T (a * 10 + b)) r.left.length r.right.length need i) r.right.length : Nat)) ∧ Below w.heap.size w w' := by
  have H := Lib.hid h
  have HC := Lib.hid (fun (v : World) (k : Nat) (hv : IsRws v b r al cl ar cr T need) (hk : k < r.right.length) => can72 hv hl1 hl2 hi hk)
  clear h
  revert HC
  generalize canE (fun a b => T (a * 10 + b)) r.left.length r.right.length need i = p
  intro HC
  have k1 : w.cell? ⟨b, 1, none⟩ = some (.slice ar r.right.length cr) := H.out.right
  go_enter Tryd.func31, Tryd.ntmps31
  refine wp_seq_hid ?_
  intro K0 HK0
  go_wp2_with fail
  refine HK0.out _ _ ?_
  clear HK0 K0
  refine wp_seq_hid ?_
  intro K1 HK1
  go_wp2_with fail
  clear k1
  go_loopw [4, 12] (fun z q wr => ∃ k : Nat, k ≤ r.right.length ∧ q = .int .i64 k ∧ z = .int .i64 (bitsOf p k : Nat) ∧ Hid (Below w.heap.size w wr)) (fun _ q _ => r.right.length - (intOf q).toNat)
  case atStart => exact ⟨0, by omega, rfl, rfl, Below.refl _ _⟩
  case round =>
    obtain ⟨k, hk, rfl, rfl, HW⟩ := hrel
    by_cases hlt : k < r.right.length
    · have HCK := Lib.hid (HC.out wr k (H.out.mono HW.out) hlt)
      have hbs : bitsOf p (k + 1) = bitsOf p k ||| (if p k then 2 ^ k else 0) := rfl
      have HBL : Hid (bitsOf p k < 2 ^ 62) := Nat.lt_trans (bitsOf_lt p k) (two_lt (by omega))
      have htw := two_wrap (f := k) (by omega)
      have HTL := Lib.hid (two_lt (f := k) (by omega))
      have HTW := Lib.hid htw
      clear htw
      revert HCK hbs HBL
      generalize bitsOf p k = s
      generalize hs2 : bitsOf p (k + 1) = s2
      cases hp : p k
      · intro HCK hbs HBL
        have e : s2 = s := by rw [hbs]; simp
        have HS2 := Lib.hid (e.symm.trans hs2.symm)
        clear hbs hs2 e hp
        go_wp2_with fail
        refine HCK.out.mono ?_
        rintro e w' ⟨rfl, hb⟩
        have HB2 := Lib.hid (HW.out.trans (hb.mono HW.out.size))
        clear hb
        go_wp2_with fail
        go_roundw
        case rel => exact ⟨k + 1, by omega, by go_num, by rw [← HS2.out], HB2.out⟩
        case measure => simp [intOf]; omega
      · intro HCK hbs HBL
        rw [if_pos rfl] at hbs
        have HS2 := Lib.hid (hbs.symm.trans hs2.symm)
        clear hbs hs2 hp
        have htw := HTW.out
        revert htw HTL HS2
        generalize (2 : Nat) ^ k = t
        intro HTL HS2 htw
        go_wp2_with fail
        refine HCK.out.mono ?_
        rintro e w' ⟨rfl, hb⟩
        have HB2 := Lib.hid (HW.out.trans (hb.mono HW.out.size))
        clear hb
        have HQ := Lib.hid (And.intro (World.alloc_heap_new w' (.cells #[.int .i64 s, .int .i64 t] 77)) (alloc_below w' (.cells #[.int .i64 s, .int .i64 t] 77)))
        have k9 : (k : Int) < 10 := by omega
        go_wp2_with fail
        refine (union73 HBL.out HTL.out HQ.out.1).mono ?_
        rintro e w5 ⟨rfl, rfl⟩
        have HB3 := Lib.hid (HB2.out.trans (HQ.out.2.mono HB2.out.size))
        clear htw k9
        go_wp2_with fail
        go_roundw
        case rel => exact ⟨k + 1, by omega, by go_num, by rw [← HS2.out], HB3.out⟩
        case measure => simp [intOf]; omega
    · obtain rfl : k = r.right.length := by omega
      go_wp2_with fail
      refine HK1.out _ _ ?_
      go_wp2_with fail
      go_ret
      exact ⟨rfl, HW.out⟩
end Go.Proofs.YtbnhngfegnhaiaaDoor
