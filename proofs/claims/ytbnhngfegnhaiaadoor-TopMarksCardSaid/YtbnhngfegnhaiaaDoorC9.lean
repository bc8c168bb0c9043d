/- By how much a thing's places differ, and why it moved: the walks. Why a thing moved: the walk. Why a thing of a pair that has a truth moved: the walk. The way with the fewest hidden marks: the drawn regions. The way with the fewest hidden marks: the range over the pairs. Is a mark hidden in some way: the walk. How many bits a small number has: bits.OnesCount. How many zeros end a power of two: bits.TrailingZeros. Which marks are a pair in each way: Sure: the walk. The way with the fewest hidden marks: the walk. Sample functions. The rows of the examples. The pair of the examples; its things. -/
import Derived.Test.YtbnhngfegnhaiaaDoorC8
namespace Go.Proofs.YtbnhngfegnhaiaaDoor
open Go.RowKit
set_option linter.unusedVariables false
set_option linter.unusedSimpArgs false
structure why4F (bv : Nat) (b6 : Nat) (b7 : Nat) (x : Int) (y : Int) (z1 : Int) (z2 : Int) (zb : Bool) (t0 : Int) (t1 : Int) (t2 : Int) (t3 : Int) (t4 : Int) (t5 : Int) (t6 : Int) (t7 : Int) (t8 : Int) (S0 : Bool → Nat → World → Prop) (S1 : Bool → Nat → Unit → World → Prop) (S2 : Bool → Nat → Unit → World → Prop) (d : Nat → Bool) (x24 x25 x26 x27 x28 x29 x30 x23 x31 x32 x8 x9 : Value) (ms : Nat) (u1 : Unit) (w : World) : Prop where
  q3 : d 3 = true → d 2 = true
  q4 : d 4 = true → d 3 = true
  q5 : d 5 = true → d 4 = true
  q6 : d 6 = true → d 0 = true ∧ d 1 = true ∧ d 5 = true
  q7 : d 7 = true → d 6 = true
  q8 : d 8 = true → d 7 = true
  q9 : d 9 = true → d 7 = true
  q11 : d 11 = true → d 0 = true ∧ d 1 = true ∧ d 2 = true ∧ d 3 = true ∧ d 4 = true ∧ d 5 = true ∧ d 6 = true ∧ d 7 = true ∧ d 8 = true ∧ d 10 = true
  q12 : d 12 = true → d 0 = true ∧ d 1 = true ∧ d 2 = true ∧ d 3 = true ∧ d 4 = true ∧ d 5 = true ∧ d 6 = true ∧ d 7 = true ∧ d 8 = true ∧ d 9 = true ∧ d 10 = true ∧ d 11 = true
  f0 : d 0 = true → x24 = .pointer (some ⟨bv, 0, none⟩)
  f1 : d 1 = true → x25 = .agg #[.int .i64 t0, .int .i64 t1, .int .i64 t2, .int .i64 t3, .int .i64 t4, .int .i64 t5, .int .i64 t6, .int .i64 t7, .int .i64 t8]
  f2 : d 2 = true → x26 = .pointer (some ⟨bv, 0, none⟩)
  f3 : d 3 = true → x27 = .pointer (some ⟨bv, 0, none⟩)
  f4 : d 4 = true → x28 = .pointer (some ⟨bv, 8, none⟩)
  f5 : d 5 = true → x29 = .agg #[.int .i64 x, .int .i64 y]
  f6 : d 6 = true → x30 = .tuple #[.agg #[.int .i64 z1, .int .i64 z2], .bool zb]
  f7 : d 7 = true → x23 = .tuple #[.agg #[.int .i64 z1, .int .i64 z2], .bool zb]
  f8 : d 8 = true → x31 = .agg #[.int .i64 z1, .int .i64 z2]
  f9 : d 9 = true → x32 = .bool zb
  f10 : d 10 = true → x8 = .pointer (some ⟨ms, 0, none⟩)
  f12 : d 12 = true → x9 = .bool zb
  st0 : d 6 = false → S0 (d 10) ms w
  st1 : d 6 = true → d 11 = false → S1 (d 10) ms u1 w
  st2 : d 11 = true → S2 (d 10) ms u1 w
  mz : d 10 = false → ms = 0
noncomputable def why4C : Code := (Tryd.f12.body.bind (regionAt 4)).getD .skip
set_option maxRecDepth 100000 in
set_option maxHeartbeats 4000000 in
theorem why4 {bv : Nat} {b6 : Nat} {b7 : Nat} {x : Int} {y : Int} {z1 : Int} {z2 : Int} {zb : Bool} {t0 : Int} {t1 : Int} {t2 : Int} {t3 : Int} {t4 : Int} {t5 : Int} {t6 : Int} {t7 : Int} {t8 : Int} {S0 : Bool → Nat → World → Prop} {S1 : Bool → Nat → Unit → World → Prop} {S2 : Bool → Nat → Unit → World → Prop} {Q : Exit → Act → World → Prop} {W1 : World} (h0 : S0 false 0 W1.drew)
    (kl0 : Hid (∀ (fs : Bool) (ms : Nat) (w : World), (S0 fs ms w) → w.cell? ⟨b6, 0, none⟩ = some (.pointer (some ⟨bv, 0, none⟩))))
    (kl1 : Hid (∀ (fs : Bool) (ms : Nat) (w : World), (S0 fs ms w) → w.cell? ⟨b7, 0, none⟩ = some (.int .i64 t0) ∧ w.cell? ⟨b7, 1, none⟩ = some (.int .i64 t1) ∧ w.cell? ⟨b7, 2, none⟩ = some (.int .i64 t2) ∧ w.cell? ⟨b7, 3, none⟩ = some (.int .i64 t3) ∧ w.cell? ⟨b7, 4, none⟩ = some (.int .i64 t4) ∧ w.cell? ⟨b7, 5, none⟩ = some (.int .i64 t5) ∧ w.cell? ⟨b7, 6, none⟩ = some (.int .i64 t6) ∧ w.cell? ⟨b7, 7, none⟩ = some (.int .i64 t7) ∧ w.cell? ⟨b7, 8, none⟩ = some (.int .i64 t8)))
    (kl2 : Hid (∀ (fs : Bool) (ms : Nat) (w : World), (S0 fs ms w) → w.cell? ⟨b6, 0, none⟩ = some (.pointer (some ⟨bv, 0, none⟩))))
    (kl5 : Hid (∀ (fs : Bool) (ms : Nat) (w : World), (S0 fs ms w) → w.cell? ⟨bv, 8, none⟩ = some (.int .i64 x) ∧ w.cell? ⟨bv, 9, none⟩ = some (.int .i64 y)))
    (kc6 : Hid (∀ (fs : Bool) (ms : Nat) (w : World), S0 fs ms w → Calls Tryd.prog 43 #[.pointer (some ⟨bv, 0, none⟩), .agg #[.int .i64 t0, .int .i64 t1, .int .i64 t2, .int .i64 t3, .int .i64 t4, .int .i64 t5, .int .i64 t6, .int .i64 t7, .int .i64 t8], .agg #[.int .i64 x, .int .i64 y]] w fun e w' => ∃ u1 : Unit, e = .returned (.tuple #[.agg #[.int .i64 z1, .int .i64 z2], .bool zb]) ∧ S1 fs ms u1 w'))
    (ks0 : Hid (∀ (w : World), S0 false 0 w → S0 true w.heap.size (w.alloc (.cells #[.int .i64 0, .int .i64 0] 42))))
    (ks1 : Hid (∀ (u1 : Unit) (w : World), S1 false 0 u1 w → S1 true w.heap.size u1 (w.alloc (.cells #[.int .i64 0, .int .i64 0] 42))))
    (kc11 : Hid (∀ (ms : Nat) (u1 : Unit) (w : World), S1 true ms u1 w → (∃ u, w.cell? ⟨ms, 0, none⟩ = some u) ∧ w.frozen? ⟨ms, 0, none⟩ = false ∧ (∃ u, w.cell? ⟨ms, 1, none⟩ = some u) ∧ w.frozen? ⟨ms, 1, none⟩ = false ∧ S2 true ms u1 ((w.setCell ⟨ms, 0, none⟩ (.int .i64 z1)).setCell ⟨ms, 1, none⟩ (.int .i64 z2))))
    {s0 s1 s2 s3 s4 s5 s8 s9 s10 s11 s12 s13 s14 s15 s16 s17 s18 s19 s20 s21 s22 s23 s24 s25 s26 s27 s28 s29 s30 s31 s32 s33 s34 s35 s36 s37 s38 : Value} {dd : List Deferred}
    (hQ : ∀ (ms : Nat) (u1 : Unit) (w' : World), S2 true ms u1 w' → Q .normal { tmps := #[s0, s1, s2, s3, s4, s5, .pointer (some ⟨b6, 0, none⟩), .pointer (some ⟨b7, 0, none⟩), .pointer (some ⟨ms, 0, none⟩), .bool zb, s10, s11, s12, s13, s14, s15, s16, s17, s18, s19, s20, s21, s22, .tuple #[.agg #[.int .i64 z1, .int .i64 z2], .bool zb], .pointer (some ⟨bv, 0, none⟩), .agg #[.int .i64 t0, .int .i64 t1, .int .i64 t2, .int .i64 t3, .int .i64 t4, .int .i64 t5, .int .i64 t6, .int .i64 t7, .int .i64 t8], .pointer (some ⟨bv, 0, none⟩), .pointer (some ⟨bv, 0, none⟩), .pointer (some ⟨bv, 8, none⟩), .agg #[.int .i64 x, .int .i64 y], .tuple #[.agg #[.int .i64 z1, .int .i64 z2], .bool zb], .agg #[.int .i64 z1, .int .i64 z2], .bool zb, s33, s34, s35, s36, s37, s38], defers := dd } w') :
    Code.wpIn (wideAt none) 0 Tryd.prog why4C Q { tmps := #[s0, s1, s2, s3, s4, s5, .pointer (some ⟨b6, 0, none⟩), .pointer (some ⟨b7, 0, none⟩), s8, s9, s10, s11, s12, s13, s14, s15, s16, s17, s18, s19, s20, s21, s22, s23, s24, s25, s26, s27, s28, s29, s30, s31, s32, s33, s34, s35, s36, s37, s38], defers := dd } W1 := by
  have HQ := Lib.hid hQ
  clear hQ
  conv => arg 4; whnf
  refine wpIn_region_invG mixed (by kernel_rfl) (fun d_ a_ w' => ∃ (x24 : Value) (x25 : Value) (x26 : Value) (x27 : Value) (x28 : Value) (x29 : Value) (x30 : Value) (x23 : Value) (x31 : Value) (x32 : Value) (x8 : Value) (x9 : Value) (ms : Nat) (u1 : Unit), a_ = { tmps := #[s0, s1, s2, s3, s4, s5, .pointer (some ⟨b6, 0, none⟩), .pointer (some ⟨b7, 0, none⟩), x8, x9, s10, s11, s12, s13, s14, s15, s16, s17, s18, s19, s20, s21, s22, x23, x24, x25, x26, x27, x28, x29, x30, x31, x32, s33, s34, s35, s36, s37, s38], defers := dd } ∧ why4F bv b6 b7 x y z1 z2 zb t0 t1 t2 t3 t4 t5 t6 t7 t8 S0 S1 S2 d_ x24 x25 x26 x27 x28 x29 x30 x23 x31 x32 x8 x9 ms u1 w') ?_ ?_ ?_
  · refine ⟨s24, s25, s26, s27, s28, s29, s30, s23, s31, s32, s8, s9, 0, default, rfl, ?_⟩
    constructor <;> first | rfl | (intro _; rfl) | (intro h; cases h; done) | (intro _; exact h0) | exact h0
  · refine ⟨?_, ?_, ?_, ?_, ?_, ?_, ?_, ?_, ?_, ?_, ?_, ?_, ?_, trivial⟩
    all_goals
      rintro d_ a_ w1 K hd_ hdep ⟨x24, x25, x26, x27, x28, x29, x30, x23, x31, x32, x8, x9, ms, u1, rfl, F⟩ HK
      simp [Region.binds] at hdep
    · have hst : S0 (d_ 10) ms w1 := by
        have n_ : d_ 6 = false := by
          cases e_ : d_ 6 with
          | false => rfl
          | true => have h2 := (F.q6 e_).1; rw [show d_ 0 = false from hd_] at h2; cases h2
        exact (F.st0 n_)
      have kk := kl0.out (d_ 10) ms w1 hst
      clear hst
      have HF : Hid (why4F bv b6 b7 x y z1 z2 zb t0 t1 t2 t3 t4 t5 t6 t7 t8 S0 S1 S2 (upd d_ 0) (.pointer (some ⟨bv, 0, none⟩)) x25 x26 x27 x28 x29 x30 x23 x31 x32 x8 x9 ms u1 w1) := ⟨F.q3, F.q4, F.q5, fun h => andM0 (F.q6 h) rfl, F.q7, F.q8, F.q9, fun h => andM0 (F.q11 h) rfl, fun h => andM0 (F.q12 h) rfl, fun _ => rfl, F.f1, F.f2, F.f3, F.f4, F.f5, F.f6, F.f7, F.f8, F.f9, F.f10, F.f12, F.st0, F.st1, F.st2, F.mz⟩
      clear F
      go_simp
      exact HK.out _ _ ⟨_, _, _, _, _, _, _, _, _, _, _, _, _, _, rfl, HF.out⟩
    · have hst : S0 (d_ 10) ms w1 := by
        have n_ : d_ 6 = false := by
          cases e_ : d_ 6 with
          | false => rfl
          | true => have h2 := (F.q6 e_).2.1; rw [show d_ 1 = false from hd_] at h2; cases h2
        exact (F.st0 n_)
      have kk := kl1.out (d_ 10) ms w1 hst
      obtain ⟨kk0, kk1, kk2, kk3, kk4, kk5, kk6, kk7, kk8⟩ := kk
      clear hst
      have HF : Hid (why4F bv b6 b7 x y z1 z2 zb t0 t1 t2 t3 t4 t5 t6 t7 t8 S0 S1 S2 (upd d_ 1) x24 (.agg #[.int .i64 t0, .int .i64 t1, .int .i64 t2, .int .i64 t3, .int .i64 t4, .int .i64 t5, .int .i64 t6, .int .i64 t7, .int .i64 t8]) x26 x27 x28 x29 x30 x23 x31 x32 x8 x9 ms u1 w1) := ⟨F.q3, F.q4, F.q5, fun h => andM1 (F.q6 h) rfl, F.q7, F.q8, F.q9, fun h => andM1 (F.q11 h) rfl, fun h => andM1 (F.q12 h) rfl, F.f0, fun _ => rfl, F.f2, F.f3, F.f4, F.f5, F.f6, F.f7, F.f8, F.f9, F.f10, F.f12, F.st0, F.st1, F.st2, F.mz⟩
      clear F
      go_simp
      exact HK.out _ _ ⟨_, _, _, _, _, _, _, _, _, _, _, _, _, _, rfl, HF.out⟩
    · have hst : S0 (d_ 10) ms w1 := by
        have n_ : d_ 6 = false := by
          cases e_ : d_ 6 with
          | false => rfl
          | true => have h2 := (F.q3 (F.q4 (F.q5 (F.q6 e_).2.2))); rw [show d_ 2 = false from hd_] at h2; cases h2
        exact (F.st0 n_)
      have kk := kl2.out (d_ 10) ms w1 hst
      clear hst
      have HF : Hid (why4F bv b6 b7 x y z1 z2 zb t0 t1 t2 t3 t4 t5 t6 t7 t8 S0 S1 S2 (upd d_ 2) x24 x25 (.pointer (some ⟨bv, 0, none⟩)) x27 x28 x29 x30 x23 x31 x32 x8 x9 ms u1 w1) := ⟨fun h => rfl, F.q4, F.q5, F.q6, F.q7, F.q8, F.q9, fun h => andM2 (F.q11 h) rfl, fun h => andM2 (F.q12 h) rfl, F.f0, F.f1, fun _ => rfl, F.f3, F.f4, F.f5, F.f6, F.f7, F.f8, F.f9, F.f10, F.f12, F.st0, F.st1, F.st2, F.mz⟩
      clear F
      go_simp
      exact HK.out _ _ ⟨_, _, _, _, _, _, _, _, _, _, _, _, _, _, rfl, HF.out⟩
    · obtain rfl := F.f2 (by simp [hdep])
      have HF : Hid (why4F bv b6 b7 x y z1 z2 zb t0 t1 t2 t3 t4 t5 t6 t7 t8 S0 S1 S2 (upd d_ 3) x24 x25 (.pointer (some ⟨bv, 0, none⟩)) (.pointer (some ⟨bv, 0, none⟩)) x28 x29 x30 x23 x31 x32 x8 x9 ms u1 w1) := ⟨fun _ => (show _ from (by simp [hdep] : d_ 2 = true)), fun h => rfl, F.q5, F.q6, F.q7, F.q8, F.q9, fun h => andM3 (F.q11 h) rfl, fun h => andM3 (F.q12 h) rfl, F.f0, F.f1, F.f2, fun _ => rfl, F.f4, F.f5, F.f6, F.f7, F.f8, F.f9, F.f10, F.f12, F.st0, F.st1, F.st2, F.mz⟩
      clear F
      go_simp
      exact HK.out _ _ ⟨_, _, _, _, _, _, _, _, _, _, _, _, _, _, rfl, HF.out⟩
    · obtain rfl := F.f3 (by simp [hdep])
      have HF : Hid (why4F bv b6 b7 x y z1 z2 zb t0 t1 t2 t3 t4 t5 t6 t7 t8 S0 S1 S2 (upd d_ 4) x24 x25 x26 (.pointer (some ⟨bv, 0, none⟩)) (.pointer (some ⟨bv, 8, none⟩)) x29 x30 x23 x31 x32 x8 x9 ms u1 w1) := ⟨F.q3, fun _ => (show _ from (by simp [hdep] : d_ 3 = true)), fun h => rfl, F.q6, F.q7, F.q8, F.q9, fun h => andM4 (F.q11 h) rfl, fun h => andM4 (F.q12 h) rfl, F.f0, F.f1, F.f2, F.f3, fun _ => rfl, F.f5, F.f6, F.f7, F.f8, F.f9, F.f10, F.f12, F.st0, F.st1, F.st2, F.mz⟩
      clear F
      go_simp
      exact HK.out _ _ ⟨_, _, _, _, _, _, _, _, _, _, _, _, _, _, rfl, HF.out⟩
    · have hst : S0 (d_ 10) ms w1 := by
        have n_ : d_ 6 = false := by
          cases e_ : d_ 6 with
          | false => rfl
          | true => have h2 := (F.q6 e_).2.2; rw [show d_ 5 = false from hd_] at h2; cases h2
        exact (F.st0 n_)
      have kk := kl5.out (d_ 10) ms w1 hst
      obtain ⟨kk0, kk1⟩ := kk
      clear hst
      obtain rfl := F.f4 (by simp [hdep])
      have HF : Hid (why4F bv b6 b7 x y z1 z2 zb t0 t1 t2 t3 t4 t5 t6 t7 t8 S0 S1 S2 (upd d_ 5) x24 x25 x26 x27 (.pointer (some ⟨bv, 8, none⟩)) (.agg #[.int .i64 x, .int .i64 y]) x30 x23 x31 x32 x8 x9 ms u1 w1) := ⟨F.q3, F.q4, fun _ => (show _ from (by simp [hdep] : d_ 4 = true)), fun h => andL2 (F.q6 h) rfl, F.q7, F.q8, F.q9, fun h => andM5 (F.q11 h) rfl, fun h => andM5 (F.q12 h) rfl, F.f0, F.f1, F.f2, F.f3, F.f4, fun _ => rfl, F.f6, F.f7, F.f8, F.f9, F.f10, F.f12, F.st0, F.st1, F.st2, F.mz⟩
      clear F
      go_simp
      exact HK.out _ _ ⟨_, _, _, _, _, _, _, _, _, _, _, _, _, _, rfl, HF.out⟩
    · have hS := F.st0  hd_
      obtain rfl := F.f0 (by simp [hdep])
      obtain rfl := F.f1 (by simp [hdep])
      obtain rfl := F.f5 (by simp [hdep])
      have hc := kc6.out (d_ 10) ms w1 hS
      have HF := Lib.hid F
      clear F
      go_simp
      refine ⟨trivial, rfl, wideAt_calls (hc.mono ?_)⟩
      rintro e w5 ⟨v_, rfl, hres⟩
      exact HK.out _ _ ⟨_, _, _, _, _, _, _, _, _, _, _, _, ms, v_, rfl, ⟨HF.out.q3, HF.out.q4, HF.out.q5, fun _ => ⟨(show _ from (by simp [hdep] : d_ 0 = true)), (show _ from (by simp [hdep] : d_ 1 = true)), (show _ from (by simp [hdep] : d_ 5 = true))⟩, fun h => rfl, HF.out.q8, HF.out.q9, fun h => ⟨(HF.out.q11 h).1, (HF.out.q11 h).2.1, (HF.out.q11 h).2.2.1, (HF.out.q11 h).2.2.2.1, (HF.out.q11 h).2.2.2.2.1, (HF.out.q11 h).2.2.2.2.2.1, rfl, (HF.out.q11 h).2.2.2.2.2.2.2.1, (HF.out.q11 h).2.2.2.2.2.2.2.2.1, (HF.out.q11 h).2.2.2.2.2.2.2.2.2⟩, fun h => ⟨(HF.out.q12 h).1, (HF.out.q12 h).2.1, (HF.out.q12 h).2.2.1, (HF.out.q12 h).2.2.2.1, (HF.out.q12 h).2.2.2.2.1, (HF.out.q12 h).2.2.2.2.2.1, rfl, (HF.out.q12 h).2.2.2.2.2.2.2.1, (HF.out.q12 h).2.2.2.2.2.2.2.2.1, (HF.out.q12 h).2.2.2.2.2.2.2.2.2.1, (HF.out.q12 h).2.2.2.2.2.2.2.2.2.2.1, (HF.out.q12 h).2.2.2.2.2.2.2.2.2.2.2⟩, HF.out.f0, HF.out.f1, HF.out.f2, HF.out.f3, HF.out.f4, HF.out.f5, fun _ => rfl, HF.out.f7, HF.out.f8, HF.out.f9, HF.out.f10, HF.out.f12, fun h => (by simp [upd] at h), fun _ _ => hres, fun h => (by have h2 : d_ 6 = true := (HF.out.q11 h).2.2.2.2.2.2.1; rw [show d_ 6 = false from hd_] at h2; cases h2), HF.out.mz⟩⟩
    · obtain rfl := F.f6 (by simp [hdep])
      have HF : Hid (why4F bv b6 b7 x y z1 z2 zb t0 t1 t2 t3 t4 t5 t6 t7 t8 S0 S1 S2 (upd d_ 7) x24 x25 x26 x27 x28 x29 (.tuple #[.agg #[.int .i64 z1, .int .i64 z2], .bool zb]) (.tuple #[.agg #[.int .i64 z1, .int .i64 z2], .bool zb]) x31 x32 x8 x9 ms u1 w1) := ⟨F.q3, F.q4, F.q5, F.q6, fun _ => (show _ from (by simp [hdep] : d_ 6 = true)), fun h => rfl, fun h => rfl, fun h => andM7 (F.q11 h) rfl, fun h => andM7 (F.q12 h) rfl, F.f0, F.f1, F.f2, F.f3, F.f4, F.f5, F.f6, fun _ => rfl, F.f8, F.f9, F.f10, F.f12, F.st0, F.st1, F.st2, F.mz⟩
      clear F
      go_simp
      exact HK.out _ _ ⟨_, _, _, _, _, _, _, _, _, _, _, _, _, _, rfl, HF.out⟩
    · obtain rfl := F.f7 (by simp [hdep])
      have HF : Hid (why4F bv b6 b7 x y z1 z2 zb t0 t1 t2 t3 t4 t5 t6 t7 t8 S0 S1 S2 (upd d_ 8) x24 x25 x26 x27 x28 x29 x30 (.tuple #[.agg #[.int .i64 z1, .int .i64 z2], .bool zb]) (.agg #[.int .i64 z1, .int .i64 z2]) x32 x8 x9 ms u1 w1) := ⟨F.q3, F.q4, F.q5, F.q6, F.q7, fun _ => (show _ from (by simp [hdep] : d_ 7 = true)), F.q9, fun h => andM8 (F.q11 h) rfl, fun h => andM8 (F.q12 h) rfl, F.f0, F.f1, F.f2, F.f3, F.f4, F.f5, F.f6, F.f7, fun _ => rfl, F.f9, F.f10, F.f12, F.st0, F.st1, F.st2, F.mz⟩
      clear F
      go_simp
      exact HK.out _ _ ⟨_, _, _, _, _, _, _, _, _, _, _, _, _, _, rfl, HF.out⟩
    · obtain rfl := F.f7 (by simp [hdep])
      have HF : Hid (why4F bv b6 b7 x y z1 z2 zb t0 t1 t2 t3 t4 t5 t6 t7 t8 S0 S1 S2 (upd d_ 9) x24 x25 x26 x27 x28 x29 x30 (.tuple #[.agg #[.int .i64 z1, .int .i64 z2], .bool zb]) x31 (.bool zb) x8 x9 ms u1 w1) := ⟨F.q3, F.q4, F.q5, F.q6, F.q7, F.q8, fun _ => (show _ from (by simp [hdep] : d_ 7 = true)), F.q11, fun h => andM9 (F.q12 h) rfl, F.f0, F.f1, F.f2, F.f3, F.f4, F.f5, F.f6, F.f7, F.f8, fun _ => rfl, F.f10, F.f12, F.st0, F.st1, F.st2, F.mz⟩
      clear F
      go_simp
      exact HK.out _ _ ⟨_, _, _, _, _, _, _, _, _, _, _, _, _, _, rfl, HF.out⟩
    · have HF : Hid (why4F bv b6 b7 x y z1 z2 zb t0 t1 t2 t3 t4 t5 t6 t7 t8 S0 S1 S2 (upd d_ 10) x24 x25 x26 x27 x28 x29 x30 x23 x31 x32 (.pointer (some ⟨w1.heap.size, 0, none⟩)) x9 w1.heap.size u1 (w1.alloc (.cells #[.int .i64 0, .int .i64 0] 42))) := ⟨F.q3, F.q4, F.q5, F.q6, F.q7, F.q8, F.q9, fun h => andL9 (F.q11 h) rfl, fun h => andM10 (F.q12 h) rfl, F.f0, F.f1, F.f2, F.f3, F.f4, F.f5, F.f6, F.f7, F.f8, F.f9, fun _ => rfl, F.f12, fun b => ks0.out w1 (by have h := F.st0 b; rw [show d_ 10 = false from hd_, F.mz hd_] at h; exact h), fun a b => ks1.out u1 w1 (by have h := F.st1 a b; rw [show d_ 10 = false from hd_, F.mz hd_] at h; exact h), fun a => (by have h2 : d_ 10 = true := (F.q11 a).2.2.2.2.2.2.2.2.2; rw [show d_ 10 = false from hd_] at h2; cases h2), fun h => (by simp [upd] at h)⟩
      clear F
      go_simp
      exact HK.out _ _ ⟨_, _, _, _, _, _, _, _, _, _, _, _, _, _, rfl, HF.out⟩
    · have hS := F.st1 (by simp [hdep] : d_ 6 = true) hd_
      rw [show d_ 10 = true from (by simp [hdep] : d_ 10 = true)] at hS
      obtain rfl := F.f8 (by simp [hdep])
      obtain rfl := F.f10 (by simp [hdep])
      obtain ⟨⟨ku0, kcell0⟩, kfr0, ⟨ku1, kcell1⟩, kfr1, hres⟩ := kc11.out ms u1 w1 hS
      have HF : Hid (why4F bv b6 b7 x y z1 z2 zb t0 t1 t2 t3 t4 t5 t6 t7 t8 S0 S1 S2 (upd d_ 11) x24 x25 x26 x27 x28 x29 x30 x23 (.agg #[.int .i64 z1, .int .i64 z2]) x32 (.pointer (some ⟨ms, 0, none⟩)) x9 ms u1 ((w1.setCell ⟨ms, 0, none⟩ (.int .i64 z1)).setCell ⟨ms, 1, none⟩ (.int .i64 z2))) := ⟨F.q3, F.q4, F.q5, F.q6, F.q7, F.q8, F.q9, fun _ => ⟨(show _ from (by simp [hdep] : d_ 0 = true)), (show _ from (by simp [hdep] : d_ 1 = true)), (show _ from (by simp [hdep] : d_ 2 = true)), (show _ from (by simp [hdep] : d_ 3 = true)), (show _ from (by simp [hdep] : d_ 4 = true)), (show _ from (by simp [hdep] : d_ 5 = true)), (show _ from (by simp [hdep] : d_ 6 = true)), (show _ from (by simp [hdep] : d_ 7 = true)), (show _ from (by simp [hdep] : d_ 8 = true)), (show _ from (by simp [hdep] : d_ 10 = true))⟩, fun h => andL11 (F.q12 h) rfl, F.f0, F.f1, F.f2, F.f3, F.f4, F.f5, F.f6, F.f7, F.f8, F.f9, F.f10, F.f12, fun h => (by have h2 : d_ 6 = false := h; rw [(by simp [hdep] : d_ 6 = true)] at h2; cases h2), fun _ h => (by simp [upd] at h), fun _ => (by rw [show upd d_ 11 10 = true from (by simp [hdep] : d_ 10 = true)]; exact hres), F.mz⟩
      clear F hS hres
      go_simp
      exact HK.out _ _ ⟨_, _, _, _, _, _, _, _, _, _, _, _, _, _, rfl, HF.out⟩
    · obtain rfl := F.f9 (by simp [hdep])
      have HF : Hid (why4F bv b6 b7 x y z1 z2 zb t0 t1 t2 t3 t4 t5 t6 t7 t8 S0 S1 S2 (upd d_ 12) x24 x25 x26 x27 x28 x29 x30 x23 x31 (.bool zb) x8 (.bool zb) ms u1 w1) := ⟨F.q3, F.q4, F.q5, F.q6, F.q7, F.q8, F.q9, F.q11, fun _ => ⟨(show _ from (by simp [hdep] : d_ 0 = true)), (show _ from (by simp [hdep] : d_ 1 = true)), (show _ from (by simp [hdep] : d_ 2 = true)), (show _ from (by simp [hdep] : d_ 3 = true)), (show _ from (by simp [hdep] : d_ 4 = true)), (show _ from (by simp [hdep] : d_ 5 = true)), (show _ from (by simp [hdep] : d_ 6 = true)), (show _ from (by simp [hdep] : d_ 7 = true)), (show _ from (by simp [hdep] : d_ 8 = true)), (show _ from (by simp [hdep] : d_ 9 = true)), (show _ from (by simp [hdep] : d_ 10 = true)), (show _ from (by simp [hdep] : d_ 11 = true))⟩, F.f0, F.f1, F.f2, F.f3, F.f4, F.f5, F.f6, F.f7, F.f8, F.f9, F.f10, fun _ => rfl, F.st0, F.st1, F.st2, F.mz⟩
      clear F
      go_simp
      exact HK.out _ _ ⟨_, _, _, _, _, _, _, _, _, _, _, _, _, _, rfl, HF.out⟩
  · rintro d_ a_ w1 hall ⟨x24, x25, x26, x27, x28, x29, x30, x23, x31, x32, x8, x9, ms, u1, rfl, F⟩
    have hall' : ∀ k, k < 13 → d_ k = true := hall
    obtain rfl := F.f0 (hall' 0 (by decide))
    obtain rfl := F.f1 (hall' 1 (by decide))
    obtain rfl := F.f2 (hall' 2 (by decide))
    obtain rfl := F.f3 (hall' 3 (by decide))
    obtain rfl := F.f4 (hall' 4 (by decide))
    obtain rfl := F.f5 (hall' 5 (by decide))
    obtain rfl := F.f6 (hall' 6 (by decide))
    obtain rfl := F.f7 (hall' 7 (by decide))
    obtain rfl := F.f8 (hall' 8 (by decide))
    obtain rfl := F.f9 (hall' 9 (by decide))
    obtain rfl := F.f10 (hall' 10 (by decide))
    obtain rfl := F.f12 (hall' 12 (by decide))
    have hst := F.st2 (hall' 11 (by decide))
    rw [show d_ 10 = true from hall' 10 (by decide)] at hst
    exact HQ.out ms u1 w1 hst
set_option maxRecDepth 100000 in
set_option maxHeartbeats 4000000 in
theorem pshift10 {p : Par} {a : Option Addr} {c k : Nat} {w : World} (hv : p.valid = true) (ha : IsThs w a p.things) (hk : k < p.things.length) :
    Calls Tryd.prog 10 #[p.v a c, .int .i64 k] w fun e w' => e = .returned (.tuple #[(gt p.things k).shift.v, .int .i64 0]) ∧ Below w.heap.size w w' := by
  have HN := Lib.hid (nums_of hv)
  have hl : p.things.length ≤ 1000000 := by have := HN.out.len; omega
  have HX := Lib.hid (alloc3 w (p.arr a c) #[.int .i64 0, .int .i64 0] #[.int .i64 0] 40 24 32 _ rfl)
  have HT := Lib.hid (And.intro (ha.mono HX.out.2.2.2) HX.out.2.2.2.size)
  have HV := Lib.hid (And.intro hv hk)
  clear ha hv hk
  refine calls_of_wp_x Tryd.func10 rfl ?_
  simp only [Tryd.ntmps10, List.size_toArray, List.length_cons, List.length_nil, Nat.reduceAdd, Nat.reduceSub, Array.replicate_succ, Array.replicate_zero, List.push_toArray, List.append_toArray, List.nil_append, List.cons_append]
  conv => arg 2; whnf
  refine wp_seq_hid ?_
  intro K0 HK0
  go_wp2_with fail
  refine HK0.out _ _ ?_
  clear HK0 K0
  revert HX HT
  generalize ((w.alloc (.cells (p.arr a c) 40)).alloc (.cells #[.int .i64 0, .int .i64 0] 24)).alloc (.cells #[.int .i64 0] 32) = w1
  generalize hbe : w.heap.size + 2 = be
  generalize hbs : w.heap.size + 1 = bs
  generalize hbp : w.heap.size = bp
  intro HX HT
  refine wp_seq_hid ?_
  intro K1 HK1
  go_wp2_with fail
  refine HK1.out _ _ ?_
  clear HK1 K1
  have HA : Hid (bp ≤ bs ∧ bp ≤ be ∧ bs ≠ be) := ⟨by omega, by omega, by omega⟩
  clear hbe hbs hbp
  have HI := Lib.hid (World.alloc_heap_new w1 (.cells #[.int .i64 k] 3))
  have HIB := Lib.hid (alloc_below w1 (.cells #[.int .i64 k] 3))
  obtain ⟨k0, k1, k2, k3, k4, k5, k6, k7⟩ := par_cells HX.out.1
  have HIN : Hid (IsInts (w1.alloc (.cells #[.int .i64 k] 3)) (some ⟨w1.heap.size, 0, none⟩) [(k : Int)]) := fun i hi => by
    have h0 : i = 0 := by simpa using hi
    subst h0
    exact ⟨w1.heap.size, 0, rfl, by rw [cell_of_heap HI.out]; rfl⟩
  have HOK : Hid (okN p [(k : Int)] = true) := by
    have := HV.out.2
    simp [Hid, okN, inR]
    omega
  refine wp_seq_hid ?_
  intro K2 HK2
  go_wp2_with fail
  refine (open40 (l := [(k : Int)]) (HT.out.1.mono HIB.out) hl HIN.out (by simp)).mono ?_
  clear k0 k1 k2 k3 k4 k5 k6 k7
  rintro e w2 ⟨hb, (⟨hz, _⟩ | ⟨_, hz, _⟩ | ⟨_, _, bv, rfl, hbv, hV⟩)⟩
  · rw [HV.out.1] at hz
    cases hz
  · rw [HOK.out] at hz
    cases hz
  · have HB := Lib.hid (HIB.out.trans (hb.mono HIB.out.size))
    clear hb HI HIB HIN hbv
    have HS := Lib.hid ((HB.out.block _ (heap_lt HX.out.2.1)).trans HX.out.2.1)
    have HE := Lib.hid ((HB.out.block _ (heap_lt HX.out.2.2.1)).trans HX.out.2.2.1)
    have HBB := Lib.hid (And.intro (HX.out.2.2.2.trans (HB.out.mono HT.out.2)) (Nat.le_trans HT.out.2 HB.out.size))
    have HS2 := Lib.hid (thg_small (HN.out.things _ (gt_mem HV.out.2)) (by have := HN.out.n1; omega) HN.out.n3)
    obtain ⟨b, off, hab, c0, c1, c2, c3, c4, c5, c6, c7, c8⟩ := hV.things k HV.out.2
    have v7 : w2.cell? ⟨bv, 7, none⟩ = some (.slice a p.things.length c) := by rw [cell_of_heap hV.h]; rfl
    subst hab
    have hkl := HV.out.2
    clear hV
    have HGT : Hid (∀ t, gt p.things k = t → gt p.things k = t) := fun _ h => h
    obtain ⟨t, ht⟩ : ∃ t, gt p.things k = t := ⟨_, rfl⟩
    rw [ht] at HS2 c0 c1 c2 c3 c4 c5 c6 c7 c8
    have HG := Lib.hid ht
    clear ht HGT
    go_wp2_with fail
    refine (shift44 t HS2.out _).mono ?_
    clear c0 c1 c2 c3 c4 c5 c6 c7 c8 v7
    rintro e w3 ⟨rfl, hb⟩
    have HS3 := Lib.hid ((hb.block _ (heap_lt HS.out)).trans HS.out)
    have HE3 := Lib.hid ((hb.block _ (heap_lt HE.out)).trans HE.out)
    have HB3 := Lib.hid (HBB.out.1.trans (hb.mono HBB.out.2))
    clear hb
    have s0 : w3.cell? ⟨bs, 0, none⟩ = some (.int .i64 0) := by rw [cell_of_heap HS3.out]; rfl
    have s1 : w3.cell? ⟨bs, 1, none⟩ = some (.int .i64 0) := by rw [cell_of_heap HS3.out]; rfl
    have f0 : ∀ k, w3.frozen? ⟨bs, k, none⟩ = false := fun k => frozen_of_heap HS3.out
    have e0 : w3.cell? ⟨be, 0, none⟩ = some (.int .i64 0) := by rw [cell_of_heap HE3.out]; rfl
    have f1 : ∀ k, w3.frozen? ⟨be, k, none⟩ = false := fun k => frozen_of_heap HE3.out
    have hne : bs ≠ be := HA.out.2.2
    go_wp2_with fail
    refine HK2.out _ _ ?_
    go_wp2_with fail
    obtain ⟨p1, p2, p3⟩ := door_put t.shift 0 HS3.out HE3.out hne HB3.out HA.out.1 HA.out.2.1
    exact door_ok (res_c2e (x := .int .i64 t.shift.lo) (y := .int .i64 t.shift.hi) rfl _ rfl rfl (by rw [cell_of_heap p1]; rfl) (by rw [cell_of_heap p1]; rfl) (by rw [cell_of_heap p2]; rfl)) ⟨by rw [HG.out]; rfl, p3⟩
/-- The reasons. -/
def Par.rsn (p : Par) (t : Thg) (q : Spn) : Nat → Bool
  | 0 => !p.level t
  | 1 => decide (t.shift.hi < 0)
  | 2 => decide (2000 < t.shift.lo) || decide (q.hi < t.shift.lo * p.near)
  | _ => true
structure WhyC (p : Par) (t : Thg) : Prop where
  ht : t.Sm
  hp : 0 ≤ p.tilt ∧ p.tilt ≤ 1000
  hn : 0 ≤ p.near ∧ p.near ≤ 1073741824
set_option maxRecDepth 100000 in
set_option maxHeartbeats 4000000 in
theorem rsn44 {p : Par} {a : Option Addr} {c bv : Nat} {q : Spn} {t : Thg} {w : World} (hc : WhyC p t) (hV : IsView w bv p a c q) : Calls Tryd.prog 44 #[.pointer (some ⟨bv, 0, none⟩), t.v] w fun e w' => e = .returned (.bool (p.rsn t q 0)) ∧ Below w.heap.size w w' := by
  have HX := Lib.hid (And.intro (World.alloc_heap_new w (.cells t.arr 46)) (alloc_below w (.cells t.arr 46)))
  have HC := Lib.hid hc
  have HV := Lib.hid (hV.mono HX.out.2)
  clear hc hV
  go_enter Tryd.func44, Tryd.ntmps44
  refine wp_seq_hid ?_
  intro K0 HK0
  go_wp2_with fail
  refine HK0.out _ _ ?_
  clear HK0 K0
  revert HX HV
  generalize w.alloc (.cells t.arr 46) = w1
  intro HX HV
  obtain ⟨c0, c1, c2, c3, c4, c5, c6, c7, c8⟩ := thg_cells HX.out.1
  go_wp2_with fail
  refine (level42 HC.out.ht HC.out.hp HV.out).mono ?_
  rintro e w2 ⟨rfl, hb⟩
  have HB := Lib.hid (HX.out.2.trans (hb.mono HX.out.2.size))
  clear hb c0 c1 c2 c3 c4 c5 c6 c7 c8
  go_wp2_with fail
  go_ret
  exact ⟨rfl, HB.out⟩
set_option maxRecDepth 100000 in
set_option maxHeartbeats 4000000 in
theorem rsn45 {p : Par} {bv : Nat} {q : Spn} {t : Thg} {w : World} (hc : WhyC p t) : Calls Tryd.prog 45 #[.pointer (some ⟨bv, 0, none⟩), t.v] w fun e w' => e = .returned (.bool (p.rsn t q 1)) ∧ Below w.heap.size w w' := by
  have HX := Lib.hid (And.intro (World.alloc_heap_new w (.cells t.arr 46)) (alloc_below w (.cells t.arr 46)))
  have HC := Lib.hid hc
  have hf : ∀ w, (Instr.field 24 t.shift.v 1).run Tryd.prog w = .ok (.int .i64 t.shift.hi) w := fun _ => by kernel_rfl
  clear hc
  go_enter Tryd.func45, Tryd.ntmps45
  refine wp_seq_hid ?_
  intro K0 HK0
  go_wp2_with fail
  refine HK0.out _ _ ?_
  clear HK0 K0
  revert HX
  generalize w.alloc (.cells t.arr 46) = w1
  intro HX
  obtain ⟨c0, c1, c2, c3, c4, c5, c6, c7, c8⟩ := thg_cells HX.out.1
  go_wp2_with fail
  refine (shift44 t HC.out.ht _).mono ?_
  rintro e w2 ⟨rfl, hb⟩
  have HB := Lib.hid (HX.out.2.trans (hb.mono HX.out.2.size))
  clear hb c0 c1 c2 c3 c4 c5 c6 c7 c8
  go_wp2_with fail
  go_ret
  exact ⟨rfl, HB.out⟩
theorem rsn47 {p : Par} {bv : Nat} {q : Spn} {t : Thg} (w : World) : Calls Tryd.prog 47 #[.pointer (some ⟨bv, 0, none⟩), t.v] w fun e w' => e = .returned (.bool (p.rsn t q 3)) ∧ Below w.heap.size w w' := by
  have HX := Lib.hid (alloc_below w (.cells t.arr 46))
  go_enter Tryd.func47, Tryd.ntmps47
  go_wp2_with fail
  go_ret
  exact ⟨rfl, HX.out⟩
end Go.Proofs.YtbnhngfegnhaiaaDoor
namespace Go.Proofs.YtbnhngfegnhaiaaDoor
open Go.RowKit
set_option linter.unusedVariables false
set_option linter.unusedSimpArgs false
theorem view_aft {w : World} {bv : Nat} {p : Par} {a : Option Addr} {c : Nat} {q : Spn} (hV : IsView w bv p a c q) : (∀ x : Aft w.heap.size w, x.v.cell? ⟨bv, 5, none⟩ = some (.int .i64 p.near)) ∧ (∀ x : Aft w.heap.size w, x.v.cell? ⟨bv, 9, none⟩ = some (.int .i64 q.hi)) :=
  ⟨fun x => by rw [cell_of_heap (hV.mono x.h).h]; rfl, fun x => by rw [cell_of_heap (hV.mono x.h).h]; rfl⟩
theorem shift_bd {t : Thg} (h : t.Sm) : -8000 ≤ t.shift.lo ∧ t.shift.lo ≤ 8000 := by
  have h1 := h.a
  have h2 := h.f
  unfold Thg.shift
  simp only
  omega
set_option maxRecDepth 100000 in
set_option maxHeartbeats 4000000 in
theorem rsn46 {p : Par} {a : Option Addr} {c bv : Nat} {q : Spn} {t : Thg} {w : World} (hc : WhyC p t) (hV : IsView w bv p a c q) : Calls Tryd.prog 46 #[.pointer (some ⟨bv, 0, none⟩), t.v] w fun e w' => e = .returned (.bool (p.rsn t q 2)) ∧ Below w.heap.size w w' := by
  have HX := Lib.hid (And.intro (World.alloc_heap_new w (.cells t.arr 46)) (alloc_below w (.cells t.arr 46)))
  have HC := Lib.hid hc
  have HV := Lib.hid (hV.mono HX.out.2)
  have hf : ∀ w, (Instr.field 24 t.shift.v 0).run Tryd.prog w = .ok (.int .i64 t.shift.lo) w := fun _ => by kernel_rfl
  have HRS : Hid (p.rsn t q 2 = (decide (2000 < t.shift.lo) || decide (q.hi < t.shift.lo * p.near))) := rfl
  obtain ⟨sb1, sb2⟩ := shift_bd hc.ht
  have hw : IntKind.i64.wrap (t.shift.lo * p.near) = t.shift.lo * p.near := by
    have h1 := hc.hn
    refine IntWalk.i64_in _ ⟨?_, ?_⟩
    · have : -8000 * 1073741824 ≤ t.shift.lo * p.near := by
        rcases Int.le_total 0 t.shift.lo with h | h
        · have := Int.mul_nonneg h h1.1; omega
        · have h2 : (-t.shift.lo) * p.near ≤ 8000 * 1073741824 := Int.mul_le_mul (by omega) h1.2 h1.1 (by omega)
          rw [Int.neg_mul] at h2
          omega
      omega
    · have : t.shift.lo * p.near ≤ 8000 * 1073741824 := by
        rcases Int.le_total 0 t.shift.lo with h | h
        · exact Int.mul_le_mul (by omega) h1.2 h1.1 (by omega)
        · have := Int.mul_nonneg (show 0 ≤ -t.shift.lo by omega) h1.1
          rw [Int.neg_mul] at this
          omega
      omega
  have HW := Lib.hid hw
  clear hc hV hw sb1 sb2
  go_enter Tryd.func46, Tryd.ntmps46
  refine wp_seq_hid ?_
  intro K0 HK0
  go_wp2_with fail
  refine HK0.out _ _ ?_
  clear HK0 K0
  revert HX HV
  generalize w.alloc (.cells t.arr 46) = w1
  intro HX HV
  obtain ⟨c0, c1, c2, c3, c4, c5, c6, c7, c8⟩ := thg_cells HX.out.1
  refine wp_seq_hid ?_
  intro K1 HK1
  go_wp2_with fail
  refine (shift44 t HC.out.ht _).mono ?_
  rintro e w2 ⟨rfl, hb⟩
  have HB := Lib.hid (HX.out.2.trans (hb.mono HX.out.2.size))
  obtain ⟨v5, v9⟩ := view_aft (HV.out.mono hb)
  clear hb c0 c1 c2 c3 c4 c5 c6 c7 c8
  go_wp2_with fail
  clear hf
  refine HK1.out _ _ ?_
  clear HK1 K1
  have hw := HW.out
  revert HRS hw
  generalize t.shift.lo = z
  intro HRS hw
  cases h1 : decide (2000 < z) with
  | true =>
    have HZ : Hid (p.rsn t q 2 = true) := by rw [Hid, HRS.out, h1]; rfl
    refine wp_seq_hid ?_
    intro K2 HK2
    refine wp_region_aft mixed (by kernel_rfl) ?_
    repeat (go_big_quiet_step (fail))
    refine wpQuiet_nil ?_
    rintro _ ⟨y, rfl⟩
    refine HK2.out _ _ ?_
    have HY := Lib.hid (HB.out.trans (y.h.mono HB.out.size))
    clear v5 v9 HK2
    obtain ⟨w3, hw3⟩ : ∃ w3, y.v = w3 := ⟨_, rfl⟩
    rw [hw3] at HY ⊢
    clear hw3
    go_wp2_with fail
    go_ret
    exact ⟨ret_bool HZ.out.symm, HY.out⟩
  | false =>
    cases h2 : decide (q.hi < z * p.near) with
    | true =>
      have HZ : Hid (p.rsn t q 2 = true) := by rw [Hid, HRS.out, h1, h2]; rfl
      refine wp_seq_hid ?_
      intro K2 HK2
      refine wp_region_aft mixed (by kernel_rfl) ?_
      repeat (go_big_quiet_step (fail))
      refine wpQuiet_nil ?_
      rintro _ ⟨y, rfl⟩
      refine HK2.out _ _ ?_
      have HY := Lib.hid (HB.out.trans (y.h.mono HB.out.size))
      clear v5 v9 HK2
      obtain ⟨w3, hw3⟩ : ∃ w3, y.v = w3 := ⟨_, rfl⟩
      rw [hw3] at HY ⊢
      clear hw3
      go_wp2_with fail
      go_ret
      exact ⟨ret_bool HZ.out.symm, HY.out⟩
    | false =>
      have HZ : Hid (p.rsn t q 2 = false) := by rw [Hid, HRS.out, h1, h2]; rfl
      refine wp_seq_hid ?_
      intro K2 HK2
      refine wp_region_aft mixed (by kernel_rfl) ?_
      repeat (go_big_quiet_step (fail))
      refine wpQuiet_nil ?_
      rintro _ ⟨y, rfl⟩
      refine HK2.out _ _ ?_
      have HY := Lib.hid (HB.out.trans (y.h.mono HB.out.size))
      clear v5 v9 HK2
      obtain ⟨w3, hw3⟩ : ∃ w3, y.v = w3 := ⟨_, rfl⟩
      rw [hw3] at HY ⊢
      clear hw3
      go_wp2_with fail
      go_ret
      exact ⟨ret_bool HZ.out.symm, HY.out⟩
/-- What the reasons look at. -/
def WhyM (w : World) (p : Par) (t : Thg) (q : Spn) (a : Option Addr) (c bv b6 b7 : Nat) : Prop :=
  WhyC p t ∧ w.heap[b6]? = some (.cells #[.pointer (some ⟨bv, 0, none⟩)] 87 (0, 0)) ∧ w.heap[b7]? = some (.cells t.arr 46 (0, 0)) ∧ IsView w bv p a c q
theorem WhyM.mono {w w' : World} {p : Par} {t : Thg} {q : Spn} {a : Option Addr} {c bv b6 b7 : Nat} (h : WhyM w p t q a c bv b6 b7) (hb : Below w.heap.size w w') : WhyM w' p t q a c bv b6 b7 :=
  ⟨h.1, (hb.block _ (heap_lt h.2.1)).trans h.2.1, (hb.block _ (heap_lt h.2.2.1)).trans h.2.2.1, h.2.2.2.mono hb⟩
theorem cf44 (args : Array Value) (w : World) : (callFunc 44 args).run Tryd.prog w = .ok (.enter 44 args) w := by simp [callFunc, Tryd.func44, Tryd.f44, go_sem]
set_option maxRecDepth 100000 in
set_option maxHeartbeats 4000000 in
theorem why49_0 {p : Par} {a : Option Addr} {c bv b6 b7 : Nat} {q : Spn} {t : Thg} {w : World} (h : WhyM w p t q a c bv b6 b7) : Calls Tryd.prog 49 #[.func (.func 44) #[] #[], .pointer (some ⟨b6, 0, none⟩), .pointer (some ⟨b7, 0, none⟩)] w fun e w' => e = .returned (.bool (p.rsn t q 0)) ∧ Below w.heap.size w w' := by
  have HC := Lib.hid h
  have cf := cf44
  have m6 : w.cell? ⟨b6, 0, none⟩ = some (.pointer (some ⟨bv, 0, none⟩)) := by rw [cell_of_heap h.2.1]; rfl
  obtain ⟨c0, c1, c2, c3, c4, c5, c6, c7, c8⟩ := thg_cells h.2.2.1
  clear h
  go_enter Tryd.func49, Tryd.ntmps49
  go_wp2_with fail
  refine (rsn44 HC.out.1 HC.out.2.2.2).mono ?_
  rintro e w2 ⟨rfl, hb⟩
  have HB := Lib.hid hb
  clear hb c0 c1 c2 c3 c4 c5 c6 c7 c8 m6 cf
  go_wp2_with fail
  go_ret
  exact ⟨rfl, HB.out⟩
theorem cf45 (args : Array Value) (w : World) : (callFunc 45 args).run Tryd.prog w = .ok (.enter 45 args) w := by simp [callFunc, Tryd.func45, Tryd.f45, go_sem]
set_option maxRecDepth 100000 in
set_option maxHeartbeats 4000000 in
theorem why49_1 {p : Par} {a : Option Addr} {c bv b6 b7 : Nat} {q : Spn} {t : Thg} {w : World} (h : WhyM w p t q a c bv b6 b7) : Calls Tryd.prog 49 #[.func (.func 45) #[] #[], .pointer (some ⟨b6, 0, none⟩), .pointer (some ⟨b7, 0, none⟩)] w fun e w' => e = .returned (.bool (p.rsn t q 1)) ∧ Below w.heap.size w w' := by
  have HC := Lib.hid h
  have cf := cf45
  have m6 : w.cell? ⟨b6, 0, none⟩ = some (.pointer (some ⟨bv, 0, none⟩)) := by rw [cell_of_heap h.2.1]; rfl
  obtain ⟨c0, c1, c2, c3, c4, c5, c6, c7, c8⟩ := thg_cells h.2.2.1
  clear h
  go_enter Tryd.func49, Tryd.ntmps49
  go_wp2_with fail
  refine (rsn45 (q := q) HC.out.1).mono ?_
  rintro e w2 ⟨rfl, hb⟩
  have HB := Lib.hid hb
  clear hb c0 c1 c2 c3 c4 c5 c6 c7 c8 m6 cf
  go_wp2_with fail
  go_ret
  exact ⟨rfl, HB.out⟩
theorem cf46 (args : Array Value) (w : World) : (callFunc 46 args).run Tryd.prog w = .ok (.enter 46 args) w := by simp [callFunc, Tryd.func46, Tryd.f46, go_sem]
set_option maxRecDepth 100000 in
set_option maxHeartbeats 4000000 in
theorem why49_2 {p : Par} {a : Option Addr} {c bv b6 b7 : Nat} {q : Spn} {t : Thg} {w : World} (h : WhyM w p t q a c bv b6 b7) : Calls Tryd.prog 49 #[.func (.func 46) #[] #[], .pointer (some ⟨b6, 0, none⟩), .pointer (some ⟨b7, 0, none⟩)] w fun e w' => e = .returned (.bool (p.rsn t q 2)) ∧ Below w.heap.size w w' := by
  have HC := Lib.hid h
  have cf := cf46
  have m6 : w.cell? ⟨b6, 0, none⟩ = some (.pointer (some ⟨bv, 0, none⟩)) := by rw [cell_of_heap h.2.1]; rfl
  obtain ⟨c0, c1, c2, c3, c4, c5, c6, c7, c8⟩ := thg_cells h.2.2.1
  clear h
  go_enter Tryd.func49, Tryd.ntmps49
  go_wp2_with fail
  refine (rsn46 HC.out.1 HC.out.2.2.2).mono ?_
  rintro e w2 ⟨rfl, hb⟩
  have HB := Lib.hid hb
  clear hb c0 c1 c2 c3 c4 c5 c6 c7 c8 m6 cf
  go_wp2_with fail
  go_ret
  exact ⟨rfl, HB.out⟩
theorem cf47 (args : Array Value) (w : World) : (callFunc 47 args).run Tryd.prog w = .ok (.enter 47 args) w := by simp [callFunc, Tryd.func47, Tryd.f47, go_sem]
set_option maxRecDepth 100000 in
set_option maxHeartbeats 4000000 in
theorem why49_3 {p : Par} {a : Option Addr} {c bv b6 b7 : Nat} {q : Spn} {t : Thg} {w : World} (h : WhyM w p t q a c bv b6 b7) : Calls Tryd.prog 49 #[.func (.func 47) #[] #[], .pointer (some ⟨b6, 0, none⟩), .pointer (some ⟨b7, 0, none⟩)] w fun e w' => e = .returned (.bool (p.rsn t q 3)) ∧ Below w.heap.size w w' := by
  have HC := Lib.hid h
  have cf := cf47
  have m6 : w.cell? ⟨b6, 0, none⟩ = some (.pointer (some ⟨bv, 0, none⟩)) := by rw [cell_of_heap h.2.1]; rfl
  obtain ⟨c0, c1, c2, c3, c4, c5, c6, c7, c8⟩ := thg_cells h.2.2.1
  clear h
  go_enter Tryd.func49, Tryd.ntmps49
  go_wp2_with fail
  refine (rsn47 (p := p) (q := q) _).mono ?_
  rintro e w2 ⟨rfl, hb⟩
  have HB := Lib.hid hb
  clear hb c0 c1 c2 c3 c4 c5 c6 c7 c8 m6 cf
  go_wp2_with fail
  go_ret
  exact ⟨rfl, HB.out⟩
theorem why49 {p : Par} {a : Option Addr} {c bv b6 b7 k : Nat} {q : Spn} {t : Thg} {w : World} (hk : k < 4) (h : WhyM w p t q a c bv b6 b7) : Calls Tryd.prog 49 #[.func (.func (44 + k)) #[] #[], .pointer (some ⟨b6, 0, none⟩), .pointer (some ⟨b7, 0, none⟩)] w fun e w' => e = .returned (.bool (p.rsn t q k)) ∧ Below w.heap.size w w' := by
  match k, hk with
  | 0, _ => exact why49_0 h
  | 1, _ => exact why49_1 h
  | 2, _ => exact why49_2 h
  | 3, _ => exact why49_3 h
  | k + 4, hk => exact absurd hk (by omega)
theorem cf49 (args : Array Value) (w : World) : (callFunc 49 args).run Tryd.prog w = .ok (.enter 49 args) w := by simp [callFunc, Tryd.func49, Tryd.f49, go_sem]
def rsnL : Array Value := #[.func (.func 44) #[] #[], .func (.func 45) #[] #[], .func (.func 46) #[] #[], .func (.func 47) #[] #[]]
theorem rsnL_at {w : World} {b k : Nat} (h : w.heap[b]? = some (.cells rsnL 99 (0, 0))) (hk : k < 4) : w.cell? ⟨b, k, none⟩ = some (.func (.func (44 + k)) #[] #[]) := by
  rw [cell_of_heap h]
  match k, hk with
  | 0, _ => rfl
  | 1, _ => rfl
  | 2, _ => rfl
  | 3, _ => rfl
  | k + 4, hk => exact absurd hk (by omega)
set_option maxRecDepth 100000 in
set_option maxHeartbeats 4000000 in
theorem idx48 {p : Par} {a : Option Addr} {c bv b6 b7 bf : Nat} {q : Spn} {t : Thg} {w : World} (h : WhyM w p t q a c bv b6 b7) (hf : w.heap[bf]? = some (.cells rsnL 99 (0, 0))) :
    Calls Tryd.prog 48 #[.slice (some ⟨bf, 0, none⟩) 4 4, .func (.func 49) #[] #[.pointer (some ⟨b6, 0, none⟩), .pointer (some ⟨b7, 0, none⟩)]] w fun e w' => (∃ k : Nat, k < 4 ∧ e = .returned (.int .i64 k) ∧ p.rsn t q k = true ∧ ∀ j, j < k → p.rsn t q j = false) ∧ Below w.heap.size w w' := by
  have HC := Lib.hid (And.intro h hf)
  have cf := cf49
  clear h hf
  go_enter Tryd.func48, Tryd.ntmps48
  go_wp2_with fail
  go_loopw [8] (fun i wr => ∃ k : Nat, k < 4 ∧ i = .int .i64 k ∧ Hid (Below w.heap.size w wr) ∧ Hid (∀ j, j < k → p.rsn t q j = false)) (fun i _ => 4 - (intOf i).toNat)
  case atStart => exact ⟨0, by omega, rfl, Below.refl _ _, fun j hj => by omega⟩
  case round =>
    obtain ⟨k, hk, rfl, HW, HP⟩ := hrel
    have hce := rsnL_at ((HW.out.block _ (heap_lt HC.out.2)).trans HC.out.2) hk
    have HK := Lib.hid (why49 hk (HC.out.1.mono HW.out))
    have hR3 : Hid (k = 3 → p.rsn t q k = true) := fun e => by rw [e]; rfl
    have HK3 : Hid (p.rsn t q k = false → k + 1 < 4) := fun h => by
      by_cases e : k = 3
      · rw [hR3.out e] at h; cases h
      · omega
    have HQ : Hid (p.rsn t q k = false → ∀ j, j < k + 1 → p.rsn t q j = false) := fun h j hj => by
      by_cases e : j = k
      · rw [e]; exact h
      · exact HP.out j (by omega)
    have HRK : Hid (∀ z, p.rsn t q k = z → p.rsn t q k = z) := fun _ h => h
    obtain ⟨z, hz⟩ : ∃ z, p.rsn t q k = z := ⟨_, rfl⟩
    rw [hz] at HK
    have HZ := Lib.hid hz
    clear hz HRK
    have hk4 : (k : Int) < 4 := by omega
    obtain ⟨g, hg⟩ : ∃ g : Nat, 44 + k = g := ⟨_, rfl⟩
    rw [hg] at hce HK
    clear hg
    go_wp2_with fail
    refine HK.out.mono ?_
    rintro e w2 ⟨rfl, hb⟩
    have HB := Lib.hid (HW.out.trans (hb.mono HW.out.size))
    clear hb hce HK
    cases z
    · go_wp2_with fail
      go_roundw
      case rel => exact ⟨k + 1, HK3.out HZ.out, by go_num, HB.out, HQ.out HZ.out⟩
      case measure => simp [intOf]; omega
    · go_wp2_with fail
      go_ret
      exact ⟨⟨k, hk, rfl, HZ.out, HP.out⟩, HB.out⟩
theorem why_idx {p : Par} {t : Thg} {q : Spn} {k : Nat} (hs : (p.still t q).2 = false) (hk : k < 4) (h1 : p.rsn t q k = true) (h2 : ∀ j, j < k → p.rsn t q j = false) : p.why t q = 1 + (k : Int) := by
  have r0 : p.rsn t q 0 = !p.level t := rfl
  have r1 : p.rsn t q 1 = decide (t.shift.hi < 0) := rfl
  have r2 : p.rsn t q 2 = (decide (2000 < t.shift.lo) || decide (q.hi < t.shift.lo * p.near)) := rfl
  unfold Par.why
  rw [if_neg (by rw [hs]; simp)]
  match k, hk, h1, h2 with
  | 0, _, h1, _ => rw [if_pos (by rw [r0] at h1; simpa using h1)]; rfl
  | 1, _, h1, h2 =>
    have e0 := h2 0 (by omega)
    rw [r0] at e0
    rw [if_neg (by simpa using e0), if_pos (by rw [r1] at h1; simpa using h1)]; rfl
  | 2, _, h1, h2 =>
    have e0 := h2 0 (by omega)
    have e1 := h2 1 (by omega)
    rw [r0] at e0
    rw [r1] at e1
    rw [if_neg (by simpa using e0), if_neg (by simpa using e1), if_pos (by rw [r2] at h1; simpa using h1)]; rfl
  | 3, _, h1, h2 =>
    have e0 := h2 0 (by omega)
    have e1 := h2 1 (by omega)
    have e2 := h2 2 (by omega)
    rw [r0] at e0
    rw [r1] at e1
    rw [r2] at e2
    rw [if_neg (by simpa using e0), if_neg (by simpa using e1), if_neg (by simpa using e2)]; rfl
  | k + 4, hk, _, _ => exact absurd hk (by omega)
end Go.Proofs.YtbnhngfegnhaiaaDoor
namespace Go.Proofs.YtbnhngfegnhaiaaDoor
open Go.RowKit
set_option linter.unusedVariables false
set_option linter.unusedSimpArgs false
theorem res_tc32 {fn : Func} {u v : Tmp} (h : fn.results = #[.tmp u, .cell v 32]) (tmps : Array Value) {w : World} {b : Nat} {z y : Value} (hz : tmps.getD u undef = z) (hp : tmps.getD v undef = .pointer (some ⟨b, 0, none⟩)) (hy : w.cell? ⟨b, 0, none⟩ = some y) :
    (results fn tmps).run Tryd.prog w = .ok (.tuple #[z, y]) w := by
  have hp' : tmps[v]?.getD undef = .pointer (some ⟨b, 0, none⟩) := by simpa using hp
  have hz' : tmps[u]?.getD undef = z := by simpa using hz
  simp [results, h, hp', hz', hy, go_sem]
set_option maxRecDepth 100000 in
set_option maxHeartbeats 8000000 in
theorem why12 {p : Par} {a : Option Addr} {c k : Nat} {q : Spn} {w : World} (hv : p.valid = true) (hq : p.look p.things p.all = some q) (ha : IsThs w a p.things) (hk : k < p.things.length) :
    Calls Tryd.prog 12 #[p.v a c, .int .i64 k] w fun e w' => e = .returned (.tuple #[.int .i64 (p.why (gt p.things k) q), .int .i64 0]) ∧ Below w.heap.size w w' := by
  have HN := Lib.hid (nums_of hv)
  have hl : p.things.length ≤ 1000000 := by have := HN.out.len; omega
  have HX := Lib.hid (alloc2 w (p.arr a c) #[.int .i64 0] 40 32)
  have HT := Lib.hid (And.intro (ha.mono HX.out.2.2) HX.out.2.2.size)
  have HV := Lib.hid (And.intro hv (And.intro hq hk))
  clear ha hv hk hq
  refine calls_of_wp_x Tryd.func12 rfl ?_
  simp only [Tryd.ntmps12, List.size_toArray, List.length_cons, List.length_nil, Nat.reduceAdd, Nat.reduceSub, Array.replicate_succ, Array.replicate_zero, List.push_toArray, List.append_toArray, List.nil_append, List.cons_append]
  conv => arg 2; whnf
  refine wp_seq_hid ?_
  intro K0 HK0
  go_wp2_with fail
  refine HK0.out _ _ ?_
  clear HK0 K0
  revert HX HT
  generalize ((w.alloc (.cells (p.arr a c) 40)).alloc (.cells #[.int .i64 0] 32)) = w1
  generalize hbe : w.heap.size + 1 = be
  generalize hbp : w.heap.size = bp
  intro HX HT
  refine wp_seq_hid ?_
  intro K1 HK1
  go_wp2_with fail
  refine HK1.out _ _ ?_
  clear HK1 K1
  have HA : Hid (bp ≤ be) := by rw [Hid]; omega
  clear hbe hbp
  have HI := Lib.hid (World.alloc_heap_new w1 (.cells #[.int .i64 k] 3))
  have HIB := Lib.hid (alloc_below w1 (.cells #[.int .i64 k] 3))
  obtain ⟨k0, k1, k2, k3, k4, k5, k6, k7⟩ := par_cells HX.out.1
  have HIN : Hid (IsInts (w1.alloc (.cells #[.int .i64 k] 3)) (some ⟨w1.heap.size, 0, none⟩) [(k : Int)]) := fun i hi => by
    have h0 : i = 0 := by simpa using hi
    subst h0
    exact ⟨w1.heap.size, 0, rfl, by rw [cell_of_heap HI.out]; rfl⟩
  have HOK : Hid (errT p [(k : Int)] = 0) := by
    have h2 := HV.out.2.2
    have h : okN p [(k : Int)] = true := by
      simp [okN, inR]
      omega
    unfold errT
    rw [Hid, HV.out.1, h, HV.out.2.1]
    rfl
  refine wp_seq_hid ?_
  intro K2 HK2
  go_wp2_with fail
  refine (truths21 (l := [(k : Int)]) (HT.out.1.mono HIB.out) hl HIN.out (by simp)).mono ?_
  clear k0 k1 k2 k3 k4 k5 k6 k7
  rintro e w2 ⟨hb, (⟨hz, _⟩ | ⟨_, _, _, q', bv, hq', rfl, hbv, hV⟩)⟩
  · exact absurd HOK.out hz
  · obtain rfl : q' = q := Option.some.inj (hq'.symm.trans HV.out.2.1)
    have HB := Lib.hid (HIB.out.trans (hb.mono HIB.out.size))
    clear hb HI HIB HIN hbv hq'
    have HE := Lib.hid ((HB.out.block _ (heap_lt HX.out.2.1)).trans HX.out.2.1)
    have HBB := Lib.hid (And.intro (HX.out.2.2.trans (HB.out.mono HT.out.2)) (Nat.le_trans HT.out.2 HB.out.size))
    have HS2 := Lib.hid (thg_small (HN.out.things _ (gt_mem HV.out.2.2)) (by have := HN.out.n1; omega) HN.out.n3)
    have HVV := Lib.hid hV
    have HX6 := Lib.hid (And.intro (World.alloc_heap_new w2 (.cells #[.pointer (some ⟨bv, 0, none⟩)] 87)) (alloc_below w2 (.cells #[.pointer (some ⟨bv, 0, none⟩)] 87)))
    clear hV
    go_wp2_with fail
    refine HK2.out _ _ ?_
    clear HK2 K2 HX HT HB
    revert HX6
    generalize w2.alloc (.cells #[.pointer (some ⟨bv, 0, none⟩)] 87) = w3
    generalize hb6 : w2.heap.size = b6
    intro HX6
    have HE3 := Lib.hid ((HX6.out.2.block _ (by rw [← hb6]; exact heap_lt HE.out)).trans HE.out)
    have HV3 : Hid (IsView w3 bv p a c q') := by have h := HX6.out.2; rw [← hb6] at h; exact HVV.out.mono h
    have HB3 : Hid (Below bp w w3 ∧ bp ≤ w3.heap.size) := by
      have h := HX6.out.2
      rw [← hb6] at h
      exact ⟨HBB.out.1.trans (h.mono HBB.out.2), Nat.le_trans HBB.out.2 h.size⟩
    clear HBB HE HVV hb6
    obtain ⟨b, off, hab, c0, c1, c2, c3, c4, c5, c6, c7, c8⟩ := HV3.out.things k HV.out.2.2
    have v7 : w3.cell? ⟨bv, 7, none⟩ = some (.slice a p.things.length c) := by rw [cell_of_heap HV3.out.h]; rfl
    have m6 : w3.cell? ⟨b6, 0, none⟩ = some (.pointer (some ⟨bv, 0, none⟩)) := by rw [cell_of_heap HX6.out.1]; rfl
    subst hab
    have hkl := HV.out.2.2
    obtain ⟨t, ht⟩ : ∃ t, gt p.things k = t := ⟨_, rfl⟩
    rw [ht] at HS2 c0 c1 c2 c3 c4 c5 c6 c7 c8
    have HG := Lib.hid ht
    clear ht
    have HX7 := Lib.hid (And.intro (World.alloc_heap_new w3 (.cells t.arr 46)) (alloc_below w3 (.cells t.arr 46)))
    refine wp_seq_hid ?_
    intro K3 HK3
    go_wp2_with fail
    refine HK3.out _ _ ?_
    clear HK3 K3 c0 c1 c2 c3 c4 c5 c6 c7 c8 v7 m6
    have HWM : Hid (WhyM (w3.alloc (.cells t.arr 46)) p t q' (some ⟨b, off, none⟩) c bv b6 w3.heap.size) :=
      ⟨⟨HS2.out, ⟨HN.out.t1, HN.out.t2⟩, ⟨by have := HN.out.n1; omega, by have := HN.out.n2; have := HN.out.n3; omega⟩⟩, (HX7.out.2.block _ (heap_lt HX6.out.1)).trans HX6.out.1, HX7.out.1, HV3.out.mono HX7.out.2⟩
    have HE4 := Lib.hid (And.intro ((HX7.out.2.block _ (heap_lt HE3.out)).trans HE3.out) (And.intro (HB3.out.1.trans (HX7.out.2.mono HB3.out.2)) (Nat.le_trans HB3.out.2 HX7.out.2.size)))
    clear HX7 HE3 HV3 HB3 HX6
    revert HWM HE4
    generalize w3.alloc (.cells t.arr 46) = w4
    generalize w3.heap.size = b7
    intro HWM HE4
    have KF : Hid (∀ v, Below w4.heap.size w4 v → WhyM v p t q' (some ⟨b, off, none⟩) c bv b6 b7 ∧ v.heap[be]? = some (.cells #[.int .i64 0] 32 (0, 0)) ∧ Below bp w v ∧ bp ≤ v.heap.size) := fun v hv =>
      ⟨HWM.out.mono hv, (hv.block _ (heap_lt HE4.out.1)).trans HE4.out.1, HE4.out.2.1.trans (hv.mono HE4.out.2.2), Nat.le_trans HE4.out.2.2 hv.size⟩
    refine wp_seq_hid ?_
    intro K4 HK4
    refine wp_seq_hid ?_
    intro K5 HK5
    refine wpIn_wide.1 (why4 (bv := bv) (b6 := b6) (b7 := b7) (x := q'.lo) (y := q'.hi) (z1 := (p.still t q').1.lo) (z2 := (p.still t q').1.hi) (zb := (p.still t q').2) (t0 := t.left.x.lo) (t1 := t.left.x.hi) (t2 := t.left.y.lo) (t3 := t.left.y.hi) (t4 := t.right.x.lo) (t5 := t.right.x.hi) (t6 := t.right.y.lo) (t7 := t.right.y.hi) (t8 := t.far)
      (S0 := fun fs ms v => Below w4.heap.size w4 v ∧ Fresh w4 fs ms v) (S1 := fun fs ms _ v => Below w4.heap.size w4 v ∧ Fresh w4 fs ms v) (S2 := fun fs ms _ v => Below w4.heap.size w4 v)
      ?h0 ?l0 ?l1 ?l2 ?l5 ?c6 ?s0 ?s1 ?c11 ?hQ)
    case h0 => exact ⟨(Below.refl _ _).drew, Fresh.no _ _ _⟩
    case l0 => exact fun fs ms v h => by rw [cell_of_heap (KF.out v h.1).1.2.1]; rfl
    case l1 =>
      intro fs ms v h
      have hq := (KF.out v h.1).1.2.2.1
      refine ⟨?_, ?_, ?_, ?_, ?_, ?_, ?_, ?_, ?_⟩ <;> (rw [cell_of_heap hq]; rfl)
    case l2 => exact fun fs ms v h => by rw [cell_of_heap (KF.out v h.1).1.2.1]; rfl
    case l5 => exact fun fs ms v h => ⟨by rw [cell_of_heap (KF.out v h.1).1.2.2.2.h]; rfl, by rw [cell_of_heap (KF.out v h.1).1.2.2.2.h]; rfl⟩
    case c6 =>
      intro fs ms v h
      refine (still22 (q := q') HS2.out HWM.out.1.hp HWM.out.1.hn ⟨by have := HN.out.n1; have := HN.out.n2; omega, HN.out.n3⟩ (KF.out v h.1).1.2.2.2).mono ?_
      rintro e v' ⟨rfl, hb⟩
      exact ⟨(), rfl, h.1.trans (hb.mono h.1.size), h.2.mono hb⟩
    case s0 => exact fun v h => ⟨h.1.trans ((alloc_below _ _).mono h.1.size), Fresh.yes h.1.size⟩
    case s1 => exact fun _ v h => ⟨h.1.trans ((alloc_below _ _).mono h.1.size), Fresh.yes h.1.size⟩
    case c11 =>
      intro ms _ v h
      obtain ⟨g1, g2, g3, g4, g5, g6⟩ := h.2.put h.1 (.int .i64 (p.still t q').1.lo) (.int .i64 (p.still t q').1.hi)
      exact ⟨g1, g2, g3, g4, g5⟩
    intro ms _ w5 h
    have HK5' := Lib.hid (KF.out w5 h)
    clear h KF HWM HE4
    refine HK5.out _ _ ?_
    clear HK5 K5
    obtain ⟨z, hz⟩ : ∃ z, (p.still t q').2 = z := ⟨_, rfl⟩
    rw [hz]
    have HZ := Lib.hid hz
    clear hz
    have e0 : w5.cell? ⟨be, 0, none⟩ = some (.int .i64 0) := by rw [cell_of_heap HK5'.out.2.1]; rfl
    have f1 : ∀ k, w5.frozen? ⟨be, k, none⟩ = false := fun k => frozen_of_heap HK5'.out.2.1
    cases z
    · clear e0 f1
      go_wp2_with fail
      refine HK4.out _ _ ?_
      clear HK4 K4
      have hmf : ∀ (fn : Fn) (first cap : Array Value) (w : World), (Instr.makeFunc fn first cap).run Tryd.prog w = .ok (.func fn first cap) w := fun _ _ _ _ => rfl
      have HX8 := Lib.hid (And.intro (World.alloc_heap_new w5 (.cells rsnL 99)) (alloc_below w5 (.cells rsnL 99)))
      refine wp_seq_hid ?_
      intro K7 HK7
      go_wp2_with fail
      refine HK7.out _ _ ?_
      clear HK7 K7
      have HX9 : Hid ((w5.alloc (.cells #[.func (.func 44) #[] #[], .func (.func 45) #[] #[], .func (.func 46) #[] #[], .func (.func 47) #[] #[]] 99)).heap[w5.heap.size]? = some (.cells rsnL 99 (0, 0)) ∧ Below w5.heap.size w5 (w5.alloc (.cells #[.func (.func 44) #[] #[], .func (.func 45) #[] #[], .func (.func 46) #[] #[], .func (.func 47) #[] #[]] 99))) := HX8.out
      clear HX8
      revert HX9
      generalize w5.alloc (.cells #[.func (.func 44) #[] #[], .func (.func 45) #[] #[], .func (.func 46) #[] #[], .func (.func 47) #[] #[]] 99) = w6
      generalize hbf : w5.heap.size = bf
      intro HX9
      have HB6 : Hid (Below w5.heap.size w5 w6) := by rw [hbf]; exact HX9.out.2
      clear hbf
      have HK6 := Lib.hid (And.intro (HK5'.out.1.mono HB6.out) (And.intro ((HB6.out.block _ (heap_lt HK5'.out.2.1)).trans HK5'.out.2.1) (And.intro (HK5'.out.2.2.1.trans (HB6.out.mono HK5'.out.2.2.2)) (Nat.le_trans HK5'.out.2.2.2 HB6.out.size))))
      clear HB6 HK5'
      refine wp_seq_hid ?_
      intro K8 HK8
      go_wp2_with fail
      refine (idx48 HK6.out.1 HX9.out.1).mono ?_
      rintro e w7 ⟨⟨j, hj, rfl, hj1, hj2⟩, hb⟩
      have HWHY : Hid (p.why t q' = 1 + (j : Int)) := why_idx HZ.out hj hj1 hj2
      have HK7' := Lib.hid (And.intro ((hb.block _ (heap_lt HK6.out.2.1)).trans HK6.out.2.1) (HK6.out.2.2.1.trans (hb.mono HK6.out.2.2.2)))
      clear hb hj1 hj2
      have e0 : w7.cell? ⟨be, 0, none⟩ = some (.int .i64 0) := by rw [cell_of_heap HK7'.out.1]; rfl
      have f1 : ∀ k, w7.frozen? ⟨be, k, none⟩ = false := fun k => frozen_of_heap HK7'.out.1
      go_wp2_with fail
      refine HK8.out _ _ ?_
      go_wp2_with fail
      have h4 := heap_setCell_at (k := 0) HK7'.out.1 (.int .i64 0)
      exact door_ok (res_tc32 (z := .int .i64 (1 + (j : Int))) (y := .int .i64 0) rfl _ rfl rfl (by rw [cell_of_heap h4]; rfl)) ⟨by rw [HG.out, HWHY.out], HK7'.out.2.setCell (p := ⟨be, 0, none⟩) HA.out _⟩
    · have HWHY : Hid (p.why t q' = 0) := by unfold Par.why; rw [Hid, HZ.out]; rfl
      go_wp2_with fail
      have h4 := heap_setCell_at (k := 0) HK5'.out.2.1 (.int .i64 0)
      exact door_ok (res_tc32 (z := .int .i64 0) (y := .int .i64 0) rfl _ rfl rfl (by rw [cell_of_heap h4]; rfl)) ⟨by rw [HG.out, HWHY.out], HK5'.out.2.2.1.setCell (p := ⟨be, 0, none⟩) HA.out _⟩
end Go.Proofs.YtbnhngfegnhaiaaDoor
namespace Go.Proofs.YtbnhngfegnhaiaaDoor
open Go.RowKit
set_option linter.unusedVariables false
set_option linter.unusedSimpArgs false
/-- What a slot holds: the value, once it is done. -/
def pk (b : Bool) (v s : Value) : Value := if b then v else s
theorem pk_of {b : Bool} (h : b = true) (v s : Value) : pk b v s = v := by rw [h]; rfl
/-- What is done waits for nothing. -/
def OrdP (L : List (List Nat)) (d : Nat → Bool) : Prop := ∀ k, d k = true → ∀ e ∈ L.getD k [], d e = true
theorem OrdP.step {L : List (List Nat)} {d : Nat → Bool} {k : Nat} (h : OrdP L d) (hk : ∀ e ∈ L.getD k [], d e = true) : OrdP L (upd d k) := fun j hj e he => by
  unfold upd at hj ⊢
  by_cases h2 : e = k
  · simp [h2]
  · by_cases h1 : j = k
    · subst h1; simp [h2, hk e he]
    · simp [h1] at hj; simp [h2, h j hj e he]
/-- A world at one of 6 stages, by which ones are passed. -/
def ch5 (P0 P1 P2 P3 P4 P5 : World → Prop) : Bool → Bool → Bool → Bool → Bool → World → Prop
  | false, false, false, false, false, w => P0 w
  | true, false, false, false, false, w => P1 w
  | true, true, false, false, false, w => P2 w
  | true, true, true, false, false, w => P3 w
  | true, true, true, true, false, w => P4 w
  | true, true, true, true, true, w => P5 w
  | _, _, _, _, _, _ => False
theorem ch5_or {P0 P1 P2 P3 P4 P5 : World → Prop} {f1 f2 f3 f4 f5 : Bool} {w : World} (h : ch5 P0 P1 P2 P3 P4 P5 f1 f2 f3 f4 f5 w) : P0 w ∨ P1 w ∨ P2 w ∨ P3 w ∨ P4 w ∨ P5 w := by
  cases f1 <;> cases f2 <;> cases f3 <;> cases f4 <;> cases f5 <;> first | exact False.elim h | exact .inl h | exact .inr (.inl h) | exact .inr (.inr (.inl h)) | exact .inr (.inr (.inr (.inl h))) | exact .inr (.inr (.inr (.inr (.inl h)))) | exact .inr (.inr (.inr (.inr (.inr h))))
theorem ch5_s1 {P0 P1 P2 P3 P4 P5 : World → Prop} {f1 f2 f3 f4 f5 : Bool} {w : World} (h : ch5 P0 P1 P2 P3 P4 P5 f1 f2 f3 f4 f5 w) (e2 : f1 = false) : P0 w ∧ ∀ w' : World, P1 w' → ch5 P0 P1 P2 P3 P4 P5 true f2 f3 f4 f5 w' := by
  subst e2
  cases f2 <;> cases f3 <;> cases f4 <;> cases f5 <;> first | exact False.elim h | exact ⟨h, fun _ x => x⟩
theorem ch5_s2 {P0 P1 P2 P3 P4 P5 : World → Prop} {f1 f2 f3 f4 f5 : Bool} {w : World} (h : ch5 P0 P1 P2 P3 P4 P5 f1 f2 f3 f4 f5 w) (e1 : f1 = true) (e2 : f2 = false) : P1 w ∧ ∀ w' : World, P2 w' → ch5 P0 P1 P2 P3 P4 P5 f1 true f3 f4 f5 w' := by
  subst e1 e2
  cases f3 <;> cases f4 <;> cases f5 <;> first | exact False.elim h | exact ⟨h, fun _ x => x⟩
theorem ch5_s3 {P0 P1 P2 P3 P4 P5 : World → Prop} {f1 f2 f3 f4 f5 : Bool} {w : World} (h : ch5 P0 P1 P2 P3 P4 P5 f1 f2 f3 f4 f5 w) (e1 : f2 = true) (e2 : f3 = false) : P2 w ∧ ∀ w' : World, P3 w' → ch5 P0 P1 P2 P3 P4 P5 f1 f2 true f4 f5 w' := by
  subst e1 e2
  cases f1 <;> cases f4 <;> cases f5 <;> first | exact False.elim h | exact ⟨h, fun _ x => x⟩
theorem ch5_s4 {P0 P1 P2 P3 P4 P5 : World → Prop} {f1 f2 f3 f4 f5 : Bool} {w : World} (h : ch5 P0 P1 P2 P3 P4 P5 f1 f2 f3 f4 f5 w) (e1 : f3 = true) (e2 : f4 = false) : P3 w ∧ ∀ w' : World, P4 w' → ch5 P0 P1 P2 P3 P4 P5 f1 f2 f3 true f5 w' := by
  subst e1 e2
  cases f1 <;> cases f2 <;> cases f5 <;> first | exact False.elim h | exact ⟨h, fun _ x => x⟩
theorem ch5_s5 {P0 P1 P2 P3 P4 P5 : World → Prop} {f1 f2 f3 f4 f5 : Bool} {w : World} (h : ch5 P0 P1 P2 P3 P4 P5 f1 f2 f3 f4 f5 w) (e1 : f4 = true) (e2 : f5 = false) : P4 w ∧ ∀ w' : World, P5 w' → ch5 P0 P1 P2 P3 P4 P5 f1 f2 f3 f4 true w' := by
  subst e1 e2
  cases f1 <;> cases f2 <;> cases f3 <;> first | exact False.elim h | exact ⟨h, fun _ x => x⟩
theorem wpInR_append_run {P : Program} {m : Nat} {r : Option Nat} {w : World} {o : Oper} {a : Act} {K : Act → World → Prop} {Q : Exit → Act → World → Prop} (s x : Operand) (t : TypeId)
    (ho : o.op = .call { callee := .builtin .append, args := #[s, x], argTypes := #[t, t] }) (v xv v' : Value) (w' : World) (hs : a.eval s = v) (hx : a.eval x = xv)
    (hr : (Builtin.append_ #[t, t] o.type #[v, xv]).run P w = .ok v' w') (h : K (a.put o.dst v') w') : o.wpIn (wideAt r) m P a w K Q := by
  refine ⟨fun _ _ => trivial, ?_⟩
  show o.uponIn _ _ P a K Q ((o.semAt _ a.eval).run P w)
  have e : (o.semAt (wideAt r).round a.eval).run P w = (execOp a.eval o).run P w := by
    cases r with
    | none => rfl
    | some l => show (o.semAt (some l) a.eval).run P w = _; simp [Oper.semAt_some, ho]
  rw [e]
  unfold execOp
  simp only [ho, resolve, invoke, builtin, Sem.run_bind, Sem.run_pure, Result.andThen_ok, List.map_toArray, List.map_cons, List.map_nil, hs, hx, hr]
  exact h
attribute [local go_sem] Oper.semAt_some
noncomputable def few12C : Code := (Tryd.f7.body.bind (regionR 12)).getD .skip
set_option maxRecDepth 100000 in
set_option maxHeartbeats 8000000 in
theorem few12 {b6 p7 p10 rl a c p q : Nat} {x y y1 : Int} {b : Bool} {P0 : World → Prop} {Q : Exit → Act → World → Prop} {W1 : World} (hp : IntKind.i64.wrap ((a : Int) + 1) = (p : Int)) (hq : IntKind.i64.wrap ((c : Int) + 1) = (q : Int)) (hy : IntKind.i64.wrap (1 + y) = y1) (hb : (y1 == x) = b) (hp0 : (0 : Int) ≤ p) (hp1 : (p : Int) < 11) (hq0 : (0 : Int) ≤ q) (hq1 : (q : Int) < 11) (h0 : P0 W1.drew)
    (kl1 : Hid (∀ w : World, (P0 w) → w.cell? ⟨p10, 0, none⟩ = some (.int .i64 ((a : Int)))))
    (kl4 : Hid (∀ w : World, (P0 w) → w.cell? ⟨p10, 1, none⟩ = some (.int .i64 ((c : Int)))))
    (kl8 : Hid (∀ w : World, (P0 w) → w.cell? ⟨b6, p * 11 + q, none⟩ = some (.int .i64 (y))))
    (kl10 : Hid (∀ w : World, (P0 w) → w.cell? ⟨p7, 0, none⟩ = some (.int .i64 (x))))
    {s0 s1 s2 s3 s4 s5 s8 s9 s11 s12 s13 s14 s15 s16 s17 s18 s19 s20 s21 s22 s23 s24 s25 s26 s27 s28 s29 s30 s31 s32 s33 s34 s35 s36 s37 s38 s39 s40 s41 s42 s43 s44 s45 s46 s47 s48 s49 s50 s51 s52 s53 s54 s55 s56 s57 s58 s59 s60 s61 s62 s63 s64 s65 s66 s67 s68 : Value} {dd : List Deferred}
    (hQ : ∀ w' : World, P0 w' → Q .normal { tmps := List.toArray (s0 :: s1 :: s2 :: s3 :: s4 :: s5 :: .pointer (some ⟨b6, 0, none⟩) :: .pointer (some ⟨p7, 0, none⟩) :: s8 :: s9 :: .pointer (some ⟨p10, 0, none⟩) :: s11 :: s12 :: s13 :: s14 :: s15 :: s16 :: s17 :: s18 :: s19 :: s20 :: s21 :: s22 :: s23 :: s24 :: s25 :: s26 :: s27 :: s28 :: s29 :: s30 :: s31 :: s32 :: s33 :: s34 :: s35 :: s36 :: s37 :: s38 :: s39 :: s40 :: s41 :: s42 :: .pointer (some ⟨p10, 0, none⟩) :: .int .i64 ((a : Int)) :: .int .i64 ((p : Int)) :: .pointer (some ⟨p10, 1, none⟩) :: .int .i64 ((c : Int)) :: .int .i64 ((q : Int)) :: .pointer (some ⟨b6, p * 11, none⟩) :: .pointer (some ⟨b6, p * 11 + q, none⟩) :: .int .i64 (y) :: .int .i64 (y1) :: .int .i64 (x) :: .bool b :: s55 :: s56 :: s57 :: s58 :: s59 :: s60 :: s61 :: s62 :: s63 :: s64 :: s65 :: s66 :: s67 :: s68 :: []),defers := dd } w') :
    Code.wpIn (wideAt (some rl)) 0 Tryd.prog few12C Q { tmps := List.toArray (s0 :: s1 :: s2 :: s3 :: s4 :: s5 :: .pointer (some ⟨b6, 0, none⟩) :: .pointer (some ⟨p7, 0, none⟩) :: s8 :: s9 :: .pointer (some ⟨p10, 0, none⟩) :: s11 :: s12 :: s13 :: s14 :: s15 :: s16 :: s17 :: s18 :: s19 :: s20 :: s21 :: s22 :: s23 :: s24 :: s25 :: s26 :: s27 :: s28 :: s29 :: s30 :: s31 :: s32 :: s33 :: s34 :: s35 :: s36 :: s37 :: s38 :: s39 :: s40 :: s41 :: s42 :: s43 :: s44 :: s45 :: s46 :: s47 :: s48 :: s49 :: s50 :: s51 :: s52 :: s53 :: s54 :: s55 :: s56 :: s57 :: s58 :: s59 :: s60 :: s61 :: s62 :: s63 :: s64 :: s65 :: s66 :: s67 :: s68 :: []),defers := dd } W1 := by
  have HQ := Lib.hid hQ
  clear hQ
  conv => arg 4; whnf
  refine wpIn_region_invG mixed (by kernel_rfl) (fun d_ a_ w' => a_ = { tmps := List.toArray (s0 :: s1 :: s2 :: s3 :: s4 :: s5 :: .pointer (some ⟨b6, 0, none⟩) :: .pointer (some ⟨p7, 0, none⟩) :: s8 :: s9 :: .pointer (some ⟨p10, 0, none⟩) :: s11 :: s12 :: s13 :: s14 :: s15 :: s16 :: s17 :: s18 :: s19 :: s20 :: s21 :: s22 :: s23 :: s24 :: s25 :: s26 :: s27 :: s28 :: s29 :: s30 :: s31 :: s32 :: s33 :: s34 :: s35 :: s36 :: s37 :: s38 :: s39 :: s40 :: s41 :: s42 :: pk (d_ 0) (.pointer (some ⟨p10, 0, none⟩)) s43 :: pk (d_ 1) (.int .i64 ((a : Int))) s44 :: pk (d_ 2) (.int .i64 ((p : Int))) s45 :: pk (d_ 3) (.pointer (some ⟨p10, 1, none⟩)) s46 :: pk (d_ 4) (.int .i64 ((c : Int))) s47 :: pk (d_ 5) (.int .i64 ((q : Int))) s48 :: pk (d_ 6) (.pointer (some ⟨b6, p * 11, none⟩)) s49 :: pk (d_ 7) (.pointer (some ⟨b6, p * 11 + q, none⟩)) s50 :: pk (d_ 8) (.int .i64 (y)) s51 :: pk (d_ 9) (.int .i64 (y1)) s52 :: pk (d_ 10) (.int .i64 (x)) s53 :: pk (d_ 11) (.bool b) s54 :: s55 :: s56 :: s57 :: s58 :: s59 :: s60 :: s61 :: s62 :: s63 :: s64 :: s65 :: s66 :: s67 :: s68 :: []),defers := dd } ∧ P0 w') ?_ ?_ ?_
  · exact ⟨rfl, h0⟩
  · refine ⟨?_,?_,?_,?_,?_,?_,?_,?_,?_,?_,?_,?_, trivial⟩
    all_goals
      rintro d_ a_ w1 K hd_ hdep ⟨rfl, F⟩ HK
      simp [Region.binds] at hdep
    · have HF := Lib.hid F
      clear F hdep
      go_simp
      refine HK.out _ _ ⟨?_, HF.out⟩
      all_goals rfl
    · have q0 : d_ 0 = true := by simp [hdep]
      have kk := kl1.out w1 (F)
      rw [pk_of q0]
      have HF := Lib.hid F
      clear F hdep
      go_simp
      refine HK.out _ _ ⟨?_, HF.out⟩
      rw [pk_of (show upd d_ 1 0 = true from q0)]
      all_goals rfl
    · have q1 : d_ 1 = true := by simp [hdep]
      have hp2 := hp
      rw [pk_of q1]
      have HF := Lib.hid F
      clear F hdep
      go_simp
      refine HK.out _ _ ⟨?_, HF.out⟩
      rw [pk_of (show upd d_ 2 1 = true from q1)]
      all_goals rfl
    · have HF := Lib.hid F
      clear F hdep
      go_simp
      refine HK.out _ _ ⟨?_, HF.out⟩
      all_goals rfl
    · have q3 : d_ 3 = true := by simp [hdep]
      have kk := kl4.out w1 (F)
      rw [pk_of q3]
      have HF := Lib.hid F
      clear F hdep
      go_simp
      refine HK.out _ _ ⟨?_, HF.out⟩
      rw [pk_of (show upd d_ 4 3 = true from q3)]
      all_goals rfl
    · have q4 : d_ 4 = true := by simp [hdep]
      have hq2 := hq
      rw [pk_of q4]
      have HF := Lib.hid F
      clear F hdep
      go_simp
      refine HK.out _ _ ⟨?_, HF.out⟩
      rw [pk_of (show upd d_ 5 4 = true from q4)]
      all_goals rfl
    · have q2 : d_ 2 = true := by simp [hdep]
      have g1 := hp1
      have g2 := hp0
      rw [pk_of q2]
      have HF := Lib.hid F
      clear F hdep
      go_simp
      refine HK.out _ _ ⟨?_, HF.out⟩
      rw [pk_of (show upd d_ 6 2 = true from q2)]
      all_goals rfl
    · have q5 : d_ 5 = true := by simp [hdep]
      have q6 : d_ 6 = true := by simp [hdep]
      have g1 := hq1
      have g2 := hq0
      rw [pk_of q5, pk_of q6]
      have HF := Lib.hid F
      clear F hdep
      go_simp
      refine HK.out _ _ ⟨?_, HF.out⟩
      rw [pk_of (show upd d_ 7 5 = true from q5), pk_of (show upd d_ 7 6 = true from q6)]
      all_goals rfl
    · have q7 : d_ 7 = true := by simp [hdep]
      have kk := kl8.out w1 (F)
      rw [pk_of q7]
      have HF := Lib.hid F
      clear F hdep
      go_simp
      refine HK.out _ _ ⟨?_, HF.out⟩
      rw [pk_of (show upd d_ 8 7 = true from q7)]
      all_goals rfl
    · have q8 : d_ 8 = true := by simp [hdep]
      have hy2 := hy
      rw [pk_of q8]
      have HF := Lib.hid F
      clear F hdep
      go_simp
      refine HK.out _ _ ⟨?_, HF.out⟩
      rw [pk_of (show upd d_ 9 8 = true from q8)]
      all_goals rfl
    · have kk := kl10.out w1 (F)
      have HF := Lib.hid F
      clear F hdep
      go_simp
      refine HK.out _ _ ⟨?_, HF.out⟩
      all_goals rfl
    · have q9 : d_ 9 = true := by simp [hdep]
      have q10 : d_ 10 = true := by simp [hdep]
      have hb2 := hb
      rw [pk_of q9, pk_of q10]
      have HF := Lib.hid F
      clear F hdep
      go_simp
      refine HK.out _ _ ⟨?_, HF.out⟩
      rw [pk_of (show upd d_ 11 9 = true from q9), pk_of (show upd d_ 11 10 = true from q10)]
      all_goals rfl
  · rintro d_ a_ w1 hall ⟨rfl, F⟩
    have hall' : ∀ k, k < 12 → d_ k = true := hall
    have HF := Lib.hid F
    clear F
    rw [pk_of (hall' 0 (by decide)), pk_of (hall' 1 (by decide)), pk_of (hall' 2 (by decide)), pk_of (hall' 3 (by decide)), pk_of (hall' 4 (by decide)), pk_of (hall' 5 (by decide)), pk_of (hall' 6 (by decide)), pk_of (hall' 7 (by decide)), pk_of (hall' 8 (by decide)), pk_of (hall' 9 (by decide)), pk_of (hall' 10 (by decide)), pk_of (hall' 11 (by decide))]
    exact HQ.out w1 HF.out
noncomputable def few13C : Code := (Tryd.f7.body.bind (regionR 13)).getD .skip
set_option maxRecDepth 100000 in
set_option maxHeartbeats 8000000 in
theorem few13 {b2 p8 p9 p10 rl a c p q N n cw cw1 : Nat} {g g1 : Option Addr} {P0 P1 P2 P3 P4 P5 : World → Prop} {Q : Exit → Act → World → Prop} {W1 : World} (hp : IntKind.i64.wrap ((a : Int) + 1) = (p : Int)) (hq : IntKind.i64.wrap ((c : Int) + 1) = (q : Int)) (h0 : P0 W1.drew)
    (kl0 : Hid (∀ w : World, (P0 w ∨ P1 w) → w.cell? ⟨b2, 0, none⟩ = some (.slice g n cw)))
    (kl1 : Hid (∀ w : World, (P0 w ∨ P1 w ∨ P2 w ∨ P3 w ∨ P4 w ∨ P5 w) → w.cell? ⟨p10, 0, none⟩ = some (.int .i64 ((a : Int))) ∧ w.cell? ⟨p10, 1, none⟩ = some (.int .i64 ((c : Int)))))
    (ka2 : Hid (∀ w : World, P0 w → w.heap.size = N ∧ P1 (w.alloc (.cells #[.int .i64 ((a : Int)), .int .i64 ((c : Int))] 42))))
    (kr3 : Hid (∀ w : World, P1 w → ∃ w', (Builtin.append_ #[31, 31] 31 #[.slice g n cw, .slice (some ⟨N, 0, none⟩) 1 1]).run Tryd.prog w = .ok (.slice g1 (n + 1) cw1) w' ∧ P2 w'))
    (kl5 : Hid (∀ w : World, (P0 w ∨ P1 w ∨ P2 w ∨ P3 w ∨ P4 w ∨ P5 w) → w.cell? ⟨p10, 0, none⟩ = some (.int .i64 ((a : Int)))))
    (kl8 : Hid (∀ w : World, (P0 w ∨ P1 w ∨ P2 w ∨ P3 w ∨ P4 w ∨ P5 w) → w.cell? ⟨p10, 1, none⟩ = some (.int .i64 ((c : Int)))))
    (ks10 : Hid (∀ w : World, P2 w → (∃ u, w.cell? ⟨b2, 0, none⟩ = some u) ∧ w.frozen? ⟨b2, 0, none⟩ = false ∧ P3 (w.setCell ⟨b2, 0, none⟩ (.slice g1 (n + 1) cw1))))
    (ks11 : Hid (∀ w : World, P3 w → (∃ u, w.cell? ⟨p8, 0, none⟩ = some u) ∧ w.frozen? ⟨p8, 0, none⟩ = false ∧ P4 (w.setCell ⟨p8, 0, none⟩ (.int .i64 ((p : Int))))))
    (ks12 : Hid (∀ w : World, P4 w → (∃ u, w.cell? ⟨p9, 0, none⟩ = some u) ∧ w.frozen? ⟨p9, 0, none⟩ = false ∧ P5 (w.setCell ⟨p9, 0, none⟩ (.int .i64 ((q : Int))))))
    {s0 s1 s3 s4 s5 s6 s7 s11 s12 s13 s14 s15 s16 s17 s18 s19 s20 s21 s22 s23 s24 s25 s26 s27 s28 s29 s30 s31 s32 s33 s34 s35 s36 s37 s38 s39 s40 s41 s42 s43 s44 s45 s46 s47 s48 s49 s50 s51 s52 s53 s54 s55 s56 s57 s58 s59 s60 s61 s62 s63 s64 s65 s66 s67 s68 : Value} {dd : List Deferred}
    (hQ : ∀ w' : World, P5 w' → Q .normal { tmps := List.toArray (s0 :: s1 :: .pointer (some ⟨b2, 0, none⟩) :: s3 :: s4 :: s5 :: s6 :: s7 :: .pointer (some ⟨p8, 0, none⟩) :: .pointer (some ⟨p9, 0, none⟩) :: .pointer (some ⟨p10, 0, none⟩) :: s11 :: s12 :: s13 :: s14 :: s15 :: s16 :: s17 :: s18 :: s19 :: s20 :: s21 :: s22 :: s23 :: s24 :: s25 :: s26 :: s27 :: s28 :: s29 :: s30 :: s31 :: s32 :: s33 :: s34 :: s35 :: s36 :: s37 :: s38 :: s39 :: s40 :: s41 :: s42 :: s43 :: s44 :: s45 :: s46 :: s47 :: s48 :: s49 :: s50 :: s51 :: s52 :: s53 :: s54 :: .slice g n cw :: .agg #[.int .i64 ((a : Int)), .int .i64 ((c : Int))] :: .slice (some ⟨N, 0, none⟩) 1 1 :: .slice g1 (n + 1) cw1 :: .pointer (some ⟨p10, 0, none⟩) :: .int .i64 ((a : Int)) :: .int .i64 ((p : Int)) :: .pointer (some ⟨p10, 1, none⟩) :: .int .i64 ((c : Int)) :: .int .i64 ((q : Int)) :: s65 :: s66 :: s67 :: s68 :: []),defers := dd } w') :
    Code.wpIn (wideAt (some rl)) 0 Tryd.prog few13C Q { tmps := List.toArray (s0 :: s1 :: .pointer (some ⟨b2, 0, none⟩) :: s3 :: s4 :: s5 :: s6 :: s7 :: .pointer (some ⟨p8, 0, none⟩) :: .pointer (some ⟨p9, 0, none⟩) :: .pointer (some ⟨p10, 0, none⟩) :: s11 :: s12 :: s13 :: s14 :: s15 :: s16 :: s17 :: s18 :: s19 :: s20 :: s21 :: s22 :: s23 :: s24 :: s25 :: s26 :: s27 :: s28 :: s29 :: s30 :: s31 :: s32 :: s33 :: s34 :: s35 :: s36 :: s37 :: s38 :: s39 :: s40 :: s41 :: s42 :: s43 :: s44 :: s45 :: s46 :: s47 :: s48 :: s49 :: s50 :: s51 :: s52 :: s53 :: s54 :: s55 :: s56 :: s57 :: s58 :: s59 :: s60 :: s61 :: s62 :: s63 :: s64 :: s65 :: s66 :: s67 :: s68 :: []),defers := dd } W1 := by
  have HQ := Lib.hid hQ
  clear hQ
  conv => arg 4; whnf
  refine wpIn_region_invG mixed (by kernel_rfl) (fun d_ a_ w' => a_ = { tmps := List.toArray (s0 :: s1 :: .pointer (some ⟨b2, 0, none⟩) :: s3 :: s4 :: s5 :: s6 :: s7 :: .pointer (some ⟨p8, 0, none⟩) :: .pointer (some ⟨p9, 0, none⟩) :: .pointer (some ⟨p10, 0, none⟩) :: s11 :: s12 :: s13 :: s14 :: s15 :: s16 :: s17 :: s18 :: s19 :: s20 :: s21 :: s22 :: s23 :: s24 :: s25 :: s26 :: s27 :: s28 :: s29 :: s30 :: s31 :: s32 :: s33 :: s34 :: s35 :: s36 :: s37 :: s38 :: s39 :: s40 :: s41 :: s42 :: s43 :: s44 :: s45 :: s46 :: s47 :: s48 :: s49 :: s50 :: s51 :: s52 :: s53 :: s54 :: pk (d_ 0) (.slice g n cw) s55 :: pk (d_ 1) (.agg #[.int .i64 ((a : Int)), .int .i64 ((c : Int))]) s56 :: pk (d_ 2) (.slice (some ⟨N, 0, none⟩) 1 1) s57 :: pk (d_ 3) (.slice g1 (n + 1) cw1) s58 :: pk (d_ 4) (.pointer (some ⟨p10, 0, none⟩)) s59 :: pk (d_ 5) (.int .i64 ((a : Int))) s60 :: pk (d_ 6) (.int .i64 ((p : Int))) s61 :: pk (d_ 7) (.pointer (some ⟨p10, 1, none⟩)) s62 :: pk (d_ 8) (.int .i64 ((c : Int))) s63 :: pk (d_ 9) (.int .i64 ((q : Int))) s64 :: s65 :: s66 :: s67 :: s68 :: []),defers := dd } ∧ ch5 P0 P1 P2 P3 P4 P5 (d_ 2) (d_ 3) (d_ 10) (d_ 11) (d_ 12) w' ∧ OrdP [[], [], [1], [0, 2], [], [4], [5], [], [7], [8], [0, 1, 2, 3], [0, 1, 2, 3, 4, 5, 6, 10], [0, 1, 2, 3, 4, 5, 6, 7, 8, 9, 10, 11]] d_) ?_ ?_ ?_
  · exact ⟨rfl, h0, fun k h => by cases h⟩
  · refine ⟨?_,?_,?_,?_,?_,?_,?_,?_,?_,?_,?_,?_,?_, trivial⟩
    all_goals
      rintro d_ a_ w1 K hd_ hdep ⟨rfl, F, O⟩ HK
      simp [Region.binds] at hdep
    · have HO : Hid (OrdP [[], [], [1], [0, 2], [], [4], [5], [], [7], [8], [0, 1, 2, 3], [0, 1, 2, 3, 4, 5, 6, 10], [0, 1, 2, 3, 4, 5, 6, 7, 8, 9, 10, 11]] (upd d_ 0)) := O.step (show ∀ e ∈ ([] : List Nat), d_ e = true by simp [hdep])
      have F2 := F
      have n_ : d_ 3 = false := by
        cases e_ : d_ 3 with
        | false => rfl
        | true => have h2 := (O 3 e_ 0 (by decide)); rw [show d_ 0 = false from hd_] at h2; cases h2
      rw [n_] at F2
      have kk := kl0.out w1 (by
        have h3 := ch5_or F2
        cases e2_ : d_ 2 <;> cases e10_ : d_ 10 <;> cases e11_ : d_ 11 <;> cases e12_ : d_ 12 <;> simp_all [ch5])
      clear F2
      clear n_
      clear O
      have HF := Lib.hid F
      clear F hdep
      go_simp
      refine HK.out _ _ ⟨?_, HF.out, HO.out⟩
      all_goals rfl
    · have HO : Hid (OrdP [[], [], [1], [0, 2], [], [4], [5], [], [7], [8], [0, 1, 2, 3], [0, 1, 2, 3, 4, 5, 6, 10], [0, 1, 2, 3, 4, 5, 6, 7, 8, 9, 10, 11]] (upd d_ 1)) := O.step (show ∀ e ∈ ([] : List Nat), d_ e = true by simp [hdep])
      have kk := kl1.out w1 (ch5_or F)
      obtain ⟨kk0, kk1⟩ := kk
      clear O
      have HF := Lib.hid F
      clear F hdep
      go_simp
      refine HK.out _ _ ⟨?_, HF.out, HO.out⟩
      all_goals rfl
    · have HO : Hid (OrdP [[], [], [1], [0, 2], [], [4], [5], [], [7], [8], [0, 1, 2, 3], [0, 1, 2, 3, 4, 5, 6, 10], [0, 1, 2, 3, 4, 5, 6, 7, 8, 9, 10, 11]] (upd d_ 2)) := O.step (show ∀ e ∈ ([1] : List Nat), d_ e = true by simp [hdep])
      have q1 : d_ 1 = true := by simp [hdep]
      clear O
      rw [pk_of q1]
      obtain ⟨hP, hN⟩ := ch5_s1 F hd_
      obtain ⟨hz_, hR⟩ := ka2.out w1 hP
      have HF := Lib.hid (hN _ hR)
      clear F hP hR hN hdep
      go_simp
      try rw [hz_]
      have HG := HF.out
      refine HK.out _ _ ⟨?_, HG, HO.out⟩
      rw [pk_of (show upd d_ 2 1 = true from q1)]
      all_goals rfl
    · have HO : Hid (OrdP [[], [], [1], [0, 2], [], [4], [5], [], [7], [8], [0, 1, 2, 3], [0, 1, 2, 3, 4, 5, 6, 10], [0, 1, 2, 3, 4, 5, 6, 7, 8, 9, 10, 11]] (upd d_ 3)) := O.step (show ∀ e ∈ ([0, 2] : List Nat), d_ e = true by simp [hdep])
      have q0 : d_ 0 = true := by simp [hdep]
      have q2 : d_ 2 = true := by simp [hdep]
      clear O
      rw [pk_of q0, pk_of q2]
      obtain ⟨hP, hN⟩ := ch5_s2 F (show d_ 2 = true by simp [hdep]) hd_
      obtain ⟨w5, kk, hR⟩ := kr3.out w1 hP
      have HF := Lib.hid (hN _ hR)
      clear F hP hR hN hdep
      rw [if_pos (by rfl)]
      refine wpInR_append_run (.tmp 55) (.tmp 57) 31 rfl _ _ _ _ rfl rfl kk ?_
      have HG := HF.out
      refine HK.out _ _ ⟨?_, HG, HO.out⟩
      rw [pk_of (show upd d_ 3 0 = true from q0), pk_of (show upd d_ 3 2 = true from q2)]
      all_goals rfl
    · have HO : Hid (OrdP [[], [], [1], [0, 2], [], [4], [5], [], [7], [8], [0, 1, 2, 3], [0, 1, 2, 3, 4, 5, 6, 10], [0, 1, 2, 3, 4, 5, 6, 7, 8, 9, 10, 11]] (upd d_ 4)) := O.step (show ∀ e ∈ ([] : List Nat), d_ e = true by simp [hdep])
      clear O
      have HF := Lib.hid F
      clear F hdep
      go_simp
      refine HK.out _ _ ⟨?_, HF.out, HO.out⟩
      all_goals rfl
    · have HO : Hid (OrdP [[], [], [1], [0, 2], [], [4], [5], [], [7], [8], [0, 1, 2, 3], [0, 1, 2, 3, 4, 5, 6, 10], [0, 1, 2, 3, 4, 5, 6, 7, 8, 9, 10, 11]] (upd d_ 5)) := O.step (show ∀ e ∈ ([4] : List Nat), d_ e = true by simp [hdep])
      have q4 : d_ 4 = true := by simp [hdep]
      have kk := kl5.out w1 (ch5_or F)
      clear O
      rw [pk_of q4]
      have HF := Lib.hid F
      clear F hdep
      go_simp
      refine HK.out _ _ ⟨?_, HF.out, HO.out⟩
      rw [pk_of (show upd d_ 5 4 = true from q4)]
      all_goals rfl
    · have HO : Hid (OrdP [[], [], [1], [0, 2], [], [4], [5], [], [7], [8], [0, 1, 2, 3], [0, 1, 2, 3, 4, 5, 6, 10], [0, 1, 2, 3, 4, 5, 6, 7, 8, 9, 10, 11]] (upd d_ 6)) := O.step (show ∀ e ∈ ([5] : List Nat), d_ e = true by simp [hdep])
      have q5 : d_ 5 = true := by simp [hdep]
      clear O
      have hp2 := hp
      rw [pk_of q5]
      have HF := Lib.hid F
      clear F hdep
      go_simp
      refine HK.out _ _ ⟨?_, HF.out, HO.out⟩
      rw [pk_of (show upd d_ 6 5 = true from q5)]
      all_goals rfl
    · have HO : Hid (OrdP [[], [], [1], [0, 2], [], [4], [5], [], [7], [8], [0, 1, 2, 3], [0, 1, 2, 3, 4, 5, 6, 10], [0, 1, 2, 3, 4, 5, 6, 7, 8, 9, 10, 11]] (upd d_ 7)) := O.step (show ∀ e ∈ ([] : List Nat), d_ e = true by simp [hdep])
      clear O
      have HF := Lib.hid F
      clear F hdep
      go_simp
      refine HK.out _ _ ⟨?_, HF.out, HO.out⟩
      all_goals rfl
    · have HO : Hid (OrdP [[], [], [1], [0, 2], [], [4], [5], [], [7], [8], [0, 1, 2, 3], [0, 1, 2, 3, 4, 5, 6, 10], [0, 1, 2, 3, 4, 5, 6, 7, 8, 9, 10, 11]] (upd d_ 8)) := O.step (show ∀ e ∈ ([7] : List Nat), d_ e = true by simp [hdep])
      have q7 : d_ 7 = true := by simp [hdep]
      have kk := kl8.out w1 (ch5_or F)
      clear O
      rw [pk_of q7]
      have HF := Lib.hid F
      clear F hdep
      go_simp
      refine HK.out _ _ ⟨?_, HF.out, HO.out⟩
      rw [pk_of (show upd d_ 8 7 = true from q7)]
      all_goals rfl
    · have HO : Hid (OrdP [[], [], [1], [0, 2], [], [4], [5], [], [7], [8], [0, 1, 2, 3], [0, 1, 2, 3, 4, 5, 6, 10], [0, 1, 2, 3, 4, 5, 6, 7, 8, 9, 10, 11]] (upd d_ 9)) := O.step (show ∀ e ∈ ([8] : List Nat), d_ e = true by simp [hdep])
      have q8 : d_ 8 = true := by simp [hdep]
      clear O
      have hq2 := hq
      rw [pk_of q8]
      have HF := Lib.hid F
      clear F hdep
      go_simp
      refine HK.out _ _ ⟨?_, HF.out, HO.out⟩
      rw [pk_of (show upd d_ 9 8 = true from q8)]
      all_goals rfl
    · have HO : Hid (OrdP [[], [], [1], [0, 2], [], [4], [5], [], [7], [8], [0, 1, 2, 3], [0, 1, 2, 3, 4, 5, 6, 10], [0, 1, 2, 3, 4, 5, 6, 7, 8, 9, 10, 11]] (upd d_ 10)) := O.step (show ∀ e ∈ ([0, 1, 2, 3] : List Nat), d_ e = true by simp [hdep])
      have q3 : d_ 3 = true := by simp [hdep]
      clear O
      rw [pk_of q3]
      obtain ⟨hP, hN⟩ := ch5_s3 F (show d_ 3 = true by simp [hdep]) hd_
      obtain ⟨⟨u0, c0⟩, z0, hR⟩ := ks10.out w1 hP
      have HF := Lib.hid (hN _ hR)
      clear F hP hR hN hdep
      go_simp
      have HG := HF.out
      refine HK.out _ _ ⟨?_, HG, HO.out⟩
      rw [pk_of (show upd d_ 10 3 = true from q3)]
      all_goals rfl
    · have HO : Hid (OrdP [[], [], [1], [0, 2], [], [4], [5], [], [7], [8], [0, 1, 2, 3], [0, 1, 2, 3, 4, 5, 6, 10], [0, 1, 2, 3, 4, 5, 6, 7, 8, 9, 10, 11]] (upd d_ 11)) := O.step (show ∀ e ∈ ([0, 1, 2, 3, 4, 5, 6, 10] : List Nat), d_ e = true by simp [hdep])
      have q6 : d_ 6 = true := by simp [hdep]
      clear O
      rw [pk_of q6]
      obtain ⟨hP, hN⟩ := ch5_s4 F (show d_ 10 = true by simp [hdep]) hd_
      obtain ⟨⟨u0, c0⟩, z0, hR⟩ := ks11.out w1 hP
      have HF := Lib.hid (hN _ hR)
      clear F hP hR hN hdep
      go_simp
      have HG := HF.out
      refine HK.out _ _ ⟨?_, HG, HO.out⟩
      rw [pk_of (show upd d_ 11 6 = true from q6)]
      all_goals rfl
    · have HO : Hid (OrdP [[], [], [1], [0, 2], [], [4], [5], [], [7], [8], [0, 1, 2, 3], [0, 1, 2, 3, 4, 5, 6, 10], [0, 1, 2, 3, 4, 5, 6, 7, 8, 9, 10, 11]] (upd d_ 12)) := O.step (show ∀ e ∈ ([0, 1, 2, 3, 4, 5, 6, 7, 8, 9, 10, 11] : List Nat), d_ e = true by simp [hdep])
      have q9 : d_ 9 = true := by simp [hdep]
      clear O
      rw [pk_of q9]
      obtain ⟨hP, hN⟩ := ch5_s5 F (show d_ 11 = true by simp [hdep]) hd_
      obtain ⟨⟨u0, c0⟩, z0, hR⟩ := ks12.out w1 hP
      have HF := Lib.hid (hN _ hR)
      clear F hP hR hN hdep
      go_simp
      have HG := HF.out
      refine HK.out _ _ ⟨?_, HG, HO.out⟩
      rw [pk_of (show upd d_ 12 9 = true from q9)]
      all_goals rfl
  · rintro d_ a_ w1 hall ⟨rfl, F, O⟩
    have hall' : ∀ k, k < 13 → d_ k = true := hall
    rw [hall' 2 (by decide), hall' 3 (by decide), hall' 10 (by decide), hall' 11 (by decide), hall' 12 (by decide)] at F
    have HF := Lib.hid F
    clear F
    rw [pk_of (hall' 0 (by decide)), pk_of (hall' 1 (by decide)), pk_of (hall' 2 (by decide)), pk_of (hall' 3 (by decide)), pk_of (hall' 4 (by decide)), pk_of (hall' 5 (by decide)), pk_of (hall' 6 (by decide)), pk_of (hall' 7 (by decide)), pk_of (hall' 8 (by decide)), pk_of (hall' 9 (by decide))]
    exact HQ.out w1 HF.out
end Go.Proofs.YtbnhngfegnhaiaaDoor
namespace Go.Proofs.YtbnhngfegnhaiaaDoor
open Go.RowKit
set_option linter.unusedVariables false
set_option linter.unusedSimpArgs false
def prV (l : List (Nat × Nat)) : List Value := l.flatMap fun p => [.int .i64 p.1, .int .i64 p.2]
theorem prV_add (l : List (Nat × Nat)) (p : Nat × Nat) : prV (l ++ [p]) = prV l ++ [.int .i64 p.1, .int .i64 p.2] := by
  simp [prV]
theorem infoP : (Tryd.prog.info? 42).map (fun i => (i.zero, i.size, i.bytes)) = some (some (.agg #[.int .i64 0, .int .i64 0]), 2, 16) := by kernel_rfl
theorem app_pair {w : World} {base ms : Nat} {l : List (Nat × Nat)} {p : Nat × Nat} {q : Option Addr × Nat} (hl : l.length ≤ 100) (hb : base ≤ w.heap.size) (hx : w.ownsRow base 42 2 (.slice q.1 l.length q.2) l.length (prV l)) (hm : w.heap[ms]? = some (.cells #[.int .i64 p.1, .int .i64 p.2] 42 (0, 0))) :
    ∃ (q1 : Option Addr × Nat) (w' : World), (Builtin.append_ #[31, 31] 31 #[.slice q.1 l.length q.2, .slice (some ⟨ms, 0, none⟩) 1 1]).run Tryd.prog w = .ok (.slice q1.1 (l.length + 1) q1.2) w' ∧ w'.ownsRow base 42 2 (.slice q1.1 (l.length + 1) q1.2) (l.length + 1) (prV (l ++ [p])) ∧ w.grownBy w' (Value.slice q.1 l.length q.2).ownBlock ∧
      ((Value.slice q1.1 (l.length + 1) q1.2).ownBlock = (Value.slice q.1 l.length q.2).ownBlock ∨ (Value.slice q1.1 (l.length + 1) q1.2).ownBlock = some w.heap.size) := by
  obtain ⟨i0, hi0, hz0, hz1, hz2⟩ := info_parts infoP
  obtain ⟨v', w', hr, hn, hg, hor⟩ := append_rows_at (P := Tryd.prog) (w := w) base 31 31 42 i0 _ 2 16 Tryd.underlying31 hi0 hz0 hz1 hz2 rfl (by decide) _ l.length _ hx (some ⟨ms, 0, none⟩) 1 1 [.int .i64 p.1, .int .i64 p.2] rfl
    (fun _ => ⟨_, rfl, fun j u hj => by
      have e : ((⟨ms, 0, none⟩ : Addr).add j) = ⟨ms, j, none⟩ := by unfold Addr.add; split <;> simp_all
      rw [e, cell_of_heap hm, ← hj]
      simp⟩) (by intro u hu; simp at hu; rcases hu with rfl | rfl <;> rfl) (by simp [maxLen]; omega) (by omega) hb
  rw [← prV_add] at hn
  obtain ⟨a', c', rfl, _⟩ := own_slice hn
  exact ⟨(a', c'), w', hr, hn, hg, hor⟩
theorem own_ty {w : World} {base : Nat} {e : TypeId} {size : Nat} {v : Value} {n g : Nat} {xs : List Value} (h : w.ownsRow base e size v n xs) (hg : v.ownBlock = some g) : base ≤ g ∧ ∃ cur, w.heap[g]? = some (.cells cur e (0, 0)) := by
  rcases h.2 with ⟨rfl, _⟩ | ⟨g', cap, cur, rfl, hb, hh, _⟩
  · cases hg
  · cases hg
    exact ⟨hb, cur, hh⟩
theorem own_same {w w' : World} {M : Nat → Prop} {base : Nat} {e : TypeId} {size : Nat} {v : Value} {n : Nat} {xs : List Value} (h : w.ownsRow base e size v n xs) (hs : Same M w w') (hM : ∀ j, M j → v.ownBlock ≠ some j) : w'.ownsRow base e size v n xs := by
  refine ⟨h.1, ?_⟩
  rcases h.2 with hn | ⟨g, cap, cur, rfl, hb, hh, rest⟩
  · exact .inl hn
  · exact .inr ⟨g, cap, cur, rfl, hb, (hs.block g (heap_lt hh) (fun e => hM g e rfl)).trans hh, rest⟩
def fitT (r : Rws) : Nat → Bool := fun j => r.fit (j / 10) (j % 10)
theorem fitT_at (r : Rws) {a b : Nat} (hb : b < 10) : fitT r (a * 10 + b) = r.fit a b := by
  unfold fitT
  rw [show (a * 10 + b) / 10 = a by omega, show (a * 10 + b) % 10 = b by omega]
def fewU (r : Rws) : Nat → Int := dI (fun a c => fitT r (a * 10 + c)) r.left.length r.right.length 0 0
theorem fewU_at {r : Rws} (l2 : r.right.length ≤ 10) {a b : Nat} (ha : a ≤ r.left.length) (hb : b ≤ r.right.length) : fewU r (a * 11 + b) = (mst r.fit r.left.length r.right.length (r.left.length - a) (r.right.length - b) : Nat) := by
  unfold fewU
  rw [dI_at _ _ _ (by omega) (by omega)]
  exact congrArg (fun z : Nat => (z : Int)) (mst_congr (fun i k _ hk => fitT_at r (by omega)) _ _ (by omega) (by omega))
/-- What lies in memory while the way is gathered. -/
structure FewW (r : Rws) (al : Option Addr) (cl : Nat) (ar : Option Addr) (cr : Nat) (w0 : World) (b b2 b6 p7 : Nat) (x p8 p9 i k : Nat) (l : List (Nat × Nat)) (q : Option Addr × Nat) (V : World) : Prop where
  le : Below w0.heap.size w0 V
  rws : V.heap[b]? = some (.cells (rowsL r al cl ar cr (fitT r) r.need).toArray 130 (0, 0))
  tab : V.heap[b6]? = some (.cells (numL (fewU r)).toArray 72 (0, 0))
  left : V.heap[p7]? = some (.cells #[.int .i64 x] 3 (0, 0))
  ci : V.heap[p8]? = some (.cells #[.int .i64 i] 3 (0, 0))
  ck : V.heap[p9]? = some (.cells #[.int .i64 k] 3 (0, 0))
  row : V.heap[b2]? = some (.cells #[.slice q.1 l.length q.2] 31 (0, 0))
  own : V.ownsRow w0.heap.size 42 2 (.slice q.1 l.length q.2) l.length (prV l)
  lo : w0.heap.size ≤ b2 ∧ w0.heap.size ≤ p7 ∧ w0.heap.size ≤ p8 ∧ w0.heap.size ≤ p9
  ne : p7 ≠ p8 ∧ p7 ≠ p9 ∧ p8 ≠ p9
theorem FewW.keep {r : Rws} {al ar : Option Addr} {cl cr : Nat} {w0 : World} {b b2 b6 p7 x p8 p9 i k : Nat} {l : List (Nat × Nat)} {q : Option Addr × Nat} {V V' : World} {M : Nat → Prop} (h : FewW r al cl ar cr w0 b b2 b6 p7 x p8 p9 i k l q V) (hs : Same M V V')
    (hM : ∀ j, M j → w0.heap.size ≤ j ∧ (j < V.heap.size → (∀ c t f, V.heap[j]? ≠ some (.cells c t f)))) : FewW r al cl ar cr w0 b b2 b6 p7 x p8 p9 i k l q V' := by
  have hk : ∀ {j : Nat} {c : Array Value} {t : TypeId} {f : Nat × Nat}, V.heap[j]? = some (.cells c t f) → V'.heap[j]? = some (.cells c t f) := fun {j c t f} e => (hs.block j (heap_lt e) (fun m => (hM j m).2 (heap_lt e) c t f e)).trans e
  refine ⟨h.le.trans (hs.below h.le.size (fun j hj m => by have := (hM j m).1; omega)), hk h.rws, hk h.tab, hk h.left, hk h.ci, hk h.ck, hk h.row, own_same h.own hs (fun j m e => ?_), h.lo, h.ne⟩
  obtain ⟨_, cur, hc⟩ := own_ty h.own e
  exact (hM j m).2 (heap_lt hc) _ _ _ hc
/-- How far the way is gathered. -/
structure FewH (r : Rws) (x i k : Nat) (l : List (Nat × Nat)) : Prop where
  all : r.few = l ++ fewL r.fit r.left.length r.right.length x i k
  hi : i ≤ r.left.length
  hk : k ≤ r.right.length
  most : mst r.fit r.left.length r.right.length (r.left.length - i) (r.right.length - k) = x
theorem FewH.step {r : Rws} {y i k : Nat} {l : List (Nat × Nat)} (h : FewH r (y + 1) i k l) : ∃ p, (pairsFrom r.fit r.left.length r.right.length i k).find? (goodP r.fit r.left.length r.right.length (y + 1)) = some p ∧ FewH r y (p.1 + 1) (p.2 + 1) (l ++ [p]) := by
  obtain ⟨p, hf, g1, g2, g3, g4, g5, g6⟩ := few_find h.hi h.hk h.most
  refine ⟨p, hf, ⟨?_, by omega, by omega, g6⟩⟩
  rw [h.all]
  conv => lhs; unfold fewL
  rw [hf]
  simp
/-- What holds while pairs are looked at: none yet. -/
structure FewI (r : Rws) (i k x : Nat) (w5 : World) (L : List (Nat × Nat)) (V : World) (C : Nat → Prop) : Prop where
  le : Below w5.heap.size w5 V
  find : (pairsFrom r.fit r.left.length r.right.length i k).find? (goodP r.fit r.left.length r.right.length x) = L.find? (goodP r.fit r.left.length r.right.length x)
  dn : ∃ dn, pairsFrom r.fit r.left.length r.right.length i k = dn ++ L
  hC : ∀ j, j < w5.heap.size + 2 → C j
/-- What holds when one has been found. -/
structure FewX (r : Rws) (al : Option Addr) (cl : Nat) (ar : Option Addr) (cr : Nat) (w0 : World) (b b2 b6 p7 x p8 p9 i k : Nat) (l : List (Nat × Nat)) (w5 : World) (c : Code) (V : World) : Prop where
  code : c = .exit 2
  got : ∃ p q', (pairsFrom r.fit r.left.length r.right.length i k).find? (goodP r.fit r.left.length r.right.length x) = some p ∧ FewW r al cl ar cr w0 b b2 b6 p7 x p8 p9 (p.1 + 1) (p.2 + 1) (l ++ [p]) q' V ∧ (Value.slice q'.1 (l ++ [p]).length q'.2).ownBlock ≠ some (w5.heap.size + 1)
  marks : ∀ j, j < w5.heap.size → w5.heap[j]? = some (.deferred (some [])) → V.heap[j]? = some (.deferred (some []))
  big : w5.heap.size + 1 < V.heap.size
theorem FewW.keep2 {r : Rws} {al ar : Option Addr} {cl cr : Nat} {w0 : World} {b b2 b6 p7 x p8 p9 i k : Nat} {l : List (Nat × Nat)} {q : Option Addr × Nat} {V V' : World} {M : Nat → Prop} (h : FewW r al cl ar cr w0 b b2 b6 p7 x p8 p9 i k l q V) (hs : Same M V V')
    (hM : ∀ j, M j → w0.heap.size ≤ j ∧ j ≠ b ∧ j ≠ b2 ∧ j ≠ b6 ∧ j ≠ p7 ∧ j ≠ p8 ∧ j ≠ p9 ∧ (Value.slice q.1 l.length q.2).ownBlock ≠ some j) : FewW r al cl ar cr w0 b b2 b6 p7 x p8 p9 i k l q V' := by
  have hk : ∀ {j : Nat} {c : Array Value} {t : TypeId} {f : Nat × Nat}, ¬ M j → V.heap[j]? = some (.cells c t f) → V'.heap[j]? = some (.cells c t f) := fun {j c t f} hn e => (hs.block j (heap_lt e) hn).trans e
  exact ⟨h.le.trans (hs.below h.le.size (fun j hj m => by have := (hM j m).1; omega)), hk (fun m => (hM _ m).2.1 rfl) h.rws, hk (fun m => (hM _ m).2.2.2.1 rfl) h.tab, hk (fun m => (hM _ m).2.2.2.2.1 rfl) h.left, hk (fun m => (hM _ m).2.2.2.2.2.1 rfl) h.ci, hk (fun m => (hM _ m).2.2.2.2.2.2.1 rfl) h.ck, hk (fun m => (hM _ m).2.2.1 rfl) h.row,
    own_same h.own hs (fun j m => (hM j m).2.2.2.2.2.2.2), h.lo, h.ne⟩
attribute [local go_sem] Oper.semAt_some
theorem cell_at0 {w : World} {b : Nat} {v : Value} {t : TypeId} {f : Nat × Nat} (h : w.heap[b]? = some (.cells #[v] t f)) : w.cell? ⟨b, 0, none⟩ = some v := by rw [cell_of_heap h]; rfl
noncomputable def few10C : Code := (Tryd.f7.body.bind (fromRegion 10)).getD .skip
set_option maxRecDepth 100000 in
set_option maxHeartbeats 16000000 in
theorem few10 {r : Rws} {al ar : Option Addr} {cl cr : Nat} {w0 V : World} {b b2 b6 p7 y p8 p9 i k : Nat} {l : List (Nat × Nat)} {q : Option Addr × Nat} {Q : Exit → Act → World → Prop} (l1 : r.left.length ≤ 10) (l2 : r.right.length ≤ 10) (hm : IsMks w0 al r.left ∧ IsMks w0 ar r.right) (hl : l.length ≤ 10)
    (hI : FewW r al cl ar cr w0 b b2 b6 p7 (y + 1) p8 p9 i k l q V) (hH : FewH r (y + 1) i k l) {s0 s1 s3 s4 s10 s11 s12 s13 s14 s15 s16 s17 s18 s19 s20 s21 s22 s23 s24 s25 s26 s27 s28 s29 s30 s31 s32 s33 s34 s35 s36 s37 s38 s39 s40 s41 s42 s43 s44 s45 s46 s47 s48 s49 s50 s51 s52 s53 s54 s55 s56 s57 s58 s59 s60 s61 s62 s63 s64 s65 s66 s67 s68 : Value} {dd : List Deferred}
    (hQ : ∀ (D : Nat) (p : Nat × Nat) (q' : Option Addr × Nat) (W : World), V.heap.size ≤ D → W.heap[D]? = some (.deferred (some [])) → (∀ j, j < V.heap.size → V.heap[j]? = some (.deferred (some [])) → W.heap[j]? = some (.deferred (some []))) →
      FewW r al cl ar cr w0 b b2 b6 p7 (y + 1) p8 p9 (p.1 + 1) (p.2 + 1) (l ++ [p]) q' W → FewH r y (p.1 + 1) (p.2 + 1) (l ++ [p]) → Q .normal { tmps := List.toArray (s0 :: s1 :: .pointer (some ⟨b2, 0, none⟩) :: s3 :: s4 :: .pointer (some ⟨b, 0, none⟩) :: .pointer (some ⟨b6, 0, none⟩) :: .pointer (some ⟨p7, 0, none⟩) :: .pointer (some ⟨p8, 0, none⟩) :: .pointer (some ⟨p9, 0, none⟩) :: s10 :: s11 :: s12 :: s13 :: s14 :: s15 :: s16 :: s17 :: s18 :: s19 :: s20 :: s21 :: s22 :: s23 :: s24 :: s25 :: s26 :: s27 :: s28 :: s29 :: s30 :: s31 :: s32 :: s33 :: s34 :: s35 :: s36 :: s37 :: .pointer (some ⟨b, 0, none⟩) :: .int .i64 ((i : Int)) :: .int .i64 ((k : Int)) :: .func (.func 67) #[] #[.pointer (some ⟨V.heap.size + 1, 0, none⟩), .pointer (some ⟨V.heap.size, 0, none⟩), .pointer (some ⟨V.heap.size + 2, 0, none⟩)] :: s42 :: s43 :: s44 :: s45 :: s46 :: s47 :: s48 :: s49 :: s50 :: s51 :: s52 :: s53 :: s54 :: s55 :: s56 :: s57 :: s58 :: s59 :: s60 :: s61 :: s62 :: s63 :: s64 :: s65 :: s66 :: s67 :: s68 :: []), defers := { target := .collected D, args := #[] } :: dd } W) :
    Code.wp Tryd.prog few10C Q { tmps := List.toArray (s0 :: s1 :: .pointer (some ⟨b2, 0, none⟩) :: s3 :: s4 :: .pointer (some ⟨b, 0, none⟩) :: .pointer (some ⟨b6, 0, none⟩) :: .pointer (some ⟨p7, 0, none⟩) :: .pointer (some ⟨p8, 0, none⟩) :: .pointer (some ⟨p9, 0, none⟩) :: s10 :: s11 :: s12 :: s13 :: s14 :: s15 :: s16 :: s17 :: s18 :: s19 :: s20 :: s21 :: s22 :: s23 :: s24 :: s25 :: s26 :: s27 :: s28 :: s29 :: s30 :: s31 :: s32 :: s33 :: s34 :: s35 :: s36 :: s37 :: s38 :: s39 :: s40 :: s41 :: s42 :: s43 :: s44 :: s45 :: s46 :: s47 :: s48 :: s49 :: s50 :: s51 :: s52 :: s53 :: s54 :: s55 :: s56 :: s57 :: s58 :: s59 :: s60 :: s61 :: s62 :: s63 :: s64 :: s65 :: s66 :: s67 :: s68 :: []), defers := dd } V := by
  have HQ := Lib.hid hQ
  have HI := Lib.hid hI
  have HH := Lib.hid hH
  have HM := Lib.hid hm
  have HL := Lib.hid (And.intro l1 (And.intro l2 hl))
  have c8 := cell_at0 hI.ci
  have c9 := cell_at0 hI.ck
  clear hQ hI hH hm hl l1 l2
  conv => arg 2; whnf
  refine wp_seq_hid ?_
  intro K HK
  go_wp2_with fail
  refine (pairs70 (i := i) (k := k) V).mono ?_
  rintro e w5 ⟨rfl, hw5⟩
  have HW5 : Hid (Below V.heap.size V w5 ∧ w5.heap.size = V.heap.size + 3 ∧ w5.heap[V.heap.size]? = some (.cells #[.pointer (some ⟨b, 0, none⟩)] 68 (0, 0)) ∧ w5.heap[V.heap.size + 1]? = some (.cells #[.int .i64 i] 3 (0, 0)) ∧ w5.heap[V.heap.size + 2]? = some (.cells #[.int .i64 k] 3 (0, 0))) := by
    obtain ⟨g1, g2, g3, g4⟩ := alloc3 V #[.pointer (some ⟨b, 0, none⟩)] #[.int .i64 i] #[.int .i64 k] 68 3 3 _ rfl
    rw [hw5]
    exact ⟨g4, by simp, g1, g2, g3⟩
  clear hw5 c8 c9
  go_wp2_with fail
  refine HK.out _ _ ?_
  clear HK K
  refine wp_block ?_
  have HPC : Hid (pairsFrom (fun a c => fitT r (a * 10 + c)) r.left.length r.right.length i k = pairsFrom r.fit r.left.length r.right.length i k) := pairs_congr (fun a c _ hc => fitT_at r (by have := HL.out.2.1; omega)) i k
  have HOB : Hid (∀ j, (Value.slice q.1 l.length q.2).ownBlock = some j → w0.heap.size ≤ j ∧ j < V.heap.size ∧ ∃ cur, V.heap[j]? = some (.cells cur 42 (0, 0))) := fun j hj => by
    obtain ⟨h1, cur, h2⟩ := own_ty HI.out.own hj
    exact ⟨h1, heap_lt h2, cur, h2⟩
  have hz5 := HW5.out.2.1
  have hbl : b2 < V.heap.size ∧ p8 < V.heap.size ∧ p9 < V.heap.size := ⟨heap_lt HI.out.row, heap_lt HI.out.ci, heap_lt HI.out.ck⟩
  refine wp_rangeFuncM (gf := 67) (lb := #[.pointer (some ⟨V.heap.size + 1, 0, none⟩), .pointer (some ⟨V.heap.size, 0, none⟩), .pointer (some ⟨V.heap.size + 2, 0, none⟩)]) rfl (fun args w => by simp [callFunc, Tryd.func67, Tryd.f67, go_sem]) (pairsFrom r.fit r.left.length r.right.length i k) PrOk
    (fun j => j = b2 ∨ j = p8 ∨ j = p9 ∨ (Value.slice q.1 l.length q.2).ownBlock = some j ∨ j = w5.heap.size + 1) ?hps ?hMD (by simp) ?hit
    (fun L V C => FewI r i k (y + 1) w5 L V C) (fun c _ V C => FewX r al cl ar cr w0 b b2 b6 p7 (y + 1) p8 p9 i k l w5 c V) ?hI ?hIx ?h0 ?hround ?hdone ?hstop
  case hps =>
    rintro x v A K ⟨rfl, _⟩
    rfl
  case hMD =>
    rintro (e | e | e | e | e)
    · omega
    · omega
    · omega
    · have := (HOB.out _ e).2.1; omega
    · omega
  case hit =>
    intro W hb hsz
    rw [← HPC.out]
    have hi := HH.out.hi
    have hk := HH.out.hk
    have g1 := HL.out.1
    have g2 := HL.out.2.1
    refine pairs_iter (r := r) (b := b) (al := al) (ar := ar) (cl := cl) (cr := cr) (T := fitT r) (need := r.need) HL.out.1 HL.out.2.1 (by omega) (by omega) (fun A hA => ?_)
    obtain ⟨g1, g2, g3, g4, g5⟩ := HW5.out
    have hn : ∀ j c t f, w5.heap[j]? = some (.cells c t f) → j ≠ b2 → j ≠ p8 → j ≠ p9 → (Value.slice q.1 l.length q.2).ownBlock ≠ some j → A.heap[j]? = some (.cells c t f) := fun j c t f h1 h2 h3 h4 h5 => ((hA.block j (by have := heap_lt h1; omega) (fun e => by
      rcases e with e | e | e | e | e
      · exact h2 e
      · exact h3 e
      · exact h4 e
      · exact h5 e
      · have := heap_lt h1; omega)).trans (hb.block j (heap_lt h1))).trans h1
    have hnew : ∀ j, V.heap.size ≤ j → j ≠ b2 ∧ j ≠ p8 ∧ j ≠ p9 ∧ (Value.slice q.1 l.length q.2).ownBlock ≠ some j := fun j hj => ⟨by omega, by omega, by omega, fun e => by have := (HOB.out _ e).2.1; omega⟩
    have hAw : Below w0.heap.size w0 A := by
      have h1 : Below w0.heap.size w0 W := HI.out.le.trans ((g1.trans (hb.mono g1.size)).mono HI.out.le.size)
      refine h1.trans (hA.below h1.size (fun j hj e => ?_))
      obtain ⟨e1, e2, e3, e4⟩ := HI.out.lo
      have hls := HI.out.le.size
      rcases e with e | e | e | e | e
      · omega
      · omega
      · omega
      · have := (HOB.out _ e).1; omega
      · omega
    have hrb : A.heap[b]? = some (.cells (rowsL r al cl ar cr (fitT r) r.need).toArray 130 (0, 0)) := by
      have h5 := (g1.block _ (heap_lt HI.out.rws)).trans HI.out.rws
      refine hn b _ _ _ h5 (fun e => ?_) (fun e => ?_) (fun e => ?_) (fun e => ?_)
      · have := HI.out.rws; rw [e, HI.out.row] at this; simp at this
      · have := HI.out.rws; rw [e, HI.out.ci] at this; simp at this
      · have := HI.out.rws; rw [e, HI.out.ck] at this; simp at this
      · obtain ⟨_, _, cur, h⟩ := HOB.out _ e
        have := HI.out.rws; rw [h] at this; simp at this
    have t1 := hnew V.heap.size (Nat.le_refl _)
    have t2 := hnew (V.heap.size + 1) (by omega)
    have t3 := hnew (V.heap.size + 2) (by omega)
    exact ⟨cell_at0 (hn _ _ _ _ g4 t2.1 t2.2.1 t2.2.2.1 t2.2.2.2), cell_at0 (hn _ _ _ _ g3 t1.1 t1.2.1 t1.2.2.1 t1.2.2.2), cell_at0 (hn _ _ _ _ g5 t3.1 t3.2.1 t3.2.2.1 t3.2.2.2), ⟨hrb, HM.out.1.mono hAw, HM.out.2.mono hAw⟩⟩
  case hI =>
    intro i' A B C h hs
    exact ⟨h.le.trans (hs.below h.le.size (fun j hj e => by omega)), h.find, h.dn, h.hC⟩
  case hIx =>
    intro c i' A B C h hs
    refine ⟨h.code, ?_, fun j hj hd => (hs.block j (by have := h.big; omega) (by omega)).trans (h.marks j hj hd), by have := hs.size; have := h.big; omega⟩
    obtain ⟨p, q', h1, h2, h3⟩ := h.got
    refine ⟨p, q', h1, h2.keep2 hs (fun j e => ?_), h3⟩
    subst e
    have g1 := HI.out.le.size
    have g2 := HW5.out.1.size
    have g3 := heap_lt HI.out.rws
    have g4 := heap_lt HI.out.tab
    have g5 := heap_lt HI.out.left
    exact ⟨by omega, by omega, by omega, by omega, by omega, by omega, by omega, h3⟩
  case h0 =>
    intro W hb hsz
    exact ⟨hb, rfl, ⟨[], rfl⟩, fun j hj => hj⟩
  case hdone =>
    rintro W C h hdef
    exfalso
    obtain ⟨p, hp, _⟩ := HH.out.step
    rw [h.find] at hp
    cases hp
  case hstop =>
    rintro c L W C h hdef
    obtain ⟨p, q', h1, h2, _⟩ := h.got
    obtain ⟨p', hp', hH'⟩ := HH.out.step
    rw [h1] at hp'
    obtain rfl := Option.some.inj hp'
    rw [h.code]
    refine wp_exit ?_
    exact HQ.out w5.heap.size p q' W (by omega) hdef (fun j hj hd => h.marks j (by omega) ((HW5.out.1.block j hj).trans hd)) h2 hH'
  case hround =>
    rintro x L v V1 C K ⟨rfl, rfl⟩ hKC hC hi hlt
    have HHi := Lib.hid (And.intro hi (And.intro hC hlt))
    clear hi hC hlt hKC
    gi_wp2_with fail
    refine ⟨(Below.refl _ _).alloc (Nat.le_refl _) _, fun V2 hS2 hsz2 => ?_⟩
    obtain ⟨hi, hC, hlt⟩ := HHi.out
    have hmem : x ∈ pairsFrom r.fit r.left.length r.right.length i k := by
      obtain ⟨dn, e⟩ := hi.dn
      rw [e]
      simp
    obtain ⟨x1, x2, x3, x4, _⟩ := mem_pairs.1 hmem
    obtain ⟨l1, l2, hl⟩ := HL.out
    have hszV : (V1.alloc (.cells #[.int .i64 x.1, .int .i64 x.2] 42)).heap.size = V1.heap.size + 1 := by simp
    have hb5V : Below w5.heap.size w5 V2 := by
      refine (hi.le.trans ((alloc_below V1 (.cells #[.int .i64 x.1, .int .i64 x.2] 42)).mono hi.le.size)).trans (hS2.below ?_ (fun j hj e => by omega))
      have := hi.le.size
      omega
    have h10 : V2.heap[V1.heap.size]? = some (.cells #[.int .i64 x.1, .int .i64 x.2] 42 (0, 0)) := (hS2.block _ (by omega) (by omega)).trans (World.alloc_heap_new V1 _)
    have hV2 : FewW r al cl ar cr w0 b b2 b6 p7 (y + 1) p8 p9 i k l q V2 := HI.out.keep (Same.of_below (fun _ => False) (HW5.out.1.trans (hb5V.mono HW5.out.1.size))) (fun j e => e.elim)
    have hz2 : V1.heap.size + 1 ≤ V2.heap.size := by omega
    have hcu : V2.heap[b6]? = some (.cells (numL (fewU r)).toArray 72 (0, 0)) := hV2.tab
    have hy0 := fewU_at (r := r) l2 (a := x.1 + 1) (b := x.2 + 1) (by omega) (by omega)
    have hcell : V2.cell? ⟨b6, (x.1 + 1) * 11 + (x.2 + 1), none⟩ = some (.int .i64 (mst r.fit r.left.length r.right.length (r.left.length - (x.1 + 1)) (r.right.length - (x.2 + 1)) : Nat)) := by
      rw [num_cell hcu (by omega), hy0]
    have hmle : mst r.fit r.left.length r.right.length (r.left.length - (x.1 + 1)) (r.right.length - (x.2 + 1)) ≤ 10 := Nat.le_trans (mst_le _ _ _ _ _) (by omega)
    have hgd : goodP r.fit r.left.length r.right.length (y + 1) x = ((1 + ((mst r.fit r.left.length r.right.length (r.left.length - (x.1 + 1)) (r.right.length - (x.2 + 1)) : Nat) : Int)) == ((y + 1 : Nat) : Int)) := by
      unfold goodP
      rw [Bool.eq_iff_iff]
      simp only [decide_eq_true_eq, beq_iff_eq]
      omega
    have hfd := hi.find
    rw [List.find?_cons] at hfd
    have hly : y + 1 ≤ 10 := by rw [← HH.out.most]; exact Nat.le_trans (mst_le _ _ _ _ _) (by omega)
    have HF := Lib.hid (And.intro hb5V (And.intro h10 (And.intro hV2 (And.intro hz2 (And.intro hfd (And.intro hmem hS2))))))
    revert hcell hmle hgd
    generalize ((mst r.fit r.left.length r.right.length (r.left.length - (x.1 + 1)) (r.right.length - (x.2 + 1)) : Nat)) = y0
    intro hcell hmle hgd
    have HCE := Lib.hid hcell
    have HGD := Lib.hid hgd
    clear hb5V h10 hV2 hz2 hcu hy0 hcell hgd hfd hS2 hsz2 hszV
    refine wpIn_block ?_
    refine wpIn_seq ?_
    refine few12 (b6 := b6) (p7 := p7) (p10 := V1.heap.size) (rl := w5.heap.size + 1) (a := x.1) (c := x.2) (p := x.1 + 1) (q := x.2 + 1) (x := ((y + 1 : Nat) : Int)) (y := (y0 : Int)) (y1 := 1 + (y0 : Int)) (b := goodP r.fit r.left.length r.right.length (y + 1) x) (P0 := fun v => v = V2.drew)
      (by rw [IntWalk.i64_in _ (by omega)]; omega) (by rw [IntWalk.i64_in _ (by omega)]; omega) (IntWalk.i64_in _ (by omega)) HGD.out.symm (by omega) (by omega) (by omega) (by omega) rfl ?l1 ?l4 ?l8 ?l10 ?hQ
    case l1 => rintro v rfl; exact (cell_of_heap (w := V2.drew) HF.out.2.1).trans rfl
    case l4 => rintro v rfl; exact (cell_of_heap (w := V2.drew) HF.out.2.1).trans rfl
    case l8 => rintro v rfl; exact HCE.out
    case l10 => rintro v rfl; exact cell_at0 HF.out.2.2.1.left
    rintro w' rfl
    obtain ⟨hb5V, h10, hV2, hz2, hfd, hmem, hS2⟩ := HF.out
    have hCC : ∀ {V3 : World}, V2.heap.size ≤ V3.heap.size → ∀ j, j < w5.heap.size + 2 → C j ∧ j < V3.heap.size := fun {V3} h j hj => ⟨hC j hj, by omega⟩
    cases hg : goodP r.fit r.left.length r.right.length (y + 1) x
    · refine wpIn_cond_false rfl ?_
      refine wpIn_skip ?_
      rw [hg] at hfd
      refine ⟨(Same.refl _ _).drew, rfl, fun j => C j ∧ j < V2.drew.heap.size, hCC (Nat.le_refl _), fun j h => h.2, fun j h => .inl h.1, ⟨hb5V.drew, hfd, ?_, fun j hj => hCC (V3 := V2.drew) (Nat.le_refl _) j hj⟩⟩
      obtain ⟨dn, e⟩ := hi.dn
      exact ⟨dn ++ [x], by rw [e]; simp⟩
    · refine wpIn_cond_true rfl ?_
      refine wpIn_seq ?_
      rw [hg] at hfd
      obtain ⟨W2, hW2⟩ : ∃ W2, W2 = V2.drew.drew := ⟨_, rfl⟩
      have hz2' : W2.heap.size = V2.heap.size := by rw [hW2]; rfl
      have hd2 : ∀ j : Nat, W2.heap[j]? = V2.heap[j]? := fun j => by rw [hW2]; rfl
      have hA0 := World.alloc_heap_new W2 (.cells #[.int .i64 x.1, .int .i64 x.2] 42)
      rw [hz2'] at hA0
      have hbA : Below V2.heap.size V2 (W2.alloc (.cells #[.int .i64 x.1, .int .i64 x.2] 42)) := by rw [hW2]; exact (Below.refl _ V2).drew.drew.alloc (Nat.le_refl _) _
      obtain ⟨q1, w9, hrun, hown, hgr, hor⟩ := app_pair (w := W2.alloc (.cells #[.int .i64 x.1, .int .i64 x.2] 42)) (base := w0.heap.size) (ms := V2.heap.size) (l := l) (p := x) (q := q) (by omega) (Nat.le_trans hV2.le.size hbA.size) (own_below hV2.own hbA) hA0
      have hne : ∀ {j : Nat} {c : Array Value} {t : TypeId} {f : Nat × Nat}, V2.heap[j]? = some (.cells c t f) → t ≠ 42 → some j ≠ (Value.slice q.1 l.length q.2).ownBlock := fun {j c t f} hj ht e => by
        obtain ⟨_, cur, h⟩ := own_ty hV2.own e.symm
        rw [hj] at h
        simp at h
        exact ht h.2.1
      have h9 : ∀ {j : Nat} {c : Array Value} {t : TypeId} {f : Nat × Nat}, V2.heap[j]? = some (.cells c t f) → some j ≠ (Value.slice q.1 l.length q.2).ownBlock → w9.heap[j]? = some (.cells c t f) := fun {j c t f} hj ht => (hgr.block _ (Nat.lt_of_lt_of_le (heap_lt hj) hbA.size) ht).trans ((hbA.block _ (heap_lt hj)).trans hj)
      have g10 : w9.heap[V1.heap.size]? = some (.cells #[.int .i64 x.1, .int .i64 x.2] 42 (0, 0)) := h9 h10 (fun e => by have := (HOB.out _ e.symm).2.1; have := hi.le.size; omega)
      have g2 := h9 hV2.row (hne hV2.row (by decide))
      have g8 := h9 hV2.ci (hne hV2.ci (by decide))
      have g9 := h9 hV2.ck (hne hV2.ck (by decide))
      have e28 : b2 ≠ p8 := fun e => by have := hV2.row; rw [e, hV2.ci] at this; simp at this
      have e29 : b2 ≠ p9 := fun e => by have := hV2.row; rw [e, hV2.ck] at this; simp at this
      have e89 := hV2.ne.2.2
      have e10 : V1.heap.size ≠ b2 ∧ V1.heap.size ≠ p8 ∧ V1.heap.size ≠ p9 := by
        have := hi.le.size
        omega
      have S9 : Same (fun j => j = b2 ∨ j = p8 ∨ j = p9 ∨ (Value.slice q.1 l.length q.2).ownBlock = some j) V2 w9 := by
        have h1 : Same (fun j => j = b2 ∨ j = p8 ∨ j = p9 ∨ (Value.slice q.1 l.length q.2).ownBlock = some j) V2 (W2.alloc (.cells #[.int .i64 x.1, .int .i64 x.2] 42)) := by rw [hW2]; exact ((Same.refl _ V2).drew.drew).alloc _
        exact h1.grown hgr (fun k e => .inl (.inr (.inr (.inr e))))
      obtain ⟨wa, hwa⟩ : ∃ wa, wa = w9.setCell ⟨b2, 0, none⟩ (.slice q1.1 (l.length + 1) q1.2) := ⟨_, rfl⟩
      obtain ⟨wb, hwb⟩ : ∃ wb, wb = wa.setCell ⟨p8, 0, none⟩ (.int .i64 ((x.1 + 1 : Nat) : Int)) := ⟨_, rfl⟩
      obtain ⟨wc, hwc⟩ : ∃ wc, wc = wb.setCell ⟨p9, 0, none⟩ (.int .i64 ((x.2 + 1 : Nat) : Int)) := ⟨_, rfl⟩
      have a2 : wa.heap[b2]? = some (.cells #[.slice q1.1 (l.length + 1) q1.2] 31 (0, 0)) := by rw [hwa]; exact heap_setCell_at (k := 0) g2 _
      have aN : ∀ {j : Nat}, j ≠ b2 → wa.heap[j]? = w9.heap[j]? := fun {j} h => by rw [hwa]; exact Below.heap_setCell _ _ _ _ h
      have b8 : wb.heap[p8]? = some (.cells #[.int .i64 ((x.1 + 1 : Nat) : Int)] 3 (0, 0)) := by rw [hwb]; exact heap_setCell_at (k := 0) ((aN (Ne.symm e28)).trans g8) _
      have bN : ∀ {j : Nat}, j ≠ p8 → wb.heap[j]? = wa.heap[j]? := fun {j} h => by rw [hwb]; exact Below.heap_setCell _ _ _ _ h
      have c9 : wc.heap[p9]? = some (.cells #[.int .i64 ((x.2 + 1 : Nat) : Int)] 3 (0, 0)) := by rw [hwc]; exact heap_setCell_at (k := 0) ((bN (Ne.symm e89)).trans ((aN (Ne.symm e29)).trans g9)) _
      have cN : ∀ {j : Nat}, j ≠ p9 → wc.heap[j]? = wb.heap[j]? := fun {j} h => by rw [hwc]; exact Below.heap_setCell _ _ _ _ h
      have SC : Same (fun j => j = b2 ∨ j = p8 ∨ j = p9 ∨ (Value.slice q.1 l.length q.2).ownBlock = some j) V2 wc := by
        rw [hwc, hwb, hwa]
        exact ((S9.setCell (p := ⟨b2, 0, none⟩) (.inl (.inl rfl)) _).setCell (p := ⟨p8, 0, none⟩) (.inl (.inr (.inl rfl))) _).setCell (p := ⟨p9, 0, none⟩) (.inl (.inr (.inr (.inl rfl)))) _
      have S2 : Same (fun j => j = b2 ∨ j = p8 ∨ j = p9) w9 wc := by
        rw [hwc, hwb, hwa]
        exact (((Same.refl _ w9).setCell (p := ⟨b2, 0, none⟩) (.inl (.inl rfl)) _).setCell (p := ⟨p8, 0, none⟩) (.inl (.inr (.inl rfl))) _).setCell (p := ⟨p9, 0, none⟩) (.inl (.inr (.inr rfl))) _
      have hmi : wc.heap[b]? = some (.cells (rowsL r al cl ar cr (fitT r) r.need).toArray 130 (0, 0)) ∧ wc.heap[b6]? = some (.cells (numL (fewU r)).toArray 72 (0, 0)) ∧ wc.heap[p7]? = some (.cells #[.int .i64 ((y + 1 : Nat) : Int)] 3 (0, 0)) := by
        have k1 := h9 hV2.rws (hne hV2.rws (by decide))
        have k2 := h9 hV2.tab (hne hV2.tab (by decide))
        have k3 := h9 hV2.left (hne hV2.left (by decide))
        refine ⟨(S2.block _ (heap_lt k1) (fun e => ?_)).trans k1, (S2.block _ (heap_lt k2) (fun e => ?_)).trans k2, (S2.block _ (heap_lt k3) (fun e => ?_)).trans k3⟩
        · rcases e with e | e | e <;> rw [e] at k1
          · rw [g2] at k1; simp at k1
          · rw [g8] at k1; simp at k1
          · rw [g9] at k1; simp at k1
        · rcases e with e | e | e <;> rw [e] at k2
          · rw [g2] at k2; simp at k2
          · rw [g8] at k2; simp at k2
          · rw [g9] at k2; simp at k2
        · rcases e with e | e | e
          · rw [e, g2] at k3; simp at k3
          · exact hV2.ne.1 e
          · exact hV2.ne.2.1 e
      have hob1 : ∀ j, (Value.slice q1.1 (l.length + 1) q1.2).ownBlock = some j → j ≠ b2 ∧ j ≠ p8 ∧ j ≠ p9 ∧ j ≠ w5.heap.size + 1 := fun j e => by
        have hz9 : (W2.alloc (.cells #[.int .i64 x.1, .int .i64 x.2] 42)).heap.size = V2.heap.size + 1 := by rw [World.size_alloc, hz2']
        rcases hor with h | h
        · rw [h] at e
          refine ⟨fun h' => ?_, fun h' => ?_, fun h' => ?_, ?_⟩
          · rw [h'] at e; exact hne hV2.row (by decide) e.symm
          · rw [h'] at e; exact hne hV2.ci (by decide) e.symm
          · rw [h'] at e; exact hne hV2.ck (by decide) e.symm
          · have := (HOB.out _ e).2.1
            omega
        · rw [h, hz9] at e
          have e' := Option.some.inj e
          have := hb5V.size
          omega
      have hFW : FewW r al cl ar cr w0 b b2 b6 p7 (y + 1) p8 p9 (x.1 + 1) (x.2 + 1) (l ++ [x]) q1 wc := by
        obtain ⟨o1, o2, o3, o4⟩ := hV2.lo
        refine ⟨hV2.le.trans (SC.below hV2.le.size (fun j hj e => ?_)), hmi.1, hmi.2.1, hmi.2.2, (cN e89).trans b8, c9, ?_, ?_, hV2.lo, hV2.ne⟩
        · rcases e with e | e | e | e
          · omega
          · omega
          · omega
          · have := (HOB.out _ e).1; omega
        · rw [List.length_append]
          exact (cN e29).trans ((bN e28).trans a2)
        · rw [List.length_append]
          exact own_same hown S2 (fun j hj e => by
            obtain ⟨f1, f2, f3, _⟩ := hob1 j e
            rcases hj with hj | hj | hj
            · exact f1 hj
            · exact f2 hj
            · exact f3 hj)
      have hst : ∀ w : World, (w = W2 ∨ w = W2.alloc (.cells #[.int .i64 x.1, .int .i64 x.2] 42) ∨ w = w9 ∨ w = wa ∨ w = wb ∨ w = wc) → w.heap[V1.heap.size]? = some (.cells #[.int .i64 x.1, .int .i64 x.2] 42 (0, 0)) := by
        rintro w (rfl | rfl | rfl | rfl | rfl | rfl)
        · rw [hd2]; exact h10
        · exact (hbA.block _ (heap_lt h10)).trans h10
        · exact g10
        · exact (aN e10.1).trans g10
        · exact (bN e10.2.1).trans ((aN e10.1).trans g10)
        · exact (cN e10.2.2).trans ((bN e10.2.1).trans ((aN e10.1).trans g10))
      have HG := Lib.hid (And.intro hrun (And.intro hst (And.intro hFW (And.intro SC (And.intro hob1 (And.intro hV2 (And.intro hbA (And.intro hb5V hfd))))))))
      have HC2 := Lib.hid (And.intro g2 (And.intro ((aN (Ne.symm e28)).trans g8) ((bN (Ne.symm e89)).trans ((aN (Ne.symm e29)).trans g9))))
      refine few13 (b2 := b2) (p8 := p8) (p9 := p9) (p10 := V1.heap.size) (rl := w5.heap.size + 1) (a := x.1) (c := x.2) (p := x.1 + 1) (q := x.2 + 1) (N := V2.heap.size) (n := l.length) (g := q.1) (cw := q.2) (g1 := q1.1) (cw1 := q1.2)
        (P0 := fun v => v = W2) (P1 := fun v => v = W2.alloc (.cells #[.int .i64 x.1, .int .i64 x.2] 42)) (P2 := fun v => v = w9) (P3 := fun v => v = wa) (P4 := fun v => v = wb) (P5 := fun v => v = wc)
        (by rw [IntWalk.i64_in _ (by omega)]; omega) (by rw [IntWalk.i64_in _ (by omega)]; omega) hW2.symm ?m0 ?m1 ?a2 ?r3 ?m5 ?m8 ?s10 ?s11 ?s12 ?hQ2
      case m0 =>
        rintro v (rfl | rfl)
        · exact cell_at0 (by rw [hd2]; exact HG.out.2.2.2.2.2.1.row)
        · exact cell_at0 ((HG.out.2.2.2.2.2.2.1.block _ (heap_lt HG.out.2.2.2.2.2.1.row)).trans HG.out.2.2.2.2.2.1.row)
      case m1 => exact fun v h => ⟨(cell_of_heap (HG.out.2.1 v h)).trans rfl, (cell_of_heap (HG.out.2.1 v h)).trans rfl⟩
      case a2 => rintro v rfl; exact ⟨hz2', rfl⟩
      case r3 => rintro v rfl; exact ⟨w9, HG.out.1, rfl⟩
      case m5 => exact fun v h => (cell_of_heap (HG.out.2.1 v h)).trans rfl
      case m8 => exact fun v h => (cell_of_heap (HG.out.2.1 v h)).trans rfl
      case s10 => rintro v rfl; exact ⟨⟨_, cell_at0 HC2.out.1⟩, frozen_of_heap HC2.out.1, hwa.symm⟩
      case s11 => rintro v rfl; exact ⟨⟨_, cell_at0 HC2.out.2.1⟩, frozen_of_heap HC2.out.2.1, hwb.symm⟩
      case s12 => rintro v rfl; exact ⟨⟨_, cell_at0 HC2.out.2.2⟩, frozen_of_heap HC2.out.2.2, hwc.symm⟩
      rintro w' rfl
      refine wpIn_exit ?_
      obtain ⟨hrun, hst, hFW, SC, hob1, hV2, hbA, hb5V, hfd⟩ := HG.out
      have hbd : ∀ j, (j = b2 ∨ j = p8 ∨ j = p9 ∨ (Value.slice q.1 l.length q.2).ownBlock = some j) → j < V.heap.size := fun j e => by
        rcases e with e | e | e | e
        · omega
        · omega
        · omega
        · exact (HOB.out _ e).2.1
      refine ⟨SC.mono (fun j _ e => ⟨hC j (by have := hbd j e; omega), fun _ => by
        rcases e with e | e | e | e
        · exact .inl e
        · exact .inr (.inl e)
        · exact .inr (.inr (.inl e))
        · exact .inr (.inr (.inr (.inl e)))⟩), SC.block _ (by have := hb5V.size; omega) (fun e => by have := hbd _ e; omega), fun j => C j ∧ j < w'.heap.size, hCC SC.size, fun j h => h.2, fun j h => .inl h.1, ⟨rfl, ⟨x, q1, ?_, hFW, ?_⟩, fun j hj hd => ?_, ?_⟩⟩
      · rw [hi.find, List.find?_cons, hg]
      · intro e
        rw [List.length_append] at e
        exact (hob1 _ e).2.2.2 rfl
      · have h2 := (hb5V.block j hj).trans hd
        refine (SC.block j (by have := hb5V.size; omega) (fun e => ?_)).trans h2
        rcases e with e | e | e | e
        · rw [e, hV2.row] at h2; cases h2
        · rw [e, hV2.ci] at h2; cases h2
        · rw [e, hV2.ck] at h2; cases h2
        · obtain ⟨_, cur, h⟩ := own_ty hV2.own e
          rw [h] at h2; cases h2
      · have := SC.size
        omega
end Go.Proofs.YtbnhngfegnhaiaaDoor
namespace Go.Proofs.YtbnhngfegnhaiaaDoor
open Go.RowKit
set_option linter.unusedVariables false
set_option linter.unusedSimpArgs false
theorem cf72 (args : Array Value) (w : World) : (callFunc 72 args).run Tryd.prog w = .ok (.enter 72 args) w := by simp [callFunc, Tryd.func72, Tryd.f72, go_sem]
theorem beqI_yes {a x : Int} (h : a = x) : (a == x) = true := by
  subst h
  simp
theorem beqI_no {a x : Int} (h : ¬ a = x) : (a == x) = false := by
  simpa using h
set_option maxRecDepth 100000 in
set_option maxHeartbeats 4000000 in
theorem hid72 {x y : Int} {a b p1 p2 : Nat} {w : World} (h1 : w.cell? ⟨p1, 0, none⟩ = some (.int .i64 x)) (h2 : w.cell? ⟨p2, 0, none⟩ = some (.int .i64 y)) :
    Calls Tryd.prog 72 #[.int .i64 a, .int .i64 b, .pointer (some ⟨p1, 0, none⟩), .pointer (some ⟨p2, 0, none⟩)] w fun e w' => e = .returned (.bool (decide ((a : Int) = x) || decide ((b : Int) = y))) ∧ w = w' := by
  by_cases c1 : (a : Int) = x <;> by_cases c2 : (b : Int) = y
  all_goals
    have e3 := (by first | exact beqI_yes c1 | exact beqI_no c1)
    have e4 := (by first | exact beqI_yes c2 | exact beqI_no c2)
    have E := Lib.hid (And.intro c1 c2)
    clear c1 c2
    go_enter Tryd.func72, Tryd.ntmps72
    go_wp2_with fail
    go_ret
    exact ⟨ret_bool (by simp [E.out.1, E.out.2]), rfl⟩
theorem hid_isE {T : Nat → Bool} {n m : Nat} {x y : Int} (need : Int) (hm : m ≤ 10) : isE (fun a b => wI T (fun i k => decide ((i : Int) = x) || decide ((k : Int) = y)) n m n 0 (a * 10 + b)) n m need = hidE (fun a b => T (a * 10 + b)) n m need x y := by
  refine isE_congr (fun a b ha hb => ?_) need
  unfold wI hidF
  rw [show (a * 10 + b) / 10 = a by omega, show (a * 10 + b) % 10 = b by omega]
  simp [ha, hb]
set_option maxRecDepth 100000 in
set_option maxHeartbeats 8000000 in
theorem hidden33 {r : Rws} {al ar : Option Addr} {cl cr b : Nat} {x y : Int} {T : Nat → Bool} {need : Int} {w : World} (h : IsRws w b r al cl ar cr T need) (hl1 : r.left.length ≤ 10) (hl2 : r.right.length ≤ 10) :
    Calls Tryd.prog 33 #[.pointer (some ⟨b, 0, none⟩), .int .i64 x, .int .i64 y] w fun e w' => e = .returned (.bool (hidE (fun a b => T (a * 10 + b)) r.left.length r.right.length need x y)) ∧ Below w.heap.size w w' := by
  have hmf : ∀ (fn : Fn) (first cap : Array Value) (w : World), (Instr.makeFunc fn first cap).run Tryd.prog w = .ok (.func fn first cap) w := fun _ _ _ _ => rfl
  have HX := Lib.hid (alloc2 w #[.int .i64 x] #[.int .i64 y] 3 3)
  have H := Lib.hid (h.mono HX.out.2.2)
  have HL := Lib.hid (And.intro hl1 hl2)
  have HCA := Lib.hid (fun (v : World) (b' : Nat) (hv : IsRws v b' r al cl ar cr (wI T (fun i k => decide ((i : Int) = x) || decide ((k : Int) = y)) r.left.length r.right.length r.left.length 0) need) => is71 hv hl1 hl2)
  have HE := Lib.hid (hid_isE (T := T) (n := r.left.length) (x := x) (y := y) need hl2)
  clear h hl1 hl2
  revert HCA HE
  generalize hidE (fun a b => T (a * 10 + b)) r.left.length r.right.length need x y = z
  generalize isE (fun a b => wI T (fun i k => decide ((i : Int) = x) || decide ((k : Int) = y)) r.left.length r.right.length r.left.length 0 (a * 10 + b)) r.left.length r.right.length need = q
  intro HCA HE
  go_enter Tryd.func33, Tryd.ntmps33
  refine wp_seq_hid ?_
  intro K0 HK0
  go_wp2_with fail
  refine HK0.out _ _ ?_
  clear HK0 K0
  revert HX H
  generalize (w.alloc (.cells #[.int .i64 x] 3)).alloc (.cells #[.int .i64 y] 3) = w1
  generalize hp2 : w.heap.size + 1 = p2
  generalize hp1 : w.heap.size = p1
  intro HX H
  have HP := Lib.hid hp1
  clear hp1 hp2
  go_wp2_with fail
  refine (without84 (f := 72) (p1 := p1) (p2 := p2) (P := fun i k => decide ((i : Int) = x) || decide ((k : Int) = y)) H.out HL.out.1 HL.out.2 cf72 ?_).mono ?_
  · intro v a c hv ha hc
    refine (hid72 (x := x) (y := y) (by rw [cell_of_heap ((hv.block _ (heap_lt HX.out.1)).trans HX.out.1)]; rfl) (by rw [cell_of_heap ((hv.block _ (heap_lt HX.out.2.1)).trans HX.out.2.1)]; rfl)).mono ?_
    rintro e v' ⟨rfl, rfl⟩
    exact ⟨rfl, Below.refl _ _⟩
  rintro e w2 ⟨b8, rfl, hbb, hR, hb⟩
  have HR := Lib.hid (And.intro hR hb)
  have HW : Hid (p1 ≤ w1.heap.size) := Nat.le_of_lt (heap_lt HX.out.1)
  clear hR hb hbb
  go_wp2_with fail
  refine (HCA.out w2 b8 HR.out.1).mono ?_
  rintro e w3 ⟨rfl, hb⟩
  have HB := Lib.hid hb
  clear hb
  go_wp2_with fail
  go_ret
  exact ⟨by rw [← HE.out]; rfl, HX.out.2.2.trans ((HR.out.2.trans (HB.out.mono HR.out.2.size)).mono HW.out)⟩
end Go.Proofs.YtbnhngfegnhaiaaDoor
namespace Go.Proofs.YtbnhngfegnhaiaaDoor
open Go.RowKit
set_option linter.unusedVariables false
set_option linter.unusedSimpArgs false
def pop1 (x : Int) : Int := IntKind.u64.wrap (bits .and .u64 (x / 2) 6148914691236517205 + bits .and .u64 x 6148914691236517205)
def pop2 (a : Int) : Int := IntKind.u64.wrap (bits .and .u64 (a / 4) 3689348814741910323 + bits .and .u64 a 3689348814741910323)
def pop3 (a : Int) : Int := bits .and .u64 (IntKind.u64.wrap (a / 16 + a)) 1085102592571150095
def pop4 (a k : Int) : Int := IntKind.u64.wrap (a + a / k)
def popE (x : Int) : Int := bits .and .i64 (wrap64 (pop4 (pop4 (pop4 (pop3 (pop2 (pop1 x))) 256) 65536) 4294967296)) 127
theorem pop_eq : ∀ n : Fin 1024, popE (n.val : Int) = (ones n.val.testBit 10 : Int) := by decide +kernel
set_option maxRecDepth 100000 in
set_option maxHeartbeats 8000000 in
theorem ones70 {x : Nat} (hx : x < 1024) (w : World) : Calls Tryd.prog 70 #[.int .u64 x] w fun e w' => e = .returned (.int .i64 (ones x.testBit 10)) ∧ w' = w := by
  have HE := Lib.hid (pop_eq ⟨x, hx⟩)
  simp only at HE
  clear hx
  go_enter Tryd.func70, Tryd.ntmps70
  go_wp2_with fail
  go_ret
  refine ⟨?_, rfl⟩
  exact congrArg (fun z => Ending.returned (.int .i64 z)) HE.out
theorem ones32 {x : Nat} (hx : x < 1024) (w : World) : Calls Tryd.prog 32 #[.int .u64 x] w fun e w' => e = .returned (.int .i64 (ones x.testBit 10)) ∧ w' = w := by
  have HX := Lib.hid hx
  clear hx
  go_enter Tryd.func32, Tryd.ntmps32
  go_wp2_with fail
  refine (ones70 HX.out _).mono ?_
  rintro e w' ⟨rfl, rfl⟩
  go_wp2_with fail
  go_ret
  exact ⟨rfl, rfl⟩
end Go.Proofs.YtbnhngfegnhaiaaDoor
namespace Go.Proofs.YtbnhngfegnhaiaaDoor
open Go.RowKit
set_option linter.unusedVariables false
set_option linter.unusedSimpArgs false
def tab64 : List Int := [0, 1, 56, 2, 57, 49, 28, 3, 61, 58, 42, 50, 38, 29, 17, 4, 62, 47, 59, 36, 45, 43, 51, 22, 53, 39, 33, 30, 24, 18, 12, 5, 63, 55, 48, 27, 60, 41, 37, 16, 46, 35, 44, 21, 52, 32, 23, 11, 54, 26, 40, 15, 34, 20, 31, 10, 25, 14, 19, 9, 13, 8, 7, 6]
/-- The library's table lies where it does. -/
def TabOk (w : World) : Prop := 2 ≤ w.heap.size ∧ ∀ i, i < 64 → w.cell? ⟨1, i, none⟩ = some (.int .u8 (tab64.getD i 0))
theorem TabOk.mono {w w' : World} (h : TabOk w) (hb : Below w.heap.size w w') : TabOk w' := ⟨Nat.le_trans h.1 hb.size, fun i hi => by
  rw [← h.2 i hi]
  exact hb.cell (show 1 < w.heap.size from h.1)⟩
set_option maxRecDepth 100000 in
set_option maxHeartbeats 4000000 in
theorem tz74_0 {w : World} (h : TabOk w) : Calls Tryd.prog 74 #[.int .u64 1] w fun e w' => e = .returned (.int .i64 0) ∧ w' = w := by
  have c : w.cell? ⟨1, 0, none⟩ = some (.int .u8 0) := h.2 0 (by decide)
  have hd : IntKind.u64.wrap (bits .and .u64 1 (IntKind.u64.wrap (-1)) * 285870213051353865) / 288230376151711744 = 0 := by decide +kernel
  clear h
  go_enter Tryd.func74, Tryd.ntmps74
  go_wp2_with fail
  go_ret
  exact ⟨rfl, rfl⟩
set_option maxRecDepth 100000 in
set_option maxHeartbeats 4000000 in
theorem tz74_1 {w : World} (h : TabOk w) : Calls Tryd.prog 74 #[.int .u64 2] w fun e w' => e = .returned (.int .i64 1) ∧ w' = w := by
  have c : w.cell? ⟨1, 1, none⟩ = some (.int .u8 1) := h.2 1 (by decide)
  have hd : IntKind.u64.wrap (bits .and .u64 2 (IntKind.u64.wrap (-2)) * 285870213051353865) / 288230376151711744 = 1 := by decide +kernel
  clear h
  go_enter Tryd.func74, Tryd.ntmps74
  go_wp2_with fail
  go_ret
  exact ⟨rfl, rfl⟩
set_option maxRecDepth 100000 in
set_option maxHeartbeats 4000000 in
theorem tz74_2 {w : World} (h : TabOk w) : Calls Tryd.prog 74 #[.int .u64 4] w fun e w' => e = .returned (.int .i64 2) ∧ w' = w := by
  have c : w.cell? ⟨1, 3, none⟩ = some (.int .u8 2) := h.2 3 (by decide)
  have hd : IntKind.u64.wrap (bits .and .u64 4 (IntKind.u64.wrap (-4)) * 285870213051353865) / 288230376151711744 = 3 := by decide +kernel
  clear h
  go_enter Tryd.func74, Tryd.ntmps74
  go_wp2_with fail
  go_ret
  exact ⟨rfl, rfl⟩
set_option maxRecDepth 100000 in
set_option maxHeartbeats 4000000 in
theorem tz74_3 {w : World} (h : TabOk w) : Calls Tryd.prog 74 #[.int .u64 8] w fun e w' => e = .returned (.int .i64 3) ∧ w' = w := by
  have c : w.cell? ⟨1, 7, none⟩ = some (.int .u8 3) := h.2 7 (by decide)
  have hd : IntKind.u64.wrap (bits .and .u64 8 (IntKind.u64.wrap (-8)) * 285870213051353865) / 288230376151711744 = 7 := by decide +kernel
  clear h
  go_enter Tryd.func74, Tryd.ntmps74
  go_wp2_with fail
  go_ret
  exact ⟨rfl, rfl⟩
set_option maxRecDepth 100000 in
set_option maxHeartbeats 4000000 in
theorem tz74_4 {w : World} (h : TabOk w) : Calls Tryd.prog 74 #[.int .u64 16] w fun e w' => e = .returned (.int .i64 4) ∧ w' = w := by
  have c : w.cell? ⟨1, 15, none⟩ = some (.int .u8 4) := h.2 15 (by decide)
  have hd : IntKind.u64.wrap (bits .and .u64 16 (IntKind.u64.wrap (-16)) * 285870213051353865) / 288230376151711744 = 15 := by decide +kernel
  clear h
  go_enter Tryd.func74, Tryd.ntmps74
  go_wp2_with fail
  go_ret
  exact ⟨rfl, rfl⟩
set_option maxRecDepth 100000 in
set_option maxHeartbeats 4000000 in
theorem tz74_5 {w : World} (h : TabOk w) : Calls Tryd.prog 74 #[.int .u64 32] w fun e w' => e = .returned (.int .i64 5) ∧ w' = w := by
  have c : w.cell? ⟨1, 31, none⟩ = some (.int .u8 5) := h.2 31 (by decide)
  have hd : IntKind.u64.wrap (bits .and .u64 32 (IntKind.u64.wrap (-32)) * 285870213051353865) / 288230376151711744 = 31 := by decide +kernel
  clear h
  go_enter Tryd.func74, Tryd.ntmps74
  go_wp2_with fail
  go_ret
  exact ⟨rfl, rfl⟩
set_option maxRecDepth 100000 in
set_option maxHeartbeats 4000000 in
theorem tz74_6 {w : World} (h : TabOk w) : Calls Tryd.prog 74 #[.int .u64 64] w fun e w' => e = .returned (.int .i64 6) ∧ w' = w := by
  have c : w.cell? ⟨1, 63, none⟩ = some (.int .u8 6) := h.2 63 (by decide)
  have hd : IntKind.u64.wrap (bits .and .u64 64 (IntKind.u64.wrap (-64)) * 285870213051353865) / 288230376151711744 = 63 := by decide +kernel
  clear h
  go_enter Tryd.func74, Tryd.ntmps74
  go_wp2_with fail
  go_ret
  exact ⟨rfl, rfl⟩
set_option maxRecDepth 100000 in
set_option maxHeartbeats 4000000 in
theorem tz74_7 {w : World} (h : TabOk w) : Calls Tryd.prog 74 #[.int .u64 128] w fun e w' => e = .returned (.int .i64 7) ∧ w' = w := by
  have c : w.cell? ⟨1, 62, none⟩ = some (.int .u8 7) := h.2 62 (by decide)
  have hd : IntKind.u64.wrap (bits .and .u64 128 (IntKind.u64.wrap (-128)) * 285870213051353865) / 288230376151711744 = 62 := by decide +kernel
  clear h
  go_enter Tryd.func74, Tryd.ntmps74
  go_wp2_with fail
  go_ret
  exact ⟨rfl, rfl⟩
set_option maxRecDepth 100000 in
set_option maxHeartbeats 4000000 in
theorem tz74_8 {w : World} (h : TabOk w) : Calls Tryd.prog 74 #[.int .u64 256] w fun e w' => e = .returned (.int .i64 8) ∧ w' = w := by
  have c : w.cell? ⟨1, 61, none⟩ = some (.int .u8 8) := h.2 61 (by decide)
  have hd : IntKind.u64.wrap (bits .and .u64 256 (IntKind.u64.wrap (-256)) * 285870213051353865) / 288230376151711744 = 61 := by decide +kernel
  clear h
  go_enter Tryd.func74, Tryd.ntmps74
  go_wp2_with fail
  go_ret
  exact ⟨rfl, rfl⟩
set_option maxRecDepth 100000 in
set_option maxHeartbeats 4000000 in
theorem tz74_9 {w : World} (h : TabOk w) : Calls Tryd.prog 74 #[.int .u64 512] w fun e w' => e = .returned (.int .i64 9) ∧ w' = w := by
  have c : w.cell? ⟨1, 59, none⟩ = some (.int .u8 9) := h.2 59 (by decide)
  have hd : IntKind.u64.wrap (bits .and .u64 512 (IntKind.u64.wrap (-512)) * 285870213051353865) / 288230376151711744 = 59 := by decide +kernel
  clear h
  go_enter Tryd.func74, Tryd.ntmps74
  go_wp2_with fail
  go_ret
  exact ⟨rfl, rfl⟩
set_option maxRecDepth 100000 in
theorem tz74 {w : World} {k : Nat} (hk : k < 10) (h : TabOk w) : Calls Tryd.prog 74 #[.int .u64 ((2 ^ k : Nat) : Int)] w fun e w' => e = .returned (.int .i64 k) ∧ w' = w := by
  match k, hk with
  | 0, _ => exact tz74_0 h
  | 1, _ => exact tz74_1 h
  | 2, _ => exact tz74_2 h
  | 3, _ => exact tz74_3 h
  | 4, _ => exact tz74_4 h
  | 5, _ => exact tz74_5 h
  | 6, _ => exact tz74_6 h
  | 7, _ => exact tz74_7 h
  | 8, _ => exact tz74_8 h
  | 9, _ => exact tz74_9 h
  | k + 10, hk => exact absurd hk (by omega)
set_option maxRecDepth 100000 in
theorem tz34 {w : World} {k : Nat} (hk : k < 10) (h : TabOk w) : Calls Tryd.prog 34 #[.int .u64 ((2 ^ k : Nat) : Int)] w fun e w' => e = .returned (.int .i64 k) ∧ w' = w := by
  have HC := Lib.hid (tz74 hk h)
  clear h hk
  revert HC
  generalize ((2 ^ k : Nat) : Int) = x
  intro HC
  go_enter Tryd.func34, Tryd.ntmps34
  go_wp2_with fail
  refine HC.out.mono ?_
  rintro e w' ⟨rfl, rfl⟩
  go_wp2_with fail
  go_ret
  exact ⟨rfl, rfl⟩
end Go.Proofs.YtbnhngfegnhaiaaDoor
namespace Go.Proofs.YtbnhngfegnhaiaaDoor
open Go.RowKit
set_option linter.unusedVariables false
set_option linter.unusedSimpArgs false
theorem ints_news {w : World} {a : Option Addr} {l : List Int} (h : IsInts w a l) : l.length ≠ 0 → ∃ ad, a = some ad ∧ ∀ j u, (l.map (Value.int .i64))[j]? = some u → w.cell? (ad.add j) = some u := by
  intro h0
  obtain ⟨b, off, rfl, _⟩ := h 0 (by omega)
  refine ⟨_, rfl, fun j u hj => ?_⟩
  have hj' : j < l.length := by have := (List.getElem?_eq_some_iff.1 hj).1; simpa using this
  obtain ⟨b', off', he, hc⟩ := h j hj'
  cases he
  have e2 : ((⟨b, off, none⟩ : Addr).add j) = ⟨b, off + j, none⟩ := by unfold Addr.add; split <;> simp_all
  rw [e2, hc]
  rw [← hj]
  simp [gi, hj']
theorem app_ints {W w : World} {av : Option Addr} {l m : List Int} {cv n : Nat} {r : Option Addr × Nat} (hn : n = l.length) (hk : l.length + m.length ≤ 1000) (hb : Below W.heap.size W w) (hx : w.ownsRow W.heap.size 3 1 (.slice r.1 n r.2) n (l.map (Value.int .i64))) (hi : IsInts w av m) :
    ∃ (r1 : Option Addr × Nat) (w' : World), (Builtin.append_ #[35, 35] 35 #[.slice r.1 n r.2, .slice av m.length cv]).run Tryd.prog w = .ok (.slice r1.1 (n + m.length) r1.2) w' ∧ Below W.heap.size W w' ∧ w'.ownsRow W.heap.size 3 1 (.slice r1.1 (n + m.length) r1.2) (n + m.length) ((l ++ m).map (Value.int .i64)) ∧
      ∀ k, k < w.heap.size → (Value.slice r.1 n r.2).ownBlock ≠ some k → w'.heap[k]? = w.heap[k]? := by
  obtain ⟨i0, hi0, hz0, hz1, hz2⟩ := info_parts infoI
  obtain ⟨v', w', hr, hn, hg, hor⟩ := append_rows_at (P := Tryd.prog) (w := w) W.heap.size 35 35 3 i0 _ 1 8 Tryd.underlying35 hi0 hz0 hz1 hz2 rfl (by decide) _ n _ hx av m.length cv (m.map (Value.int .i64)) (by simp) (ints_news hi) (by intro u hu; simp at hu; obtain ⟨x, _, rfl⟩ := hu; rfl) (by simp [maxLen]; omega) (by omega) hb.size
  rw [← List.map_append] at hn
  obtain ⟨a', c', rfl, _⟩ := own_slice hn
  exact ⟨(a', c'), w', hr, hb.grown hg hb.size (fun k hk => (hx.lt k hk).1), hn, fun k hk hne => hg.block k hk (fun e => hne e.symm)⟩
structure NumI (W : World) (l : List Int) (r : Option Addr × Nat) (w : World) : Prop where
  le : Below W.heap.size W w
  own : w.ownsRow W.heap.size 3 1 (.slice r.1 l.length r.2) l.length (l.map (Value.int .i64))
theorem NumI.mono {W : World} {l : List Int} {r : Option Addr × Nat} {w w' : World} (h : NumI W l r w) (hb : Below w.heap.size w w') : NumI W l r w' := ⟨h.le.trans (hb.mono h.le.size), own_below h.own hb⟩
theorem ones_congr {p q : Nat → Bool} : ∀ {m : Nat}, (∀ k, k < m → p k = q k) → ones p m = ones q m
  | 0, _ => rfl
  | m + 1, h => by
    unfold ones
    rw [ones_congr (m := m) fun k hk => h k (by omega), h m (by omega)]
theorem ones_more {p : Nat → Bool} {m : Nat} : ∀ d, (∀ k, m ≤ k → p k = false) → ones p (m + d) = ones p m
  | 0, _ => rfl
  | d + 1, h => by
    show ones p (m + d) + (if p (m + d) then 1 else 0) = ones p m
    rw [ones_more d h, h (m + d) (by omega)]
    simp
theorem ones_bits (p : Nat → Bool) {m : Nat} (hm : m ≤ 10) : ones (bitsOf p m).testBit 10 = ones p m := by
  have e : 10 = m + (10 - m) := by omega
  rw [e, ones_more (m := m) (10 - m) (fun k hk => by rw [bitsOf_test]; simp; omega)]
  exact ones_congr fun k hk => by rw [bitsOf_test]; simp [hk]
theorem bits_one {p : Nat → Bool} {m : Nat} (h : ones p m = 1) : bitsOf p m = 2 ^ firstN p m := by
  obtain ⟨h1, h2, h3⟩ := ones_one h
  apply Nat.eq_of_testBit_eq
  intro j
  rw [bitsOf_test, Nat.testBit_two_pow]
  by_cases hj : firstN p m = j
  · subst hj
    simp [h1, h2]
  · have : ¬ (j < m ∧ p j = true) := fun h => hj (h3 j h.1 h.2).symm
    by_cases hjm : j < m
    · have : p j = false := by
        cases hp : p j
        · rfl
        · exact absurd ⟨hjm, hp⟩ this
      simp [hj, this]
    · simp [hj, hjm]
theorem u64_small {s : Nat} (h : s < 2 ^ 62) : IntKind.u64.wrap (s : Int) = s := by
  have : (s : Int) < 2 ^ 62 := by exact_mod_cast h
  simp [IntKind.wrap, IntKind.bits, IntKind.signed]
  omega
def Rws.sureL (r : Rws) : List Int := (List.range r.left.length).map r.sure
theorem sure_fit {r : Rws} {k : Nat} (h2 : r.right.length ≤ 10) (hk : k < r.left.length) : (r.can k) = r.can k ∧ hidE (fun a b => (fun j => r.fit (j / 10) (j % 10)) (a * 10 + b)) r.left.length r.right.length r.need k (-1) = hidE r.fit r.left.length r.right.length r.need k (-1) := by
  refine ⟨rfl, ?_⟩
  unfold hidE
  refine isE_congr (fun a b ha hb => ?_) _
  unfold hidF
  show (r.fit ((a * 10 + b) / 10) ((a * 10 + b) % 10) && _) = _
  rw [show (a * 10 + b) / 10 = a by omega, show (a * 10 + b) % 10 = b by omega]
set_option maxRecDepth 100000 in
set_option maxHeartbeats 16000000 in
theorem sure8 {r : Rws} {al ar : Option Addr} {cl cr : Nat} {w : World} (hv : r.valid = true) (h1 : IsMks w al r.left) (h2 : IsMks w ar r.right) (ht : TabOk w) :
    Calls Tryd.prog 8 #[r.v al cl ar cr] w fun e w' => Below w.heap.size w w' ∧ ((r.is = false ∧ e = .returned (.tuple #[.slice none 0 0, .int .i64 4])) ∨ (r.is = true ∧ ∃ q : Option Addr × Nat, e = .returned (.tuple #[.slice q.1 r.left.length q.2, .int .i64 0]) ∧ IsInts w' q.1 r.sureL)) := by
  have HX := Lib.hid (And.intro (World.alloc_heap_new w (.cells (r.arr al cl ar cr) 26)) (And.intro (alloc_below w (.cells (r.arr al cl ar cr) 26)) (And.intro (h1.mono (alloc_below w (.cells (r.arr al cl ar cr) 26))) (And.intro (h2.mono (alloc_below w (.cells (r.arr al cl ar cr) 26))) (ht.mono (alloc_below w (.cells (r.arr al cl ar cr) 26)))))))
  have HV := Lib.hid (And.intro hv (rnums_of hv))
  have l1 : r.left.length ≤ 10 := HV.out.2.l1
  have l2 : r.right.length ≤ 10 := HV.out.2.l2
  clear hv h1 h2 ht
  go_enter Tryd.func8, Tryd.ntmps8
  refine wp_seq_hid ?_
  intro K0 HK0
  go_wp2_with fail
  refine HK0.out _ _ ?_
  clear HK0 K0
  revert HX
  generalize w.alloc (.cells (r.arr al cl ar cr) 26) = w1
  generalize hb : w.heap.size = b1
  intro HX
  clear hb
  have HLT : Hid (b1 ≤ w1.heap.size) := Nat.le_of_lt (heap_lt HX.out.1)
  have KF : Hid (∀ v, Below w1.heap.size w1 v → v.heap[b1]? = some (.cells (r.arr al cl ar cr) 26 (0, 0)) ∧ Below b1 w v ∧ IsMks v al r.left ∧ IsMks v ar r.right ∧ TabOk v) := fun v hv =>
    ⟨(hv.block _ (heap_lt HX.out.1)).trans HX.out.1, HX.out.2.1.trans (hv.mono HLT.out), HX.out.2.2.1.mono hv, HX.out.2.2.2.1.mono hv, HX.out.2.2.2.2.mono hv⟩
  have HR0 := Lib.hid (Below.refl w1.heap.size w1)
  clear HX
  refine wp_seq_hid ?_
  intro K1 HK1
  have m0 : w1.cell? ⟨b1, 0, none⟩ = some (.slice al r.left.length cl) := by rw [cell_of_heap (KF.out w1 HR0.out).1]; rfl
  have m1 : w1.cell? ⟨b1, 1, none⟩ = some (.slice ar r.right.length cr) := by rw [cell_of_heap (KF.out w1 HR0.out).1]; rfl
  have m2 : w1.cell? ⟨b1, 2, none⟩ = some (.int .i64 r.shift.lo) := by rw [cell_of_heap (KF.out w1 HR0.out).1]; rfl
  have m3 : w1.cell? ⟨b1, 3, none⟩ = some (.int .i64 r.shift.hi) := by rw [cell_of_heap (KF.out w1 HR0.out).1]; rfl
  have m4 : w1.cell? ⟨b1, 4, none⟩ = some (.int .i64 r.hidden) := by rw [cell_of_heap (KF.out w1 HR0.out).1]; rfl
  go_wp2_with fail
  refine (open49 HV.out.1 (KF.out w1 HR0.out).2.2.1 (KF.out w1 HR0.out).2.2.2.1).mono ?_
  clear m0 m1 m2 m3 m4
  rintro e w2 ⟨hb, (⟨his, rfl⟩ | ⟨his, b, rfl, hlt, hR⟩)⟩
  · have HE := Lib.hid (And.intro his hb)
    clear his hb
    go_wp2_with fail
    refine HK1.out _ _ ?_
    go_wp2_with fail
    go_ret2
    exact ⟨(KF.out w2 HE.out.2).2.1, .inl ⟨HE.out.1, rfl⟩⟩
  · have HE := Lib.hid (And.intro his (And.intro hb (And.intro hR hlt)))
    clear his hb hR hlt
    go_wp2_with fail
    refine HK1.out _ _ ?_
    clear HK1 K1
    have m0 : w2.cell? ⟨b1, 0, none⟩ = some (.slice al r.left.length cl) := by rw [cell_of_heap (KF.out w2 HE.out.2.1).1]; rfl
    refine wp_seq_hid ?_
    intro K2 HK2
    go_wp2_with fail
    refine HK2.out _ _ ?_
    clear HK2 K2
    refine wp_seq_hid ?_
    intro K4 HK4
    go_wp2_with fail
    clear m0
    go_loopw [2, 19] (fun v i wr => ∃ (k : Nat) (q : Option Addr × Nat), k ≤ r.left.length ∧ i = .int .i64 k ∧ v = .slice q.1 k q.2 ∧ Hid (Below w2.heap.size w2 wr ∧ wr.ownsRow w2.heap.size 3 1 (.slice q.1 k q.2) k (((List.range k).map r.sure).map (Value.int .i64)))) (fun _ i _ => r.left.length - (intOf i).toNat)
    case atStart => exact ⟨0, (none, 0), by omega, rfl, rfl, Below.refl _ _, World.ownsRow_nil w2 _ _ _⟩
    case round =>
      obtain ⟨k, q, hk, rfl, rfl, HW⟩ := hrel
      by_cases hlt : k < r.left.length
      · have HS := Lib.hid (show r.sure k = sureV r.fit r.left.length r.right.length r.need k from rfl)
        have HRK := Lib.hid (fun (v : World) (h : Below w2.heap.size w2 v) => HE.out.2.2.1.mono h)
        have CC := cans51 (HRK.out wr HW.out.1) l1 l2 hlt
        have e1 : bitsOf (canE (fun a b => (fun j => r.fit (j / 10) (j % 10)) (a * 10 + b)) r.left.length r.right.length r.need k) r.right.length = bitsOf (r.can k) r.right.length := bitsOf_congr _ (fun j hj => fit_can l2 hlt hj)
        rw [e1] at CC
        have HCC := Lib.hid CC
        have HO := Lib.hid (ones_bits (r.can k) l2)
        have HBL : Hid (bitsOf (r.can k) r.right.length < 1024) := Nat.lt_of_lt_of_le (bitsOf_lt _ _) (Nat.le_trans (Nat.pow_le_pow_right (by omega) l2) (by decide))
        have HBO := Lib.hid (fun (h : ones (r.can k) r.right.length = 1) => bits_one h)
        have HFO := Lib.hid (fun (h : ones (r.can k) r.right.length = 1) => (ones_one h).1)
        have HHD := Lib.hid (fun (v : World) (h : IsRws v b r al cl ar cr (fun j => r.fit (j / 10) (j % 10)) r.need) => hidden33 (x := (k : Int)) (y := -1) h l1 l2)
        have HHE := Lib.hid (sure_fit l2 hlt).2
        have HSV : Hid (r.sure k = if ones (r.can k) r.right.length = 1 ∧ hidE r.fit r.left.length r.right.length r.need k (-1) = false then (firstN (r.can k) r.right.length : Int) else -1) := rfl
        clear CC e1 HS
        revert HCC HO HBL HBO HFO HHD HHE HSV
        generalize hidE r.fit r.left.length r.right.length r.need k (-1) = z
        generalize hidE (fun a b => (fun j => r.fit (j / 10) (j % 10)) (a * 10 + b)) r.left.length r.right.length r.need k (-1) = z'
        generalize bitsOf (r.can k) r.right.length = s
        generalize ones (r.can k) r.right.length = o
        generalize firstN (r.can k) r.right.length = f
        intro HCC HO HBL HBO HFO HHD HHE HSV
        have hu : IntKind.u64.wrap (s : Int) = s := u64_small (Nat.lt_trans HBL.out (by decide))
        go_wp2_with fail
        refine HCC.out.mono ?_
        rintro e w4 ⟨rfl, hb4⟩
        have HB4 := Lib.hid (And.intro (HW.out.1.trans (hb4.mono HW.out.1.size)) (own_below HW.out.2 hb4))
        clear hb4 HCC
        go_wp2_with fail
        refine (ones32 HBL.out _).mono ?_
        rintro e w5 ⟨rfl, hw5⟩
        rw [HO.out]
        subst hw5
        clear HO
        by_cases ho : o = 1
        · have ho2 : ((o : Int) == 1) = true := by rw [ho]; rfl
          have HO1 := Lib.hid ho
          clear ho
          go_wp2_with fail
          refine (HHD.out w5 (HRK.out w5 HB4.out.1)).mono ?_
          rintro e w6 ⟨rfl, hb6⟩
          rw [HHE.out]
          have HB := Lib.hid (And.intro (HB4.out.1.trans (hb6.mono HB4.out.1.size)) (own_below HB4.out.2 hb6))
          clear hb6 HB4
          cases hz : z
          · have HX7 : Hid (r.sure k = (f : Int)) := by rw [Hid, HSV.out, if_pos ⟨HO1.out, hz⟩]
            have HS7 := Lib.hid (HBO.out HO1.out)
            have HF7 := Lib.hid (Nat.lt_of_lt_of_le (HFO.out HO1.out) l2)
            clear hz HSV HBO HFO HHD HHE HO1
            go_wp2_with fail
            have HTZ := Lib.hid (tz34 (w := w6) HF7.out ((KF.out w6 (HE.out.2.1.trans (HB.out.1.mono HE.out.2.1.size))).2.2.2.2))
            rw [HS7.out]
            refine HTZ.out.mono ?_
            rintro e V ⟨rfl, hV⟩
            subst hV
            clear HTZ
            have HAP := Lib.hid (app_ints (W := w2) (w := V.alloc (.cells #[.int .i64 ((f : Int))] 3)) (l := (List.range k).map r.sure) (m := [(f : Int)]) (cv := 1) (r := q) (av := some ⟨V.heap.size, 0, none⟩) (n := k) (by simp) (by simp; omega) (HB.out.1.trans ((alloc_below V _).mono HB.out.1.size)) (own_below HB.out.2 (alloc_below V _)) (fun i hi => by
              have h0 : i = 0 := by simpa using hi
              subst h0
              exact ⟨_, _, rfl, by rw [cell_of_heap (World.alloc_heap_new V _)]; rfl⟩))
            clear HB
            obtain ⟨q1, w9, hrun, hq1, hq2, _⟩ := HAP.out
            have HR9 : Hid ((Builtin.append_ #[35, 35] 35 #[.slice q.1 k q.2, .slice (some ⟨V.heap.size, 0, none⟩) 1 1]).run Tryd.prog (V.alloc (.cells #[.int .i64 ((f : Int))] 3)) = .ok (.slice q1.1 (k + 1) q1.2) w9) := hrun
            have HQ9 := Lib.hid (And.intro hq1 hq2)
            clear hrun hq1 hq2 HAP
            go_wp2_with (at_builtin; refine wpList_append_run rfl (.tmp 38) (.tmp 40) 35 rfl (.slice q.1 k q.2) (.slice (some ⟨V.heap.size, 0, none⟩) 1 1) (.slice q1.1 (k + 1) q1.2) w9 rfl rfl HR9.out ?_)
            go_roundw
            case rel => exact ⟨k + 1, q1, by omega, by go_num, rfl, HQ9.out.1, by rw [List.range_succ, List.map_append]; show w9.ownsRow _ _ _ _ _ ((_ ++ [r.sure k]).map _); rw [HX7.out]; exact HQ9.out.2⟩
            case measure => simp [intOf]; omega
          · have HX7 : Hid (r.sure k = -1) := by rw [Hid, HSV.out, if_neg (fun h => by rw [hz] at h; cases h.2)]
            clear hz HSV HBO HFO HHD HHE HO1 ho2
            have HAP := Lib.hid (app_ints (W := w2) (w := w6.alloc (.cells #[.int .i64 (-1)] 3)) (l := (List.range k).map r.sure) (m := [-1]) (cv := 1) (r := q) (av := some ⟨w6.heap.size, 0, none⟩) (n := k) (by simp) (by simp; omega) (HB.out.1.trans ((alloc_below w6 _).mono HB.out.1.size)) (own_below HB.out.2 (alloc_below w6 _)) (fun i hi => by
              have h0 : i = 0 := by simpa using hi
              subst h0
              exact ⟨_, _, rfl, by rw [cell_of_heap (World.alloc_heap_new w6 _)]; rfl⟩))
            clear HB
            obtain ⟨q1, w9, hrun, hq1, hq2, _⟩ := HAP.out
            have HR9 : Hid ((Builtin.append_ #[35, 35] 35 #[.slice q.1 k q.2, .slice (some ⟨w6.heap.size, 0, none⟩) 1 1]).run Tryd.prog (w6.alloc (.cells #[.int .i64 (-1)] 3)) = .ok (.slice q1.1 (k + 1) q1.2) w9) := hrun
            have HQ9 := Lib.hid (And.intro hq1 hq2)
            clear hrun hq1 hq2 HAP
            go_wp2_with (at_builtin; refine wpList_append_run rfl (.tmp 38) (.tmp 40) 35 rfl (.slice q.1 k q.2) (.slice (some ⟨w6.heap.size, 0, none⟩) 1 1) (.slice q1.1 (k + 1) q1.2) w9 rfl rfl HR9.out ?_)
            go_roundw
            case rel => exact ⟨k + 1, q1, by omega, by go_num, rfl, HQ9.out.1, by rw [List.range_succ, List.map_append]; show w9.ownsRow _ _ _ _ _ ((_ ++ [r.sure k]).map _); rw [HX7.out]; exact HQ9.out.2⟩
            case measure => simp [intOf]; omega
        · have ho2 : ((o : Int) == 1) = false := by
            simp only [beq_eq_false_iff_ne, ne_eq]
            omega
          have HX7 : Hid (r.sure k = -1) := by rw [Hid, HSV.out, if_neg (fun h => ho h.1)]
          have HB := HB4
          clear ho HB4 HSV HBO HFO HHD HHE
          have HAP := Lib.hid (app_ints (W := w2) (w := w5.alloc (.cells #[.int .i64 (-1)] 3)) (l := (List.range k).map r.sure) (m := [-1]) (cv := 1) (r := q) (av := some ⟨w5.heap.size, 0, none⟩) (n := k) (by simp) (by simp; omega) (HB.out.1.trans ((alloc_below w5 _).mono HB.out.1.size)) (own_below HB.out.2 (alloc_below w5 _)) (fun i hi => by
            have h0 : i = 0 := by simpa using hi
            subst h0
            exact ⟨_, _, rfl, by rw [cell_of_heap (World.alloc_heap_new w5 _)]; rfl⟩))
          clear HB
          obtain ⟨q1, w9, hrun, hq1, hq2, _⟩ := HAP.out
          have HR9 : Hid ((Builtin.append_ #[35, 35] 35 #[.slice q.1 k q.2, .slice (some ⟨w5.heap.size, 0, none⟩) 1 1]).run Tryd.prog (w5.alloc (.cells #[.int .i64 (-1)] 3)) = .ok (.slice q1.1 (k + 1) q1.2) w9) := hrun
          have HQ9 := Lib.hid (And.intro hq1 hq2)
          clear hrun hq1 hq2 HAP
          go_wp2_with (at_builtin; refine wpList_append_run rfl (.tmp 38) (.tmp 40) 35 rfl (.slice q.1 k q.2) (.slice (some ⟨w5.heap.size, 0, none⟩) 1 1) (.slice q1.1 (k + 1) q1.2) w9 rfl rfl HR9.out ?_)
          go_roundw
          case rel => exact ⟨k + 1, q1, by omega, by go_num, rfl, HQ9.out.1, by rw [List.range_succ, List.map_append]; show w9.ownsRow _ _ _ _ _ ((_ ++ [r.sure k]).map _); rw [HX7.out]; exact HQ9.out.2⟩
          case measure => simp [intOf]; omega
      · obtain rfl : k = r.left.length := by omega
        go_wp2_with fail
        refine HK4.out _ _ ?_
        go_wp2_with fail
        go_ret2
        exact ⟨(KF.out wr (HE.out.2.1.trans (HW.out.1.mono HE.out.2.1.size))).2.1, .inr ⟨HE.out.1, q, rfl, own_ints (by have h := HW.out.2; unfold Rws.sureL; simpa using h)⟩⟩
end Go.Proofs.YtbnhngfegnhaiaaDoor
namespace Go.Proofs.YtbnhngfegnhaiaaDoor
open Go.RowKit
set_option linter.unusedVariables false
set_option linter.unusedSimpArgs false
/-- The k-th pair. -/
def gp (l : List (Nat × Nat)) (k : Nat) : Nat × Nat := l.getD k (0, 0)
def IsPairs (w : World) (a : Option Addr) (l : List (Nat × Nat)) : Prop := ∀ i, i < l.length → ∃ b off, a = some ⟨b, off, none⟩ ∧ w.cell? ⟨b, off + i * 2, none⟩ = some (.int .i64 (gp l i).1) ∧ w.cell? ⟨b, off + i * 2 + 1, none⟩ = some (.int .i64 (gp l i).2)
theorem IsPairs.mono {w w' : World} {a : Option Addr} {l : List (Nat × Nat)} (h : IsPairs w a l) (hb : Below w.heap.size w w') : IsPairs w' a l := fun i hi => by
  obtain ⟨b, off, e, h1, h2⟩ := h i hi
  exact ⟨b, off, e, cell_stays hb h1, cell_stays hb h2⟩
theorem prV_at : ∀ {l : List (Nat × Nat)} {i : Nat}, i < l.length → (prV l)[i * 2]? = some (.int .i64 (gp l i).1) ∧ (prV l)[i * 2 + 1]? = some (.int .i64 (gp l i).2)
  | p :: l, 0, _ => ⟨rfl, rfl⟩
  | p :: l, i + 1, h => by
    have ih := prV_at (l := l) (i := i) (by simpa using h)
    have e1 : (i + 1) * 2 = i * 2 + 1 + 1 := by omega
    have e2 : prV (p :: l) = .int .i64 p.1 :: .int .i64 p.2 :: prV l := rfl
    rw [e1, e2]
    exact ih
theorem own_pairs {w : World} {base : Nat} {l : List (Nat × Nat)} {q : Option Addr × Nat} (h : w.ownsRow base 42 2 (.slice q.1 l.length q.2) l.length (prV l)) : IsPairs w q.1 l := fun i hi => by
  obtain ⟨g, cap, e, _, _, _, _, hc⟩ := own_cell h (by omega)
  simp only [Value.slice.injEq] at e
  obtain ⟨h1, h2⟩ := prV_at hi
  exact ⟨g, 0, e.1, by rw [Nat.zero_add]; exact hc _ _ h1, by rw [Nat.zero_add]; exact hc _ _ h2⟩
theorem res_c31 {fn : Func} {u v x : Tmp} (h : fn.results = #[.cell u 31, .tmp v, .tmp x]) (tmps : Array Value) {w : World} {b : Nat} {y z1 z2 : Value} (hp : tmps.getD u undef = .pointer (some ⟨b, 0, none⟩)) (h1 : tmps.getD v undef = z1) (h2 : tmps.getD x undef = z2) (hy : w.cell? ⟨b, 0, none⟩ = some y) :
    (results fn tmps).run Tryd.prog w = .ok (.tuple #[y, z1, z2]) w := by
  have hp' : tmps[u]?.getD undef = .pointer (some ⟨b, 0, none⟩) := by simpa using hp
  have h1' : tmps[v]?.getD undef = z1 := by simpa using h1
  have h2' : tmps[x]?.getD undef = z2 := by simpa using h2
  simp [results, h, hp', h1', h2', hy, go_sem]
/-- How much is left to find. -/
def leftOf (w : World) (p : Nat) : Nat := match w.cell? ⟨p, 0, none⟩ with
  | some v => (intOf v).toNat
  | none => 0
theorem leftOf_eq {w : World} {p x : Nat} (h : w.heap[p]? = some (.cells #[.int .i64 (x : Int)] 3 (0, 0))) : leftOf w p = x := by
  unfold leftOf
  rw [cell_at0 h]
  simp [intOf]
noncomputable def few7C : Code := (Tryd.f7.body.bind (fromRegion 7)).getD .skip
theorem heap_lt' {w : World} {j : Nat} {o : Obj} (h : w.heap[j]? = some o) : j < w.heap.size := (Array.getElem?_eq_some_iff.1 h).1
set_option maxRecDepth 100000 in
set_option maxHeartbeats 16000000 in
theorem few7 {r : Rws} {al ar : Option Addr} {cl cr : Nat} {w0 V : World} {b b2 b6 p7 : Nat} {hd : Int} {R : Ending → World → Prop} (l1 : r.left.length ≤ 10) (l2 : r.right.length ≤ 10) (hm : IsMks w0 al r.left ∧ IsMks w0 ar r.right)
    (hle : Below w0.heap.size w0 V) (hrws : V.heap[b]? = some (.cells (rowsL r al cl ar cr (fitT r) r.need).toArray 130 (0, 0))) (htab : V.heap[b6]? = some (.cells (numL (fewU r)).toArray 72 (0, 0)))
    (hleft : V.heap[p7]? = some (.cells #[.int .i64 (mst r.fit r.left.length r.right.length r.left.length r.right.length : Nat)] 3 (0, 0))) (hrow : V.heap[b2]? = some (.cells #[.slice none 0 0] 31 (0, 0))) (hlo : w0.heap.size ≤ b2 ∧ w0.heap.size ≤ p7) {s0 s1 s8 s9 s10 s11 s12 s13 s14 s15 s16 s17 s18 s19 s20 s21 s22 s23 s24 s25 s26 s27 s28 s29 s30 s31 s32 s33 s34 s35 s36 s37 s38 s39 s40 s41 s42 s43 s44 s45 s46 s47 s48 s49 s50 s51 s52 s53 s54 s55 s56 s57 s58 s59 s60 s61 s62 s63 s64 s65 s66 s67 s68 : Value}
    (hR : ∀ (q : Option Addr × Nat) (W : World), IsPairs W q.1 r.few → Below w0.heap.size w0 W → R (.returned (.tuple #[.slice q.1 r.few.length q.2, .int .i64 hd, .int .i64 0])) W) :
    Code.wp Tryd.prog few7C (bodyPostM Fence.wide 0 Tryd.prog Tryd.f7 R) { tmps := List.toArray (s0 :: s1 :: .pointer (some ⟨b2, 0, none⟩) :: .int .i64 (hd) :: .int .i64 (0) :: .pointer (some ⟨b, 0, none⟩) :: .pointer (some ⟨b6, 0, none⟩) :: .pointer (some ⟨p7, 0, none⟩) :: s8 :: s9 :: s10 :: s11 :: s12 :: s13 :: s14 :: s15 :: s16 :: s17 :: s18 :: s19 :: s20 :: s21 :: s22 :: s23 :: s24 :: s25 :: s26 :: s27 :: s28 :: s29 :: s30 :: s31 :: s32 :: s33 :: s34 :: s35 :: s36 :: s37 :: s38 :: s39 :: s40 :: s41 :: s42 :: s43 :: s44 :: s45 :: s46 :: s47 :: s48 :: s49 :: s50 :: s51 :: s52 :: s53 :: s54 :: s55 :: s56 :: s57 :: s58 :: s59 :: s60 :: s61 :: s62 :: s63 :: s64 :: s65 :: s66 :: s67 :: s68 :: []), defers := [] } V := by
  have HR := Lib.hid hR
  have HM := Lib.hid hm
  have HL := Lib.hid (And.intro l1 l2)
  obtain ⟨W0, hW0⟩ : ∃ W0, W0 = ((V.alloc (.cells #[.int .i64 0] 3)).alloc (.cells #[.int .i64 0] 3)) := ⟨_, rfl⟩
  have HX := Lib.hid (alloc2 V #[.int .i64 0] #[.int .i64 0] 3 3)
  clear hR hm l1 l2
  conv => arg 2; whnf
  refine wp_seq_hid ?_
  intro K7 HK7
  go_wp2_with fail
  rw [← hW0] at HX
  rw [← hW0]
  have HI0 : Hid (FewW r al cl ar cr w0 b b2 b6 p7 (mst r.fit r.left.length r.right.length r.left.length r.right.length) V.heap.size (V.heap.size + 1) 0 0 [] (none, 0) W0 ∧ FewH r (mst r.fit r.left.length r.right.length r.left.length r.right.length) 0 0 []) := by
    obtain ⟨g1, g2, g3⟩ := HX.out
    have k7 := heap_lt hleft
    have k2 := heap_lt hrow
    refine ⟨⟨hle.trans (g3.mono hle.size), (g3.block _ (heap_lt hrws)).trans hrws, (g3.block _ (heap_lt htab)).trans htab, (g3.block _ (heap_lt hleft)).trans hleft, g1, g2, (g3.block _ (heap_lt hrow)).trans hrow, World.ownsRow_nil _ _ _ _, ⟨hlo.1, hlo.2, hle.size, by have := hle.size; omega⟩, by omega, by omega, by omega⟩, ⟨rfl, Nat.zero_le _, Nat.zero_le _, by simp⟩⟩
  clear hle hrws htab hleft hrow hlo HX hW0
  revert HI0
  generalize (mst r.fit r.left.length r.right.length r.left.length r.right.length) = x0
  generalize V.heap.size + 1 = p90
  generalize V.heap.size = p80
  intro HI0
  refine wp_loop (fun a w => ∃ (x p8 p9 i k : Nat) (l : List (Nat × Nat)) (q : Option Addr × Nat) (u34 u35 u36 u37 u38 u39 u40 u41 u65 u66 : Value) (ds : List Deferred), a = { tmps := List.toArray (s0 :: s1 :: .pointer (some ⟨b2, 0, none⟩) :: .int .i64 (hd) :: .int .i64 (0) :: .pointer (some ⟨b, 0, none⟩) :: .pointer (some ⟨b6, 0, none⟩) :: .pointer (some ⟨p7, 0, none⟩) :: .pointer (some ⟨p8, 0, none⟩) :: .pointer (some ⟨p9, 0, none⟩) :: s10 :: s11 :: s12 :: s13 :: s14 :: s15 :: s16 :: s17 :: s18 :: s19 :: s20 :: s21 :: s22 :: s23 :: s24 :: s25 :: s26 :: s27 :: s28 :: s29 :: s30 :: s31 :: s32 :: s33 :: u34 :: u35 :: u36 :: u37 :: u38 :: u39 :: u40 :: u41 :: s42 :: s43 :: s44 :: s45 :: s46 :: s47 :: s48 :: s49 :: s50 :: s51 :: s52 :: s53 :: s54 :: s55 :: s56 :: s57 :: s58 :: s59 :: s60 :: s61 :: s62 :: s63 :: s64 :: u65 :: u66 :: s67 :: s68 :: []), defers := ds } ∧ FewW r al cl ar cr w0 b b2 b6 p7 x p8 p9 i k l q w ∧ FewH r x i k l ∧ MarksAt w0.heap.size ds w) (fun _ w => leftOf w p7)
    ⟨x0, p80, p90, 0, 0, [], (none, 0), s34, s35, s36, s37, s38, s39, s40, s41, s65, s66, [], rfl, HI0.out.1, HI0.out.2, MarksAt.nil _ _⟩ ?_
  clear HI0
  rintro a w ⟨x, p8, p9, i, k, l, q, u34, u35, u36, u37, u38, u39, u40, u41, u65, u66, ds, rfl, hW, hH, hD⟩
  have HX := Lib.hid (And.intro hW (And.intro hH hD))
  have hlf : Hid (leftOf w p7 = x) := leftOf_eq hW.left
  have c7 := cell_at0 hW.left
  have hx10 : x ≤ 10 := by rw [← hH.most]; exact Nat.le_trans (mst_le _ _ _ _ _) (by have := HL.out.1; omega)
  clear hW hH hD
  cases x with
  | zero =>
    have f2 : w.frozen? ⟨b2, 0, none⟩ = false := frozen_of_heap HX.out.1.row
    have c2 := cell_at0 HX.out.1.row
    go_wp2_with fail
    refine HK7.out _ _ ?_
    go_wp2_with fail
    obtain ⟨hW, hH, hD⟩ := HX.out
    have hal : r.few = l := by rw [hH.all]; unfold fewL; simp
    obtain ⟨ks, rfl, hnd, hall⟩ := hD
    have hlq : l.length = r.few.length := by rw [hal]
    have hs2 : Same (fun j => j = b2) w (w.setCell ⟨b2, 0, none⟩ (.slice q.1 l.length q.2)) := (Same.refl (fun j => j = b2) w).setCell (p := ⟨b2, 0, none⟩) (.inl rfl) _
    have g2 : (w.setCell ⟨b2, 0, none⟩ (.slice q.1 l.length q.2)).heap[b2]? = some (.cells #[.slice q.1 l.length q.2] 31 (0, 0)) := heap_setCell_at (k := 0) hW.row _
    have hlo := hW.lo
    have hown : (w.setCell ⟨b2, 0, none⟩ (.slice q.1 l.length q.2)).ownsRow w0.heap.size 42 2 (.slice q.1 l.length q.2) l.length (prV l) := own_same hW.own hs2 (fun j e h => by
      obtain ⟨_, cur, hc⟩ := own_ty hW.own h
      rw [e, hW.row] at hc; simp at hc)
    have hle : Below w0.heap.size w0 (w.setCell ⟨b2, 0, none⟩ (.slice q.1 l.length q.2)) := hW.le.trans (hs2.below hW.le.size (fun j hj e => by omega))
    refine leaves_marks (v := .tuple #[.slice q.1 l.length q.2, .int .i64 hd, .int .i64 0]) (n := w0.heap.size) ks _ hnd (fun j hj => ⟨(hall j hj).1, (hs2.block j (heap_lt' (hall j hj).2) (fun e => by have h := (hall j hj).2; rw [e, hW.row] at h; cases h)).trans (hall j hj).2⟩) (fun W' hs hsz => ?_)
    have h3 : W'.heap[b2]? = some (.cells #[.slice q.1 l.length q.2] 31 (0, 0)) := (hs.block _ (heap_lt g2) (fun e => by rw [g2] at e; cases e.2)).trans g2
    have hown' := own_same hown hs (fun j e h => by
      obtain ⟨_, cur, hc⟩ := own_ty hown h
      rw [hc] at e; cases e.2)
    refine ⟨res_c31 rfl _ rfl rfl rfl (cell_at0 h3), ?_⟩
    have hip := own_pairs hown'
    rw [← hal] at hip
    have hfin := HR.out q W' hip (hle.trans (hs.below hle.size (fun j hj e => by have := e.1; omega)))
    rw [← hlq] at hfin
    exact hfin
  | succ y =>
    refine wp_seq_hid ?_
    intro Ka HKa
    go_wp2_with fail
    refine HKa.out _ _ ?_
    clear HKa Ka c7
    refine wp_seq_hid ?_
    intro Kc HKc
    refine wp_block ?_
    refine wp_scope_straight ?_
    refine wp_seq ?_
    refine wp_label ?_
    refine few10 (y := y) (i := i) (k := k) (l := l) (q := q) HL.out.1 HL.out.2 HM.out ?hl HX.out.1 HX.out.2.1 ?hQ
    case hl =>
      have h := few_len r
      rw [HX.out.2.1.all] at h
      simp at h
      have := HL.out.1
      omega
    intro D p q' W hD1 hD2 hD3 hW2 hH2
    refine HKc.out _ _ ?_
    clear HKc Kc
    have HX2 := Lib.hid (And.intro hW2 (And.intro hH2 (MarksAt.cons HX.out.2.2 hD1 (by have := HX.out.1.le.size; omega) hD2 hD3)))
    have c8 := cell_at0 hW2.ci
    have c9 := cell_at0 hW2.ck
    have c7 := cell_at0 hW2.left
    have f7 : W.frozen? ⟨p7, 0, none⟩ = false := frozen_of_heap hW2.left
    have n7 : p7 < W.heap.size := heap_lt hW2.left
    clear hD1 hD2 hD3 hW2 hH2
    go_wp2_with fail
    obtain ⟨hW2, hH2, hD2⟩ := HX2.out
    obtain ⟨W', hW'⟩ : ∃ W', W' = (((W.setCell ⟨p7, 0, none⟩ (.int .i64 (y : Int))).alloc (.cells #[.int .i64 ((p.1 : Int) + 1)] 3)).alloc (.cells #[.int .i64 ((p.2 : Int) + 1)] 3)) := ⟨_, rfl⟩
    obtain ⟨g1, g2, g3⟩ := alloc2 (W.setCell ⟨p7, 0, none⟩ (.int .i64 (y : Int))) #[.int .i64 ((p.1 : Int) + 1)] #[.int .i64 ((p.2 : Int) + 1)] 3 3
    have hs : Same (fun j => j = p7) W W' := by
      rw [hW']
      exact (((Same.refl (fun j => j = p7) W).setCell (p := ⟨p7, 0, none⟩) (.inl rfl) _).alloc _).alloc _
    have hzs : (W.setCell ⟨p7, 0, none⟩ (.int .i64 (y : Int))).heap.size = W.heap.size := by simp
    rw [← hW'] at g1 g2 g3
    rw [hzs] at g1 g2 g3
    rw [← hW']
    have g7 : W'.heap[p7]? = some (.cells #[.int .i64 (y : Int)] 3 (0, 0)) := (g3.block _ n7).trans (heap_setCell_at (k := 0) hW2.left _)
    have e7 : ∀ {j : Nat} {c : Array Value} {t : TypeId} {f : Nat × Nat}, W.heap[j]? = some (.cells c t f) → t ≠ 3 → W'.heap[j]? = some (.cells c t f) := fun {j c t f} h ht => (hs.block _ (heap_lt h) (fun e => by rw [e, hW2.left] at h; simp at h; exact ht h.2.1.symm)).trans h
    have g8 : W'.heap[W.heap.size]? = some (.cells #[.int .i64 ((p.1 + 1 : Nat) : Int)] 3 (0, 0)) := by rw [g1]; simp
    have g9 : W'.heap[W.heap.size + 1]? = some (.cells #[.int .i64 ((p.2 + 1 : Nat) : Int)] 3 (0, 0)) := by rw [g2]; simp
    have hlo := hW2.lo
    have hls := hW2.le.size
    refine ⟨⟨y, W.heap.size, W.heap.size + 1, p.1 + 1, p.2 + 1, l ++ [p], q', _, _, _, _, _, _, _, _, _, _, _, rfl, ⟨hW2.le.trans (hs.below hls (fun j hj e => by omega)), e7 hW2.rws (by decide), e7 hW2.tab (by decide), g7, g8, g9, e7 hW2.row (by decide), own_same hW2.own hs (fun j e h => by
      obtain ⟨_, cur, hc⟩ := own_ty hW2.own h
      rw [e, hW2.left] at hc; simp at hc), ⟨hlo.1, hlo.2.1, hls, by omega⟩, by omega, by omega, by omega⟩, hH2, hD2.mono (fun j hj hd => (hs.block j hj (fun e => by rw [e, hW2.left] at hd; cases hd)).trans hd)⟩, ?_⟩
    rw [leftOf_eq g7, hlf.out]
    omega
set_option maxRecDepth 100000 in
set_option maxHeartbeats 16000000 in
theorem fewest7 {r : Rws} {al ar : Option Addr} {cl cr : Nat} {w : World} (hv : r.valid = true) (h1 : IsMks w al r.left) (h2 : IsMks w ar r.right) :
    Calls Tryd.prog 7 #[r.v al cl ar cr] w fun e w' => Below w.heap.size w w' ∧ ((r.is = false ∧ e = .returned (.tuple #[.slice none 0 0, .int .i64 0, .int .i64 4])) ∨ (r.is = true ∧ ∃ (q : Option Addr × Nat) (hd : Int), e = .returned (.tuple #[.slice q.1 r.few.length q.2, .int .i64 hd, .int .i64 0]) ∧ IsPairs w' q.1 r.few)) := by
  have HX := Lib.hid (alloc2 w (r.arr al cl ar cr) #[.slice none 0 0] 26 31)
  have HM0 := Lib.hid (And.intro h1 h2)
  have HM := Lib.hid (And.intro (h1.mono HX.out.2.2) (h2.mono HX.out.2.2))
  have HV := Lib.hid (And.intro hv (rnums_of hv))
  have l1 : r.left.length ≤ 10 := HV.out.2.l1
  have l2 : r.right.length ≤ 10 := HV.out.2.l2
  clear hv h1 h2
  refine calls_of_wp_marks Tryd.func7 rfl ?_
  simp only [Tryd.ntmps7, List.size_toArray, List.length_cons, List.length_nil, Nat.reduceAdd, Nat.reduceSub, Array.replicate_succ, Array.replicate_zero, List.push_toArray, List.append_toArray, List.nil_append, List.cons_append]
  refine wp_seq_hid ?_
  intro K0 HK0
  go_wp2_with fail
  refine HK0.out _ _ ?_
  clear HK0 K0
  revert HX HM
  generalize (w.alloc (.cells (r.arr al cl ar cr) 26)).alloc (.cells #[.slice none 0 0] 31) = w1
  generalize hb2 : w.heap.size + 1 = b2
  generalize hb1 : w.heap.size = b1
  intro HX HM
  have HLT : Hid (w.heap.size = b1 ∧ b1 ≤ b2 ∧ b1 ≤ w1.heap.size) := ⟨hb1, by omega, Nat.le_of_lt (heap_lt HX.out.1)⟩
  clear hb1 hb2
  have KF : Hid (∀ v, Below w1.heap.size w1 v → v.heap[b1]? = some (.cells (r.arr al cl ar cr) 26 (0, 0)) ∧ v.heap[b2]? = some (.cells #[.slice none 0 0] 31 (0, 0)) ∧ Below b1 w v ∧ IsMks v al r.left ∧ IsMks v ar r.right) := fun v hv =>
    ⟨(hv.block _ (heap_lt HX.out.1)).trans HX.out.1, (hv.block _ (heap_lt HX.out.2.1)).trans HX.out.2.1, HX.out.2.2.trans (hv.mono HLT.out.2.2), HM.out.1.mono hv, HM.out.2.mono hv⟩
  have HR0 := Lib.hid (Below.refl w1.heap.size w1)
  clear HX HM
  refine wp_seq_hid ?_
  intro K1 HK1
  have m0 : w1.cell? ⟨b1, 0, none⟩ = some (.slice al r.left.length cl) := by rw [cell_of_heap (KF.out w1 HR0.out).1]; rfl
  have m1 : w1.cell? ⟨b1, 1, none⟩ = some (.slice ar r.right.length cr) := by rw [cell_of_heap (KF.out w1 HR0.out).1]; rfl
  have m2 : w1.cell? ⟨b1, 2, none⟩ = some (.int .i64 r.shift.lo) := by rw [cell_of_heap (KF.out w1 HR0.out).1]; rfl
  have m3 : w1.cell? ⟨b1, 3, none⟩ = some (.int .i64 r.shift.hi) := by rw [cell_of_heap (KF.out w1 HR0.out).1]; rfl
  have m4 : w1.cell? ⟨b1, 4, none⟩ = some (.int .i64 r.hidden) := by rw [cell_of_heap (KF.out w1 HR0.out).1]; rfl
  go_wp2_with fail
  refine (open49 HV.out.1 (KF.out w1 HR0.out).2.2.2.1 (KF.out w1 HR0.out).2.2.2.2).mono ?_
  clear m0 m1 m2 m3 m4
  rintro e w2 ⟨hb, (⟨his, rfl⟩ | ⟨his, b, rfl, hlt, hR⟩)⟩
  · have HE := Lib.hid (And.intro his hb)
    clear his hb
    have c2 := cell_at0 (KF.out w2 HE.out.2).2.1
    have f2 : w2.frozen? ⟨b2, 0, none⟩ = false := frozen_of_heap (KF.out w2 HE.out.2).2.1
    go_wp2_with fail
    refine HK1.out _ _ ?_
    go_wp2_with fail
    obtain ⟨g1, g2, g3, _⟩ := KF.out w2 HE.out.2
    refine leaves_marks (v := .tuple #[.slice none 0 0, .int .i64 0, .int .i64 4]) (n := b1) [] _ (by simp) (by simp) (fun W' hs hsz => ?_)
    have h2 : (w2.setCell ⟨b2, 0, none⟩ (.slice none 0 0)).heap[b2]? = some (.cells #[.slice none 0 0] 31 (0, 0)) := heap_setCell_at (k := 0) g2 _
    have h3 : W'.heap[b2]? = some (.cells #[.slice none 0 0] 31 (0, 0)) := (hs.block _ (heap_lt h2) (fun e => by rw [h2] at e; cases e.2)).trans h2
    have h4 : Below b1 w (w2.setCell ⟨b2, 0, none⟩ (.slice none 0 0)) := g3.setCell (p := ⟨b2, 0, none⟩) HLT.out.2.1 _
    exact ⟨res_c31 rfl _ rfl rfl rfl (cell_at0 h3), h4.trans (hs.below (by have := h4.size; have := HLT.out.1; omega) (fun j hj e => by have := e.1; omega)), .inl ⟨HE.out.1, rfl⟩⟩
  · have hR2 : IsRws w2 b r al cl ar cr (fitT r) r.need := hR
    have HE := Lib.hid (And.intro his (And.intro hb (And.intro hR2 hlt)))
    clear his hb hR hR2 hlt
    go_wp2_with fail
    refine HK1.out _ _ ?_
    clear HK1 K1
    refine wp_seq_hid ?_
    intro K2 HK2
    go_wp2_with fail
    refine HK2.out _ _ ?_
    clear HK2 K2
    refine wp_seq_hid ?_
    intro K4 HK4
    go_upto_region 4 with fail
    have HTB : Hid (∀ v : World, (v.alloc (.cells Tryd.zeroCells72 72)).there v.heap.size 0 (numL (fewU r)).toArray.size) := fun v j hj => by
      rw [List.size_toArray, numL_len] at hj
      refine ⟨?_, frozen_of_heap (World.alloc_heap_new _ _)⟩
      rw [Nat.zero_add, cell_of_heap (World.alloc_heap_new _ _)]
      have hz : Tryd.zeroCells72.size = 121 := by rfl
      rw [Array.getElem?_eq_getElem (by omega)]
      rfl
    go_wp2_with fail
    refine (most82 HE.out.2.2.1 l1 l2).mono ?_
    rintro e w3 ⟨rfl, hb3⟩
    rw [show dI (fun i k => fitT r (i * 10 + k)) r.left.length r.right.length 0 0 = fewU r from rfl]
    have HB3 := Lib.hid hb3
    clear hb3
    go_wp2_with (refine wpList_store_mid rfl 72 _ _ (by rfl) w3.heap.size 0 (numL (fewU r)).toArray (by rfl) (by rfl) (HTB.out w3) (by rw [List.size_toArray, numL_len]; exact info156) (numL_one _) ?_)
    refine HK4.out _ _ ?_
    clear HK4 K4
    have hz72 : Tryd.zeroCells72.size = (numL (fewU r)).length := by rw [numL_len]; rfl
    have H4 : Hid (Below w3.heap.size w3 ((w3.alloc (.cells Tryd.zeroCells72 72)).setCells w3.heap.size 0 (numL (fewU r))) ∧ ((w3.alloc (.cells Tryd.zeroCells72 72)).setCells w3.heap.size 0 (numL (fewU r))).heap[w3.heap.size]? = some (.cells (numL (fewU r)).toArray 72 (0, 0))) :=
      ⟨below_setCells (Nat.le_refl _) _ 0 _ (alloc_below _ _), heap_setCells_all (World.alloc_heap_new _ _) hz72⟩
    clear hz72
    revert H4
    generalize (w3.alloc (.cells Tryd.zeroCells72 72)).setCells w3.heap.size 0 (numL (fewU r)) = w4
    generalize hb6 : w3.heap.size = b6
    intro H4
    have HB4 : Hid (Below w2.heap.size w2 w4) := by have h := H4.out.1; rw [← hb6] at h; exact HB3.out.trans (h.mono HB3.out.size)
    clear hb6 HTB
    have hx : fewU r 0 = (mst r.fit r.left.length r.right.length r.left.length r.right.length : Nat) := by
      have h := fewU_at (r := r) l2 (a := 0) (b := 0) (Nat.zero_le _) (Nat.zero_le _)
      simpa using h
    have hx10 : mst r.fit r.left.length r.right.length r.left.length r.right.length ≤ 10 := Nat.le_trans (mst_le _ _ _ _ _) l1
    have HX0 := Lib.hid hx
    have c6 : w4.cell? ⟨b6, 0, none⟩ = some (.int .i64 (mst r.fit r.left.length r.right.length r.left.length r.right.length : Nat)) := by rw [← hx]; exact num_cell H4.out.2 (by decide)
    clear hx
    have HR7 := Lib.hid (fun (x : Nat) (h : mst r.fit r.left.length r.right.length r.left.length r.right.length = x) => h)
    refine wp_seq_hid ?_
    intro K5 HK5
    have HQ5 := Lib.hid (And.intro (World.alloc_heap_new w4 (.cells #[.int .i64 (mst r.fit r.left.length r.right.length r.left.length r.right.length : Nat)] 3)) (alloc_below w4 (.cells #[.int .i64 (mst r.fit r.left.length r.right.length r.left.length r.right.length : Nat)] 3)))
    go_wp2_with fail
    refine HK5.out _ _ ?_
    clear HK5 K5 c6
    revert HQ5
    generalize w4.alloc (.cells #[.int .i64 (mst r.fit r.left.length r.right.length r.left.length r.right.length : Nat)] 3) = w5
    generalize hp7 : w4.heap.size = p7
    intro HQ5
    have HB5 : Hid (Below w2.heap.size w2 w5) := by have h := HQ5.out.2; rw [← hp7] at h; exact HB4.out.trans (h.mono HB4.out.size)
    have HT5 : Hid (w5.heap[b6]? = some (.cells (numL (fewU r)).toArray 72 (0, 0))) := (HQ5.out.2.block _ (by rw [← hp7]; exact heap_lt H4.out.2)).trans H4.out.2
    have HP7 : Hid (w.heap.size ≤ p7) := by
      have h1 := (KF.out w2 HE.out.2.1).2.2.1.size
      have h2 := HB4.out.size
      rw [Hid, ← hp7]
      exact Nat.le_trans h1 h2
    clear hp7 H4 HB4 HB3
    have KF5 := Lib.hid (KF.out w5 (HE.out.2.1.trans (HB5.out.mono HE.out.2.1.size)))
    have m0 : w5.cell? ⟨b1, 0, none⟩ = some (.slice al r.left.length cl) := by rw [cell_of_heap KF5.out.1]; rfl
    have m1 : w5.cell? ⟨b1, 1, none⟩ = some (.slice ar r.right.length cr) := by rw [cell_of_heap KF5.out.1]; rfl
    have m7 := cell_at0 HQ5.out.1
    refine wp_seq_hid ?_
    intro K6 HK6
    go_wp2_with fail
    refine HK6.out _ _ ?_
    clear HK6 K6 m0 m1 m7
    exact few7 (w0 := w) (b2 := b2) (p7 := p7) (b6 := b6) l1 l2 HM0.out (by rw [HLT.out.1]; exact KF5.out.2.2.1) ((HB5.out.block _ (heap_lt HE.out.2.2.1.h)).trans HE.out.2.2.1.h) HT5.out HQ5.out.1 KF5.out.2.1 ⟨by rw [HLT.out.1]; exact HLT.out.2.1, HP7.out⟩ (fun q W hq hle => ⟨by rw [← HLT.out.1]; exact hle, .inr ⟨HE.out.1, q, _, rfl, hq⟩⟩)
end Go.Proofs.YtbnhngfegnhaiaaDoor
namespace Go.Proofs.YtbnhngfegnhaiaaDoor
open Go.RowKit
set_option linter.unusedVariables false
set_option linter.unusedSimpArgs false
theorem span13 {a b : Int} {w : World} : Calls Tryd.prog 13 #[.int .i64 a, .int .i64 b] w fun e w' => e = .returned (.agg #[.int .i64 a, .int .i64 b]) ∧ Below w.heap.size w w' := by
  have HX := Lib.hid (And.intro (World.alloc_heap_new w (.cells #[.int .i64 0, .int .i64 0] 24)) (alloc_below w (.cells #[.int .i64 0, .int .i64 0] 24)))
  go_enter Tryd.func13, Tryd.ntmps13
  refine wp_seq_hid ?_
  intro K0 HK0
  go_wp2_with fail
  refine HK0.out _ _ ?_
  clear HK0 K0
  revert HX
  generalize w.alloc (.cells #[.int .i64 0, .int .i64 0] 24) = w1
  generalize hb : w.heap.size = b1
  intro HX
  have s0 : w1.cell? ⟨b1, 0, none⟩ = some (.int .i64 0) := by rw [cell_of_heap HX.out.1]; rfl
  have s1 : w1.cell? ⟨b1, 1, none⟩ = some (.int .i64 0) := by rw [cell_of_heap HX.out.1]; rfl
  have f0 : ∀ k, w1.frozen? ⟨b1, k, none⟩ = false := fun k => frozen_of_heap HX.out.1
  go_wp2_with fail
  have h4 := heap_setCell_at (k := 1) (heap_setCell_at (k := 0) HX.out.1 (.int .i64 a)) (.int .i64 b)
  exact bodyPost_ret (res_c2 (by decide) rfl _ rfl (by rw [cell_of_heap h4]; rfl) (by rw [cell_of_heap h4]; rfl)) rfl ⟨rfl, ((HX.out.2.setCell (p := ⟨b1, 0, none⟩) (Nat.le_refl _) _).setCell (p := ⟨b1, 1, none⟩) (Nat.le_refl _) _)⟩
theorem res_c4m {fn : Func} {u : Tmp} (h : fn.results = #[.cell u 30]) (tmps : Array Value) {w : World} {b : Nat} {x0 x1 x2 x3 : Value} (hp : tmps.getD u undef = .pointer (some ⟨b, 0, none⟩)) (hq : w.heap[b]? = some (.cells #[x0, x1, x2, x3] 30 (0, 0))) :
    (results fn tmps).run Tryd.prog w = .ok (.agg #[x0, x1, x2, x3]) w := by
  have hp' : tmps[u]?.getD undef = .pointer (some ⟨b, 0, none⟩) := by simpa using hp
  have h0 : w.cell? ⟨b, 0, none⟩ = some x0 := by rw [cell_of_heap hq]; rfl
  have h1 : w.cell? ⟨b, 1, none⟩ = some x1 := by rw [cell_of_heap hq]; rfl
  have h2 : w.cell? ⟨b, 2, none⟩ = some x2 := by rw [cell_of_heap hq]; rfl
  have h3 : w.cell? ⟨b, 3, none⟩ = some x3 := by rw [cell_of_heap hq]; rfl
  simp [results, h, hp', h0, h1, h2, h3, go_sem]
set_option maxHeartbeats 1000000 in
theorem mark48 {a b c d : Int} {w : World} : Calls Tryd.prog 64 #[.int .i64 a, .int .i64 b, .int .i64 c, .int .i64 d] w fun e w' => e = .returned (.agg (mrkE a b c d).arr) ∧ Below w.heap.size w w' := by
  have HX := Lib.hid (And.intro (World.alloc_heap_new w (.cells #[.int .i64 0, .int .i64 0, .int .i64 0, .int .i64 0] 30)) (alloc_below w (.cells #[.int .i64 0, .int .i64 0, .int .i64 0, .int .i64 0] 30)))
  go_enter Tryd.func64, Tryd.ntmps64
  refine wp_seq_hid ?_
  intro K0 HK0
  go_wp2_with fail
  refine HK0.out _ _ ?_
  clear HK0 K0
  revert HX
  generalize w.alloc (.cells #[.int .i64 0, .int .i64 0, .int .i64 0, .int .i64 0] 30) = w1
  generalize hb : w.heap.size = b1
  intro HX
  have HLT : Hid (b1 ≤ w1.heap.size) := Nat.le_of_lt (heap_lt HX.out.1)
  clear hb
  refine wp_seq_hid ?_
  intro K1 HK1
  go_wp2_with fail
  refine span13.mono ?_
  rintro e w2 ⟨rfl, hb2⟩
  have HB2 := Lib.hid hb2
  clear hb2
  go_wp2_with fail
  refine span13.mono ?_
  rintro e w3 ⟨rfl, hb3⟩
  have HB := Lib.hid (HB2.out.trans (hb3.mono HB2.out.size))
  clear hb3 HB2
  have hq := (HB.out.block _ (heap_lt HX.out.1)).trans HX.out.1
  have HQ := Lib.hid hq
  have s0 : w3.cell? ⟨b1, 0, none⟩ = some (.int .i64 0) := by rw [cell_of_heap hq]; rfl
  have s1 : w3.cell? ⟨b1, 1, none⟩ = some (.int .i64 0) := by rw [cell_of_heap hq]; rfl
  have s2 : w3.cell? ⟨b1, 2, none⟩ = some (.int .i64 0) := by rw [cell_of_heap hq]; rfl
  have s3 : w3.cell? ⟨b1, 3, none⟩ = some (.int .i64 0) := by rw [cell_of_heap hq]; rfl
  have f0 : ∀ k, w3.frozen? ⟨b1, k, none⟩ = false := fun k => frozen_of_heap hq
  clear hq
  go_wp2_with fail
  refine HK1.out _ _ ?_
  go_wp2_with fail
  have h4 := heap_setCell_at (k := 3) (heap_setCell_at (k := 2) (heap_setCell_at (k := 1) (heap_setCell_at (k := 0) HQ.out (.int .i64 a)) (.int .i64 b)) (.int .i64 c)) (.int .i64 d)
  have hb := HX.out.2.trans (HB.out.mono HLT.out)
  exact bodyPost_ret (res_c4m rfl _ rfl h4) rfl ⟨rfl, (((hb.setCell (p := ⟨b1, 0, none⟩) (Nat.le_refl _) _).setCell (p := ⟨b1, 1, none⟩) (Nat.le_refl _) _).setCell (p := ⟨b1, 2, none⟩) (Nat.le_refl _) _).setCell (p := ⟨b1, 3, none⟩) (Nat.le_refl _) _⟩
end Go.Proofs.YtbnhngfegnhaiaaDoor
namespace Go.Proofs.YtbnhngfegnhaiaaDoor
open Go.RowKit
set_option linter.unusedVariables false
set_option linter.unusedSimpArgs false
theorem res_c5r {fn : Func} {u : Tmp} (h : fn.results = #[.cell u 26]) (tmps : Array Value) {w : World} {b : Nat} {x0 x1 x2 x3 x4 : Value} (hp : tmps.getD u undef = .pointer (some ⟨b, 0, none⟩)) (hq : w.heap[b]? = some (.cells #[x0, x1, x2, x3, x4] 26 (0, 0))) :
    (results fn tmps).run Tryd.prog w = .ok (.agg #[x0, x1, x2, x3, x4]) w := by
  have hp' : tmps[u]?.getD undef = .pointer (some ⟨b, 0, none⟩) := by simpa using hp
  have h0 : w.cell? ⟨b, 0, none⟩ = some x0 := by rw [cell_of_heap hq]; rfl
  have h1 : w.cell? ⟨b, 1, none⟩ = some x1 := by rw [cell_of_heap hq]; rfl
  have h2 : w.cell? ⟨b, 2, none⟩ = some x2 := by rw [cell_of_heap hq]; rfl
  have h3 : w.cell? ⟨b, 3, none⟩ = some x3 := by rw [cell_of_heap hq]; rfl
  have h4 : w.cell? ⟨b, 4, none⟩ = some x4 := by rw [cell_of_heap hq]; rfl
  simp [results, h, hp', h0, h1, h2, h3, h4, go_sem]
def marksA (l : List Mrk) : Array Value := (l.flatMap fun m => [.int .i64 m.pos.lo, .int .i64 m.pos.hi, .int .i64 m.tone.lo, .int .i64 m.tone.hi]).toArray
theorem marksA_at : ∀ (l : List Mrk) (i k : Nat) (v : Value), (gm l i).arr[k]? = some v → i < l.length → k < 4 → (l.flatMap fun m => [Value.int .i64 m.pos.lo, .int .i64 m.pos.hi, .int .i64 m.tone.lo, .int .i64 m.tone.hi])[i * 4 + k]? = some v
  | [], i, k, v, _, h, _ => by simp at h
  | m :: l, 0, k, v, h, _, hk => by
    rw [List.flatMap_cons, List.getElem?_append_left (by simp; omega)]
    obtain _ | _ | _ | _ | k := k
    · exact h
    · exact h
    · exact h
    · exact h
    · omega
  | m :: l, i + 1, k, v, h, hi, hk => by
    rw [List.flatMap_cons, List.getElem?_append_right (by simp; omega)]
    have e : (i + 1) * 4 + k - [Value.int .i64 m.pos.lo, .int .i64 m.pos.hi, .int .i64 m.tone.lo, .int .i64 m.tone.hi].length = i * 4 + k := by simp; omega
    rw [e]
    exact marksA_at l i k v h (by simpa using hi) hk
theorem marks_is {w : World} {b : Nat} {l : List Mrk} {ty : TypeId} (h : w.heap[b]? = some (.cells (marksA l) ty (0, 0))) : IsMks w (some ⟨b, 0, none⟩) l := fun i hi => by
  have hc : ∀ k v, (gm l i).arr[k]? = some v → k < 4 → w.cell? ⟨b, 0 + i * 4 + k, none⟩ = some v := fun k v hv hk => by
    rw [cell_of_heap h, Nat.zero_add]
    show (marksA l)[i * 4 + k]? = some v
    unfold marksA
    rw [List.getElem?_toArray]
    exact marksA_at l i k v hv hi hk
  exact ⟨b, 0, rfl, hc 0 _ rfl (by omega), hc 1 _ rfl (by omega), hc 2 _ rfl (by omega), hc 3 _ rfl (by omega)⟩
attribute [local go_sem] Oper.semAt_some
theorem cf48 (args : Array Value) (w : World) : (callFunc 64 args).run Tryd.prog w = .ok (.enter 64 args) w := by simp [callFunc, Tryd.func64, Tryd.f64, go_sem]
set_option maxRecDepth 100000 in
set_option maxHeartbeats 8000000 in
theorem rows34 {w : World} : Calls Tryd.prog 26 #[] w fun e w' => ∃ al ar, e = .returned (rows02.v al 3 ar 4) ∧ IsMks w' al rows02.left ∧ IsMks w' ar rows02.right ∧ Below w.heap.size w w' := by
  have cf := cf48
  have HX := Lib.hid (And.intro (World.alloc_heap_new w (.cells #[.slice none 0 0, .slice none 0 0, .int .i64 0, .int .i64 0, .int .i64 0] 26)) (alloc_below w (.cells #[.slice none 0 0, .slice none 0 0, .int .i64 0, .int .i64 0, .int .i64 0] 26)))
  go_enter Tryd.func26, Tryd.ntmps26
  refine wp_seq_hid ?_
  intro K0 HK0
  go_wp2_with fail
  refine HK0.out _ _ ?_
  clear HK0 K0
  revert HX
  generalize w.alloc (.cells #[.slice none 0 0, .slice none 0 0, .int .i64 0, .int .i64 0, .int .i64 0] 26) = w0
  generalize hb : w.heap.size = b0
  intro HX
  have HLT : Hid (b0 < w0.heap.size) := heap_lt HX.out.1
  clear hb
  refine wp_seq_hid ?_
  intro K1 HK1
  go_wp2_with fail
  refine HK1.out _ _ ?_
  clear HK1 K1
  refine wp_seq_hid ?_
  intro K2 HK2
  go_wp2_with fail
  refine mark48.mono ?_
  rintro e w1 ⟨rfl, hb1⟩
  have HB1 := Lib.hid (hb1)
  clear hb1
  go_wp2_with fail
  refine mark48.mono ?_
  rintro e w2 ⟨rfl, hb2⟩
  have HB2 := Lib.hid ((HB1.out.trans (hb2.mono HB1.out.size)))
  clear hb2 HB1
  go_wp2_with fail
  refine mark48.mono ?_
  rintro e w3 ⟨rfl, hb3⟩
  have HB3 := Lib.hid ((HB2.out.trans (hb3.mono HB2.out.size)))
  clear hb3 HB2
  go_wp2_with fail
  have HS : Hid ((w3.alloc (.cells (marksA rows02.left) 30)).heap[w3.heap.size]? = some (.cells (marksA rows02.left) 30 (0, 0)) ∧ Below w3.heap.size w3 (w3.alloc (.cells (marksA rows02.left) 30)) ∧ (w3.alloc (.cells (marksA rows02.left) 30)).heap.size = w3.heap.size + 1) := ⟨World.alloc_heap_new _ _, alloc_below _ _, by simp⟩
  change Calls Tryd.prog 64 _ (w3.alloc (.cells (marksA rows02.left) 30)) _
  revert HS
  generalize w3.alloc (.cells (marksA rows02.left) 30) = w4
  generalize hb3 : w3.heap.size = b3
  intro HS
  have HB3L : Hid (w0.heap.size ≤ b3) := by have h := HB3.out.size; rw [Hid]; omega
  have HB4 := Lib.hid (HB3.out.trans (by have h := HS.out.2.1; rw [← hb3] at h; exact h.mono HB3.out.size))
  have HL4 : Hid (b3 < w4.heap.size) := heap_lt HS.out.1
  clear hb3 HB3
  refine mark48.mono ?_
  rintro e w5 ⟨rfl, hb⟩
  have HC5 := Lib.hid hb
  clear hb
  go_wp2_with fail
  refine mark48.mono ?_
  rintro e w6 ⟨rfl, hb6⟩
  have HC6 := Lib.hid (HC5.out.trans (hb6.mono HC5.out.size))
  clear hb6 HC5
  go_wp2_with fail
  refine mark48.mono ?_
  rintro e w7 ⟨rfl, hb7⟩
  have HC7 := Lib.hid (HC6.out.trans (hb7.mono HC6.out.size))
  clear hb7 HC6
  go_wp2_with fail
  refine mark48.mono ?_
  rintro e w8 ⟨rfl, hb8⟩
  have HC8 := Lib.hid (HC7.out.trans (hb8.mono HC7.out.size))
  clear hb8 HC7
  go_wp2_with fail
  have HT : Hid ((w8.alloc (.cells (marksA rows02.right) 30)).heap[w8.heap.size]? = some (.cells (marksA rows02.right) 30 (0, 0)) ∧ Below w8.heap.size w8 (w8.alloc (.cells (marksA rows02.right) 30))) := ⟨World.alloc_heap_new _ _, alloc_below _ _⟩
  change Calls Tryd.prog 13 _ (w8.alloc (.cells (marksA rows02.right) 30)) _
  revert HT
  generalize w8.alloc (.cells (marksA rows02.right) 30) = w9
  generalize hb8 : w8.heap.size = b8
  intro HT
  have HB8L : Hid (w0.heap.size ≤ b8) := by have h := HC8.out.size; have h2 := HB4.out.size; rw [Hid]; omega
  have HC9 : Hid (Below w4.heap.size w4 w9) := HC8.out.trans (by have h := HT.out.2; rw [← hb8] at h; exact h.mono HC8.out.size)
  clear hb8 HC8
  refine span13.mono ?_
  rintro e w10 ⟨rfl, hb⟩
  have HC10 : Hid (Below w4.heap.size w4 w10) := HC9.out.trans (hb.mono HC9.out.size)
  have HR : Hid (w10.heap[b8]? = some (.cells (marksA rows02.right) 30 (0, 0))) := (hb.block _ (heap_lt HT.out.1)).trans HT.out.1
  have HQL : Hid (w10.heap[b3]? = some (.cells (marksA rows02.left) 30 (0, 0))) := (HC10.out.block _ (heap_lt HS.out.1)).trans HS.out.1
  have HB10 : Hid (Below w0.heap.size w0 w10) := HB4.out.trans (HC10.out.mono HB4.out.size)
  clear hb HC9 HC10 HT HS HB4
  have hq := (HB10.out.block _ (heap_lt HX.out.1)).trans HX.out.1
  have HQ := Lib.hid hq
  have s0 : w10.cell? ⟨b0, 0, none⟩ = some (.slice none 0 0) := by rw [cell_of_heap hq]; rfl
  have s1 : w10.cell? ⟨b0, 1, none⟩ = some (.slice none 0 0) := by rw [cell_of_heap hq]; rfl
  have s2 : w10.cell? ⟨b0, 2, none⟩ = some (.int .i64 0) := by rw [cell_of_heap hq]; rfl
  have s3 : w10.cell? ⟨b0, 3, none⟩ = some (.int .i64 0) := by rw [cell_of_heap hq]; rfl
  have s4 : w10.cell? ⟨b0, 4, none⟩ = some (.int .i64 0) := by rw [cell_of_heap hq]; rfl
  have f0 : ∀ k, w10.frozen? ⟨b0, k, none⟩ = false := fun k => frozen_of_heap hq
  clear hq
  go_wp2_with fail
  refine HK2.out _ _ ?_
  go_wp2_with fail
  have h4 := heap_setCell_at (k := 4) (heap_setCell_at (k := 3) (heap_setCell_at (k := 2) (heap_setCell_at (k := 1) (heap_setCell_at (k := 0) HQ.out (.slice (some ⟨b3, 0, none⟩) 3 3)) (.slice (some ⟨b8, 0, none⟩) 4 4)) (.int .i64 5)) (.int .i64 20)) (.int .i64 1)
  have hlt := HLT.out
  have hb3 : w0.heap.size ≤ b3 := HB3L.out
  have hb8 : w0.heap.size ≤ b8 := HB8L.out
  have hb := (((((HX.out.2.trans (HB10.out.mono (Nat.le_of_lt hlt))).setCell (p := ⟨b0, 0, none⟩) (Nat.le_refl _) (.slice (some ⟨b3, 0, none⟩) 3 3)).setCell (p := ⟨b0, 1, none⟩) (Nat.le_refl _) (.slice (some ⟨b8, 0, none⟩) 4 4)).setCell (p := ⟨b0, 2, none⟩) (Nat.le_refl _) (.int .i64 5)).setCell (p := ⟨b0, 3, none⟩) (Nat.le_refl _) (.int .i64 20)).setCell (p := ⟨b0, 4, none⟩) (Nat.le_refl _) (.int .i64 1)
  have hne : ∀ k x, k ≠ b0 → w10.heap[k]? = some x → (((((w10.setCell ⟨b0, 0, none⟩ (.slice (some ⟨b3, 0, none⟩) 3 3)).setCell ⟨b0, 1, none⟩ (.slice (some ⟨b8, 0, none⟩) 4 4)).setCell ⟨b0, 2, none⟩ (.int .i64 5)).setCell ⟨b0, 3, none⟩ (.int .i64 20)).setCell ⟨b0, 4, none⟩ (.int .i64 1)).heap[k]? = some x := fun k x hk h => by
    rw [Below.heap_setCell _ _ _ _ hk, Below.heap_setCell _ _ _ _ hk, Below.heap_setCell _ _ _ _ hk, Below.heap_setCell _ _ _ _ hk, Below.heap_setCell _ _ _ _ hk]
    exact h
  exact bodyPost_ret (res_c5r rfl _ rfl h4) rfl ⟨some ⟨b3, 0, none⟩, some ⟨b8, 0, none⟩, rfl, marks_is (hne _ _ (by omega) HQL.out), marks_is (hne _ _ (by omega) HR.out), hb⟩
end Go.Proofs.YtbnhngfegnhaiaaDoor
namespace Go.Proofs.YtbnhngfegnhaiaaDoor
open Go.RowKit
set_option linter.unusedVariables false
set_option linter.unusedSimpArgs false
theorem res_mid {fn : Func} {u : Tmp} {t : TypeId} {cs : List Value} {d : TypeDesc} {ty : TypeId} {fr : Nat × Nat} (h : fn.results = #[.cell u t]) (tmps : Array Value) {w : World} {b : Nat} (hp : tmps.getD u undef = .pointer (some ⟨b, 0, none⟩)) (hq : w.heap[b]? = some (.cells cs.toArray ty fr))
    (hu : Tryd.prog.underlying t = some d) (hd : d.isRow = true) (hi : (Tryd.prog.info? t).map (·.size) = some cs.length) : (results fn tmps).run Tryd.prog w = .ok (.agg cs.toArray) w :=
  res_cell h tmps hp (run_loadVar_mid (P := Tryd.prog) w b 0 t cs d (range_of hq) hu hd hi)
theorem there_of {w : World} {b n : Nat} {c : Array Value} {t : TypeId} (h : w.heap[b]? = some (.cells c t (0, 0))) (hn : n ≤ c.size) : w.there b 0 n := fun j hj => ⟨by
  rw [Nat.zero_add, cell_of_heap h]
  simp
  omega, frozen_of_heap h⟩
theorem info26 : (Tryd.prog.info? 40).map (·.size) = some 8 := by kernel_rfl
def pairL (p : Par) (a : Option Addr) (c : Nat) : List Value := [.int .i64 p.focal.lo, .int .i64 p.focal.hi, .int .i64 p.base.lo, .int .i64 p.base.hi, .int .i64 p.tilt, .int .i64 p.near, .int .i64 p.far, .slice a p.things.length c]
def par0A : Array Value := #[.int .i64 0, .int .i64 0, .int .i64 0, .int .i64 0, .int .i64 0, .int .i64 0, .int .i64 0, .slice none 0 0]
def thgL (t : Thg) : List Value := [.int .i64 t.left.x.lo, .int .i64 t.left.x.hi, .int .i64 t.left.y.lo, .int .i64 t.left.y.hi, .int .i64 t.right.x.lo, .int .i64 t.right.x.hi, .int .i64 t.right.y.lo, .int .i64 t.right.y.hi, .int .i64 t.far]
theorem pair_one (p : Par) (a : Option Addr) (c : Nat) : (pairL p a c).toArray.all (·.oneCell') = true := by simp [pairL, Value.oneCell']
set_option maxHeartbeats 4000000 in
theorem pair32 {w : World} : Calls Tryd.prog 9 #[] w fun e w' => e = .returned (pair02.v none 0) ∧ Below w.heap.size w w' := by
  have HX := Lib.hid (And.intro (World.alloc_heap_new w (.cells par0A 40)) (alloc_below w (.cells par0A 40)))
  go_enter Tryd.func9, Tryd.ntmps9
  refine wp_seq_hid ?_
  intro K0 HK0
  go_wp2_with fail
  refine HK0.out _ _ ?_
  clear HK0 K0
  change Code.wp Tryd.prog _ _ _ (w.alloc (.cells par0A 40))
  revert HX
  generalize w.alloc (.cells par0A 40) = w1
  generalize hb : w.heap.size = b1
  intro HX
  have HLT : Hid (b1 ≤ w1.heap.size) := Nat.le_of_lt (heap_lt HX.out.1)
  clear hb
  refine wp_seq_hid ?_
  intro K1 HK1
  go_wp2_with fail
  refine span13.mono ?_
  rintro e w2 ⟨rfl, hb2⟩
  have HB2 := Lib.hid hb2
  clear hb2
  go_wp2_with fail
  refine span13.mono ?_
  rintro e w3 ⟨rfl, hb3⟩
  have HB := Lib.hid (HB2.out.trans (hb3.mono HB2.out.size))
  clear hb3 HB2
  have HQ := Lib.hid ((HB.out.block _ (heap_lt HX.out.1)).trans HX.out.1)
  go_wp2_with (refine wpList_store_mid rfl 40 _ _ (by rfl) b1 0 (pairL pair02 none 0).toArray (by rfl) (by rfl) (there_of HQ.out (by decide)) info26 (pair_one _ _ _) ?_)
  refine HK1.out _ _ ?_
  go_wp2_with fail
  have h4 := heap_setCells_all (vs := pairL pair02 none 0) HQ.out (by decide)
  have hb := HX.out.2.trans (HB.out.mono HLT.out)
  exact bodyPost_ret (res_mid rfl _ rfl h4 Tryd.underlying40 rfl info26) rfl ⟨rfl, below_setCells (Nat.le_refl _) _ _ _ hb⟩
end Go.Proofs.YtbnhngfegnhaiaaDoor
