/- The shift of two marks; the least and the greatest of numbers. The shift of two marks; the least and the greatest of numbers: the walks. The shift of a left mark. -/
import Derived.Test.YtbnhngfegnhaiaaDoorC4
namespace Go.Proofs.YtbnhngfegnhaiaaDoor
open Go.RowKit
set_option linter.unusedVariables false
set_option linter.unusedSimpArgs false
structure shf1F (b : Nat) (ga : Nat) (oa : Nat) (n : Nat) (ca : Nat) (gb : Nat) (ob : Nat) (m : Nat) (cb : Nat) (i : Nat) (k : Nat) (x1 : Int) (y1 : Int) (x2 : Int) (y2 : Int) (S0 : Bool → Nat → World → Prop) (S1 : Bool → Nat → Nat → World → Prop) (S2 : Bool → Nat → Nat → World → Prop) (S3 : Bool → Nat → Nat → World → Prop) (d : Nat → Bool) (x9 x10 x11 x12 x13 x14 x15 x16 x17 x18 x19 x20 x21 x22 x23 x24 x25 x26 x7 x8 : Value) (ms : Nat) (p7 : Nat) (w : World) : Prop where
  q1 : d 1 = true → d 0 = true
  q2 : d 2 = true → d 1 = true
  q3 : d 3 = true → d 2 = true
  q4 : d 4 = true → d 3 = true
  q6 : d 6 = true → d 4 = true ∧ d 5 = true
  q7 : d 7 = true → d 6 = true
  q8 : d 8 = true → d 7 = true
  q10 : d 10 = true → d 9 = true
  q11 : d 11 = true → d 10 = true
  q12 : d 12 = true → d 11 = true
  q13 : d 13 = true → d 12 = true
  q15 : d 15 = true → d 13 = true ∧ d 14 = true
  q16 : d 16 = true → d 15 = true
  q17 : d 17 = true → d 16 = true
  q20 : d 20 = true → d 0 = true ∧ d 1 = true ∧ d 2 = true ∧ d 3 = true ∧ d 4 = true ∧ d 5 = true ∧ d 6 = true ∧ d 7 = true ∧ d 8 = true ∧ d 18 = true ∧ d 19 = true
  q21 : d 21 = true → d 0 = true ∧ d 1 = true ∧ d 2 = true ∧ d 3 = true ∧ d 4 = true ∧ d 5 = true ∧ d 6 = true ∧ d 7 = true ∧ d 8 = true ∧ d 9 = true ∧ d 10 = true ∧ d 11 = true ∧ d 12 = true ∧ d 13 = true ∧ d 14 = true ∧ d 15 = true ∧ d 16 = true ∧ d 17 = true ∧ d 18 = true ∧ d 19 = true ∧ d 20 = true
  f0 : d 0 = true → x9 = .pointer (some ⟨b, 0, none⟩)
  f1 : d 1 = true → x10 = .pointer (some ⟨b, 0, none⟩)
  f2 : d 2 = true → x11 = .pointer (some ⟨b, 0, none⟩)
  f3 : d 3 = true → x12 = .pointer (some ⟨b, 0, none⟩)
  f4 : d 4 = true → x13 = .slice (some ⟨ga, oa, none⟩) n ca
  f5 : d 5 = true → x14 = .int .i64 i
  f6 : d 6 = true → x15 = .pointer (some ⟨ga, oa + i * 4, none⟩)
  f7 : d 7 = true → x16 = .pointer (some ⟨ga, oa + i * 4, none⟩)
  f8 : d 8 = true → x17 = .agg #[.int .i64 x1, .int .i64 y1]
  f9 : d 9 = true → x18 = .pointer (some ⟨b, 0, none⟩)
  f10 : d 10 = true → x19 = .pointer (some ⟨b, 0, none⟩)
  f11 : d 11 = true → x20 = .pointer (some ⟨b, 0, none⟩)
  f12 : d 12 = true → x21 = .pointer (some ⟨b, 1, none⟩)
  f13 : d 13 = true → x22 = .slice (some ⟨gb, ob, none⟩) m cb
  f14 : d 14 = true → x23 = .int .i64 k
  f15 : d 15 = true → x24 = .pointer (some ⟨gb, ob + k * 4, none⟩)
  f16 : d 16 = true → x25 = .pointer (some ⟨gb, ob + k * 4, none⟩)
  f17 : d 17 = true → x26 = .agg #[.int .i64 x2, .int .i64 y2]
  f18 : d 18 = true → x7 = .pointer (some ⟨p7, 0, none⟩)
  f19 : d 19 = true → x8 = .pointer (some ⟨ms, 0, none⟩)
  st0 : d 18 = false → S0 (d 19) ms w
  st1 : d 18 = true → d 20 = false → S1 (d 19) ms p7 w
  st2 : d 20 = true → d 21 = false → S2 (d 19) ms p7 w
  st3 : d 21 = true → S3 (d 19) ms p7 w
  mz : d 19 = false → ms = 0
noncomputable def shf1C : Code := (Tryd.f40.body.bind (regionAt 1)).getD .skip
set_option maxRecDepth 100000 in
set_option maxHeartbeats 4000000 in
theorem shf1 {b : Nat} {ga : Nat} {oa : Nat} {n : Nat} {ca : Nat} {gb : Nat} {ob : Nat} {m : Nat} {cb : Nat} {i : Nat} {k : Nat} {x1 : Int} {y1 : Int} {x2 : Int} {y2 : Int} {S0 : Bool → Nat → World → Prop} {S1 : Bool → Nat → Nat → World → Prop} {S2 : Bool → Nat → Nat → World → Prop} {S3 : Bool → Nat → Nat → World → Prop} {Q : Exit → Act → World → Prop} {W1 : World} (hi1 : (0 : Int) ≤ i) (hi2 : (i : Int) < n) (hk1 : (0 : Int) ≤ k) (hk2 : (k : Int) < m) (h0 : S0 false 0 W1.drew)
    (kl4 : Hid (∀ (fs : Bool) (ms : Nat) (p7 : Nat) (w : World), (S0 fs ms w ∨ S1 fs ms p7 w) → w.cell? ⟨b, 0, none⟩ = some (.slice (some ⟨ga, oa, none⟩) n ca)))
    (kl8 : Hid (∀ (fs : Bool) (ms : Nat) (p7 : Nat) (w : World), (S0 fs ms w ∨ S1 fs ms p7 w) → w.cell? ⟨ga, oa + i * 4, none⟩ = some (.int .i64 x1) ∧ w.cell? ⟨ga, oa + i * 4 + 1, none⟩ = some (.int .i64 y1)))
    (kl13 : Hid (∀ (fs : Bool) (ms : Nat) (p7 : Nat) (w : World), (S0 fs ms w ∨ S1 fs ms p7 w ∨ S2 fs ms p7 w) → w.cell? ⟨b, 1, none⟩ = some (.slice (some ⟨gb, ob, none⟩) m cb)))
    (kl17 : Hid (∀ (fs : Bool) (ms : Nat) (p7 : Nat) (w : World), (S0 fs ms w ∨ S1 fs ms p7 w ∨ S2 fs ms p7 w) → w.cell? ⟨gb, ob + k * 4, none⟩ = some (.int .i64 x2) ∧ w.cell? ⟨gb, ob + k * 4 + 1, none⟩ = some (.int .i64 y2)))
    (kc18 : Hid (∀ (fs : Bool) (ms : Nat) (w : World), S0 fs ms w → S1 fs ms w.heap.size (w.alloc (.cells #[.int .i64 0, .int .i64 0] 24))))
    (ks0 : Hid (∀ (w : World), S0 false 0 w → S0 true w.heap.size (w.alloc (.cells #[.int .i64 0, .int .i64 0] 24))))
    (ks1 : Hid (∀ (p7 : Nat) (w : World), S1 false 0 p7 w → S1 true w.heap.size p7 (w.alloc (.cells #[.int .i64 0, .int .i64 0] 24))))
    (kc20 : Hid (∀ (ms : Nat) (p7 : Nat) (w : World), S1 true ms p7 w → (∃ u, w.cell? ⟨p7, 0, none⟩ = some u) ∧ w.frozen? ⟨p7, 0, none⟩ = false ∧ (∃ u, w.cell? ⟨p7, 1, none⟩ = some u) ∧ w.frozen? ⟨p7, 1, none⟩ = false ∧ S2 true ms p7 ((w.setCell ⟨p7, 0, none⟩ (.int .i64 x1)).setCell ⟨p7, 1, none⟩ (.int .i64 y1))))
    (kc21 : Hid (∀ (ms : Nat) (p7 : Nat) (w : World), S2 true ms p7 w → (∃ u, w.cell? ⟨ms, 0, none⟩ = some u) ∧ w.frozen? ⟨ms, 0, none⟩ = false ∧ (∃ u, w.cell? ⟨ms, 1, none⟩ = some u) ∧ w.frozen? ⟨ms, 1, none⟩ = false ∧ S3 true ms p7 ((w.setCell ⟨ms, 0, none⟩ (.int .i64 x2)).setCell ⟨ms, 1, none⟩ (.int .i64 y2))))
    {s3 s4 s5 s6 s7 s8 s9 s10 s11 s12 s13 s14 s15 s16 s17 s18 s19 s20 s21 s22 s23 s24 s25 s26 s27 s28 s29 s30 s31 s32 s33 s34 s35 s36 s37 s38 s39 s40 s41 s42 s43 : Value} {dd : List Deferred}
    (hQ : ∀ (ms : Nat) (p7 : Nat) (w' : World), S3 true ms p7 w' → Q .normal { tmps := #[.pointer (some ⟨b, 0, none⟩), .int .i64 i, .int .i64 k, s3, s4, s5, s6, .pointer (some ⟨p7, 0, none⟩), .pointer (some ⟨ms, 0, none⟩), .pointer (some ⟨b, 0, none⟩), .pointer (some ⟨b, 0, none⟩), .pointer (some ⟨b, 0, none⟩), .pointer (some ⟨b, 0, none⟩), .slice (some ⟨ga, oa, none⟩) n ca, .int .i64 i, .pointer (some ⟨ga, oa + i * 4, none⟩), .pointer (some ⟨ga, oa + i * 4, none⟩), .agg #[.int .i64 x1, .int .i64 y1], .pointer (some ⟨b, 0, none⟩), .pointer (some ⟨b, 0, none⟩), .pointer (some ⟨b, 0, none⟩), .pointer (some ⟨b, 1, none⟩), .slice (some ⟨gb, ob, none⟩) m cb, .int .i64 k, .pointer (some ⟨gb, ob + k * 4, none⟩), .pointer (some ⟨gb, ob + k * 4, none⟩), .agg #[.int .i64 x2, .int .i64 y2], s27, s28, s29, s30, s31, s32, s33, s34, s35, s36, s37, s38, s39, s40, s41, s42, s43], defers := dd } w') :
    Code.wpIn (wideAt none) 0 Tryd.prog shf1C Q { tmps := #[.pointer (some ⟨b, 0, none⟩), .int .i64 i, .int .i64 k, s3, s4, s5, s6, s7, s8, s9, s10, s11, s12, s13, s14, s15, s16, s17, s18, s19, s20, s21, s22, s23, s24, s25, s26, s27, s28, s29, s30, s31, s32, s33, s34, s35, s36, s37, s38, s39, s40, s41, s42, s43], defers := dd } W1 := by
  have HQ := Lib.hid hQ
  clear hQ
  conv => arg 4; whnf
  refine wpIn_region_invG mixed (by kernel_rfl) (fun d_ a_ w' => ∃ (x9 : Value) (x10 : Value) (x11 : Value) (x12 : Value) (x13 : Value) (x14 : Value) (x15 : Value) (x16 : Value) (x17 : Value) (x18 : Value) (x19 : Value) (x20 : Value) (x21 : Value) (x22 : Value) (x23 : Value) (x24 : Value) (x25 : Value) (x26 : Value) (x7 : Value) (x8 : Value) (ms : Nat) (p7 : Nat), a_ = { tmps := #[.pointer (some ⟨b, 0, none⟩), .int .i64 i, .int .i64 k, s3, s4, s5, s6, x7, x8, x9, x10, x11, x12, x13, x14, x15, x16, x17, x18, x19, x20, x21, x22, x23, x24, x25, x26, s27, s28, s29, s30, s31, s32, s33, s34, s35, s36, s37, s38, s39, s40, s41, s42, s43], defers := dd } ∧ shf1F b ga oa n ca gb ob m cb i k x1 y1 x2 y2 S0 S1 S2 S3 d_ x9 x10 x11 x12 x13 x14 x15 x16 x17 x18 x19 x20 x21 x22 x23 x24 x25 x26 x7 x8 ms p7 w') ?_ ?_ ?_
  · refine ⟨s9, s10, s11, s12, s13, s14, s15, s16, s17, s18, s19, s20, s21, s22, s23, s24, s25, s26, s7, s8, 0, 0, rfl, ?_⟩
    constructor <;> first | rfl | (intro _; rfl) | (intro h; cases h; done) | (intro _; exact h0) | exact h0
  · refine ⟨?_, ?_, ?_, ?_, ?_, ?_, ?_, ?_, ?_, ?_, ?_, ?_, ?_, ?_, ?_, ?_, ?_, ?_, ?_, ?_, ?_, ?_, trivial⟩
    all_goals
      rintro d_ a_ w1 K hd_ hdep ⟨x9, x10, x11, x12, x13, x14, x15, x16, x17, x18, x19, x20, x21, x22, x23, x24, x25, x26, x7, x8, ms, p7, rfl, F⟩ HK
      simp [Region.binds] at hdep
    · have HF : Hid (shf1F b ga oa n ca gb ob m cb i k x1 y1 x2 y2 S0 S1 S2 S3 (upd d_ 0) (.pointer (some ⟨b, 0, none⟩)) x10 x11 x12 x13 x14 x15 x16 x17 x18 x19 x20 x21 x22 x23 x24 x25 x26 x7 x8 ms p7 w1) := ⟨fun h => rfl, F.q2, F.q3, F.q4, F.q6, F.q7, F.q8, F.q10, F.q11, F.q12, F.q13, F.q15, F.q16, F.q17, fun h => andM0 (F.q20 h) rfl, fun h => andM0 (F.q21 h) rfl, fun _ => rfl, F.f1, F.f2, F.f3, F.f4, F.f5, F.f6, F.f7, F.f8, F.f9, F.f10, F.f11, F.f12, F.f13, F.f14, F.f15, F.f16, F.f17, F.f18, F.f19, F.st0, F.st1, F.st2, F.st3, F.mz⟩
      clear F
      go_simp
      exact HK.out _ _ ⟨_, _, _, _, _, _, _, _, _, _, _, _, _, _, _, _, _, _, _, _, _, _, rfl, HF.out⟩
    · obtain rfl := F.f0 (by simp [hdep])
      have HF : Hid (shf1F b ga oa n ca gb ob m cb i k x1 y1 x2 y2 S0 S1 S2 S3 (upd d_ 1) (.pointer (some ⟨b, 0, none⟩)) (.pointer (some ⟨b, 0, none⟩)) x11 x12 x13 x14 x15 x16 x17 x18 x19 x20 x21 x22 x23 x24 x25 x26 x7 x8 ms p7 w1) := ⟨fun _ => (show _ from (by simp [hdep] : d_ 0 = true)), fun h => rfl, F.q3, F.q4, F.q6, F.q7, F.q8, F.q10, F.q11, F.q12, F.q13, F.q15, F.q16, F.q17, fun h => andM1 (F.q20 h) rfl, fun h => andM1 (F.q21 h) rfl, F.f0, fun _ => rfl, F.f2, F.f3, F.f4, F.f5, F.f6, F.f7, F.f8, F.f9, F.f10, F.f11, F.f12, F.f13, F.f14, F.f15, F.f16, F.f17, F.f18, F.f19, F.st0, F.st1, F.st2, F.st3, F.mz⟩
      clear F
      go_simp
      exact HK.out _ _ ⟨_, _, _, _, _, _, _, _, _, _, _, _, _, _, _, _, _, _, _, _, _, _, rfl, HF.out⟩
    · obtain rfl := F.f1 (by simp [hdep])
      have HF : Hid (shf1F b ga oa n ca gb ob m cb i k x1 y1 x2 y2 S0 S1 S2 S3 (upd d_ 2) x9 (.pointer (some ⟨b, 0, none⟩)) (.pointer (some ⟨b, 0, none⟩)) x12 x13 x14 x15 x16 x17 x18 x19 x20 x21 x22 x23 x24 x25 x26 x7 x8 ms p7 w1) := ⟨F.q1, fun _ => (show _ from (by simp [hdep] : d_ 1 = true)), fun h => rfl, F.q4, F.q6, F.q7, F.q8, F.q10, F.q11, F.q12, F.q13, F.q15, F.q16, F.q17, fun h => andM2 (F.q20 h) rfl, fun h => andM2 (F.q21 h) rfl, F.f0, F.f1, fun _ => rfl, F.f3, F.f4, F.f5, F.f6, F.f7, F.f8, F.f9, F.f10, F.f11, F.f12, F.f13, F.f14, F.f15, F.f16, F.f17, F.f18, F.f19, F.st0, F.st1, F.st2, F.st3, F.mz⟩
      clear F
      go_simp
      exact HK.out _ _ ⟨_, _, _, _, _, _, _, _, _, _, _, _, _, _, _, _, _, _, _, _, _, _, rfl, HF.out⟩
    · obtain rfl := F.f2 (by simp [hdep])
      have HF : Hid (shf1F b ga oa n ca gb ob m cb i k x1 y1 x2 y2 S0 S1 S2 S3 (upd d_ 3) x9 x10 (.pointer (some ⟨b, 0, none⟩)) (.pointer (some ⟨b, 0, none⟩)) x13 x14 x15 x16 x17 x18 x19 x20 x21 x22 x23 x24 x25 x26 x7 x8 ms p7 w1) := ⟨F.q1, F.q2, fun _ => (show _ from (by simp [hdep] : d_ 2 = true)), fun h => rfl, F.q6, F.q7, F.q8, F.q10, F.q11, F.q12, F.q13, F.q15, F.q16, F.q17, fun h => andM3 (F.q20 h) rfl, fun h => andM3 (F.q21 h) rfl, F.f0, F.f1, F.f2, fun _ => rfl, F.f4, F.f5, F.f6, F.f7, F.f8, F.f9, F.f10, F.f11, F.f12, F.f13, F.f14, F.f15, F.f16, F.f17, F.f18, F.f19, F.st0, F.st1, F.st2, F.st3, F.mz⟩
      clear F
      go_simp
      exact HK.out _ _ ⟨_, _, _, _, _, _, _, _, _, _, _, _, _, _, _, _, _, _, _, _, _, _, rfl, HF.out⟩
    · have hst : S0 (d_ 19) ms w1 ∨ S1 (d_ 19) ms p7 w1 := by
        cases e1 : d_ 18 with
        | false => exact .inl ((F.st0 e1))
        | true =>
          have n_ : d_ 20 = false := by
            cases e_ : d_ 20 with
            | false => rfl
            | true => have h2 := (F.q20 e_).2.2.2.2.1; rw [show d_ 4 = false from hd_] at h2; cases h2
          exact .inr ((F.st1 e1 n_))
      have kk := kl4.out (d_ 19) ms p7 w1 hst
      clear hst
      obtain rfl := F.f3 (by simp [hdep])
      have HF : Hid (shf1F b ga oa n ca gb ob m cb i k x1 y1 x2 y2 S0 S1 S2 S3 (upd d_ 4) x9 x10 x11 (.pointer (some ⟨b, 0, none⟩)) (.slice (some ⟨ga, oa, none⟩) n ca) x14 x15 x16 x17 x18 x19 x20 x21 x22 x23 x24 x25 x26 x7 x8 ms p7 w1) := ⟨F.q1, F.q2, F.q3, fun _ => (show _ from (by simp [hdep] : d_ 3 = true)), fun h => andM0 (F.q6 h) rfl, F.q7, F.q8, F.q10, F.q11, F.q12, F.q13, F.q15, F.q16, F.q17, fun h => andM4 (F.q20 h) rfl, fun h => andM4 (F.q21 h) rfl, F.f0, F.f1, F.f2, F.f3, fun _ => rfl, F.f5, F.f6, F.f7, F.f8, F.f9, F.f10, F.f11, F.f12, F.f13, F.f14, F.f15, F.f16, F.f17, F.f18, F.f19, F.st0, F.st1, F.st2, F.st3, F.mz⟩
      clear F
      go_simp
      exact HK.out _ _ ⟨_, _, _, _, _, _, _, _, _, _, _, _, _, _, _, _, _, _, _, _, _, _, rfl, HF.out⟩
    · have HF : Hid (shf1F b ga oa n ca gb ob m cb i k x1 y1 x2 y2 S0 S1 S2 S3 (upd d_ 5) x9 x10 x11 x12 x13 (.int .i64 i) x15 x16 x17 x18 x19 x20 x21 x22 x23 x24 x25 x26 x7 x8 ms p7 w1) := ⟨F.q1, F.q2, F.q3, F.q4, fun h => andL1 (F.q6 h) rfl, F.q7, F.q8, F.q10, F.q11, F.q12, F.q13, F.q15, F.q16, F.q17, fun h => andM5 (F.q20 h) rfl, fun h => andM5 (F.q21 h) rfl, F.f0, F.f1, F.f2, F.f3, F.f4, fun _ => rfl, F.f6, F.f7, F.f8, F.f9, F.f10, F.f11, F.f12, F.f13, F.f14, F.f15, F.f16, F.f17, F.f18, F.f19, F.st0, F.st1, F.st2, F.st3, F.mz⟩
      clear F
      go_simp
      exact HK.out _ _ ⟨_, _, _, _, _, _, _, _, _, _, _, _, _, _, _, _, _, _, _, _, _, _, rfl, HF.out⟩
    · obtain rfl := F.f4 (by simp [hdep])
      obtain rfl := F.f5 (by simp [hdep])
      have HF : Hid (shf1F b ga oa n ca gb ob m cb i k x1 y1 x2 y2 S0 S1 S2 S3 (upd d_ 6) x9 x10 x11 x12 (.slice (some ⟨ga, oa, none⟩) n ca) (.int .i64 i) (.pointer (some ⟨ga, oa + i * 4, none⟩)) x16 x17 x18 x19 x20 x21 x22 x23 x24 x25 x26 x7 x8 ms p7 w1) := ⟨F.q1, F.q2, F.q3, F.q4, fun _ => ⟨(show _ from (by simp [hdep] : d_ 4 = true)), (show _ from (by simp [hdep] : d_ 5 = true))⟩, fun h => rfl, F.q8, F.q10, F.q11, F.q12, F.q13, F.q15, F.q16, F.q17, fun h => andM6 (F.q20 h) rfl, fun h => andM6 (F.q21 h) rfl, F.f0, F.f1, F.f2, F.f3, F.f4, F.f5, fun _ => rfl, F.f7, F.f8, F.f9, F.f10, F.f11, F.f12, F.f13, F.f14, F.f15, F.f16, F.f17, F.f18, F.f19, F.st0, F.st1, F.st2, F.st3, F.mz⟩
      clear F
      go_simp
      exact HK.out _ _ ⟨_, _, _, _, _, _, _, _, _, _, _, _, _, _, _, _, _, _, _, _, _, _, rfl, HF.out⟩
    · obtain rfl := F.f6 (by simp [hdep])
      have HF : Hid (shf1F b ga oa n ca gb ob m cb i k x1 y1 x2 y2 S0 S1 S2 S3 (upd d_ 7) x9 x10 x11 x12 x13 x14 (.pointer (some ⟨ga, oa + i * 4, none⟩)) (.pointer (some ⟨ga, oa + i * 4, none⟩)) x17 x18 x19 x20 x21 x22 x23 x24 x25 x26 x7 x8 ms p7 w1) := ⟨F.q1, F.q2, F.q3, F.q4, F.q6, fun _ => (show _ from (by simp [hdep] : d_ 6 = true)), fun h => rfl, F.q10, F.q11, F.q12, F.q13, F.q15, F.q16, F.q17, fun h => andM7 (F.q20 h) rfl, fun h => andM7 (F.q21 h) rfl, F.f0, F.f1, F.f2, F.f3, F.f4, F.f5, F.f6, fun _ => rfl, F.f8, F.f9, F.f10, F.f11, F.f12, F.f13, F.f14, F.f15, F.f16, F.f17, F.f18, F.f19, F.st0, F.st1, F.st2, F.st3, F.mz⟩
      clear F
      go_simp
      exact HK.out _ _ ⟨_, _, _, _, _, _, _, _, _, _, _, _, _, _, _, _, _, _, _, _, _, _, rfl, HF.out⟩
    · have hst : S0 (d_ 19) ms w1 ∨ S1 (d_ 19) ms p7 w1 := by
        cases e1 : d_ 18 with
        | false => exact .inl ((F.st0 e1))
        | true =>
          have n_ : d_ 20 = false := by
            cases e_ : d_ 20 with
            | false => rfl
            | true => have h2 := (F.q20 e_).2.2.2.2.2.2.2.2.1; rw [show d_ 8 = false from hd_] at h2; cases h2
          exact .inr ((F.st1 e1 n_))
      have kk := kl8.out (d_ 19) ms p7 w1 hst
      obtain ⟨kk0, kk1⟩ := kk
      clear hst
      obtain rfl := F.f7 (by simp [hdep])
      have HF : Hid (shf1F b ga oa n ca gb ob m cb i k x1 y1 x2 y2 S0 S1 S2 S3 (upd d_ 8) x9 x10 x11 x12 x13 x14 x15 (.pointer (some ⟨ga, oa + i * 4, none⟩)) (.agg #[.int .i64 x1, .int .i64 y1]) x18 x19 x20 x21 x22 x23 x24 x25 x26 x7 x8 ms p7 w1) := ⟨F.q1, F.q2, F.q3, F.q4, F.q6, F.q7, fun _ => (show _ from (by simp [hdep] : d_ 7 = true)), F.q10, F.q11, F.q12, F.q13, F.q15, F.q16, F.q17, fun h => andM8 (F.q20 h) rfl, fun h => andM8 (F.q21 h) rfl, F.f0, F.f1, F.f2, F.f3, F.f4, F.f5, F.f6, F.f7, fun _ => rfl, F.f9, F.f10, F.f11, F.f12, F.f13, F.f14, F.f15, F.f16, F.f17, F.f18, F.f19, F.st0, F.st1, F.st2, F.st3, F.mz⟩
      clear F
      go_simp
      exact HK.out _ _ ⟨_, _, _, _, _, _, _, _, _, _, _, _, _, _, _, _, _, _, _, _, _, _, rfl, HF.out⟩
    · have HF : Hid (shf1F b ga oa n ca gb ob m cb i k x1 y1 x2 y2 S0 S1 S2 S3 (upd d_ 9) x9 x10 x11 x12 x13 x14 x15 x16 x17 (.pointer (some ⟨b, 0, none⟩)) x19 x20 x21 x22 x23 x24 x25 x26 x7 x8 ms p7 w1) := ⟨F.q1, F.q2, F.q3, F.q4, F.q6, F.q7, F.q8, fun h => rfl, F.q11, F.q12, F.q13, F.q15, F.q16, F.q17, F.q20, fun h => andM9 (F.q21 h) rfl, F.f0, F.f1, F.f2, F.f3, F.f4, F.f5, F.f6, F.f7, F.f8, fun _ => rfl, F.f10, F.f11, F.f12, F.f13, F.f14, F.f15, F.f16, F.f17, F.f18, F.f19, F.st0, F.st1, F.st2, F.st3, F.mz⟩
      clear F
      go_simp
      exact HK.out _ _ ⟨_, _, _, _, _, _, _, _, _, _, _, _, _, _, _, _, _, _, _, _, _, _, rfl, HF.out⟩
    · obtain rfl := F.f9 (by simp [hdep])
      have HF : Hid (shf1F b ga oa n ca gb ob m cb i k x1 y1 x2 y2 S0 S1 S2 S3 (upd d_ 10) x9 x10 x11 x12 x13 x14 x15 x16 x17 (.pointer (some ⟨b, 0, none⟩)) (.pointer (some ⟨b, 0, none⟩)) x20 x21 x22 x23 x24 x25 x26 x7 x8 ms p7 w1) := ⟨F.q1, F.q2, F.q3, F.q4, F.q6, F.q7, F.q8, fun _ => (show _ from (by simp [hdep] : d_ 9 = true)), fun h => rfl, F.q12, F.q13, F.q15, F.q16, F.q17, F.q20, fun h => andM10 (F.q21 h) rfl, F.f0, F.f1, F.f2, F.f3, F.f4, F.f5, F.f6, F.f7, F.f8, F.f9, fun _ => rfl, F.f11, F.f12, F.f13, F.f14, F.f15, F.f16, F.f17, F.f18, F.f19, F.st0, F.st1, F.st2, F.st3, F.mz⟩
      clear F
      go_simp
      exact HK.out _ _ ⟨_, _, _, _, _, _, _, _, _, _, _, _, _, _, _, _, _, _, _, _, _, _, rfl, HF.out⟩
    · obtain rfl := F.f10 (by simp [hdep])
      have HF : Hid (shf1F b ga oa n ca gb ob m cb i k x1 y1 x2 y2 S0 S1 S2 S3 (upd d_ 11) x9 x10 x11 x12 x13 x14 x15 x16 x17 x18 (.pointer (some ⟨b, 0, none⟩)) (.pointer (some ⟨b, 0, none⟩)) x21 x22 x23 x24 x25 x26 x7 x8 ms p7 w1) := ⟨F.q1, F.q2, F.q3, F.q4, F.q6, F.q7, F.q8, F.q10, fun _ => (show _ from (by simp [hdep] : d_ 10 = true)), fun h => rfl, F.q13, F.q15, F.q16, F.q17, F.q20, fun h => andM11 (F.q21 h) rfl, F.f0, F.f1, F.f2, F.f3, F.f4, F.f5, F.f6, F.f7, F.f8, F.f9, F.f10, fun _ => rfl, F.f12, F.f13, F.f14, F.f15, F.f16, F.f17, F.f18, F.f19, F.st0, F.st1, F.st2, F.st3, F.mz⟩
      clear F
      go_simp
      exact HK.out _ _ ⟨_, _, _, _, _, _, _, _, _, _, _, _, _, _, _, _, _, _, _, _, _, _, rfl, HF.out⟩
    · obtain rfl := F.f11 (by simp [hdep])
      have HF : Hid (shf1F b ga oa n ca gb ob m cb i k x1 y1 x2 y2 S0 S1 S2 S3 (upd d_ 12) x9 x10 x11 x12 x13 x14 x15 x16 x17 x18 x19 (.pointer (some ⟨b, 0, none⟩)) (.pointer (some ⟨b, 1, none⟩)) x22 x23 x24 x25 x26 x7 x8 ms p7 w1) := ⟨F.q1, F.q2, F.q3, F.q4, F.q6, F.q7, F.q8, F.q10, F.q11, fun _ => (show _ from (by simp [hdep] : d_ 11 = true)), fun h => rfl, F.q15, F.q16, F.q17, F.q20, fun h => andM12 (F.q21 h) rfl, F.f0, F.f1, F.f2, F.f3, F.f4, F.f5, F.f6, F.f7, F.f8, F.f9, F.f10, F.f11, fun _ => rfl, F.f13, F.f14, F.f15, F.f16, F.f17, F.f18, F.f19, F.st0, F.st1, F.st2, F.st3, F.mz⟩
      clear F
      go_simp
      exact HK.out _ _ ⟨_, _, _, _, _, _, _, _, _, _, _, _, _, _, _, _, _, _, _, _, _, _, rfl, HF.out⟩
    · have hst : S0 (d_ 19) ms w1 ∨ S1 (d_ 19) ms p7 w1 ∨ S2 (d_ 19) ms p7 w1 := by
        cases e1 : d_ 18 with
        | false => exact .inl ((F.st0 e1))
        | true =>
          cases e2 : d_ 20 with
          | false => exact .inr (.inl ((F.st1 e1 e2)))
          | true =>
            have n_ : d_ 21 = false := by
              cases e_ : d_ 21 with
              | false => rfl
              | true => have h2 := (F.q21 e_).2.2.2.2.2.2.2.2.2.2.2.2.2.1; rw [show d_ 13 = false from hd_] at h2; cases h2
            exact .inr (.inr ((F.st2 e2 n_)))
      have kk := kl13.out (d_ 19) ms p7 w1 hst
      clear hst
      obtain rfl := F.f12 (by simp [hdep])
      have HF : Hid (shf1F b ga oa n ca gb ob m cb i k x1 y1 x2 y2 S0 S1 S2 S3 (upd d_ 13) x9 x10 x11 x12 x13 x14 x15 x16 x17 x18 x19 x20 (.pointer (some ⟨b, 1, none⟩)) (.slice (some ⟨gb, ob, none⟩) m cb) x23 x24 x25 x26 x7 x8 ms p7 w1) := ⟨F.q1, F.q2, F.q3, F.q4, F.q6, F.q7, F.q8, F.q10, F.q11, F.q12, fun _ => (show _ from (by simp [hdep] : d_ 12 = true)), fun h => andM0 (F.q15 h) rfl, F.q16, F.q17, F.q20, fun h => andM13 (F.q21 h) rfl, F.f0, F.f1, F.f2, F.f3, F.f4, F.f5, F.f6, F.f7, F.f8, F.f9, F.f10, F.f11, F.f12, fun _ => rfl, F.f14, F.f15, F.f16, F.f17, F.f18, F.f19, F.st0, F.st1, F.st2, F.st3, F.mz⟩
      clear F
      go_simp
      exact HK.out _ _ ⟨_, _, _, _, _, _, _, _, _, _, _, _, _, _, _, _, _, _, _, _, _, _, rfl, HF.out⟩
    · have HF : Hid (shf1F b ga oa n ca gb ob m cb i k x1 y1 x2 y2 S0 S1 S2 S3 (upd d_ 14) x9 x10 x11 x12 x13 x14 x15 x16 x17 x18 x19 x20 x21 x22 (.int .i64 k) x24 x25 x26 x7 x8 ms p7 w1) := ⟨F.q1, F.q2, F.q3, F.q4, F.q6, F.q7, F.q8, F.q10, F.q11, F.q12, F.q13, fun h => andL1 (F.q15 h) rfl, F.q16, F.q17, F.q20, fun h => andM14 (F.q21 h) rfl, F.f0, F.f1, F.f2, F.f3, F.f4, F.f5, F.f6, F.f7, F.f8, F.f9, F.f10, F.f11, F.f12, F.f13, fun _ => rfl, F.f15, F.f16, F.f17, F.f18, F.f19, F.st0, F.st1, F.st2, F.st3, F.mz⟩
      clear F
      go_simp
      exact HK.out _ _ ⟨_, _, _, _, _, _, _, _, _, _, _, _, _, _, _, _, _, _, _, _, _, _, rfl, HF.out⟩
    · obtain rfl := F.f13 (by simp [hdep])
      obtain rfl := F.f14 (by simp [hdep])
      have HF : Hid (shf1F b ga oa n ca gb ob m cb i k x1 y1 x2 y2 S0 S1 S2 S3 (upd d_ 15) x9 x10 x11 x12 x13 x14 x15 x16 x17 x18 x19 x20 x21 (.slice (some ⟨gb, ob, none⟩) m cb) (.int .i64 k) (.pointer (some ⟨gb, ob + k * 4, none⟩)) x25 x26 x7 x8 ms p7 w1) := ⟨F.q1, F.q2, F.q3, F.q4, F.q6, F.q7, F.q8, F.q10, F.q11, F.q12, F.q13, fun _ => ⟨(show _ from (by simp [hdep] : d_ 13 = true)), (show _ from (by simp [hdep] : d_ 14 = true))⟩, fun h => rfl, F.q17, F.q20, fun h => andM15 (F.q21 h) rfl, F.f0, F.f1, F.f2, F.f3, F.f4, F.f5, F.f6, F.f7, F.f8, F.f9, F.f10, F.f11, F.f12, F.f13, F.f14, fun _ => rfl, F.f16, F.f17, F.f18, F.f19, F.st0, F.st1, F.st2, F.st3, F.mz⟩
      clear F
      go_simp
      exact HK.out _ _ ⟨_, _, _, _, _, _, _, _, _, _, _, _, _, _, _, _, _, _, _, _, _, _, rfl, HF.out⟩
    · obtain rfl := F.f15 (by simp [hdep])
      have HF : Hid (shf1F b ga oa n ca gb ob m cb i k x1 y1 x2 y2 S0 S1 S2 S3 (upd d_ 16) x9 x10 x11 x12 x13 x14 x15 x16 x17 x18 x19 x20 x21 x22 x23 (.pointer (some ⟨gb, ob + k * 4, none⟩)) (.pointer (some ⟨gb, ob + k * 4, none⟩)) x26 x7 x8 ms p7 w1) := ⟨F.q1, F.q2, F.q3, F.q4, F.q6, F.q7, F.q8, F.q10, F.q11, F.q12, F.q13, F.q15, fun _ => (show _ from (by simp [hdep] : d_ 15 = true)), fun h => rfl, F.q20, fun h => andM16 (F.q21 h) rfl, F.f0, F.f1, F.f2, F.f3, F.f4, F.f5, F.f6, F.f7, F.f8, F.f9, F.f10, F.f11, F.f12, F.f13, F.f14, F.f15, fun _ => rfl, F.f17, F.f18, F.f19, F.st0, F.st1, F.st2, F.st3, F.mz⟩
      clear F
      go_simp
      exact HK.out _ _ ⟨_, _, _, _, _, _, _, _, _, _, _, _, _, _, _, _, _, _, _, _, _, _, rfl, HF.out⟩
    · have hst : S0 (d_ 19) ms w1 ∨ S1 (d_ 19) ms p7 w1 ∨ S2 (d_ 19) ms p7 w1 := by
        cases e1 : d_ 18 with
        | false => exact .inl ((F.st0 e1))
        | true =>
          cases e2 : d_ 20 with
          | false => exact .inr (.inl ((F.st1 e1 e2)))
          | true =>
            have n_ : d_ 21 = false := by
              cases e_ : d_ 21 with
              | false => rfl
              | true => have h2 := (F.q21 e_).2.2.2.2.2.2.2.2.2.2.2.2.2.2.2.2.2.1; rw [show d_ 17 = false from hd_] at h2; cases h2
            exact .inr (.inr ((F.st2 e2 n_)))
      have kk := kl17.out (d_ 19) ms p7 w1 hst
      obtain ⟨kk0, kk1⟩ := kk
      clear hst
      obtain rfl := F.f16 (by simp [hdep])
      have HF : Hid (shf1F b ga oa n ca gb ob m cb i k x1 y1 x2 y2 S0 S1 S2 S3 (upd d_ 17) x9 x10 x11 x12 x13 x14 x15 x16 x17 x18 x19 x20 x21 x22 x23 x24 (.pointer (some ⟨gb, ob + k * 4, none⟩)) (.agg #[.int .i64 x2, .int .i64 y2]) x7 x8 ms p7 w1) := ⟨F.q1, F.q2, F.q3, F.q4, F.q6, F.q7, F.q8, F.q10, F.q11, F.q12, F.q13, F.q15, F.q16, fun _ => (show _ from (by simp [hdep] : d_ 16 = true)), F.q20, fun h => andM17 (F.q21 h) rfl, F.f0, F.f1, F.f2, F.f3, F.f4, F.f5, F.f6, F.f7, F.f8, F.f9, F.f10, F.f11, F.f12, F.f13, F.f14, F.f15, F.f16, fun _ => rfl, F.f18, F.f19, F.st0, F.st1, F.st2, F.st3, F.mz⟩
      clear F
      go_simp
      exact HK.out _ _ ⟨_, _, _, _, _, _, _, _, _, _, _, _, _, _, _, _, _, _, _, _, _, _, rfl, HF.out⟩
    · have hS := F.st0  hd_
      have hres := kc18.out (d_ 19) ms w1 hS
      have HF : Hid (shf1F b ga oa n ca gb ob m cb i k x1 y1 x2 y2 S0 S1 S2 S3 (upd d_ 18) x9 x10 x11 x12 x13 x14 x15 x16 x17 x18 x19 x20 x21 x22 x23 x24 x25 x26 ((.pointer (some ⟨w1.heap.size, 0, none⟩))) x8 ms w1.heap.size (w1.alloc (.cells #[.int .i64 0, .int .i64 0] 24))) := ⟨F.q1, F.q2, F.q3, F.q4, F.q6, F.q7, F.q8, F.q10, F.q11, F.q12, F.q13, F.q15, F.q16, F.q17, fun h => andM9 (F.q20 h) rfl, fun h => andM18 (F.q21 h) rfl, F.f0, F.f1, F.f2, F.f3, F.f4, F.f5, F.f6, F.f7, F.f8, F.f9, F.f10, F.f11, F.f12, F.f13, F.f14, F.f15, F.f16, F.f17, fun _ => rfl, F.f19, fun h => (by simp [upd] at h), fun _ _ => hres, fun h _ => (by have h2 : d_ 18 = true := (F.q20 h).2.2.2.2.2.2.2.2.2.1; rw [show d_ 18 = false from hd_] at h2; cases h2), fun h => (by have h2 : d_ 18 = true := (F.q21 h).2.2.2.2.2.2.2.2.2.2.2.2.2.2.2.2.2.2.1; rw [show d_ 18 = false from hd_] at h2; cases h2), F.mz⟩
      clear F hS hres
      go_simp
      exact HK.out _ _ ⟨_, _, _, _, _, _, _, _, _, _, _, _, _, _, _, _, _, _, _, _, _, _, rfl, HF.out⟩
    · have HF : Hid (shf1F b ga oa n ca gb ob m cb i k x1 y1 x2 y2 S0 S1 S2 S3 (upd d_ 19) x9 x10 x11 x12 x13 x14 x15 x16 x17 x18 x19 x20 x21 x22 x23 x24 x25 x26 x7 (.pointer (some ⟨w1.heap.size, 0, none⟩)) w1.heap.size p7 (w1.alloc (.cells #[.int .i64 0, .int .i64 0] 24))) := ⟨F.q1, F.q2, F.q3, F.q4, F.q6, F.q7, F.q8, F.q10, F.q11, F.q12, F.q13, F.q15, F.q16, F.q17, fun h => andL10 (F.q20 h) rfl, fun h => andM19 (F.q21 h) rfl, F.f0, F.f1, F.f2, F.f3, F.f4, F.f5, F.f6, F.f7, F.f8, F.f9, F.f10, F.f11, F.f12, F.f13, F.f14, F.f15, F.f16, F.f17, F.f18, fun _ => rfl, fun b => ks0.out w1 (by have h := F.st0 b; rw [show d_ 19 = false from hd_, F.mz hd_] at h; exact h), fun a b => ks1.out p7 w1 (by have h := F.st1 a b; rw [show d_ 19 = false from hd_, F.mz hd_] at h; exact h), fun a b => (by have h2 : d_ 19 = true := (F.q20 a).2.2.2.2.2.2.2.2.2.2; rw [show d_ 19 = false from hd_] at h2; cases h2), fun a => (by have h2 : d_ 19 = true := (F.q21 a).2.2.2.2.2.2.2.2.2.2.2.2.2.2.2.2.2.2.2.1; rw [show d_ 19 = false from hd_] at h2; cases h2), fun h => (by simp [upd] at h)⟩
      clear F
      go_simp
      exact HK.out _ _ ⟨_, _, _, _, _, _, _, _, _, _, _, _, _, _, _, _, _, _, _, _, _, _, rfl, HF.out⟩
    · have hS := F.st1 (by simp [hdep] : d_ 18 = true) hd_
      rw [show d_ 19 = true from (by simp [hdep] : d_ 19 = true)] at hS
      obtain rfl := F.f8 (by simp [hdep])
      obtain rfl := F.f18 (by simp [hdep])
      obtain ⟨⟨ku0, kcell0⟩, kfr0, ⟨ku1, kcell1⟩, kfr1, hres⟩ := kc20.out ms p7 w1 hS
      have HF : Hid (shf1F b ga oa n ca gb ob m cb i k x1 y1 x2 y2 S0 S1 S2 S3 (upd d_ 20) x9 x10 x11 x12 x13 x14 x15 x16 (.agg #[.int .i64 x1, .int .i64 y1]) x18 x19 x20 x21 x22 x23 x24 x25 x26 (.pointer (some ⟨p7, 0, none⟩)) x8 ms p7 ((w1.setCell ⟨p7, 0, none⟩ (.int .i64 x1)).setCell ⟨p7, 1, none⟩ (.int .i64 y1))) := ⟨F.q1, F.q2, F.q3, F.q4, F.q6, F.q7, F.q8, F.q10, F.q11, F.q12, F.q13, F.q15, F.q16, F.q17, fun _ => ⟨(show _ from (by simp [hdep] : d_ 0 = true)), (show _ from (by simp [hdep] : d_ 1 = true)), (show _ from (by simp [hdep] : d_ 2 = true)), (show _ from (by simp [hdep] : d_ 3 = true)), (show _ from (by simp [hdep] : d_ 4 = true)), (show _ from (by simp [hdep] : d_ 5 = true)), (show _ from (by simp [hdep] : d_ 6 = true)), (show _ from (by simp [hdep] : d_ 7 = true)), (show _ from (by simp [hdep] : d_ 8 = true)), (show _ from (by simp [hdep] : d_ 18 = true)), (show _ from (by simp [hdep] : d_ 19 = true))⟩, fun h => andL20 (F.q21 h) rfl, F.f0, F.f1, F.f2, F.f3, F.f4, F.f5, F.f6, F.f7, F.f8, F.f9, F.f10, F.f11, F.f12, F.f13, F.f14, F.f15, F.f16, F.f17, F.f18, F.f19, fun h => (by have h2 : d_ 18 = false := h; rw [(by simp [hdep] : d_ 18 = true)] at h2; cases h2), fun _ h => (by simp [upd] at h), fun _ _ => (by rw [show upd d_ 20 19 = true from (by simp [hdep] : d_ 19 = true)]; exact hres), fun h => (by have h2 : d_ 20 = true := (F.q21 h).2.2.2.2.2.2.2.2.2.2.2.2.2.2.2.2.2.2.2.2; rw [show d_ 20 = false from hd_] at h2; cases h2), F.mz⟩
      clear F hS hres
      go_simp
      exact HK.out _ _ ⟨_, _, _, _, _, _, _, _, _, _, _, _, _, _, _, _, _, _, _, _, _, _, rfl, HF.out⟩
    · have hS := F.st2 (by simp [hdep] : d_ 20 = true) hd_
      rw [show d_ 19 = true from (by simp [hdep] : d_ 19 = true)] at hS
      obtain rfl := F.f17 (by simp [hdep])
      obtain rfl := F.f19 (by simp [hdep])
      obtain ⟨⟨ku0, kcell0⟩, kfr0, ⟨ku1, kcell1⟩, kfr1, hres⟩ := kc21.out ms p7 w1 hS
      have HF : Hid (shf1F b ga oa n ca gb ob m cb i k x1 y1 x2 y2 S0 S1 S2 S3 (upd d_ 21) x9 x10 x11 x12 x13 x14 x15 x16 x17 x18 x19 x20 x21 x22 x23 x24 x25 (.agg #[.int .i64 x2, .int .i64 y2]) x7 (.pointer (some ⟨ms, 0, none⟩)) ms p7 ((w1.setCell ⟨ms, 0, none⟩ (.int .i64 x2)).setCell ⟨ms, 1, none⟩ (.int .i64 y2))) := ⟨F.q1, F.q2, F.q3, F.q4, F.q6, F.q7, F.q8, F.q10, F.q11, F.q12, F.q13, F.q15, F.q16, F.q17, F.q20, fun _ => ⟨(show _ from (by simp [hdep] : d_ 0 = true)), (show _ from (by simp [hdep] : d_ 1 = true)), (show _ from (by simp [hdep] : d_ 2 = true)), (show _ from (by simp [hdep] : d_ 3 = true)), (show _ from (by simp [hdep] : d_ 4 = true)), (show _ from (by simp [hdep] : d_ 5 = true)), (show _ from (by simp [hdep] : d_ 6 = true)), (show _ from (by simp [hdep] : d_ 7 = true)), (show _ from (by simp [hdep] : d_ 8 = true)), (show _ from (by simp [hdep] : d_ 9 = true)), (show _ from (by simp [hdep] : d_ 10 = true)), (show _ from (by simp [hdep] : d_ 11 = true)), (show _ from (by simp [hdep] : d_ 12 = true)), (show _ from (by simp [hdep] : d_ 13 = true)), (show _ from (by simp [hdep] : d_ 14 = true)), (show _ from (by simp [hdep] : d_ 15 = true)), (show _ from (by simp [hdep] : d_ 16 = true)), (show _ from (by simp [hdep] : d_ 17 = true)), (show _ from (by simp [hdep] : d_ 18 = true)), (show _ from (by simp [hdep] : d_ 19 = true)), (show _ from (by simp [hdep] : d_ 20 = true))⟩, F.f0, F.f1, F.f2, F.f3, F.f4, F.f5, F.f6, F.f7, F.f8, F.f9, F.f10, F.f11, F.f12, F.f13, F.f14, F.f15, F.f16, F.f17, F.f18, F.f19, fun h => (by have h2 : d_ 18 = false := h; rw [(by simp [hdep] : d_ 18 = true)] at h2; cases h2), fun _ h => (by have h2 : d_ 20 = false := h; rw [(by simp [hdep] : d_ 20 = true)] at h2; cases h2), fun _ h => (by simp [upd] at h), fun _ => (by rw [show upd d_ 21 19 = true from (by simp [hdep] : d_ 19 = true)]; exact hres), F.mz⟩
      clear F hS hres
      go_simp
      exact HK.out _ _ ⟨_, _, _, _, _, _, _, _, _, _, _, _, _, _, _, _, _, _, _, _, _, _, rfl, HF.out⟩
  · rintro d_ a_ w1 hall ⟨x9, x10, x11, x12, x13, x14, x15, x16, x17, x18, x19, x20, x21, x22, x23, x24, x25, x26, x7, x8, ms, p7, rfl, F⟩
    have hall' : ∀ k, k < 22 → d_ k = true := hall
    obtain rfl := F.f0 (hall' 0 (by decide))
    obtain rfl := F.f1 (hall' 1 (by decide))
    obtain rfl := F.f2 (hall' 2 (by decide))
    obtain rfl := F.f3 (hall' 3 (by decide))
    obtain rfl := F.f4 (hall' 4 (by decide))
    obtain rfl := F.f5 (hall' 5 (by decide))
    obtain rfl := F.f6 (hall' 6 (by decide))
    obtain rfl := F.f7 (hall' 7 (by decide))
    obtain rfl := F.f8 (hall' 8 (by decide))
    obtain rfl := F.f9 (hall' 9 (by decide))
    obtain rfl := F.f10 (hall' 10 (by decide))
    obtain rfl := F.f11 (hall' 11 (by decide))
    obtain rfl := F.f12 (hall' 12 (by decide))
    obtain rfl := F.f13 (hall' 13 (by decide))
    obtain rfl := F.f14 (hall' 14 (by decide))
    obtain rfl := F.f15 (hall' 15 (by decide))
    obtain rfl := F.f16 (hall' 16 (by decide))
    obtain rfl := F.f17 (hall' 17 (by decide))
    obtain rfl := F.f18 (hall' 18 (by decide))
    obtain rfl := F.f19 (hall' 19 (by decide))
    have hst := F.st3 (hall' 21 (by decide))
    rw [show d_ 19 = true from hall' 19 (by decide)] at hst
    exact HQ.out ms p7 w1 hst
structure shf2F (b : Nat) (b6 : Nat) (p7 : Nat) (p8 : Nat) (x1 : Int) (y1 : Int) (x2 : Int) (y2 : Int) (d1 : Int) (d2 : Int) (sl : Int) (sh : Int) (z1 : Int) (z2 : Int) (S0 : World → Prop) (S1 : Unit → World → Prop) (S2 : Unit → World → Prop) (d : Nat → Bool) (x27 x28 x29 x30 x31 x32 x33 x34 x35 x36 x37 x38 x39 x40 x41 x42 x43 : Value) (u : Unit) (w : World) : Prop where
  q1 : d 1 = true → d 0 = true
  q3 : d 3 = true → d 2 = true
  q4 : d 4 = true → d 1 = true ∧ d 3 = true
  q6 : d 6 = true → d 5 = true
  q8 : d 8 = true → d 7 = true
  q9 : d 9 = true → d 6 = true ∧ d 8 = true
  q10 : d 10 = true → d 4 = true ∧ d 9 = true
  q12 : d 12 = true → d 11 = true
  q13 : d 13 = true → d 12 = true
  q14 : d 14 = true → d 13 = true
  q15 : d 15 = true → d 14 = true
  q16 : d 16 = true → d 10 = true ∧ d 15 = true
  q17 : d 17 = true → d 0 = true ∧ d 1 = true ∧ d 2 = true ∧ d 3 = true ∧ d 4 = true ∧ d 5 = true ∧ d 6 = true ∧ d 7 = true ∧ d 8 = true ∧ d 9 = true ∧ d 10 = true ∧ d 11 = true ∧ d 12 = true ∧ d 13 = true ∧ d 14 = true ∧ d 15 = true ∧ d 16 = true
  f0 : d 0 = true → x27 = .pointer (some ⟨p7, 0, none⟩)
  f1 : d 1 = true → x28 = .int .i64 x1
  f2 : d 2 = true → x29 = .pointer (some ⟨p8, 1, none⟩)
  f3 : d 3 = true → x30 = .int .i64 y2
  f4 : d 4 = true → x31 = .int .i64 d1
  f5 : d 5 = true → x32 = .pointer (some ⟨p7, 1, none⟩)
  f6 : d 6 = true → x33 = .int .i64 y1
  f7 : d 7 = true → x34 = .pointer (some ⟨p8, 0, none⟩)
  f8 : d 8 = true → x35 = .int .i64 x2
  f9 : d 9 = true → x36 = .int .i64 d2
  f10 : d 10 = true → x37 = .agg #[.int .i64 d1, .int .i64 d2]
  f11 : d 11 = true → x38 = .pointer (some ⟨b, 0, none⟩)
  f12 : d 12 = true → x39 = .pointer (some ⟨b, 0, none⟩)
  f13 : d 13 = true → x40 = .pointer (some ⟨b, 0, none⟩)
  f14 : d 14 = true → x41 = .pointer (some ⟨b, 2, none⟩)
  f15 : d 15 = true → x42 = .agg #[.int .i64 sl, .int .i64 sh]
  f16 : d 16 = true → x43 = .agg #[.int .i64 z1, .int .i64 z2]
  st0 : d 16 = false → S0 w
  st1 : d 16 = true → d 17 = false → S1 u w
  st2 : d 17 = true → S2 u w
noncomputable def shf2C : Code := (Tryd.f40.body.bind (regionAt 2)).getD .skip
set_option maxRecDepth 100000 in
set_option maxHeartbeats 4000000 in
theorem shf2 {b : Nat} {b6 : Nat} {p7 : Nat} {p8 : Nat} {x1 : Int} {y1 : Int} {x2 : Int} {y2 : Int} {d1 : Int} {d2 : Int} {sl : Int} {sh : Int} {z1 : Int} {z2 : Int} {S0 : World → Prop} {S1 : Unit → World → Prop} {S2 : Unit → World → Prop} {Q : Exit → Act → World → Prop} {W1 : World} (hm1 : IntKind.i64.wrap (x1 - y2) = d1) (hm2 : IntKind.i64.wrap (y1 - x2) = d2) (h0 : S0 W1.drew)
    (kl1 : Hid (∀ (w : World), (S0 w) → w.cell? ⟨p7, 0, none⟩ = some (.int .i64 x1)))
    (kl3 : Hid (∀ (w : World), (S0 w) → w.cell? ⟨p8, 1, none⟩ = some (.int .i64 y2)))
    (kl6 : Hid (∀ (w : World), (S0 w) → w.cell? ⟨p7, 1, none⟩ = some (.int .i64 y1)))
    (kl8 : Hid (∀ (w : World), (S0 w) → w.cell? ⟨p8, 0, none⟩ = some (.int .i64 x2)))
    (kl15 : Hid (∀ (w : World), (S0 w) → w.cell? ⟨b, 2, none⟩ = some (.int .i64 sl) ∧ w.cell? ⟨b, 3, none⟩ = some (.int .i64 sh)))
    (kc16 : Hid (∀ (w : World), S0 w → Calls Tryd.prog 78 #[.agg #[.int .i64 d1, .int .i64 d2], .agg #[.int .i64 sl, .int .i64 sh]] w fun e w' => ∃ u : Unit, e = .returned (.agg #[.int .i64 z1, .int .i64 z2]) ∧ S1 u w'))
    (kc17 : Hid (∀ (u : Unit) (w : World), S1 u w → (∃ u, w.cell? ⟨b6, 0, none⟩ = some u) ∧ w.frozen? ⟨b6, 0, none⟩ = false ∧ (∃ u, w.cell? ⟨b6, 1, none⟩ = some u) ∧ w.frozen? ⟨b6, 1, none⟩ = false ∧ S2 u ((w.setCell ⟨b6, 0, none⟩ (.int .i64 z1)).setCell ⟨b6, 1, none⟩ (.int .i64 z2))))
    {s1 s2 s3 s4 s5 s9 s10 s11 s12 s13 s14 s15 s16 s17 s18 s19 s20 s21 s22 s23 s24 s25 s26 s27 s28 s29 s30 s31 s32 s33 s34 s35 s36 s37 s38 s39 s40 s41 s42 s43 : Value} {dd : List Deferred}
    (hQ : ∀ (u : Unit) (w' : World), S2 u w' → Q .normal { tmps := #[.pointer (some ⟨b, 0, none⟩), s1, s2, s3, s4, s5, .pointer (some ⟨b6, 0, none⟩), .pointer (some ⟨p7, 0, none⟩), .pointer (some ⟨p8, 0, none⟩), s9, s10, s11, s12, s13, s14, s15, s16, s17, s18, s19, s20, s21, s22, s23, s24, s25, s26, .pointer (some ⟨p7, 0, none⟩), .int .i64 x1, .pointer (some ⟨p8, 1, none⟩), .int .i64 y2, .int .i64 d1, .pointer (some ⟨p7, 1, none⟩), .int .i64 y1, .pointer (some ⟨p8, 0, none⟩), .int .i64 x2, .int .i64 d2, .agg #[.int .i64 d1, .int .i64 d2], .pointer (some ⟨b, 0, none⟩), .pointer (some ⟨b, 0, none⟩), .pointer (some ⟨b, 0, none⟩), .pointer (some ⟨b, 2, none⟩), .agg #[.int .i64 sl, .int .i64 sh], .agg #[.int .i64 z1, .int .i64 z2]], defers := dd } w') :
    Code.wpIn (wideAt none) 0 Tryd.prog shf2C Q { tmps := #[.pointer (some ⟨b, 0, none⟩), s1, s2, s3, s4, s5, .pointer (some ⟨b6, 0, none⟩), .pointer (some ⟨p7, 0, none⟩), .pointer (some ⟨p8, 0, none⟩), s9, s10, s11, s12, s13, s14, s15, s16, s17, s18, s19, s20, s21, s22, s23, s24, s25, s26, s27, s28, s29, s30, s31, s32, s33, s34, s35, s36, s37, s38, s39, s40, s41, s42, s43], defers := dd } W1 := by
  have HQ := Lib.hid hQ
  clear hQ
  conv => arg 4; whnf
  refine wpIn_region_invG mixed (by kernel_rfl) (fun d_ a_ w' => ∃ (x27 : Value) (x28 : Value) (x29 : Value) (x30 : Value) (x31 : Value) (x32 : Value) (x33 : Value) (x34 : Value) (x35 : Value) (x36 : Value) (x37 : Value) (x38 : Value) (x39 : Value) (x40 : Value) (x41 : Value) (x42 : Value) (x43 : Value) (u : Unit), a_ = { tmps := #[.pointer (some ⟨b, 0, none⟩), s1, s2, s3, s4, s5, .pointer (some ⟨b6, 0, none⟩), .pointer (some ⟨p7, 0, none⟩), .pointer (some ⟨p8, 0, none⟩), s9, s10, s11, s12, s13, s14, s15, s16, s17, s18, s19, s20, s21, s22, s23, s24, s25, s26, x27, x28, x29, x30, x31, x32, x33, x34, x35, x36, x37, x38, x39, x40, x41, x42, x43], defers := dd } ∧ shf2F b b6 p7 p8 x1 y1 x2 y2 d1 d2 sl sh z1 z2 S0 S1 S2 d_ x27 x28 x29 x30 x31 x32 x33 x34 x35 x36 x37 x38 x39 x40 x41 x42 x43 u w') ?_ ?_ ?_
  · refine ⟨s27, s28, s29, s30, s31, s32, s33, s34, s35, s36, s37, s38, s39, s40, s41, s42, s43, default, rfl, ?_⟩
    constructor <;> first | rfl | (intro _; rfl) | (intro h; cases h; done) | (intro _; exact h0) | exact h0
  · refine ⟨?_, ?_, ?_, ?_, ?_, ?_, ?_, ?_, ?_, ?_, ?_, ?_, ?_, ?_, ?_, ?_, ?_, ?_, trivial⟩
    all_goals
      rintro d_ a_ w1 K hd_ hdep ⟨x27, x28, x29, x30, x31, x32, x33, x34, x35, x36, x37, x38, x39, x40, x41, x42, x43, u, rfl, F⟩ HK
      simp [Region.binds] at hdep
    · have HF : Hid (shf2F b b6 p7 p8 x1 y1 x2 y2 d1 d2 sl sh z1 z2 S0 S1 S2 (upd d_ 0) (.pointer (some ⟨p7, 0, none⟩)) x28 x29 x30 x31 x32 x33 x34 x35 x36 x37 x38 x39 x40 x41 x42 x43 u w1) := ⟨fun h => rfl, F.q3, F.q4, F.q6, F.q8, F.q9, F.q10, F.q12, F.q13, F.q14, F.q15, F.q16, fun h => andM0 (F.q17 h) rfl, fun _ => rfl, F.f1, F.f2, F.f3, F.f4, F.f5, F.f6, F.f7, F.f8, F.f9, F.f10, F.f11, F.f12, F.f13, F.f14, F.f15, F.f16, F.st0, F.st1, F.st2⟩
      clear F
      go_simp
      exact HK.out _ _ ⟨_, _, _, _, _, _, _, _, _, _, _, _, _, _, _, _, _, _, rfl, HF.out⟩
    · have hst : S0 w1 := by
        have n_ : d_ 16 = false := by
          cases e_ : d_ 16 with
          | false => rfl
          | true => have h2 := (F.q4 (F.q10 (F.q16 e_).1).1).1; rw [show d_ 1 = false from hd_] at h2; cases h2
        exact (F.st0 n_)
      have kk := kl1.out w1 hst
      clear hst
      obtain rfl := F.f0 (by simp [hdep])
      have HF : Hid (shf2F b b6 p7 p8 x1 y1 x2 y2 d1 d2 sl sh z1 z2 S0 S1 S2 (upd d_ 1) (.pointer (some ⟨p7, 0, none⟩)) (.int .i64 x1) x29 x30 x31 x32 x33 x34 x35 x36 x37 x38 x39 x40 x41 x42 x43 u w1) := ⟨fun _ => (show _ from (by simp [hdep] : d_ 0 = true)), F.q3, fun h => andM0 (F.q4 h) rfl, F.q6, F.q8, F.q9, F.q10, F.q12, F.q13, F.q14, F.q15, F.q16, fun h => andM1 (F.q17 h) rfl, F.f0, fun _ => rfl, F.f2, F.f3, F.f4, F.f5, F.f6, F.f7, F.f8, F.f9, F.f10, F.f11, F.f12, F.f13, F.f14, F.f15, F.f16, F.st0, F.st1, F.st2⟩
      clear F
      go_simp
      exact HK.out _ _ ⟨_, _, _, _, _, _, _, _, _, _, _, _, _, _, _, _, _, _, rfl, HF.out⟩
    · have HF : Hid (shf2F b b6 p7 p8 x1 y1 x2 y2 d1 d2 sl sh z1 z2 S0 S1 S2 (upd d_ 2) x27 x28 (.pointer (some ⟨p8, 1, none⟩)) x30 x31 x32 x33 x34 x35 x36 x37 x38 x39 x40 x41 x42 x43 u w1) := ⟨F.q1, fun h => rfl, F.q4, F.q6, F.q8, F.q9, F.q10, F.q12, F.q13, F.q14, F.q15, F.q16, fun h => andM2 (F.q17 h) rfl, F.f0, F.f1, fun _ => rfl, F.f3, F.f4, F.f5, F.f6, F.f7, F.f8, F.f9, F.f10, F.f11, F.f12, F.f13, F.f14, F.f15, F.f16, F.st0, F.st1, F.st2⟩
      clear F
      go_simp
      exact HK.out _ _ ⟨_, _, _, _, _, _, _, _, _, _, _, _, _, _, _, _, _, _, rfl, HF.out⟩
    · have hst : S0 w1 := by
        have n_ : d_ 16 = false := by
          cases e_ : d_ 16 with
          | false => rfl
          | true => have h2 := (F.q4 (F.q10 (F.q16 e_).1).1).2; rw [show d_ 3 = false from hd_] at h2; cases h2
        exact (F.st0 n_)
      have kk := kl3.out w1 hst
      clear hst
      obtain rfl := F.f2 (by simp [hdep])
      have HF : Hid (shf2F b b6 p7 p8 x1 y1 x2 y2 d1 d2 sl sh z1 z2 S0 S1 S2 (upd d_ 3) x27 x28 (.pointer (some ⟨p8, 1, none⟩)) (.int .i64 y2) x31 x32 x33 x34 x35 x36 x37 x38 x39 x40 x41 x42 x43 u w1) := ⟨F.q1, fun _ => (show _ from (by simp [hdep] : d_ 2 = true)), fun h => andL1 (F.q4 h) rfl, F.q6, F.q8, F.q9, F.q10, F.q12, F.q13, F.q14, F.q15, F.q16, fun h => andM3 (F.q17 h) rfl, F.f0, F.f1, F.f2, fun _ => rfl, F.f4, F.f5, F.f6, F.f7, F.f8, F.f9, F.f10, F.f11, F.f12, F.f13, F.f14, F.f15, F.f16, F.st0, F.st1, F.st2⟩
      clear F
      go_simp
      exact HK.out _ _ ⟨_, _, _, _, _, _, _, _, _, _, _, _, _, _, _, _, _, _, rfl, HF.out⟩
    · obtain rfl := F.f1 (by simp [hdep])
      obtain rfl := F.f3 (by simp [hdep])
      have HF : Hid (shf2F b b6 p7 p8 x1 y1 x2 y2 d1 d2 sl sh z1 z2 S0 S1 S2 (upd d_ 4) x27 (.int .i64 x1) x29 (.int .i64 y2) (.int .i64 d1) x32 x33 x34 x35 x36 x37 x38 x39 x40 x41 x42 x43 u w1) := ⟨F.q1, F.q3, fun _ => ⟨(show _ from (by simp [hdep] : d_ 1 = true)), (show _ from (by simp [hdep] : d_ 3 = true))⟩, F.q6, F.q8, F.q9, fun h => andM0 (F.q10 h) rfl, F.q12, F.q13, F.q14, F.q15, F.q16, fun h => andM4 (F.q17 h) rfl, F.f0, F.f1, F.f2, F.f3, fun _ => rfl, F.f5, F.f6, F.f7, F.f8, F.f9, F.f10, F.f11, F.f12, F.f13, F.f14, F.f15, F.f16, F.st0, F.st1, F.st2⟩
      clear F
      go_simp
      exact HK.out _ _ ⟨_, _, _, _, _, _, _, _, _, _, _, _, _, _, _, _, _, _, rfl, HF.out⟩
    · have HF : Hid (shf2F b b6 p7 p8 x1 y1 x2 y2 d1 d2 sl sh z1 z2 S0 S1 S2 (upd d_ 5) x27 x28 x29 x30 x31 (.pointer (some ⟨p7, 1, none⟩)) x33 x34 x35 x36 x37 x38 x39 x40 x41 x42 x43 u w1) := ⟨F.q1, F.q3, F.q4, fun h => rfl, F.q8, F.q9, F.q10, F.q12, F.q13, F.q14, F.q15, F.q16, fun h => andM5 (F.q17 h) rfl, F.f0, F.f1, F.f2, F.f3, F.f4, fun _ => rfl, F.f6, F.f7, F.f8, F.f9, F.f10, F.f11, F.f12, F.f13, F.f14, F.f15, F.f16, F.st0, F.st1, F.st2⟩
      clear F
      go_simp
      exact HK.out _ _ ⟨_, _, _, _, _, _, _, _, _, _, _, _, _, _, _, _, _, _, rfl, HF.out⟩
    · have hst : S0 w1 := by
        have n_ : d_ 16 = false := by
          cases e_ : d_ 16 with
          | false => rfl
          | true => have h2 := (F.q9 (F.q10 (F.q16 e_).1).2).1; rw [show d_ 6 = false from hd_] at h2; cases h2
        exact (F.st0 n_)
      have kk := kl6.out w1 hst
      clear hst
      obtain rfl := F.f5 (by simp [hdep])
      have HF : Hid (shf2F b b6 p7 p8 x1 y1 x2 y2 d1 d2 sl sh z1 z2 S0 S1 S2 (upd d_ 6) x27 x28 x29 x30 x31 (.pointer (some ⟨p7, 1, none⟩)) (.int .i64 y1) x34 x35 x36 x37 x38 x39 x40 x41 x42 x43 u w1) := ⟨F.q1, F.q3, F.q4, fun _ => (show _ from (by simp [hdep] : d_ 5 = true)), F.q8, fun h => andM0 (F.q9 h) rfl, F.q10, F.q12, F.q13, F.q14, F.q15, F.q16, fun h => andM6 (F.q17 h) rfl, F.f0, F.f1, F.f2, F.f3, F.f4, F.f5, fun _ => rfl, F.f7, F.f8, F.f9, F.f10, F.f11, F.f12, F.f13, F.f14, F.f15, F.f16, F.st0, F.st1, F.st2⟩
      clear F
      go_simp
      exact HK.out _ _ ⟨_, _, _, _, _, _, _, _, _, _, _, _, _, _, _, _, _, _, rfl, HF.out⟩
    · have HF : Hid (shf2F b b6 p7 p8 x1 y1 x2 y2 d1 d2 sl sh z1 z2 S0 S1 S2 (upd d_ 7) x27 x28 x29 x30 x31 x32 x33 (.pointer (some ⟨p8, 0, none⟩)) x35 x36 x37 x38 x39 x40 x41 x42 x43 u w1) := ⟨F.q1, F.q3, F.q4, F.q6, fun h => rfl, F.q9, F.q10, F.q12, F.q13, F.q14, F.q15, F.q16, fun h => andM7 (F.q17 h) rfl, F.f0, F.f1, F.f2, F.f3, F.f4, F.f5, F.f6, fun _ => rfl, F.f8, F.f9, F.f10, F.f11, F.f12, F.f13, F.f14, F.f15, F.f16, F.st0, F.st1, F.st2⟩
      clear F
      go_simp
      exact HK.out _ _ ⟨_, _, _, _, _, _, _, _, _, _, _, _, _, _, _, _, _, _, rfl, HF.out⟩
    · have hst : S0 w1 := by
        have n_ : d_ 16 = false := by
          cases e_ : d_ 16 with
          | false => rfl
          | true => have h2 := (F.q9 (F.q10 (F.q16 e_).1).2).2; rw [show d_ 8 = false from hd_] at h2; cases h2
        exact (F.st0 n_)
      have kk := kl8.out w1 hst
      clear hst
      obtain rfl := F.f7 (by simp [hdep])
      have HF : Hid (shf2F b b6 p7 p8 x1 y1 x2 y2 d1 d2 sl sh z1 z2 S0 S1 S2 (upd d_ 8) x27 x28 x29 x30 x31 x32 x33 (.pointer (some ⟨p8, 0, none⟩)) (.int .i64 x2) x36 x37 x38 x39 x40 x41 x42 x43 u w1) := ⟨F.q1, F.q3, F.q4, F.q6, fun _ => (show _ from (by simp [hdep] : d_ 7 = true)), fun h => andL1 (F.q9 h) rfl, F.q10, F.q12, F.q13, F.q14, F.q15, F.q16, fun h => andM8 (F.q17 h) rfl, F.f0, F.f1, F.f2, F.f3, F.f4, F.f5, F.f6, F.f7, fun _ => rfl, F.f9, F.f10, F.f11, F.f12, F.f13, F.f14, F.f15, F.f16, F.st0, F.st1, F.st2⟩
      clear F
      go_simp
      exact HK.out _ _ ⟨_, _, _, _, _, _, _, _, _, _, _, _, _, _, _, _, _, _, rfl, HF.out⟩
    · obtain rfl := F.f6 (by simp [hdep])
      obtain rfl := F.f8 (by simp [hdep])
      have HF : Hid (shf2F b b6 p7 p8 x1 y1 x2 y2 d1 d2 sl sh z1 z2 S0 S1 S2 (upd d_ 9) x27 x28 x29 x30 x31 x32 (.int .i64 y1) x34 (.int .i64 x2) (.int .i64 d2) x37 x38 x39 x40 x41 x42 x43 u w1) := ⟨F.q1, F.q3, F.q4, F.q6, F.q8, fun _ => ⟨(show _ from (by simp [hdep] : d_ 6 = true)), (show _ from (by simp [hdep] : d_ 8 = true))⟩, fun h => andL1 (F.q10 h) rfl, F.q12, F.q13, F.q14, F.q15, F.q16, fun h => andM9 (F.q17 h) rfl, F.f0, F.f1, F.f2, F.f3, F.f4, F.f5, F.f6, F.f7, F.f8, fun _ => rfl, F.f10, F.f11, F.f12, F.f13, F.f14, F.f15, F.f16, F.st0, F.st1, F.st2⟩
      clear F
      go_simp
      exact HK.out _ _ ⟨_, _, _, _, _, _, _, _, _, _, _, _, _, _, _, _, _, _, rfl, HF.out⟩
    · obtain rfl := F.f4 (by simp [hdep])
      obtain rfl := F.f9 (by simp [hdep])
      have HF : Hid (shf2F b b6 p7 p8 x1 y1 x2 y2 d1 d2 sl sh z1 z2 S0 S1 S2 (upd d_ 10) x27 x28 x29 x30 (.int .i64 d1) x32 x33 x34 x35 (.int .i64 d2) (.agg #[.int .i64 d1, .int .i64 d2]) x38 x39 x40 x41 x42 x43 u w1) := ⟨F.q1, F.q3, F.q4, F.q6, F.q8, F.q9, fun _ => ⟨(show _ from (by simp [hdep] : d_ 4 = true)), (show _ from (by simp [hdep] : d_ 9 = true))⟩, F.q12, F.q13, F.q14, F.q15, fun h => andM0 (F.q16 h) rfl, fun h => andM10 (F.q17 h) rfl, F.f0, F.f1, F.f2, F.f3, F.f4, F.f5, F.f6, F.f7, F.f8, F.f9, fun _ => rfl, F.f11, F.f12, F.f13, F.f14, F.f15, F.f16, F.st0, F.st1, F.st2⟩
      clear F
      go_simp
      exact HK.out _ _ ⟨_, _, _, _, _, _, _, _, _, _, _, _, _, _, _, _, _, _, rfl, HF.out⟩
    · have HF : Hid (shf2F b b6 p7 p8 x1 y1 x2 y2 d1 d2 sl sh z1 z2 S0 S1 S2 (upd d_ 11) x27 x28 x29 x30 x31 x32 x33 x34 x35 x36 x37 (.pointer (some ⟨b, 0, none⟩)) x39 x40 x41 x42 x43 u w1) := ⟨F.q1, F.q3, F.q4, F.q6, F.q8, F.q9, F.q10, fun h => rfl, F.q13, F.q14, F.q15, F.q16, fun h => andM11 (F.q17 h) rfl, F.f0, F.f1, F.f2, F.f3, F.f4, F.f5, F.f6, F.f7, F.f8, F.f9, F.f10, fun _ => rfl, F.f12, F.f13, F.f14, F.f15, F.f16, F.st0, F.st1, F.st2⟩
      clear F
      go_simp
      exact HK.out _ _ ⟨_, _, _, _, _, _, _, _, _, _, _, _, _, _, _, _, _, _, rfl, HF.out⟩
    · obtain rfl := F.f11 (by simp [hdep])
      have HF : Hid (shf2F b b6 p7 p8 x1 y1 x2 y2 d1 d2 sl sh z1 z2 S0 S1 S2 (upd d_ 12) x27 x28 x29 x30 x31 x32 x33 x34 x35 x36 x37 (.pointer (some ⟨b, 0, none⟩)) (.pointer (some ⟨b, 0, none⟩)) x40 x41 x42 x43 u w1) := ⟨F.q1, F.q3, F.q4, F.q6, F.q8, F.q9, F.q10, fun _ => (show _ from (by simp [hdep] : d_ 11 = true)), fun h => rfl, F.q14, F.q15, F.q16, fun h => andM12 (F.q17 h) rfl, F.f0, F.f1, F.f2, F.f3, F.f4, F.f5, F.f6, F.f7, F.f8, F.f9, F.f10, F.f11, fun _ => rfl, F.f13, F.f14, F.f15, F.f16, F.st0, F.st1, F.st2⟩
      clear F
      go_simp
      exact HK.out _ _ ⟨_, _, _, _, _, _, _, _, _, _, _, _, _, _, _, _, _, _, rfl, HF.out⟩
    · obtain rfl := F.f12 (by simp [hdep])
      have HF : Hid (shf2F b b6 p7 p8 x1 y1 x2 y2 d1 d2 sl sh z1 z2 S0 S1 S2 (upd d_ 13) x27 x28 x29 x30 x31 x32 x33 x34 x35 x36 x37 x38 (.pointer (some ⟨b, 0, none⟩)) (.pointer (some ⟨b, 0, none⟩)) x41 x42 x43 u w1) := ⟨F.q1, F.q3, F.q4, F.q6, F.q8, F.q9, F.q10, F.q12, fun _ => (show _ from (by simp [hdep] : d_ 12 = true)), fun h => rfl, F.q15, F.q16, fun h => andM13 (F.q17 h) rfl, F.f0, F.f1, F.f2, F.f3, F.f4, F.f5, F.f6, F.f7, F.f8, F.f9, F.f10, F.f11, F.f12, fun _ => rfl, F.f14, F.f15, F.f16, F.st0, F.st1, F.st2⟩
      clear F
      go_simp
      exact HK.out _ _ ⟨_, _, _, _, _, _, _, _, _, _, _, _, _, _, _, _, _, _, rfl, HF.out⟩
    · obtain rfl := F.f13 (by simp [hdep])
      have HF : Hid (shf2F b b6 p7 p8 x1 y1 x2 y2 d1 d2 sl sh z1 z2 S0 S1 S2 (upd d_ 14) x27 x28 x29 x30 x31 x32 x33 x34 x35 x36 x37 x38 x39 (.pointer (some ⟨b, 0, none⟩)) (.pointer (some ⟨b, 2, none⟩)) x42 x43 u w1) := ⟨F.q1, F.q3, F.q4, F.q6, F.q8, F.q9, F.q10, F.q12, F.q13, fun _ => (show _ from (by simp [hdep] : d_ 13 = true)), fun h => rfl, F.q16, fun h => andM14 (F.q17 h) rfl, F.f0, F.f1, F.f2, F.f3, F.f4, F.f5, F.f6, F.f7, F.f8, F.f9, F.f10, F.f11, F.f12, F.f13, fun _ => rfl, F.f15, F.f16, F.st0, F.st1, F.st2⟩
      clear F
      go_simp
      exact HK.out _ _ ⟨_, _, _, _, _, _, _, _, _, _, _, _, _, _, _, _, _, _, rfl, HF.out⟩
    · have hst : S0 w1 := by
        have n_ : d_ 16 = false := by
          cases e_ : d_ 16 with
          | false => rfl
          | true => have h2 := (F.q16 e_).2; rw [show d_ 15 = false from hd_] at h2; cases h2
        exact (F.st0 n_)
      have kk := kl15.out w1 hst
      obtain ⟨kk0, kk1⟩ := kk
      clear hst
      obtain rfl := F.f14 (by simp [hdep])
      have HF : Hid (shf2F b b6 p7 p8 x1 y1 x2 y2 d1 d2 sl sh z1 z2 S0 S1 S2 (upd d_ 15) x27 x28 x29 x30 x31 x32 x33 x34 x35 x36 x37 x38 x39 x40 (.pointer (some ⟨b, 2, none⟩)) (.agg #[.int .i64 sl, .int .i64 sh]) x43 u w1) := ⟨F.q1, F.q3, F.q4, F.q6, F.q8, F.q9, F.q10, F.q12, F.q13, F.q14, fun _ => (show _ from (by simp [hdep] : d_ 14 = true)), fun h => andL1 (F.q16 h) rfl, fun h => andM15 (F.q17 h) rfl, F.f0, F.f1, F.f2, F.f3, F.f4, F.f5, F.f6, F.f7, F.f8, F.f9, F.f10, F.f11, F.f12, F.f13, F.f14, fun _ => rfl, F.f16, F.st0, F.st1, F.st2⟩
      clear F
      go_simp
      exact HK.out _ _ ⟨_, _, _, _, _, _, _, _, _, _, _, _, _, _, _, _, _, _, rfl, HF.out⟩
    · have hS := F.st0  hd_
      obtain rfl := F.f10 (by simp [hdep])
      obtain rfl := F.f15 (by simp [hdep])
      have hc := kc16.out w1 hS
      have HF := Lib.hid F
      clear F
      go_simp
      refine ⟨trivial, rfl, wideAt_calls (hc.mono ?_)⟩
      rintro e w5 ⟨v_, rfl, hres⟩
      exact HK.out _ _ ⟨_, _, _, _, _, _, _, _, _, _, _, _, _, _, _, _, _, v_, rfl, ⟨HF.out.q1, HF.out.q3, HF.out.q4, HF.out.q6, HF.out.q8, HF.out.q9, HF.out.q10, HF.out.q12, HF.out.q13, HF.out.q14, HF.out.q15, fun _ => ⟨(show _ from (by simp [hdep] : d_ 10 = true)), (show _ from (by simp [hdep] : d_ 15 = true))⟩, fun h => ⟨(HF.out.q17 h).1, (HF.out.q17 h).2.1, (HF.out.q17 h).2.2.1, (HF.out.q17 h).2.2.2.1, (HF.out.q17 h).2.2.2.2.1, (HF.out.q17 h).2.2.2.2.2.1, (HF.out.q17 h).2.2.2.2.2.2.1, (HF.out.q17 h).2.2.2.2.2.2.2.1, (HF.out.q17 h).2.2.2.2.2.2.2.2.1, (HF.out.q17 h).2.2.2.2.2.2.2.2.2.1, (HF.out.q17 h).2.2.2.2.2.2.2.2.2.2.1, (HF.out.q17 h).2.2.2.2.2.2.2.2.2.2.2.1, (HF.out.q17 h).2.2.2.2.2.2.2.2.2.2.2.2.1, (HF.out.q17 h).2.2.2.2.2.2.2.2.2.2.2.2.2.1, (HF.out.q17 h).2.2.2.2.2.2.2.2.2.2.2.2.2.2.1, (HF.out.q17 h).2.2.2.2.2.2.2.2.2.2.2.2.2.2.2.1, rfl⟩, HF.out.f0, HF.out.f1, HF.out.f2, HF.out.f3, HF.out.f4, HF.out.f5, HF.out.f6, HF.out.f7, HF.out.f8, HF.out.f9, HF.out.f10, HF.out.f11, HF.out.f12, HF.out.f13, HF.out.f14, HF.out.f15, fun _ => rfl, fun h => (by simp [upd] at h), fun _ _ => hres, fun h => (by have h2 : d_ 16 = true := (HF.out.q17 h).2.2.2.2.2.2.2.2.2.2.2.2.2.2.2.2; rw [show d_ 16 = false from hd_] at h2; cases h2)⟩⟩
    · have hS := F.st1 (by simp [hdep] : d_ 16 = true) hd_
      obtain rfl := F.f16 (by simp [hdep])
      obtain ⟨⟨ku0, kcell0⟩, kfr0, ⟨ku1, kcell1⟩, kfr1, hres⟩ := kc17.out u w1 hS
      have HF : Hid (shf2F b b6 p7 p8 x1 y1 x2 y2 d1 d2 sl sh z1 z2 S0 S1 S2 (upd d_ 17) x27 x28 x29 x30 x31 x32 x33 x34 x35 x36 x37 x38 x39 x40 x41 x42 (.agg #[.int .i64 z1, .int .i64 z2]) u ((w1.setCell ⟨b6, 0, none⟩ (.int .i64 z1)).setCell ⟨b6, 1, none⟩ (.int .i64 z2))) := ⟨F.q1, F.q3, F.q4, F.q6, F.q8, F.q9, F.q10, F.q12, F.q13, F.q14, F.q15, F.q16, fun _ => ⟨(show _ from (by simp [hdep] : d_ 0 = true)), (show _ from (by simp [hdep] : d_ 1 = true)), (show _ from (by simp [hdep] : d_ 2 = true)), (show _ from (by simp [hdep] : d_ 3 = true)), (show _ from (by simp [hdep] : d_ 4 = true)), (show _ from (by simp [hdep] : d_ 5 = true)), (show _ from (by simp [hdep] : d_ 6 = true)), (show _ from (by simp [hdep] : d_ 7 = true)), (show _ from (by simp [hdep] : d_ 8 = true)), (show _ from (by simp [hdep] : d_ 9 = true)), (show _ from (by simp [hdep] : d_ 10 = true)), (show _ from (by simp [hdep] : d_ 11 = true)), (show _ from (by simp [hdep] : d_ 12 = true)), (show _ from (by simp [hdep] : d_ 13 = true)), (show _ from (by simp [hdep] : d_ 14 = true)), (show _ from (by simp [hdep] : d_ 15 = true)), (show _ from (by simp [hdep] : d_ 16 = true))⟩, F.f0, F.f1, F.f2, F.f3, F.f4, F.f5, F.f6, F.f7, F.f8, F.f9, F.f10, F.f11, F.f12, F.f13, F.f14, F.f15, F.f16, fun h => (by have h2 : d_ 16 = false := h; rw [(by simp [hdep] : d_ 16 = true)] at h2; cases h2), fun _ h => (by simp [upd] at h), fun _ => hres⟩
      clear F hS hres
      go_simp
      exact HK.out _ _ ⟨_, _, _, _, _, _, _, _, _, _, _, _, _, _, _, _, _, _, rfl, HF.out⟩
  · rintro d_ a_ w1 hall ⟨x27, x28, x29, x30, x31, x32, x33, x34, x35, x36, x37, x38, x39, x40, x41, x42, x43, u, rfl, F⟩
    have hall' : ∀ k, k < 18 → d_ k = true := hall
    obtain rfl := F.f0 (hall' 0 (by decide))
    obtain rfl := F.f1 (hall' 1 (by decide))
    obtain rfl := F.f2 (hall' 2 (by decide))
    obtain rfl := F.f3 (hall' 3 (by decide))
    obtain rfl := F.f4 (hall' 4 (by decide))
    obtain rfl := F.f5 (hall' 5 (by decide))
    obtain rfl := F.f6 (hall' 6 (by decide))
    obtain rfl := F.f7 (hall' 7 (by decide))
    obtain rfl := F.f8 (hall' 8 (by decide))
    obtain rfl := F.f9 (hall' 9 (by decide))
    obtain rfl := F.f10 (hall' 10 (by decide))
    obtain rfl := F.f11 (hall' 11 (by decide))
    obtain rfl := F.f12 (hall' 12 (by decide))
    obtain rfl := F.f13 (hall' 13 (by decide))
    obtain rfl := F.f14 (hall' 14 (by decide))
    obtain rfl := F.f15 (hall' 15 (by decide))
    obtain rfl := F.f16 (hall' 16 (by decide))
    have hst := F.st2 (hall' 17 (by decide))
    exact HQ.out u w1 hst
structure add2F (b : Nat) (x : Int) (y : Int) (lo : Int) (hi : Int) (S0 : World → Prop) (S1 : World → Prop) (S2 : World → Prop) (d : Nat → Bool) (x22 x23 x24 x25 x26 x27 x28 x29 x30 x31 x32 x33 x34 x35 x36 x37 x38 x39 : Value) (w : World) : Prop where
  q3 : d 3 = true → d 2 = true
  q4 : d 4 = true → d 3 = true
  q5 : d 5 = true → d 4 = true
  q7 : d 7 = true → d 5 = true ∧ d 6 = true
  q9 : d 9 = true → d 8 = true
  q10 : d 10 = true → d 9 = true
  q11 : d 11 = true → d 10 = true
  q13 : d 13 = true → d 11 = true ∧ d 12 = true
  q14 : d 14 = true → d 0 = true ∧ d 2 = true ∧ d 3 = true ∧ d 4 = true ∧ d 5 = true ∧ d 6 = true ∧ d 7 = true ∧ d 11 = true
  q15 : d 15 = true → d 0 = true ∧ d 2 = true ∧ d 3 = true ∧ d 4 = true ∧ d 5 = true ∧ d 6 = true ∧ d 7 = true ∧ d 11 = true ∧ d 14 = true
  q16 : d 16 = true → d 0 = true ∧ d 2 = true ∧ d 3 = true ∧ d 4 = true ∧ d 5 = true ∧ d 6 = true ∧ d 7 = true ∧ d 11 = true ∧ d 15 = true
  q17 : d 17 = true → d 0 = true ∧ d 1 = true ∧ d 2 = true ∧ d 3 = true ∧ d 4 = true ∧ d 5 = true ∧ d 6 = true ∧ d 7 = true ∧ d 8 = true ∧ d 9 = true ∧ d 10 = true ∧ d 11 = true ∧ d 12 = true ∧ d 13 = true ∧ d 14 = true ∧ d 15 = true ∧ d 16 = true
  q18 : d 18 = true → d 0 = true ∧ d 1 = true ∧ d 2 = true ∧ d 3 = true ∧ d 4 = true ∧ d 5 = true ∧ d 6 = true ∧ d 7 = true ∧ d 8 = true ∧ d 9 = true ∧ d 10 = true ∧ d 11 = true ∧ d 12 = true ∧ d 13 = true ∧ d 14 = true ∧ d 15 = true ∧ d 16 = true ∧ d 17 = true
  q19 : d 19 = true → d 0 = true ∧ d 1 = true ∧ d 2 = true ∧ d 3 = true ∧ d 4 = true ∧ d 5 = true ∧ d 6 = true ∧ d 7 = true ∧ d 8 = true ∧ d 9 = true ∧ d 10 = true ∧ d 11 = true ∧ d 12 = true ∧ d 13 = true ∧ d 14 = true ∧ d 15 = true ∧ d 16 = true ∧ d 18 = true
  f0 : d 0 = true → x22 = .pointer (some ⟨b, 0, none⟩)
  f1 : d 1 = true → x23 = .pointer (some ⟨b, 0, none⟩)
  f2 : d 2 = true → x24 = .pointer (some ⟨b, 0, none⟩)
  f3 : d 3 = true → x25 = .pointer (some ⟨b, 0, none⟩)
  f4 : d 4 = true → x26 = .pointer (some ⟨b, 0, none⟩)
  f5 : d 5 = true → x27 = .int .i64 x
  f6 : d 6 = true → x28 = .int .i64 lo
  f7 : d 7 = true → x29 = .int .i64 (min x lo)
  f8 : d 8 = true → x30 = .pointer (some ⟨b, 0, none⟩)
  f9 : d 9 = true → x31 = .pointer (some ⟨b, 0, none⟩)
  f10 : d 10 = true → x32 = .pointer (some ⟨b, 1, none⟩)
  f11 : d 11 = true → x33 = .int .i64 y
  f12 : d 12 = true → x34 = .int .i64 hi
  f13 : d 13 = true → x35 = .int .i64 (max y hi)
  f14 : d 14 = true → x36 = .pointer (some ⟨b, 0, none⟩)
  f15 : d 15 = true → x37 = .pointer (some ⟨b, 0, none⟩)
  f17 : d 17 = true → x38 = .pointer (some ⟨b, 0, none⟩)
  f18 : d 18 = true → x39 = .pointer (some ⟨b, 1, none⟩)
  st0 : d 16 = false → S0 w
  st1 : d 16 = true → d 19 = false → S1 w
  st2 : d 19 = true → S2 w
noncomputable def add2C : Code := (Tryd.f41.body.bind (regionAt 2)).getD .skip
set_option maxRecDepth 100000 in
set_option maxHeartbeats 4000000 in
theorem add2 {b : Nat} {x : Int} {y : Int} {lo : Int} {hi : Int} {S0 : World → Prop} {S1 : World → Prop} {S2 : World → Prop} {Q : Exit → Act → World → Prop} {W1 : World} (h0 : S0 W1.drew)
    (kl5 : Hid (∀ (w : World), (S0 w) → w.cell? ⟨b, 0, none⟩ = some (.int .i64 x)))
    (kl11 : Hid (∀ (w : World), (S0 w) → w.cell? ⟨b, 1, none⟩ = some (.int .i64 y)))
    (kc16 : Hid (∀ (w : World), S0 w → (∃ u, w.cell? ⟨b, 0, none⟩ = some u) ∧ w.frozen? ⟨b, 0, none⟩ = false ∧ S1 (w.setCell ⟨b, 0, none⟩ (.int .i64 (min x lo)))))
    (kc19 : Hid (∀ (w : World), S1 w → (∃ u, w.cell? ⟨b, 1, none⟩ = some u) ∧ w.frozen? ⟨b, 1, none⟩ = false ∧ S2 (w.setCell ⟨b, 1, none⟩ (.int .i64 (max y hi)))))
    {s3 s4 s5 s6 s7 s8 s9 s10 s11 s12 s13 s14 s15 s16 s17 s18 s19 s20 s21 s22 s23 s24 s25 s26 s27 s28 s29 s30 s31 s32 s33 s34 s35 s36 s37 s38 s39 : Value} {dd : List Deferred}
    (hQ : ∀ (w' : World), S2 w' → Q .normal { tmps := #[.pointer (some ⟨b, 0, none⟩), .int .i64 lo, .int .i64 hi, s3, s4, s5, s6, s7, s8, s9, s10, s11, s12, s13, s14, s15, s16, s17, s18, s19, s20, s21, .pointer (some ⟨b, 0, none⟩), .pointer (some ⟨b, 0, none⟩), .pointer (some ⟨b, 0, none⟩), .pointer (some ⟨b, 0, none⟩), .pointer (some ⟨b, 0, none⟩), .int .i64 x, .int .i64 lo, .int .i64 (min x lo), .pointer (some ⟨b, 0, none⟩), .pointer (some ⟨b, 0, none⟩), .pointer (some ⟨b, 1, none⟩), .int .i64 y, .int .i64 hi, .int .i64 (max y hi), .pointer (some ⟨b, 0, none⟩), .pointer (some ⟨b, 0, none⟩), .pointer (some ⟨b, 0, none⟩), .pointer (some ⟨b, 1, none⟩)], defers := dd } w') :
    Code.wpIn (wideAt none) 0 Tryd.prog add2C Q { tmps := #[.pointer (some ⟨b, 0, none⟩), .int .i64 lo, .int .i64 hi, s3, s4, s5, s6, s7, s8, s9, s10, s11, s12, s13, s14, s15, s16, s17, s18, s19, s20, s21, s22, s23, s24, s25, s26, s27, s28, s29, s30, s31, s32, s33, s34, s35, s36, s37, s38, s39], defers := dd } W1 := by
  have HQ := Lib.hid hQ
  clear hQ
  conv => arg 4; whnf
  refine wpIn_region_invG mixed (by kernel_rfl) (fun d_ a_ w' => ∃ (x22 : Value) (x23 : Value) (x24 : Value) (x25 : Value) (x26 : Value) (x27 : Value) (x28 : Value) (x29 : Value) (x30 : Value) (x31 : Value) (x32 : Value) (x33 : Value) (x34 : Value) (x35 : Value) (x36 : Value) (x37 : Value) (x38 : Value) (x39 : Value), a_ = { tmps := #[.pointer (some ⟨b, 0, none⟩), .int .i64 lo, .int .i64 hi, s3, s4, s5, s6, s7, s8, s9, s10, s11, s12, s13, s14, s15, s16, s17, s18, s19, s20, s21, x22, x23, x24, x25, x26, x27, x28, x29, x30, x31, x32, x33, x34, x35, x36, x37, x38, x39], defers := dd } ∧ add2F b x y lo hi S0 S1 S2 d_ x22 x23 x24 x25 x26 x27 x28 x29 x30 x31 x32 x33 x34 x35 x36 x37 x38 x39 w') ?_ ?_ ?_
  · refine ⟨s22, s23, s24, s25, s26, s27, s28, s29, s30, s31, s32, s33, s34, s35, s36, s37, s38, s39, rfl, ?_⟩
    constructor <;> first | rfl | (intro _; rfl) | (intro h; cases h; done) | (intro _; exact h0) | exact h0
  · refine ⟨?_, ?_, ?_, ?_, ?_, ?_, ?_, ?_, ?_, ?_, ?_, ?_, ?_, ?_, ?_, ?_, ?_, ?_, ?_, ?_, trivial⟩
    all_goals
      rintro d_ a_ w1 K hd_ hdep ⟨x22, x23, x24, x25, x26, x27, x28, x29, x30, x31, x32, x33, x34, x35, x36, x37, x38, x39, rfl, F⟩ HK
      simp [Region.binds] at hdep
    · have HF : Hid (add2F b x y lo hi S0 S1 S2 (upd d_ 0) (.pointer (some ⟨b, 0, none⟩)) x23 x24 x25 x26 x27 x28 x29 x30 x31 x32 x33 x34 x35 x36 x37 x38 x39 w1) := ⟨F.q3, F.q4, F.q5, F.q7, F.q9, F.q10, F.q11, F.q13, fun h => andM0 (F.q14 h) rfl, fun h => andM0 (F.q15 h) rfl, fun h => andM0 (F.q16 h) rfl, fun h => andM0 (F.q17 h) rfl, fun h => andM0 (F.q18 h) rfl, fun h => andM0 (F.q19 h) rfl, fun _ => rfl, F.f1, F.f2, F.f3, F.f4, F.f5, F.f6, F.f7, F.f8, F.f9, F.f10, F.f11, F.f12, F.f13, F.f14, F.f15, F.f17, F.f18, F.st0, F.st1, F.st2⟩
      clear F
      go_simp
      exact HK.out _ _ ⟨_, _, _, _, _, _, _, _, _, _, _, _, _, _, _, _, _, _, rfl, HF.out⟩
    · have HF : Hid (add2F b x y lo hi S0 S1 S2 (upd d_ 1) x22 (.pointer (some ⟨b, 0, none⟩)) x24 x25 x26 x27 x28 x29 x30 x31 x32 x33 x34 x35 x36 x37 x38 x39 w1) := ⟨F.q3, F.q4, F.q5, F.q7, F.q9, F.q10, F.q11, F.q13, F.q14, F.q15, F.q16, fun h => andM1 (F.q17 h) rfl, fun h => andM1 (F.q18 h) rfl, fun h => andM1 (F.q19 h) rfl, F.f0, fun _ => rfl, F.f2, F.f3, F.f4, F.f5, F.f6, F.f7, F.f8, F.f9, F.f10, F.f11, F.f12, F.f13, F.f14, F.f15, F.f17, F.f18, F.st0, F.st1, F.st2⟩
      clear F
      go_simp
      exact HK.out _ _ ⟨_, _, _, _, _, _, _, _, _, _, _, _, _, _, _, _, _, _, rfl, HF.out⟩
    · have HF : Hid (add2F b x y lo hi S0 S1 S2 (upd d_ 2) x22 x23 (.pointer (some ⟨b, 0, none⟩)) x25 x26 x27 x28 x29 x30 x31 x32 x33 x34 x35 x36 x37 x38 x39 w1) := ⟨fun h => rfl, F.q4, F.q5, F.q7, F.q9, F.q10, F.q11, F.q13, fun h => andM1 (F.q14 h) rfl, fun h => andM1 (F.q15 h) rfl, fun h => andM1 (F.q16 h) rfl, fun h => andM2 (F.q17 h) rfl, fun h => andM2 (F.q18 h) rfl, fun h => andM2 (F.q19 h) rfl, F.f0, F.f1, fun _ => rfl, F.f3, F.f4, F.f5, F.f6, F.f7, F.f8, F.f9, F.f10, F.f11, F.f12, F.f13, F.f14, F.f15, F.f17, F.f18, F.st0, F.st1, F.st2⟩
      clear F
      go_simp
      exact HK.out _ _ ⟨_, _, _, _, _, _, _, _, _, _, _, _, _, _, _, _, _, _, rfl, HF.out⟩
    · obtain rfl := F.f2 (by simp [hdep])
      have HF : Hid (add2F b x y lo hi S0 S1 S2 (upd d_ 3) x22 x23 (.pointer (some ⟨b, 0, none⟩)) (.pointer (some ⟨b, 0, none⟩)) x26 x27 x28 x29 x30 x31 x32 x33 x34 x35 x36 x37 x38 x39 w1) := ⟨fun _ => (show _ from (by simp [hdep] : d_ 2 = true)), fun h => rfl, F.q5, F.q7, F.q9, F.q10, F.q11, F.q13, fun h => andM2 (F.q14 h) rfl, fun h => andM2 (F.q15 h) rfl, fun h => andM2 (F.q16 h) rfl, fun h => andM3 (F.q17 h) rfl, fun h => andM3 (F.q18 h) rfl, fun h => andM3 (F.q19 h) rfl, F.f0, F.f1, F.f2, fun _ => rfl, F.f4, F.f5, F.f6, F.f7, F.f8, F.f9, F.f10, F.f11, F.f12, F.f13, F.f14, F.f15, F.f17, F.f18, F.st0, F.st1, F.st2⟩
      clear F
      go_simp
      exact HK.out _ _ ⟨_, _, _, _, _, _, _, _, _, _, _, _, _, _, _, _, _, _, rfl, HF.out⟩
    · obtain rfl := F.f3 (by simp [hdep])
      have HF : Hid (add2F b x y lo hi S0 S1 S2 (upd d_ 4) x22 x23 x24 (.pointer (some ⟨b, 0, none⟩)) (.pointer (some ⟨b, 0, none⟩)) x27 x28 x29 x30 x31 x32 x33 x34 x35 x36 x37 x38 x39 w1) := ⟨F.q3, fun _ => (show _ from (by simp [hdep] : d_ 3 = true)), fun h => rfl, F.q7, F.q9, F.q10, F.q11, F.q13, fun h => andM3 (F.q14 h) rfl, fun h => andM3 (F.q15 h) rfl, fun h => andM3 (F.q16 h) rfl, fun h => andM4 (F.q17 h) rfl, fun h => andM4 (F.q18 h) rfl, fun h => andM4 (F.q19 h) rfl, F.f0, F.f1, F.f2, F.f3, fun _ => rfl, F.f5, F.f6, F.f7, F.f8, F.f9, F.f10, F.f11, F.f12, F.f13, F.f14, F.f15, F.f17, F.f18, F.st0, F.st1, F.st2⟩
      clear F
      go_simp
      exact HK.out _ _ ⟨_, _, _, _, _, _, _, _, _, _, _, _, _, _, _, _, _, _, rfl, HF.out⟩
    · have hst : S0 w1 := by
        have n_ : d_ 16 = false := by
          cases e_ : d_ 16 with
          | false => rfl
          | true => have h2 := (F.q16 e_).2.2.2.2.1; rw [show d_ 5 = false from hd_] at h2; cases h2
        exact (F.st0 n_)
      have kk := kl5.out w1 hst
      clear hst
      obtain rfl := F.f4 (by simp [hdep])
      have HF : Hid (add2F b x y lo hi S0 S1 S2 (upd d_ 5) x22 x23 x24 x25 (.pointer (some ⟨b, 0, none⟩)) (.int .i64 x) x28 x29 x30 x31 x32 x33 x34 x35 x36 x37 x38 x39 w1) := ⟨F.q3, F.q4, fun _ => (show _ from (by simp [hdep] : d_ 4 = true)), fun h => andM0 (F.q7 h) rfl, F.q9, F.q10, F.q11, F.q13, fun h => andM4 (F.q14 h) rfl, fun h => andM4 (F.q15 h) rfl, fun h => andM4 (F.q16 h) rfl, fun h => andM5 (F.q17 h) rfl, fun h => andM5 (F.q18 h) rfl, fun h => andM5 (F.q19 h) rfl, F.f0, F.f1, F.f2, F.f3, F.f4, fun _ => rfl, F.f6, F.f7, F.f8, F.f9, F.f10, F.f11, F.f12, F.f13, F.f14, F.f15, F.f17, F.f18, F.st0, F.st1, F.st2⟩
      clear F
      go_simp
      exact HK.out _ _ ⟨_, _, _, _, _, _, _, _, _, _, _, _, _, _, _, _, _, _, rfl, HF.out⟩
    · have HF : Hid (add2F b x y lo hi S0 S1 S2 (upd d_ 6) x22 x23 x24 x25 x26 x27 (.int .i64 lo) x29 x30 x31 x32 x33 x34 x35 x36 x37 x38 x39 w1) := ⟨F.q3, F.q4, F.q5, fun h => andL1 (F.q7 h) rfl, F.q9, F.q10, F.q11, F.q13, fun h => andM5 (F.q14 h) rfl, fun h => andM5 (F.q15 h) rfl, fun h => andM5 (F.q16 h) rfl, fun h => andM6 (F.q17 h) rfl, fun h => andM6 (F.q18 h) rfl, fun h => andM6 (F.q19 h) rfl, F.f0, F.f1, F.f2, F.f3, F.f4, F.f5, fun _ => rfl, F.f7, F.f8, F.f9, F.f10, F.f11, F.f12, F.f13, F.f14, F.f15, F.f17, F.f18, F.st0, F.st1, F.st2⟩
      clear F
      go_simp
      exact HK.out _ _ ⟨_, _, _, _, _, _, _, _, _, _, _, _, _, _, _, _, _, _, rfl, HF.out⟩
    · obtain rfl := F.f5 (by simp [hdep])
      obtain rfl := F.f6 (by simp [hdep])
      have HF : Hid (add2F b x y lo hi S0 S1 S2 (upd d_ 7) x22 x23 x24 x25 x26 (.int .i64 x) (.int .i64 lo) (.int .i64 (min x lo)) x30 x31 x32 x33 x34 x35 x36 x37 x38 x39 w1) := ⟨F.q3, F.q4, F.q5, fun _ => ⟨(show _ from (by simp [hdep] : d_ 5 = true)), (show _ from (by simp [hdep] : d_ 6 = true))⟩, F.q9, F.q10, F.q11, F.q13, fun h => andM6 (F.q14 h) rfl, fun h => andM6 (F.q15 h) rfl, fun h => andM6 (F.q16 h) rfl, fun h => andM7 (F.q17 h) rfl, fun h => andM7 (F.q18 h) rfl, fun h => andM7 (F.q19 h) rfl, F.f0, F.f1, F.f2, F.f3, F.f4, F.f5, F.f6, fun _ => rfl, F.f8, F.f9, F.f10, F.f11, F.f12, F.f13, F.f14, F.f15, F.f17, F.f18, F.st0, F.st1, F.st2⟩
      clear F
      go_simp
      exact HK.out _ _ ⟨_, _, _, _, _, _, _, _, _, _, _, _, _, _, _, _, _, _, rfl, HF.out⟩
    · have HF : Hid (add2F b x y lo hi S0 S1 S2 (upd d_ 8) x22 x23 x24 x25 x26 x27 x28 x29 (.pointer (some ⟨b, 0, none⟩)) x31 x32 x33 x34 x35 x36 x37 x38 x39 w1) := ⟨F.q3, F.q4, F.q5, F.q7, fun h => rfl, F.q10, F.q11, F.q13, F.q14, F.q15, F.q16, fun h => andM8 (F.q17 h) rfl, fun h => andM8 (F.q18 h) rfl, fun h => andM8 (F.q19 h) rfl, F.f0, F.f1, F.f2, F.f3, F.f4, F.f5, F.f6, F.f7, fun _ => rfl, F.f9, F.f10, F.f11, F.f12, F.f13, F.f14, F.f15, F.f17, F.f18, F.st0, F.st1, F.st2⟩
      clear F
      go_simp
      exact HK.out _ _ ⟨_, _, _, _, _, _, _, _, _, _, _, _, _, _, _, _, _, _, rfl, HF.out⟩
    · obtain rfl := F.f8 (by simp [hdep])
      have HF : Hid (add2F b x y lo hi S0 S1 S2 (upd d_ 9) x22 x23 x24 x25 x26 x27 x28 x29 (.pointer (some ⟨b, 0, none⟩)) (.pointer (some ⟨b, 0, none⟩)) x32 x33 x34 x35 x36 x37 x38 x39 w1) := ⟨F.q3, F.q4, F.q5, F.q7, fun _ => (show _ from (by simp [hdep] : d_ 8 = true)), fun h => rfl, F.q11, F.q13, F.q14, F.q15, F.q16, fun h => andM9 (F.q17 h) rfl, fun h => andM9 (F.q18 h) rfl, fun h => andM9 (F.q19 h) rfl, F.f0, F.f1, F.f2, F.f3, F.f4, F.f5, F.f6, F.f7, F.f8, fun _ => rfl, F.f10, F.f11, F.f12, F.f13, F.f14, F.f15, F.f17, F.f18, F.st0, F.st1, F.st2⟩
      clear F
      go_simp
      exact HK.out _ _ ⟨_, _, _, _, _, _, _, _, _, _, _, _, _, _, _, _, _, _, rfl, HF.out⟩
    · obtain rfl := F.f9 (by simp [hdep])
      have HF : Hid (add2F b x y lo hi S0 S1 S2 (upd d_ 10) x22 x23 x24 x25 x26 x27 x28 x29 x30 (.pointer (some ⟨b, 0, none⟩)) (.pointer (some ⟨b, 1, none⟩)) x33 x34 x35 x36 x37 x38 x39 w1) := ⟨F.q3, F.q4, F.q5, F.q7, F.q9, fun _ => (show _ from (by simp [hdep] : d_ 9 = true)), fun h => rfl, F.q13, F.q14, F.q15, F.q16, fun h => andM10 (F.q17 h) rfl, fun h => andM10 (F.q18 h) rfl, fun h => andM10 (F.q19 h) rfl, F.f0, F.f1, F.f2, F.f3, F.f4, F.f5, F.f6, F.f7, F.f8, F.f9, fun _ => rfl, F.f11, F.f12, F.f13, F.f14, F.f15, F.f17, F.f18, F.st0, F.st1, F.st2⟩
      clear F
      go_simp
      exact HK.out _ _ ⟨_, _, _, _, _, _, _, _, _, _, _, _, _, _, _, _, _, _, rfl, HF.out⟩
    · have hst : S0 w1 := by
        have n_ : d_ 16 = false := by
          cases e_ : d_ 16 with
          | false => rfl
          | true => have h2 := (F.q16 e_).2.2.2.2.2.2.2.1; rw [show d_ 11 = false from hd_] at h2; cases h2
        exact (F.st0 n_)
      have kk := kl11.out w1 hst
      clear hst
      obtain rfl := F.f10 (by simp [hdep])
      have HF : Hid (add2F b x y lo hi S0 S1 S2 (upd d_ 11) x22 x23 x24 x25 x26 x27 x28 x29 x30 x31 (.pointer (some ⟨b, 1, none⟩)) (.int .i64 y) x34 x35 x36 x37 x38 x39 w1) := ⟨F.q3, F.q4, F.q5, F.q7, F.q9, F.q10, fun _ => (show _ from (by simp [hdep] : d_ 10 = true)), fun h => andM0 (F.q13 h) rfl, fun h => andL7 (F.q14 h) rfl, fun h => andM7 (F.q15 h) rfl, fun h => andM7 (F.q16 h) rfl, fun h => andM11 (F.q17 h) rfl, fun h => andM11 (F.q18 h) rfl, fun h => andM11 (F.q19 h) rfl, F.f0, F.f1, F.f2, F.f3, F.f4, F.f5, F.f6, F.f7, F.f8, F.f9, F.f10, fun _ => rfl, F.f12, F.f13, F.f14, F.f15, F.f17, F.f18, F.st0, F.st1, F.st2⟩
      clear F
      go_simp
      exact HK.out _ _ ⟨_, _, _, _, _, _, _, _, _, _, _, _, _, _, _, _, _, _, rfl, HF.out⟩
    · have HF : Hid (add2F b x y lo hi S0 S1 S2 (upd d_ 12) x22 x23 x24 x25 x26 x27 x28 x29 x30 x31 x32 x33 (.int .i64 hi) x35 x36 x37 x38 x39 w1) := ⟨F.q3, F.q4, F.q5, F.q7, F.q9, F.q10, F.q11, fun h => andL1 (F.q13 h) rfl, F.q14, F.q15, F.q16, fun h => andM12 (F.q17 h) rfl, fun h => andM12 (F.q18 h) rfl, fun h => andM12 (F.q19 h) rfl, F.f0, F.f1, F.f2, F.f3, F.f4, F.f5, F.f6, F.f7, F.f8, F.f9, F.f10, F.f11, fun _ => rfl, F.f13, F.f14, F.f15, F.f17, F.f18, F.st0, F.st1, F.st2⟩
      clear F
      go_simp
      exact HK.out _ _ ⟨_, _, _, _, _, _, _, _, _, _, _, _, _, _, _, _, _, _, rfl, HF.out⟩
    · obtain rfl := F.f11 (by simp [hdep])
      obtain rfl := F.f12 (by simp [hdep])
      have HF : Hid (add2F b x y lo hi S0 S1 S2 (upd d_ 13) x22 x23 x24 x25 x26 x27 x28 x29 x30 x31 x32 (.int .i64 y) (.int .i64 hi) (.int .i64 (max y hi)) x36 x37 x38 x39 w1) := ⟨F.q3, F.q4, F.q5, F.q7, F.q9, F.q10, F.q11, fun _ => ⟨(show _ from (by simp [hdep] : d_ 11 = true)), (show _ from (by simp [hdep] : d_ 12 = true))⟩, F.q14, F.q15, F.q16, fun h => andM13 (F.q17 h) rfl, fun h => andM13 (F.q18 h) rfl, fun h => andM13 (F.q19 h) rfl, F.f0, F.f1, F.f2, F.f3, F.f4, F.f5, F.f6, F.f7, F.f8, F.f9, F.f10, F.f11, F.f12, fun _ => rfl, F.f14, F.f15, F.f17, F.f18, F.st0, F.st1, F.st2⟩
      clear F
      go_simp
      exact HK.out _ _ ⟨_, _, _, _, _, _, _, _, _, _, _, _, _, _, _, _, _, _, rfl, HF.out⟩
    · obtain rfl := F.f0 (by simp [hdep])
      have HF : Hid (add2F b x y lo hi S0 S1 S2 (upd d_ 14) (.pointer (some ⟨b, 0, none⟩)) x23 x24 x25 x26 x27 x28 x29 x30 x31 x32 x33 x34 x35 (.pointer (some ⟨b, 0, none⟩)) x37 x38 x39 w1) := ⟨F.q3, F.q4, F.q5, F.q7, F.q9, F.q10, F.q11, F.q13, fun _ => ⟨(show _ from (by simp [hdep] : d_ 0 = true)), (show _ from (by simp [hdep] : d_ 2 = true)), (show _ from (by simp [hdep] : d_ 3 = true)), (show _ from (by simp [hdep] : d_ 4 = true)), (show _ from (by simp [hdep] : d_ 5 = true)), (show _ from (by simp [hdep] : d_ 6 = true)), (show _ from (by simp [hdep] : d_ 7 = true)), (show _ from (by simp [hdep] : d_ 11 = true))⟩, fun h => andL8 (F.q15 h) rfl, F.q16, fun h => andM14 (F.q17 h) rfl, fun h => andM14 (F.q18 h) rfl, fun h => andM14 (F.q19 h) rfl, F.f0, F.f1, F.f2, F.f3, F.f4, F.f5, F.f6, F.f7, F.f8, F.f9, F.f10, F.f11, F.f12, F.f13, fun _ => rfl, F.f15, F.f17, F.f18, F.st0, F.st1, F.st2⟩
      clear F
      go_simp
      exact HK.out _ _ ⟨_, _, _, _, _, _, _, _, _, _, _, _, _, _, _, _, _, _, rfl, HF.out⟩
    · obtain rfl := F.f14 (by simp [hdep])
      have HF : Hid (add2F b x y lo hi S0 S1 S2 (upd d_ 15) x22 x23 x24 x25 x26 x27 x28 x29 x30 x31 x32 x33 x34 x35 (.pointer (some ⟨b, 0, none⟩)) (.pointer (some ⟨b, 0, none⟩)) x38 x39 w1) := ⟨F.q3, F.q4, F.q5, F.q7, F.q9, F.q10, F.q11, F.q13, F.q14, fun _ => ⟨(show _ from (by simp [hdep] : d_ 0 = true)), (show _ from (by simp [hdep] : d_ 2 = true)), (show _ from (by simp [hdep] : d_ 3 = true)), (show _ from (by simp [hdep] : d_ 4 = true)), (show _ from (by simp [hdep] : d_ 5 = true)), (show _ from (by simp [hdep] : d_ 6 = true)), (show _ from (by simp [hdep] : d_ 7 = true)), (show _ from (by simp [hdep] : d_ 11 = true)), (show _ from (by simp [hdep] : d_ 14 = true))⟩, fun h => andL8 (F.q16 h) rfl, fun h => andM15 (F.q17 h) rfl, fun h => andM15 (F.q18 h) rfl, fun h => andM15 (F.q19 h) rfl, F.f0, F.f1, F.f2, F.f3, F.f4, F.f5, F.f6, F.f7, F.f8, F.f9, F.f10, F.f11, F.f12, F.f13, F.f14, fun _ => rfl, F.f17, F.f18, F.st0, F.st1, F.st2⟩
      clear F
      go_simp
      exact HK.out _ _ ⟨_, _, _, _, _, _, _, _, _, _, _, _, _, _, _, _, _, _, rfl, HF.out⟩
    · have hS := F.st0  hd_
      obtain rfl := F.f7 (by simp [hdep])
      obtain rfl := F.f15 (by simp [hdep])
      obtain ⟨⟨ku0, kcell0⟩, kfr0, hres⟩ := kc16.out w1 hS
      have HF : Hid (add2F b x y lo hi S0 S1 S2 (upd d_ 16) x22 x23 x24 x25 x26 x27 x28 (.int .i64 (min x lo)) x30 x31 x32 x33 x34 x35 x36 (.pointer (some ⟨b, 0, none⟩)) x38 x39 (w1.setCell ⟨b, 0, none⟩ (.int .i64 (min x lo)))) := ⟨F.q3, F.q4, F.q5, F.q7, F.q9, F.q10, F.q11, F.q13, F.q14, F.q15, fun _ => ⟨(show _ from (by simp [hdep] : d_ 0 = true)), (show _ from (by simp [hdep] : d_ 2 = true)), (show _ from (by simp [hdep] : d_ 3 = true)), (show _ from (by simp [hdep] : d_ 4 = true)), (show _ from (by simp [hdep] : d_ 5 = true)), (show _ from (by simp [hdep] : d_ 6 = true)), (show _ from (by simp [hdep] : d_ 7 = true)), (show _ from (by simp [hdep] : d_ 11 = true)), (show _ from (by simp [hdep] : d_ 15 = true))⟩, fun h => andL16 (F.q17 h) rfl, fun h => andM16 (F.q18 h) rfl, fun h => andM16 (F.q19 h) rfl, F.f0, F.f1, F.f2, F.f3, F.f4, F.f5, F.f6, F.f7, F.f8, F.f9, F.f10, F.f11, F.f12, F.f13, F.f14, F.f15, F.f17, F.f18, fun h => (by simp [upd] at h), fun _ _ => hres, fun h => (by have h2 : d_ 16 = true := (F.q19 h).2.2.2.2.2.2.2.2.2.2.2.2.2.2.2.2.1; rw [show d_ 16 = false from hd_] at h2; cases h2)⟩
      clear F hS hres
      go_simp
      exact HK.out _ _ ⟨_, _, _, _, _, _, _, _, _, _, _, _, _, _, _, _, _, _, rfl, HF.out⟩
    · obtain rfl := F.f1 (by simp [hdep])
      have HF : Hid (add2F b x y lo hi S0 S1 S2 (upd d_ 17) x22 (.pointer (some ⟨b, 0, none⟩)) x24 x25 x26 x27 x28 x29 x30 x31 x32 x33 x34 x35 x36 x37 (.pointer (some ⟨b, 0, none⟩)) x39 w1) := ⟨F.q3, F.q4, F.q5, F.q7, F.q9, F.q10, F.q11, F.q13, F.q14, F.q15, F.q16, fun _ => ⟨(show _ from (by simp [hdep] : d_ 0 = true)), (show _ from (by simp [hdep] : d_ 1 = true)), (show _ from (by simp [hdep] : d_ 2 = true)), (show _ from (by simp [hdep] : d_ 3 = true)), (show _ from (by simp [hdep] : d_ 4 = true)), (show _ from (by simp [hdep] : d_ 5 = true)), (show _ from (by simp [hdep] : d_ 6 = true)), (show _ from (by simp [hdep] : d_ 7 = true)), (show _ from (by simp [hdep] : d_ 8 = true)), (show _ from (by simp [hdep] : d_ 9 = true)), (show _ from (by simp [hdep] : d_ 10 = true)), (show _ from (by simp [hdep] : d_ 11 = true)), (show _ from (by simp [hdep] : d_ 12 = true)), (show _ from (by simp [hdep] : d_ 13 = true)), (show _ from (by simp [hdep] : d_ 14 = true)), (show _ from (by simp [hdep] : d_ 15 = true)), (show _ from (by simp [hdep] : d_ 16 = true))⟩, fun h => andL17 (F.q18 h) rfl, F.q19, F.f0, F.f1, F.f2, F.f3, F.f4, F.f5, F.f6, F.f7, F.f8, F.f9, F.f10, F.f11, F.f12, F.f13, F.f14, F.f15, fun _ => rfl, F.f18, F.st0, F.st1, F.st2⟩
      clear F
      go_simp
      exact HK.out _ _ ⟨_, _, _, _, _, _, _, _, _, _, _, _, _, _, _, _, _, _, rfl, HF.out⟩
    · obtain rfl := F.f17 (by simp [hdep])
      have HF : Hid (add2F b x y lo hi S0 S1 S2 (upd d_ 18) x22 x23 x24 x25 x26 x27 x28 x29 x30 x31 x32 x33 x34 x35 x36 x37 (.pointer (some ⟨b, 0, none⟩)) (.pointer (some ⟨b, 1, none⟩)) w1) := ⟨F.q3, F.q4, F.q5, F.q7, F.q9, F.q10, F.q11, F.q13, F.q14, F.q15, F.q16, F.q17, fun _ => ⟨(show _ from (by simp [hdep] : d_ 0 = true)), (show _ from (by simp [hdep] : d_ 1 = true)), (show _ from (by simp [hdep] : d_ 2 = true)), (show _ from (by simp [hdep] : d_ 3 = true)), (show _ from (by simp [hdep] : d_ 4 = true)), (show _ from (by simp [hdep] : d_ 5 = true)), (show _ from (by simp [hdep] : d_ 6 = true)), (show _ from (by simp [hdep] : d_ 7 = true)), (show _ from (by simp [hdep] : d_ 8 = true)), (show _ from (by simp [hdep] : d_ 9 = true)), (show _ from (by simp [hdep] : d_ 10 = true)), (show _ from (by simp [hdep] : d_ 11 = true)), (show _ from (by simp [hdep] : d_ 12 = true)), (show _ from (by simp [hdep] : d_ 13 = true)), (show _ from (by simp [hdep] : d_ 14 = true)), (show _ from (by simp [hdep] : d_ 15 = true)), (show _ from (by simp [hdep] : d_ 16 = true)), (show _ from (by simp [hdep] : d_ 17 = true))⟩, fun h => andL17 (F.q19 h) rfl, F.f0, F.f1, F.f2, F.f3, F.f4, F.f5, F.f6, F.f7, F.f8, F.f9, F.f10, F.f11, F.f12, F.f13, F.f14, F.f15, F.f17, fun _ => rfl, F.st0, F.st1, F.st2⟩
      clear F
      go_simp
      exact HK.out _ _ ⟨_, _, _, _, _, _, _, _, _, _, _, _, _, _, _, _, _, _, rfl, HF.out⟩
    · have hS := F.st1 (by simp [hdep] : d_ 16 = true) hd_
      obtain rfl := F.f13 (by simp [hdep])
      obtain rfl := F.f18 (by simp [hdep])
      obtain ⟨⟨ku0, kcell0⟩, kfr0, hres⟩ := kc19.out w1 hS
      have HF : Hid (add2F b x y lo hi S0 S1 S2 (upd d_ 19) x22 x23 x24 x25 x26 x27 x28 x29 x30 x31 x32 x33 x34 (.int .i64 (max y hi)) x36 x37 x38 (.pointer (some ⟨b, 1, none⟩)) (w1.setCell ⟨b, 1, none⟩ (.int .i64 (max y hi)))) := ⟨F.q3, F.q4, F.q5, F.q7, F.q9, F.q10, F.q11, F.q13, F.q14, F.q15, F.q16, F.q17, F.q18, fun _ => ⟨(show _ from (by simp [hdep] : d_ 0 = true)), (show _ from (by simp [hdep] : d_ 1 = true)), (show _ from (by simp [hdep] : d_ 2 = true)), (show _ from (by simp [hdep] : d_ 3 = true)), (show _ from (by simp [hdep] : d_ 4 = true)), (show _ from (by simp [hdep] : d_ 5 = true)), (show _ from (by simp [hdep] : d_ 6 = true)), (show _ from (by simp [hdep] : d_ 7 = true)), (show _ from (by simp [hdep] : d_ 8 = true)), (show _ from (by simp [hdep] : d_ 9 = true)), (show _ from (by simp [hdep] : d_ 10 = true)), (show _ from (by simp [hdep] : d_ 11 = true)), (show _ from (by simp [hdep] : d_ 12 = true)), (show _ from (by simp [hdep] : d_ 13 = true)), (show _ from (by simp [hdep] : d_ 14 = true)), (show _ from (by simp [hdep] : d_ 15 = true)), (show _ from (by simp [hdep] : d_ 16 = true)), (show _ from (by simp [hdep] : d_ 18 = true))⟩, F.f0, F.f1, F.f2, F.f3, F.f4, F.f5, F.f6, F.f7, F.f8, F.f9, F.f10, F.f11, F.f12, F.f13, F.f14, F.f15, F.f17, F.f18, fun h => (by have h2 : d_ 16 = false := h; rw [(by simp [hdep] : d_ 16 = true)] at h2; cases h2), fun _ h => (by simp [upd] at h), fun _ => hres⟩
      clear F hS hres
      go_simp
      exact HK.out _ _ ⟨_, _, _, _, _, _, _, _, _, _, _, _, _, _, _, _, _, _, rfl, HF.out⟩
  · rintro d_ a_ w1 hall ⟨x22, x23, x24, x25, x26, x27, x28, x29, x30, x31, x32, x33, x34, x35, x36, x37, x38, x39, rfl, F⟩
    have hall' : ∀ k, k < 20 → d_ k = true := hall
    obtain rfl := F.f0 (hall' 0 (by decide))
    obtain rfl := F.f1 (hall' 1 (by decide))
    obtain rfl := F.f2 (hall' 2 (by decide))
    obtain rfl := F.f3 (hall' 3 (by decide))
    obtain rfl := F.f4 (hall' 4 (by decide))
    obtain rfl := F.f5 (hall' 5 (by decide))
    obtain rfl := F.f6 (hall' 6 (by decide))
    obtain rfl := F.f7 (hall' 7 (by decide))
    obtain rfl := F.f8 (hall' 8 (by decide))
    obtain rfl := F.f9 (hall' 9 (by decide))
    obtain rfl := F.f10 (hall' 10 (by decide))
    obtain rfl := F.f11 (hall' 11 (by decide))
    obtain rfl := F.f12 (hall' 12 (by decide))
    obtain rfl := F.f13 (hall' 13 (by decide))
    obtain rfl := F.f14 (hall' 14 (by decide))
    obtain rfl := F.f15 (hall' 15 (by decide))
    obtain rfl := F.f17 (hall' 17 (by decide))
    obtain rfl := F.f18 (hall' 18 (by decide))
    have hst := F.st2 (hall' 19 (by decide))
    exact HQ.out  w1 hst
end Go.Proofs.YtbnhngfegnhaiaaDoor
namespace Go.Proofs.YtbnhngfegnhaiaaDoor
open Go.RowKit
set_option linter.unusedVariables false
set_option linter.unusedSimpArgs false
def FreshP (W : World) (p : Nat) (x y : Int) (v : World) : Prop := W.heap.size ≤ p ∧ v.heap[p]? = some (.cells #[.int .i64 x, .int .i64 y] 24 (0, 0))
theorem FreshP.mono {W v v' : World} {p : Nat} {x y : Int} (h : FreshP W p x y v) (hb : Below v.heap.size v v') : FreshP W p x y v' := ⟨h.1, (hb.block _ (heap_lt h.2)).trans h.2⟩
theorem FreshP.put {W v : World} {p q : Nat} {x y : Int} (h : FreshP W p x y v) (hne : q ≠ p) (z1 z2 : Value) : FreshP W p x y ((v.setCell ⟨q, 0, none⟩ z1).setCell ⟨q, 1, none⟩ z2) := ⟨h.1, by
  rw [Below.heap_setCell _ _ _ _ (Ne.symm hne), Below.heap_setCell _ _ _ _ (Ne.symm hne)]
  exact h.2⟩
set_option maxRecDepth 100000 in
set_option maxHeartbeats 8000000 in
theorem shift53 {r : Rws} {al ar : Option Addr} {cl cr b i k : Nat} {T : Nat → Bool} {need : Int} {w : World} (h : IsRws w b r al cl ar cr T need) (hn : r.Nums) (hi : i < r.left.length) (hk : k < r.right.length) :
    Calls Tryd.prog 40 #[.pointer (some ⟨b, 0, none⟩), .int .i64 i, .int .i64 k] w fun e w' => e = .returned (r.shiftOf i k).v ∧ Below w.heap.size w w' := by
  have HX := Lib.hid (And.intro (World.alloc_heap_new w (.cells #[.int .i64 0, .int .i64 0] 24)) (alloc_below w (.cells #[.int .i64 0, .int .i64 0] 24)))
  have H := Lib.hid (h.mono HX.out.2)
  have HSA := Lib.hid (mrk_small (hn.lm _ (gm_mem hi)))
  have HSB := Lib.hid (mrk_small (hn.rm _ (gm_mem hk)))
  obtain ⟨ga, oa, hla, _⟩ := h.lm i hi
  obtain ⟨gb, ob, hlb, _⟩ := h.rm k hk
  subst hla hlb
  have HMA := Lib.hid (fun (v : World) (hv : IsRws v b r (some ⟨ga, oa, none⟩) cl (some ⟨gb, ob, none⟩) cr T need) => (show MrkC v ga (oa + i * 4) (gm r.left i) from by
    obtain ⟨g', o', e, hc⟩ := hv.lm i hi
    simp only [Option.some.injEq, Addr.mk.injEq, and_true] at e
    obtain ⟨rfl, rfl⟩ := e
    exact hc))
  have HMB := Lib.hid (fun (v : World) (hv : IsRws v b r (some ⟨ga, oa, none⟩) cl (some ⟨gb, ob, none⟩) cr T need) => (show MrkC v gb (ob + k * 4) (gm r.right k) from by
    obtain ⟨g', o', e, hc⟩ := hv.rm k hk
    simp only [Option.some.injEq, Addr.mk.injEq, and_true] at e
    obtain ⟨rfl, rfl⟩ := e
    exact hc))
  have g1 : (i : Int) < r.left.length := by omega
  have g2 : (k : Int) < r.right.length := by omega
  clear h hi hk hn
  unfold Rws.shiftOf shiftM
  revert HSA HSB HMA HMB
  generalize gm r.left i = x
  generalize gm r.right k = y
  intro HSA HSB HMA HMB
  go_enter Tryd.func40, Tryd.ntmps40
  refine wp_seq_hid ?_
  intro K0 HK0
  go_wp2_with fail
  refine HK0.out _ _ ?_
  clear HK0 K0
  revert HX H
  generalize w.alloc (.cells #[.int .i64 0, .int .i64 0] 24) = w1
  generalize hb6 : w.heap.size = b6
  intro HX H
  have HB6 := Lib.hid hb6
  clear hb6
  have KF : Hid (∀ v, Below w1.heap.size w1 v → IsRws v b r (some ⟨ga, oa, none⟩) cl (some ⟨gb, ob, none⟩) cr T need ∧ MrkC v ga (oa + i * 4) x ∧ MrkC v gb (ob + k * 4) y ∧ Below b6 w v ∧ v.heap[b6]? = some (.cells #[.int .i64 0, .int .i64 0] 24 (0, 0))) := fun v hv =>
    have h1 := H.out.mono hv
    ⟨h1, HMA.out v h1, HMB.out v h1, HX.out.2.trans (hv.mono (Nat.le_of_lt (heap_lt HX.out.1))), (hv.block _ (heap_lt HX.out.1)).trans HX.out.1⟩
  have HLT := Lib.hid (heap_lt HX.out.1)
  clear HX H HMA HMB
  refine wp_seq_hid ?_
  intro K1 HK1
  refine wpIn_wide.1 (shf1 (b := b) (ga := ga) (oa := oa) (n := r.left.length) (ca := cl) (gb := gb) (ob := ob) (m := r.right.length) (cb := cr) (i := i) (k := k) (x1 := x.pos.lo) (y1 := x.pos.hi) (x2 := y.pos.lo) (y2 := y.pos.hi)
    (S0 := fun fs ms v => Below w1.heap.size w1 v ∧ (fs = true → FreshP w1 ms 0 0 v))
    (S1 := fun fs ms p7 v => Below w1.heap.size w1 v ∧ (fs = true → FreshP w1 ms 0 0 v ∧ p7 ≠ ms) ∧ FreshP w1 p7 0 0 v)
    (S2 := fun fs ms p7 v => Below w1.heap.size w1 v ∧ (fs = true → FreshP w1 ms 0 0 v ∧ p7 ≠ ms) ∧ FreshP w1 p7 x.pos.lo x.pos.hi v)
    (S3 := fun fs ms p7 v => Below w1.heap.size w1 v ∧ FreshP w1 ms y.pos.lo y.pos.hi v ∧ FreshP w1 p7 x.pos.lo x.pos.hi v)
    (by omega) g1 (by omega) g2 ?h0 ?l4 ?l8 ?l13 ?l17 ?c18 ?s0 ?s1 ?c20 ?c21 ?hQ)
  case h0 => exact ⟨(Below.refl _ _).drew, fun h => by cases h⟩
  case l4 =>
    rintro fs ms p7 v (h | h)
    · exact (KF.out v h.1).1.left
    · exact (KF.out v h.1).1.left
  case l8 =>
    rintro fs ms p7 v (h | h)
    · exact ⟨(KF.out v h.1).2.1.c0, (KF.out v h.1).2.1.c1⟩
    · exact ⟨(KF.out v h.1).2.1.c0, (KF.out v h.1).2.1.c1⟩
  case l13 =>
    rintro fs ms p7 v (h | h | h)
    · exact (KF.out v h.1).1.right
    · exact (KF.out v h.1).1.right
    · exact (KF.out v h.1).1.right
  case l17 =>
    rintro fs ms p7 v (h | h | h)
    · exact ⟨(KF.out v h.1).2.2.1.c0, (KF.out v h.1).2.2.1.c1⟩
    · exact ⟨(KF.out v h.1).2.2.1.c0, (KF.out v h.1).2.2.1.c1⟩
    · exact ⟨(KF.out v h.1).2.2.1.c0, (KF.out v h.1).2.2.1.c1⟩
  case c18 => exact fun fs ms v h => ⟨h.1.alloc h.1.size _, fun e => ⟨(h.2 e).mono (alloc_below _ _), fun e2 => by have := heap_lt (h.2 e).2; omega⟩, h.1.size, World.alloc_heap_new _ _⟩
  case s0 => exact fun v h => ⟨h.1.alloc h.1.size _, fun _ => ⟨h.1.size, World.alloc_heap_new _ _⟩⟩
  case s1 => exact fun p7 v h => ⟨h.1.alloc h.1.size _, fun _ => ⟨⟨h.1.size, World.alloc_heap_new _ _⟩, fun e2 => by have := heap_lt h.2.2.2; omega⟩, h.2.2.mono (alloc_below _ _)⟩
  case c20 =>
    intro ms p7 v h
    obtain ⟨g1, g2⟩ := h.2.2
    obtain ⟨g3, g4⟩ := h.2.1 rfl
    exact ⟨⟨_, by rw [cell_of_heap g2]; rfl⟩, frozen_of_heap g2, ⟨_, by rw [cell_of_heap g2]; rfl⟩, frozen_of_heap g2, (h.1.setCell (p := ⟨p7, 0, none⟩) g1 _).setCell (p := ⟨p7, 1, none⟩) g1 _, fun _ => ⟨g3.put g4 _ _, g4⟩, g1, heap_setCell_at (k := 1) (heap_setCell_at (k := 0) g2 _) _⟩
  case c21 =>
    intro ms p7 v h
    obtain ⟨⟨g1, g2⟩, g4⟩ := h.2.1 rfl
    exact ⟨⟨_, by rw [cell_of_heap g2]; rfl⟩, frozen_of_heap g2, ⟨_, by rw [cell_of_heap g2]; rfl⟩, frozen_of_heap g2, (h.1.setCell (p := ⟨ms, 0, none⟩) g1 _).setCell (p := ⟨ms, 1, none⟩) g1 _, ⟨g1, heap_setCell_at (k := 1) (heap_setCell_at (k := 0) g2 _) _⟩, h.2.2.put (Ne.symm g4) _ _⟩
  intro ms p7 w2 h
  have HF := Lib.hid h
  clear h
  refine HK1.out _ _ ?_
  clear HK1 K1
  refine wp_seq_hid ?_
  intro K2 HK2
  have e1 : IntKind.i64.wrap (x.pos.lo - y.pos.hi) = x.pos.lo - y.pos.hi := IntWalk.i64_in _ (by have := HSA.out.a; have := HSB.out.b; omega)
  have e2 : IntKind.i64.wrap (x.pos.hi - y.pos.lo) = x.pos.hi - y.pos.lo := IntWalk.i64_in _ (by have := HSA.out.b; have := HSB.out.a; omega)
  refine wpIn_wide.1 (shf2 (b := b) (b6 := b6) (p7 := p7) (p8 := ms) (x1 := x.pos.lo) (y1 := x.pos.hi) (x2 := y.pos.lo) (y2 := y.pos.hi) (d1 := x.pos.lo - y.pos.hi) (d2 := x.pos.hi - y.pos.lo) (sl := r.shift.lo) (sh := r.shift.hi) (z1 := ((⟨x.pos.lo - y.pos.hi, x.pos.hi - y.pos.lo⟩ : Spn).cut r.shift).lo) (z2 := ((⟨x.pos.lo - y.pos.hi, x.pos.hi - y.pos.lo⟩ : Spn).cut r.shift).hi)
    (S0 := fun v => Below w1.heap.size w1 v ∧ FreshP w1 ms y.pos.lo y.pos.hi v ∧ FreshP w1 p7 x.pos.lo x.pos.hi v) (S1 := fun _ v => Below w1.heap.size w1 v)
    (S2 := fun _ v => Below b6 w v ∧ v.heap[b6]? = some (.cells ((⟨x.pos.lo - y.pos.hi, x.pos.hi - y.pos.lo⟩ : Spn).cut r.shift).arr 24 (0, 0)))
    e1 e2 ?h0_b ?l1_b ?l3_b ?l6_b ?l8_b ?l15_b ?c16_b ?c17_b ?hQ_b)
  case h0_b => exact ⟨HF.out.1.drew, HF.out.2⟩
  case l1_b => exact fun v h => by rw [cell_of_heap h.2.2.2]; rfl
  case l3_b => exact fun v h => by rw [cell_of_heap h.2.1.2]; rfl
  case l6_b => exact fun v h => by rw [cell_of_heap h.2.2.2]; rfl
  case l8_b => exact fun v h => by rw [cell_of_heap h.2.1.2]; rfl
  case l15_b => exact fun v h => ⟨by rw [cell_of_heap (KF.out v h.1).1.h]; rfl, by rw [cell_of_heap (KF.out v h.1).1.h]; rfl⟩
  case c16_b =>
    intro v h
    refine (both68 (⟨x.pos.lo - y.pos.hi, x.pos.hi - y.pos.lo⟩ : Spn) r.shift v).mono ?_
    rintro e v' ⟨rfl, hb⟩
    exact ⟨(), rfl, h.1.trans (hb.mono h.1.size)⟩
  case c17_b =>
    intro u v h
    have g2 := (KF.out v h).2.2.2.2
    exact ⟨⟨_, by rw [cell_of_heap g2]; rfl⟩, frozen_of_heap g2, ⟨_, by rw [cell_of_heap g2]; rfl⟩, frozen_of_heap g2, ((KF.out v h).2.2.2.1.setCell (p := ⟨b6, 0, none⟩) (Nat.le_refl _) _).setCell (p := ⟨b6, 1, none⟩) (Nat.le_refl _) _, heap_setCell_at (k := 1) (heap_setCell_at (k := 0) g2 _) _⟩
  clear e1 e2
  intro u w3 h
  have HG := Lib.hid h
  clear h
  refine HK2.out _ _ ?_
  go_wp2_with fail
  exact bodyPost_ret (res_c2 (by decide) rfl _ rfl (by rw [cell_of_heap HG.out.2]; rfl) (by rw [cell_of_heap HG.out.2]; rfl)) rfl ⟨rfl, HG.out.1⟩
def EndsAt (w : World) (b : Nat) (lo hi : Int) (s : Bool) : Prop := w.heap[b]? = some (.cells #[.int .i64 lo, .int .i64 hi, .bool s] 90 (0, 0))
set_option maxRecDepth 100000 in
set_option maxHeartbeats 4000000 in
theorem add54 {b : Nat} {x y lo hi : Int} {s : Bool} {w : World} (h : EndsAt w b x y s) :
    Calls Tryd.prog 41 #[.pointer (some ⟨b, 0, none⟩), .int .i64 lo, .int .i64 hi] w fun e w' => e = .returned (.tuple #[]) ∧ EndsAt w' b (if s then min x lo else lo) (if s then max y hi else hi) true ∧ Below b w w' := by
  have H := Lib.hid h
  clear h
  cases s
  · have k2 : w.cell? ⟨b, 2, none⟩ = some (.bool false) := by rw [cell_of_heap H.out]; rfl
    have k0 : w.cell? ⟨b, 0, none⟩ = some (.int .i64 x) := by rw [cell_of_heap H.out]; rfl
    have k1 : w.cell? ⟨b, 1, none⟩ = some (.int .i64 y) := by rw [cell_of_heap H.out]; rfl
    have f0 : ∀ k, w.frozen? ⟨b, k, none⟩ = false := fun k => frozen_of_heap H.out
    go_enter Tryd.func41, Tryd.ntmps41
    refine wp_seq_hid ?_
    intro K0 HK0
    go_wp2_with fail
    refine HK0.out _ _ ?_
    have HQ := Lib.hid (show EndsAt (((w.setCell ⟨b, 0, none⟩ (.int .i64 lo)).setCell ⟨b, 1, none⟩ (.int .i64 hi)).setCell ⟨b, 2, none⟩ (.bool true)) b lo hi true from heap_setCell_at (k := 2) (heap_setCell_at (k := 1) (heap_setCell_at (k := 0) H.out _) _) _)
    have HB : Hid (Below b w (((w.setCell ⟨b, 0, none⟩ (.int .i64 lo)).setCell ⟨b, 1, none⟩ (.int .i64 hi)).setCell ⟨b, 2, none⟩ (.bool true))) := (((Below.refl _ _).setCell (p := ⟨b, 0, none⟩) (Nat.le_refl _) _).setCell (p := ⟨b, 1, none⟩) (Nat.le_refl _) _).setCell (p := ⟨b, 2, none⟩) (Nat.le_refl _) _
    clear k0 k1 k2 f0
    revert HQ HB
    generalize ((w.setCell ⟨b, 0, none⟩ (.int .i64 lo)).setCell ⟨b, 1, none⟩ (.int .i64 hi)).setCell ⟨b, 2, none⟩ (.bool true) = w1
    intro HQ HB
    refine wpIn_wide.1 (add2 (b := b) (x := lo) (y := hi) (lo := lo) (hi := hi) (S0 := fun v => EndsAt v b lo hi true ∧ Below b w v) (S1 := fun v => EndsAt v b (min lo lo) hi true ∧ Below b w v) (S2 := fun v => EndsAt v b (min lo lo) (max hi hi) true ∧ Below b w v) ?h0 ?l5 ?l11 ?c16 ?c19 ?hQ)
    case h0 => exact ⟨HQ.out, HB.out.drew⟩
    case l5 => exact fun v h => by rw [cell_of_heap h.1]; rfl
    case l11 => exact fun v h => by rw [cell_of_heap h.1]; rfl
    case c16 => exact fun v h => ⟨⟨_, by rw [cell_of_heap h.1]; rfl⟩, frozen_of_heap h.1, heap_setCell_at (k := 0) h.1 _, h.2.setCell (p := ⟨b, 0, none⟩) (Nat.le_refl _) _⟩
    case c19 => exact fun v h => ⟨⟨_, by rw [cell_of_heap h.1]; rfl⟩, frozen_of_heap h.1, heap_setCell_at (k := 1) h.1 _, h.2.setCell (p := ⟨b, 1, none⟩) (Nat.le_refl _) _⟩
    intro w2 h
    have HF := Lib.hid h
    clear h
    go_end0
    exact ⟨rfl, by have h := HF.out.1; rw [Int.min_self, Int.max_self] at h; exact h, HF.out.2⟩
  · have k2 : w.cell? ⟨b, 2, none⟩ = some (.bool true) := by rw [cell_of_heap H.out]; rfl
    go_enter Tryd.func41, Tryd.ntmps41
    refine wp_seq_hid ?_
    intro K0 HK0
    go_wp2_with fail
    refine HK0.out _ _ ?_
    clear k2
    refine wpIn_wide.1 (add2 (b := b) (x := x) (y := y) (lo := lo) (hi := hi) (S0 := fun v => EndsAt v b x y true ∧ Below b w v) (S1 := fun v => EndsAt v b (min x lo) y true ∧ Below b w v) (S2 := fun v => EndsAt v b (min x lo) (max y hi) true ∧ Below b w v) ?h0_b ?l5_b ?l11_b ?c16_b ?c19_b ?hQ_b)
    case h0_b => exact ⟨H.out, (Below.refl _ _).drew⟩
    case l5_b => exact fun v h => by rw [cell_of_heap h.1]; rfl
    case l11_b => exact fun v h => by rw [cell_of_heap h.1]; rfl
    case c16_b => exact fun v h => ⟨⟨_, by rw [cell_of_heap h.1]; rfl⟩, frozen_of_heap h.1, heap_setCell_at (k := 0) h.1 _, h.2.setCell (p := ⟨b, 0, none⟩) (Nat.le_refl _) _⟩
    case c19_b => exact fun v h => ⟨⟨_, by rw [cell_of_heap h.1]; rfl⟩, frozen_of_heap h.1, heap_setCell_at (k := 1) h.1 _, h.2.setCell (p := ⟨b, 1, none⟩) (Nat.le_refl _) _⟩
    intro w2 h
    have HF := Lib.hid h
    clear h
    go_end0
    exact ⟨rfl, HF.out.1, HF.out.2⟩
end Go.Proofs.YtbnhngfegnhaiaaDoor
namespace Go.Proofs.YtbnhngfegnhaiaaDoor
open Go.RowKit
set_option linter.unusedVariables false
set_option linter.unusedSimpArgs false
structure shi1F (b2 : Nat) (al : Option Addr) (n : Nat) (cl : Nat) (ar : Option Addr) (m : Nat) (cr : Nat) (sl : Int) (sh : Int) (hd : Int) (i : Int) (dz : Int) (S0 : World → Prop) (S1 : Unit → World → Prop) (S2 : Unit → Nat → World → Prop) (d : Nat → Bool) (x13 x14 x15 x16 x17 x18 x19 x20 x12 x21 x22 x6 x7 : Value) (u0 : Unit) (bb : Nat) (w : World) : Prop where
  q3 : d 3 = true → d 2 = true
  q4 : d 4 = true → d 3 = true
  q5 : d 5 = true → d 4 = true
  q6 : d 6 = true → d 1 = true ∧ d 5 = true
  q7 : d 7 = true → d 0 = true ∧ d 6 = true
  q8 : d 8 = true → d 7 = true
  q9 : d 9 = true → d 8 = true
  q10 : d 10 = true → d 8 = true
  q11 : d 11 = true → d 0 = true ∧ d 1 = true ∧ d 2 = true ∧ d 3 = true ∧ d 4 = true ∧ d 5 = true ∧ d 6 = true ∧ d 7 = true ∧ d 8 = true ∧ d 9 = true
  q12 : d 12 = true → d 0 = true ∧ d 1 = true ∧ d 2 = true ∧ d 3 = true ∧ d 4 = true ∧ d 5 = true ∧ d 6 = true ∧ d 7 = true ∧ d 8 = true ∧ d 9 = true ∧ d 10 = true ∧ d 11 = true
  f0 : d 0 = true → x13 = .agg #[.slice al n cl, .slice ar m cr, .int .i64 sl, .int .i64 sh, .int .i64 hd]
  f1 : d 1 = true → x14 = .int .i64 i
  f2 : d 2 = true → x15 = .pointer (some ⟨b2, 0, none⟩)
  f3 : d 3 = true → x16 = .slice al n cl
  f4 : d 4 = true → x17 = .int .i64 n
  f5 : d 5 = true → x18 = .int .i64 dz
  f6 : d 6 = true → x19 = .bool true
  f7 : d 7 = true → x20 = .tuple #[.pointer (some ⟨bb, 0, none⟩), .int .i64 0]
  f8 : d 8 = true → x12 = .tuple #[.pointer (some ⟨bb, 0, none⟩), .int .i64 0]
  f9 : d 9 = true → x21 = .pointer (some ⟨bb, 0, none⟩)
  f10 : d 10 = true → x22 = .int .i64 0
  f11 : d 11 = true → x6 = .pointer (some ⟨bb, 0, none⟩)
  f12 : d 12 = true → x7 = .int .i64 0
  st0 : d 6 = false → S0 w
  st1 : d 6 = true → d 7 = false → S1 u0 w
  st2 : d 7 = true → S2 u0 bb w
noncomputable def shi1C : Code := (Tryd.f11.body.bind (regionAt 1)).getD .skip
set_option maxRecDepth 100000 in
set_option maxHeartbeats 4000000 in
theorem shi1 {b2 : Nat} {al : Option Addr} {n : Nat} {cl : Nat} {ar : Option Addr} {m : Nat} {cr : Nat} {sl : Int} {sh : Int} {hd : Int} {i : Int} {dz : Int} {S0 : World → Prop} {S1 : Unit → World → Prop} {S2 : Unit → Nat → World → Prop} {Q : Exit → Act → World → Prop} {W1 : World} (hd1 : IntKind.i64.wrap ((n : Int) - 1) = dz) (h0 : S0 W1.drew)
    (kl0 : Hid (∀ (u0 : Unit) (w : World), (S0 w ∨ S1 u0 w) → w.cell? ⟨b2, 0, none⟩ = some (.slice al n cl) ∧ w.cell? ⟨b2, 1, none⟩ = some (.slice ar m cr) ∧ w.cell? ⟨b2, 2, none⟩ = some (.int .i64 sl) ∧ w.cell? ⟨b2, 3, none⟩ = some (.int .i64 sh) ∧ w.cell? ⟨b2, 4, none⟩ = some (.int .i64 hd)))
    (kl3 : Hid (∀ (w : World), (S0 w) → w.cell? ⟨b2, 0, none⟩ = some (.slice al n cl)))
    (kc6 : Hid (∀ (w : World), S0 w → Calls Tryd.prog 38 #[.int .i64 i, .int .i64 0, .int .i64 dz] w fun e w' => ∃ u0 : Unit, e = .returned (.bool true) ∧ S1 u0 w'))
    (kc7 : Hid (∀ (u0 : Unit) (w : World), S1 u0 w → Calls Tryd.prog 28 #[.agg #[.slice al n cl, .slice ar m cr, .int .i64 sl, .int .i64 sh, .int .i64 hd], .bool true] w fun e w' => ∃ bb : Nat, e = .returned (.tuple #[.pointer (some ⟨bb, 0, none⟩), .int .i64 0]) ∧ S2 u0 bb w'))
    {s0 s3 s4 s5 s6 s7 s8 s9 s10 s11 s12 s13 s14 s15 s16 s17 s18 s19 s20 s21 s22 s23 s24 s25 s26 s27 s28 s29 s30 s31 s32 s33 s34 s35 s36 s37 s38 s39 s40 s41 s42 s43 s44 s45 s46 s47 s48 s49 s50 s51 s52 s53 s54 s55 s56 s57 : Value} {dd : List Deferred}
    (hQ : ∀ (u0 : Unit) (bb : Nat) (w' : World), S2 u0 bb w' → Q .normal { tmps := #[s0, .int .i64 i, .pointer (some ⟨b2, 0, none⟩), s3, s4, s5, .pointer (some ⟨bb, 0, none⟩), .int .i64 0, s8, s9, s10, s11, .tuple #[.pointer (some ⟨bb, 0, none⟩), .int .i64 0], .agg #[.slice al n cl, .slice ar m cr, .int .i64 sl, .int .i64 sh, .int .i64 hd], .int .i64 i, .pointer (some ⟨b2, 0, none⟩), .slice al n cl, .int .i64 n, .int .i64 dz, .bool true, .tuple #[.pointer (some ⟨bb, 0, none⟩), .int .i64 0], .pointer (some ⟨bb, 0, none⟩), .int .i64 0, s23, s24, s25, s26, s27, s28, s29, s30, s31, s32, s33, s34, s35, s36, s37, s38, s39, s40, s41, s42, s43, s44, s45, s46, s47, s48, s49, s50, s51, s52, s53, s54, s55, s56, s57], defers := dd } w') :
    Code.wpIn (wideAt none) 0 Tryd.prog shi1C Q { tmps := #[s0, .int .i64 i, .pointer (some ⟨b2, 0, none⟩), s3, s4, s5, s6, s7, s8, s9, s10, s11, s12, s13, s14, s15, s16, s17, s18, s19, s20, s21, s22, s23, s24, s25, s26, s27, s28, s29, s30, s31, s32, s33, s34, s35, s36, s37, s38, s39, s40, s41, s42, s43, s44, s45, s46, s47, s48, s49, s50, s51, s52, s53, s54, s55, s56, s57], defers := dd } W1 := by
  have HQ := Lib.hid hQ
  clear hQ
  conv => arg 4; whnf
  refine wpIn_region_invG mixed (by kernel_rfl) (fun d_ a_ w' => ∃ (x13 : Value) (x14 : Value) (x15 : Value) (x16 : Value) (x17 : Value) (x18 : Value) (x19 : Value) (x20 : Value) (x12 : Value) (x21 : Value) (x22 : Value) (x6 : Value) (x7 : Value) (u0 : Unit) (bb : Nat), a_ = { tmps := #[s0, .int .i64 i, .pointer (some ⟨b2, 0, none⟩), s3, s4, s5, x6, x7, s8, s9, s10, s11, x12, x13, x14, x15, x16, x17, x18, x19, x20, x21, x22, s23, s24, s25, s26, s27, s28, s29, s30, s31, s32, s33, s34, s35, s36, s37, s38, s39, s40, s41, s42, s43, s44, s45, s46, s47, s48, s49, s50, s51, s52, s53, s54, s55, s56, s57], defers := dd } ∧ shi1F b2 al n cl ar m cr sl sh hd i dz S0 S1 S2 d_ x13 x14 x15 x16 x17 x18 x19 x20 x12 x21 x22 x6 x7 u0 bb w') ?_ ?_ ?_
  · refine ⟨s13, s14, s15, s16, s17, s18, s19, s20, s12, s21, s22, s6, s7, default, 0, rfl, ?_⟩
    constructor <;> first | rfl | (intro _; rfl) | (intro h; cases h; done) | (intro _; exact h0) | exact h0
  · refine ⟨?_, ?_, ?_, ?_, ?_, ?_, ?_, ?_, ?_, ?_, ?_, ?_, ?_, trivial⟩
    all_goals
      rintro d_ a_ w1 K hd_ hdep ⟨x13, x14, x15, x16, x17, x18, x19, x20, x12, x21, x22, x6, x7, u0, bb, rfl, F⟩ HK
      simp [Region.binds] at hdep
    · have hst : S0 w1 ∨ S1 u0 w1 := by
        cases e1 : d_ 6 with
        | false => exact .inl ((F.st0 e1))
        | true =>
          have n_ : d_ 7 = false := by
            cases e_ : d_ 7 with
            | false => rfl
            | true => have h2 := (F.q7 e_).1; rw [show d_ 0 = false from hd_] at h2; cases h2
          exact .inr ((F.st1 e1 n_))
      have kk := kl0.out u0 w1 hst
      obtain ⟨kk0, kk1, kk2, kk3, kk4⟩ := kk
      clear hst
      have HF : Hid (shi1F b2 al n cl ar m cr sl sh hd i dz S0 S1 S2 (upd d_ 0) (.agg #[.slice al n cl, .slice ar m cr, .int .i64 sl, .int .i64 sh, .int .i64 hd]) x14 x15 x16 x17 x18 x19 x20 x12 x21 x22 x6 x7 u0 bb w1) := ⟨F.q3, F.q4, F.q5, F.q6, fun h => andM0 (F.q7 h) rfl, F.q8, F.q9, F.q10, fun h => andM0 (F.q11 h) rfl, fun h => andM0 (F.q12 h) rfl, fun _ => rfl, F.f1, F.f2, F.f3, F.f4, F.f5, F.f6, F.f7, F.f8, F.f9, F.f10, F.f11, F.f12, F.st0, F.st1, F.st2⟩
      clear F
      go_simp
      exact HK.out _ _ ⟨_, _, _, _, _, _, _, _, _, _, _, _, _, _, _, rfl, HF.out⟩
    · have HF : Hid (shi1F b2 al n cl ar m cr sl sh hd i dz S0 S1 S2 (upd d_ 1) x13 (.int .i64 i) x15 x16 x17 x18 x19 x20 x12 x21 x22 x6 x7 u0 bb w1) := ⟨F.q3, F.q4, F.q5, fun h => andM0 (F.q6 h) rfl, F.q7, F.q8, F.q9, F.q10, fun h => andM1 (F.q11 h) rfl, fun h => andM1 (F.q12 h) rfl, F.f0, fun _ => rfl, F.f2, F.f3, F.f4, F.f5, F.f6, F.f7, F.f8, F.f9, F.f10, F.f11, F.f12, F.st0, F.st1, F.st2⟩
      clear F
      go_simp
      exact HK.out _ _ ⟨_, _, _, _, _, _, _, _, _, _, _, _, _, _, _, rfl, HF.out⟩
    · have HF : Hid (shi1F b2 al n cl ar m cr sl sh hd i dz S0 S1 S2 (upd d_ 2) x13 x14 (.pointer (some ⟨b2, 0, none⟩)) x16 x17 x18 x19 x20 x12 x21 x22 x6 x7 u0 bb w1) := ⟨fun h => rfl, F.q4, F.q5, F.q6, F.q7, F.q8, F.q9, F.q10, fun h => andM2 (F.q11 h) rfl, fun h => andM2 (F.q12 h) rfl, F.f0, F.f1, fun _ => rfl, F.f3, F.f4, F.f5, F.f6, F.f7, F.f8, F.f9, F.f10, F.f11, F.f12, F.st0, F.st1, F.st2⟩
      clear F
      go_simp
      exact HK.out _ _ ⟨_, _, _, _, _, _, _, _, _, _, _, _, _, _, _, rfl, HF.out⟩
    · have hst : S0 w1 := by
        have n_ : d_ 6 = false := by
          cases e_ : d_ 6 with
          | false => rfl
          | true => have h2 := (F.q4 (F.q5 (F.q6 e_).2)); rw [show d_ 3 = false from hd_] at h2; cases h2
        exact (F.st0 n_)
      have kk := kl3.out w1 hst
      clear hst
      obtain rfl := F.f2 (by simp [hdep])
      have HF : Hid (shi1F b2 al n cl ar m cr sl sh hd i dz S0 S1 S2 (upd d_ 3) x13 x14 (.pointer (some ⟨b2, 0, none⟩)) (.slice al n cl) x17 x18 x19 x20 x12 x21 x22 x6 x7 u0 bb w1) := ⟨fun _ => (show _ from (by simp [hdep] : d_ 2 = true)), fun h => rfl, F.q5, F.q6, F.q7, F.q8, F.q9, F.q10, fun h => andM3 (F.q11 h) rfl, fun h => andM3 (F.q12 h) rfl, F.f0, F.f1, F.f2, fun _ => rfl, F.f4, F.f5, F.f6, F.f7, F.f8, F.f9, F.f10, F.f11, F.f12, F.st0, F.st1, F.st2⟩
      clear F
      go_simp
      exact HK.out _ _ ⟨_, _, _, _, _, _, _, _, _, _, _, _, _, _, _, rfl, HF.out⟩
    · obtain rfl := F.f3 (by simp [hdep])
      have HF : Hid (shi1F b2 al n cl ar m cr sl sh hd i dz S0 S1 S2 (upd d_ 4) x13 x14 x15 (.slice al n cl) (.int .i64 n) x18 x19 x20 x12 x21 x22 x6 x7 u0 bb w1) := ⟨F.q3, fun _ => (show _ from (by simp [hdep] : d_ 3 = true)), fun h => rfl, F.q6, F.q7, F.q8, F.q9, F.q10, fun h => andM4 (F.q11 h) rfl, fun h => andM4 (F.q12 h) rfl, F.f0, F.f1, F.f2, F.f3, fun _ => rfl, F.f5, F.f6, F.f7, F.f8, F.f9, F.f10, F.f11, F.f12, F.st0, F.st1, F.st2⟩
      clear F
      go_simp
      exact HK.out _ _ ⟨_, _, _, _, _, _, _, _, _, _, _, _, _, _, _, rfl, HF.out⟩
    · obtain rfl := F.f4 (by simp [hdep])
      have HF : Hid (shi1F b2 al n cl ar m cr sl sh hd i dz S0 S1 S2 (upd d_ 5) x13 x14 x15 x16 (.int .i64 n) (.int .i64 dz) x19 x20 x12 x21 x22 x6 x7 u0 bb w1) := ⟨F.q3, F.q4, fun _ => (show _ from (by simp [hdep] : d_ 4 = true)), fun h => andL1 (F.q6 h) rfl, F.q7, F.q8, F.q9, F.q10, fun h => andM5 (F.q11 h) rfl, fun h => andM5 (F.q12 h) rfl, F.f0, F.f1, F.f2, F.f3, F.f4, fun _ => rfl, F.f6, F.f7, F.f8, F.f9, F.f10, F.f11, F.f12, F.st0, F.st1, F.st2⟩
      clear F
      go_simp
      exact HK.out _ _ ⟨_, _, _, _, _, _, _, _, _, _, _, _, _, _, _, rfl, HF.out⟩
    · have hS := F.st0  hd_
      obtain rfl := F.f1 (by simp [hdep])
      obtain rfl := F.f5 (by simp [hdep])
      have hc := kc6.out w1 hS
      have HF := Lib.hid F
      clear F
      go_simp
      refine ⟨trivial, rfl, wideAt_calls (hc.mono ?_)⟩
      rintro e w5 ⟨v_, rfl, hres⟩
      exact HK.out _ _ ⟨_, _, _, _, _, _, _, _, _, _, _, _, _, v_, bb, rfl, ⟨HF.out.q3, HF.out.q4, HF.out.q5, fun _ => ⟨(show _ from (by simp [hdep] : d_ 1 = true)), (show _ from (by simp [hdep] : d_ 5 = true))⟩, fun h => ⟨(HF.out.q7 h).1, rfl⟩, HF.out.q8, HF.out.q9, HF.out.q10, fun h => ⟨(HF.out.q11 h).1, (HF.out.q11 h).2.1, (HF.out.q11 h).2.2.1, (HF.out.q11 h).2.2.2.1, (HF.out.q11 h).2.2.2.2.1, (HF.out.q11 h).2.2.2.2.2.1, rfl, (HF.out.q11 h).2.2.2.2.2.2.2.1, (HF.out.q11 h).2.2.2.2.2.2.2.2.1, (HF.out.q11 h).2.2.2.2.2.2.2.2.2⟩, fun h => ⟨(HF.out.q12 h).1, (HF.out.q12 h).2.1, (HF.out.q12 h).2.2.1, (HF.out.q12 h).2.2.2.1, (HF.out.q12 h).2.2.2.2.1, (HF.out.q12 h).2.2.2.2.2.1, rfl, (HF.out.q12 h).2.2.2.2.2.2.2.1, (HF.out.q12 h).2.2.2.2.2.2.2.2.1, (HF.out.q12 h).2.2.2.2.2.2.2.2.2.1, (HF.out.q12 h).2.2.2.2.2.2.2.2.2.2.1, (HF.out.q12 h).2.2.2.2.2.2.2.2.2.2.2⟩, HF.out.f0, HF.out.f1, HF.out.f2, HF.out.f3, HF.out.f4, HF.out.f5, fun _ => rfl, HF.out.f7, HF.out.f8, HF.out.f9, HF.out.f10, HF.out.f11, HF.out.f12, fun h => (by simp [upd] at h), fun _ _ => hres, fun h => (by have h2 : d_ 6 = true := (HF.out.q7 h).2; rw [show d_ 6 = false from hd_] at h2; cases h2)⟩⟩
    · have hS := F.st1 (by simp [hdep] : d_ 6 = true) hd_
      obtain rfl := F.f0 (by simp [hdep])
      obtain rfl := F.f6 (by simp [hdep])
      have hc := kc7.out u0 w1 hS
      have HF := Lib.hid F
      clear F
      go_simp
      refine ⟨trivial, rfl, wideAt_calls (hc.mono ?_)⟩
      rintro e w5 ⟨v_, rfl, hres⟩
      exact HK.out _ _ ⟨_, _, _, _, _, _, _, _, _, _, _, _, _, u0, v_, rfl, ⟨HF.out.q3, HF.out.q4, HF.out.q5, HF.out.q6, fun _ => ⟨(show _ from (by simp [hdep] : d_ 0 = true)), (show _ from (by simp [hdep] : d_ 6 = true))⟩, fun h => rfl, HF.out.q9, HF.out.q10, fun h => ⟨(HF.out.q11 h).1, (HF.out.q11 h).2.1, (HF.out.q11 h).2.2.1, (HF.out.q11 h).2.2.2.1, (HF.out.q11 h).2.2.2.2.1, (HF.out.q11 h).2.2.2.2.2.1, (HF.out.q11 h).2.2.2.2.2.2.1, rfl, (HF.out.q11 h).2.2.2.2.2.2.2.2.1, (HF.out.q11 h).2.2.2.2.2.2.2.2.2⟩, fun h => ⟨(HF.out.q12 h).1, (HF.out.q12 h).2.1, (HF.out.q12 h).2.2.1, (HF.out.q12 h).2.2.2.1, (HF.out.q12 h).2.2.2.2.1, (HF.out.q12 h).2.2.2.2.2.1, (HF.out.q12 h).2.2.2.2.2.2.1, rfl, (HF.out.q12 h).2.2.2.2.2.2.2.2.1, (HF.out.q12 h).2.2.2.2.2.2.2.2.2.1, (HF.out.q12 h).2.2.2.2.2.2.2.2.2.2.1, (HF.out.q12 h).2.2.2.2.2.2.2.2.2.2.2⟩, HF.out.f0, HF.out.f1, HF.out.f2, HF.out.f3, HF.out.f4, HF.out.f5, HF.out.f6, fun _ => rfl, fun h => (by have h2 : d_ 7 = true := (HF.out.q8 h); rw [show d_ 7 = false from hd_] at h2; cases h2), fun h => (by have h2 : d_ 7 = true := (HF.out.q8 (HF.out.q9 h)); rw [show d_ 7 = false from hd_] at h2; cases h2), HF.out.f10, fun h => (by have h2 : d_ 7 = true := (HF.out.q11 h).2.2.2.2.2.2.2.1; rw [show d_ 7 = false from hd_] at h2; cases h2), HF.out.f12, fun h => (by have h2 : d_ 6 = false := h; rw [(by simp [hdep] : d_ 6 = true)] at h2; cases h2), fun _ h => (by simp [upd] at h), fun _ => hres⟩⟩
    · obtain rfl := F.f7 (by simp [hdep])
      have HF : Hid (shi1F b2 al n cl ar m cr sl sh hd i dz S0 S1 S2 (upd d_ 8) x13 x14 x15 x16 x17 x18 x19 (.tuple #[.pointer (some ⟨bb, 0, none⟩), .int .i64 0]) (.tuple #[.pointer (some ⟨bb, 0, none⟩), .int .i64 0]) x21 x22 x6 x7 u0 bb w1) := ⟨F.q3, F.q4, F.q5, F.q6, F.q7, fun _ => (show _ from (by simp [hdep] : d_ 7 = true)), fun h => rfl, fun h => rfl, fun h => andM8 (F.q11 h) rfl, fun h => andM8 (F.q12 h) rfl, F.f0, F.f1, F.f2, F.f3, F.f4, F.f5, F.f6, F.f7, fun _ => rfl, F.f9, F.f10, F.f11, F.f12, F.st0, F.st1, F.st2⟩
      clear F
      go_simp
      exact HK.out _ _ ⟨_, _, _, _, _, _, _, _, _, _, _, _, _, _, _, rfl, HF.out⟩
    · obtain rfl := F.f8 (by simp [hdep])
      have HF : Hid (shi1F b2 al n cl ar m cr sl sh hd i dz S0 S1 S2 (upd d_ 9) x13 x14 x15 x16 x17 x18 x19 x20 (.tuple #[.pointer (some ⟨bb, 0, none⟩), .int .i64 0]) (.pointer (some ⟨bb, 0, none⟩)) x22 x6 x7 u0 bb w1) := ⟨F.q3, F.q4, F.q5, F.q6, F.q7, F.q8, fun _ => (show _ from (by simp [hdep] : d_ 8 = true)), F.q10, fun h => andL9 (F.q11 h) rfl, fun h => andM9 (F.q12 h) rfl, F.f0, F.f1, F.f2, F.f3, F.f4, F.f5, F.f6, F.f7, F.f8, fun _ => rfl, F.f10, F.f11, F.f12, F.st0, F.st1, F.st2⟩
      clear F
      go_simp
      exact HK.out _ _ ⟨_, _, _, _, _, _, _, _, _, _, _, _, _, _, _, rfl, HF.out⟩
    · obtain rfl := F.f8 (by simp [hdep])
      have HF : Hid (shi1F b2 al n cl ar m cr sl sh hd i dz S0 S1 S2 (upd d_ 10) x13 x14 x15 x16 x17 x18 x19 x20 (.tuple #[.pointer (some ⟨bb, 0, none⟩), .int .i64 0]) x21 (.int .i64 0) x6 x7 u0 bb w1) := ⟨F.q3, F.q4, F.q5, F.q6, F.q7, F.q8, F.q9, fun _ => (show _ from (by simp [hdep] : d_ 8 = true)), F.q11, fun h => andM10 (F.q12 h) rfl, F.f0, F.f1, F.f2, F.f3, F.f4, F.f5, F.f6, F.f7, F.f8, F.f9, fun _ => rfl, F.f11, F.f12, F.st0, F.st1, F.st2⟩
      clear F
      go_simp
      exact HK.out _ _ ⟨_, _, _, _, _, _, _, _, _, _, _, _, _, _, _, rfl, HF.out⟩
    · obtain rfl := F.f9 (by simp [hdep])
      have HF : Hid (shi1F b2 al n cl ar m cr sl sh hd i dz S0 S1 S2 (upd d_ 11) x13 x14 x15 x16 x17 x18 x19 x20 x12 (.pointer (some ⟨bb, 0, none⟩)) x22 (.pointer (some ⟨bb, 0, none⟩)) x7 u0 bb w1) := ⟨F.q3, F.q4, F.q5, F.q6, F.q7, F.q8, F.q9, F.q10, fun _ => ⟨(show _ from (by simp [hdep] : d_ 0 = true)), (show _ from (by simp [hdep] : d_ 1 = true)), (show _ from (by simp [hdep] : d_ 2 = true)), (show _ from (by simp [hdep] : d_ 3 = true)), (show _ from (by simp [hdep] : d_ 4 = true)), (show _ from (by simp [hdep] : d_ 5 = true)), (show _ from (by simp [hdep] : d_ 6 = true)), (show _ from (by simp [hdep] : d_ 7 = true)), (show _ from (by simp [hdep] : d_ 8 = true)), (show _ from (by simp [hdep] : d_ 9 = true))⟩, fun h => andL11 (F.q12 h) rfl, F.f0, F.f1, F.f2, F.f3, F.f4, F.f5, F.f6, F.f7, F.f8, F.f9, F.f10, fun _ => rfl, F.f12, F.st0, F.st1, F.st2⟩
      clear F
      go_simp
      exact HK.out _ _ ⟨_, _, _, _, _, _, _, _, _, _, _, _, _, _, _, rfl, HF.out⟩
    · obtain rfl := F.f10 (by simp [hdep])
      have HF : Hid (shi1F b2 al n cl ar m cr sl sh hd i dz S0 S1 S2 (upd d_ 12) x13 x14 x15 x16 x17 x18 x19 x20 x12 x21 (.int .i64 0) x6 (.int .i64 0) u0 bb w1) := ⟨F.q3, F.q4, F.q5, F.q6, F.q7, F.q8, F.q9, F.q10, F.q11, fun _ => ⟨(show _ from (by simp [hdep] : d_ 0 = true)), (show _ from (by simp [hdep] : d_ 1 = true)), (show _ from (by simp [hdep] : d_ 2 = true)), (show _ from (by simp [hdep] : d_ 3 = true)), (show _ from (by simp [hdep] : d_ 4 = true)), (show _ from (by simp [hdep] : d_ 5 = true)), (show _ from (by simp [hdep] : d_ 6 = true)), (show _ from (by simp [hdep] : d_ 7 = true)), (show _ from (by simp [hdep] : d_ 8 = true)), (show _ from (by simp [hdep] : d_ 9 = true)), (show _ from (by simp [hdep] : d_ 10 = true)), (show _ from (by simp [hdep] : d_ 11 = true))⟩, F.f0, F.f1, F.f2, F.f3, F.f4, F.f5, F.f6, F.f7, F.f8, F.f9, F.f10, F.f11, fun _ => rfl, F.st0, F.st1, F.st2⟩
      clear F
      go_simp
      exact HK.out _ _ ⟨_, _, _, _, _, _, _, _, _, _, _, _, _, _, _, rfl, HF.out⟩
  · rintro d_ a_ w1 hall ⟨x13, x14, x15, x16, x17, x18, x19, x20, x12, x21, x22, x6, x7, u0, bb, rfl, F⟩
    have hall' : ∀ k, k < 13 → d_ k = true := hall
    obtain rfl := F.f0 (hall' 0 (by decide))
    obtain rfl := F.f1 (hall' 1 (by decide))
    obtain rfl := F.f2 (hall' 2 (by decide))
    obtain rfl := F.f3 (hall' 3 (by decide))
    obtain rfl := F.f4 (hall' 4 (by decide))
    obtain rfl := F.f5 (hall' 5 (by decide))
    obtain rfl := F.f6 (hall' 6 (by decide))
    obtain rfl := F.f7 (hall' 7 (by decide))
    obtain rfl := F.f8 (hall' 8 (by decide))
    obtain rfl := F.f9 (hall' 9 (by decide))
    obtain rfl := F.f10 (hall' 10 (by decide))
    obtain rfl := F.f11 (hall' 11 (by decide))
    obtain rfl := F.f12 (hall' 12 (by decide))
    have hst := F.st2 (hall' 7 (by decide))
    exact HQ.out u0 bb w1 hst
structure shi1nF (b2 : Nat) (al : Option Addr) (n : Nat) (cl : Nat) (ar : Option Addr) (m : Nat) (cr : Nat) (sl : Int) (sh : Int) (hd : Int) (i : Int) (dz : Int) (S0 : World → Prop) (S1 : Unit → World → Prop) (S2 : Unit → Unit → World → Prop) (d : Nat → Bool) (x13 x14 x15 x16 x17 x18 x19 x20 x12 x21 x22 x6 x7 : Value) (u0 : Unit) (u1 : Unit) (w : World) : Prop where
  q3 : d 3 = true → d 2 = true
  q4 : d 4 = true → d 3 = true
  q5 : d 5 = true → d 4 = true
  q6 : d 6 = true → d 1 = true ∧ d 5 = true
  q7 : d 7 = true → d 0 = true ∧ d 6 = true
  q8 : d 8 = true → d 7 = true
  q9 : d 9 = true → d 8 = true
  q10 : d 10 = true → d 8 = true
  q11 : d 11 = true → d 0 = true ∧ d 1 = true ∧ d 2 = true ∧ d 3 = true ∧ d 4 = true ∧ d 5 = true ∧ d 6 = true ∧ d 7 = true ∧ d 8 = true ∧ d 9 = true
  q12 : d 12 = true → d 0 = true ∧ d 1 = true ∧ d 2 = true ∧ d 3 = true ∧ d 4 = true ∧ d 5 = true ∧ d 6 = true ∧ d 7 = true ∧ d 8 = true ∧ d 9 = true ∧ d 10 = true ∧ d 11 = true
  f0 : d 0 = true → x13 = .agg #[.slice al n cl, .slice ar m cr, .int .i64 sl, .int .i64 sh, .int .i64 hd]
  f1 : d 1 = true → x14 = .int .i64 i
  f2 : d 2 = true → x15 = .pointer (some ⟨b2, 0, none⟩)
  f3 : d 3 = true → x16 = .slice al n cl
  f4 : d 4 = true → x17 = .int .i64 n
  f5 : d 5 = true → x18 = .int .i64 dz
  f6 : d 6 = true → x19 = .bool true
  f7 : d 7 = true → x20 = .tuple #[.pointer none, .int .i64 4]
  f8 : d 8 = true → x12 = .tuple #[.pointer none, .int .i64 4]
  f9 : d 9 = true → x21 = .pointer none
  f10 : d 10 = true → x22 = .int .i64 4
  f11 : d 11 = true → x6 = .pointer none
  f12 : d 12 = true → x7 = .int .i64 4
  st0 : d 6 = false → S0 w
  st1 : d 6 = true → d 7 = false → S1 u0 w
  st2 : d 7 = true → S2 u0 u1 w
noncomputable def shi1nC : Code := (Tryd.f11.body.bind (regionAt 1)).getD .skip
set_option maxRecDepth 100000 in
set_option maxHeartbeats 4000000 in
theorem shi1n {b2 : Nat} {al : Option Addr} {n : Nat} {cl : Nat} {ar : Option Addr} {m : Nat} {cr : Nat} {sl : Int} {sh : Int} {hd : Int} {i : Int} {dz : Int} {S0 : World → Prop} {S1 : Unit → World → Prop} {S2 : Unit → Unit → World → Prop} {Q : Exit → Act → World → Prop} {W1 : World} (hd1 : IntKind.i64.wrap ((n : Int) - 1) = dz) (h0 : S0 W1.drew)
    (kl0 : Hid (∀ (u0 : Unit) (w : World), (S0 w ∨ S1 u0 w) → w.cell? ⟨b2, 0, none⟩ = some (.slice al n cl) ∧ w.cell? ⟨b2, 1, none⟩ = some (.slice ar m cr) ∧ w.cell? ⟨b2, 2, none⟩ = some (.int .i64 sl) ∧ w.cell? ⟨b2, 3, none⟩ = some (.int .i64 sh) ∧ w.cell? ⟨b2, 4, none⟩ = some (.int .i64 hd)))
    (kl3 : Hid (∀ (w : World), (S0 w) → w.cell? ⟨b2, 0, none⟩ = some (.slice al n cl)))
    (kc6 : Hid (∀ (w : World), S0 w → Calls Tryd.prog 38 #[.int .i64 i, .int .i64 0, .int .i64 dz] w fun e w' => ∃ u0 : Unit, e = .returned (.bool true) ∧ S1 u0 w'))
    (kc7 : Hid (∀ (u0 : Unit) (w : World), S1 u0 w → Calls Tryd.prog 28 #[.agg #[.slice al n cl, .slice ar m cr, .int .i64 sl, .int .i64 sh, .int .i64 hd], .bool true] w fun e w' => ∃ u1 : Unit, e = .returned (.tuple #[.pointer none, .int .i64 4]) ∧ S2 u0 u1 w'))
    {s0 s3 s4 s5 s6 s7 s8 s9 s10 s11 s12 s13 s14 s15 s16 s17 s18 s19 s20 s21 s22 s23 s24 s25 s26 s27 s28 s29 s30 s31 s32 s33 s34 s35 s36 s37 s38 s39 s40 s41 s42 s43 s44 s45 s46 s47 s48 s49 s50 s51 s52 s53 s54 s55 s56 s57 : Value} {dd : List Deferred}
    (hQ : ∀ (u0 : Unit) (u1 : Unit) (w' : World), S2 u0 u1 w' → Q .normal { tmps := #[s0, .int .i64 i, .pointer (some ⟨b2, 0, none⟩), s3, s4, s5, .pointer none, .int .i64 4, s8, s9, s10, s11, .tuple #[.pointer none, .int .i64 4], .agg #[.slice al n cl, .slice ar m cr, .int .i64 sl, .int .i64 sh, .int .i64 hd], .int .i64 i, .pointer (some ⟨b2, 0, none⟩), .slice al n cl, .int .i64 n, .int .i64 dz, .bool true, .tuple #[.pointer none, .int .i64 4], .pointer none, .int .i64 4, s23, s24, s25, s26, s27, s28, s29, s30, s31, s32, s33, s34, s35, s36, s37, s38, s39, s40, s41, s42, s43, s44, s45, s46, s47, s48, s49, s50, s51, s52, s53, s54, s55, s56, s57], defers := dd } w') :
    Code.wpIn (wideAt none) 0 Tryd.prog shi1nC Q { tmps := #[s0, .int .i64 i, .pointer (some ⟨b2, 0, none⟩), s3, s4, s5, s6, s7, s8, s9, s10, s11, s12, s13, s14, s15, s16, s17, s18, s19, s20, s21, s22, s23, s24, s25, s26, s27, s28, s29, s30, s31, s32, s33, s34, s35, s36, s37, s38, s39, s40, s41, s42, s43, s44, s45, s46, s47, s48, s49, s50, s51, s52, s53, s54, s55, s56, s57], defers := dd } W1 := by
  have HQ := Lib.hid hQ
  clear hQ
  conv => arg 4; whnf
  refine wpIn_region_invG mixed (by kernel_rfl) (fun d_ a_ w' => ∃ (x13 : Value) (x14 : Value) (x15 : Value) (x16 : Value) (x17 : Value) (x18 : Value) (x19 : Value) (x20 : Value) (x12 : Value) (x21 : Value) (x22 : Value) (x6 : Value) (x7 : Value) (u0 : Unit) (u1 : Unit), a_ = { tmps := #[s0, .int .i64 i, .pointer (some ⟨b2, 0, none⟩), s3, s4, s5, x6, x7, s8, s9, s10, s11, x12, x13, x14, x15, x16, x17, x18, x19, x20, x21, x22, s23, s24, s25, s26, s27, s28, s29, s30, s31, s32, s33, s34, s35, s36, s37, s38, s39, s40, s41, s42, s43, s44, s45, s46, s47, s48, s49, s50, s51, s52, s53, s54, s55, s56, s57], defers := dd } ∧ shi1nF b2 al n cl ar m cr sl sh hd i dz S0 S1 S2 d_ x13 x14 x15 x16 x17 x18 x19 x20 x12 x21 x22 x6 x7 u0 u1 w') ?_ ?_ ?_
  · refine ⟨s13, s14, s15, s16, s17, s18, s19, s20, s12, s21, s22, s6, s7, default, default, rfl, ?_⟩
    constructor <;> first | rfl | (intro _; rfl) | (intro h; cases h; done) | (intro _; exact h0) | exact h0
  · refine ⟨?_, ?_, ?_, ?_, ?_, ?_, ?_, ?_, ?_, ?_, ?_, ?_, ?_, trivial⟩
    all_goals
      rintro d_ a_ w1 K hd_ hdep ⟨x13, x14, x15, x16, x17, x18, x19, x20, x12, x21, x22, x6, x7, u0, u1, rfl, F⟩ HK
      simp [Region.binds] at hdep
    · have hst : S0 w1 ∨ S1 u0 w1 := by
        cases e1 : d_ 6 with
        | false => exact .inl ((F.st0 e1))
        | true =>
          have n_ : d_ 7 = false := by
            cases e_ : d_ 7 with
            | false => rfl
            | true => have h2 := (F.q7 e_).1; rw [show d_ 0 = false from hd_] at h2; cases h2
          exact .inr ((F.st1 e1 n_))
      have kk := kl0.out u0 w1 hst
      obtain ⟨kk0, kk1, kk2, kk3, kk4⟩ := kk
      clear hst
      have HF : Hid (shi1nF b2 al n cl ar m cr sl sh hd i dz S0 S1 S2 (upd d_ 0) (.agg #[.slice al n cl, .slice ar m cr, .int .i64 sl, .int .i64 sh, .int .i64 hd]) x14 x15 x16 x17 x18 x19 x20 x12 x21 x22 x6 x7 u0 u1 w1) := ⟨F.q3, F.q4, F.q5, F.q6, fun h => andM0 (F.q7 h) rfl, F.q8, F.q9, F.q10, fun h => andM0 (F.q11 h) rfl, fun h => andM0 (F.q12 h) rfl, fun _ => rfl, F.f1, F.f2, F.f3, F.f4, F.f5, F.f6, F.f7, F.f8, F.f9, F.f10, F.f11, F.f12, F.st0, F.st1, F.st2⟩
      clear F
      go_simp
      exact HK.out _ _ ⟨_, _, _, _, _, _, _, _, _, _, _, _, _, _, _, rfl, HF.out⟩
    · have HF : Hid (shi1nF b2 al n cl ar m cr sl sh hd i dz S0 S1 S2 (upd d_ 1) x13 (.int .i64 i) x15 x16 x17 x18 x19 x20 x12 x21 x22 x6 x7 u0 u1 w1) := ⟨F.q3, F.q4, F.q5, fun h => andM0 (F.q6 h) rfl, F.q7, F.q8, F.q9, F.q10, fun h => andM1 (F.q11 h) rfl, fun h => andM1 (F.q12 h) rfl, F.f0, fun _ => rfl, F.f2, F.f3, F.f4, F.f5, F.f6, F.f7, F.f8, F.f9, F.f10, F.f11, F.f12, F.st0, F.st1, F.st2⟩
      clear F
      go_simp
      exact HK.out _ _ ⟨_, _, _, _, _, _, _, _, _, _, _, _, _, _, _, rfl, HF.out⟩
    · have HF : Hid (shi1nF b2 al n cl ar m cr sl sh hd i dz S0 S1 S2 (upd d_ 2) x13 x14 (.pointer (some ⟨b2, 0, none⟩)) x16 x17 x18 x19 x20 x12 x21 x22 x6 x7 u0 u1 w1) := ⟨fun h => rfl, F.q4, F.q5, F.q6, F.q7, F.q8, F.q9, F.q10, fun h => andM2 (F.q11 h) rfl, fun h => andM2 (F.q12 h) rfl, F.f0, F.f1, fun _ => rfl, F.f3, F.f4, F.f5, F.f6, F.f7, F.f8, F.f9, F.f10, F.f11, F.f12, F.st0, F.st1, F.st2⟩
      clear F
      go_simp
      exact HK.out _ _ ⟨_, _, _, _, _, _, _, _, _, _, _, _, _, _, _, rfl, HF.out⟩
    · have hst : S0 w1 := by
        have n_ : d_ 6 = false := by
          cases e_ : d_ 6 with
          | false => rfl
          | true => have h2 := (F.q4 (F.q5 (F.q6 e_).2)); rw [show d_ 3 = false from hd_] at h2; cases h2
        exact (F.st0 n_)
      have kk := kl3.out w1 hst
      clear hst
      obtain rfl := F.f2 (by simp [hdep])
      have HF : Hid (shi1nF b2 al n cl ar m cr sl sh hd i dz S0 S1 S2 (upd d_ 3) x13 x14 (.pointer (some ⟨b2, 0, none⟩)) (.slice al n cl) x17 x18 x19 x20 x12 x21 x22 x6 x7 u0 u1 w1) := ⟨fun _ => (show _ from (by simp [hdep] : d_ 2 = true)), fun h => rfl, F.q5, F.q6, F.q7, F.q8, F.q9, F.q10, fun h => andM3 (F.q11 h) rfl, fun h => andM3 (F.q12 h) rfl, F.f0, F.f1, F.f2, fun _ => rfl, F.f4, F.f5, F.f6, F.f7, F.f8, F.f9, F.f10, F.f11, F.f12, F.st0, F.st1, F.st2⟩
      clear F
      go_simp
      exact HK.out _ _ ⟨_, _, _, _, _, _, _, _, _, _, _, _, _, _, _, rfl, HF.out⟩
    · obtain rfl := F.f3 (by simp [hdep])
      have HF : Hid (shi1nF b2 al n cl ar m cr sl sh hd i dz S0 S1 S2 (upd d_ 4) x13 x14 x15 (.slice al n cl) (.int .i64 n) x18 x19 x20 x12 x21 x22 x6 x7 u0 u1 w1) := ⟨F.q3, fun _ => (show _ from (by simp [hdep] : d_ 3 = true)), fun h => rfl, F.q6, F.q7, F.q8, F.q9, F.q10, fun h => andM4 (F.q11 h) rfl, fun h => andM4 (F.q12 h) rfl, F.f0, F.f1, F.f2, F.f3, fun _ => rfl, F.f5, F.f6, F.f7, F.f8, F.f9, F.f10, F.f11, F.f12, F.st0, F.st1, F.st2⟩
      clear F
      go_simp
      exact HK.out _ _ ⟨_, _, _, _, _, _, _, _, _, _, _, _, _, _, _, rfl, HF.out⟩
    · obtain rfl := F.f4 (by simp [hdep])
      have HF : Hid (shi1nF b2 al n cl ar m cr sl sh hd i dz S0 S1 S2 (upd d_ 5) x13 x14 x15 x16 (.int .i64 n) (.int .i64 dz) x19 x20 x12 x21 x22 x6 x7 u0 u1 w1) := ⟨F.q3, F.q4, fun _ => (show _ from (by simp [hdep] : d_ 4 = true)), fun h => andL1 (F.q6 h) rfl, F.q7, F.q8, F.q9, F.q10, fun h => andM5 (F.q11 h) rfl, fun h => andM5 (F.q12 h) rfl, F.f0, F.f1, F.f2, F.f3, F.f4, fun _ => rfl, F.f6, F.f7, F.f8, F.f9, F.f10, F.f11, F.f12, F.st0, F.st1, F.st2⟩
      clear F
      go_simp
      exact HK.out _ _ ⟨_, _, _, _, _, _, _, _, _, _, _, _, _, _, _, rfl, HF.out⟩
    · have hS := F.st0  hd_
      obtain rfl := F.f1 (by simp [hdep])
      obtain rfl := F.f5 (by simp [hdep])
      have hc := kc6.out w1 hS
      have HF := Lib.hid F
      clear F
      go_simp
      refine ⟨trivial, rfl, wideAt_calls (hc.mono ?_)⟩
      rintro e w5 ⟨v_, rfl, hres⟩
      exact HK.out _ _ ⟨_, _, _, _, _, _, _, _, _, _, _, _, _, v_, u1, rfl, ⟨HF.out.q3, HF.out.q4, HF.out.q5, fun _ => ⟨(show _ from (by simp [hdep] : d_ 1 = true)), (show _ from (by simp [hdep] : d_ 5 = true))⟩, fun h => ⟨(HF.out.q7 h).1, rfl⟩, HF.out.q8, HF.out.q9, HF.out.q10, fun h => ⟨(HF.out.q11 h).1, (HF.out.q11 h).2.1, (HF.out.q11 h).2.2.1, (HF.out.q11 h).2.2.2.1, (HF.out.q11 h).2.2.2.2.1, (HF.out.q11 h).2.2.2.2.2.1, rfl, (HF.out.q11 h).2.2.2.2.2.2.2.1, (HF.out.q11 h).2.2.2.2.2.2.2.2.1, (HF.out.q11 h).2.2.2.2.2.2.2.2.2⟩, fun h => ⟨(HF.out.q12 h).1, (HF.out.q12 h).2.1, (HF.out.q12 h).2.2.1, (HF.out.q12 h).2.2.2.1, (HF.out.q12 h).2.2.2.2.1, (HF.out.q12 h).2.2.2.2.2.1, rfl, (HF.out.q12 h).2.2.2.2.2.2.2.1, (HF.out.q12 h).2.2.2.2.2.2.2.2.1, (HF.out.q12 h).2.2.2.2.2.2.2.2.2.1, (HF.out.q12 h).2.2.2.2.2.2.2.2.2.2.1, (HF.out.q12 h).2.2.2.2.2.2.2.2.2.2.2⟩, HF.out.f0, HF.out.f1, HF.out.f2, HF.out.f3, HF.out.f4, HF.out.f5, fun _ => rfl, HF.out.f7, HF.out.f8, HF.out.f9, HF.out.f10, HF.out.f11, HF.out.f12, fun h => (by simp [upd] at h), fun _ _ => hres, fun h => (by have h2 : d_ 6 = true := (HF.out.q7 h).2; rw [show d_ 6 = false from hd_] at h2; cases h2)⟩⟩
    · have hS := F.st1 (by simp [hdep] : d_ 6 = true) hd_
      obtain rfl := F.f0 (by simp [hdep])
      obtain rfl := F.f6 (by simp [hdep])
      have hc := kc7.out u0 w1 hS
      have HF := Lib.hid F
      clear F
      go_simp
      refine ⟨trivial, rfl, wideAt_calls (hc.mono ?_)⟩
      rintro e w5 ⟨v_, rfl, hres⟩
      exact HK.out _ _ ⟨_, _, _, _, _, _, _, _, _, _, _, _, _, u0, v_, rfl, ⟨HF.out.q3, HF.out.q4, HF.out.q5, HF.out.q6, fun _ => ⟨(show _ from (by simp [hdep] : d_ 0 = true)), (show _ from (by simp [hdep] : d_ 6 = true))⟩, fun h => rfl, HF.out.q9, HF.out.q10, fun h => ⟨(HF.out.q11 h).1, (HF.out.q11 h).2.1, (HF.out.q11 h).2.2.1, (HF.out.q11 h).2.2.2.1, (HF.out.q11 h).2.2.2.2.1, (HF.out.q11 h).2.2.2.2.2.1, (HF.out.q11 h).2.2.2.2.2.2.1, rfl, (HF.out.q11 h).2.2.2.2.2.2.2.2.1, (HF.out.q11 h).2.2.2.2.2.2.2.2.2⟩, fun h => ⟨(HF.out.q12 h).1, (HF.out.q12 h).2.1, (HF.out.q12 h).2.2.1, (HF.out.q12 h).2.2.2.1, (HF.out.q12 h).2.2.2.2.1, (HF.out.q12 h).2.2.2.2.2.1, (HF.out.q12 h).2.2.2.2.2.2.1, rfl, (HF.out.q12 h).2.2.2.2.2.2.2.2.1, (HF.out.q12 h).2.2.2.2.2.2.2.2.2.1, (HF.out.q12 h).2.2.2.2.2.2.2.2.2.2.1, (HF.out.q12 h).2.2.2.2.2.2.2.2.2.2.2⟩, HF.out.f0, HF.out.f1, HF.out.f2, HF.out.f3, HF.out.f4, HF.out.f5, HF.out.f6, fun _ => rfl, HF.out.f8, HF.out.f9, HF.out.f10, HF.out.f11, HF.out.f12, fun h => (by have h2 : d_ 6 = false := h; rw [(by simp [hdep] : d_ 6 = true)] at h2; cases h2), fun _ h => (by simp [upd] at h), fun _ => hres⟩⟩
    · obtain rfl := F.f7 (by simp [hdep])
      have HF : Hid (shi1nF b2 al n cl ar m cr sl sh hd i dz S0 S1 S2 (upd d_ 8) x13 x14 x15 x16 x17 x18 x19 (.tuple #[.pointer none, .int .i64 4]) (.tuple #[.pointer none, .int .i64 4]) x21 x22 x6 x7 u0 u1 w1) := ⟨F.q3, F.q4, F.q5, F.q6, F.q7, fun _ => (show _ from (by simp [hdep] : d_ 7 = true)), fun h => rfl, fun h => rfl, fun h => andM8 (F.q11 h) rfl, fun h => andM8 (F.q12 h) rfl, F.f0, F.f1, F.f2, F.f3, F.f4, F.f5, F.f6, F.f7, fun _ => rfl, F.f9, F.f10, F.f11, F.f12, F.st0, F.st1, F.st2⟩
      clear F
      go_simp
      exact HK.out _ _ ⟨_, _, _, _, _, _, _, _, _, _, _, _, _, _, _, rfl, HF.out⟩
    · obtain rfl := F.f8 (by simp [hdep])
      have HF : Hid (shi1nF b2 al n cl ar m cr sl sh hd i dz S0 S1 S2 (upd d_ 9) x13 x14 x15 x16 x17 x18 x19 x20 (.tuple #[.pointer none, .int .i64 4]) (.pointer none) x22 x6 x7 u0 u1 w1) := ⟨F.q3, F.q4, F.q5, F.q6, F.q7, F.q8, fun _ => (show _ from (by simp [hdep] : d_ 8 = true)), F.q10, fun h => andL9 (F.q11 h) rfl, fun h => andM9 (F.q12 h) rfl, F.f0, F.f1, F.f2, F.f3, F.f4, F.f5, F.f6, F.f7, F.f8, fun _ => rfl, F.f10, F.f11, F.f12, F.st0, F.st1, F.st2⟩
      clear F
      go_simp
      exact HK.out _ _ ⟨_, _, _, _, _, _, _, _, _, _, _, _, _, _, _, rfl, HF.out⟩
    · obtain rfl := F.f8 (by simp [hdep])
      have HF : Hid (shi1nF b2 al n cl ar m cr sl sh hd i dz S0 S1 S2 (upd d_ 10) x13 x14 x15 x16 x17 x18 x19 x20 (.tuple #[.pointer none, .int .i64 4]) x21 (.int .i64 4) x6 x7 u0 u1 w1) := ⟨F.q3, F.q4, F.q5, F.q6, F.q7, F.q8, F.q9, fun _ => (show _ from (by simp [hdep] : d_ 8 = true)), F.q11, fun h => andM10 (F.q12 h) rfl, F.f0, F.f1, F.f2, F.f3, F.f4, F.f5, F.f6, F.f7, F.f8, F.f9, fun _ => rfl, F.f11, F.f12, F.st0, F.st1, F.st2⟩
      clear F
      go_simp
      exact HK.out _ _ ⟨_, _, _, _, _, _, _, _, _, _, _, _, _, _, _, rfl, HF.out⟩
    · obtain rfl := F.f9 (by simp [hdep])
      have HF : Hid (shi1nF b2 al n cl ar m cr sl sh hd i dz S0 S1 S2 (upd d_ 11) x13 x14 x15 x16 x17 x18 x19 x20 x12 (.pointer none) x22 (.pointer none) x7 u0 u1 w1) := ⟨F.q3, F.q4, F.q5, F.q6, F.q7, F.q8, F.q9, F.q10, fun _ => ⟨(show _ from (by simp [hdep] : d_ 0 = true)), (show _ from (by simp [hdep] : d_ 1 = true)), (show _ from (by simp [hdep] : d_ 2 = true)), (show _ from (by simp [hdep] : d_ 3 = true)), (show _ from (by simp [hdep] : d_ 4 = true)), (show _ from (by simp [hdep] : d_ 5 = true)), (show _ from (by simp [hdep] : d_ 6 = true)), (show _ from (by simp [hdep] : d_ 7 = true)), (show _ from (by simp [hdep] : d_ 8 = true)), (show _ from (by simp [hdep] : d_ 9 = true))⟩, fun h => andL11 (F.q12 h) rfl, F.f0, F.f1, F.f2, F.f3, F.f4, F.f5, F.f6, F.f7, F.f8, F.f9, F.f10, fun _ => rfl, F.f12, F.st0, F.st1, F.st2⟩
      clear F
      go_simp
      exact HK.out _ _ ⟨_, _, _, _, _, _, _, _, _, _, _, _, _, _, _, rfl, HF.out⟩
    · obtain rfl := F.f10 (by simp [hdep])
      have HF : Hid (shi1nF b2 al n cl ar m cr sl sh hd i dz S0 S1 S2 (upd d_ 12) x13 x14 x15 x16 x17 x18 x19 x20 x12 x21 (.int .i64 4) x6 (.int .i64 4) u0 u1 w1) := ⟨F.q3, F.q4, F.q5, F.q6, F.q7, F.q8, F.q9, F.q10, F.q11, fun _ => ⟨(show _ from (by simp [hdep] : d_ 0 = true)), (show _ from (by simp [hdep] : d_ 1 = true)), (show _ from (by simp [hdep] : d_ 2 = true)), (show _ from (by simp [hdep] : d_ 3 = true)), (show _ from (by simp [hdep] : d_ 4 = true)), (show _ from (by simp [hdep] : d_ 5 = true)), (show _ from (by simp [hdep] : d_ 6 = true)), (show _ from (by simp [hdep] : d_ 7 = true)), (show _ from (by simp [hdep] : d_ 8 = true)), (show _ from (by simp [hdep] : d_ 9 = true)), (show _ from (by simp [hdep] : d_ 10 = true)), (show _ from (by simp [hdep] : d_ 11 = true))⟩, F.f0, F.f1, F.f2, F.f3, F.f4, F.f5, F.f6, F.f7, F.f8, F.f9, F.f10, F.f11, fun _ => rfl, F.st0, F.st1, F.st2⟩
      clear F
      go_simp
      exact HK.out _ _ ⟨_, _, _, _, _, _, _, _, _, _, _, _, _, _, _, rfl, HF.out⟩
  · rintro d_ a_ w1 hall ⟨x13, x14, x15, x16, x17, x18, x19, x20, x12, x21, x22, x6, x7, u0, u1, rfl, F⟩
    have hall' : ∀ k, k < 13 → d_ k = true := hall
    obtain rfl := F.f0 (hall' 0 (by decide))
    obtain rfl := F.f1 (hall' 1 (by decide))
    obtain rfl := F.f2 (hall' 2 (by decide))
    obtain rfl := F.f3 (hall' 3 (by decide))
    obtain rfl := F.f4 (hall' 4 (by decide))
    obtain rfl := F.f5 (hall' 5 (by decide))
    obtain rfl := F.f6 (hall' 6 (by decide))
    obtain rfl := F.f7 (hall' 7 (by decide))
    obtain rfl := F.f8 (hall' 8 (by decide))
    obtain rfl := F.f9 (hall' 9 (by decide))
    obtain rfl := F.f10 (hall' 10 (by decide))
    obtain rfl := F.f11 (hall' 11 (by decide))
    obtain rfl := F.f12 (hall' 12 (by decide))
    have hst := F.st2 (hall' 7 (by decide))
    exact HQ.out u0 u1 w1 hst
end Go.Proofs.YtbnhngfegnhaiaaDoor
