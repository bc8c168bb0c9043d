/- The examples come out as they should. The examples come out as they should: the walks. What the document calls a pair, and a glacier. What the document calls a glacier. Things put together; a thing told as a landmark. A thing told as a landmark: the walk. -/
import Derived.Test.YtbnhngfegnhaiaaC10
namespace Go.Proofs.Ytbnhngfegnhaiaa
open Go.RowKit
set_option linter.unusedVariables false
set_option linter.unusedSimpArgs false
structure ali4F (b3 : Nat) (b5 : Nat) (S0 : World → Prop) (S1 : Unit → World → Prop) (S2 : Unit → Unit → World → Prop) (d : Nat → Bool) (x22 x23 x24 x25 x26 x27 x28 x29 x30 x31 x32 x33 x34 x35 x36 x37 x38 x39 x40 x41 x42 x43 x44 x45 x0 : Value) (u : Unit) (u2 : Unit) (w : World) : Prop where
  q1 : d 1 = true → d 0 = true
  q2 : d 2 = true → d 1 = true
  q3 : d 3 = true → d 2 = true
  q4 : d 4 = true → d 2 = true ∧ d 3 = true
  q5 : d 5 = true → d 2 = true ∧ d 4 = true
  q6 : d 6 = true → d 2 = true ∧ d 5 = true
  q7 : d 7 = true → d 6 = true
  q8 : d 8 = true → d 6 = true
  q9 : d 9 = true → d 6 = true ∧ d 7 = true ∧ d 8 = true
  q10 : d 10 = true → d 6 = true ∧ d 9 = true
  q11 : d 11 = true → d 8 = true ∧ d 10 = true
  q12 : d 12 = true → d 11 = true
  q13 : d 13 = true → d 11 = true ∧ d 12 = true
  q14 : d 14 = true → d 11 = true ∧ d 13 = true
  q15 : d 15 = true → d 11 = true ∧ d 14 = true
  q16 : d 16 = true → d 15 = true
  q17 : d 17 = true → d 15 = true
  q18 : d 18 = true → d 15 = true ∧ d 16 = true ∧ d 17 = true
  q19 : d 19 = true → d 15 = true ∧ d 18 = true
  q20 : d 20 = true → d 17 = true ∧ d 19 = true
  q21 : d 21 = true → d 20 = true
  q22 : d 22 = true → d 20 = true ∧ d 21 = true
  q23 : d 23 = true → d 20 = true ∧ d 22 = true
  q24 : d 24 = true → d 0 = true ∧ d 1 = true ∧ d 2 = true ∧ d 3 = true ∧ d 4 = true ∧ d 5 = true ∧ d 6 = true ∧ d 7 = true ∧ d 8 = true ∧ d 9 = true ∧ d 10 = true ∧ d 11 = true ∧ d 12 = true ∧ d 13 = true ∧ d 14 = true ∧ d 15 = true ∧ d 16 = true ∧ d 17 = true ∧ d 18 = true ∧ d 19 = true ∧ d 20 = true ∧ d 21 = true ∧ d 22 = true ∧ d 23 = true
  f0 : d 0 = true → x22 = .int .i64 2
  f1 : d 1 = true → x23 = .bool true
  f2 : d 2 = true → x24 = .bool true
  f3 : d 3 = true → x25 = .int .i64 0
  f4 : d 4 = true → x26 = .bool true
  f5 : d 5 = true → x27 = .bool true
  f6 : d 6 = true → x28 = .bool true
  f7 : d 7 = true → x29 = .agg #[.int .i64 8, .int .i64 12]
  f8 : d 8 = true → x30 = .agg #[.int .i64 8, .int .i64 12]
  f9 : d 9 = true → x31 = .bool true
  f10 : d 10 = true → x32 = .bool true
  f11 : d 11 = true → x33 = .bool true
  f12 : d 12 = true → x34 = .int .i64 0
  f13 : d 13 = true → x35 = .bool true
  f14 : d 14 = true → x36 = .bool true
  f15 : d 15 = true → x37 = .bool true
  f16 : d 16 = true → x38 = .agg #[.int .i64 585000, .int .i64 594000]
  f17 : d 17 = true → x39 = .agg #[.int .i64 585000, .int .i64 594000]
  f18 : d 18 = true → x40 = .bool true
  f19 : d 19 = true → x41 = .bool true
  f20 : d 20 = true → x42 = .bool true
  f21 : d 21 = true → x43 = .int .i64 0
  f22 : d 22 = true → x44 = .bool true
  f23 : d 23 = true → x45 = .bool true
  f24 : d 24 = true → x0 = .bool true
  st0 : d 8 = false → S0 w
  st1 : d 8 = true → d 17 = false → S1 u w
  st2 : d 17 = true → S2 u u2 w
noncomputable def ali4C : Code := (Try.f14.body.bind (regionAt 4)).getD .skip
set_option maxRecDepth 100000 in
set_option maxHeartbeats 4000000 in
theorem ali4 {b3 : Nat} {b5 : Nat} {S0 : World → Prop} {S1 : Unit → World → Prop} {S2 : Unit → Unit → World → Prop} {Q : Exit → Act → World → Prop} {W1 : World} (h0 : S0 W1.drew)
    (kl7 : Hid (∀ (u : Unit) (w : World), (S0 w ∨ S1 u w) → w.cell? ⟨b3, 0, none⟩ = some (.int .i64 8) ∧ w.cell? ⟨b3, 1, none⟩ = some (.int .i64 12)))
    (kc8 : Hid (∀ (w : World), S0 w → Calls Try.prog 13 #[.int .i64 8, .int .i64 12] w fun e w' => ∃ u : Unit, e = .returned (.agg #[.int .i64 8, .int .i64 12]) ∧ S1 u w'))
    (kl16 : Hid (∀ (u : Unit) (u2 : Unit) (w : World), (S1 u w ∨ S2 u u2 w) → w.cell? ⟨b5, 0, none⟩ = some (.int .i64 585000) ∧ w.cell? ⟨b5, 1, none⟩ = some (.int .i64 594000)))
    (kc17 : Hid (∀ (u : Unit) (w : World), S1 u w → Calls Try.prog 13 #[.int .i64 585000, .int .i64 594000] w fun e w' => ∃ u2 : Unit, e = .returned (.agg #[.int .i64 585000, .int .i64 594000]) ∧ S2 u u2 w'))
    {s0 s7 s8 s9 s10 s11 s12 s13 s14 s15 s16 s17 s18 s19 s20 s21 s22 s23 s24 s25 s26 s27 s28 s29 s30 s31 s32 s33 s34 s35 s36 s37 s38 s39 s40 s41 s42 s43 s44 s45 : Value} {dd : List Deferred}
    (hQ : ∀ (u : Unit) (u2 : Unit) (w' : World), S2 u u2 w' → Q .normal { tmps := #[.bool true, .int .i64 2, .int .i64 0, .pointer (some ⟨b3, 0, none⟩), .int .i64 0, .pointer (some ⟨b5, 0, none⟩), .int .i64 0, s7, s8, s9, s10, s11, s12, s13, s14, s15, s16, s17, s18, s19, s20, s21, .int .i64 2, .bool true, .bool true, .int .i64 0, .bool true, .bool true, .bool true, .agg #[.int .i64 8, .int .i64 12], .agg #[.int .i64 8, .int .i64 12], .bool true, .bool true, .bool true, .int .i64 0, .bool true, .bool true, .bool true, .agg #[.int .i64 585000, .int .i64 594000], .agg #[.int .i64 585000, .int .i64 594000], .bool true, .bool true, .bool true, .int .i64 0, .bool true, .bool true], defers := dd } w') :
    Code.wpIn (wideAt none) 0 Try.prog ali4C Q { tmps := #[s0, .int .i64 2, .int .i64 0, .pointer (some ⟨b3, 0, none⟩), .int .i64 0, .pointer (some ⟨b5, 0, none⟩), .int .i64 0, s7, s8, s9, s10, s11, s12, s13, s14, s15, s16, s17, s18, s19, s20, s21, s22, s23, s24, s25, s26, s27, s28, s29, s30, s31, s32, s33, s34, s35, s36, s37, s38, s39, s40, s41, s42, s43, s44, s45], defers := dd } W1 := by
  have HQ := Lib.hid hQ
  clear hQ
  conv => arg 4; whnf
  refine wpIn_region_invG mixed (by kernel_rfl) (fun d_ a_ w' => ∃ (x22 : Value) (x23 : Value) (x24 : Value) (x25 : Value) (x26 : Value) (x27 : Value) (x28 : Value) (x29 : Value) (x30 : Value) (x31 : Value) (x32 : Value) (x33 : Value) (x34 : Value) (x35 : Value) (x36 : Value) (x37 : Value) (x38 : Value) (x39 : Value) (x40 : Value) (x41 : Value) (x42 : Value) (x43 : Value) (x44 : Value) (x45 : Value) (x0 : Value) (u : Unit) (u2 : Unit), a_ = { tmps := #[x0, .int .i64 2, .int .i64 0, .pointer (some ⟨b3, 0, none⟩), .int .i64 0, .pointer (some ⟨b5, 0, none⟩), .int .i64 0, s7, s8, s9, s10, s11, s12, s13, s14, s15, s16, s17, s18, s19, s20, s21, x22, x23, x24, x25, x26, x27, x28, x29, x30, x31, x32, x33, x34, x35, x36, x37, x38, x39, x40, x41, x42, x43, x44, x45], defers := dd } ∧ ali4F b3 b5 S0 S1 S2 d_ x22 x23 x24 x25 x26 x27 x28 x29 x30 x31 x32 x33 x34 x35 x36 x37 x38 x39 x40 x41 x42 x43 x44 x45 x0 u u2 w') ?_ ?_ ?_
  · refine ⟨s22, s23, s24, s25, s26, s27, s28, s29, s30, s31, s32, s33, s34, s35, s36, s37, s38, s39, s40, s41, s42, s43, s44, s45, s0, default, default, rfl, ?_⟩
    constructor <;> first | rfl | (intro _; rfl) | (intro h; cases h; done) | (intro _; exact h0) | exact h0
  · refine ⟨?_, ?_, ?_, ?_, ?_, ?_, ?_, ?_, ?_, ?_, ?_, ?_, ?_, ?_, ?_, ?_, ?_, ?_, ?_, ?_, ?_, ?_, ?_, ?_, ?_, trivial⟩
    all_goals
      rintro d_ a_ w1 K hd_ hdep ⟨x22, x23, x24, x25, x26, x27, x28, x29, x30, x31, x32, x33, x34, x35, x36, x37, x38, x39, x40, x41, x42, x43, x44, x45, x0, u, u2, rfl, F⟩ HK
      simp [Region.binds] at hdep
    · have HF : Hid (ali4F b3 b5 S0 S1 S2 (upd d_ 0) (.int .i64 2) x23 x24 x25 x26 x27 x28 x29 x30 x31 x32 x33 x34 x35 x36 x37 x38 x39 x40 x41 x42 x43 x44 x45 x0 u u2 w1) := ⟨fun h => rfl, F.q2, F.q3, F.q4, F.q5, F.q6, F.q7, F.q8, F.q9, F.q10, F.q11, F.q12, F.q13, F.q14, F.q15, F.q16, F.q17, F.q18, F.q19, F.q20, F.q21, F.q22, F.q23, fun h => andM0 (F.q24 h) rfl, fun _ => rfl, F.f1, F.f2, F.f3, F.f4, F.f5, F.f6, F.f7, F.f8, F.f9, F.f10, F.f11, F.f12, F.f13, F.f14, F.f15, F.f16, F.f17, F.f18, F.f19, F.f20, F.f21, F.f22, F.f23, F.f24, F.st0, F.st1, F.st2⟩
      clear F
      go_simp
      exact HK.out _ _ ⟨_, _, _, _, _, _, _, _, _, _, _, _, _, _, _, _, _, _, _, _, _, _, _, _, _, _, _, rfl, HF.out⟩
    · obtain rfl := F.f0 (by simp [hdep])
      have HF : Hid (ali4F b3 b5 S0 S1 S2 (upd d_ 1) (.int .i64 2) (.bool true) x24 x25 x26 x27 x28 x29 x30 x31 x32 x33 x34 x35 x36 x37 x38 x39 x40 x41 x42 x43 x44 x45 x0 u u2 w1) := ⟨fun _ => (show _ from (by simp [hdep] : d_ 0 = true)), fun h => rfl, F.q3, F.q4, F.q5, F.q6, F.q7, F.q8, F.q9, F.q10, F.q11, F.q12, F.q13, F.q14, F.q15, F.q16, F.q17, F.q18, F.q19, F.q20, F.q21, F.q22, F.q23, fun h => andM1 (F.q24 h) rfl, F.f0, fun _ => rfl, F.f2, F.f3, F.f4, F.f5, F.f6, F.f7, F.f8, F.f9, F.f10, F.f11, F.f12, F.f13, F.f14, F.f15, F.f16, F.f17, F.f18, F.f19, F.f20, F.f21, F.f22, F.f23, F.f24, F.st0, F.st1, F.st2⟩
      clear F
      go_simp
      exact HK.out _ _ ⟨_, _, _, _, _, _, _, _, _, _, _, _, _, _, _, _, _, _, _, _, _, _, _, _, _, _, _, rfl, HF.out⟩
    · obtain rfl := F.f1 (by simp [hdep])
      have HF : Hid (ali4F b3 b5 S0 S1 S2 (upd d_ 2) x22 (.bool true) (.bool true) x25 x26 x27 x28 x29 x30 x31 x32 x33 x34 x35 x36 x37 x38 x39 x40 x41 x42 x43 x44 x45 x0 u u2 w1) := ⟨F.q1, fun _ => (show _ from (by simp [hdep] : d_ 1 = true)), fun h => rfl, fun h => andM0 (F.q4 h) rfl, fun h => andM0 (F.q5 h) rfl, fun h => andM0 (F.q6 h) rfl, F.q7, F.q8, F.q9, F.q10, F.q11, F.q12, F.q13, F.q14, F.q15, F.q16, F.q17, F.q18, F.q19, F.q20, F.q21, F.q22, F.q23, fun h => andM2 (F.q24 h) rfl, F.f0, F.f1, fun _ => rfl, F.f3, F.f4, F.f5, F.f6, F.f7, F.f8, F.f9, F.f10, F.f11, F.f12, F.f13, F.f14, F.f15, F.f16, F.f17, F.f18, F.f19, F.f20, F.f21, F.f22, F.f23, F.f24, F.st0, F.st1, F.st2⟩
      clear F
      go_simp
      exact HK.out _ _ ⟨_, _, _, _, _, _, _, _, _, _, _, _, _, _, _, _, _, _, _, _, _, _, _, _, _, _, _, rfl, HF.out⟩
    · obtain rfl := F.f2 (by simp [hdep])
      have HF : Hid (ali4F b3 b5 S0 S1 S2 (upd d_ 3) x22 x23 (.bool true) (.int .i64 0) x26 x27 x28 x29 x30 x31 x32 x33 x34 x35 x36 x37 x38 x39 x40 x41 x42 x43 x44 x45 x0 u u2 w1) := ⟨F.q1, F.q2, fun _ => (show _ from (by simp [hdep] : d_ 2 = true)), fun h => andL1 (F.q4 h) rfl, F.q5, F.q6, F.q7, F.q8, F.q9, F.q10, F.q11, F.q12, F.q13, F.q14, F.q15, F.q16, F.q17, F.q18, F.q19, F.q20, F.q21, F.q22, F.q23, fun h => andM3 (F.q24 h) rfl, F.f0, F.f1, F.f2, fun _ => rfl, F.f4, F.f5, F.f6, F.f7, F.f8, F.f9, F.f10, F.f11, F.f12, F.f13, F.f14, F.f15, F.f16, F.f17, F.f18, F.f19, F.f20, F.f21, F.f22, F.f23, F.f24, F.st0, F.st1, F.st2⟩
      clear F
      go_simp
      exact HK.out _ _ ⟨_, _, _, _, _, _, _, _, _, _, _, _, _, _, _, _, _, _, _, _, _, _, _, _, _, _, _, rfl, HF.out⟩
    · obtain rfl := F.f2 (by simp [hdep])
      obtain rfl := F.f3 (by simp [hdep])
      have HF : Hid (ali4F b3 b5 S0 S1 S2 (upd d_ 4) x22 x23 (.bool true) (.int .i64 0) (.bool true) x27 x28 x29 x30 x31 x32 x33 x34 x35 x36 x37 x38 x39 x40 x41 x42 x43 x44 x45 x0 u u2 w1) := ⟨F.q1, F.q2, F.q3, fun _ => ⟨(show _ from (by simp [hdep] : d_ 2 = true)), (show _ from (by simp [hdep] : d_ 3 = true))⟩, fun h => andL1 (F.q5 h) rfl, F.q6, F.q7, F.q8, F.q9, F.q10, F.q11, F.q12, F.q13, F.q14, F.q15, F.q16, F.q17, F.q18, F.q19, F.q20, F.q21, F.q22, F.q23, fun h => andM4 (F.q24 h) rfl, F.f0, F.f1, F.f2, F.f3, fun _ => rfl, F.f5, F.f6, F.f7, F.f8, F.f9, F.f10, F.f11, F.f12, F.f13, F.f14, F.f15, F.f16, F.f17, F.f18, F.f19, F.f20, F.f21, F.f22, F.f23, F.f24, F.st0, F.st1, F.st2⟩
      clear F
      go_simp
      exact HK.out _ _ ⟨_, _, _, _, _, _, _, _, _, _, _, _, _, _, _, _, _, _, _, _, _, _, _, _, _, _, _, rfl, HF.out⟩
    · obtain rfl := F.f2 (by simp [hdep])
      obtain rfl := F.f4 (by simp [hdep])
      have HF : Hid (ali4F b3 b5 S0 S1 S2 (upd d_ 5) x22 x23 (.bool true) x25 (.bool true) (.bool true) x28 x29 x30 x31 x32 x33 x34 x35 x36 x37 x38 x39 x40 x41 x42 x43 x44 x45 x0 u u2 w1) := ⟨F.q1, F.q2, F.q3, F.q4, fun _ => ⟨(show _ from (by simp [hdep] : d_ 2 = true)), (show _ from (by simp [hdep] : d_ 4 = true))⟩, fun h => andL1 (F.q6 h) rfl, F.q7, F.q8, F.q9, F.q10, F.q11, F.q12, F.q13, F.q14, F.q15, F.q16, F.q17, F.q18, F.q19, F.q20, F.q21, F.q22, F.q23, fun h => andM5 (F.q24 h) rfl, F.f0, F.f1, F.f2, F.f3, F.f4, fun _ => rfl, F.f6, F.f7, F.f8, F.f9, F.f10, F.f11, F.f12, F.f13, F.f14, F.f15, F.f16, F.f17, F.f18, F.f19, F.f20, F.f21, F.f22, F.f23, F.f24, F.st0, F.st1, F.st2⟩
      clear F
      go_simp
      exact HK.out _ _ ⟨_, _, _, _, _, _, _, _, _, _, _, _, _, _, _, _, _, _, _, _, _, _, _, _, _, _, _, rfl, HF.out⟩
    · obtain rfl := F.f5 (by simp [hdep])
      have HF : Hid (ali4F b3 b5 S0 S1 S2 (upd d_ 6) x22 x23 x24 x25 x26 (.bool true) (.bool true) x29 x30 x31 x32 x33 x34 x35 x36 x37 x38 x39 x40 x41 x42 x43 x44 x45 x0 u u2 w1) := ⟨F.q1, F.q2, F.q3, F.q4, F.q5, fun _ => ⟨(show _ from (by simp [hdep] : d_ 2 = true)), (show _ from (by simp [hdep] : d_ 5 = true))⟩, fun h => rfl, fun h => rfl, fun h => andM0 (F.q9 h) rfl, fun h => andM0 (F.q10 h) rfl, F.q11, F.q12, F.q13, F.q14, F.q15, F.q16, F.q17, F.q18, F.q19, F.q20, F.q21, F.q22, F.q23, fun h => andM6 (F.q24 h) rfl, F.f0, F.f1, F.f2, F.f3, F.f4, F.f5, fun _ => rfl, F.f7, F.f8, F.f9, F.f10, F.f11, F.f12, F.f13, F.f14, F.f15, F.f16, F.f17, F.f18, F.f19, F.f20, F.f21, F.f22, F.f23, F.f24, F.st0, F.st1, F.st2⟩
      clear F
      go_simp
      exact HK.out _ _ ⟨_, _, _, _, _, _, _, _, _, _, _, _, _, _, _, _, _, _, _, _, _, _, _, _, _, _, _, rfl, HF.out⟩
    · have hst : S0 w1 ∨ S1 u w1 := by
        cases e1 : d_ 8 with
        | false => exact .inl ((F.st0 e1))
        | true =>
          have n_ : d_ 17 = false := by
            cases e_ : d_ 17 with
            | false => rfl
            | true => have h2 := (F.q9 (F.q10 (F.q11 (F.q15 (F.q17 e_)).1).2).2).2.1; rw [show d_ 7 = false from hd_] at h2; cases h2
          exact .inr ((F.st1 e1 n_))
      have kk := kl7.out u w1 hst
      obtain ⟨kk0, kk1⟩ := kk
      clear hst
      obtain rfl := F.f6 (by simp [hdep])
      have HF : Hid (ali4F b3 b5 S0 S1 S2 (upd d_ 7) x22 x23 x24 x25 x26 x27 (.bool true) (.agg #[.int .i64 8, .int .i64 12]) x30 x31 x32 x33 x34 x35 x36 x37 x38 x39 x40 x41 x42 x43 x44 x45 x0 u u2 w1) := ⟨F.q1, F.q2, F.q3, F.q4, F.q5, F.q6, fun _ => (show _ from (by simp [hdep] : d_ 6 = true)), F.q8, fun h => andM1 (F.q9 h) rfl, F.q10, F.q11, F.q12, F.q13, F.q14, F.q15, F.q16, F.q17, F.q18, F.q19, F.q20, F.q21, F.q22, F.q23, fun h => andM7 (F.q24 h) rfl, F.f0, F.f1, F.f2, F.f3, F.f4, F.f5, F.f6, fun _ => rfl, F.f8, F.f9, F.f10, F.f11, F.f12, F.f13, F.f14, F.f15, F.f16, F.f17, F.f18, F.f19, F.f20, F.f21, F.f22, F.f23, F.f24, F.st0, F.st1, F.st2⟩
      clear F
      go_simp
      exact HK.out _ _ ⟨_, _, _, _, _, _, _, _, _, _, _, _, _, _, _, _, _, _, _, _, _, _, _, _, _, _, _, rfl, HF.out⟩
    · have hS := F.st0  hd_
      obtain rfl := F.f6 (by simp [hdep])
      have hc := kc8.out w1 hS
      have HF := Lib.hid F
      clear F
      go_simp
      refine ⟨trivial, rfl, wideAt_calls (hc.mono ?_)⟩
      rintro e w5 ⟨v_, rfl, hres⟩
      exact HK.out _ _ ⟨_, _, _, _, _, _, _, _, _, _, _, _, _, _, _, _, _, _, _, _, _, _, _, _, _, v_, u2, rfl, ⟨HF.out.q1, HF.out.q2, HF.out.q3, HF.out.q4, HF.out.q5, HF.out.q6, HF.out.q7, fun _ => (show _ from (by simp [hdep] : d_ 6 = true)), fun h => ⟨(HF.out.q9 h).1, (HF.out.q9 h).2.1, rfl⟩, HF.out.q10, fun h => ⟨rfl, (HF.out.q11 h).2⟩, HF.out.q12, HF.out.q13, HF.out.q14, HF.out.q15, HF.out.q16, HF.out.q17, HF.out.q18, HF.out.q19, HF.out.q20, HF.out.q21, HF.out.q22, HF.out.q23, fun h => ⟨(HF.out.q24 h).1, (HF.out.q24 h).2.1, (HF.out.q24 h).2.2.1, (HF.out.q24 h).2.2.2.1, (HF.out.q24 h).2.2.2.2.1, (HF.out.q24 h).2.2.2.2.2.1, (HF.out.q24 h).2.2.2.2.2.2.1, (HF.out.q24 h).2.2.2.2.2.2.2.1, rfl, (HF.out.q24 h).2.2.2.2.2.2.2.2.2.1, (HF.out.q24 h).2.2.2.2.2.2.2.2.2.2.1, (HF.out.q24 h).2.2.2.2.2.2.2.2.2.2.2.1, (HF.out.q24 h).2.2.2.2.2.2.2.2.2.2.2.2.1, (HF.out.q24 h).2.2.2.2.2.2.2.2.2.2.2.2.2.1, (HF.out.q24 h).2.2.2.2.2.2.2.2.2.2.2.2.2.2.1, (HF.out.q24 h).2.2.2.2.2.2.2.2.2.2.2.2.2.2.2.1, (HF.out.q24 h).2.2.2.2.2.2.2.2.2.2.2.2.2.2.2.2.1, (HF.out.q24 h).2.2.2.2.2.2.2.2.2.2.2.2.2.2.2.2.2.1, (HF.out.q24 h).2.2.2.2.2.2.2.2.2.2.2.2.2.2.2.2.2.2.1, (HF.out.q24 h).2.2.2.2.2.2.2.2.2.2.2.2.2.2.2.2.2.2.2.1, (HF.out.q24 h).2.2.2.2.2.2.2.2.2.2.2.2.2.2.2.2.2.2.2.2.1, (HF.out.q24 h).2.2.2.2.2.2.2.2.2.2.2.2.2.2.2.2.2.2.2.2.2.1, (HF.out.q24 h).2.2.2.2.2.2.2.2.2.2.2.2.2.2.2.2.2.2.2.2.2.2.1, (HF.out.q24 h).2.2.2.2.2.2.2.2.2.2.2.2.2.2.2.2.2.2.2.2.2.2.2⟩, HF.out.f0, HF.out.f1, HF.out.f2, HF.out.f3, HF.out.f4, HF.out.f5, HF.out.f6, HF.out.f7, fun _ => rfl, HF.out.f9, HF.out.f10, HF.out.f11, HF.out.f12, HF.out.f13, HF.out.f14, HF.out.f15, HF.out.f16, HF.out.f17, HF.out.f18, HF.out.f19, HF.out.f20, HF.out.f21, HF.out.f22, HF.out.f23, HF.out.f24, fun h => (by simp [upd] at h), fun _ _ => hres, fun h => (by have h2 : d_ 8 = true := (HF.out.q11 (HF.out.q15 (HF.out.q17 h)).1).1; rw [show d_ 8 = false from hd_] at h2; cases h2)⟩⟩
    · obtain rfl := F.f6 (by simp [hdep])
      obtain rfl := F.f7 (by simp [hdep])
      obtain rfl := F.f8 (by simp [hdep])
      have HF : Hid (ali4F b3 b5 S0 S1 S2 (upd d_ 9) x22 x23 x24 x25 x26 x27 (.bool true) (.agg #[.int .i64 8, .int .i64 12]) (.agg #[.int .i64 8, .int .i64 12]) (.bool true) x32 x33 x34 x35 x36 x37 x38 x39 x40 x41 x42 x43 x44 x45 x0 u u2 w1) := ⟨F.q1, F.q2, F.q3, F.q4, F.q5, F.q6, F.q7, F.q8, fun _ => ⟨(show _ from (by simp [hdep] : d_ 6 = true)), (show _ from (by simp [hdep] : d_ 7 = true)), (show _ from (by simp [hdep] : d_ 8 = true))⟩, fun h => andL1 (F.q10 h) rfl, F.q11, F.q12, F.q13, F.q14, F.q15, F.q16, F.q17, F.q18, F.q19, F.q20, F.q21, F.q22, F.q23, fun h => andM9 (F.q24 h) rfl, F.f0, F.f1, F.f2, F.f3, F.f4, F.f5, F.f6, F.f7, F.f8, fun _ => rfl, F.f10, F.f11, F.f12, F.f13, F.f14, F.f15, F.f16, F.f17, F.f18, F.f19, F.f20, F.f21, F.f22, F.f23, F.f24, F.st0, F.st1, F.st2⟩
      clear F
      go_simp
      exact HK.out _ _ ⟨_, _, _, _, _, _, _, _, _, _, _, _, _, _, _, _, _, _, _, _, _, _, _, _, _, _, _, rfl, HF.out⟩
    · obtain rfl := F.f6 (by simp [hdep])
      obtain rfl := F.f9 (by simp [hdep])
      have HF : Hid (ali4F b3 b5 S0 S1 S2 (upd d_ 10) x22 x23 x24 x25 x26 x27 (.bool true) x29 x30 (.bool true) (.bool true) x33 x34 x35 x36 x37 x38 x39 x40 x41 x42 x43 x44 x45 x0 u u2 w1) := ⟨F.q1, F.q2, F.q3, F.q4, F.q5, F.q6, F.q7, F.q8, F.q9, fun _ => ⟨(show _ from (by simp [hdep] : d_ 6 = true)), (show _ from (by simp [hdep] : d_ 9 = true))⟩, fun h => andL1 (F.q11 h) rfl, F.q12, F.q13, F.q14, F.q15, F.q16, F.q17, F.q18, F.q19, F.q20, F.q21, F.q22, F.q23, fun h => andM10 (F.q24 h) rfl, F.f0, F.f1, F.f2, F.f3, F.f4, F.f5, F.f6, F.f7, F.f8, F.f9, fun _ => rfl, F.f11, F.f12, F.f13, F.f14, F.f15, F.f16, F.f17, F.f18, F.f19, F.f20, F.f21, F.f22, F.f23, F.f24, F.st0, F.st1, F.st2⟩
      clear F
      go_simp
      exact HK.out _ _ ⟨_, _, _, _, _, _, _, _, _, _, _, _, _, _, _, _, _, _, _, _, _, _, _, _, _, _, _, rfl, HF.out⟩
    · obtain rfl := F.f10 (by simp [hdep])
      have HF : Hid (ali4F b3 b5 S0 S1 S2 (upd d_ 11) x22 x23 x24 x25 x26 x27 x28 x29 x30 x31 (.bool true) (.bool true) x34 x35 x36 x37 x38 x39 x40 x41 x42 x43 x44 x45 x0 u u2 w1) := ⟨F.q1, F.q2, F.q3, F.q4, F.q5, F.q6, F.q7, F.q8, F.q9, F.q10, fun _ => ⟨(show _ from (by simp [hdep] : d_ 8 = true)), (show _ from (by simp [hdep] : d_ 10 = true))⟩, fun h => rfl, fun h => andM0 (F.q13 h) rfl, fun h => andM0 (F.q14 h) rfl, fun h => andM0 (F.q15 h) rfl, F.q16, F.q17, F.q18, F.q19, F.q20, F.q21, F.q22, F.q23, fun h => andM11 (F.q24 h) rfl, F.f0, F.f1, F.f2, F.f3, F.f4, F.f5, F.f6, F.f7, F.f8, F.f9, F.f10, fun _ => rfl, F.f12, F.f13, F.f14, F.f15, F.f16, F.f17, F.f18, F.f19, F.f20, F.f21, F.f22, F.f23, F.f24, F.st0, F.st1, F.st2⟩
      clear F
      go_simp
      exact HK.out _ _ ⟨_, _, _, _, _, _, _, _, _, _, _, _, _, _, _, _, _, _, _, _, _, _, _, _, _, _, _, rfl, HF.out⟩
    · obtain rfl := F.f11 (by simp [hdep])
      have HF : Hid (ali4F b3 b5 S0 S1 S2 (upd d_ 12) x22 x23 x24 x25 x26 x27 x28 x29 x30 x31 x32 (.bool true) (.int .i64 0) x35 x36 x37 x38 x39 x40 x41 x42 x43 x44 x45 x0 u u2 w1) := ⟨F.q1, F.q2, F.q3, F.q4, F.q5, F.q6, F.q7, F.q8, F.q9, F.q10, F.q11, fun _ => (show _ from (by simp [hdep] : d_ 11 = true)), fun h => andL1 (F.q13 h) rfl, F.q14, F.q15, F.q16, F.q17, F.q18, F.q19, F.q20, F.q21, F.q22, F.q23, fun h => andM12 (F.q24 h) rfl, F.f0, F.f1, F.f2, F.f3, F.f4, F.f5, F.f6, F.f7, F.f8, F.f9, F.f10, F.f11, fun _ => rfl, F.f13, F.f14, F.f15, F.f16, F.f17, F.f18, F.f19, F.f20, F.f21, F.f22, F.f23, F.f24, F.st0, F.st1, F.st2⟩
      clear F
      go_simp
      exact HK.out _ _ ⟨_, _, _, _, _, _, _, _, _, _, _, _, _, _, _, _, _, _, _, _, _, _, _, _, _, _, _, rfl, HF.out⟩
    · obtain rfl := F.f11 (by simp [hdep])
      obtain rfl := F.f12 (by simp [hdep])
      have HF : Hid (ali4F b3 b5 S0 S1 S2 (upd d_ 13) x22 x23 x24 x25 x26 x27 x28 x29 x30 x31 x32 (.bool true) (.int .i64 0) (.bool true) x36 x37 x38 x39 x40 x41 x42 x43 x44 x45 x0 u u2 w1) := ⟨F.q1, F.q2, F.q3, F.q4, F.q5, F.q6, F.q7, F.q8, F.q9, F.q10, F.q11, F.q12, fun _ => ⟨(show _ from (by simp [hdep] : d_ 11 = true)), (show _ from (by simp [hdep] : d_ 12 = true))⟩, fun h => andL1 (F.q14 h) rfl, F.q15, F.q16, F.q17, F.q18, F.q19, F.q20, F.q21, F.q22, F.q23, fun h => andM13 (F.q24 h) rfl, F.f0, F.f1, F.f2, F.f3, F.f4, F.f5, F.f6, F.f7, F.f8, F.f9, F.f10, F.f11, F.f12, fun _ => rfl, F.f14, F.f15, F.f16, F.f17, F.f18, F.f19, F.f20, F.f21, F.f22, F.f23, F.f24, F.st0, F.st1, F.st2⟩
      clear F
      go_simp
      exact HK.out _ _ ⟨_, _, _, _, _, _, _, _, _, _, _, _, _, _, _, _, _, _, _, _, _, _, _, _, _, _, _, rfl, HF.out⟩
    · obtain rfl := F.f11 (by simp [hdep])
      obtain rfl := F.f13 (by simp [hdep])
      have HF : Hid (ali4F b3 b5 S0 S1 S2 (upd d_ 14) x22 x23 x24 x25 x26 x27 x28 x29 x30 x31 x32 (.bool true) x34 (.bool true) (.bool true) x37 x38 x39 x40 x41 x42 x43 x44 x45 x0 u u2 w1) := ⟨F.q1, F.q2, F.q3, F.q4, F.q5, F.q6, F.q7, F.q8, F.q9, F.q10, F.q11, F.q12, F.q13, fun _ => ⟨(show _ from (by simp [hdep] : d_ 11 = true)), (show _ from (by simp [hdep] : d_ 13 = true))⟩, fun h => andL1 (F.q15 h) rfl, F.q16, F.q17, F.q18, F.q19, F.q20, F.q21, F.q22, F.q23, fun h => andM14 (F.q24 h) rfl, F.f0, F.f1, F.f2, F.f3, F.f4, F.f5, F.f6, F.f7, F.f8, F.f9, F.f10, F.f11, F.f12, F.f13, fun _ => rfl, F.f15, F.f16, F.f17, F.f18, F.f19, F.f20, F.f21, F.f22, F.f23, F.f24, F.st0, F.st1, F.st2⟩
      clear F
      go_simp
      exact HK.out _ _ ⟨_, _, _, _, _, _, _, _, _, _, _, _, _, _, _, _, _, _, _, _, _, _, _, _, _, _, _, rfl, HF.out⟩
    · obtain rfl := F.f14 (by simp [hdep])
      have HF : Hid (ali4F b3 b5 S0 S1 S2 (upd d_ 15) x22 x23 x24 x25 x26 x27 x28 x29 x30 x31 x32 x33 x34 x35 (.bool true) (.bool true) x38 x39 x40 x41 x42 x43 x44 x45 x0 u u2 w1) := ⟨F.q1, F.q2, F.q3, F.q4, F.q5, F.q6, F.q7, F.q8, F.q9, F.q10, F.q11, F.q12, F.q13, F.q14, fun _ => ⟨(show _ from (by simp [hdep] : d_ 11 = true)), (show _ from (by simp [hdep] : d_ 14 = true))⟩, fun h => rfl, fun h => rfl, fun h => andM0 (F.q18 h) rfl, fun h => andM0 (F.q19 h) rfl, F.q20, F.q21, F.q22, F.q23, fun h => andM15 (F.q24 h) rfl, F.f0, F.f1, F.f2, F.f3, F.f4, F.f5, F.f6, F.f7, F.f8, F.f9, F.f10, F.f11, F.f12, F.f13, F.f14, fun _ => rfl, F.f16, F.f17, F.f18, F.f19, F.f20, F.f21, F.f22, F.f23, F.f24, F.st0, F.st1, F.st2⟩
      clear F
      go_simp
      exact HK.out _ _ ⟨_, _, _, _, _, _, _, _, _, _, _, _, _, _, _, _, _, _, _, _, _, _, _, _, _, _, _, rfl, HF.out⟩
    · have hst : S1 u w1 ∨ S2 u u2 w1 := by
        cases e2 : d_ 17 with
        | false => exact .inl ((F.st1 (F.q11 (F.q15 (by simp [hdep] : d_ 15 = true)).1).1 e2))
        | true =>
          exact .inr ((F.st2 e2))
      have kk := kl16.out u u2 w1 hst
      obtain ⟨kk0, kk1⟩ := kk
      clear hst
      obtain rfl := F.f15 (by simp [hdep])
      have HF : Hid (ali4F b3 b5 S0 S1 S2 (upd d_ 16) x22 x23 x24 x25 x26 x27 x28 x29 x30 x31 x32 x33 x34 x35 x36 (.bool true) (.agg #[.int .i64 585000, .int .i64 594000]) x39 x40 x41 x42 x43 x44 x45 x0 u u2 w1) := ⟨F.q1, F.q2, F.q3, F.q4, F.q5, F.q6, F.q7, F.q8, F.q9, F.q10, F.q11, F.q12, F.q13, F.q14, F.q15, fun _ => (show _ from (by simp [hdep] : d_ 15 = true)), F.q17, fun h => andM1 (F.q18 h) rfl, F.q19, F.q20, F.q21, F.q22, F.q23, fun h => andM16 (F.q24 h) rfl, F.f0, F.f1, F.f2, F.f3, F.f4, F.f5, F.f6, F.f7, F.f8, F.f9, F.f10, F.f11, F.f12, F.f13, F.f14, F.f15, fun _ => rfl, F.f17, F.f18, F.f19, F.f20, F.f21, F.f22, F.f23, F.f24, F.st0, F.st1, F.st2⟩
      clear F
      go_simp
      exact HK.out _ _ ⟨_, _, _, _, _, _, _, _, _, _, _, _, _, _, _, _, _, _, _, _, _, _, _, _, _, _, _, rfl, HF.out⟩
    · have hS := F.st1 (F.q11 (F.q15 (by simp [hdep] : d_ 15 = true)).1).1 hd_
      obtain rfl := F.f15 (by simp [hdep])
      have hc := kc17.out u w1 hS
      have HF := Lib.hid F
      clear F
      go_simp
      refine ⟨trivial, rfl, wideAt_calls (hc.mono ?_)⟩
      rintro e w5 ⟨v_, rfl, hres⟩
      exact HK.out _ _ ⟨_, _, _, _, _, _, _, _, _, _, _, _, _, _, _, _, _, _, _, _, _, _, _, _, _, u, v_, rfl, ⟨HF.out.q1, HF.out.q2, HF.out.q3, HF.out.q4, HF.out.q5, HF.out.q6, HF.out.q7, HF.out.q8, HF.out.q9, HF.out.q10, HF.out.q11, HF.out.q12, HF.out.q13, HF.out.q14, HF.out.q15, HF.out.q16, fun _ => (show _ from (by simp [hdep] : d_ 15 = true)), fun h => ⟨(HF.out.q18 h).1, (HF.out.q18 h).2.1, rfl⟩, HF.out.q19, fun h => ⟨rfl, (HF.out.q20 h).2⟩, HF.out.q21, HF.out.q22, HF.out.q23, fun h => ⟨(HF.out.q24 h).1, (HF.out.q24 h).2.1, (HF.out.q24 h).2.2.1, (HF.out.q24 h).2.2.2.1, (HF.out.q24 h).2.2.2.2.1, (HF.out.q24 h).2.2.2.2.2.1, (HF.out.q24 h).2.2.2.2.2.2.1, (HF.out.q24 h).2.2.2.2.2.2.2.1, (HF.out.q24 h).2.2.2.2.2.2.2.2.1, (HF.out.q24 h).2.2.2.2.2.2.2.2.2.1, (HF.out.q24 h).2.2.2.2.2.2.2.2.2.2.1, (HF.out.q24 h).2.2.2.2.2.2.2.2.2.2.2.1, (HF.out.q24 h).2.2.2.2.2.2.2.2.2.2.2.2.1, (HF.out.q24 h).2.2.2.2.2.2.2.2.2.2.2.2.2.1, (HF.out.q24 h).2.2.2.2.2.2.2.2.2.2.2.2.2.2.1, (HF.out.q24 h).2.2.2.2.2.2.2.2.2.2.2.2.2.2.2.1, (HF.out.q24 h).2.2.2.2.2.2.2.2.2.2.2.2.2.2.2.2.1, rfl, (HF.out.q24 h).2.2.2.2.2.2.2.2.2.2.2.2.2.2.2.2.2.2.1, (HF.out.q24 h).2.2.2.2.2.2.2.2.2.2.2.2.2.2.2.2.2.2.2.1, (HF.out.q24 h).2.2.2.2.2.2.2.2.2.2.2.2.2.2.2.2.2.2.2.2.1, (HF.out.q24 h).2.2.2.2.2.2.2.2.2.2.2.2.2.2.2.2.2.2.2.2.2.1, (HF.out.q24 h).2.2.2.2.2.2.2.2.2.2.2.2.2.2.2.2.2.2.2.2.2.2.1, (HF.out.q24 h).2.2.2.2.2.2.2.2.2.2.2.2.2.2.2.2.2.2.2.2.2.2.2⟩, HF.out.f0, HF.out.f1, HF.out.f2, HF.out.f3, HF.out.f4, HF.out.f5, HF.out.f6, HF.out.f7, HF.out.f8, HF.out.f9, HF.out.f10, HF.out.f11, HF.out.f12, HF.out.f13, HF.out.f14, HF.out.f15, HF.out.f16, fun _ => rfl, HF.out.f18, HF.out.f19, HF.out.f20, HF.out.f21, HF.out.f22, HF.out.f23, HF.out.f24, fun h => (by have h2 : d_ 8 = false := h; rw [(HF.out.q11 (HF.out.q15 (by simp [hdep] : d_ 15 = true)).1).1] at h2; cases h2), fun _ h => (by simp [upd] at h), fun _ => hres⟩⟩
    · obtain rfl := F.f15 (by simp [hdep])
      obtain rfl := F.f16 (by simp [hdep])
      obtain rfl := F.f17 (by simp [hdep])
      have HF : Hid (ali4F b3 b5 S0 S1 S2 (upd d_ 18) x22 x23 x24 x25 x26 x27 x28 x29 x30 x31 x32 x33 x34 x35 x36 (.bool true) (.agg #[.int .i64 585000, .int .i64 594000]) (.agg #[.int .i64 585000, .int .i64 594000]) (.bool true) x41 x42 x43 x44 x45 x0 u u2 w1) := ⟨F.q1, F.q2, F.q3, F.q4, F.q5, F.q6, F.q7, F.q8, F.q9, F.q10, F.q11, F.q12, F.q13, F.q14, F.q15, F.q16, F.q17, fun _ => ⟨(show _ from (by simp [hdep] : d_ 15 = true)), (show _ from (by simp [hdep] : d_ 16 = true)), (show _ from (by simp [hdep] : d_ 17 = true))⟩, fun h => andL1 (F.q19 h) rfl, F.q20, F.q21, F.q22, F.q23, fun h => andM18 (F.q24 h) rfl, F.f0, F.f1, F.f2, F.f3, F.f4, F.f5, F.f6, F.f7, F.f8, F.f9, F.f10, F.f11, F.f12, F.f13, F.f14, F.f15, F.f16, F.f17, fun _ => rfl, F.f19, F.f20, F.f21, F.f22, F.f23, F.f24, F.st0, F.st1, F.st2⟩
      clear F
      go_simp
      exact HK.out _ _ ⟨_, _, _, _, _, _, _, _, _, _, _, _, _, _, _, _, _, _, _, _, _, _, _, _, _, _, _, rfl, HF.out⟩
    · obtain rfl := F.f15 (by simp [hdep])
      obtain rfl := F.f18 (by simp [hdep])
      have HF : Hid (ali4F b3 b5 S0 S1 S2 (upd d_ 19) x22 x23 x24 x25 x26 x27 x28 x29 x30 x31 x32 x33 x34 x35 x36 (.bool true) x38 x39 (.bool true) (.bool true) x42 x43 x44 x45 x0 u u2 w1) := ⟨F.q1, F.q2, F.q3, F.q4, F.q5, F.q6, F.q7, F.q8, F.q9, F.q10, F.q11, F.q12, F.q13, F.q14, F.q15, F.q16, F.q17, F.q18, fun _ => ⟨(show _ from (by simp [hdep] : d_ 15 = true)), (show _ from (by simp [hdep] : d_ 18 = true))⟩, fun h => andL1 (F.q20 h) rfl, F.q21, F.q22, F.q23, fun h => andM19 (F.q24 h) rfl, F.f0, F.f1, F.f2, F.f3, F.f4, F.f5, F.f6, F.f7, F.f8, F.f9, F.f10, F.f11, F.f12, F.f13, F.f14, F.f15, F.f16, F.f17, F.f18, fun _ => rfl, F.f20, F.f21, F.f22, F.f23, F.f24, F.st0, F.st1, F.st2⟩
      clear F
      go_simp
      exact HK.out _ _ ⟨_, _, _, _, _, _, _, _, _, _, _, _, _, _, _, _, _, _, _, _, _, _, _, _, _, _, _, rfl, HF.out⟩
    · obtain rfl := F.f19 (by simp [hdep])
      have HF : Hid (ali4F b3 b5 S0 S1 S2 (upd d_ 20) x22 x23 x24 x25 x26 x27 x28 x29 x30 x31 x32 x33 x34 x35 x36 x37 x38 x39 x40 (.bool true) (.bool true) x43 x44 x45 x0 u u2 w1) := ⟨F.q1, F.q2, F.q3, F.q4, F.q5, F.q6, F.q7, F.q8, F.q9, F.q10, F.q11, F.q12, F.q13, F.q14, F.q15, F.q16, F.q17, F.q18, F.q19, fun _ => ⟨(show _ from (by simp [hdep] : d_ 17 = true)), (show _ from (by simp [hdep] : d_ 19 = true))⟩, fun h => rfl, fun h => andM0 (F.q22 h) rfl, fun h => andM0 (F.q23 h) rfl, fun h => andM20 (F.q24 h) rfl, F.f0, F.f1, F.f2, F.f3, F.f4, F.f5, F.f6, F.f7, F.f8, F.f9, F.f10, F.f11, F.f12, F.f13, F.f14, F.f15, F.f16, F.f17, F.f18, F.f19, fun _ => rfl, F.f21, F.f22, F.f23, F.f24, F.st0, F.st1, F.st2⟩
      clear F
      go_simp
      exact HK.out _ _ ⟨_, _, _, _, _, _, _, _, _, _, _, _, _, _, _, _, _, _, _, _, _, _, _, _, _, _, _, rfl, HF.out⟩
    · obtain rfl := F.f20 (by simp [hdep])
      have HF : Hid (ali4F b3 b5 S0 S1 S2 (upd d_ 21) x22 x23 x24 x25 x26 x27 x28 x29 x30 x31 x32 x33 x34 x35 x36 x37 x38 x39 x40 x41 (.bool true) (.int .i64 0) x44 x45 x0 u u2 w1) := ⟨F.q1, F.q2, F.q3, F.q4, F.q5, F.q6, F.q7, F.q8, F.q9, F.q10, F.q11, F.q12, F.q13, F.q14, F.q15, F.q16, F.q17, F.q18, F.q19, F.q20, fun _ => (show _ from (by simp [hdep] : d_ 20 = true)), fun h => andL1 (F.q22 h) rfl, F.q23, fun h => andM21 (F.q24 h) rfl, F.f0, F.f1, F.f2, F.f3, F.f4, F.f5, F.f6, F.f7, F.f8, F.f9, F.f10, F.f11, F.f12, F.f13, F.f14, F.f15, F.f16, F.f17, F.f18, F.f19, F.f20, fun _ => rfl, F.f22, F.f23, F.f24, F.st0, F.st1, F.st2⟩
      clear F
      go_simp
      exact HK.out _ _ ⟨_, _, _, _, _, _, _, _, _, _, _, _, _, _, _, _, _, _, _, _, _, _, _, _, _, _, _, rfl, HF.out⟩
    · obtain rfl := F.f20 (by simp [hdep])
      obtain rfl := F.f21 (by simp [hdep])
      have HF : Hid (ali4F b3 b5 S0 S1 S2 (upd d_ 22) x22 x23 x24 x25 x26 x27 x28 x29 x30 x31 x32 x33 x34 x35 x36 x37 x38 x39 x40 x41 (.bool true) (.int .i64 0) (.bool true) x45 x0 u u2 w1) := ⟨F.q1, F.q2, F.q3, F.q4, F.q5, F.q6, F.q7, F.q8, F.q9, F.q10, F.q11, F.q12, F.q13, F.q14, F.q15, F.q16, F.q17, F.q18, F.q19, F.q20, F.q21, fun _ => ⟨(show _ from (by simp [hdep] : d_ 20 = true)), (show _ from (by simp [hdep] : d_ 21 = true))⟩, fun h => andL1 (F.q23 h) rfl, fun h => andM22 (F.q24 h) rfl, F.f0, F.f1, F.f2, F.f3, F.f4, F.f5, F.f6, F.f7, F.f8, F.f9, F.f10, F.f11, F.f12, F.f13, F.f14, F.f15, F.f16, F.f17, F.f18, F.f19, F.f20, F.f21, fun _ => rfl, F.f23, F.f24, F.st0, F.st1, F.st2⟩
      clear F
      go_simp
      exact HK.out _ _ ⟨_, _, _, _, _, _, _, _, _, _, _, _, _, _, _, _, _, _, _, _, _, _, _, _, _, _, _, rfl, HF.out⟩
    · obtain rfl := F.f20 (by simp [hdep])
      obtain rfl := F.f22 (by simp [hdep])
      have HF : Hid (ali4F b3 b5 S0 S1 S2 (upd d_ 23) x22 x23 x24 x25 x26 x27 x28 x29 x30 x31 x32 x33 x34 x35 x36 x37 x38 x39 x40 x41 (.bool true) x43 (.bool true) (.bool true) x0 u u2 w1) := ⟨F.q1, F.q2, F.q3, F.q4, F.q5, F.q6, F.q7, F.q8, F.q9, F.q10, F.q11, F.q12, F.q13, F.q14, F.q15, F.q16, F.q17, F.q18, F.q19, F.q20, F.q21, F.q22, fun _ => ⟨(show _ from (by simp [hdep] : d_ 20 = true)), (show _ from (by simp [hdep] : d_ 22 = true))⟩, fun h => andL23 (F.q24 h) rfl, F.f0, F.f1, F.f2, F.f3, F.f4, F.f5, F.f6, F.f7, F.f8, F.f9, F.f10, F.f11, F.f12, F.f13, F.f14, F.f15, F.f16, F.f17, F.f18, F.f19, F.f20, F.f21, F.f22, fun _ => rfl, F.f24, F.st0, F.st1, F.st2⟩
      clear F
      go_simp
      exact HK.out _ _ ⟨_, _, _, _, _, _, _, _, _, _, _, _, _, _, _, _, _, _, _, _, _, _, _, _, _, _, _, rfl, HF.out⟩
    · obtain rfl := F.f23 (by simp [hdep])
      have HF : Hid (ali4F b3 b5 S0 S1 S2 (upd d_ 24) x22 x23 x24 x25 x26 x27 x28 x29 x30 x31 x32 x33 x34 x35 x36 x37 x38 x39 x40 x41 x42 x43 x44 (.bool true) (.bool true) u u2 w1) := ⟨F.q1, F.q2, F.q3, F.q4, F.q5, F.q6, F.q7, F.q8, F.q9, F.q10, F.q11, F.q12, F.q13, F.q14, F.q15, F.q16, F.q17, F.q18, F.q19, F.q20, F.q21, F.q22, F.q23, fun _ => ⟨(show _ from (by simp [hdep] : d_ 0 = true)), (show _ from (by simp [hdep] : d_ 1 = true)), (show _ from (by simp [hdep] : d_ 2 = true)), (show _ from (by simp [hdep] : d_ 3 = true)), (show _ from (by simp [hdep] : d_ 4 = true)), (show _ from (by simp [hdep] : d_ 5 = true)), (show _ from (by simp [hdep] : d_ 6 = true)), (show _ from (by simp [hdep] : d_ 7 = true)), (show _ from (by simp [hdep] : d_ 8 = true)), (show _ from (by simp [hdep] : d_ 9 = true)), (show _ from (by simp [hdep] : d_ 10 = true)), (show _ from (by simp [hdep] : d_ 11 = true)), (show _ from (by simp [hdep] : d_ 12 = true)), (show _ from (by simp [hdep] : d_ 13 = true)), (show _ from (by simp [hdep] : d_ 14 = true)), (show _ from (by simp [hdep] : d_ 15 = true)), (show _ from (by simp [hdep] : d_ 16 = true)), (show _ from (by simp [hdep] : d_ 17 = true)), (show _ from (by simp [hdep] : d_ 18 = true)), (show _ from (by simp [hdep] : d_ 19 = true)), (show _ from (by simp [hdep] : d_ 20 = true)), (show _ from (by simp [hdep] : d_ 21 = true)), (show _ from (by simp [hdep] : d_ 22 = true)), (show _ from (by simp [hdep] : d_ 23 = true))⟩, F.f0, F.f1, F.f2, F.f3, F.f4, F.f5, F.f6, F.f7, F.f8, F.f9, F.f10, F.f11, F.f12, F.f13, F.f14, F.f15, F.f16, F.f17, F.f18, F.f19, F.f20, F.f21, F.f22, F.f23, fun _ => rfl, F.st0, F.st1, F.st2⟩
      clear F
      go_simp
      exact HK.out _ _ ⟨_, _, _, _, _, _, _, _, _, _, _, _, _, _, _, _, _, _, _, _, _, _, _, _, _, _, _, rfl, HF.out⟩
  · rintro d_ a_ w1 hall ⟨x22, x23, x24, x25, x26, x27, x28, x29, x30, x31, x32, x33, x34, x35, x36, x37, x38, x39, x40, x41, x42, x43, x44, x45, x0, u, u2, rfl, F⟩
    have hall' : ∀ k, k < 25 → d_ k = true := hall
    obtain rfl := F.f0 (hall' 0 (by decide))
    obtain rfl := F.f1 (hall' 1 (by decide))
    obtain rfl := F.f2 (hall' 2 (by decide))
    obtain rfl := F.f3 (hall' 3 (by decide))
    obtain rfl := F.f4 (hall' 4 (by decide))
    obtain rfl := F.f5 (hall' 5 (by decide))
    obtain rfl := F.f6 (hall' 6 (by decide))
    obtain rfl := F.f7 (hall' 7 (by decide))
    obtain rfl := F.f8 (hall' 8 (by decide))
    obtain rfl := F.f9 (hall' 9 (by decide))
    obtain rfl := F.f10 (hall' 10 (by decide))
    obtain rfl := F.f11 (hall' 11 (by decide))
    obtain rfl := F.f12 (hall' 12 (by decide))
    obtain rfl := F.f13 (hall' 13 (by decide))
    obtain rfl := F.f14 (hall' 14 (by decide))
    obtain rfl := F.f15 (hall' 15 (by decide))
    obtain rfl := F.f16 (hall' 16 (by decide))
    obtain rfl := F.f17 (hall' 17 (by decide))
    obtain rfl := F.f18 (hall' 18 (by decide))
    obtain rfl := F.f19 (hall' 19 (by decide))
    obtain rfl := F.f20 (hall' 20 (by decide))
    obtain rfl := F.f21 (hall' 21 (by decide))
    obtain rfl := F.f22 (hall' 22 (by decide))
    obtain rfl := F.f23 (hall' 23 (by decide))
    obtain rfl := F.f24 (hall' 24 (by decide))
    have hst := F.st2 (hall' 17 (by decide))
    exact HQ.out u u2 w1 hst
structure ali3F (b1 : Nat) (b3 : Nat) (S0 : World → Prop) (S1 : Unit → World → Prop) (S2 : Unit → Unit → World → Prop) (S3 : Unit → Unit → Unit → World → Prop) (d : Nat → Bool) (x16 x17 x18 x19 x20 x21 x22 x23 x24 x25 x26 x27 x28 x29 x30 x31 x32 x33 x34 x0 : Value) (u : Unit) (u2 : Unit) (u3 : Unit) (w : World) : Prop where
  q2 : d 2 = true → d 0 = true ∧ d 1 = true
  q3 : d 3 = true → d 1 = true ∧ d 2 = true
  q4 : d 4 = true → d 3 = true
  q5 : d 5 = true → d 3 = true ∧ d 4 = true
  q6 : d 6 = true → d 3 = true ∧ d 5 = true
  q7 : d 7 = true → d 3 = true ∧ d 6 = true
  q8 : d 8 = true → d 7 = true
  q9 : d 9 = true → d 7 = true
  q10 : d 10 = true → d 7 = true ∧ d 8 = true ∧ d 9 = true
  q11 : d 11 = true → d 7 = true ∧ d 10 = true
  q12 : d 12 = true → d 9 = true ∧ d 11 = true
  q13 : d 13 = true → d 12 = true
  q14 : d 14 = true → d 12 = true ∧ d 13 = true
  q15 : d 15 = true → d 12 = true ∧ d 14 = true
  q16 : d 16 = true → d 12 = true ∧ d 15 = true
  q17 : d 17 = true → d 16 = true
  q18 : d 18 = true → d 16 = true ∧ d 17 = true
  q19 : d 19 = true → d 0 = true ∧ d 1 = true ∧ d 2 = true ∧ d 3 = true ∧ d 4 = true ∧ d 5 = true ∧ d 6 = true ∧ d 7 = true ∧ d 8 = true ∧ d 9 = true ∧ d 10 = true ∧ d 11 = true ∧ d 12 = true ∧ d 13 = true ∧ d 14 = true ∧ d 15 = true ∧ d 16 = true ∧ d 17 = true ∧ d 18 = true
  f0 : d 0 = true → x16 = .agg #[.int .i64 (-2001), .int .i64 (-856)]
  f1 : d 1 = true → x17 = .agg #[.int .i64 (-2001), .int .i64 (-856)]
  f2 : d 2 = true → x18 = .bool true
  f3 : d 3 = true → x19 = .bool true
  f4 : d 4 = true → x20 = .int .i64 0
  f5 : d 5 = true → x21 = .bool true
  f6 : d 6 = true → x22 = .bool true
  f7 : d 7 = true → x23 = .bool true
  f8 : d 8 = true → x24 = .agg #[.int .i64 9591, .int .i64 10241]
  f9 : d 9 = true → x25 = .agg #[.int .i64 9591, .int .i64 10241]
  f10 : d 10 = true → x26 = .bool true
  f11 : d 11 = true → x27 = .bool true
  f12 : d 12 = true → x28 = .bool true
  f13 : d 13 = true → x29 = .int .i64 0
  f14 : d 14 = true → x30 = .bool true
  f15 : d 15 = true → x31 = .bool true
  f16 : d 16 = true → x32 = .bool true
  f17 : d 17 = true → x33 = .bool true
  f18 : d 18 = true → x34 = .bool true
  f19 : d 19 = true → x0 = .bool true
  st0 : d 1 = false → S0 w
  st1 : d 1 = true → d 9 = false → S1 u w
  st2 : d 9 = true → d 17 = false → S2 u u2 w
  st3 : d 17 = true → S3 u u2 u3 w
noncomputable def ali3C : Code := (Try.f5.body.bind (regionAt 3)).getD .skip
set_option maxRecDepth 100000 in
set_option maxHeartbeats 4000000 in
theorem ali3 {b1 : Nat} {b3 : Nat} {S0 : World → Prop} {S1 : Unit → World → Prop} {S2 : Unit → Unit → World → Prop} {S3 : Unit → Unit → Unit → World → Prop} {Q : Exit → Act → World → Prop} {W1 : World} (h0 : S0 W1.drew)
    (kl0 : Hid (∀ (u : Unit) (w : World), (S0 w ∨ S1 u w) → w.cell? ⟨b1, 0, none⟩ = some (.int .i64 (-2001)) ∧ w.cell? ⟨b1, 1, none⟩ = some (.int .i64 (-856))))
    (kc1 : Hid (∀ (w : World), S0 w → Calls Try.prog 13 #[.int .i64 (-2001), .int .i64 (-856)] w fun e w' => ∃ u : Unit, e = .returned (.agg #[.int .i64 (-2001), .int .i64 (-856)]) ∧ S1 u w'))
    (kl8 : Hid (∀ (u : Unit) (u2 : Unit) (w : World), (S1 u w ∨ S2 u u2 w) → w.cell? ⟨b3, 0, none⟩ = some (.int .i64 9591) ∧ w.cell? ⟨b3, 1, none⟩ = some (.int .i64 10241)))
    (kc9 : Hid (∀ (u : Unit) (w : World), S1 u w → Calls Try.prog 13 #[.int .i64 9591, .int .i64 10241] w fun e w' => ∃ u2 : Unit, e = .returned (.agg #[.int .i64 9591, .int .i64 10241]) ∧ S2 u u2 w'))
    (kc17 : Hid (∀ (u : Unit) (u2 : Unit) (w : World), S2 u u2 w → Calls Try.prog 14 #[] w fun e w' => ∃ u3 : Unit, e = .returned (.bool true) ∧ S3 u u2 u3 w'))
    {s0 s5 s6 s7 s8 s9 s10 s11 s12 s13 s14 s15 s16 s17 s18 s19 s20 s21 s22 s23 s24 s25 s26 s27 s28 s29 s30 s31 s32 s33 s34 : Value} {dd : List Deferred}
    (hQ : ∀ (u : Unit) (u2 : Unit) (u3 : Unit) (w' : World), S3 u u2 u3 w' → Q .normal { tmps := #[.bool true, .pointer (some ⟨b1, 0, none⟩), .int .i64 0, .pointer (some ⟨b3, 0, none⟩), .int .i64 0, s5, s6, s7, s8, s9, s10, s11, s12, s13, s14, s15, .agg #[.int .i64 (-2001), .int .i64 (-856)], .agg #[.int .i64 (-2001), .int .i64 (-856)], .bool true, .bool true, .int .i64 0, .bool true, .bool true, .bool true, .agg #[.int .i64 9591, .int .i64 10241], .agg #[.int .i64 9591, .int .i64 10241], .bool true, .bool true, .bool true, .int .i64 0, .bool true, .bool true, .bool true, .bool true, .bool true], defers := dd } w') :
    Code.wpIn (wideAt none) 0 Try.prog ali3C Q { tmps := #[s0, .pointer (some ⟨b1, 0, none⟩), .int .i64 0, .pointer (some ⟨b3, 0, none⟩), .int .i64 0, s5, s6, s7, s8, s9, s10, s11, s12, s13, s14, s15, s16, s17, s18, s19, s20, s21, s22, s23, s24, s25, s26, s27, s28, s29, s30, s31, s32, s33, s34], defers := dd } W1 := by
  have HQ := Lib.hid hQ
  clear hQ
  conv => arg 4; whnf
  refine wpIn_region_invG mixed (by kernel_rfl) (fun d_ a_ w' => ∃ (x16 : Value) (x17 : Value) (x18 : Value) (x19 : Value) (x20 : Value) (x21 : Value) (x22 : Value) (x23 : Value) (x24 : Value) (x25 : Value) (x26 : Value) (x27 : Value) (x28 : Value) (x29 : Value) (x30 : Value) (x31 : Value) (x32 : Value) (x33 : Value) (x34 : Value) (x0 : Value) (u : Unit) (u2 : Unit) (u3 : Unit), a_ = { tmps := #[x0, .pointer (some ⟨b1, 0, none⟩), .int .i64 0, .pointer (some ⟨b3, 0, none⟩), .int .i64 0, s5, s6, s7, s8, s9, s10, s11, s12, s13, s14, s15, x16, x17, x18, x19, x20, x21, x22, x23, x24, x25, x26, x27, x28, x29, x30, x31, x32, x33, x34], defers := dd } ∧ ali3F b1 b3 S0 S1 S2 S3 d_ x16 x17 x18 x19 x20 x21 x22 x23 x24 x25 x26 x27 x28 x29 x30 x31 x32 x33 x34 x0 u u2 u3 w') ?_ ?_ ?_
  · refine ⟨s16, s17, s18, s19, s20, s21, s22, s23, s24, s25, s26, s27, s28, s29, s30, s31, s32, s33, s34, s0, default, default, default, rfl, ?_⟩
    constructor <;> first | rfl | (intro _; rfl) | (intro h; cases h; done) | (intro _; exact h0) | exact h0
  · refine ⟨?_, ?_, ?_, ?_, ?_, ?_, ?_, ?_, ?_, ?_, ?_, ?_, ?_, ?_, ?_, ?_, ?_, ?_, ?_, ?_, trivial⟩
    all_goals
      rintro d_ a_ w1 K hd_ hdep ⟨x16, x17, x18, x19, x20, x21, x22, x23, x24, x25, x26, x27, x28, x29, x30, x31, x32, x33, x34, x0, u, u2, u3, rfl, F⟩ HK
      simp [Region.binds] at hdep
    · have hst : S0 w1 ∨ S1 u w1 := by
        cases e1 : d_ 1 with
        | false => exact .inl ((F.st0 e1))
        | true =>
          have n_ : d_ 9 = false := by
            cases e_ : d_ 9 with
            | false => rfl
            | true => have h2 := (F.q2 (F.q3 (F.q7 (F.q9 e_)).1).2).1; rw [show d_ 0 = false from hd_] at h2; cases h2
          exact .inr ((F.st1 e1 n_))
      have kk := kl0.out u w1 hst
      obtain ⟨kk0, kk1⟩ := kk
      clear hst
      have HF : Hid (ali3F b1 b3 S0 S1 S2 S3 (upd d_ 0) (.agg #[.int .i64 (-2001), .int .i64 (-856)]) x17 x18 x19 x20 x21 x22 x23 x24 x25 x26 x27 x28 x29 x30 x31 x32 x33 x34 x0 u u2 u3 w1) := ⟨fun h => andM0 (F.q2 h) rfl, F.q3, F.q4, F.q5, F.q6, F.q7, F.q8, F.q9, F.q10, F.q11, F.q12, F.q13, F.q14, F.q15, F.q16, F.q17, F.q18, fun h => andM0 (F.q19 h) rfl, fun _ => rfl, F.f1, F.f2, F.f3, F.f4, F.f5, F.f6, F.f7, F.f8, F.f9, F.f10, F.f11, F.f12, F.f13, F.f14, F.f15, F.f16, F.f17, F.f18, F.f19, F.st0, F.st1, F.st2, F.st3⟩
      clear F
      go_simp
      exact HK.out _ _ ⟨_, _, _, _, _, _, _, _, _, _, _, _, _, _, _, _, _, _, _, _, _, _, _, rfl, HF.out⟩
    · have hS := F.st0  hd_
      have hc := kc1.out w1 hS
      have HF := Lib.hid F
      clear F
      go_simp
      refine ⟨trivial, rfl, wideAt_calls (hc.mono ?_)⟩
      rintro e w5 ⟨v_, rfl, hres⟩
      exact HK.out _ _ ⟨_, _, _, _, _, _, _, _, _, _, _, _, _, _, _, _, _, _, _, _, v_, u2, u3, rfl, ⟨fun h => ⟨(HF.out.q2 h).1, rfl⟩, fun h => ⟨rfl, (HF.out.q3 h).2⟩, HF.out.q4, HF.out.q5, HF.out.q6, HF.out.q7, HF.out.q8, HF.out.q9, HF.out.q10, HF.out.q11, HF.out.q12, HF.out.q13, HF.out.q14, HF.out.q15, HF.out.q16, HF.out.q17, HF.out.q18, fun h => ⟨(HF.out.q19 h).1, rfl, (HF.out.q19 h).2.2.1, (HF.out.q19 h).2.2.2.1, (HF.out.q19 h).2.2.2.2.1, (HF.out.q19 h).2.2.2.2.2.1, (HF.out.q19 h).2.2.2.2.2.2.1, (HF.out.q19 h).2.2.2.2.2.2.2.1, (HF.out.q19 h).2.2.2.2.2.2.2.2.1, (HF.out.q19 h).2.2.2.2.2.2.2.2.2.1, (HF.out.q19 h).2.2.2.2.2.2.2.2.2.2.1, (HF.out.q19 h).2.2.2.2.2.2.2.2.2.2.2.1, (HF.out.q19 h).2.2.2.2.2.2.2.2.2.2.2.2.1, (HF.out.q19 h).2.2.2.2.2.2.2.2.2.2.2.2.2.1, (HF.out.q19 h).2.2.2.2.2.2.2.2.2.2.2.2.2.2.1, (HF.out.q19 h).2.2.2.2.2.2.2.2.2.2.2.2.2.2.2.1, (HF.out.q19 h).2.2.2.2.2.2.2.2.2.2.2.2.2.2.2.2.1, (HF.out.q19 h).2.2.2.2.2.2.2.2.2.2.2.2.2.2.2.2.2.1, (HF.out.q19 h).2.2.2.2.2.2.2.2.2.2.2.2.2.2.2.2.2.2⟩, HF.out.f0, fun _ => rfl, HF.out.f2, HF.out.f3, HF.out.f4, HF.out.f5, HF.out.f6, HF.out.f7, HF.out.f8, HF.out.f9, HF.out.f10, HF.out.f11, HF.out.f12, HF.out.f13, HF.out.f14, HF.out.f15, HF.out.f16, HF.out.f17, HF.out.f18, HF.out.f19, fun h => (by simp [upd] at h), fun _ _ => hres, fun h _ => (by have h2 : d_ 1 = true := (HF.out.q3 (HF.out.q7 (HF.out.q9 h)).1).1; rw [show d_ 1 = false from hd_] at h2; cases h2), fun h => (by have h2 : d_ 1 = true := (HF.out.q3 (HF.out.q7 (HF.out.q9 (HF.out.q12 (HF.out.q16 (HF.out.q17 h)).1).1)).1).1; rw [show d_ 1 = false from hd_] at h2; cases h2)⟩⟩
    · obtain rfl := F.f0 (by simp [hdep])
      obtain rfl := F.f1 (by simp [hdep])
      have HF : Hid (ali3F b1 b3 S0 S1 S2 S3 (upd d_ 2) (.agg #[.int .i64 (-2001), .int .i64 (-856)]) (.agg #[.int .i64 (-2001), .int .i64 (-856)]) (.bool true) x19 x20 x21 x22 x23 x24 x25 x26 x27 x28 x29 x30 x31 x32 x33 x34 x0 u u2 u3 w1) := ⟨fun _ => ⟨(show _ from (by simp [hdep] : d_ 0 = true)), (show _ from (by simp [hdep] : d_ 1 = true))⟩, fun h => andL1 (F.q3 h) rfl, F.q4, F.q5, F.q6, F.q7, F.q8, F.q9, F.q10, F.q11, F.q12, F.q13, F.q14, F.q15, F.q16, F.q17, F.q18, fun h => andM2 (F.q19 h) rfl, F.f0, F.f1, fun _ => rfl, F.f3, F.f4, F.f5, F.f6, F.f7, F.f8, F.f9, F.f10, F.f11, F.f12, F.f13, F.f14, F.f15, F.f16, F.f17, F.f18, F.f19, F.st0, F.st1, F.st2, F.st3⟩
      clear F
      go_simp
      exact HK.out _ _ ⟨_, _, _, _, _, _, _, _, _, _, _, _, _, _, _, _, _, _, _, _, _, _, _, rfl, HF.out⟩
    · obtain rfl := F.f2 (by simp [hdep])
      have HF : Hid (ali3F b1 b3 S0 S1 S2 S3 (upd d_ 3) x16 x17 (.bool true) (.bool true) x20 x21 x22 x23 x24 x25 x26 x27 x28 x29 x30 x31 x32 x33 x34 x0 u u2 u3 w1) := ⟨F.q2, fun _ => ⟨(show _ from (by simp [hdep] : d_ 1 = true)), (show _ from (by simp [hdep] : d_ 2 = true))⟩, fun h => rfl, fun h => andM0 (F.q5 h) rfl, fun h => andM0 (F.q6 h) rfl, fun h => andM0 (F.q7 h) rfl, F.q8, F.q9, F.q10, F.q11, F.q12, F.q13, F.q14, F.q15, F.q16, F.q17, F.q18, fun h => andM3 (F.q19 h) rfl, F.f0, F.f1, F.f2, fun _ => rfl, F.f4, F.f5, F.f6, F.f7, F.f8, F.f9, F.f10, F.f11, F.f12, F.f13, F.f14, F.f15, F.f16, F.f17, F.f18, F.f19, F.st0, F.st1, F.st2, F.st3⟩
      clear F
      go_simp
      exact HK.out _ _ ⟨_, _, _, _, _, _, _, _, _, _, _, _, _, _, _, _, _, _, _, _, _, _, _, rfl, HF.out⟩
    · obtain rfl := F.f3 (by simp [hdep])
      have HF : Hid (ali3F b1 b3 S0 S1 S2 S3 (upd d_ 4) x16 x17 x18 (.bool true) (.int .i64 0) x21 x22 x23 x24 x25 x26 x27 x28 x29 x30 x31 x32 x33 x34 x0 u u2 u3 w1) := ⟨F.q2, F.q3, fun _ => (show _ from (by simp [hdep] : d_ 3 = true)), fun h => andL1 (F.q5 h) rfl, F.q6, F.q7, F.q8, F.q9, F.q10, F.q11, F.q12, F.q13, F.q14, F.q15, F.q16, F.q17, F.q18, fun h => andM4 (F.q19 h) rfl, F.f0, F.f1, F.f2, F.f3, fun _ => rfl, F.f5, F.f6, F.f7, F.f8, F.f9, F.f10, F.f11, F.f12, F.f13, F.f14, F.f15, F.f16, F.f17, F.f18, F.f19, F.st0, F.st1, F.st2, F.st3⟩
      clear F
      go_simp
      exact HK.out _ _ ⟨_, _, _, _, _, _, _, _, _, _, _, _, _, _, _, _, _, _, _, _, _, _, _, rfl, HF.out⟩
    · obtain rfl := F.f3 (by simp [hdep])
      obtain rfl := F.f4 (by simp [hdep])
      have HF : Hid (ali3F b1 b3 S0 S1 S2 S3 (upd d_ 5) x16 x17 x18 (.bool true) (.int .i64 0) (.bool true) x22 x23 x24 x25 x26 x27 x28 x29 x30 x31 x32 x33 x34 x0 u u2 u3 w1) := ⟨F.q2, F.q3, F.q4, fun _ => ⟨(show _ from (by simp [hdep] : d_ 3 = true)), (show _ from (by simp [hdep] : d_ 4 = true))⟩, fun h => andL1 (F.q6 h) rfl, F.q7, F.q8, F.q9, F.q10, F.q11, F.q12, F.q13, F.q14, F.q15, F.q16, F.q17, F.q18, fun h => andM5 (F.q19 h) rfl, F.f0, F.f1, F.f2, F.f3, F.f4, fun _ => rfl, F.f6, F.f7, F.f8, F.f9, F.f10, F.f11, F.f12, F.f13, F.f14, F.f15, F.f16, F.f17, F.f18, F.f19, F.st0, F.st1, F.st2, F.st3⟩
      clear F
      go_simp
      exact HK.out _ _ ⟨_, _, _, _, _, _, _, _, _, _, _, _, _, _, _, _, _, _, _, _, _, _, _, rfl, HF.out⟩
    · obtain rfl := F.f3 (by simp [hdep])
      obtain rfl := F.f5 (by simp [hdep])
      have HF : Hid (ali3F b1 b3 S0 S1 S2 S3 (upd d_ 6) x16 x17 x18 (.bool true) x20 (.bool true) (.bool true) x23 x24 x25 x26 x27 x28 x29 x30 x31 x32 x33 x34 x0 u u2 u3 w1) := ⟨F.q2, F.q3, F.q4, F.q5, fun _ => ⟨(show _ from (by simp [hdep] : d_ 3 = true)), (show _ from (by simp [hdep] : d_ 5 = true))⟩, fun h => andL1 (F.q7 h) rfl, F.q8, F.q9, F.q10, F.q11, F.q12, F.q13, F.q14, F.q15, F.q16, F.q17, F.q18, fun h => andM6 (F.q19 h) rfl, F.f0, F.f1, F.f2, F.f3, F.f4, F.f5, fun _ => rfl, F.f7, F.f8, F.f9, F.f10, F.f11, F.f12, F.f13, F.f14, F.f15, F.f16, F.f17, F.f18, F.f19, F.st0, F.st1, F.st2, F.st3⟩
      clear F
      go_simp
      exact HK.out _ _ ⟨_, _, _, _, _, _, _, _, _, _, _, _, _, _, _, _, _, _, _, _, _, _, _, rfl, HF.out⟩
    · obtain rfl := F.f6 (by simp [hdep])
      have HF : Hid (ali3F b1 b3 S0 S1 S2 S3 (upd d_ 7) x16 x17 x18 x19 x20 x21 (.bool true) (.bool true) x24 x25 x26 x27 x28 x29 x30 x31 x32 x33 x34 x0 u u2 u3 w1) := ⟨F.q2, F.q3, F.q4, F.q5, F.q6, fun _ => ⟨(show _ from (by simp [hdep] : d_ 3 = true)), (show _ from (by simp [hdep] : d_ 6 = true))⟩, fun h => rfl, fun h => rfl, fun h => andM0 (F.q10 h) rfl, fun h => andM0 (F.q11 h) rfl, F.q12, F.q13, F.q14, F.q15, F.q16, F.q17, F.q18, fun h => andM7 (F.q19 h) rfl, F.f0, F.f1, F.f2, F.f3, F.f4, F.f5, F.f6, fun _ => rfl, F.f8, F.f9, F.f10, F.f11, F.f12, F.f13, F.f14, F.f15, F.f16, F.f17, F.f18, F.f19, F.st0, F.st1, F.st2, F.st3⟩
      clear F
      go_simp
      exact HK.out _ _ ⟨_, _, _, _, _, _, _, _, _, _, _, _, _, _, _, _, _, _, _, _, _, _, _, rfl, HF.out⟩
    · have hst : S1 u w1 ∨ S2 u u2 w1 := by
        cases e2 : d_ 9 with
        | false => exact .inl ((F.st1 (F.q3 (F.q7 (by simp [hdep] : d_ 7 = true)).1).1 e2))
        | true =>
          have n_ : d_ 17 = false := by
            cases e_ : d_ 17 with
            | false => rfl
            | true => have h2 := (F.q10 (F.q11 (F.q12 (F.q16 (F.q17 e_)).1).2).2).2.1; rw [show d_ 8 = false from hd_] at h2; cases h2
          exact .inr ((F.st2 e2 n_))
      have kk := kl8.out u u2 w1 hst
      obtain ⟨kk0, kk1⟩ := kk
      clear hst
      obtain rfl := F.f7 (by simp [hdep])
      have HF : Hid (ali3F b1 b3 S0 S1 S2 S3 (upd d_ 8) x16 x17 x18 x19 x20 x21 x22 (.bool true) (.agg #[.int .i64 9591, .int .i64 10241]) x25 x26 x27 x28 x29 x30 x31 x32 x33 x34 x0 u u2 u3 w1) := ⟨F.q2, F.q3, F.q4, F.q5, F.q6, F.q7, fun _ => (show _ from (by simp [hdep] : d_ 7 = true)), F.q9, fun h => andM1 (F.q10 h) rfl, F.q11, F.q12, F.q13, F.q14, F.q15, F.q16, F.q17, F.q18, fun h => andM8 (F.q19 h) rfl, F.f0, F.f1, F.f2, F.f3, F.f4, F.f5, F.f6, F.f7, fun _ => rfl, F.f9, F.f10, F.f11, F.f12, F.f13, F.f14, F.f15, F.f16, F.f17, F.f18, F.f19, F.st0, F.st1, F.st2, F.st3⟩
      clear F
      go_simp
      exact HK.out _ _ ⟨_, _, _, _, _, _, _, _, _, _, _, _, _, _, _, _, _, _, _, _, _, _, _, rfl, HF.out⟩
    · have hS := F.st1 (F.q3 (F.q7 (by simp [hdep] : d_ 7 = true)).1).1 hd_
      obtain rfl := F.f7 (by simp [hdep])
      have hc := kc9.out u w1 hS
      have HF := Lib.hid F
      clear F
      go_simp
      refine ⟨trivial, rfl, wideAt_calls (hc.mono ?_)⟩
      rintro e w5 ⟨v_, rfl, hres⟩
      exact HK.out _ _ ⟨_, _, _, _, _, _, _, _, _, _, _, _, _, _, _, _, _, _, _, _, u, v_, u3, rfl, ⟨HF.out.q2, HF.out.q3, HF.out.q4, HF.out.q5, HF.out.q6, HF.out.q7, HF.out.q8, fun _ => (show _ from (by simp [hdep] : d_ 7 = true)), fun h => ⟨(HF.out.q10 h).1, (HF.out.q10 h).2.1, rfl⟩, HF.out.q11, fun h => ⟨rfl, (HF.out.q12 h).2⟩, HF.out.q13, HF.out.q14, HF.out.q15, HF.out.q16, HF.out.q17, HF.out.q18, fun h => ⟨(HF.out.q19 h).1, (HF.out.q19 h).2.1, (HF.out.q19 h).2.2.1, (HF.out.q19 h).2.2.2.1, (HF.out.q19 h).2.2.2.2.1, (HF.out.q19 h).2.2.2.2.2.1, (HF.out.q19 h).2.2.2.2.2.2.1, (HF.out.q19 h).2.2.2.2.2.2.2.1, (HF.out.q19 h).2.2.2.2.2.2.2.2.1, rfl, (HF.out.q19 h).2.2.2.2.2.2.2.2.2.2.1, (HF.out.q19 h).2.2.2.2.2.2.2.2.2.2.2.1, (HF.out.q19 h).2.2.2.2.2.2.2.2.2.2.2.2.1, (HF.out.q19 h).2.2.2.2.2.2.2.2.2.2.2.2.2.1, (HF.out.q19 h).2.2.2.2.2.2.2.2.2.2.2.2.2.2.1, (HF.out.q19 h).2.2.2.2.2.2.2.2.2.2.2.2.2.2.2.1, (HF.out.q19 h).2.2.2.2.2.2.2.2.2.2.2.2.2.2.2.2.1, (HF.out.q19 h).2.2.2.2.2.2.2.2.2.2.2.2.2.2.2.2.2.1, (HF.out.q19 h).2.2.2.2.2.2.2.2.2.2.2.2.2.2.2.2.2.2⟩, HF.out.f0, HF.out.f1, HF.out.f2, HF.out.f3, HF.out.f4, HF.out.f5, HF.out.f6, HF.out.f7, HF.out.f8, fun _ => rfl, HF.out.f10, HF.out.f11, HF.out.f12, HF.out.f13, HF.out.f14, HF.out.f15, HF.out.f16, HF.out.f17, HF.out.f18, HF.out.f19, fun h => (by have h2 : d_ 1 = false := h; rw [(HF.out.q3 (HF.out.q7 (by simp [hdep] : d_ 7 = true)).1).1] at h2; cases h2), fun _ h => (by simp [upd] at h), fun _ _ => hres, fun h => (by have h2 : d_ 9 = true := (HF.out.q12 (HF.out.q16 (HF.out.q17 h)).1).1; rw [show d_ 9 = false from hd_] at h2; cases h2)⟩⟩
    · obtain rfl := F.f7 (by simp [hdep])
      obtain rfl := F.f8 (by simp [hdep])
      obtain rfl := F.f9 (by simp [hdep])
      have HF : Hid (ali3F b1 b3 S0 S1 S2 S3 (upd d_ 10) x16 x17 x18 x19 x20 x21 x22 (.bool true) (.agg #[.int .i64 9591, .int .i64 10241]) (.agg #[.int .i64 9591, .int .i64 10241]) (.bool true) x27 x28 x29 x30 x31 x32 x33 x34 x0 u u2 u3 w1) := ⟨F.q2, F.q3, F.q4, F.q5, F.q6, F.q7, F.q8, F.q9, fun _ => ⟨(show _ from (by simp [hdep] : d_ 7 = true)), (show _ from (by simp [hdep] : d_ 8 = true)), (show _ from (by simp [hdep] : d_ 9 = true))⟩, fun h => andL1 (F.q11 h) rfl, F.q12, F.q13, F.q14, F.q15, F.q16, F.q17, F.q18, fun h => andM10 (F.q19 h) rfl, F.f0, F.f1, F.f2, F.f3, F.f4, F.f5, F.f6, F.f7, F.f8, F.f9, fun _ => rfl, F.f11, F.f12, F.f13, F.f14, F.f15, F.f16, F.f17, F.f18, F.f19, F.st0, F.st1, F.st2, F.st3⟩
      clear F
      go_simp
      exact HK.out _ _ ⟨_, _, _, _, _, _, _, _, _, _, _, _, _, _, _, _, _, _, _, _, _, _, _, rfl, HF.out⟩
    · obtain rfl := F.f7 (by simp [hdep])
      obtain rfl := F.f10 (by simp [hdep])
      have HF : Hid (ali3F b1 b3 S0 S1 S2 S3 (upd d_ 11) x16 x17 x18 x19 x20 x21 x22 (.bool true) x24 x25 (.bool true) (.bool true) x28 x29 x30 x31 x32 x33 x34 x0 u u2 u3 w1) := ⟨F.q2, F.q3, F.q4, F.q5, F.q6, F.q7, F.q8, F.q9, F.q10, fun _ => ⟨(show _ from (by simp [hdep] : d_ 7 = true)), (show _ from (by simp [hdep] : d_ 10 = true))⟩, fun h => andL1 (F.q12 h) rfl, F.q13, F.q14, F.q15, F.q16, F.q17, F.q18, fun h => andM11 (F.q19 h) rfl, F.f0, F.f1, F.f2, F.f3, F.f4, F.f5, F.f6, F.f7, F.f8, F.f9, F.f10, fun _ => rfl, F.f12, F.f13, F.f14, F.f15, F.f16, F.f17, F.f18, F.f19, F.st0, F.st1, F.st2, F.st3⟩
      clear F
      go_simp
      exact HK.out _ _ ⟨_, _, _, _, _, _, _, _, _, _, _, _, _, _, _, _, _, _, _, _, _, _, _, rfl, HF.out⟩
    · obtain rfl := F.f11 (by simp [hdep])
      have HF : Hid (ali3F b1 b3 S0 S1 S2 S3 (upd d_ 12) x16 x17 x18 x19 x20 x21 x22 x23 x24 x25 x26 (.bool true) (.bool true) x29 x30 x31 x32 x33 x34 x0 u u2 u3 w1) := ⟨F.q2, F.q3, F.q4, F.q5, F.q6, F.q7, F.q8, F.q9, F.q10, F.q11, fun _ => ⟨(show _ from (by simp [hdep] : d_ 9 = true)), (show _ from (by simp [hdep] : d_ 11 = true))⟩, fun h => rfl, fun h => andM0 (F.q14 h) rfl, fun h => andM0 (F.q15 h) rfl, fun h => andM0 (F.q16 h) rfl, F.q17, F.q18, fun h => andM12 (F.q19 h) rfl, F.f0, F.f1, F.f2, F.f3, F.f4, F.f5, F.f6, F.f7, F.f8, F.f9, F.f10, F.f11, fun _ => rfl, F.f13, F.f14, F.f15, F.f16, F.f17, F.f18, F.f19, F.st0, F.st1, F.st2, F.st3⟩
      clear F
      go_simp
      exact HK.out _ _ ⟨_, _, _, _, _, _, _, _, _, _, _, _, _, _, _, _, _, _, _, _, _, _, _, rfl, HF.out⟩
    · obtain rfl := F.f12 (by simp [hdep])
      have HF : Hid (ali3F b1 b3 S0 S1 S2 S3 (upd d_ 13) x16 x17 x18 x19 x20 x21 x22 x23 x24 x25 x26 x27 (.bool true) (.int .i64 0) x30 x31 x32 x33 x34 x0 u u2 u3 w1) := ⟨F.q2, F.q3, F.q4, F.q5, F.q6, F.q7, F.q8, F.q9, F.q10, F.q11, F.q12, fun _ => (show _ from (by simp [hdep] : d_ 12 = true)), fun h => andL1 (F.q14 h) rfl, F.q15, F.q16, F.q17, F.q18, fun h => andM13 (F.q19 h) rfl, F.f0, F.f1, F.f2, F.f3, F.f4, F.f5, F.f6, F.f7, F.f8, F.f9, F.f10, F.f11, F.f12, fun _ => rfl, F.f14, F.f15, F.f16, F.f17, F.f18, F.f19, F.st0, F.st1, F.st2, F.st3⟩
      clear F
      go_simp
      exact HK.out _ _ ⟨_, _, _, _, _, _, _, _, _, _, _, _, _, _, _, _, _, _, _, _, _, _, _, rfl, HF.out⟩
    · obtain rfl := F.f12 (by simp [hdep])
      obtain rfl := F.f13 (by simp [hdep])
      have HF : Hid (ali3F b1 b3 S0 S1 S2 S3 (upd d_ 14) x16 x17 x18 x19 x20 x21 x22 x23 x24 x25 x26 x27 (.bool true) (.int .i64 0) (.bool true) x31 x32 x33 x34 x0 u u2 u3 w1) := ⟨F.q2, F.q3, F.q4, F.q5, F.q6, F.q7, F.q8, F.q9, F.q10, F.q11, F.q12, F.q13, fun _ => ⟨(show _ from (by simp [hdep] : d_ 12 = true)), (show _ from (by simp [hdep] : d_ 13 = true))⟩, fun h => andL1 (F.q15 h) rfl, F.q16, F.q17, F.q18, fun h => andM14 (F.q19 h) rfl, F.f0, F.f1, F.f2, F.f3, F.f4, F.f5, F.f6, F.f7, F.f8, F.f9, F.f10, F.f11, F.f12, F.f13, fun _ => rfl, F.f15, F.f16, F.f17, F.f18, F.f19, F.st0, F.st1, F.st2, F.st3⟩
      clear F
      go_simp
      exact HK.out _ _ ⟨_, _, _, _, _, _, _, _, _, _, _, _, _, _, _, _, _, _, _, _, _, _, _, rfl, HF.out⟩
    · obtain rfl := F.f12 (by simp [hdep])
      obtain rfl := F.f14 (by simp [hdep])
      have HF : Hid (ali3F b1 b3 S0 S1 S2 S3 (upd d_ 15) x16 x17 x18 x19 x20 x21 x22 x23 x24 x25 x26 x27 (.bool true) x29 (.bool true) (.bool true) x32 x33 x34 x0 u u2 u3 w1) := ⟨F.q2, F.q3, F.q4, F.q5, F.q6, F.q7, F.q8, F.q9, F.q10, F.q11, F.q12, F.q13, F.q14, fun _ => ⟨(show _ from (by simp [hdep] : d_ 12 = true)), (show _ from (by simp [hdep] : d_ 14 = true))⟩, fun h => andL1 (F.q16 h) rfl, F.q17, F.q18, fun h => andM15 (F.q19 h) rfl, F.f0, F.f1, F.f2, F.f3, F.f4, F.f5, F.f6, F.f7, F.f8, F.f9, F.f10, F.f11, F.f12, F.f13, F.f14, fun _ => rfl, F.f16, F.f17, F.f18, F.f19, F.st0, F.st1, F.st2, F.st3⟩
      clear F
      go_simp
      exact HK.out _ _ ⟨_, _, _, _, _, _, _, _, _, _, _, _, _, _, _, _, _, _, _, _, _, _, _, rfl, HF.out⟩
    · obtain rfl := F.f15 (by simp [hdep])
      have HF : Hid (ali3F b1 b3 S0 S1 S2 S3 (upd d_ 16) x16 x17 x18 x19 x20 x21 x22 x23 x24 x25 x26 x27 x28 x29 x30 (.bool true) (.bool true) x33 x34 x0 u u2 u3 w1) := ⟨F.q2, F.q3, F.q4, F.q5, F.q6, F.q7, F.q8, F.q9, F.q10, F.q11, F.q12, F.q13, F.q14, F.q15, fun _ => ⟨(show _ from (by simp [hdep] : d_ 12 = true)), (show _ from (by simp [hdep] : d_ 15 = true))⟩, fun h => rfl, fun h => andM0 (F.q18 h) rfl, fun h => andM16 (F.q19 h) rfl, F.f0, F.f1, F.f2, F.f3, F.f4, F.f5, F.f6, F.f7, F.f8, F.f9, F.f10, F.f11, F.f12, F.f13, F.f14, F.f15, fun _ => rfl, F.f17, F.f18, F.f19, F.st0, F.st1, F.st2, F.st3⟩
      clear F
      go_simp
      exact HK.out _ _ ⟨_, _, _, _, _, _, _, _, _, _, _, _, _, _, _, _, _, _, _, _, _, _, _, rfl, HF.out⟩
    · have hS := F.st2 (F.q12 (F.q16 (by simp [hdep] : d_ 16 = true)).1).1 hd_
      obtain rfl := F.f16 (by simp [hdep])
      have hc := kc17.out u u2 w1 hS
      have HF := Lib.hid F
      clear F
      go_simp
      refine ⟨trivial, rfl, wideAt_calls (hc.mono ?_)⟩
      rintro e w5 ⟨v_, rfl, hres⟩
      exact HK.out _ _ ⟨_, _, _, _, _, _, _, _, _, _, _, _, _, _, _, _, _, _, _, _, u, u2, v_, rfl, ⟨HF.out.q2, HF.out.q3, HF.out.q4, HF.out.q5, HF.out.q6, HF.out.q7, HF.out.q8, HF.out.q9, HF.out.q10, HF.out.q11, HF.out.q12, HF.out.q13, HF.out.q14, HF.out.q15, HF.out.q16, fun _ => (show _ from (by simp [hdep] : d_ 16 = true)), fun h => ⟨(HF.out.q18 h).1, rfl⟩, fun h => ⟨(HF.out.q19 h).1, (HF.out.q19 h).2.1, (HF.out.q19 h).2.2.1, (HF.out.q19 h).2.2.2.1, (HF.out.q19 h).2.2.2.2.1, (HF.out.q19 h).2.2.2.2.2.1, (HF.out.q19 h).2.2.2.2.2.2.1, (HF.out.q19 h).2.2.2.2.2.2.2.1, (HF.out.q19 h).2.2.2.2.2.2.2.2.1, (HF.out.q19 h).2.2.2.2.2.2.2.2.2.1, (HF.out.q19 h).2.2.2.2.2.2.2.2.2.2.1, (HF.out.q19 h).2.2.2.2.2.2.2.2.2.2.2.1, (HF.out.q19 h).2.2.2.2.2.2.2.2.2.2.2.2.1, (HF.out.q19 h).2.2.2.2.2.2.2.2.2.2.2.2.2.1, (HF.out.q19 h).2.2.2.2.2.2.2.2.2.2.2.2.2.2.1, (HF.out.q19 h).2.2.2.2.2.2.2.2.2.2.2.2.2.2.2.1, (HF.out.q19 h).2.2.2.2.2.2.2.2.2.2.2.2.2.2.2.2.1, rfl, (HF.out.q19 h).2.2.2.2.2.2.2.2.2.2.2.2.2.2.2.2.2.2⟩, HF.out.f0, HF.out.f1, HF.out.f2, HF.out.f3, HF.out.f4, HF.out.f5, HF.out.f6, HF.out.f7, HF.out.f8, HF.out.f9, HF.out.f10, HF.out.f11, HF.out.f12, HF.out.f13, HF.out.f14, HF.out.f15, HF.out.f16, fun _ => rfl, HF.out.f18, HF.out.f19, fun h => (by have h2 : d_ 1 = false := h; rw [(HF.out.q3 (HF.out.q7 (HF.out.q9 (HF.out.q12 (HF.out.q16 (by simp [hdep] : d_ 16 = true)).1).1)).1).1] at h2; cases h2), fun _ h => (by have h2 : d_ 9 = false := h; rw [(HF.out.q12 (HF.out.q16 (by simp [hdep] : d_ 16 = true)).1).1] at h2; cases h2), fun _ h => (by simp [upd] at h), fun _ => hres⟩⟩
    · obtain rfl := F.f16 (by simp [hdep])
      obtain rfl := F.f17 (by simp [hdep])
      have HF : Hid (ali3F b1 b3 S0 S1 S2 S3 (upd d_ 18) x16 x17 x18 x19 x20 x21 x22 x23 x24 x25 x26 x27 x28 x29 x30 x31 (.bool true) (.bool true) (.bool true) x0 u u2 u3 w1) := ⟨F.q2, F.q3, F.q4, F.q5, F.q6, F.q7, F.q8, F.q9, F.q10, F.q11, F.q12, F.q13, F.q14, F.q15, F.q16, F.q17, fun _ => ⟨(show _ from (by simp [hdep] : d_ 16 = true)), (show _ from (by simp [hdep] : d_ 17 = true))⟩, fun h => andL18 (F.q19 h) rfl, F.f0, F.f1, F.f2, F.f3, F.f4, F.f5, F.f6, F.f7, F.f8, F.f9, F.f10, F.f11, F.f12, F.f13, F.f14, F.f15, F.f16, F.f17, fun _ => rfl, F.f19, F.st0, F.st1, F.st2, F.st3⟩
      clear F
      go_simp
      exact HK.out _ _ ⟨_, _, _, _, _, _, _, _, _, _, _, _, _, _, _, _, _, _, _, _, _, _, _, rfl, HF.out⟩
    · obtain rfl := F.f18 (by simp [hdep])
      have HF : Hid (ali3F b1 b3 S0 S1 S2 S3 (upd d_ 19) x16 x17 x18 x19 x20 x21 x22 x23 x24 x25 x26 x27 x28 x29 x30 x31 x32 x33 (.bool true) (.bool true) u u2 u3 w1) := ⟨F.q2, F.q3, F.q4, F.q5, F.q6, F.q7, F.q8, F.q9, F.q10, F.q11, F.q12, F.q13, F.q14, F.q15, F.q16, F.q17, F.q18, fun _ => ⟨(show _ from (by simp [hdep] : d_ 0 = true)), (show _ from (by simp [hdep] : d_ 1 = true)), (show _ from (by simp [hdep] : d_ 2 = true)), (show _ from (by simp [hdep] : d_ 3 = true)), (show _ from (by simp [hdep] : d_ 4 = true)), (show _ from (by simp [hdep] : d_ 5 = true)), (show _ from (by simp [hdep] : d_ 6 = true)), (show _ from (by simp [hdep] : d_ 7 = true)), (show _ from (by simp [hdep] : d_ 8 = true)), (show _ from (by simp [hdep] : d_ 9 = true)), (show _ from (by simp [hdep] : d_ 10 = true)), (show _ from (by simp [hdep] : d_ 11 = true)), (show _ from (by simp [hdep] : d_ 12 = true)), (show _ from (by simp [hdep] : d_ 13 = true)), (show _ from (by simp [hdep] : d_ 14 = true)), (show _ from (by simp [hdep] : d_ 15 = true)), (show _ from (by simp [hdep] : d_ 16 = true)), (show _ from (by simp [hdep] : d_ 17 = true)), (show _ from (by simp [hdep] : d_ 18 = true))⟩, F.f0, F.f1, F.f2, F.f3, F.f4, F.f5, F.f6, F.f7, F.f8, F.f9, F.f10, F.f11, F.f12, F.f13, F.f14, F.f15, F.f16, F.f17, F.f18, fun _ => rfl, F.st0, F.st1, F.st2, F.st3⟩
      clear F
      go_simp
      exact HK.out _ _ ⟨_, _, _, _, _, _, _, _, _, _, _, _, _, _, _, _, _, _, _, _, _, _, _, rfl, HF.out⟩
  · rintro d_ a_ w1 hall ⟨x16, x17, x18, x19, x20, x21, x22, x23, x24, x25, x26, x27, x28, x29, x30, x31, x32, x33, x34, x0, u, u2, u3, rfl, F⟩
    have hall' : ∀ k, k < 20 → d_ k = true := hall
    obtain rfl := F.f0 (hall' 0 (by decide))
    obtain rfl := F.f1 (hall' 1 (by decide))
    obtain rfl := F.f2 (hall' 2 (by decide))
    obtain rfl := F.f3 (hall' 3 (by decide))
    obtain rfl := F.f4 (hall' 4 (by decide))
    obtain rfl := F.f5 (hall' 5 (by decide))
    obtain rfl := F.f6 (hall' 6 (by decide))
    obtain rfl := F.f7 (hall' 7 (by decide))
    obtain rfl := F.f8 (hall' 8 (by decide))
    obtain rfl := F.f9 (hall' 9 (by decide))
    obtain rfl := F.f10 (hall' 10 (by decide))
    obtain rfl := F.f11 (hall' 11 (by decide))
    obtain rfl := F.f12 (hall' 12 (by decide))
    obtain rfl := F.f13 (hall' 13 (by decide))
    obtain rfl := F.f14 (hall' 14 (by decide))
    obtain rfl := F.f15 (hall' 15 (by decide))
    obtain rfl := F.f16 (hall' 16 (by decide))
    obtain rfl := F.f17 (hall' 17 (by decide))
    obtain rfl := F.f18 (hall' 18 (by decide))
    obtain rfl := F.f19 (hall' 19 (by decide))
    have hst := F.st3 (hall' 17 (by decide))
    exact HQ.out u u2 u3 w1 hst
end Go.Proofs.Ytbnhngfegnhaiaa
namespace Go.Proofs.Ytbnhngfegnhaiaa
open Go.RowKit
set_option linter.unusedVariables false
set_option linter.unusedSimpArgs false
set_option maxRecDepth 100000 in
set_option maxHeartbeats 8000000 in
theorem alive14 {w : World} : Calls Try.prog 14 #[] w fun e w' => e = .returned (.bool true) ∧ Below w.heap.size w w' := by
  go_enter Try.func14, Try.ntmps14
  refine wp_seq_hid ?_
  intro K0 HK0
  go_wp2_with fail
  refine HK0.out _ _ ?_
  clear HK0 K0
  refine wp_seq_hid ?_
  intro K1 HK1
  go_wp2_with fail
  refine rows34.mono ?_
  rintro e w1 ⟨al, ar, rfl, h1, h2, hb⟩
  have H1 := Lib.hid (And.intro h1 (And.intro h2 hb))
  clear h1 h2 hb
  go_wp2_with fail
  refine (count33 rows02_valid H1.out.1 H1.out.2.1).mono ?_
  rintro e w2 ⟨rfl, hb⟩
  rw [rows02_count]
  have H2 := Lib.hid (H1.out.2.2.trans (hb.mono H1.out.2.2.size))
  clear hb H1
  go_wp2_with fail
  refine HK1.out _ _ ?_
  clear HK1 K1
  refine wp_seq_hid ?_
  intro K2 HK2
  go_wp2_with fail
  refine rows34.mono ?_
  rintro e w3 ⟨al, ar, rfl, h1, h2, hb⟩
  have H3 := Lib.hid (And.intro h1 (And.intro h2 (H2.out.trans (hb.mono H2.out.size))))
  clear h1 h2 hb H2
  go_wp2_with fail
  refine (shift35 (i := 0) rows02_valid H3.out.1 H3.out.2.1 (by decide)).mono ?_
  rintro e w4 ⟨rfl, hb⟩
  rw [rows02_shift]
  have H4 := Lib.hid (H3.out.2.2.trans (hb.mono H3.out.2.2.size))
  clear hb H3
  have HA := Lib.hid (And.intro (World.alloc_heap_new w4 (.cells #[.int .i64 8, .int .i64 12] 23)) (alloc_below w4 (.cells #[.int .i64 8, .int .i64 12] 23)))
  go_wp2_with fail
  refine HK2.out _ _ ?_
  clear HK2 K2
  revert HA
  generalize w4.alloc (.cells #[.int .i64 8, .int .i64 12] 23) = w5
  generalize hb3 : w4.heap.size = b3
  intro HA
  have H5 : Hid (Below w.heap.size w w5) := H4.out.trans (by have h := HA.out.2; rw [← hb3] at h; exact h.mono H4.out.size)
  clear hb3 H4
  refine wp_seq_hid ?_
  intro K3 HK3
  go_wp2_with fail
  refine pair32.mono ?_
  rintro e w6 ⟨rfl, hb6⟩
  have H6 := Lib.hid hb6
  clear hb6
  go_wp2_with fail
  refine (power9 (fun i hi => absurd hi (Nat.not_lt_zero _)) (by decide)).mono ?_
  rintro e w7 ⟨rfl, hb⟩
  rw [show powerE pair02 = (⟨585000, 594000⟩, 0) by decide]
  have H7 := Lib.hid (H6.out.trans (hb.mono H6.out.size))
  clear hb H6
  have HA2 := Lib.hid (And.intro (World.alloc_heap_new w7 (.cells #[.int .i64 585000, .int .i64 594000] 23)) (alloc_below w7 (.cells #[.int .i64 585000, .int .i64 594000] 23)))
  go_wp2_with fail
  refine HK3.out _ _ ?_
  clear HK3 K3
  revert HA2
  generalize w7.alloc (.cells #[.int .i64 585000, .int .i64 594000] 23) = w8
  generalize hb5 : w7.heap.size = b5
  intro HA2
  have H8 : Hid (Below w5.heap.size w5 w8) := H7.out.trans (by have h := HA2.out.2; rw [← hb5] at h; exact h.mono H7.out.size)
  clear hb5 H7
  have e3 : w8.heap[b3]? = some (.cells #[.int .i64 8, .int .i64 12] 23 (0, 0)) := (H8.out.block _ (heap_lt HA.out.1)).trans HA.out.1
  have HE := Lib.hid (And.intro e3 (And.intro HA2.out.1 (H5.out.trans (H8.out.mono H5.out.size))))
  clear e3 HA HA2 H5 H8
  refine wp_seq_hid ?_
  intro K4 HK4
  refine wpIn_wide.1 (ali4 (b3 := b3) (b5 := b5) (S0 := fun v => Below w8.heap.size w8 v) (S1 := fun _ v => Below w8.heap.size w8 v) (S2 := fun _ _ v => Below w8.heap.size w8 v) ?h0 ?l1 ?c1 ?l2 ?c2 ?hQ)
  case h0 => exact (Below.refl _ _).drew
  case l1 =>
    intro u v h
    have h : Below w8.heap.size w8 v := h.elim id id
    have e := (h.block _ (heap_lt HE.out.1)).trans HE.out.1
    exact ⟨by rw [cell_of_heap e]; rfl, by rw [cell_of_heap e]; rfl⟩
  case l2 =>
    intro u u2 v h
    have h : Below w8.heap.size w8 v := h.elim id id
    have e := (h.block _ (heap_lt HE.out.2.1)).trans HE.out.2.1
    exact ⟨by rw [cell_of_heap e]; rfl, by rw [cell_of_heap e]; rfl⟩
  case c1 =>
    intro v h
    refine span13.mono ?_
    rintro e v' ⟨rfl, hb⟩
    exact ⟨(), rfl, h.trans (hb.mono h.size)⟩
  case c2 =>
    intro u v h
    refine span13.mono ?_
    rintro e v' ⟨rfl, hb⟩
    exact ⟨(), rfl, h.trans (hb.mono h.size)⟩
  case hQ =>
    intro u u2 v h
    refine HK4.out _ _ ?_
    go_wp2_with fail
    go_ret
    exact ⟨rfl, HE.out.2.2.trans (h.mono HE.out.2.2.size)⟩
set_option maxRecDepth 100000 in
set_option maxHeartbeats 8000000 in
theorem alive5 {w : World} : Calls Try.prog 5 #[] w fun e w' => e = .returned (.bool true) ∧ Below w.heap.size w w' := by
  go_enter Try.func5, Try.ntmps5
  refine wp_seq_hid ?_
  intro K0 HK0
  go_wp2_with fail
  refine HK0.out _ _ ?_
  clear HK0 K0
  refine wp_seq_hid ?_
  intro K1 HK1
  go_wp2_with fail
  refine glacier12.mono ?_
  rintro e w1 ⟨al, ar, rfl, h1, h2, hb⟩
  have H1 := Lib.hid (And.intro h1 (And.intro h2 hb))
  clear h1 h2 hb
  go_wp2_with fail
  refine (moved6 (g := glacier05) (k := 1) (by decide) (by decide) H1.out.1 H1.out.2.1).mono ?_
  rintro e w2 ⟨rfl, hb⟩
  rw [show movedE glacier05 (1 : Nat) = (⟨-2001, -856⟩, 0) by decide]
  have H2 := Lib.hid (H1.out.2.2.trans (hb.mono H1.out.2.2.size))
  clear hb H1
  have HA := Lib.hid (And.intro (World.alloc_heap_new w2 (.cells #[.int .i64 (-2001), .int .i64 (-856)] 23)) (alloc_below w2 (.cells #[.int .i64 (-2001), .int .i64 (-856)] 23)))
  go_wp2_with fail
  refine HK1.out _ _ ?_
  clear HK1 K1
  revert HA
  generalize w2.alloc (.cells #[.int .i64 (-2001), .int .i64 (-856)] 23) = w5
  generalize hb3 : w2.heap.size = b1
  intro HA
  have H5 : Hid (Below w.heap.size w w5) := H2.out.trans (by have h := HA.out.2; rw [← hb3] at h; exact h.mono H2.out.size)
  clear hb3 H2
  refine wp_seq_hid ?_
  intro K3 HK3
  go_wp2_with fail
  refine glacier12.mono ?_
  rintro e w6 ⟨al, ar, rfl, h1, h2, hb⟩
  have H6 := Lib.hid (And.intro h1 hb)
  clear h1 h2 hb
  have hf : ∀ w : World, (Instr.field 28 (glacier05.v al 2 ar 2) 0).run Try.prog w = .ok ((view05 50).v al 2) w := fun _ => by kernel_rfl
  go_wp2_with fail
  refine (distance7 (p := view05 50) (n := 1) H6.out.1 (by decide)).mono ?_
  rintro e w7 ⟨rfl, hb⟩
  rw [show distE (view05 50) 1 = (⟨9591, 10241⟩, 0) by decide]
  have H7 := Lib.hid (H6.out.2.trans (hb.mono H6.out.2.size))
  clear hb H6
  have HA2 := Lib.hid (And.intro (World.alloc_heap_new w7 (.cells #[.int .i64 9591, .int .i64 10241] 23)) (alloc_below w7 (.cells #[.int .i64 9591, .int .i64 10241] 23)))
  go_wp2_with fail
  refine HK3.out _ _ ?_
  clear HK3 K3
  revert HA2
  generalize w7.alloc (.cells #[.int .i64 9591, .int .i64 10241] 23) = w8
  generalize hb5 : w7.heap.size = b3
  intro HA2
  have H8 : Hid (Below w5.heap.size w5 w8) := H7.out.trans (by have h := HA2.out.2; rw [← hb5] at h; exact h.mono H7.out.size)
  clear hb5 H7
  have e3 : w8.heap[b1]? = some (.cells #[.int .i64 (-2001), .int .i64 (-856)] 23 (0, 0)) := (H8.out.block _ (heap_lt HA.out.1)).trans HA.out.1
  have HE := Lib.hid (And.intro e3 (And.intro HA2.out.1 (H5.out.trans (H8.out.mono H5.out.size))))
  clear e3 HA HA2 H5 H8
  refine wp_seq_hid ?_
  intro K4 HK4
  refine wpIn_wide.1 (ali3 (b1 := b1) (b3 := b3) (S0 := fun v => Below w8.heap.size w8 v) (S1 := fun _ v => Below w8.heap.size w8 v) (S2 := fun _ _ v => Below w8.heap.size w8 v) (S3 := fun _ _ _ v => Below w8.heap.size w8 v) ?h0 ?l1 ?c1 ?l2 ?c2 ?c3 ?hQ)
  case h0 => exact (Below.refl _ _).drew
  case l1 =>
    intro u v h
    have h : Below w8.heap.size w8 v := h.elim id id
    have e := (h.block _ (heap_lt HE.out.1)).trans HE.out.1
    exact ⟨by rw [cell_of_heap e]; rfl, by rw [cell_of_heap e]; rfl⟩
  case l2 =>
    intro u u2 v h
    have h : Below w8.heap.size w8 v := h.elim id id
    have e := (h.block _ (heap_lt HE.out.2.1)).trans HE.out.2.1
    exact ⟨by rw [cell_of_heap e]; rfl, by rw [cell_of_heap e]; rfl⟩
  case c1 =>
    intro v h
    refine span13.mono ?_
    rintro e v' ⟨rfl, hb⟩
    exact ⟨(), rfl, h.trans (hb.mono h.size)⟩
  case c2 =>
    intro u v h
    refine span13.mono ?_
    rintro e v' ⟨rfl, hb⟩
    exact ⟨(), rfl, h.trans (hb.mono h.size)⟩
  case c3 =>
    intro u u2 v h
    refine alive14.mono ?_
    rintro e v' ⟨rfl, hb⟩
    exact ⟨(), rfl, h.trans (hb.mono h.size)⟩
  case hQ =>
    intro u u2 u3 v h
    refine HK4.out _ _ ?_
    go_wp2_with fail
    go_ret
    exact ⟨rfl, HE.out.2.2.trans (h.mono HE.out.2.2.size)⟩
end Go.Proofs.Ytbnhngfegnhaiaa
namespace Go.Proofs.Ytbnhngfegnhaiaa
open Go.RowKit
set_option linter.unusedVariables false
set_option linter.unusedSimpArgs false
theorem all_upto {f : Thg → Bool} : ∀ {l : List Thg}, (∀ i, i < l.length → f (gt l i) = true) → l.all f = true := fun {l} h => by
  rw [List.all_eq_true]
  intro x hx
  obtain ⟨i, hi, rfl⟩ := List.getElem_of_mem hx
  have := h i hi
  simpa [gt, hi] using this
theorem all_not {f : Thg → Bool} {l : List Thg} {i : Nat} (hi : i < l.length) (h : f (gt l i) = false) : l.all f = false := by
  rw [Bool.eq_false_iff]
  intro e
  rw [List.all_eq_true] at e
  have := e _ (gt_mem hi)
  rw [h] at this
  cases this
set_option maxRecDepth 100000 in
set_option maxHeartbeats 8000000 in
theorem pair10 {p : Par} {a : Option Addr} {c : Nat} {w : World} (ha : IsThs w a p.things) (hl : p.things.length ≤ 12) : Calls Try.prog 10 #[p.v a c] w fun e w' => e = .returned (.bool p.valid) ∧ Below w.heap.size w w' := by
  have HX := Lib.hid (And.intro (World.alloc_heap_new w (.cells (p.arr a c) 26)) (alloc_below w (.cells (p.arr a c) 26)))
  have HA := Lib.hid (And.intro (ha.mono HX.out.2) hl)
  clear ha
  go_enter Try.func10, Try.ntmps10
  refine wp_seq_hid ?_
  intro K0 HK0
  go_wp2_with fail
  refine HK0.out _ _ ?_
  clear HK0 K0
  revert HX HA
  generalize w.alloc (.cells (p.arr a c) 26) = w1
  generalize hb1 : w.heap.size = b1
  intro HX HA
  have HLT : Hid (b1 < w1.heap.size) := heap_lt HX.out.1
  clear hb1
  have KF : Hid (∀ v, Below w1.heap.size w1 v → v.heap[b1]? = some (.cells (p.arr a c) 26 (0, 0)) ∧ IsThs v a p.things ∧ Below b1 w v) := fun v hv =>
    ⟨(hv.block _ (heap_lt HX.out.1)).trans HX.out.1, HA.out.1.mono hv, HX.out.2.trans (hv.mono (Nat.le_of_lt HLT.out))⟩
  have HB1 := Lib.hid (Below.refl w1.heap.size w1)
  refine wp_seq_hid ?_
  intro K1 HK1
  refine wp_seq_hid ?_
  intro K2 HK2
  go_wp2_with fail
  refine HK2.out _ _ ?_
  clear HK2 K2
  go_wp2_with fail
  go_loopw [3] (fun q wr => ∃ k : Nat, k ≤ p.things.length ∧ q = .int .i64 k ∧ Hid (Below w1.heap.size w1 wr ∧ ∀ i, i < k → thgOk p (gt p.things i) = true)) (fun q _ => p.things.length - (intOf q).toNat)
  case atStart => exact ⟨0, by omega, rfl, HB1.out, fun i hi => by omega⟩
  case round =>
    obtain ⟨k, hk, rfl, HW⟩ := hrel
    have hBw : Hid (Below w1.heap.size w1 wr) := HW.out.1
    have hq := (KF.out wr hBw.out).1
    have k0 : wr.cell? ⟨b1, 0, none⟩ = some (.int .i64 p.focal.lo) := by rw [cell_of_heap hq]; rfl
    have k1 : wr.cell? ⟨b1, 1, none⟩ = some (.int .i64 p.focal.hi) := by rw [cell_of_heap hq]; rfl
    have k2 : wr.cell? ⟨b1, 2, none⟩ = some (.int .i64 p.base.lo) := by rw [cell_of_heap hq]; rfl
    have k3 : wr.cell? ⟨b1, 3, none⟩ = some (.int .i64 p.base.hi) := by rw [cell_of_heap hq]; rfl
    have k4 : wr.cell? ⟨b1, 4, none⟩ = some (.int .i64 p.tilt) := by rw [cell_of_heap hq]; rfl
    have k5 : wr.cell? ⟨b1, 5, none⟩ = some (.int .i64 p.near) := by rw [cell_of_heap hq]; rfl
    have k6 : wr.cell? ⟨b1, 6, none⟩ = some (.int .i64 p.far) := by rw [cell_of_heap hq]; rfl
    have k7 : wr.cell? ⟨b1, 7, none⟩ = some (.slice a p.things.length c) := by rw [cell_of_heap hq]; rfl
    clear hq
    by_cases hlt : k < p.things.length
    case neg =>
      obtain rfl : k = p.things.length := by omega
      have HALL : Hid (p.things.all (thgOk p) = true) := all_upto HW.out.2
      go_wp2_with fail
      refine HK1.out _ _ ?_
      have hd : decide ((p.things.length : Int) ≤ 12) = true := by simp; omega
      have HD := Lib.hid hd
      clear k0 k1 k2 k3 k4 k5 k6 k7
      have hq := (KF.out wr hBw.out).1
      have k0 : wr.cell? ⟨b1, 0, none⟩ = some (.int .i64 p.focal.lo) := by rw [cell_of_heap hq]; rfl
      have k1 : wr.cell? ⟨b1, 1, none⟩ = some (.int .i64 p.focal.hi) := by rw [cell_of_heap hq]; rfl
      have k2 : wr.cell? ⟨b1, 2, none⟩ = some (.int .i64 p.base.lo) := by rw [cell_of_heap hq]; rfl
      have k3 : wr.cell? ⟨b1, 3, none⟩ = some (.int .i64 p.base.hi) := by rw [cell_of_heap hq]; rfl
      have k4 : wr.cell? ⟨b1, 4, none⟩ = some (.int .i64 p.tilt) := by rw [cell_of_heap hq]; rfl
      have k5 : wr.cell? ⟨b1, 5, none⟩ = some (.int .i64 p.near) := by rw [cell_of_heap hq]; rfl
      have k6 : wr.cell? ⟨b1, 6, none⟩ = some (.int .i64 p.far) := by rw [cell_of_heap hq]; rfl
      have k7 : wr.cell? ⟨b1, 7, none⟩ = some (.slice a p.things.length c) := by rw [cell_of_heap hq]; rfl
      clear hq
      go_wp2_with fail
      refine (isSpan29 p.focal _ _ _).mono ?_
      clear k0 k1 k2 k3 k4 k5 k6 k7
      rintro e u0_ ⟨rfl, hb⟩
      have HBu0_ := Lib.hid (hBw.out.trans (hb.mono hBw.out.size))
      clear hb
      cases h0 : p.focal.ok 1 50000
      case false =>
        have E0 := Lib.hid h0
        clear h0
        go_wp2_with fail
        all_goals first
          | (refine ⟨fun _ _ => trivial, ?_⟩; go_wp2_with fail)
          | skip
        go_ret
        exact ⟨ret_bool (by unfold Par.valid Par.sizeOk; simp [E0.out]), (KF.out _ HBu0_.out).2.2⟩
      have E0 := Lib.hid h0
      clear h0
      have hq := (KF.out u0_ HBu0_.out).1
      have k0 : u0_.cell? ⟨b1, 0, none⟩ = some (.int .i64 p.focal.lo) := by rw [cell_of_heap hq]; rfl
      have k1 : u0_.cell? ⟨b1, 1, none⟩ = some (.int .i64 p.focal.hi) := by rw [cell_of_heap hq]; rfl
      have k2 : u0_.cell? ⟨b1, 2, none⟩ = some (.int .i64 p.base.lo) := by rw [cell_of_heap hq]; rfl
      have k3 : u0_.cell? ⟨b1, 3, none⟩ = some (.int .i64 p.base.hi) := by rw [cell_of_heap hq]; rfl
      have k4 : u0_.cell? ⟨b1, 4, none⟩ = some (.int .i64 p.tilt) := by rw [cell_of_heap hq]; rfl
      have k5 : u0_.cell? ⟨b1, 5, none⟩ = some (.int .i64 p.near) := by rw [cell_of_heap hq]; rfl
      have k6 : u0_.cell? ⟨b1, 6, none⟩ = some (.int .i64 p.far) := by rw [cell_of_heap hq]; rfl
      have k7 : u0_.cell? ⟨b1, 7, none⟩ = some (.slice a p.things.length c) := by rw [cell_of_heap hq]; rfl
      clear hq
      go_wp2_with fail
      refine (isSpan29 p.base _ _ _).mono ?_
      clear k0 k1 k2 k3 k4 k5 k6 k7
      rintro e u1_ ⟨rfl, hb⟩
      have HBu1_ := Lib.hid (HBu0_.out.trans (hb.mono HBu0_.out.size))
      clear hb
      cases h1 : p.base.ok 1 10000
      case false =>
        have E1 := Lib.hid h1
        clear h1
        go_wp2_with fail
        all_goals first
          | (refine ⟨fun _ _ => trivial, ?_⟩; go_wp2_with fail)
          | skip
        go_ret
        exact ⟨ret_bool (by unfold Par.valid Par.sizeOk; simp [E0.out, E1.out]), (KF.out _ HBu1_.out).2.2⟩
      have E1 := Lib.hid h1
      clear h1
      have hq := (KF.out u1_ HBu1_.out).1
      have k0 : u1_.cell? ⟨b1, 0, none⟩ = some (.int .i64 p.focal.lo) := by rw [cell_of_heap hq]; rfl
      have k1 : u1_.cell? ⟨b1, 1, none⟩ = some (.int .i64 p.focal.hi) := by rw [cell_of_heap hq]; rfl
      have k2 : u1_.cell? ⟨b1, 2, none⟩ = some (.int .i64 p.base.lo) := by rw [cell_of_heap hq]; rfl
      have k3 : u1_.cell? ⟨b1, 3, none⟩ = some (.int .i64 p.base.hi) := by rw [cell_of_heap hq]; rfl
      have k4 : u1_.cell? ⟨b1, 4, none⟩ = some (.int .i64 p.tilt) := by rw [cell_of_heap hq]; rfl
      have k5 : u1_.cell? ⟨b1, 5, none⟩ = some (.int .i64 p.near) := by rw [cell_of_heap hq]; rfl
      have k6 : u1_.cell? ⟨b1, 6, none⟩ = some (.int .i64 p.far) := by rw [cell_of_heap hq]; rfl
      have k7 : u1_.cell? ⟨b1, 7, none⟩ = some (.slice a p.things.length c) := by rw [cell_of_heap hq]; rfl
      clear hq
      go_wp2_with fail
      refine (within28 _ _ _ _).mono ?_
      clear k0 k1 k2 k3 k4 k5 k6 k7
      rintro e w_2 ⟨rfl, he⟩
      subst he
      cases h2 : inR p.tilt 0 1000
      case false =>
        have E2 := Lib.hid h2
        clear h2
        go_wp2_with fail
        all_goals first
          | (refine ⟨fun _ _ => trivial, ?_⟩; go_wp2_with fail)
          | skip
        go_ret
        exact ⟨ret_bool (by unfold Par.valid Par.sizeOk; simp [E0.out, E1.out, E2.out]), (KF.out _ HBu1_.out).2.2⟩
      have E2 := Lib.hid h2
      clear h2
      have hq := (KF.out u1_ HBu1_.out).1
      have k0 : u1_.cell? ⟨b1, 0, none⟩ = some (.int .i64 p.focal.lo) := by rw [cell_of_heap hq]; rfl
      have k1 : u1_.cell? ⟨b1, 1, none⟩ = some (.int .i64 p.focal.hi) := by rw [cell_of_heap hq]; rfl
      have k2 : u1_.cell? ⟨b1, 2, none⟩ = some (.int .i64 p.base.lo) := by rw [cell_of_heap hq]; rfl
      have k3 : u1_.cell? ⟨b1, 3, none⟩ = some (.int .i64 p.base.hi) := by rw [cell_of_heap hq]; rfl
      have k4 : u1_.cell? ⟨b1, 4, none⟩ = some (.int .i64 p.tilt) := by rw [cell_of_heap hq]; rfl
      have k5 : u1_.cell? ⟨b1, 5, none⟩ = some (.int .i64 p.near) := by rw [cell_of_heap hq]; rfl
      have k6 : u1_.cell? ⟨b1, 6, none⟩ = some (.int .i64 p.far) := by rw [cell_of_heap hq]; rfl
      have k7 : u1_.cell? ⟨b1, 7, none⟩ = some (.slice a p.things.length c) := by rw [cell_of_heap hq]; rfl
      clear hq
      go_wp2_with fail
      refine (within28 _ _ _ _).mono ?_
      clear k0 k1 k2 k3 k4 k5 k6 k7
      rintro e w_3 ⟨rfl, he⟩
      subst he
      cases h3 : inR p.near 2000 1073741824
      case false =>
        have E3 := Lib.hid h3
        clear h3
        go_wp2_with fail
        all_goals first
          | (refine ⟨fun _ _ => trivial, ?_⟩; go_wp2_with fail)
          | skip
        go_ret
        exact ⟨ret_bool (by unfold Par.valid Par.sizeOk; simp [E0.out, E1.out, E2.out, E3.out]), (KF.out _ HBu1_.out).2.2⟩
      have E3 := Lib.hid h3
      clear h3
      have hq := (KF.out u1_ HBu1_.out).1
      have k0 : u1_.cell? ⟨b1, 0, none⟩ = some (.int .i64 p.focal.lo) := by rw [cell_of_heap hq]; rfl
      have k1 : u1_.cell? ⟨b1, 1, none⟩ = some (.int .i64 p.focal.hi) := by rw [cell_of_heap hq]; rfl
      have k2 : u1_.cell? ⟨b1, 2, none⟩ = some (.int .i64 p.base.lo) := by rw [cell_of_heap hq]; rfl
      have k3 : u1_.cell? ⟨b1, 3, none⟩ = some (.int .i64 p.base.hi) := by rw [cell_of_heap hq]; rfl
      have k4 : u1_.cell? ⟨b1, 4, none⟩ = some (.int .i64 p.tilt) := by rw [cell_of_heap hq]; rfl
      have k5 : u1_.cell? ⟨b1, 5, none⟩ = some (.int .i64 p.near) := by rw [cell_of_heap hq]; rfl
      have k6 : u1_.cell? ⟨b1, 6, none⟩ = some (.int .i64 p.far) := by rw [cell_of_heap hq]; rfl
      have k7 : u1_.cell? ⟨b1, 7, none⟩ = some (.slice a p.things.length c) := by rw [cell_of_heap hq]; rfl
      clear hq
      go_wp2_with fail
      refine (within28 _ _ _ _).mono ?_
      clear k0 k1 k2 k3 k4 k5 k6 k7
      rintro e w_4 ⟨rfl, he⟩
      subst he
      cases h4 : inR p.far p.near 1073741824
      case false =>
        have E4 := Lib.hid h4
        clear h4
        go_wp2_with fail
        all_goals first
          | (refine ⟨fun _ _ => trivial, ?_⟩; go_wp2_with fail)
          | skip
        go_ret
        exact ⟨ret_bool (by unfold Par.valid Par.sizeOk; simp [E0.out, E1.out, E2.out, E3.out, E4.out]), (KF.out _ HBu1_.out).2.2⟩
      case true =>
        have E4 := Lib.hid h4
        clear h4
        go_wp2_with fail
        all_goals first
          | (refine ⟨fun _ _ => trivial, ?_⟩; go_wp2_with fail)
          | skip
        go_ret
        exact ⟨ret_bool (by unfold Par.valid Par.sizeOk; simp [E0.out, E1.out, E2.out, E3.out, E4.out, HALL.out, HA.out.2]), (KF.out _ HBu1_.out).2.2⟩
    case pos =>
      have HLK := Lib.hid hlt
      obtain ⟨bb, off, hae, hth⟩ := (KF.out wr hBw.out).2.1 k hlt
      subst hae
      revert hth
      generalize ht : gt p.things k = t
      have HT := Lib.hid ht
      clear ht
      intro hth
      obtain ⟨c0, c1, c2, c3, c4, c5, c6, c7, c8⟩ := hth
      have HY := Lib.hid (And.intro (World.alloc_heap_new wr (.cells t.arr 34)) (alloc_below wr (.cells t.arr 34)))
      go_upto_region 5 with fail
      have HB2 : Hid (Below w1.heap.size w1 (wr.alloc (.cells t.arr 34))) := hBw.out.trans (HY.out.2.mono hBw.out.size)
      clear c0 c1 c2 c3 c4 c5 c6 c7 c8 k0 k1 k2 k3 k4 k5 k6 k7
      revert HY HB2
      generalize wr.alloc (.cells t.arr 34) = w2
      generalize wr.heap.size = b4
      intro HY HB2
      have HZ2 := Lib.hid (Below.refl w2.heap.size w2)
      have hq := (HZ2.out.block _ (heap_lt HY.out.1)).trans HY.out.1
      have m0 : w2.cell? ⟨b4, 0, none⟩ = some (.int .i64 t.left.x.lo) := by rw [cell_of_heap hq]; rfl
      have m1 : w2.cell? ⟨b4, 1, none⟩ = some (.int .i64 t.left.x.hi) := by rw [cell_of_heap hq]; rfl
      have m2 : w2.cell? ⟨b4, 2, none⟩ = some (.int .i64 t.left.y.lo) := by rw [cell_of_heap hq]; rfl
      have m3 : w2.cell? ⟨b4, 3, none⟩ = some (.int .i64 t.left.y.hi) := by rw [cell_of_heap hq]; rfl
      have m4 : w2.cell? ⟨b4, 4, none⟩ = some (.int .i64 t.right.x.lo) := by rw [cell_of_heap hq]; rfl
      have m5 : w2.cell? ⟨b4, 5, none⟩ = some (.int .i64 t.right.x.hi) := by rw [cell_of_heap hq]; rfl
      have m6 : w2.cell? ⟨b4, 6, none⟩ = some (.int .i64 t.right.y.lo) := by rw [cell_of_heap hq]; rfl
      have m7 : w2.cell? ⟨b4, 7, none⟩ = some (.int .i64 t.right.y.hi) := by rw [cell_of_heap hq]; rfl
      have m8 : w2.cell? ⟨b4, 8, none⟩ = some (.int .i64 t.far) := by rw [cell_of_heap hq]; rfl
      clear hq
      go_wp2_with fail
      refine (place27 t.left _).mono ?_
      clear m0 m1 m2 m3 m4 m5 m6 m7 m8
      rintro e w3 ⟨rfl, hb⟩
      have HZ3 := Lib.hid (HZ2.out.trans (hb.mono HZ2.out.size))
      have HB3 := Lib.hid (HB2.out.trans (HZ3.out.mono HB2.out.size))
      clear hb
      cases h1 : t.left.ok
      case false =>
        have E1 := Lib.hid h1
        clear h1
        go_wp2_with fail
        all_goals first
          | (refine ⟨fun _ _ => trivial, ?_⟩; go_wp2_with fail)
          | skip
        go_ret
        exact ⟨ret_bool (by unfold Par.valid; rw [all_not HLK.out (by rw [HT.out]; unfold thgOk; simp [E1.out])]; simp), (KF.out _ HB3.out).2.2⟩
      have E1 := Lib.hid h1
      clear h1
      have hq := (HZ3.out.block _ (heap_lt HY.out.1)).trans HY.out.1
      have m0 : w3.cell? ⟨b4, 0, none⟩ = some (.int .i64 t.left.x.lo) := by rw [cell_of_heap hq]; rfl
      have m1 : w3.cell? ⟨b4, 1, none⟩ = some (.int .i64 t.left.x.hi) := by rw [cell_of_heap hq]; rfl
      have m2 : w3.cell? ⟨b4, 2, none⟩ = some (.int .i64 t.left.y.lo) := by rw [cell_of_heap hq]; rfl
      have m3 : w3.cell? ⟨b4, 3, none⟩ = some (.int .i64 t.left.y.hi) := by rw [cell_of_heap hq]; rfl
      have m4 : w3.cell? ⟨b4, 4, none⟩ = some (.int .i64 t.right.x.lo) := by rw [cell_of_heap hq]; rfl
      have m5 : w3.cell? ⟨b4, 5, none⟩ = some (.int .i64 t.right.x.hi) := by rw [cell_of_heap hq]; rfl
      have m6 : w3.cell? ⟨b4, 6, none⟩ = some (.int .i64 t.right.y.lo) := by rw [cell_of_heap hq]; rfl
      have m7 : w3.cell? ⟨b4, 7, none⟩ = some (.int .i64 t.right.y.hi) := by rw [cell_of_heap hq]; rfl
      have m8 : w3.cell? ⟨b4, 8, none⟩ = some (.int .i64 t.far) := by rw [cell_of_heap hq]; rfl
      clear hq
      go_wp2_with fail
      refine (place27 t.right _).mono ?_
      clear m0 m1 m2 m3 m4 m5 m6 m7 m8
      rintro e w4 ⟨rfl, hb⟩
      have HZ4 := Lib.hid (HZ3.out.trans (hb.mono HZ3.out.size))
      have HB4 := Lib.hid (HB2.out.trans (HZ4.out.mono HB2.out.size))
      clear hb
      cases h2 : t.right.ok
      case false =>
        have E2 := Lib.hid h2
        clear h2
        have hq := (HZ4.out.block _ (heap_lt HY.out.1)).trans HY.out.1
        have m0 : w4.cell? ⟨b4, 0, none⟩ = some (.int .i64 t.left.x.lo) := by rw [cell_of_heap hq]; rfl
        have m1 : w4.cell? ⟨b4, 1, none⟩ = some (.int .i64 t.left.x.hi) := by rw [cell_of_heap hq]; rfl
        have m2 : w4.cell? ⟨b4, 2, none⟩ = some (.int .i64 t.left.y.lo) := by rw [cell_of_heap hq]; rfl
        have m3 : w4.cell? ⟨b4, 3, none⟩ = some (.int .i64 t.left.y.hi) := by rw [cell_of_heap hq]; rfl
        have m4 : w4.cell? ⟨b4, 4, none⟩ = some (.int .i64 t.right.x.lo) := by rw [cell_of_heap hq]; rfl
        have m5 : w4.cell? ⟨b4, 5, none⟩ = some (.int .i64 t.right.x.hi) := by rw [cell_of_heap hq]; rfl
        have m6 : w4.cell? ⟨b4, 6, none⟩ = some (.int .i64 t.right.y.lo) := by rw [cell_of_heap hq]; rfl
        have m7 : w4.cell? ⟨b4, 7, none⟩ = some (.int .i64 t.right.y.hi) := by rw [cell_of_heap hq]; rfl
        have m8 : w4.cell? ⟨b4, 8, none⟩ = some (.int .i64 t.far) := by rw [cell_of_heap hq]; rfl
        clear hq
        have hq := (KF.out w4 HB4.out).1
        have k0 : w4.cell? ⟨b1, 0, none⟩ = some (.int .i64 p.focal.lo) := by rw [cell_of_heap hq]; rfl
        have k1 : w4.cell? ⟨b1, 1, none⟩ = some (.int .i64 p.focal.hi) := by rw [cell_of_heap hq]; rfl
        have k2 : w4.cell? ⟨b1, 2, none⟩ = some (.int .i64 p.base.lo) := by rw [cell_of_heap hq]; rfl
        have k3 : w4.cell? ⟨b1, 3, none⟩ = some (.int .i64 p.base.hi) := by rw [cell_of_heap hq]; rfl
        have k4 : w4.cell? ⟨b1, 4, none⟩ = some (.int .i64 p.tilt) := by rw [cell_of_heap hq]; rfl
        have k5 : w4.cell? ⟨b1, 5, none⟩ = some (.int .i64 p.near) := by rw [cell_of_heap hq]; rfl
        have k6 : w4.cell? ⟨b1, 6, none⟩ = some (.int .i64 p.far) := by rw [cell_of_heap hq]; rfl
        have k7 : w4.cell? ⟨b1, 7, none⟩ = some (.slice (some ⟨bb, off, none⟩) p.things.length c) := by rw [cell_of_heap hq]; rfl
        clear hq
        go_wp2_with fail
        all_goals first
          | (refine ⟨fun _ _ => trivial, ?_⟩; go_wp2_with fail)
          | skip
        go_ret
        exact ⟨ret_bool (by unfold Par.valid; rw [all_not HLK.out (by rw [HT.out]; unfold thgOk; simp [E1.out, E2.out])]; simp), (KF.out _ HB4.out).2.2⟩
      have E2 := Lib.hid h2
      clear h2
      have hq := (HZ4.out.block _ (heap_lt HY.out.1)).trans HY.out.1
      have m0 : w4.cell? ⟨b4, 0, none⟩ = some (.int .i64 t.left.x.lo) := by rw [cell_of_heap hq]; rfl
      have m1 : w4.cell? ⟨b4, 1, none⟩ = some (.int .i64 t.left.x.hi) := by rw [cell_of_heap hq]; rfl
      have m2 : w4.cell? ⟨b4, 2, none⟩ = some (.int .i64 t.left.y.lo) := by rw [cell_of_heap hq]; rfl
      have m3 : w4.cell? ⟨b4, 3, none⟩ = some (.int .i64 t.left.y.hi) := by rw [cell_of_heap hq]; rfl
      have m4 : w4.cell? ⟨b4, 4, none⟩ = some (.int .i64 t.right.x.lo) := by rw [cell_of_heap hq]; rfl
      have m5 : w4.cell? ⟨b4, 5, none⟩ = some (.int .i64 t.right.x.hi) := by rw [cell_of_heap hq]; rfl
      have m6 : w4.cell? ⟨b4, 6, none⟩ = some (.int .i64 t.right.y.lo) := by rw [cell_of_heap hq]; rfl
      have m7 : w4.cell? ⟨b4, 7, none⟩ = some (.int .i64 t.right.y.hi) := by rw [cell_of_heap hq]; rfl
      have m8 : w4.cell? ⟨b4, 8, none⟩ = some (.int .i64 t.far) := by rw [cell_of_heap hq]; rfl
      clear hq
      have hq := (KF.out w4 HB4.out).1
      have k0 : w4.cell? ⟨b1, 0, none⟩ = some (.int .i64 p.focal.lo) := by rw [cell_of_heap hq]; rfl
      have k1 : w4.cell? ⟨b1, 1, none⟩ = some (.int .i64 p.focal.hi) := by rw [cell_of_heap hq]; rfl
      have k2 : w4.cell? ⟨b1, 2, none⟩ = some (.int .i64 p.base.lo) := by rw [cell_of_heap hq]; rfl
      have k3 : w4.cell? ⟨b1, 3, none⟩ = some (.int .i64 p.base.hi) := by rw [cell_of_heap hq]; rfl
      have k4 : w4.cell? ⟨b1, 4, none⟩ = some (.int .i64 p.tilt) := by rw [cell_of_heap hq]; rfl
      have k5 : w4.cell? ⟨b1, 5, none⟩ = some (.int .i64 p.near) := by rw [cell_of_heap hq]; rfl
      have k6 : w4.cell? ⟨b1, 6, none⟩ = some (.int .i64 p.far) := by rw [cell_of_heap hq]; rfl
      have k7 : w4.cell? ⟨b1, 7, none⟩ = some (.slice (some ⟨bb, off, none⟩) p.things.length c) := by rw [cell_of_heap hq]; rfl
      clear hq
      by_cases hz : t.far = 0
      case pos =>
        have E3 := Lib.hid hz
        have hn : (t.far != 0) = false := by simp [hz]
        clear hz
        go_wp2_with fail
        all_goals first
          | (refine ⟨fun _ _ => trivial, ?_⟩; go_wp2_with fail)
          | skip
        go_roundw
        case rel =>
          refine ⟨k + 1, by have := HLK.out; omega, by go_num, HB4.out, fun i hi => ?_⟩
          by_cases hik : i < k
          · exact HW.out.2 i hik
          · obtain rfl : i = k := by omega
            rw [HT.out]
            unfold thgOk
            simp [E1.out, E2.out, E3.out]
        case measure =>
          have := HLK.out
          simp [intOf]
          omega
      have E3 := Lib.hid hz
      have hn : (t.far != 0) = true := by simp [hz]
      clear hz
      go_wp2_with fail
      refine (within28 _ _ _ _).mono ?_
      rintro e w5 ⟨rfl, he⟩
      subst he
      clear m0 m1 m2 m3 m4 m5 m6 m7 m8 k0 k1 k2 k3 k4 k5 k6 k7
      cases h4 : inR t.far p.near p.far
      case false =>
        have E4 := Lib.hid h4
        clear h4
        go_wp2_with fail
        all_goals first
          | (refine ⟨fun _ _ => trivial, ?_⟩; go_wp2_with fail)
          | skip
        go_ret
        exact ⟨ret_bool (by unfold Par.valid; rw [all_not HLK.out (by rw [HT.out]; unfold thgOk; simp [E1.out, E2.out, E3.out, E4.out])]; simp), (KF.out _ HB4.out).2.2⟩
      case true =>
        have E4 := Lib.hid h4
        clear h4
        go_wp2_with fail
        all_goals first
          | (refine ⟨fun _ _ => trivial, ?_⟩; go_wp2_with fail)
          | skip
        go_roundw
        case rel =>
          refine ⟨k + 1, by have := HLK.out; omega, by go_num, HB4.out, fun i hi => ?_⟩
          by_cases hik : i < k
          · exact HW.out.2 i hik
          · obtain rfl : i = k := by omega
            rw [HT.out]
            unfold thgOk
            simp [E1.out, E2.out, E3.out, E4.out]
        case measure =>
          have := HLK.out
          simp [intOf]
          omega
end Go.Proofs.Ytbnhngfegnhaiaa
namespace Go.Proofs.Ytbnhngfegnhaiaa
open Go.RowKit
set_option linter.unusedVariables false
set_option linter.unusedSimpArgs false
set_option maxRecDepth 100000 in
set_option maxHeartbeats 8000000 in
theorem glacier4 {g : Gla} {a1 a2 : Option Addr} {c1 c2 : Nat} {w : World} (h1 : IsThs w a1 g.first.things) (h2 : IsThs w a2 g.second.things) (l1 : g.first.things.length ≤ 12) (l2 : g.second.things.length ≤ 12) : Calls Try.prog 4 #[g.v a1 c1 a2 c2] w fun e w' => e = .returned (.bool g.valid) ∧ Below w.heap.size w w' := by
  have HX := Lib.hid (And.intro (World.alloc_heap_new w (.cells (g.arr a1 c1 a2 c2) 28)) (alloc_below w (.cells (g.arr a1 c1 a2 c2) 28)))
  have HA := Lib.hid (And.intro (h1.mono HX.out.2) (And.intro (h2.mono HX.out.2) (And.intro l1 l2)))
  clear h1 h2 l1 l2
  go_enter Try.func4, Try.ntmps4
  refine wp_seq_hid ?_
  intro K0 HK0
  go_wp2_with fail
  refine HK0.out _ _ ?_
  clear HK0 K0
  revert HX HA
  generalize w.alloc (.cells (g.arr a1 c1 a2 c2) 28) = w1
  generalize hb1 : w.heap.size = b1
  intro HX HA
  have HLT : Hid (b1 < w1.heap.size) := heap_lt HX.out.1
  clear hb1
  have KF : Hid (∀ v, Below w1.heap.size w1 v → GlaC v b1 g a1 c1 a2 c2 ∧ IsThs v a1 g.first.things ∧ IsThs v a2 g.second.things ∧ Below b1 w v) := fun v hv =>
    ⟨gla_cells ((hv.block _ (heap_lt HX.out.1)).trans HX.out.1), HA.out.1.mono hv, HA.out.2.1.mono hv, HX.out.2.trans (hv.mono (Nat.le_of_lt HLT.out))⟩
  have HB1 := Lib.hid (Below.refl w1.heap.size w1)
  obtain ⟨q0, q1, q2, q3, q4, q5, q6, q7, q8, q9, q10, q11, q12, q13, q14, q15, q16, q17⟩ := (KF.out w1 HB1.out).1
  go_wp2_with fail
  refine (pair10 (KF.out w1 HB1.out).2.1 HA.out.2.2.1).mono ?_
  clear q0 q1 q2 q3 q4 q5 q6 q7 q8 q9 q10 q11 q12 q13 q14 q15 q16 q17
  rintro e w2 ⟨rfl, hb⟩
  have HB2 := Lib.hid (HB1.out.trans (hb.mono HB1.out.size))
  clear hb
  obtain ⟨q0, q1, q2, q3, q4, q5, q6, q7, q8, q9, q10, q11, q12, q13, q14, q15, q16, q17⟩ := (KF.out w2 HB2.out).1
  cases e1 : g.first.valid
  case false =>
    have E1 := Lib.hid e1
    clear e1
    go_wp2_with fail
    all_goals first
      | (refine ⟨fun _ _ => trivial, ?_⟩; go_wp2_with fail)
      | skip
    go_ret
    exact ⟨ret_bool (by unfold Gla.valid; simp [E1.out]), (KF.out _ HB2.out).2.2.2⟩
  have E1 := Lib.hid e1
  clear e1
  go_wp2_with fail
  refine (pair10 (KF.out w2 HB2.out).2.2.1 HA.out.2.2.2).mono ?_
  clear q0 q1 q2 q3 q4 q5 q6 q7 q8 q9 q10 q11 q12 q13 q14 q15 q16 q17
  rintro e w3 ⟨rfl, hb⟩
  have HB3 := Lib.hid (HB2.out.trans (hb.mono HB2.out.size))
  clear hb
  obtain ⟨q0, q1, q2, q3, q4, q5, q6, q7, q8, q9, q10, q11, q12, q13, q14, q15, q16, q17⟩ := (KF.out w3 HB3.out).1
  cases e2 : g.second.valid
  case false =>
    have E2 := Lib.hid e2
    clear e2
    go_wp2_with fail
    all_goals first
      | (refine ⟨fun _ _ => trivial, ?_⟩; go_wp2_with fail)
      | skip
    go_ret
    exact ⟨ret_bool (by unfold Gla.valid; simp [E1.out, E2.out]), (KF.out _ HB3.out).2.2.2⟩
  have E2 := Lib.hid e2
  clear e2
  by_cases he : g.first.things.length = g.second.things.length
  case neg =>
    have E3 := Lib.hid he
    have hd : ((g.first.things.length : Int) == (g.second.things.length : Int)) = false := by simp; omega
    clear he
    go_wp2_with fail
    all_goals first
      | (refine ⟨fun _ _ => trivial, ?_⟩; go_wp2_with fail)
      | skip
    go_ret
    exact ⟨ret_bool (by unfold Gla.valid; simp [E1.out, E2.out, E3.out]), (KF.out _ HB3.out).2.2.2⟩
  have E3 := Lib.hid he
  have hd : ((g.first.things.length : Int) == (g.second.things.length : Int)) = true := by simp; omega
  clear he
  go_wp2_with fail
  refine (within11 _ _ _ _).mono ?_
  rintro e w4 ⟨rfl, he⟩
  subst he
  cases e4 : inR g.day1 0 65536
  case false =>
    have E4 := Lib.hid e4
    clear e4
    go_wp2_with fail
    all_goals first
      | (refine ⟨fun _ _ => trivial, ?_⟩; go_wp2_with fail)
      | skip
    go_ret
    exact ⟨ret_bool (by unfold Gla.valid; simp [E1.out, E2.out, E3.out, E4.out]), (KF.out _ HB3.out).2.2.2⟩
  have E4 := Lib.hid e4
  have hw : IntKind.i64.wrap (g.day1 + 1) = g.day1 + 1 := IntWalk.i64_in _ (by simp only [inR, Bool.and_eq_true, decide_eq_true_eq] at e4; omega)
  clear e4
  go_wp2_with fail
  refine (within11 _ _ _ _).mono ?_
  rintro e w5 ⟨rfl, he⟩
  subst he
  cases e5 : inR g.day2 (g.day1 + 1) 65536
  case false =>
    have E5 := Lib.hid e5
    clear e5
    go_wp2_with fail
    all_goals first
      | (refine ⟨fun _ _ => trivial, ?_⟩; go_wp2_with fail)
      | skip
    go_ret
    exact ⟨ret_bool (by unfold Gla.valid; simp [E1.out, E2.out, E3.out, E4.out, E5.out]), (KF.out _ HB3.out).2.2.2⟩
  case true =>
    have E5 := Lib.hid e5
    clear e5
    go_wp2_with fail
    all_goals first
      | (refine ⟨fun _ _ => trivial, ?_⟩; go_wp2_with fail)
      | skip
    go_ret
    exact ⟨ret_bool (by unfold Gla.valid; simp [E1.out, E2.out, E3.out, E4.out, E5.out]), (KF.out _ HB3.out).2.2.2⟩
end Go.Proofs.Ytbnhngfegnhaiaa
namespace Go.Proofs.Ytbnhngfegnhaiaa
open Go.RowKit
set_option linter.unusedVariables false
set_option linter.unusedSimpArgs false
theorem infoT : (Try.prog.info? 34).map (fun i => (i.zero, i.size, i.bytes)) = some (some (.agg #[.int .i64 0, .int .i64 0, .int .i64 0, .int .i64 0, .int .i64 0, .int .i64 0, .int .i64 0, .int .i64 0, .int .i64 0]), 9, 72) := by kernel_rfl
def thsL (l : List Thg) : List Value := l.flatMap thgL
theorem thsL_len (l : List Thg) : (thsL l).length = l.length * 9 := by
  induction l with
  | nil => rfl
  | cons m l ih =>
    show (thgL m ++ thsL l).length = _
    rw [List.length_append, ih]
    show 9 + _ = (l.length + 1) * 9
    omega
theorem thsL_get : ∀ (l : List Thg) (i j : Nat), i < l.length → j < 9 → (thsL l)[i * 9 + j]? = (thgL (gt l i))[j]?
  | [], i, j, h, _ => absurd h (Nat.not_lt_zero _)
  | m :: l, 0, j, _, hj => by
    show (thgL m ++ thsL l)[0 * 9 + j]? = (thgL m)[j]?
    rw [List.getElem?_append_left (by show 0 * 9 + j < 9; omega)]
    congr 1
    omega
  | m :: l, i + 1, j, h, hj => by
    show (thgL m ++ thsL l)[(i + 1) * 9 + j]? = (thgL (gt l i))[j]?
    rw [List.getElem?_append_right (by show 9 ≤ _; omega), ← thsL_get l i j (by simpa using h) hj]
    congr 1
    show (i + 1) * 9 + j - 9 = _
    omega
theorem thsL_one : ∀ (l : List Thg), ∀ u ∈ thsL l, u.oneCell' = true := by
  intro l u hu
  unfold thsL at hu
  rw [List.mem_flatMap] at hu
  obtain ⟨m, _, hm⟩ := hu
  unfold thgL at hm
  simp only [List.mem_cons, List.not_mem_nil, or_false] at hm
  rcases hm with rfl | rfl | rfl | rfl | rfl | rfl | rfl | rfl | rfl <;> rfl
theorem ths_news {w : World} {a : Option Addr} {l : List Thg} (h : IsThs w a l) : l.length ≠ 0 → ∃ ad, a = some ad ∧ ∀ j u, (thsL l)[j]? = some u → w.cell? (ad.add j) = some u := by
  intro hl
  obtain ⟨b, off, rfl, _⟩ := h 0 (by omega)
  refine ⟨_, rfl, fun j u hj => ?_⟩
  have hjl : j < l.length * 9 := by
    have := (List.getElem?_eq_some_iff.1 hj).1
    rwa [thsL_len] at this
  obtain ⟨b', off', e, hc⟩ := h (j / 9) (by omega)
  simp only [Option.some.injEq, Addr.mk.injEq, and_true] at e
  obtain ⟨rfl, rfl⟩ := e
  have hj2 : j = j / 9 * 9 + j % 9 := by omega
  have hd : (⟨b, off, none⟩ : Addr).add j = ⟨b, off + j / 9 * 9 + j % 9, none⟩ := by
    rw [Addr.add_mid]
    congr 1
    omega
  rw [hd]
  have hg := thsL_get l (j / 9) (j % 9) (by omega) (by omega)
  rw [← hj2, hj] at hg
  have h4 : j % 9 = 0 ∨ j % 9 = 1 ∨ j % 9 = 2 ∨ j % 9 = 3 ∨ j % 9 = 4 ∨ j % 9 = 5 ∨ j % 9 = 6 ∨ j % 9 = 7 ∨ j % 9 = 8 := by omega
  rcases h4 with h4 | h4 | h4 | h4 | h4 | h4 | h4 | h4 | h4 <;> rw [h4] at hg ⊢ <;> simp only [thgL, List.getElem?_cons_zero, List.getElem?_cons_succ, Option.some.injEq] at hg <;> subst hg
  · exact hc.c0
  · exact hc.c1
  · exact hc.c2
  · exact hc.c3
  · exact hc.c4
  · exact hc.c5
  · exact hc.c6
  · exact hc.c7
  · exact hc.c8
theorem own_things {w : World} {base : Nat} {l : List Thg} {a : Option Addr} {cap : Nat} (h : w.ownsRow base 34 9 (.slice a l.length cap) l.length (thsL l)) : IsThs w a l := fun i hi => by
  obtain ⟨g, c, e, _, _, _, _, hc⟩ := own_cell h (by omega)
  simp only [Value.slice.injEq] at e
  obtain ⟨rfl, _, _⟩ := e
  refine ⟨g, 0, rfl, ?_⟩
  have hx := fun j hj => thsL_get l i j hi hj
  constructor
  · exact hc _ _ (by rw [Nat.zero_add]; exact (hx 0 (by omega)))
  · exact hc _ _ (by rw [Nat.zero_add]; exact (hx 1 (by omega)))
  · exact hc _ _ (by rw [Nat.zero_add]; exact (hx 2 (by omega)))
  · exact hc _ _ (by rw [Nat.zero_add]; exact (hx 3 (by omega)))
  · exact hc _ _ (by rw [Nat.zero_add]; exact (hx 4 (by omega)))
  · exact hc _ _ (by rw [Nat.zero_add]; exact (hx 5 (by omega)))
  · exact hc _ _ (by rw [Nat.zero_add]; exact (hx 6 (by omega)))
  · exact hc _ _ (by rw [Nat.zero_add]; exact (hx 7 (by omega)))
  · exact hc _ _ (by rw [Nat.zero_add]; exact (hx 8 (by omega)))
/-- An empty slice with things behind it. -/
theorem append_ths {w : World} {g : Nat} {l : List Thg} {a : Option Addr} {c : Nat} (hg : w.heap[g]? = some (.cells #[] 34 (0, 0))) (h : IsThs w a l) (hl : l.length ≤ 1000) :
    ∃ v' w', (Builtin.append_ #[24, 24] 24 #[.slice (some ⟨g, 0, none⟩) 0 0, .slice a l.length c]).run Try.prog w = .ok v' w' ∧ w'.ownsRow g 34 9 v' l.length (thsL l) ∧ Below g w w' := by
  obtain ⟨i0, hi0, hz0, hz1, hz2⟩ := info_parts infoT
  have hown : w.ownsRow g 34 9 (.slice (some ⟨g, 0, none⟩) 0 0) 0 [] := ⟨rfl, .inr ⟨g, 0, #[], rfl, Nat.le_refl _, hg, Nat.le_refl _, Nat.zero_le _, rfl, rfl⟩⟩
  have hB : g ≤ w.heap.size := Nat.le_of_lt (heap_lt hg)
  obtain ⟨v', w', h1, h2, h3⟩ := append_rows (P := Try.prog) (w := w) g 24 24 34 i0 _ 9 72 Try.underlying24 hi0 hz0 hz1 hz2 rfl (by omega) _ 0 [] hown a l.length c (thsL l) (thsL_len l) (ths_news h) (thsL_one l) (by unfold maxLen; omega) (by omega) hB
  refine ⟨v', w', h1, ?_, grown_below (Below.refl g w) hown h3 hB⟩
  rw [Nat.zero_add, List.nil_append] at h2
  exact h2
theorem gt_set {l : List Thg} {k i : Nat} {t : Thg} (hk : k < l.length) : gt (l.set k t) i = if i = k then t else gt l i := by
  unfold gt
  by_cases h : i = k
  · subst h
    simp [hk]
  · rw [if_neg h, List.getD_eq_getElem?_getD, List.getD_eq_getElem?_getD, List.getElem?_set_ne (by omega)]
/-- A thing is told as a landmark. -/
theorem IsThs.put {w : World} {g : Nat} {l : List Thg} {k : Nat} {z : Int} (h : IsThs w (some ⟨g, 0, none⟩) l) (hk : k < l.length) : IsThs (w.setCell ⟨g, k * 9 + 8, none⟩ (.int .i64 z)) (some ⟨g, 0, none⟩) (l.set k ((gt l k).mark z)) := fun i hi => by
  have hi2 : i < l.length := by simpa using hi
  obtain ⟨b, off, e, c0, c1, c2, c3, c4, c5, c6, c7, c8⟩ := h i hi2
  obtain ⟨bk, offk, ek, _, _, _, _, _, _, _, _, k8⟩ := h k hk
  simp only [Option.some.injEq, Addr.mk.injEq] at e ek
  obtain ⟨rfl, rfl, _⟩ := e
  obtain ⟨rfl, rfl, _⟩ := ek
  refine ⟨g, 0, rfl, ?_⟩
  have hne : ∀ j v, j ≠ k * 9 + 8 → w.cell? ⟨g, j, none⟩ = some v → (w.setCell ⟨g, k * 9 + 8, none⟩ (.int .i64 z)).cell? ⟨g, j, none⟩ = some v := fun j v hj hc => by
    rw [World.cell?_setCell_other _ _ _ _ (by intro e; apply hj; injection e with e1 e2 e3; exact e2.symm)]
    exact hc
  rw [gt_set hk]
  by_cases hik : i = k
  · subst hik
    rw [if_pos rfl]
    refine ⟨hne _ _ (by omega) c0, hne _ _ (by omega) c1, hne _ _ (by omega) c2, hne _ _ (by omega) c3, hne _ _ (by omega) c4, hne _ _ (by omega) c5, hne _ _ (by omega) c6, hne _ _ (by omega) c7, ?_⟩
    rw [Nat.zero_add] at k8 ⊢
    exact World.cell?_setCell_same _ _ _ k8
  · rw [if_neg hik]
    exact ⟨hne _ _ (by omega) c0, hne _ _ (by omega) c1, hne _ _ (by omega) c2, hne _ _ (by omega) c3, hne _ _ (by omega) c4, hne _ _ (by omega) c5, hne _ _ (by omega) c6, hne _ _ (by omega) c7, hne _ _ (by omega) c8⟩
end Go.Proofs.Ytbnhngfegnhaiaa
namespace Go.Proofs.Ytbnhngfegnhaiaa
open Go.RowKit
set_option linter.unusedVariables false
set_option linter.unusedSimpArgs false
theorem own_frozen {w : World} {g : Nat} {v : Value} {l : List Thg} {k : Nat} (h : w.ownsRow g 34 9 v l.length (thsL l)) (hk : k < l.length) : ∃ g2 cap, v = .slice (some ⟨g2, 0, none⟩) l.length cap ∧ g ≤ g2 ∧ (∃ x, w.cell? ⟨g2, k * 9 + 8, none⟩ = some x) ∧ w.frozen? ⟨g2, k * 9 + 8, none⟩ = false := by
  rcases h.2 with ⟨_, h0⟩ | ⟨g2, cap, cur, rfl, h1, h2, h3, h4, h5, _⟩
  · omega
  · refine ⟨g2, cap, rfl, h1, ?_, frozen_of_heap h2⟩
    rw [cell_of_heap h2]
    have hlt : k * 9 + 8 < cur.size := by
      have : (k + 1) * 9 ≤ cap * 9 := Nat.mul_le_mul_right 9 (by omega)
      omega
    exact ⟨cur[k * 9 + 8], by rw [Array.getElem?_eq_getElem hlt]⟩
set_option maxRecDepth 100000 in
set_option maxHeartbeats 8000000 in
theorem can8 {g : Gla} {a1 a2 : Option Addr} {c1 c2 k bg bk : Nat} {z : Int} {w : World} (hk : k < g.second.things.length) (hl : g.second.things.length ≤ 12) (h2 : IsThs w a2 g.second.things) (hg : w.heap[bg]? = some (.cells (g.arr a1 c1 a2 c2) 28 (0, 0))) (hbk : w.heap[bk]? = some (.cells #[.int .i64 k] 3 (0, 0))) :
    Calls Try.prog 8 #[.int .i64 z, .pointer (some ⟨bg, 0, none⟩), .pointer (some ⟨bk, 0, none⟩)] w fun e w' => e = .returned (.bool (canP g.second k z)) ∧ Below w.heap.size w w' := by
  have HIN := Lib.hid (And.intro hk (And.intro hl (And.intro h2 (And.intro hg hbk))))
  have HX := Lib.hid (And.intro (World.alloc_heap_new w (.cells (g.second.arr a2 c2) 26)) (alloc_below w (.cells (g.second.arr a2 c2) 26)))
  clear hk hl h2 hg hbk
  obtain ⟨q0, q1, q2, q3, q4, q5, q6, q7, q8, q9, q10, q11, q12, q13, q14, q15, q16, q17⟩ := gla_cells HIN.out.2.2.2.1
  clear q0 q1 q2 q3 q4 q5 q6 q7 q16 q17
  go_enter Try.func8, Try.ntmps8
  refine wp_seq_hid ?_
  intro K0 HK0
  go_wp2_with fail
  refine HK0.out _ _ ?_
  clear HK0 K0
  refine wp_seq_hid ?_
  intro K1 HK1
  go_wp2_with fail
  refine HK1.out _ _ ?_
  clear HK1 K1 q8 q9 q10 q11 q12 q13 q14 q15
  change Code.wp Try.prog _ _ _ (w.alloc (.cells (g.second.arr a2 c2) 26))
  revert HX
  generalize w.alloc (.cells (g.second.arr a2 c2) 26) = w1
  generalize hb5 : w.heap.size = b5
  intro HX
  have HB5 := Lib.hid hb5
  have HLT : Hid (b5 < w1.heap.size) := heap_lt HX.out.1
  have HY := Lib.hid (And.intro (World.alloc_heap_new w1 (.cells #[] 34)) (alloc_below w1 (.cells #[] 34)))
  have HIN1 : Hid (IsThs (w1.alloc (.cells #[] 34)) a2 g.second.things ∧ (w1.alloc (.cells #[] 34)).heap[bg]? = some (.cells (g.arr a1 c1 a2 c2) 28 (0, 0)) ∧ (w1.alloc (.cells #[] 34)).heap[b5]? = some (.cells (g.second.arr a2 c2) 26 (0, 0)) ∧ bg < b5 ∧ bk < b5) := by
    have hb1 := HX.out.2
    rw [← hb5] at hb1
    have hlt := HLT.out
    have hb2 := hb1.trans (HY.out.2.mono (by rw [hb5]; omega))
    have l1 := heap_lt HIN.out.2.2.2.1
    have l2 := heap_lt HIN.out.2.2.2.2
    exact ⟨HIN.out.2.2.1.mono hb2, (hb2.block _ l1).trans HIN.out.2.2.2.1, (HY.out.2.block _ HLT.out).trans HX.out.1, by omega, by omega⟩
  clear hb5
  refine wp_seq_hid ?_
  intro K2 HK2
  obtain ⟨v', w3, hr, hown, hb3⟩ := append_ths (c := c2) HY.out.1 HIN1.out.1 (by have := HIN.out.2.1; omega)
  obtain ⟨g2, cap, rfl, hg2, ⟨x0, hx0⟩, hfz⟩ := own_frozen hown HIN.out.1
  have hq15 : (w1.alloc (.cells #[] 34)).cell? ⟨bg, 15, none⟩ = some (.slice a2 g.second.things.length c2) := by rw [cell_of_heap HIN1.out.2.1]; rfl
  have hlt2 : b5 < w1.heap.size := HLT.out
  have e5 : w3.heap[b5]? = some (.cells (g.second.arr a2 c2) 26 (0, 0)) := (hb3.block _ hlt2).trans HIN1.out.2.2.1
  have HR := Lib.hid hr
  have H3 := Lib.hid (And.intro hown (And.intro hb3 (And.intro hg2 (And.intro (And.intro hx0 hfz) e5))))
  clear hr hown hb3 hg2 hx0 hfz hlt2
  have s7 : w3.cell? ⟨b5, 7, none⟩ = some (.slice a2 g.second.things.length c2) := by rw [cell_of_heap e5]; rfl
  have f7 : w3.frozen? ⟨b5, 7, none⟩ = false := frozen_of_heap e5
  clear e5
  go_wp2_with (at_builtin; refine wpList_append_run2 rfl (.tmp 10) (.tmp 13) 24 24 rfl _ _ _ _ rfl rfl HR.out ?_)
  refine HK2.out _ _ ?_
  clear HK2 K2 HR hq15 s7 f7
  have H4 : Hid (IsThs (w3.setCell ⟨b5, 7, none⟩ (.slice (some ⟨g2, 0, none⟩) g.second.things.length cap)) (some ⟨g2, 0, none⟩) g.second.things ∧ (w3.setCell ⟨b5, 7, none⟩ (.slice (some ⟨g2, 0, none⟩) g.second.things.length cap)).heap[b5]? = some (.cells (g.second.arr (some ⟨g2, 0, none⟩) cap) 26 (0, 0)) ∧ (w3.setCell ⟨b5, 7, none⟩ (.slice (some ⟨g2, 0, none⟩) g.second.things.length cap)).heap[bk]? = some (.cells #[.int .i64 k] 3 (0, 0)) ∧ ((w3.setCell ⟨b5, 7, none⟩ (.slice (some ⟨g2, 0, none⟩) g.second.things.length cap)).cell? ⟨g2, k * 9 + 8, none⟩ = some x0 ∧ (w3.setCell ⟨b5, 7, none⟩ (.slice (some ⟨g2, 0, none⟩) g.second.things.length cap)).frozen? ⟨g2, k * 9 + 8, none⟩ = false) ∧ Below b5 w (w3.setCell ⟨b5, 7, none⟩ (.slice (some ⟨g2, 0, none⟩) g.second.things.length cap)) ∧ b5 < g2) := by
    obtain ⟨hown, hb3, hg2, ⟨hx0, hfz⟩, e5⟩ := H3.out
    have hlt := HLT.out
    have hne : g2 ≠ b5 := by omega
    have hb1 := HX.out.2
    have hb2 : Below b5 w w3 := hb1.trans ((HY.out.2.trans (hb3.mono (Nat.le_refl _))).mono (by omega))
    have hk2 : bk ≠ b5 := by have := HIN1.out.2.2.2.2; omega
    have ek : w3.heap[bk]? = some (.cells #[.int .i64 k] 3 (0, 0)) := (hb2.block _ HIN1.out.2.2.2.2).trans HIN.out.2.2.2.2
    refine ⟨(own_things hown).kept (Below.heap_setCell _ _ _ _ hne), heap_setCell_at (k := 7) e5 _, (Below.heap_setCell _ _ _ _ hk2).trans ek, ⟨?_, ?_⟩, hb2.setCell (p := ⟨b5, 7, none⟩) (Nat.le_refl _) _, by omega⟩
    · rw [World.cell?_setCell_other _ _ _ _ (by intro e; apply hne; injection e with e1; exact e1.symm)]
      exact hx0
    · rw [← hfz]
      unfold World.frozen?
      rw [Below.heap_setCell _ _ _ _ hne]
  clear H3 HIN1 HY
  revert H4
  generalize w3.setCell ⟨b5, 7, none⟩ (.slice (some ⟨g2, 0, none⟩) g.second.things.length cap) = w4
  intro H4
  have HKL : Hid (k < g.second.things.length) := HIN.out.1
  have s7 : w4.cell? ⟨b5, 7, none⟩ = some (.slice (some ⟨g2, 0, none⟩) g.second.things.length cap) := by rw [cell_of_heap H4.out.2.1]; rfl
  have sk : w4.cell? ⟨bk, 0, none⟩ = some (.int .i64 k) := by rw [cell_of_heap H4.out.2.2.1]; rfl
  obtain ⟨hx, hf⟩ := H4.out.2.2.2.1
  have hk := HKL.out
  refine wp_seq_hid ?_
  intro K3 HK3
  go_wp2_with fail
  refine HK3.out _ _ ?_
  clear HK3 K3 s7 sk hx hf
  have HP : Hid (IsThs (w4.setCell ⟨g2, k * 9 + 8, none⟩ (.int .i64 z)) (some ⟨g2, 0, none⟩) (g.second.put k z).things ∧ (w4.setCell ⟨g2, k * 9 + 8, none⟩ (.int .i64 z)).heap[b5]? = some (.cells ((g.second.put k z).arr (some ⟨g2, 0, none⟩) cap) 26 (0, 0)) ∧ Below b5 w (w4.setCell ⟨g2, k * 9 + 8, none⟩ (.int .i64 z)) ∧ (g.second.put k z).things.length ≤ 1000000 ∧ canP g.second k z = (decide ((powerE (g.second.put k z)).2 = 0) && inR z (g.second.put k z).near (g.second.put k z).far)) := by
    obtain ⟨h1, h2, h3, _, h5, h6⟩ := H4.out
    have hne : b5 ≠ g2 := by omega
    have e : (g.second.put k z).arr (some ⟨g2, 0, none⟩) cap = g.second.arr (some ⟨g2, 0, none⟩) cap := by
      unfold Par.arr
      simp [Par.put]
    refine ⟨h1.put hk, ?_, h5.setCell (p := ⟨g2, _, none⟩) (Nat.le_of_lt h6) _, ?_, rfl⟩
    · rw [e]
      exact (Below.heap_setCell _ _ _ _ hne).trans h2
    · have := HIN.out.2.1
      simp [Par.put]
      omega
  clear H4 hk HKL
  have HC := Lib.hid (Eq.refl (canP g.second k z))
  revert HP
  generalize w4.setCell ⟨g2, k * 9 + 8, none⟩ (.int .i64 z) = w5
  generalize g.second.put k z = p
  intro HP
  obtain ⟨k0, k1, k2, k3, k4, k5, k6, k7⟩ := par_cells HP.out.2.1
  refine wp_seq_hid ?_
  intro K4 HK4
  go_wp2_with fail
  refine (power9 HP.out.1 HP.out.2.2.2.1).mono ?_
  clear k0 k1 k2 k3 k4 k5 k6 k7
  rintro e w6 ⟨rfl, hb6⟩
  generalize hpe : powerE p = pe
  have HPE := Lib.hid hpe
  clear hpe
  have hb5w : Hid (b5 < w5.heap.size) := heap_lt HP.out.2.1
  have H6 : Hid (w6.heap[b5]? = some (.cells (p.arr (some ⟨g2, 0, none⟩) cap) 26 (0, 0)) ∧ Below b5 w w6 ∧ b5 < w6.heap.size) := ⟨(hb6.block _ (heap_lt HP.out.2.1)).trans HP.out.2.1, HP.out.2.2.1.trans (hb6.mono (Nat.le_of_lt hb5w.out)), Nat.lt_of_lt_of_le hb5w.out hb6.size⟩
  clear hb6
  have HA := Lib.hid (And.intro (World.alloc_heap_new w6 (.cells #[.int .i64 pe.1.lo, .int .i64 pe.1.hi] 23)) (alloc_below w6 (.cells #[.int .i64 pe.1.lo, .int .i64 pe.1.hi] 23)))
  go_wp2_with fail
  refine HK4.out _ _ ?_
  clear HK4 K4
  have H7 : Hid ((w6.alloc (.cells #[.int .i64 pe.1.lo, .int .i64 pe.1.hi] 23)).heap[b5]? = some (.cells (p.arr (some ⟨g2, 0, none⟩) cap) 26 (0, 0)) ∧ Below b5 w (w6.alloc (.cells #[.int .i64 pe.1.lo, .int .i64 pe.1.hi] 23))) := ⟨(HA.out.2.block _ H6.out.2.2).trans H6.out.1, H6.out.2.1.trans (HA.out.2.mono (Nat.le_of_lt H6.out.2.2))⟩
  clear H6 HA
  revert H7
  generalize w6.alloc (.cells #[.int .i64 pe.1.lo, .int .i64 pe.1.hi] 23) = w7
  intro H7
  obtain ⟨_, _, _, _, _, k5, k6, _⟩ := par_cells H7.out.1
  have hcan : canP g.second k z = (decide (pe.2 = 0) && inR z p.near p.far) := by rw [HP.out.2.2.2.2, HPE.out]
  have HCAN := Lib.hid hcan
  clear hcan
  by_cases h0 : pe.2 = 0
  case neg =>
    have hn : (pe.2 == 0) = false := by simp [h0]
    have HN := Lib.hid h0
    clear h0
    go_wp2_with fail
    all_goals first
      | (refine ⟨fun _ _ => trivial, ?_⟩; go_wp2_with fail)
      | skip
    go_ret
    exact ⟨ret_bool (by rw [HCAN.out, decide_eq_false HN.out]; rfl), H7.out.2⟩
  have hn : (pe.2 == 0) = true := by simp [h0]
  have HN := Lib.hid h0
  clear h0
  by_cases h1 : p.near ≤ z <;> by_cases h2 : z ≤ p.far
  all_goals
    have H12 : Hid (inR z p.near p.far = (decide (p.near ≤ z) && decide (z ≤ p.far))) := rfl
    go_wp2_with fail
    all_goals first
      | (refine ⟨fun _ _ => trivial, ?_⟩; go_wp2_with fail)
      | skip
    go_ret
    exact ⟨ret_bool (by rw [HCAN.out, decide_eq_true HN.out, H12.out]; simp [h1, h2]), H7.out.2⟩
end Go.Proofs.Ytbnhngfegnhaiaa
