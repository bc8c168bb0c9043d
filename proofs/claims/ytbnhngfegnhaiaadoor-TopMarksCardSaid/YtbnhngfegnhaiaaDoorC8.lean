/- The powers of a pair: the drawn regions. A pair that is opened. The plain law of TopStood: a thing can have stayed just where both pairs have a truth. The powers of a pair. A pair that has a truth; the power of a pair. -/
import Derived.Test.YtbnhngfegnhaiaaDoorC7
namespace Go.Proofs.YtbnhngfegnhaiaaDoor
open Go.RowKit
set_option linter.unusedVariables false
set_option linter.unusedSimpArgs false
structure lok0F (bv : Nat) (xa : Int) (xb : Int) (ya : Int) (yb : Int) (va : Int) (vb : Int) (S0 : World → Prop) (S1 : World → Prop) (d : Nat → Bool) (x6 x7 x8 x9 x10 x11 x12 x13 x14 x15 x16 x17 x18 x19 x20 x21 x22 x23 x24 x25 x26 x27 x28 x29 x30 x31 x32 x33 x34 x35 : Value) (w : World) : Prop where
  q2 : d 2 = true → d 1 = true
  q3 : d 3 = true → d 2 = true
  q4 : d 4 = true → d 3 = true
  q5 : d 5 = true → d 4 = true
  q6 : d 6 = true → d 5 = true
  q8 : d 8 = true → d 7 = true
  q9 : d 9 = true → d 8 = true
  q10 : d 10 = true → d 9 = true
  q11 : d 11 = true → d 10 = true
  q12 : d 12 = true → d 11 = true
  q13 : d 13 = true → d 6 = true ∧ d 12 = true
  q15 : d 15 = true → d 14 = true
  q16 : d 16 = true → d 15 = true
  q17 : d 17 = true → d 16 = true
  q18 : d 18 = true → d 17 = true
  q19 : d 19 = true → d 18 = true
  q21 : d 21 = true → d 20 = true
  q22 : d 22 = true → d 21 = true
  q23 : d 23 = true → d 22 = true
  q24 : d 24 = true → d 23 = true
  q25 : d 25 = true → d 24 = true
  q26 : d 26 = true → d 19 = true ∧ d 25 = true
  q27 : d 27 = true → d 13 = true ∧ d 26 = true
  q28 : d 28 = true → d 0 = true ∧ d 1 = true ∧ d 2 = true ∧ d 3 = true ∧ d 4 = true ∧ d 5 = true ∧ d 6 = true ∧ d 7 = true ∧ d 8 = true ∧ d 9 = true ∧ d 10 = true ∧ d 11 = true ∧ d 12 = true ∧ d 13 = true ∧ d 14 = true ∧ d 15 = true ∧ d 16 = true ∧ d 17 = true ∧ d 18 = true ∧ d 19 = true ∧ d 20 = true ∧ d 21 = true ∧ d 22 = true ∧ d 23 = true ∧ d 24 = true ∧ d 25 = true ∧ d 26 = true ∧ d 27 = true
  q29 : d 29 = true → d 0 = true ∧ d 1 = true ∧ d 2 = true ∧ d 3 = true ∧ d 4 = true ∧ d 5 = true ∧ d 6 = true ∧ d 7 = true ∧ d 8 = true ∧ d 9 = true ∧ d 10 = true ∧ d 11 = true ∧ d 12 = true ∧ d 13 = true ∧ d 14 = true ∧ d 15 = true ∧ d 16 = true ∧ d 17 = true ∧ d 18 = true ∧ d 19 = true ∧ d 20 = true ∧ d 21 = true ∧ d 22 = true ∧ d 23 = true ∧ d 24 = true ∧ d 25 = true ∧ d 26 = true ∧ d 27 = true ∧ d 28 = true
  q30 : d 30 = true → d 0 = true ∧ d 1 = true ∧ d 2 = true ∧ d 3 = true ∧ d 4 = true ∧ d 5 = true ∧ d 6 = true ∧ d 7 = true ∧ d 8 = true ∧ d 9 = true ∧ d 10 = true ∧ d 11 = true ∧ d 12 = true ∧ d 13 = true ∧ d 14 = true ∧ d 15 = true ∧ d 16 = true ∧ d 17 = true ∧ d 18 = true ∧ d 19 = true ∧ d 20 = true ∧ d 21 = true ∧ d 22 = true ∧ d 23 = true ∧ d 24 = true ∧ d 25 = true ∧ d 26 = true ∧ d 27 = true ∧ d 29 = true
  f0 : d 0 = true → x6 = .pointer (some ⟨bv, 0, none⟩)
  f1 : d 1 = true → x7 = .pointer (some ⟨bv, 0, none⟩)
  f2 : d 2 = true → x8 = .pointer (some ⟨bv, 0, none⟩)
  f3 : d 3 = true → x9 = .pointer (some ⟨bv, 0, none⟩)
  f4 : d 4 = true → x10 = .pointer (some ⟨bv, 0, none⟩)
  f5 : d 5 = true → x11 = .pointer (some ⟨bv, 0, none⟩)
  f6 : d 6 = true → x12 = .int .i64 xa
  f7 : d 7 = true → x13 = .pointer (some ⟨bv, 0, none⟩)
  f8 : d 8 = true → x14 = .pointer (some ⟨bv, 0, none⟩)
  f9 : d 9 = true → x15 = .pointer (some ⟨bv, 0, none⟩)
  f10 : d 10 = true → x16 = .pointer (some ⟨bv, 2, none⟩)
  f11 : d 11 = true → x17 = .pointer (some ⟨bv, 2, none⟩)
  f12 : d 12 = true → x18 = .int .i64 xb
  f13 : d 13 = true → x19 = .int .i64 va
  f14 : d 14 = true → x20 = .pointer (some ⟨bv, 0, none⟩)
  f15 : d 15 = true → x21 = .pointer (some ⟨bv, 0, none⟩)
  f16 : d 16 = true → x22 = .pointer (some ⟨bv, 0, none⟩)
  f17 : d 17 = true → x23 = .pointer (some ⟨bv, 0, none⟩)
  f18 : d 18 = true → x24 = .pointer (some ⟨bv, 1, none⟩)
  f19 : d 19 = true → x25 = .int .i64 ya
  f20 : d 20 = true → x26 = .pointer (some ⟨bv, 0, none⟩)
  f21 : d 21 = true → x27 = .pointer (some ⟨bv, 0, none⟩)
  f22 : d 22 = true → x28 = .pointer (some ⟨bv, 0, none⟩)
  f23 : d 23 = true → x29 = .pointer (some ⟨bv, 2, none⟩)
  f24 : d 24 = true → x30 = .pointer (some ⟨bv, 3, none⟩)
  f25 : d 25 = true → x31 = .int .i64 yb
  f26 : d 26 = true → x32 = .int .i64 vb
  f27 : d 27 = true → x33 = .agg #[.int .i64 va, .int .i64 vb]
  f28 : d 28 = true → x34 = .pointer (some ⟨bv, 0, none⟩)
  f29 : d 29 = true → x35 = .pointer (some ⟨bv, 8, none⟩)
  st0 : d 30 = false → S0 w
  st1 : d 30 = true → S1 w
noncomputable def lok0C : Code := (Tryd.f79.body.bind (regionAt 0)).getD .skip
set_option maxRecDepth 100000 in
set_option maxHeartbeats 4000000 in
theorem lok0 {bv : Nat} {xa : Int} {xb : Int} {ya : Int} {yb : Int} {va : Int} {vb : Int} {S0 : World → Prop} {S1 : World → Prop} {Q : Exit → Act → World → Prop} {W1 : World} (hm1 : IntKind.i64.wrap (xa * xb) = va) (hm2 : IntKind.i64.wrap (ya * yb) = vb) (h0 : S0 W1.drew)
    (kl6 : Hid (∀ (w : World), (S0 w) → w.cell? ⟨bv, 0, none⟩ = some (.int .i64 xa)))
    (kl12 : Hid (∀ (w : World), (S0 w) → w.cell? ⟨bv, 2, none⟩ = some (.int .i64 xb)))
    (kl19 : Hid (∀ (w : World), (S0 w) → w.cell? ⟨bv, 1, none⟩ = some (.int .i64 ya)))
    (kl25 : Hid (∀ (w : World), (S0 w) → w.cell? ⟨bv, 3, none⟩ = some (.int .i64 yb)))
    (kc30 : Hid (∀ (w : World), S0 w → (∃ u, w.cell? ⟨bv, 8, none⟩ = some u) ∧ w.frozen? ⟨bv, 8, none⟩ = false ∧ (∃ u, w.cell? ⟨bv, 9, none⟩ = some u) ∧ w.frozen? ⟨bv, 9, none⟩ = false ∧ S1 ((w.setCell ⟨bv, 8, none⟩ (.int .i64 va)).setCell ⟨bv, 9, none⟩ (.int .i64 vb))))
    {s1 s2 s3 s4 s5 s6 s7 s8 s9 s10 s11 s12 s13 s14 s15 s16 s17 s18 s19 s20 s21 s22 s23 s24 s25 s26 s27 s28 s29 s30 s31 s32 s33 s34 s35 s36 s37 s38 s39 s40 s41 s42 s43 s44 s45 s46 s47 s48 s49 s50 s51 s52 s53 s54 s55 s56 s57 s58 s59 s60 s61 s62 s63 s64 s65 : Value} {dd : List Deferred}
    (hQ : ∀ (w' : World), S1 w' → Q .normal { tmps := List.toArray (.pointer (some ⟨bv, 0, none⟩) :: s1 :: s2 :: s3 :: s4 :: s5 :: .pointer (some ⟨bv, 0, none⟩) :: .pointer (some ⟨bv, 0, none⟩) :: .pointer (some ⟨bv, 0, none⟩) :: .pointer (some ⟨bv, 0, none⟩) :: .pointer (some ⟨bv, 0, none⟩) :: .pointer (some ⟨bv, 0, none⟩) :: .int .i64 xa :: .pointer (some ⟨bv, 0, none⟩) :: .pointer (some ⟨bv, 0, none⟩) :: .pointer (some ⟨bv, 0, none⟩) :: .pointer (some ⟨bv, 2, none⟩) :: .pointer (some ⟨bv, 2, none⟩) :: .int .i64 xb :: .int .i64 va :: .pointer (some ⟨bv, 0, none⟩) :: .pointer (some ⟨bv, 0, none⟩) :: .pointer (some ⟨bv, 0, none⟩) :: .pointer (some ⟨bv, 0, none⟩) :: .pointer (some ⟨bv, 1, none⟩) :: .int .i64 ya :: .pointer (some ⟨bv, 0, none⟩) :: .pointer (some ⟨bv, 0, none⟩) :: .pointer (some ⟨bv, 0, none⟩) :: .pointer (some ⟨bv, 2, none⟩) :: .pointer (some ⟨bv, 3, none⟩) :: .int .i64 yb :: .int .i64 vb :: .agg #[.int .i64 va, .int .i64 vb] :: .pointer (some ⟨bv, 0, none⟩) :: .pointer (some ⟨bv, 8, none⟩) :: s36 :: s37 :: s38 :: s39 :: s40 :: s41 :: s42 :: s43 :: s44 :: s45 :: s46 :: s47 :: s48 :: s49 :: s50 :: s51 :: s52 :: s53 :: s54 :: s55 :: s56 :: s57 :: s58 :: s59 :: s60 :: s61 :: s62 :: s63 :: s64 :: s65 :: []), defers := dd } w') :
    Code.wpIn (wideAt none) 0 Tryd.prog lok0C Q { tmps := List.toArray (.pointer (some ⟨bv, 0, none⟩) :: s1 :: s2 :: s3 :: s4 :: s5 :: s6 :: s7 :: s8 :: s9 :: s10 :: s11 :: s12 :: s13 :: s14 :: s15 :: s16 :: s17 :: s18 :: s19 :: s20 :: s21 :: s22 :: s23 :: s24 :: s25 :: s26 :: s27 :: s28 :: s29 :: s30 :: s31 :: s32 :: s33 :: s34 :: s35 :: s36 :: s37 :: s38 :: s39 :: s40 :: s41 :: s42 :: s43 :: s44 :: s45 :: s46 :: s47 :: s48 :: s49 :: s50 :: s51 :: s52 :: s53 :: s54 :: s55 :: s56 :: s57 :: s58 :: s59 :: s60 :: s61 :: s62 :: s63 :: s64 :: s65 :: []), defers := dd } W1 := by
  have HQ := Lib.hid hQ
  clear hQ
  conv => arg 4; whnf
  refine wpIn_region_invG mixed (by kernel_rfl) (fun d_ a_ w' => ∃ (x6 : Value) (x7 : Value) (x8 : Value) (x9 : Value) (x10 : Value) (x11 : Value) (x12 : Value) (x13 : Value) (x14 : Value) (x15 : Value) (x16 : Value) (x17 : Value) (x18 : Value) (x19 : Value) (x20 : Value) (x21 : Value) (x22 : Value) (x23 : Value) (x24 : Value) (x25 : Value) (x26 : Value) (x27 : Value) (x28 : Value) (x29 : Value) (x30 : Value) (x31 : Value) (x32 : Value) (x33 : Value) (x34 : Value) (x35 : Value), a_ = { tmps := List.toArray (.pointer (some ⟨bv, 0, none⟩) :: s1 :: s2 :: s3 :: s4 :: s5 :: x6 :: x7 :: x8 :: x9 :: x10 :: x11 :: x12 :: x13 :: x14 :: x15 :: x16 :: x17 :: x18 :: x19 :: x20 :: x21 :: x22 :: x23 :: x24 :: x25 :: x26 :: x27 :: x28 :: x29 :: x30 :: x31 :: x32 :: x33 :: x34 :: x35 :: s36 :: s37 :: s38 :: s39 :: s40 :: s41 :: s42 :: s43 :: s44 :: s45 :: s46 :: s47 :: s48 :: s49 :: s50 :: s51 :: s52 :: s53 :: s54 :: s55 :: s56 :: s57 :: s58 :: s59 :: s60 :: s61 :: s62 :: s63 :: s64 :: s65 :: []), defers := dd } ∧ lok0F bv xa xb ya yb va vb S0 S1 d_ x6 x7 x8 x9 x10 x11 x12 x13 x14 x15 x16 x17 x18 x19 x20 x21 x22 x23 x24 x25 x26 x27 x28 x29 x30 x31 x32 x33 x34 x35 w') ?_ ?_ ?_
  · refine ⟨s6, s7, s8, s9, s10, s11, s12, s13, s14, s15, s16, s17, s18, s19, s20, s21, s22, s23, s24, s25, s26, s27, s28, s29, s30, s31, s32, s33, s34, s35, rfl, ?_⟩
    constructor <;> first | rfl | (intro _; rfl) | (intro h; cases h; done) | (intro _; exact h0) | exact h0
  · refine ⟨?_, ?_, ?_, ?_, ?_, ?_, ?_, ?_, ?_, ?_, ?_, ?_, ?_, ?_, ?_, ?_, ?_, ?_, ?_, ?_, ?_, ?_, ?_, ?_, ?_, ?_, ?_, ?_, ?_, ?_, ?_, trivial⟩
    all_goals
      rintro d_ a_ w1 K hd_ hdep ⟨x6, x7, x8, x9, x10, x11, x12, x13, x14, x15, x16, x17, x18, x19, x20, x21, x22, x23, x24, x25, x26, x27, x28, x29, x30, x31, x32, x33, x34, x35, rfl, F⟩ HK
      simp [Region.binds] at hdep
    · have HF : Hid (lok0F bv xa xb ya yb va vb S0 S1 (upd d_ 0) (.pointer (some ⟨bv, 0, none⟩)) x7 x8 x9 x10 x11 x12 x13 x14 x15 x16 x17 x18 x19 x20 x21 x22 x23 x24 x25 x26 x27 x28 x29 x30 x31 x32 x33 x34 x35 w1) := ⟨F.q2, F.q3, F.q4, F.q5, F.q6, F.q8, F.q9, F.q10, F.q11, F.q12, F.q13, F.q15, F.q16, F.q17, F.q18, F.q19, F.q21, F.q22, F.q23, F.q24, F.q25, F.q26, F.q27, fun h => andM0 (F.q28 h) rfl, fun h => andM0 (F.q29 h) rfl, fun h => andM0 (F.q30 h) rfl, fun _ => rfl, F.f1, F.f2, F.f3, F.f4, F.f5, F.f6, F.f7, F.f8, F.f9, F.f10, F.f11, F.f12, F.f13, F.f14, F.f15, F.f16, F.f17, F.f18, F.f19, F.f20, F.f21, F.f22, F.f23, F.f24, F.f25, F.f26, F.f27, F.f28, F.f29, F.st0, F.st1⟩
      clear F
      go_simp
      exact HK.out _ _ ⟨_, _, _, _, _, _, _, _, _, _, _, _, _, _, _, _, _, _, _, _, _, _, _, _, _, _, _, _, _, _, rfl, HF.out⟩
    · have HF : Hid (lok0F bv xa xb ya yb va vb S0 S1 (upd d_ 1) x6 (.pointer (some ⟨bv, 0, none⟩)) x8 x9 x10 x11 x12 x13 x14 x15 x16 x17 x18 x19 x20 x21 x22 x23 x24 x25 x26 x27 x28 x29 x30 x31 x32 x33 x34 x35 w1) := ⟨fun h => rfl, F.q3, F.q4, F.q5, F.q6, F.q8, F.q9, F.q10, F.q11, F.q12, F.q13, F.q15, F.q16, F.q17, F.q18, F.q19, F.q21, F.q22, F.q23, F.q24, F.q25, F.q26, F.q27, fun h => andM1 (F.q28 h) rfl, fun h => andM1 (F.q29 h) rfl, fun h => andM1 (F.q30 h) rfl, F.f0, fun _ => rfl, F.f2, F.f3, F.f4, F.f5, F.f6, F.f7, F.f8, F.f9, F.f10, F.f11, F.f12, F.f13, F.f14, F.f15, F.f16, F.f17, F.f18, F.f19, F.f20, F.f21, F.f22, F.f23, F.f24, F.f25, F.f26, F.f27, F.f28, F.f29, F.st0, F.st1⟩
      clear F
      go_simp
      exact HK.out _ _ ⟨_, _, _, _, _, _, _, _, _, _, _, _, _, _, _, _, _, _, _, _, _, _, _, _, _, _, _, _, _, _, rfl, HF.out⟩
    · obtain rfl := F.f1 (by simp [hdep])
      have HF : Hid (lok0F bv xa xb ya yb va vb S0 S1 (upd d_ 2) x6 (.pointer (some ⟨bv, 0, none⟩)) (.pointer (some ⟨bv, 0, none⟩)) x9 x10 x11 x12 x13 x14 x15 x16 x17 x18 x19 x20 x21 x22 x23 x24 x25 x26 x27 x28 x29 x30 x31 x32 x33 x34 x35 w1) := ⟨fun _ => (show _ from (by simp [hdep] : d_ 1 = true)), fun h => rfl, F.q4, F.q5, F.q6, F.q8, F.q9, F.q10, F.q11, F.q12, F.q13, F.q15, F.q16, F.q17, F.q18, F.q19, F.q21, F.q22, F.q23, F.q24, F.q25, F.q26, F.q27, fun h => andM2 (F.q28 h) rfl, fun h => andM2 (F.q29 h) rfl, fun h => andM2 (F.q30 h) rfl, F.f0, F.f1, fun _ => rfl, F.f3, F.f4, F.f5, F.f6, F.f7, F.f8, F.f9, F.f10, F.f11, F.f12, F.f13, F.f14, F.f15, F.f16, F.f17, F.f18, F.f19, F.f20, F.f21, F.f22, F.f23, F.f24, F.f25, F.f26, F.f27, F.f28, F.f29, F.st0, F.st1⟩
      clear F
      go_simp
      exact HK.out _ _ ⟨_, _, _, _, _, _, _, _, _, _, _, _, _, _, _, _, _, _, _, _, _, _, _, _, _, _, _, _, _, _, rfl, HF.out⟩
    · obtain rfl := F.f2 (by simp [hdep])
      have HF : Hid (lok0F bv xa xb ya yb va vb S0 S1 (upd d_ 3) x6 x7 (.pointer (some ⟨bv, 0, none⟩)) (.pointer (some ⟨bv, 0, none⟩)) x10 x11 x12 x13 x14 x15 x16 x17 x18 x19 x20 x21 x22 x23 x24 x25 x26 x27 x28 x29 x30 x31 x32 x33 x34 x35 w1) := ⟨F.q2, fun _ => (show _ from (by simp [hdep] : d_ 2 = true)), fun h => rfl, F.q5, F.q6, F.q8, F.q9, F.q10, F.q11, F.q12, F.q13, F.q15, F.q16, F.q17, F.q18, F.q19, F.q21, F.q22, F.q23, F.q24, F.q25, F.q26, F.q27, fun h => andM3 (F.q28 h) rfl, fun h => andM3 (F.q29 h) rfl, fun h => andM3 (F.q30 h) rfl, F.f0, F.f1, F.f2, fun _ => rfl, F.f4, F.f5, F.f6, F.f7, F.f8, F.f9, F.f10, F.f11, F.f12, F.f13, F.f14, F.f15, F.f16, F.f17, F.f18, F.f19, F.f20, F.f21, F.f22, F.f23, F.f24, F.f25, F.f26, F.f27, F.f28, F.f29, F.st0, F.st1⟩
      clear F
      go_simp
      exact HK.out _ _ ⟨_, _, _, _, _, _, _, _, _, _, _, _, _, _, _, _, _, _, _, _, _, _, _, _, _, _, _, _, _, _, rfl, HF.out⟩
    · obtain rfl := F.f3 (by simp [hdep])
      have HF : Hid (lok0F bv xa xb ya yb va vb S0 S1 (upd d_ 4) x6 x7 x8 (.pointer (some ⟨bv, 0, none⟩)) (.pointer (some ⟨bv, 0, none⟩)) x11 x12 x13 x14 x15 x16 x17 x18 x19 x20 x21 x22 x23 x24 x25 x26 x27 x28 x29 x30 x31 x32 x33 x34 x35 w1) := ⟨F.q2, F.q3, fun _ => (show _ from (by simp [hdep] : d_ 3 = true)), fun h => rfl, F.q6, F.q8, F.q9, F.q10, F.q11, F.q12, F.q13, F.q15, F.q16, F.q17, F.q18, F.q19, F.q21, F.q22, F.q23, F.q24, F.q25, F.q26, F.q27, fun h => andM4 (F.q28 h) rfl, fun h => andM4 (F.q29 h) rfl, fun h => andM4 (F.q30 h) rfl, F.f0, F.f1, F.f2, F.f3, fun _ => rfl, F.f5, F.f6, F.f7, F.f8, F.f9, F.f10, F.f11, F.f12, F.f13, F.f14, F.f15, F.f16, F.f17, F.f18, F.f19, F.f20, F.f21, F.f22, F.f23, F.f24, F.f25, F.f26, F.f27, F.f28, F.f29, F.st0, F.st1⟩
      clear F
      go_simp
      exact HK.out _ _ ⟨_, _, _, _, _, _, _, _, _, _, _, _, _, _, _, _, _, _, _, _, _, _, _, _, _, _, _, _, _, _, rfl, HF.out⟩
    · obtain rfl := F.f4 (by simp [hdep])
      have HF : Hid (lok0F bv xa xb ya yb va vb S0 S1 (upd d_ 5) x6 x7 x8 x9 (.pointer (some ⟨bv, 0, none⟩)) (.pointer (some ⟨bv, 0, none⟩)) x12 x13 x14 x15 x16 x17 x18 x19 x20 x21 x22 x23 x24 x25 x26 x27 x28 x29 x30 x31 x32 x33 x34 x35 w1) := ⟨F.q2, F.q3, F.q4, fun _ => (show _ from (by simp [hdep] : d_ 4 = true)), fun h => rfl, F.q8, F.q9, F.q10, F.q11, F.q12, F.q13, F.q15, F.q16, F.q17, F.q18, F.q19, F.q21, F.q22, F.q23, F.q24, F.q25, F.q26, F.q27, fun h => andM5 (F.q28 h) rfl, fun h => andM5 (F.q29 h) rfl, fun h => andM5 (F.q30 h) rfl, F.f0, F.f1, F.f2, F.f3, F.f4, fun _ => rfl, F.f6, F.f7, F.f8, F.f9, F.f10, F.f11, F.f12, F.f13, F.f14, F.f15, F.f16, F.f17, F.f18, F.f19, F.f20, F.f21, F.f22, F.f23, F.f24, F.f25, F.f26, F.f27, F.f28, F.f29, F.st0, F.st1⟩
      clear F
      go_simp
      exact HK.out _ _ ⟨_, _, _, _, _, _, _, _, _, _, _, _, _, _, _, _, _, _, _, _, _, _, _, _, _, _, _, _, _, _, rfl, HF.out⟩
    · have hst : S0 w1 := by
        have n_ : d_ 30 = false := by
          cases e_ : d_ 30 with
          | false => rfl
          | true => have h2 := (F.q30 e_).2.2.2.2.2.2.1; rw [show d_ 6 = false from hd_] at h2; cases h2
        exact (F.st0 n_)
      have kk := kl6.out w1 hst
      clear hst
      obtain rfl := F.f5 (by simp [hdep])
      have HF : Hid (lok0F bv xa xb ya yb va vb S0 S1 (upd d_ 6) x6 x7 x8 x9 x10 (.pointer (some ⟨bv, 0, none⟩)) (.int .i64 xa) x13 x14 x15 x16 x17 x18 x19 x20 x21 x22 x23 x24 x25 x26 x27 x28 x29 x30 x31 x32 x33 x34 x35 w1) := ⟨F.q2, F.q3, F.q4, F.q5, fun _ => (show _ from (by simp [hdep] : d_ 5 = true)), F.q8, F.q9, F.q10, F.q11, F.q12, fun h => andM0 (F.q13 h) rfl, F.q15, F.q16, F.q17, F.q18, F.q19, F.q21, F.q22, F.q23, F.q24, F.q25, F.q26, F.q27, fun h => andM6 (F.q28 h) rfl, fun h => andM6 (F.q29 h) rfl, fun h => andM6 (F.q30 h) rfl, F.f0, F.f1, F.f2, F.f3, F.f4, F.f5, fun _ => rfl, F.f7, F.f8, F.f9, F.f10, F.f11, F.f12, F.f13, F.f14, F.f15, F.f16, F.f17, F.f18, F.f19, F.f20, F.f21, F.f22, F.f23, F.f24, F.f25, F.f26, F.f27, F.f28, F.f29, F.st0, F.st1⟩
      clear F
      go_simp
      exact HK.out _ _ ⟨_, _, _, _, _, _, _, _, _, _, _, _, _, _, _, _, _, _, _, _, _, _, _, _, _, _, _, _, _, _, rfl, HF.out⟩
    · have HF : Hid (lok0F bv xa xb ya yb va vb S0 S1 (upd d_ 7) x6 x7 x8 x9 x10 x11 x12 (.pointer (some ⟨bv, 0, none⟩)) x14 x15 x16 x17 x18 x19 x20 x21 x22 x23 x24 x25 x26 x27 x28 x29 x30 x31 x32 x33 x34 x35 w1) := ⟨F.q2, F.q3, F.q4, F.q5, F.q6, fun h => rfl, F.q9, F.q10, F.q11, F.q12, F.q13, F.q15, F.q16, F.q17, F.q18, F.q19, F.q21, F.q22, F.q23, F.q24, F.q25, F.q26, F.q27, fun h => andM7 (F.q28 h) rfl, fun h => andM7 (F.q29 h) rfl, fun h => andM7 (F.q30 h) rfl, F.f0, F.f1, F.f2, F.f3, F.f4, F.f5, F.f6, fun _ => rfl, F.f8, F.f9, F.f10, F.f11, F.f12, F.f13, F.f14, F.f15, F.f16, F.f17, F.f18, F.f19, F.f20, F.f21, F.f22, F.f23, F.f24, F.f25, F.f26, F.f27, F.f28, F.f29, F.st0, F.st1⟩
      clear F
      go_simp
      exact HK.out _ _ ⟨_, _, _, _, _, _, _, _, _, _, _, _, _, _, _, _, _, _, _, _, _, _, _, _, _, _, _, _, _, _, rfl, HF.out⟩
    · obtain rfl := F.f7 (by simp [hdep])
      have HF : Hid (lok0F bv xa xb ya yb va vb S0 S1 (upd d_ 8) x6 x7 x8 x9 x10 x11 x12 (.pointer (some ⟨bv, 0, none⟩)) (.pointer (some ⟨bv, 0, none⟩)) x15 x16 x17 x18 x19 x20 x21 x22 x23 x24 x25 x26 x27 x28 x29 x30 x31 x32 x33 x34 x35 w1) := ⟨F.q2, F.q3, F.q4, F.q5, F.q6, fun _ => (show _ from (by simp [hdep] : d_ 7 = true)), fun h => rfl, F.q10, F.q11, F.q12, F.q13, F.q15, F.q16, F.q17, F.q18, F.q19, F.q21, F.q22, F.q23, F.q24, F.q25, F.q26, F.q27, fun h => andM8 (F.q28 h) rfl, fun h => andM8 (F.q29 h) rfl, fun h => andM8 (F.q30 h) rfl, F.f0, F.f1, F.f2, F.f3, F.f4, F.f5, F.f6, F.f7, fun _ => rfl, F.f9, F.f10, F.f11, F.f12, F.f13, F.f14, F.f15, F.f16, F.f17, F.f18, F.f19, F.f20, F.f21, F.f22, F.f23, F.f24, F.f25, F.f26, F.f27, F.f28, F.f29, F.st0, F.st1⟩
      clear F
      go_simp
      exact HK.out _ _ ⟨_, _, _, _, _, _, _, _, _, _, _, _, _, _, _, _, _, _, _, _, _, _, _, _, _, _, _, _, _, _, rfl, HF.out⟩
    · obtain rfl := F.f8 (by simp [hdep])
      have HF : Hid (lok0F bv xa xb ya yb va vb S0 S1 (upd d_ 9) x6 x7 x8 x9 x10 x11 x12 x13 (.pointer (some ⟨bv, 0, none⟩)) (.pointer (some ⟨bv, 0, none⟩)) x16 x17 x18 x19 x20 x21 x22 x23 x24 x25 x26 x27 x28 x29 x30 x31 x32 x33 x34 x35 w1) := ⟨F.q2, F.q3, F.q4, F.q5, F.q6, F.q8, fun _ => (show _ from (by simp [hdep] : d_ 8 = true)), fun h => rfl, F.q11, F.q12, F.q13, F.q15, F.q16, F.q17, F.q18, F.q19, F.q21, F.q22, F.q23, F.q24, F.q25, F.q26, F.q27, fun h => andM9 (F.q28 h) rfl, fun h => andM9 (F.q29 h) rfl, fun h => andM9 (F.q30 h) rfl, F.f0, F.f1, F.f2, F.f3, F.f4, F.f5, F.f6, F.f7, F.f8, fun _ => rfl, F.f10, F.f11, F.f12, F.f13, F.f14, F.f15, F.f16, F.f17, F.f18, F.f19, F.f20, F.f21, F.f22, F.f23, F.f24, F.f25, F.f26, F.f27, F.f28, F.f29, F.st0, F.st1⟩
      clear F
      go_simp
      exact HK.out _ _ ⟨_, _, _, _, _, _, _, _, _, _, _, _, _, _, _, _, _, _, _, _, _, _, _, _, _, _, _, _, _, _, rfl, HF.out⟩
    · obtain rfl := F.f9 (by simp [hdep])
      have HF : Hid (lok0F bv xa xb ya yb va vb S0 S1 (upd d_ 10) x6 x7 x8 x9 x10 x11 x12 x13 x14 (.pointer (some ⟨bv, 0, none⟩)) (.pointer (some ⟨bv, 2, none⟩)) x17 x18 x19 x20 x21 x22 x23 x24 x25 x26 x27 x28 x29 x30 x31 x32 x33 x34 x35 w1) := ⟨F.q2, F.q3, F.q4, F.q5, F.q6, F.q8, F.q9, fun _ => (show _ from (by simp [hdep] : d_ 9 = true)), fun h => rfl, F.q12, F.q13, F.q15, F.q16, F.q17, F.q18, F.q19, F.q21, F.q22, F.q23, F.q24, F.q25, F.q26, F.q27, fun h => andM10 (F.q28 h) rfl, fun h => andM10 (F.q29 h) rfl, fun h => andM10 (F.q30 h) rfl, F.f0, F.f1, F.f2, F.f3, F.f4, F.f5, F.f6, F.f7, F.f8, F.f9, fun _ => rfl, F.f11, F.f12, F.f13, F.f14, F.f15, F.f16, F.f17, F.f18, F.f19, F.f20, F.f21, F.f22, F.f23, F.f24, F.f25, F.f26, F.f27, F.f28, F.f29, F.st0, F.st1⟩
      clear F
      go_simp
      exact HK.out _ _ ⟨_, _, _, _, _, _, _, _, _, _, _, _, _, _, _, _, _, _, _, _, _, _, _, _, _, _, _, _, _, _, rfl, HF.out⟩
    · obtain rfl := F.f10 (by simp [hdep])
      have HF : Hid (lok0F bv xa xb ya yb va vb S0 S1 (upd d_ 11) x6 x7 x8 x9 x10 x11 x12 x13 x14 x15 (.pointer (some ⟨bv, 2, none⟩)) (.pointer (some ⟨bv, 2, none⟩)) x18 x19 x20 x21 x22 x23 x24 x25 x26 x27 x28 x29 x30 x31 x32 x33 x34 x35 w1) := ⟨F.q2, F.q3, F.q4, F.q5, F.q6, F.q8, F.q9, F.q10, fun _ => (show _ from (by simp [hdep] : d_ 10 = true)), fun h => rfl, F.q13, F.q15, F.q16, F.q17, F.q18, F.q19, F.q21, F.q22, F.q23, F.q24, F.q25, F.q26, F.q27, fun h => andM11 (F.q28 h) rfl, fun h => andM11 (F.q29 h) rfl, fun h => andM11 (F.q30 h) rfl, F.f0, F.f1, F.f2, F.f3, F.f4, F.f5, F.f6, F.f7, F.f8, F.f9, F.f10, fun _ => rfl, F.f12, F.f13, F.f14, F.f15, F.f16, F.f17, F.f18, F.f19, F.f20, F.f21, F.f22, F.f23, F.f24, F.f25, F.f26, F.f27, F.f28, F.f29, F.st0, F.st1⟩
      clear F
      go_simp
      exact HK.out _ _ ⟨_, _, _, _, _, _, _, _, _, _, _, _, _, _, _, _, _, _, _, _, _, _, _, _, _, _, _, _, _, _, rfl, HF.out⟩
    · have hst : S0 w1 := by
        have n_ : d_ 30 = false := by
          cases e_ : d_ 30 with
          | false => rfl
          | true => have h2 := (F.q30 e_).2.2.2.2.2.2.2.2.2.2.2.2.1; rw [show d_ 12 = false from hd_] at h2; cases h2
        exact (F.st0 n_)
      have kk := kl12.out w1 hst
      clear hst
      obtain rfl := F.f11 (by simp [hdep])
      have HF : Hid (lok0F bv xa xb ya yb va vb S0 S1 (upd d_ 12) x6 x7 x8 x9 x10 x11 x12 x13 x14 x15 x16 (.pointer (some ⟨bv, 2, none⟩)) (.int .i64 xb) x19 x20 x21 x22 x23 x24 x25 x26 x27 x28 x29 x30 x31 x32 x33 x34 x35 w1) := ⟨F.q2, F.q3, F.q4, F.q5, F.q6, F.q8, F.q9, F.q10, F.q11, fun _ => (show _ from (by simp [hdep] : d_ 11 = true)), fun h => andL1 (F.q13 h) rfl, F.q15, F.q16, F.q17, F.q18, F.q19, F.q21, F.q22, F.q23, F.q24, F.q25, F.q26, F.q27, fun h => andM12 (F.q28 h) rfl, fun h => andM12 (F.q29 h) rfl, fun h => andM12 (F.q30 h) rfl, F.f0, F.f1, F.f2, F.f3, F.f4, F.f5, F.f6, F.f7, F.f8, F.f9, F.f10, F.f11, fun _ => rfl, F.f13, F.f14, F.f15, F.f16, F.f17, F.f18, F.f19, F.f20, F.f21, F.f22, F.f23, F.f24, F.f25, F.f26, F.f27, F.f28, F.f29, F.st0, F.st1⟩
      clear F
      go_simp
      exact HK.out _ _ ⟨_, _, _, _, _, _, _, _, _, _, _, _, _, _, _, _, _, _, _, _, _, _, _, _, _, _, _, _, _, _, rfl, HF.out⟩
    · obtain rfl := F.f6 (by simp [hdep])
      obtain rfl := F.f12 (by simp [hdep])
      have HF : Hid (lok0F bv xa xb ya yb va vb S0 S1 (upd d_ 13) x6 x7 x8 x9 x10 x11 (.int .i64 xa) x13 x14 x15 x16 x17 (.int .i64 xb) (.int .i64 va) x20 x21 x22 x23 x24 x25 x26 x27 x28 x29 x30 x31 x32 x33 x34 x35 w1) := ⟨F.q2, F.q3, F.q4, F.q5, F.q6, F.q8, F.q9, F.q10, F.q11, F.q12, fun _ => ⟨(show _ from (by simp [hdep] : d_ 6 = true)), (show _ from (by simp [hdep] : d_ 12 = true))⟩, F.q15, F.q16, F.q17, F.q18, F.q19, F.q21, F.q22, F.q23, F.q24, F.q25, F.q26, fun h => andM0 (F.q27 h) rfl, fun h => andM13 (F.q28 h) rfl, fun h => andM13 (F.q29 h) rfl, fun h => andM13 (F.q30 h) rfl, F.f0, F.f1, F.f2, F.f3, F.f4, F.f5, F.f6, F.f7, F.f8, F.f9, F.f10, F.f11, F.f12, fun _ => rfl, F.f14, F.f15, F.f16, F.f17, F.f18, F.f19, F.f20, F.f21, F.f22, F.f23, F.f24, F.f25, F.f26, F.f27, F.f28, F.f29, F.st0, F.st1⟩
      clear F
      go_simp
      exact HK.out _ _ ⟨_, _, _, _, _, _, _, _, _, _, _, _, _, _, _, _, _, _, _, _, _, _, _, _, _, _, _, _, _, _, rfl, HF.out⟩
    · have HF : Hid (lok0F bv xa xb ya yb va vb S0 S1 (upd d_ 14) x6 x7 x8 x9 x10 x11 x12 x13 x14 x15 x16 x17 x18 x19 (.pointer (some ⟨bv, 0, none⟩)) x21 x22 x23 x24 x25 x26 x27 x28 x29 x30 x31 x32 x33 x34 x35 w1) := ⟨F.q2, F.q3, F.q4, F.q5, F.q6, F.q8, F.q9, F.q10, F.q11, F.q12, F.q13, fun h => rfl, F.q16, F.q17, F.q18, F.q19, F.q21, F.q22, F.q23, F.q24, F.q25, F.q26, F.q27, fun h => andM14 (F.q28 h) rfl, fun h => andM14 (F.q29 h) rfl, fun h => andM14 (F.q30 h) rfl, F.f0, F.f1, F.f2, F.f3, F.f4, F.f5, F.f6, F.f7, F.f8, F.f9, F.f10, F.f11, F.f12, F.f13, fun _ => rfl, F.f15, F.f16, F.f17, F.f18, F.f19, F.f20, F.f21, F.f22, F.f23, F.f24, F.f25, F.f26, F.f27, F.f28, F.f29, F.st0, F.st1⟩
      clear F
      go_simp
      exact HK.out _ _ ⟨_, _, _, _, _, _, _, _, _, _, _, _, _, _, _, _, _, _, _, _, _, _, _, _, _, _, _, _, _, _, rfl, HF.out⟩
    · obtain rfl := F.f14 (by simp [hdep])
      have HF : Hid (lok0F bv xa xb ya yb va vb S0 S1 (upd d_ 15) x6 x7 x8 x9 x10 x11 x12 x13 x14 x15 x16 x17 x18 x19 (.pointer (some ⟨bv, 0, none⟩)) (.pointer (some ⟨bv, 0, none⟩)) x22 x23 x24 x25 x26 x27 x28 x29 x30 x31 x32 x33 x34 x35 w1) := ⟨F.q2, F.q3, F.q4, F.q5, F.q6, F.q8, F.q9, F.q10, F.q11, F.q12, F.q13, fun _ => (show _ from (by simp [hdep] : d_ 14 = true)), fun h => rfl, F.q17, F.q18, F.q19, F.q21, F.q22, F.q23, F.q24, F.q25, F.q26, F.q27, fun h => andM15 (F.q28 h) rfl, fun h => andM15 (F.q29 h) rfl, fun h => andM15 (F.q30 h) rfl, F.f0, F.f1, F.f2, F.f3, F.f4, F.f5, F.f6, F.f7, F.f8, F.f9, F.f10, F.f11, F.f12, F.f13, F.f14, fun _ => rfl, F.f16, F.f17, F.f18, F.f19, F.f20, F.f21, F.f22, F.f23, F.f24, F.f25, F.f26, F.f27, F.f28, F.f29, F.st0, F.st1⟩
      clear F
      go_simp
      exact HK.out _ _ ⟨_, _, _, _, _, _, _, _, _, _, _, _, _, _, _, _, _, _, _, _, _, _, _, _, _, _, _, _, _, _, rfl, HF.out⟩
    · obtain rfl := F.f15 (by simp [hdep])
      have HF : Hid (lok0F bv xa xb ya yb va vb S0 S1 (upd d_ 16) x6 x7 x8 x9 x10 x11 x12 x13 x14 x15 x16 x17 x18 x19 x20 (.pointer (some ⟨bv, 0, none⟩)) (.pointer (some ⟨bv, 0, none⟩)) x23 x24 x25 x26 x27 x28 x29 x30 x31 x32 x33 x34 x35 w1) := ⟨F.q2, F.q3, F.q4, F.q5, F.q6, F.q8, F.q9, F.q10, F.q11, F.q12, F.q13, F.q15, fun _ => (show _ from (by simp [hdep] : d_ 15 = true)), fun h => rfl, F.q18, F.q19, F.q21, F.q22, F.q23, F.q24, F.q25, F.q26, F.q27, fun h => andM16 (F.q28 h) rfl, fun h => andM16 (F.q29 h) rfl, fun h => andM16 (F.q30 h) rfl, F.f0, F.f1, F.f2, F.f3, F.f4, F.f5, F.f6, F.f7, F.f8, F.f9, F.f10, F.f11, F.f12, F.f13, F.f14, F.f15, fun _ => rfl, F.f17, F.f18, F.f19, F.f20, F.f21, F.f22, F.f23, F.f24, F.f25, F.f26, F.f27, F.f28, F.f29, F.st0, F.st1⟩
      clear F
      go_simp
      exact HK.out _ _ ⟨_, _, _, _, _, _, _, _, _, _, _, _, _, _, _, _, _, _, _, _, _, _, _, _, _, _, _, _, _, _, rfl, HF.out⟩
    · obtain rfl := F.f16 (by simp [hdep])
      have HF : Hid (lok0F bv xa xb ya yb va vb S0 S1 (upd d_ 17) x6 x7 x8 x9 x10 x11 x12 x13 x14 x15 x16 x17 x18 x19 x20 x21 (.pointer (some ⟨bv, 0, none⟩)) (.pointer (some ⟨bv, 0, none⟩)) x24 x25 x26 x27 x28 x29 x30 x31 x32 x33 x34 x35 w1) := ⟨F.q2, F.q3, F.q4, F.q5, F.q6, F.q8, F.q9, F.q10, F.q11, F.q12, F.q13, F.q15, F.q16, fun _ => (show _ from (by simp [hdep] : d_ 16 = true)), fun h => rfl, F.q19, F.q21, F.q22, F.q23, F.q24, F.q25, F.q26, F.q27, fun h => andM17 (F.q28 h) rfl, fun h => andM17 (F.q29 h) rfl, fun h => andM17 (F.q30 h) rfl, F.f0, F.f1, F.f2, F.f3, F.f4, F.f5, F.f6, F.f7, F.f8, F.f9, F.f10, F.f11, F.f12, F.f13, F.f14, F.f15, F.f16, fun _ => rfl, F.f18, F.f19, F.f20, F.f21, F.f22, F.f23, F.f24, F.f25, F.f26, F.f27, F.f28, F.f29, F.st0, F.st1⟩
      clear F
      go_simp
      exact HK.out _ _ ⟨_, _, _, _, _, _, _, _, _, _, _, _, _, _, _, _, _, _, _, _, _, _, _, _, _, _, _, _, _, _, rfl, HF.out⟩
    · obtain rfl := F.f17 (by simp [hdep])
      have HF : Hid (lok0F bv xa xb ya yb va vb S0 S1 (upd d_ 18) x6 x7 x8 x9 x10 x11 x12 x13 x14 x15 x16 x17 x18 x19 x20 x21 x22 (.pointer (some ⟨bv, 0, none⟩)) (.pointer (some ⟨bv, 1, none⟩)) x25 x26 x27 x28 x29 x30 x31 x32 x33 x34 x35 w1) := ⟨F.q2, F.q3, F.q4, F.q5, F.q6, F.q8, F.q9, F.q10, F.q11, F.q12, F.q13, F.q15, F.q16, F.q17, fun _ => (show _ from (by simp [hdep] : d_ 17 = true)), fun h => rfl, F.q21, F.q22, F.q23, F.q24, F.q25, F.q26, F.q27, fun h => andM18 (F.q28 h) rfl, fun h => andM18 (F.q29 h) rfl, fun h => andM18 (F.q30 h) rfl, F.f0, F.f1, F.f2, F.f3, F.f4, F.f5, F.f6, F.f7, F.f8, F.f9, F.f10, F.f11, F.f12, F.f13, F.f14, F.f15, F.f16, F.f17, fun _ => rfl, F.f19, F.f20, F.f21, F.f22, F.f23, F.f24, F.f25, F.f26, F.f27, F.f28, F.f29, F.st0, F.st1⟩
      clear F
      go_simp
      exact HK.out _ _ ⟨_, _, _, _, _, _, _, _, _, _, _, _, _, _, _, _, _, _, _, _, _, _, _, _, _, _, _, _, _, _, rfl, HF.out⟩
    · have hst : S0 w1 := by
        have n_ : d_ 30 = false := by
          cases e_ : d_ 30 with
          | false => rfl
          | true => have h2 := (F.q30 e_).2.2.2.2.2.2.2.2.2.2.2.2.2.2.2.2.2.2.2.1; rw [show d_ 19 = false from hd_] at h2; cases h2
        exact (F.st0 n_)
      have kk := kl19.out w1 hst
      clear hst
      obtain rfl := F.f18 (by simp [hdep])
      have HF : Hid (lok0F bv xa xb ya yb va vb S0 S1 (upd d_ 19) x6 x7 x8 x9 x10 x11 x12 x13 x14 x15 x16 x17 x18 x19 x20 x21 x22 x23 (.pointer (some ⟨bv, 1, none⟩)) (.int .i64 ya) x26 x27 x28 x29 x30 x31 x32 x33 x34 x35 w1) := ⟨F.q2, F.q3, F.q4, F.q5, F.q6, F.q8, F.q9, F.q10, F.q11, F.q12, F.q13, F.q15, F.q16, F.q17, F.q18, fun _ => (show _ from (by simp [hdep] : d_ 18 = true)), F.q21, F.q22, F.q23, F.q24, F.q25, fun h => andM0 (F.q26 h) rfl, F.q27, fun h => andM19 (F.q28 h) rfl, fun h => andM19 (F.q29 h) rfl, fun h => andM19 (F.q30 h) rfl, F.f0, F.f1, F.f2, F.f3, F.f4, F.f5, F.f6, F.f7, F.f8, F.f9, F.f10, F.f11, F.f12, F.f13, F.f14, F.f15, F.f16, F.f17, F.f18, fun _ => rfl, F.f20, F.f21, F.f22, F.f23, F.f24, F.f25, F.f26, F.f27, F.f28, F.f29, F.st0, F.st1⟩
      clear F
      go_simp
      exact HK.out _ _ ⟨_, _, _, _, _, _, _, _, _, _, _, _, _, _, _, _, _, _, _, _, _, _, _, _, _, _, _, _, _, _, rfl, HF.out⟩
    · have HF : Hid (lok0F bv xa xb ya yb va vb S0 S1 (upd d_ 20) x6 x7 x8 x9 x10 x11 x12 x13 x14 x15 x16 x17 x18 x19 x20 x21 x22 x23 x24 x25 (.pointer (some ⟨bv, 0, none⟩)) x27 x28 x29 x30 x31 x32 x33 x34 x35 w1) := ⟨F.q2, F.q3, F.q4, F.q5, F.q6, F.q8, F.q9, F.q10, F.q11, F.q12, F.q13, F.q15, F.q16, F.q17, F.q18, F.q19, fun h => rfl, F.q22, F.q23, F.q24, F.q25, F.q26, F.q27, fun h => andM20 (F.q28 h) rfl, fun h => andM20 (F.q29 h) rfl, fun h => andM20 (F.q30 h) rfl, F.f0, F.f1, F.f2, F.f3, F.f4, F.f5, F.f6, F.f7, F.f8, F.f9, F.f10, F.f11, F.f12, F.f13, F.f14, F.f15, F.f16, F.f17, F.f18, F.f19, fun _ => rfl, F.f21, F.f22, F.f23, F.f24, F.f25, F.f26, F.f27, F.f28, F.f29, F.st0, F.st1⟩
      clear F
      go_simp
      exact HK.out _ _ ⟨_, _, _, _, _, _, _, _, _, _, _, _, _, _, _, _, _, _, _, _, _, _, _, _, _, _, _, _, _, _, rfl, HF.out⟩
    · obtain rfl := F.f20 (by simp [hdep])
      have HF : Hid (lok0F bv xa xb ya yb va vb S0 S1 (upd d_ 21) x6 x7 x8 x9 x10 x11 x12 x13 x14 x15 x16 x17 x18 x19 x20 x21 x22 x23 x24 x25 (.pointer (some ⟨bv, 0, none⟩)) (.pointer (some ⟨bv, 0, none⟩)) x28 x29 x30 x31 x32 x33 x34 x35 w1) := ⟨F.q2, F.q3, F.q4, F.q5, F.q6, F.q8, F.q9, F.q10, F.q11, F.q12, F.q13, F.q15, F.q16, F.q17, F.q18, F.q19, fun _ => (show _ from (by simp [hdep] : d_ 20 = true)), fun h => rfl, F.q23, F.q24, F.q25, F.q26, F.q27, fun h => andM21 (F.q28 h) rfl, fun h => andM21 (F.q29 h) rfl, fun h => andM21 (F.q30 h) rfl, F.f0, F.f1, F.f2, F.f3, F.f4, F.f5, F.f6, F.f7, F.f8, F.f9, F.f10, F.f11, F.f12, F.f13, F.f14, F.f15, F.f16, F.f17, F.f18, F.f19, F.f20, fun _ => rfl, F.f22, F.f23, F.f24, F.f25, F.f26, F.f27, F.f28, F.f29, F.st0, F.st1⟩
      clear F
      go_simp
      exact HK.out _ _ ⟨_, _, _, _, _, _, _, _, _, _, _, _, _, _, _, _, _, _, _, _, _, _, _, _, _, _, _, _, _, _, rfl, HF.out⟩
    · obtain rfl := F.f21 (by simp [hdep])
      have HF : Hid (lok0F bv xa xb ya yb va vb S0 S1 (upd d_ 22) x6 x7 x8 x9 x10 x11 x12 x13 x14 x15 x16 x17 x18 x19 x20 x21 x22 x23 x24 x25 x26 (.pointer (some ⟨bv, 0, none⟩)) (.pointer (some ⟨bv, 0, none⟩)) x29 x30 x31 x32 x33 x34 x35 w1) := ⟨F.q2, F.q3, F.q4, F.q5, F.q6, F.q8, F.q9, F.q10, F.q11, F.q12, F.q13, F.q15, F.q16, F.q17, F.q18, F.q19, F.q21, fun _ => (show _ from (by simp [hdep] : d_ 21 = true)), fun h => rfl, F.q24, F.q25, F.q26, F.q27, fun h => andM22 (F.q28 h) rfl, fun h => andM22 (F.q29 h) rfl, fun h => andM22 (F.q30 h) rfl, F.f0, F.f1, F.f2, F.f3, F.f4, F.f5, F.f6, F.f7, F.f8, F.f9, F.f10, F.f11, F.f12, F.f13, F.f14, F.f15, F.f16, F.f17, F.f18, F.f19, F.f20, F.f21, fun _ => rfl, F.f23, F.f24, F.f25, F.f26, F.f27, F.f28, F.f29, F.st0, F.st1⟩
      clear F
      go_simp
      exact HK.out _ _ ⟨_, _, _, _, _, _, _, _, _, _, _, _, _, _, _, _, _, _, _, _, _, _, _, _, _, _, _, _, _, _, rfl, HF.out⟩
    · obtain rfl := F.f22 (by simp [hdep])
      have HF : Hid (lok0F bv xa xb ya yb va vb S0 S1 (upd d_ 23) x6 x7 x8 x9 x10 x11 x12 x13 x14 x15 x16 x17 x18 x19 x20 x21 x22 x23 x24 x25 x26 x27 (.pointer (some ⟨bv, 0, none⟩)) (.pointer (some ⟨bv, 2, none⟩)) x30 x31 x32 x33 x34 x35 w1) := ⟨F.q2, F.q3, F.q4, F.q5, F.q6, F.q8, F.q9, F.q10, F.q11, F.q12, F.q13, F.q15, F.q16, F.q17, F.q18, F.q19, F.q21, F.q22, fun _ => (show _ from (by simp [hdep] : d_ 22 = true)), fun h => rfl, F.q25, F.q26, F.q27, fun h => andM23 (F.q28 h) rfl, fun h => andM23 (F.q29 h) rfl, fun h => andM23 (F.q30 h) rfl, F.f0, F.f1, F.f2, F.f3, F.f4, F.f5, F.f6, F.f7, F.f8, F.f9, F.f10, F.f11, F.f12, F.f13, F.f14, F.f15, F.f16, F.f17, F.f18, F.f19, F.f20, F.f21, F.f22, fun _ => rfl, F.f24, F.f25, F.f26, F.f27, F.f28, F.f29, F.st0, F.st1⟩
      clear F
      go_simp
      exact HK.out _ _ ⟨_, _, _, _, _, _, _, _, _, _, _, _, _, _, _, _, _, _, _, _, _, _, _, _, _, _, _, _, _, _, rfl, HF.out⟩
    · obtain rfl := F.f23 (by simp [hdep])
      have HF : Hid (lok0F bv xa xb ya yb va vb S0 S1 (upd d_ 24) x6 x7 x8 x9 x10 x11 x12 x13 x14 x15 x16 x17 x18 x19 x20 x21 x22 x23 x24 x25 x26 x27 x28 (.pointer (some ⟨bv, 2, none⟩)) (.pointer (some ⟨bv, 3, none⟩)) x31 x32 x33 x34 x35 w1) := ⟨F.q2, F.q3, F.q4, F.q5, F.q6, F.q8, F.q9, F.q10, F.q11, F.q12, F.q13, F.q15, F.q16, F.q17, F.q18, F.q19, F.q21, F.q22, F.q23, fun _ => (show _ from (by simp [hdep] : d_ 23 = true)), fun h => rfl, F.q26, F.q27, fun h => andM24 (F.q28 h) rfl, fun h => andM24 (F.q29 h) rfl, fun h => andM24 (F.q30 h) rfl, F.f0, F.f1, F.f2, F.f3, F.f4, F.f5, F.f6, F.f7, F.f8, F.f9, F.f10, F.f11, F.f12, F.f13, F.f14, F.f15, F.f16, F.f17, F.f18, F.f19, F.f20, F.f21, F.f22, F.f23, fun _ => rfl, F.f25, F.f26, F.f27, F.f28, F.f29, F.st0, F.st1⟩
      clear F
      go_simp
      exact HK.out _ _ ⟨_, _, _, _, _, _, _, _, _, _, _, _, _, _, _, _, _, _, _, _, _, _, _, _, _, _, _, _, _, _, rfl, HF.out⟩
    · have hst : S0 w1 := by
        have n_ : d_ 30 = false := by
          cases e_ : d_ 30 with
          | false => rfl
          | true => have h2 := (F.q30 e_).2.2.2.2.2.2.2.2.2.2.2.2.2.2.2.2.2.2.2.2.2.2.2.2.2.1; rw [show d_ 25 = false from hd_] at h2; cases h2
        exact (F.st0 n_)
      have kk := kl25.out w1 hst
      clear hst
      obtain rfl := F.f24 (by simp [hdep])
      have HF : Hid (lok0F bv xa xb ya yb va vb S0 S1 (upd d_ 25) x6 x7 x8 x9 x10 x11 x12 x13 x14 x15 x16 x17 x18 x19 x20 x21 x22 x23 x24 x25 x26 x27 x28 x29 (.pointer (some ⟨bv, 3, none⟩)) (.int .i64 yb) x32 x33 x34 x35 w1) := ⟨F.q2, F.q3, F.q4, F.q5, F.q6, F.q8, F.q9, F.q10, F.q11, F.q12, F.q13, F.q15, F.q16, F.q17, F.q18, F.q19, F.q21, F.q22, F.q23, F.q24, fun _ => (show _ from (by simp [hdep] : d_ 24 = true)), fun h => andL1 (F.q26 h) rfl, F.q27, fun h => andM25 (F.q28 h) rfl, fun h => andM25 (F.q29 h) rfl, fun h => andM25 (F.q30 h) rfl, F.f0, F.f1, F.f2, F.f3, F.f4, F.f5, F.f6, F.f7, F.f8, F.f9, F.f10, F.f11, F.f12, F.f13, F.f14, F.f15, F.f16, F.f17, F.f18, F.f19, F.f20, F.f21, F.f22, F.f23, F.f24, fun _ => rfl, F.f26, F.f27, F.f28, F.f29, F.st0, F.st1⟩
      clear F
      go_simp
      exact HK.out _ _ ⟨_, _, _, _, _, _, _, _, _, _, _, _, _, _, _, _, _, _, _, _, _, _, _, _, _, _, _, _, _, _, rfl, HF.out⟩
    · obtain rfl := F.f19 (by simp [hdep])
      obtain rfl := F.f25 (by simp [hdep])
      have HF : Hid (lok0F bv xa xb ya yb va vb S0 S1 (upd d_ 26) x6 x7 x8 x9 x10 x11 x12 x13 x14 x15 x16 x17 x18 x19 x20 x21 x22 x23 x24 (.int .i64 ya) x26 x27 x28 x29 x30 (.int .i64 yb) (.int .i64 vb) x33 x34 x35 w1) := ⟨F.q2, F.q3, F.q4, F.q5, F.q6, F.q8, F.q9, F.q10, F.q11, F.q12, F.q13, F.q15, F.q16, F.q17, F.q18, F.q19, F.q21, F.q22, F.q23, F.q24, F.q25, fun _ => ⟨(show _ from (by simp [hdep] : d_ 19 = true)), (show _ from (by simp [hdep] : d_ 25 = true))⟩, fun h => andL1 (F.q27 h) rfl, fun h => andM26 (F.q28 h) rfl, fun h => andM26 (F.q29 h) rfl, fun h => andM26 (F.q30 h) rfl, F.f0, F.f1, F.f2, F.f3, F.f4, F.f5, F.f6, F.f7, F.f8, F.f9, F.f10, F.f11, F.f12, F.f13, F.f14, F.f15, F.f16, F.f17, F.f18, F.f19, F.f20, F.f21, F.f22, F.f23, F.f24, F.f25, fun _ => rfl, F.f27, F.f28, F.f29, F.st0, F.st1⟩
      clear F
      go_simp
      exact HK.out _ _ ⟨_, _, _, _, _, _, _, _, _, _, _, _, _, _, _, _, _, _, _, _, _, _, _, _, _, _, _, _, _, _, rfl, HF.out⟩
    · obtain rfl := F.f13 (by simp [hdep])
      obtain rfl := F.f26 (by simp [hdep])
      have HF : Hid (lok0F bv xa xb ya yb va vb S0 S1 (upd d_ 27) x6 x7 x8 x9 x10 x11 x12 x13 x14 x15 x16 x17 x18 (.int .i64 va) x20 x21 x22 x23 x24 x25 x26 x27 x28 x29 x30 x31 (.int .i64 vb) (.agg #[.int .i64 va, .int .i64 vb]) x34 x35 w1) := ⟨F.q2, F.q3, F.q4, F.q5, F.q6, F.q8, F.q9, F.q10, F.q11, F.q12, F.q13, F.q15, F.q16, F.q17, F.q18, F.q19, F.q21, F.q22, F.q23, F.q24, F.q25, F.q26, fun _ => ⟨(show _ from (by simp [hdep] : d_ 13 = true)), (show _ from (by simp [hdep] : d_ 26 = true))⟩, fun h => andL27 (F.q28 h) rfl, fun h => andM27 (F.q29 h) rfl, fun h => andM27 (F.q30 h) rfl, F.f0, F.f1, F.f2, F.f3, F.f4, F.f5, F.f6, F.f7, F.f8, F.f9, F.f10, F.f11, F.f12, F.f13, F.f14, F.f15, F.f16, F.f17, F.f18, F.f19, F.f20, F.f21, F.f22, F.f23, F.f24, F.f25, F.f26, fun _ => rfl, F.f28, F.f29, F.st0, F.st1⟩
      clear F
      go_simp
      exact HK.out _ _ ⟨_, _, _, _, _, _, _, _, _, _, _, _, _, _, _, _, _, _, _, _, _, _, _, _, _, _, _, _, _, _, rfl, HF.out⟩
    · obtain rfl := F.f0 (by simp [hdep])
      have HF : Hid (lok0F bv xa xb ya yb va vb S0 S1 (upd d_ 28) (.pointer (some ⟨bv, 0, none⟩)) x7 x8 x9 x10 x11 x12 x13 x14 x15 x16 x17 x18 x19 x20 x21 x22 x23 x24 x25 x26 x27 x28 x29 x30 x31 x32 x33 (.pointer (some ⟨bv, 0, none⟩)) x35 w1) := ⟨F.q2, F.q3, F.q4, F.q5, F.q6, F.q8, F.q9, F.q10, F.q11, F.q12, F.q13, F.q15, F.q16, F.q17, F.q18, F.q19, F.q21, F.q22, F.q23, F.q24, F.q25, F.q26, F.q27, fun _ => ⟨(show _ from (by simp [hdep] : d_ 0 = true)), (show _ from (by simp [hdep] : d_ 1 = true)), (show _ from (by simp [hdep] : d_ 2 = true)), (show _ from (by simp [hdep] : d_ 3 = true)), (show _ from (by simp [hdep] : d_ 4 = true)), (show _ from (by simp [hdep] : d_ 5 = true)), (show _ from (by simp [hdep] : d_ 6 = true)), (show _ from (by simp [hdep] : d_ 7 = true)), (show _ from (by simp [hdep] : d_ 8 = true)), (show _ from (by simp [hdep] : d_ 9 = true)), (show _ from (by simp [hdep] : d_ 10 = true)), (show _ from (by simp [hdep] : d_ 11 = true)), (show _ from (by simp [hdep] : d_ 12 = true)), (show _ from (by simp [hdep] : d_ 13 = true)), (show _ from (by simp [hdep] : d_ 14 = true)), (show _ from (by simp [hdep] : d_ 15 = true)), (show _ from (by simp [hdep] : d_ 16 = true)), (show _ from (by simp [hdep] : d_ 17 = true)), (show _ from (by simp [hdep] : d_ 18 = true)), (show _ from (by simp [hdep] : d_ 19 = true)), (show _ from (by simp [hdep] : d_ 20 = true)), (show _ from (by simp [hdep] : d_ 21 = true)), (show _ from (by simp [hdep] : d_ 22 = true)), (show _ from (by simp [hdep] : d_ 23 = true)), (show _ from (by simp [hdep] : d_ 24 = true)), (show _ from (by simp [hdep] : d_ 25 = true)), (show _ from (by simp [hdep] : d_ 26 = true)), (show _ from (by simp [hdep] : d_ 27 = true))⟩, fun h => andL28 (F.q29 h) rfl, F.q30, F.f0, F.f1, F.f2, F.f3, F.f4, F.f5, F.f6, F.f7, F.f8, F.f9, F.f10, F.f11, F.f12, F.f13, F.f14, F.f15, F.f16, F.f17, F.f18, F.f19, F.f20, F.f21, F.f22, F.f23, F.f24, F.f25, F.f26, F.f27, fun _ => rfl, F.f29, F.st0, F.st1⟩
      clear F
      go_simp
      exact HK.out _ _ ⟨_, _, _, _, _, _, _, _, _, _, _, _, _, _, _, _, _, _, _, _, _, _, _, _, _, _, _, _, _, _, rfl, HF.out⟩
    · obtain rfl := F.f28 (by simp [hdep])
      have HF : Hid (lok0F bv xa xb ya yb va vb S0 S1 (upd d_ 29) x6 x7 x8 x9 x10 x11 x12 x13 x14 x15 x16 x17 x18 x19 x20 x21 x22 x23 x24 x25 x26 x27 x28 x29 x30 x31 x32 x33 (.pointer (some ⟨bv, 0, none⟩)) (.pointer (some ⟨bv, 8, none⟩)) w1) := ⟨F.q2, F.q3, F.q4, F.q5, F.q6, F.q8, F.q9, F.q10, F.q11, F.q12, F.q13, F.q15, F.q16, F.q17, F.q18, F.q19, F.q21, F.q22, F.q23, F.q24, F.q25, F.q26, F.q27, F.q28, fun _ => ⟨(show _ from (by simp [hdep] : d_ 0 = true)), (show _ from (by simp [hdep] : d_ 1 = true)), (show _ from (by simp [hdep] : d_ 2 = true)), (show _ from (by simp [hdep] : d_ 3 = true)), (show _ from (by simp [hdep] : d_ 4 = true)), (show _ from (by simp [hdep] : d_ 5 = true)), (show _ from (by simp [hdep] : d_ 6 = true)), (show _ from (by simp [hdep] : d_ 7 = true)), (show _ from (by simp [hdep] : d_ 8 = true)), (show _ from (by simp [hdep] : d_ 9 = true)), (show _ from (by simp [hdep] : d_ 10 = true)), (show _ from (by simp [hdep] : d_ 11 = true)), (show _ from (by simp [hdep] : d_ 12 = true)), (show _ from (by simp [hdep] : d_ 13 = true)), (show _ from (by simp [hdep] : d_ 14 = true)), (show _ from (by simp [hdep] : d_ 15 = true)), (show _ from (by simp [hdep] : d_ 16 = true)), (show _ from (by simp [hdep] : d_ 17 = true)), (show _ from (by simp [hdep] : d_ 18 = true)), (show _ from (by simp [hdep] : d_ 19 = true)), (show _ from (by simp [hdep] : d_ 20 = true)), (show _ from (by simp [hdep] : d_ 21 = true)), (show _ from (by simp [hdep] : d_ 22 = true)), (show _ from (by simp [hdep] : d_ 23 = true)), (show _ from (by simp [hdep] : d_ 24 = true)), (show _ from (by simp [hdep] : d_ 25 = true)), (show _ from (by simp [hdep] : d_ 26 = true)), (show _ from (by simp [hdep] : d_ 27 = true)), (show _ from (by simp [hdep] : d_ 28 = true))⟩, fun h => andL28 (F.q30 h) rfl, F.f0, F.f1, F.f2, F.f3, F.f4, F.f5, F.f6, F.f7, F.f8, F.f9, F.f10, F.f11, F.f12, F.f13, F.f14, F.f15, F.f16, F.f17, F.f18, F.f19, F.f20, F.f21, F.f22, F.f23, F.f24, F.f25, F.f26, F.f27, F.f28, fun _ => rfl, F.st0, F.st1⟩
      clear F
      go_simp
      exact HK.out _ _ ⟨_, _, _, _, _, _, _, _, _, _, _, _, _, _, _, _, _, _, _, _, _, _, _, _, _, _, _, _, _, _, rfl, HF.out⟩
    · have hS := F.st0  hd_
      obtain rfl := F.f27 (by simp [hdep])
      obtain rfl := F.f29 (by simp [hdep])
      obtain ⟨⟨ku0, kcell0⟩, kfr0, ⟨ku1, kcell1⟩, kfr1, hres⟩ := kc30.out w1 hS
      have HF : Hid (lok0F bv xa xb ya yb va vb S0 S1 (upd d_ 30) x6 x7 x8 x9 x10 x11 x12 x13 x14 x15 x16 x17 x18 x19 x20 x21 x22 x23 x24 x25 x26 x27 x28 x29 x30 x31 x32 (.agg #[.int .i64 va, .int .i64 vb]) x34 (.pointer (some ⟨bv, 8, none⟩)) ((w1.setCell ⟨bv, 8, none⟩ (.int .i64 va)).setCell ⟨bv, 9, none⟩ (.int .i64 vb))) := ⟨F.q2, F.q3, F.q4, F.q5, F.q6, F.q8, F.q9, F.q10, F.q11, F.q12, F.q13, F.q15, F.q16, F.q17, F.q18, F.q19, F.q21, F.q22, F.q23, F.q24, F.q25, F.q26, F.q27, F.q28, F.q29, fun _ => ⟨(show _ from (by simp [hdep] : d_ 0 = true)), (show _ from (by simp [hdep] : d_ 1 = true)), (show _ from (by simp [hdep] : d_ 2 = true)), (show _ from (by simp [hdep] : d_ 3 = true)), (show _ from (by simp [hdep] : d_ 4 = true)), (show _ from (by simp [hdep] : d_ 5 = true)), (show _ from (by simp [hdep] : d_ 6 = true)), (show _ from (by simp [hdep] : d_ 7 = true)), (show _ from (by simp [hdep] : d_ 8 = true)), (show _ from (by simp [hdep] : d_ 9 = true)), (show _ from (by simp [hdep] : d_ 10 = true)), (show _ from (by simp [hdep] : d_ 11 = true)), (show _ from (by simp [hdep] : d_ 12 = true)), (show _ from (by simp [hdep] : d_ 13 = true)), (show _ from (by simp [hdep] : d_ 14 = true)), (show _ from (by simp [hdep] : d_ 15 = true)), (show _ from (by simp [hdep] : d_ 16 = true)), (show _ from (by simp [hdep] : d_ 17 = true)), (show _ from (by simp [hdep] : d_ 18 = true)), (show _ from (by simp [hdep] : d_ 19 = true)), (show _ from (by simp [hdep] : d_ 20 = true)), (show _ from (by simp [hdep] : d_ 21 = true)), (show _ from (by simp [hdep] : d_ 22 = true)), (show _ from (by simp [hdep] : d_ 23 = true)), (show _ from (by simp [hdep] : d_ 24 = true)), (show _ from (by simp [hdep] : d_ 25 = true)), (show _ from (by simp [hdep] : d_ 26 = true)), (show _ from (by simp [hdep] : d_ 27 = true)), (show _ from (by simp [hdep] : d_ 29 = true))⟩, F.f0, F.f1, F.f2, F.f3, F.f4, F.f5, F.f6, F.f7, F.f8, F.f9, F.f10, F.f11, F.f12, F.f13, F.f14, F.f15, F.f16, F.f17, F.f18, F.f19, F.f20, F.f21, F.f22, F.f23, F.f24, F.f25, F.f26, F.f27, F.f28, F.f29, fun h => (by simp [upd] at h), fun _ => hres⟩
      clear F hS hres
      go_simp
      exact HK.out _ _ ⟨_, _, _, _, _, _, _, _, _, _, _, _, _, _, _, _, _, _, _, _, _, _, _, _, _, _, _, _, _, _, rfl, HF.out⟩
  · rintro d_ a_ w1 hall ⟨x6, x7, x8, x9, x10, x11, x12, x13, x14, x15, x16, x17, x18, x19, x20, x21, x22, x23, x24, x25, x26, x27, x28, x29, x30, x31, x32, x33, x34, x35, rfl, F⟩
    have hall' : ∀ k, k < 31 → d_ k = true := hall
    obtain rfl := F.f0 (hall' 0 (by decide))
    obtain rfl := F.f1 (hall' 1 (by decide))
    obtain rfl := F.f2 (hall' 2 (by decide))
    obtain rfl := F.f3 (hall' 3 (by decide))
    obtain rfl := F.f4 (hall' 4 (by decide))
    obtain rfl := F.f5 (hall' 5 (by decide))
    obtain rfl := F.f6 (hall' 6 (by decide))
    obtain rfl := F.f7 (hall' 7 (by decide))
    obtain rfl := F.f8 (hall' 8 (by decide))
    obtain rfl := F.f9 (hall' 9 (by decide))
    obtain rfl := F.f10 (hall' 10 (by decide))
    obtain rfl := F.f11 (hall' 11 (by decide))
    obtain rfl := F.f12 (hall' 12 (by decide))
    obtain rfl := F.f13 (hall' 13 (by decide))
    obtain rfl := F.f14 (hall' 14 (by decide))
    obtain rfl := F.f15 (hall' 15 (by decide))
    obtain rfl := F.f16 (hall' 16 (by decide))
    obtain rfl := F.f17 (hall' 17 (by decide))
    obtain rfl := F.f18 (hall' 18 (by decide))
    obtain rfl := F.f19 (hall' 19 (by decide))
    obtain rfl := F.f20 (hall' 20 (by decide))
    obtain rfl := F.f21 (hall' 21 (by decide))
    obtain rfl := F.f22 (hall' 22 (by decide))
    obtain rfl := F.f23 (hall' 23 (by decide))
    obtain rfl := F.f24 (hall' 24 (by decide))
    obtain rfl := F.f25 (hall' 25 (by decide))
    obtain rfl := F.f26 (hall' 26 (by decide))
    obtain rfl := F.f27 (hall' 27 (by decide))
    obtain rfl := F.f28 (hall' 28 (by decide))
    obtain rfl := F.f29 (hall' 29 (by decide))
    have hst := F.st1 (hall' 30 (by decide))
    exact HQ.out  w1 hst
structure lok5F (bv : Nat) (b3 : Nat) (x : Int) (y : Int) (z1 : Int) (z2 : Int) (zb : Bool) (t0 : Int) (t1 : Int) (t2 : Int) (t3 : Int) (t4 : Int) (t5 : Int) (t6 : Int) (t7 : Int) (t8 : Int) (S0 : Bool → Nat → World → Prop) (S1 : Bool → Nat → Unit → World → Prop) (S2 : Bool → Nat → Unit → World → Prop) (d : Nat → Bool) (x50 x51 x52 x53 x54 x55 x56 x49 x57 x58 x4 x5 : Value) (ms : Nat) (u1 : Unit) (w : World) : Prop where
  q3 : d 3 = true → d 2 = true
  q4 : d 4 = true → d 3 = true
  q5 : d 5 = true → d 4 = true
  q6 : d 6 = true → d 0 = true ∧ d 1 = true ∧ d 5 = true
  q7 : d 7 = true → d 6 = true
  q8 : d 8 = true → d 7 = true
  q9 : d 9 = true → d 7 = true
  q11 : d 11 = true → d 0 = true ∧ d 1 = true ∧ d 2 = true ∧ d 3 = true ∧ d 4 = true ∧ d 5 = true ∧ d 6 = true ∧ d 7 = true ∧ d 8 = true ∧ d 10 = true
  q12 : d 12 = true → d 0 = true ∧ d 1 = true ∧ d 2 = true ∧ d 3 = true ∧ d 4 = true ∧ d 5 = true ∧ d 6 = true ∧ d 7 = true ∧ d 8 = true ∧ d 9 = true ∧ d 10 = true ∧ d 11 = true
  f0 : d 0 = true → x50 = .pointer (some ⟨bv, 0, none⟩)
  f1 : d 1 = true → x51 = .agg #[.int .i64 t0, .int .i64 t1, .int .i64 t2, .int .i64 t3, .int .i64 t4, .int .i64 t5, .int .i64 t6, .int .i64 t7, .int .i64 t8]
  f2 : d 2 = true → x52 = .pointer (some ⟨bv, 0, none⟩)
  f3 : d 3 = true → x53 = .pointer (some ⟨bv, 0, none⟩)
  f4 : d 4 = true → x54 = .pointer (some ⟨bv, 8, none⟩)
  f5 : d 5 = true → x55 = .agg #[.int .i64 x, .int .i64 y]
  f6 : d 6 = true → x56 = .tuple #[.agg #[.int .i64 z1, .int .i64 z2], .bool zb]
  f7 : d 7 = true → x49 = .tuple #[.agg #[.int .i64 z1, .int .i64 z2], .bool zb]
  f8 : d 8 = true → x57 = .agg #[.int .i64 z1, .int .i64 z2]
  f9 : d 9 = true → x58 = .bool zb
  f10 : d 10 = true → x4 = .pointer (some ⟨ms, 0, none⟩)
  f12 : d 12 = true → x5 = .bool zb
  st0 : d 6 = false → S0 (d 10) ms w
  st1 : d 6 = true → d 11 = false → S1 (d 10) ms u1 w
  st2 : d 11 = true → S2 (d 10) ms u1 w
  mz : d 10 = false → ms = 0
noncomputable def lok5C : Code := (Tryd.f79.body.bind (regionAt 5)).getD .skip
set_option maxRecDepth 100000 in
set_option maxHeartbeats 4000000 in
theorem lok5 {bv : Nat} {b3 : Nat} {x : Int} {y : Int} {z1 : Int} {z2 : Int} {zb : Bool} {t0 : Int} {t1 : Int} {t2 : Int} {t3 : Int} {t4 : Int} {t5 : Int} {t6 : Int} {t7 : Int} {t8 : Int} {S0 : Bool → Nat → World → Prop} {S1 : Bool → Nat → Unit → World → Prop} {S2 : Bool → Nat → Unit → World → Prop} {Q : Exit → Act → World → Prop} {W1 : World} (h0 : S0 false 0 W1.drew)
    (kl1 : Hid (∀ (fs : Bool) (ms : Nat) (w : World), (S0 fs ms w) → w.cell? ⟨b3, 0, none⟩ = some (.int .i64 t0) ∧ w.cell? ⟨b3, 1, none⟩ = some (.int .i64 t1) ∧ w.cell? ⟨b3, 2, none⟩ = some (.int .i64 t2) ∧ w.cell? ⟨b3, 3, none⟩ = some (.int .i64 t3) ∧ w.cell? ⟨b3, 4, none⟩ = some (.int .i64 t4) ∧ w.cell? ⟨b3, 5, none⟩ = some (.int .i64 t5) ∧ w.cell? ⟨b3, 6, none⟩ = some (.int .i64 t6) ∧ w.cell? ⟨b3, 7, none⟩ = some (.int .i64 t7) ∧ w.cell? ⟨b3, 8, none⟩ = some (.int .i64 t8)))
    (kl5 : Hid (∀ (fs : Bool) (ms : Nat) (w : World), (S0 fs ms w) → w.cell? ⟨bv, 8, none⟩ = some (.int .i64 x) ∧ w.cell? ⟨bv, 9, none⟩ = some (.int .i64 y)))
    (kc6 : Hid (∀ (fs : Bool) (ms : Nat) (w : World), S0 fs ms w → Calls Tryd.prog 43 #[.pointer (some ⟨bv, 0, none⟩), .agg #[.int .i64 t0, .int .i64 t1, .int .i64 t2, .int .i64 t3, .int .i64 t4, .int .i64 t5, .int .i64 t6, .int .i64 t7, .int .i64 t8], .agg #[.int .i64 x, .int .i64 y]] w fun e w' => ∃ u1 : Unit, e = .returned (.tuple #[.agg #[.int .i64 z1, .int .i64 z2], .bool zb]) ∧ S1 fs ms u1 w'))
    (ks0 : Hid (∀ (w : World), S0 false 0 w → S0 true w.heap.size (w.alloc (.cells #[.int .i64 0, .int .i64 0] 42))))
    (ks1 : Hid (∀ (u1 : Unit) (w : World), S1 false 0 u1 w → S1 true w.heap.size u1 (w.alloc (.cells #[.int .i64 0, .int .i64 0] 42))))
    (kc11 : Hid (∀ (ms : Nat) (u1 : Unit) (w : World), S1 true ms u1 w → (∃ u, w.cell? ⟨ms, 0, none⟩ = some u) ∧ w.frozen? ⟨ms, 0, none⟩ = false ∧ (∃ u, w.cell? ⟨ms, 1, none⟩ = some u) ∧ w.frozen? ⟨ms, 1, none⟩ = false ∧ S2 true ms u1 ((w.setCell ⟨ms, 0, none⟩ (.int .i64 z1)).setCell ⟨ms, 1, none⟩ (.int .i64 z2))))
    {s1 s2 s4 s5 s6 s7 s8 s9 s10 s11 s12 s13 s14 s15 s16 s17 s18 s19 s20 s21 s22 s23 s24 s25 s26 s27 s28 s29 s30 s31 s32 s33 s34 s35 s36 s37 s38 s39 s40 s41 s42 s43 s44 s45 s46 s47 s48 s49 s50 s51 s52 s53 s54 s55 s56 s57 s58 s59 s60 s61 s62 s63 s64 s65 : Value} {dd : List Deferred}
    (hQ : ∀ (ms : Nat) (u1 : Unit) (w' : World), S2 true ms u1 w' → Q .normal { tmps := List.toArray (.pointer (some ⟨bv, 0, none⟩) :: s1 :: s2 :: .pointer (some ⟨b3, 0, none⟩) :: .pointer (some ⟨ms, 0, none⟩) :: .bool zb :: s6 :: s7 :: s8 :: s9 :: s10 :: s11 :: s12 :: s13 :: s14 :: s15 :: s16 :: s17 :: s18 :: s19 :: s20 :: s21 :: s22 :: s23 :: s24 :: s25 :: s26 :: s27 :: s28 :: s29 :: s30 :: s31 :: s32 :: s33 :: s34 :: s35 :: s36 :: s37 :: s38 :: s39 :: s40 :: s41 :: s42 :: s43 :: s44 :: s45 :: s46 :: s47 :: s48 :: .tuple #[.agg #[.int .i64 z1, .int .i64 z2], .bool zb] :: .pointer (some ⟨bv, 0, none⟩) :: .agg #[.int .i64 t0, .int .i64 t1, .int .i64 t2, .int .i64 t3, .int .i64 t4, .int .i64 t5, .int .i64 t6, .int .i64 t7, .int .i64 t8] :: .pointer (some ⟨bv, 0, none⟩) :: .pointer (some ⟨bv, 0, none⟩) :: .pointer (some ⟨bv, 8, none⟩) :: .agg #[.int .i64 x, .int .i64 y] :: .tuple #[.agg #[.int .i64 z1, .int .i64 z2], .bool zb] :: .agg #[.int .i64 z1, .int .i64 z2] :: .bool zb :: s59 :: s60 :: s61 :: s62 :: s63 :: s64 :: s65 :: []), defers := dd } w') :
    Code.wpIn (wideAt none) 0 Tryd.prog lok5C Q { tmps := List.toArray (.pointer (some ⟨bv, 0, none⟩) :: s1 :: s2 :: .pointer (some ⟨b3, 0, none⟩) :: s4 :: s5 :: s6 :: s7 :: s8 :: s9 :: s10 :: s11 :: s12 :: s13 :: s14 :: s15 :: s16 :: s17 :: s18 :: s19 :: s20 :: s21 :: s22 :: s23 :: s24 :: s25 :: s26 :: s27 :: s28 :: s29 :: s30 :: s31 :: s32 :: s33 :: s34 :: s35 :: s36 :: s37 :: s38 :: s39 :: s40 :: s41 :: s42 :: s43 :: s44 :: s45 :: s46 :: s47 :: s48 :: s49 :: s50 :: s51 :: s52 :: s53 :: s54 :: s55 :: s56 :: s57 :: s58 :: s59 :: s60 :: s61 :: s62 :: s63 :: s64 :: s65 :: []), defers := dd } W1 := by
  have HQ := Lib.hid hQ
  clear hQ
  conv => arg 4; whnf
  refine wpIn_region_invG mixed (by kernel_rfl) (fun d_ a_ w' => ∃ (x50 : Value) (x51 : Value) (x52 : Value) (x53 : Value) (x54 : Value) (x55 : Value) (x56 : Value) (x49 : Value) (x57 : Value) (x58 : Value) (x4 : Value) (x5 : Value) (ms : Nat) (u1 : Unit), a_ = { tmps := List.toArray (.pointer (some ⟨bv, 0, none⟩) :: s1 :: s2 :: .pointer (some ⟨b3, 0, none⟩) :: x4 :: x5 :: s6 :: s7 :: s8 :: s9 :: s10 :: s11 :: s12 :: s13 :: s14 :: s15 :: s16 :: s17 :: s18 :: s19 :: s20 :: s21 :: s22 :: s23 :: s24 :: s25 :: s26 :: s27 :: s28 :: s29 :: s30 :: s31 :: s32 :: s33 :: s34 :: s35 :: s36 :: s37 :: s38 :: s39 :: s40 :: s41 :: s42 :: s43 :: s44 :: s45 :: s46 :: s47 :: s48 :: x49 :: x50 :: x51 :: x52 :: x53 :: x54 :: x55 :: x56 :: x57 :: x58 :: s59 :: s60 :: s61 :: s62 :: s63 :: s64 :: s65 :: []), defers := dd } ∧ lok5F bv b3 x y z1 z2 zb t0 t1 t2 t3 t4 t5 t6 t7 t8 S0 S1 S2 d_ x50 x51 x52 x53 x54 x55 x56 x49 x57 x58 x4 x5 ms u1 w') ?_ ?_ ?_
  · refine ⟨s50, s51, s52, s53, s54, s55, s56, s49, s57, s58, s4, s5, 0, default, rfl, ?_⟩
    constructor <;> first | rfl | (intro _; rfl) | (intro h; cases h; done) | (intro _; exact h0) | exact h0
  · refine ⟨?_, ?_, ?_, ?_, ?_, ?_, ?_, ?_, ?_, ?_, ?_, ?_, ?_, trivial⟩
    all_goals
      rintro d_ a_ w1 K hd_ hdep ⟨x50, x51, x52, x53, x54, x55, x56, x49, x57, x58, x4, x5, ms, u1, rfl, F⟩ HK
      simp [Region.binds] at hdep
    · have HF : Hid (lok5F bv b3 x y z1 z2 zb t0 t1 t2 t3 t4 t5 t6 t7 t8 S0 S1 S2 (upd d_ 0) (.pointer (some ⟨bv, 0, none⟩)) x51 x52 x53 x54 x55 x56 x49 x57 x58 x4 x5 ms u1 w1) := ⟨F.q3, F.q4, F.q5, fun h => andM0 (F.q6 h) rfl, F.q7, F.q8, F.q9, fun h => andM0 (F.q11 h) rfl, fun h => andM0 (F.q12 h) rfl, fun _ => rfl, F.f1, F.f2, F.f3, F.f4, F.f5, F.f6, F.f7, F.f8, F.f9, F.f10, F.f12, F.st0, F.st1, F.st2, F.mz⟩
      clear F
      go_simp
      exact HK.out _ _ ⟨_, _, _, _, _, _, _, _, _, _, _, _, _, _, rfl, HF.out⟩
    · have hst : S0 (d_ 10) ms w1 := by
        have n_ : d_ 6 = false := by
          cases e_ : d_ 6 with
          | false => rfl
          | true => have h2 := (F.q6 e_).2.1; rw [show d_ 1 = false from hd_] at h2; cases h2
        exact (F.st0 n_)
      have kk := kl1.out (d_ 10) ms w1 hst
      obtain ⟨kk0, kk1, kk2, kk3, kk4, kk5, kk6, kk7, kk8⟩ := kk
      clear hst
      have HF : Hid (lok5F bv b3 x y z1 z2 zb t0 t1 t2 t3 t4 t5 t6 t7 t8 S0 S1 S2 (upd d_ 1) x50 (.agg #[.int .i64 t0, .int .i64 t1, .int .i64 t2, .int .i64 t3, .int .i64 t4, .int .i64 t5, .int .i64 t6, .int .i64 t7, .int .i64 t8]) x52 x53 x54 x55 x56 x49 x57 x58 x4 x5 ms u1 w1) := ⟨F.q3, F.q4, F.q5, fun h => andM1 (F.q6 h) rfl, F.q7, F.q8, F.q9, fun h => andM1 (F.q11 h) rfl, fun h => andM1 (F.q12 h) rfl, F.f0, fun _ => rfl, F.f2, F.f3, F.f4, F.f5, F.f6, F.f7, F.f8, F.f9, F.f10, F.f12, F.st0, F.st1, F.st2, F.mz⟩
      clear F
      go_simp
      exact HK.out _ _ ⟨_, _, _, _, _, _, _, _, _, _, _, _, _, _, rfl, HF.out⟩
    · have HF : Hid (lok5F bv b3 x y z1 z2 zb t0 t1 t2 t3 t4 t5 t6 t7 t8 S0 S1 S2 (upd d_ 2) x50 x51 (.pointer (some ⟨bv, 0, none⟩)) x53 x54 x55 x56 x49 x57 x58 x4 x5 ms u1 w1) := ⟨fun h => rfl, F.q4, F.q5, F.q6, F.q7, F.q8, F.q9, fun h => andM2 (F.q11 h) rfl, fun h => andM2 (F.q12 h) rfl, F.f0, F.f1, fun _ => rfl, F.f3, F.f4, F.f5, F.f6, F.f7, F.f8, F.f9, F.f10, F.f12, F.st0, F.st1, F.st2, F.mz⟩
      clear F
      go_simp
      exact HK.out _ _ ⟨_, _, _, _, _, _, _, _, _, _, _, _, _, _, rfl, HF.out⟩
    · obtain rfl := F.f2 (by simp [hdep])
      have HF : Hid (lok5F bv b3 x y z1 z2 zb t0 t1 t2 t3 t4 t5 t6 t7 t8 S0 S1 S2 (upd d_ 3) x50 x51 (.pointer (some ⟨bv, 0, none⟩)) (.pointer (some ⟨bv, 0, none⟩)) x54 x55 x56 x49 x57 x58 x4 x5 ms u1 w1) := ⟨fun _ => (show _ from (by simp [hdep] : d_ 2 = true)), fun h => rfl, F.q5, F.q6, F.q7, F.q8, F.q9, fun h => andM3 (F.q11 h) rfl, fun h => andM3 (F.q12 h) rfl, F.f0, F.f1, F.f2, fun _ => rfl, F.f4, F.f5, F.f6, F.f7, F.f8, F.f9, F.f10, F.f12, F.st0, F.st1, F.st2, F.mz⟩
      clear F
      go_simp
      exact HK.out _ _ ⟨_, _, _, _, _, _, _, _, _, _, _, _, _, _, rfl, HF.out⟩
    · obtain rfl := F.f3 (by simp [hdep])
      have HF : Hid (lok5F bv b3 x y z1 z2 zb t0 t1 t2 t3 t4 t5 t6 t7 t8 S0 S1 S2 (upd d_ 4) x50 x51 x52 (.pointer (some ⟨bv, 0, none⟩)) (.pointer (some ⟨bv, 8, none⟩)) x55 x56 x49 x57 x58 x4 x5 ms u1 w1) := ⟨F.q3, fun _ => (show _ from (by simp [hdep] : d_ 3 = true)), fun h => rfl, F.q6, F.q7, F.q8, F.q9, fun h => andM4 (F.q11 h) rfl, fun h => andM4 (F.q12 h) rfl, F.f0, F.f1, F.f2, F.f3, fun _ => rfl, F.f5, F.f6, F.f7, F.f8, F.f9, F.f10, F.f12, F.st0, F.st1, F.st2, F.mz⟩
      clear F
      go_simp
      exact HK.out _ _ ⟨_, _, _, _, _, _, _, _, _, _, _, _, _, _, rfl, HF.out⟩
    · have hst : S0 (d_ 10) ms w1 := by
        have n_ : d_ 6 = false := by
          cases e_ : d_ 6 with
          | false => rfl
          | true => have h2 := (F.q6 e_).2.2; rw [show d_ 5 = false from hd_] at h2; cases h2
        exact (F.st0 n_)
      have kk := kl5.out (d_ 10) ms w1 hst
      obtain ⟨kk0, kk1⟩ := kk
      clear hst
      obtain rfl := F.f4 (by simp [hdep])
      have HF : Hid (lok5F bv b3 x y z1 z2 zb t0 t1 t2 t3 t4 t5 t6 t7 t8 S0 S1 S2 (upd d_ 5) x50 x51 x52 x53 (.pointer (some ⟨bv, 8, none⟩)) (.agg #[.int .i64 x, .int .i64 y]) x56 x49 x57 x58 x4 x5 ms u1 w1) := ⟨F.q3, F.q4, fun _ => (show _ from (by simp [hdep] : d_ 4 = true)), fun h => andL2 (F.q6 h) rfl, F.q7, F.q8, F.q9, fun h => andM5 (F.q11 h) rfl, fun h => andM5 (F.q12 h) rfl, F.f0, F.f1, F.f2, F.f3, F.f4, fun _ => rfl, F.f6, F.f7, F.f8, F.f9, F.f10, F.f12, F.st0, F.st1, F.st2, F.mz⟩
      clear F
      go_simp
      exact HK.out _ _ ⟨_, _, _, _, _, _, _, _, _, _, _, _, _, _, rfl, HF.out⟩
    · have hS := F.st0  hd_
      obtain rfl := F.f0 (by simp [hdep])
      obtain rfl := F.f1 (by simp [hdep])
      obtain rfl := F.f5 (by simp [hdep])
      have hc := kc6.out (d_ 10) ms w1 hS
      have HF := Lib.hid F
      clear F
      go_simp
      refine ⟨trivial, rfl, wideAt_calls (hc.mono ?_)⟩
      rintro e w5 ⟨v_, rfl, hres⟩
      exact HK.out _ _ ⟨_, _, _, _, _, _, _, _, _, _, _, _, ms, v_, rfl, ⟨HF.out.q3, HF.out.q4, HF.out.q5, fun _ => ⟨(show _ from (by simp [hdep] : d_ 0 = true)), (show _ from (by simp [hdep] : d_ 1 = true)), (show _ from (by simp [hdep] : d_ 5 = true))⟩, fun h => rfl, HF.out.q8, HF.out.q9, fun h => ⟨(HF.out.q11 h).1, (HF.out.q11 h).2.1, (HF.out.q11 h).2.2.1, (HF.out.q11 h).2.2.2.1, (HF.out.q11 h).2.2.2.2.1, (HF.out.q11 h).2.2.2.2.2.1, rfl, (HF.out.q11 h).2.2.2.2.2.2.2.1, (HF.out.q11 h).2.2.2.2.2.2.2.2.1, (HF.out.q11 h).2.2.2.2.2.2.2.2.2⟩, fun h => ⟨(HF.out.q12 h).1, (HF.out.q12 h).2.1, (HF.out.q12 h).2.2.1, (HF.out.q12 h).2.2.2.1, (HF.out.q12 h).2.2.2.2.1, (HF.out.q12 h).2.2.2.2.2.1, rfl, (HF.out.q12 h).2.2.2.2.2.2.2.1, (HF.out.q12 h).2.2.2.2.2.2.2.2.1, (HF.out.q12 h).2.2.2.2.2.2.2.2.2.1, (HF.out.q12 h).2.2.2.2.2.2.2.2.2.2.1, (HF.out.q12 h).2.2.2.2.2.2.2.2.2.2.2⟩, HF.out.f0, HF.out.f1, HF.out.f2, HF.out.f3, HF.out.f4, HF.out.f5, fun _ => rfl, HF.out.f7, HF.out.f8, HF.out.f9, HF.out.f10, HF.out.f12, fun h => (by simp [upd] at h), fun _ _ => hres, fun h => (by have h2 : d_ 6 = true := (HF.out.q11 h).2.2.2.2.2.2.1; rw [show d_ 6 = false from hd_] at h2; cases h2), HF.out.mz⟩⟩
    · obtain rfl := F.f6 (by simp [hdep])
      have HF : Hid (lok5F bv b3 x y z1 z2 zb t0 t1 t2 t3 t4 t5 t6 t7 t8 S0 S1 S2 (upd d_ 7) x50 x51 x52 x53 x54 x55 (.tuple #[.agg #[.int .i64 z1, .int .i64 z2], .bool zb]) (.tuple #[.agg #[.int .i64 z1, .int .i64 z2], .bool zb]) x57 x58 x4 x5 ms u1 w1) := ⟨F.q3, F.q4, F.q5, F.q6, fun _ => (show _ from (by simp [hdep] : d_ 6 = true)), fun h => rfl, fun h => rfl, fun h => andM7 (F.q11 h) rfl, fun h => andM7 (F.q12 h) rfl, F.f0, F.f1, F.f2, F.f3, F.f4, F.f5, F.f6, fun _ => rfl, F.f8, F.f9, F.f10, F.f12, F.st0, F.st1, F.st2, F.mz⟩
      clear F
      go_simp
      exact HK.out _ _ ⟨_, _, _, _, _, _, _, _, _, _, _, _, _, _, rfl, HF.out⟩
    · obtain rfl := F.f7 (by simp [hdep])
      have HF : Hid (lok5F bv b3 x y z1 z2 zb t0 t1 t2 t3 t4 t5 t6 t7 t8 S0 S1 S2 (upd d_ 8) x50 x51 x52 x53 x54 x55 x56 (.tuple #[.agg #[.int .i64 z1, .int .i64 z2], .bool zb]) (.agg #[.int .i64 z1, .int .i64 z2]) x58 x4 x5 ms u1 w1) := ⟨F.q3, F.q4, F.q5, F.q6, F.q7, fun _ => (show _ from (by simp [hdep] : d_ 7 = true)), F.q9, fun h => andM8 (F.q11 h) rfl, fun h => andM8 (F.q12 h) rfl, F.f0, F.f1, F.f2, F.f3, F.f4, F.f5, F.f6, F.f7, fun _ => rfl, F.f9, F.f10, F.f12, F.st0, F.st1, F.st2, F.mz⟩
      clear F
      go_simp
      exact HK.out _ _ ⟨_, _, _, _, _, _, _, _, _, _, _, _, _, _, rfl, HF.out⟩
    · obtain rfl := F.f7 (by simp [hdep])
      have HF : Hid (lok5F bv b3 x y z1 z2 zb t0 t1 t2 t3 t4 t5 t6 t7 t8 S0 S1 S2 (upd d_ 9) x50 x51 x52 x53 x54 x55 x56 (.tuple #[.agg #[.int .i64 z1, .int .i64 z2], .bool zb]) x57 (.bool zb) x4 x5 ms u1 w1) := ⟨F.q3, F.q4, F.q5, F.q6, F.q7, F.q8, fun _ => (show _ from (by simp [hdep] : d_ 7 = true)), F.q11, fun h => andM9 (F.q12 h) rfl, F.f0, F.f1, F.f2, F.f3, F.f4, F.f5, F.f6, F.f7, F.f8, fun _ => rfl, F.f10, F.f12, F.st0, F.st1, F.st2, F.mz⟩
      clear F
      go_simp
      exact HK.out _ _ ⟨_, _, _, _, _, _, _, _, _, _, _, _, _, _, rfl, HF.out⟩
    · have HF : Hid (lok5F bv b3 x y z1 z2 zb t0 t1 t2 t3 t4 t5 t6 t7 t8 S0 S1 S2 (upd d_ 10) x50 x51 x52 x53 x54 x55 x56 x49 x57 x58 (.pointer (some ⟨w1.heap.size, 0, none⟩)) x5 w1.heap.size u1 (w1.alloc (.cells #[.int .i64 0, .int .i64 0] 42))) := ⟨F.q3, F.q4, F.q5, F.q6, F.q7, F.q8, F.q9, fun h => andL9 (F.q11 h) rfl, fun h => andM10 (F.q12 h) rfl, F.f0, F.f1, F.f2, F.f3, F.f4, F.f5, F.f6, F.f7, F.f8, F.f9, fun _ => rfl, F.f12, fun b => ks0.out w1 (by have h := F.st0 b; rw [show d_ 10 = false from hd_, F.mz hd_] at h; exact h), fun a b => ks1.out u1 w1 (by have h := F.st1 a b; rw [show d_ 10 = false from hd_, F.mz hd_] at h; exact h), fun a => (by have h2 : d_ 10 = true := (F.q11 a).2.2.2.2.2.2.2.2.2; rw [show d_ 10 = false from hd_] at h2; cases h2), fun h => (by simp [upd] at h)⟩
      clear F
      go_simp
      exact HK.out _ _ ⟨_, _, _, _, _, _, _, _, _, _, _, _, _, _, rfl, HF.out⟩
    · have hS := F.st1 (by simp [hdep] : d_ 6 = true) hd_
      rw [show d_ 10 = true from (by simp [hdep] : d_ 10 = true)] at hS
      obtain rfl := F.f8 (by simp [hdep])
      obtain rfl := F.f10 (by simp [hdep])
      obtain ⟨⟨ku0, kcell0⟩, kfr0, ⟨ku1, kcell1⟩, kfr1, hres⟩ := kc11.out ms u1 w1 hS
      have HF : Hid (lok5F bv b3 x y z1 z2 zb t0 t1 t2 t3 t4 t5 t6 t7 t8 S0 S1 S2 (upd d_ 11) x50 x51 x52 x53 x54 x55 x56 x49 (.agg #[.int .i64 z1, .int .i64 z2]) x58 (.pointer (some ⟨ms, 0, none⟩)) x5 ms u1 ((w1.setCell ⟨ms, 0, none⟩ (.int .i64 z1)).setCell ⟨ms, 1, none⟩ (.int .i64 z2))) := ⟨F.q3, F.q4, F.q5, F.q6, F.q7, F.q8, F.q9, fun _ => ⟨(show _ from (by simp [hdep] : d_ 0 = true)), (show _ from (by simp [hdep] : d_ 1 = true)), (show _ from (by simp [hdep] : d_ 2 = true)), (show _ from (by simp [hdep] : d_ 3 = true)), (show _ from (by simp [hdep] : d_ 4 = true)), (show _ from (by simp [hdep] : d_ 5 = true)), (show _ from (by simp [hdep] : d_ 6 = true)), (show _ from (by simp [hdep] : d_ 7 = true)), (show _ from (by simp [hdep] : d_ 8 = true)), (show _ from (by simp [hdep] : d_ 10 = true))⟩, fun h => andL11 (F.q12 h) rfl, F.f0, F.f1, F.f2, F.f3, F.f4, F.f5, F.f6, F.f7, F.f8, F.f9, F.f10, F.f12, fun h => (by have h2 : d_ 6 = false := h; rw [(by simp [hdep] : d_ 6 = true)] at h2; cases h2), fun _ h => (by simp [upd] at h), fun _ => (by rw [show upd d_ 11 10 = true from (by simp [hdep] : d_ 10 = true)]; exact hres), F.mz⟩
      clear F hS hres
      go_simp
      exact HK.out _ _ ⟨_, _, _, _, _, _, _, _, _, _, _, _, _, _, rfl, HF.out⟩
    · obtain rfl := F.f9 (by simp [hdep])
      have HF : Hid (lok5F bv b3 x y z1 z2 zb t0 t1 t2 t3 t4 t5 t6 t7 t8 S0 S1 S2 (upd d_ 12) x50 x51 x52 x53 x54 x55 x56 x49 x57 (.bool zb) x4 (.bool zb) ms u1 w1) := ⟨F.q3, F.q4, F.q5, F.q6, F.q7, F.q8, F.q9, F.q11, fun _ => ⟨(show _ from (by simp [hdep] : d_ 0 = true)), (show _ from (by simp [hdep] : d_ 1 = true)), (show _ from (by simp [hdep] : d_ 2 = true)), (show _ from (by simp [hdep] : d_ 3 = true)), (show _ from (by simp [hdep] : d_ 4 = true)), (show _ from (by simp [hdep] : d_ 5 = true)), (show _ from (by simp [hdep] : d_ 6 = true)), (show _ from (by simp [hdep] : d_ 7 = true)), (show _ from (by simp [hdep] : d_ 8 = true)), (show _ from (by simp [hdep] : d_ 9 = true)), (show _ from (by simp [hdep] : d_ 10 = true)), (show _ from (by simp [hdep] : d_ 11 = true))⟩, F.f0, F.f1, F.f2, F.f3, F.f4, F.f5, F.f6, F.f7, F.f8, F.f9, F.f10, fun _ => rfl, F.st0, F.st1, F.st2, F.mz⟩
      clear F
      go_simp
      exact HK.out _ _ ⟨_, _, _, _, _, _, _, _, _, _, _, _, _, _, rfl, HF.out⟩
  · rintro d_ a_ w1 hall ⟨x50, x51, x52, x53, x54, x55, x56, x49, x57, x58, x4, x5, ms, u1, rfl, F⟩
    have hall' : ∀ k, k < 13 → d_ k = true := hall
    obtain rfl := F.f0 (hall' 0 (by decide))
    obtain rfl := F.f1 (hall' 1 (by decide))
    obtain rfl := F.f2 (hall' 2 (by decide))
    obtain rfl := F.f3 (hall' 3 (by decide))
    obtain rfl := F.f4 (hall' 4 (by decide))
    obtain rfl := F.f5 (hall' 5 (by decide))
    obtain rfl := F.f6 (hall' 6 (by decide))
    obtain rfl := F.f7 (hall' 7 (by decide))
    obtain rfl := F.f8 (hall' 8 (by decide))
    obtain rfl := F.f9 (hall' 9 (by decide))
    obtain rfl := F.f10 (hall' 10 (by decide))
    obtain rfl := F.f12 (hall' 12 (by decide))
    have hst := F.st2 (hall' 11 (by decide))
    rw [show d_ 10 = true from hall' 10 (by decide)] at hst
    exact HQ.out ms u1 w1 hst
end Go.Proofs.YtbnhngfegnhaiaaDoor
namespace Go.Proofs.YtbnhngfegnhaiaaDoor
open Go.RowKit
set_option linter.unusedVariables false
set_option linter.unusedSimpArgs false
def panE (x : Int) : Ending := .panicked [{ v := .iface 138 (.agg #[.int .i64 x]), recovered := false }]
def okN (p : Par) (l : List Int) : Bool := l.all fun n => inR n 0 ((p.things.length : Int) - 1)
theorem okN_drop {p : Par} {l : List Int} {k : Nat} (h : k < l.length) : okN p (l.drop k) = (inR (gi l k) 0 ((p.things.length : Int) - 1) && okN p (l.drop (k + 1))) := by
  rw [List.drop_eq_getElem_cons h]
  unfold okN
  rw [List.all_cons]
  simp [gi, h]
set_option maxRecDepth 100000 in
set_option maxHeartbeats 4000000 in
theorem open40 {p : Par} {a al : Option Addr} {c cl : Nat} {l : List Int} {w : World} (ha : IsThs w a p.things) (hl : p.things.length ≤ 1000000) (hi : IsInts w al l) (hll : l.length ≤ 1000) :
    Calls Tryd.prog 37 #[p.v a c, .slice al l.length cl] w fun e w' => Below w.heap.size w w' ∧ ((p.valid = false ∧ e = panE 1) ∨ (p.valid = true ∧ okN p l = false ∧ e = panE 2) ∨ (p.valid = true ∧ okN p l = true ∧ ∃ bv, e = .returned (.pointer (some ⟨bv, 0, none⟩)) ∧ w.heap.size ≤ bv ∧ IsView w' bv p a c ⟨0, 0⟩)) := by
  have HX : Hid ((w.alloc (.cells (p.arr a c) 40)).heap[w.heap.size]? = some (.cells (p.arr a c) 40 (0, 0)) ∧ Below w.heap.size w (w.alloc (.cells (p.arr a c) 40)) ∧ IsThs (w.alloc (.cells (p.arr a c) 40)) a p.things ∧ IsInts (w.alloc (.cells (p.arr a c) 40)) al l) := ⟨World.alloc_heap_new w _, alloc_below _ _, ha.mono (alloc_below _ _), hi.mono (alloc_below _ _)⟩
  clear ha hi
  go_enter Tryd.func37, Tryd.ntmps37
  refine wp_seq_hid ?_
  intro K0 HK0
  go_wp2_with fail
  refine HK0.out _ _ ?_
  clear HK0 K0
  revert HX
  generalize w.alloc (.cells (p.arr a c) 40) = w1
  intro HX
  obtain ⟨k0, k1, k2, k3, k4, k5, k6, k7⟩ := par_cells HX.out.1
  refine wp_seq_hid ?_
  intro K1 HK1
  go_wp2_with fail
  refine (isPair57 HX.out.2.2.1 hl).mono ?_
  clear k0 k1 k2 k3 k4 k5 k6 k7
  rintro e w2 ⟨rfl, hb⟩
  have HB := Lib.hid (HX.out.2.1.trans (hb.mono HX.out.2.1.size))
  have KF : Hid (∀ v, Below w2.heap.size w2 v → v.heap[w.heap.size]? = some (.cells (p.arr a c) 40 (0, 0)) ∧ IsThs v a p.things ∧ IsInts v al l ∧ Below w.heap.size w v) := by
    have HB2 := Lib.hid hb
    exact fun v hv => ⟨((HB2.out.trans (hv.mono HB2.out.size)).block _ (heap_lt HX.out.1)).trans HX.out.1, HX.out.2.2.1.mono (HB2.out.trans (hv.mono HB2.out.size)), HX.out.2.2.2.mono (HB2.out.trans (hv.mono HB2.out.size)), HB.out.trans (hv.mono HB.out.size)⟩
  clear hb
  cases hv : p.valid
  case false =>
    have HV := Lib.hid hv
    clear hv
    go_wp2_with fail
    refine (need23_no 1 _).mono ?_
    rintro e w3 ⟨rfl, rfl⟩
    go_wp2_with fail
    exact ⟨rfl, HB.out, .inl ⟨HV.out, rfl⟩⟩
  case true =>
    have HV := Lib.hid hv
    clear hv
    go_wp2_with fail
    refine (need23_yes 1 _).mono ?_
    rintro e w3 ⟨rfl, rfl⟩
    go_wp2_with fail
    refine HK1.out _ _ ?_
    clear HK1 K1
    refine wp_seq_hid ?_
    intro K2 HK2
    go_wp2_with fail
    go_loopw [12] (fun i wr => ∃ k : Nat, k ≤ l.length ∧ i = .int .i64 k ∧ Hid (okN p l = okN p (l.drop k)) ∧ Hid (w2 = wr)) (fun i _ => l.length - (intOf i).toNat)
    case atStart => exact ⟨0, by omega, rfl, rfl, rfl⟩
    case round =>
      obtain ⟨k, hk, rfl, HK, HW⟩ := hrel
      obtain rfl := HW.out
      have HB0 := Lib.hid (KF.out w2 (Below.refl _ _))
      by_cases hlt : k < l.length
      · obtain ⟨b, off, hab, hc⟩ := HB0.out.2.2.1 k hlt
        subst hab
        have hd := okN_drop (p := p) hlt
        have m7 : w2.cell? ⟨w.heap.size, 7, none⟩ = some (.slice a p.things.length c) := by rw [cell_of_heap HB0.out.1]; rfl
        have x1 : IntKind.i64.wrap ((p.things.length : Int) - 1) = (p.things.length : Int) - 1 := IntWalk.i64_in _ (by omega)
        revert hd hc
        generalize gi l k = n
        intro hc hd
        go_wp2_with fail
        refine (within58 _ _ _ _).mono ?_
        rintro e w3 ⟨rfl, rfl⟩
        cases hin : inR n 0 ((p.things.length : Int) - 1)
        · rw [hin] at hd
          have HD := Lib.hid hd
          clear hd hin
          go_wp2_with fail
          refine (need23_no 2 _).mono ?_
          rintro e w3 ⟨rfl, rfl⟩
          go_wp2_with fail
          exact ⟨rfl, HB.out, .inr (.inl ⟨HV.out, by rw [HK.out, HD.out]; rfl, rfl⟩)⟩
        · rw [hin] at hd
          have HD := Lib.hid hd
          clear hd hin
          go_wp2_with fail
          refine (need23_yes 2 _).mono ?_
          rintro e w3 ⟨rfl, rfl⟩
          go_wp2_with fail
          go_roundw
          case rel => exact ⟨k + 1, by omega, by go_num, by rw [Hid, HK.out, HD.out]; rfl, by first | exact Lib.hid trivial | rfl⟩
          case measure => simp [intOf]; omega
      · have hke : l.drop k = [] := List.drop_eq_nil_of_le (by omega)
        have HOK : Hid (okN p l = true) := by rw [Hid, HK.out, hke]; rfl
        clear hke
        go_wp2_with fail
        refine HK2.out _ _ ?_
        obtain ⟨k0, k1, k2, k3, k4, k5, k6, k7⟩ := par_cells HB0.out.1
        have HQ : Hid ((w2.alloc (.cells (viewArr p a c ⟨0, 0⟩) 86)).heap[w2.heap.size]? = some (.cells (viewArr p a c ⟨0, 0⟩) 86 (0, 0))) := World.alloc_heap_new _ _
        have HQB : Hid (Below w2.heap.size w2 (w2.alloc (.cells (viewArr p a c ⟨0, 0⟩) 86))) := alloc_below _ _
        go_wp2_with fail
        go_ret
        exact ⟨HB.out.trans (HQB.out.mono HB.out.size), .inr (.inr ⟨HV.out, HOK.out, w2.heap.size, rfl, HB.out.size, HQ.out, HB0.out.2.1.mono HQB.out⟩)⟩
end Go.Proofs.YtbnhngfegnhaiaaDoor
namespace Go.Proofs.YtbnhngfegnhaiaaDoor
def Par.fits (p : Par) (t : Thg) (x : Int) : Prop := p.can t = true ∧ (p.powers t t.shown).lo ≤ x ∧ x ≤ (p.powers t t.shown).hi
/-- What a valid pair's numbers are. -/
structure Par.Nums (p : Par) : Prop where
  n1 : 2000 ≤ p.near
  n2 : p.near ≤ p.far
  n3 : p.far ≤ 1073741824
  f1 : 1 ≤ p.focal.lo
  f2 : p.focal.lo ≤ p.focal.hi
  f3 : p.focal.hi ≤ 50000
  b1 : 1 ≤ p.base.lo
  b2 : p.base.lo ≤ p.base.hi
  b3 : p.base.hi ≤ 10000
  t1 : 0 ≤ p.tilt
  t2 : p.tilt ≤ 1000
  len : p.things.length ≤ 12
  things : ∀ t ∈ p.things, thgOk p t = true
theorem nums_of {p : Par} (h : p.valid = true) : p.Nums := by
  unfold Par.valid Par.sizeOk at h
  simp only [Bool.and_eq_true, inR, Spn.ok, decide_eq_true_eq, List.all_eq_true] at h
  obtain ⟨⟨⟨⟨⟨⟨a, b⟩, c⟩, d⟩, e⟩, f⟩, g⟩ := h
  exact ⟨by omega, by omega, by omega, by omega, by omega, by omega, by omega, by omega, by omega, by omega, by omega, f, g⟩
theorem all_bd {p : Par} (h : p.Nums) : 1 ≤ p.all.lo ∧ p.all.lo ≤ p.all.hi ∧ p.all.hi ≤ 500000000 := by
  unfold Par.all
  have f1 := h.f1; have f2 := h.f2; have f3 := h.f3; have b1 := h.b1; have b2 := h.b2; have b3 := h.b3
  refine ⟨?_, ?_, ?_⟩
  · have := Int.mul_le_mul f1 b1 (by omega) (by omega); simpa using this
  · exact Int.mul_le_mul f2 b2 (by omega) (by omega)
  · have := Int.mul_le_mul f3 b3 (by omega) (by omega); simpa using this
theorem gt_mem {l : List Thg} {k : Nat} (h : k < l.length) : gt l k ∈ l := by simp [gt, h]
/-- A thing told as a landmark. -/
def Thg.mark (t : Thg) (z : Int) : Thg := { t with far := z }
def Par.put (p : Par) (k : Nat) (z : Int) : Par := { p with things := p.things.set k ((gt p.things k).mark z) }
end Go.Proofs.YtbnhngfegnhaiaaDoor
namespace Go.Proofs.YtbnhngfegnhaiaaDoor
open Go.RowKit
set_option linter.unusedVariables false
set_option linter.unusedSimpArgs false
/-- A view of one's own, whose things lie in older memory. -/
structure LookI (W0 : World) (bv : Nat) (p : Par) (a : Option Addr) (c : Nat) (q : Spn) (v : World) : Prop where
  below : Below W0.heap.size W0 v
  h : v.heap[bv]? = some (.cells (viewArr p a c q) 86 (0, 0))
theorem LookI.mono {W0 v v' : World} {bv : Nat} {p : Par} {a : Option Addr} {c : Nat} {q : Spn} (h : LookI W0 bv p a c q v) (hb : Below v.heap.size v v') : LookI W0 bv p a c q v' := ⟨h.below.trans (hb.mono h.below.size), (hb.block _ (heap_lt h.h)).trans h.h⟩
theorem LookI.view {W0 v : World} {bv : Nat} {p : Par} {a : Option Addr} {c : Nat} {q : Spn} (h : LookI W0 bv p a c q v) (hT : IsThs W0 a p.things) : IsView v bv p a c q := ⟨h.h, hT.mono h.below⟩
theorem LookI.put {W0 v : World} {bv : Nat} {p : Par} {a : Option Addr} {c : Nat} {q : Spn} (h : LookI W0 bv p a c q v) (hb : W0.heap.size ≤ bv) (r : Spn) : LookI W0 bv p a c r ((v.setCell ⟨bv, 8, none⟩ (.int .i64 r.lo)).setCell ⟨bv, 9, none⟩ (.int .i64 r.hi)) :=
  ⟨(h.below.setCell (p := ⟨bv, 8, none⟩) hb _).setCell (p := ⟨bv, 9, none⟩) hb _, heap_setCell_at (k := 9) (heap_setCell_at (k := 8) h.h _) _⟩
theorem look_drop {p : Par} {k : Nat} (h : k < p.things.length) (q : Spn) : p.look (p.things.drop k) q = (if (gt p.things k).far = 0 then p.look (p.things.drop (k + 1)) q else if (p.still (gt p.things k) q).2 then p.look (p.things.drop (k + 1)) (p.still (gt p.things k) q).1 else none) := by
  rw [List.drop_eq_getElem_cons h]
  have e : gt p.things k = p.things[k] := by simp [gt, h]
  rw [e]
  rfl
set_option maxRecDepth 100000 in
set_option maxHeartbeats 8000000 in
theorem look41 {W0 w : World} {p : Par} {a : Option Addr} {c bv : Nat} {q0 : Spn} (HT : Hid (IsThs W0 a p.things)) (HN : Hid p.Nums) (HBV : Hid (W0.heap.size ≤ bv)) (HI : Hid (LookI W0 bv p a c q0 w)) :
    Calls Tryd.prog 79 #[.pointer (some ⟨bv, 0, none⟩)] w fun e w' => (∃ q, p.look p.things p.all = some q ∧ e = .returned (.tuple #[]) ∧ LookI W0 bv p a c q w') ∨ (p.look p.things p.all = none ∧ e = panE 4 ∧ Below W0.heap.size W0 w') := by
  have HA := Lib.hid (all_bd HN.out)
  have hm1 : IntKind.i64.wrap (p.focal.lo * p.base.lo) = p.all.lo := IntWalk.i64_in _ (by have h := HA.out; unfold Par.all at h; simp only at h; omega)
  have hm2 : IntKind.i64.wrap (p.focal.hi * p.base.hi) = p.all.hi := IntWalk.i64_in _ (by have h := HA.out; unfold Par.all at h; simp only at h; omega)
  have HM := Lib.hid (And.intro hm1 hm2)
  clear hm1 hm2
  go_enter Tryd.func79, Tryd.ntmps79
  go_step3
  refine wp_seq_hid ?_
  intro K0 HK0
  refine wpIn_wide.1 (lok0 (bv := bv) (S0 := fun v => LookI W0 bv p a c q0 v) (S1 := fun v => LookI W0 bv p a c p.all v) HM.out.1 HM.out.2 ?h0 ?l6 ?l12 ?l19 ?l25 ?c30 ?hQ)
  case h0 => exact HI.out.mono (Below.refl _ _).drew
  case l6 => exact fun v h => by rw [cell_of_heap h.h]; rfl
  case l12 => exact fun v h => by rw [cell_of_heap h.h]; rfl
  case l19 => exact fun v h => by rw [cell_of_heap h.h]; rfl
  case l25 => exact fun v h => by rw [cell_of_heap h.h]; rfl
  case c30 => exact fun v h => ⟨⟨_, by rw [cell_of_heap h.h]; rfl⟩, frozen_of_heap h.h, ⟨_, by rw [cell_of_heap h.h]; rfl⟩, frozen_of_heap h.h, h.put HBV.out p.all⟩
  intro w1 h
  have HL := Lib.hid h
  clear h HI HM
  refine HK0.out _ _ ?_
  clear HK0 K0
  have z7 : w1.cell? ⟨bv, 7, none⟩ = some (.slice a p.things.length c) := by rw [cell_of_heap HL.out.h]; rfl
  have hlen : p.things.length ≤ 12 := HN.out.len
  go_wp2_with fail
  go_step3
  go_wp2_with fail
  clear z7
  go_loopw [42] (fun i wr => ∃ (k : Nat) (q : Spn), k ≤ p.things.length ∧ i = .int .i64 k ∧ Hid (p.look p.things p.all = p.look (p.things.drop k) q) ∧ Hid (LookI W0 bv p a c q wr)) (fun i _ => p.things.length - (intOf i).toNat)
  case atStart => exact ⟨0, p.all, by omega, rfl, rfl, HL⟩
  case round =>
    obtain ⟨k, q, hk, rfl, HK, HW⟩ := hrel
    clear HL
    by_cases hlt : k < p.things.length
    · obtain ⟨b, off, hab, c0, c1, c2, c3, c4, c5, c6, c7, c8⟩ := (HT.out.mono HW.out.below) k hlt
      subst hab
      have HD := Lib.hid (look_drop hlt q)
      have hsm : (gt p.things k).Sm := thg_small (HN.out.things _ (gt_mem hlt)) (by have := HN.out.n1; omega) HN.out.n3
      have HS := Lib.hid hsm
      clear hsm
      revert HD HS c0 c1 c2 c3 c4 c5 c6 c7 c8
      generalize gt p.things k = t
      intro c0 c1 c2 c3 c4 c5 c6 c7 c8 HD HS
      have KF : Hid (∀ v, Below (wr.alloc (.cells t.arr 46)).heap.size (wr.alloc (.cells t.arr 46)) v → LookI W0 bv p (some ⟨b, off, none⟩) c q v ∧ v.heap[wr.heap.size]? = some (.cells t.arr 46 (0, 0))) := fun v hv => ⟨(HW.out.mono (alloc_below _ _)).mono hv, (hv.block _ (heap_lt (World.alloc_heap_new wr (.cells t.arr 46)))).trans (World.alloc_heap_new wr (.cells t.arr 46))⟩
      by_cases htf : t.far = 0
      · have HTF := Lib.hid htf
        have htb : (t.far == 0) = true := by simp [htf]
        go_wp2_with fail
        clear htb htf c0 c1 c2 c3 c4 c5 c6 c7 c8
        go_roundw
        case rel => exact ⟨k + 1, q, by omega, by go_num, by rw [Hid, HK.out, HD.out, if_pos HTF.out], HW.out.mono (alloc_below _ _)⟩
        case measure => simp [intOf]; omega
      · have HTF := Lib.hid htf
        have htb : (t.far == 0) = false := by simp [htf]
        clear htf
        go_upto_region 5 with fail
        clear htb c0 c1 c2 c3 c4 c5 c6 c7 c8
        revert KF
        generalize wr.alloc (.cells t.arr 46) = w2
        generalize wr.heap.size = b3
        intro KF
        have HTB : Hid ((0 ≤ p.tilt ∧ p.tilt ≤ 1000) ∧ (0 ≤ p.near ∧ p.near ≤ 1073741824) ∧ (0 ≤ p.far ∧ p.far ≤ 1073741824)) := by
          have h1 := HN.out.n1
          have h2 := HN.out.n2
          have h3 := HN.out.n3
          exact ⟨⟨HN.out.t1, HN.out.t2⟩, ⟨by omega, by omega⟩, ⟨by omega, h3⟩⟩
        have HWB := Lib.hid HW.out.below
        clear HW
        refine wpIn_wide.1 (lok5 (bv := bv) (b3 := b3) (x := q.lo) (y := q.hi) (z1 := (p.still t q).1.lo) (z2 := (p.still t q).1.hi) (zb := (p.still t q).2) (t0 := t.left.x.lo) (t1 := t.left.x.hi) (t2 := t.left.y.lo) (t3 := t.left.y.hi) (t4 := t.right.x.lo) (t5 := t.right.x.hi) (t6 := t.right.y.lo) (t7 := t.right.y.hi) (t8 := t.far)
          (S0 := fun fs ms v => Below w2.heap.size w2 v ∧ Fresh w2 fs ms v) (S1 := fun fs ms _ v => Below w2.heap.size w2 v ∧ Fresh w2 fs ms v) (S2 := fun fs ms _ v => Below w2.heap.size w2 v ∧ v.heap[ms]? = some (.cells (p.still t q).1.arr 42 (0, 0)))
          ?h0_b ?l1 ?l5 ?c6 ?s0 ?s1 ?c11 ?hQ_b)
        case h0_b => exact ⟨(Below.refl _ _).drew, Fresh.no _ _ _⟩
        case l1 =>
          intro fs ms v h
          have hq := (KF.out v h.1).2
          refine ⟨?_, ?_, ?_, ?_, ?_, ?_, ?_, ?_, ?_⟩ <;> (rw [cell_of_heap hq]; rfl)
        case l5 => exact fun fs ms v h => ⟨by rw [cell_of_heap (KF.out v h.1).1.h]; rfl, by rw [cell_of_heap (KF.out v h.1).1.h]; rfl⟩
        case c6 =>
          intro fs ms v h
          refine (still22 (q := q) HS.out HTB.out.1 HTB.out.2.1 HTB.out.2.2 ((KF.out v h.1).1.view HT.out)).mono ?_
          rintro e v' ⟨rfl, hb⟩
          exact ⟨(), rfl, h.1.trans (hb.mono h.1.size), h.2.mono hb⟩
        case s0 => exact fun v h => ⟨h.1.trans ((alloc_below _ _).mono h.1.size), Fresh.yes h.1.size⟩
        case s1 => exact fun _ v h => ⟨h.1.trans ((alloc_below _ _).mono h.1.size), Fresh.yes h.1.size⟩
        case c11 =>
          intro ms _ v h
          obtain ⟨g1, g2, g3, g4, g5, g6⟩ := h.2.put h.1 (.int .i64 (p.still t q).1.lo) (.int .i64 (p.still t q).1.hi)
          exact ⟨g1, g2, g3, g4, g5, g6⟩
        intro ms _ w4 h
        have HF := Lib.hid (KF.out w4 h.1).1
        have HM := Lib.hid h.2
        clear h KF
        cases hz : (p.still t q).2
        · have HZ := Lib.hid hz
          clear hz
          go_wp2_with fail
          refine (need23_no 4 _).mono ?_
          rintro e w5 ⟨rfl, rfl⟩
          go_wp2_with fail
          exact ⟨rfl, .inr ⟨by rw [HK.out, HD.out, if_neg HTF.out, HZ.out]; rfl, rfl, HF.out.below⟩⟩
        · have HZ := Lib.hid hz
          clear hz
          go_wp2_with fail
          refine (need23_yes 4 _).mono ?_
          rintro e w5 ⟨rfl, rfl⟩
          have m0 : w4.cell? ⟨ms, 0, none⟩ = some (.int .i64 (p.still t q).1.lo) := by rw [cell_of_heap HM.out]; rfl
          have m1 : w4.cell? ⟨ms, 1, none⟩ = some (.int .i64 (p.still t q).1.hi) := by rw [cell_of_heap HM.out]; rfl
          have v8 : w4.cell? ⟨bv, 8, none⟩ = some (.int .i64 q.lo) := by rw [cell_of_heap HF.out.h]; rfl
          have v9 : w4.cell? ⟨bv, 9, none⟩ = some (.int .i64 q.hi) := by rw [cell_of_heap HF.out.h]; rfl
          have f8 : w4.frozen? ⟨bv, 8, none⟩ = false := frozen_of_heap HF.out.h
          have f9 : w4.frozen? ⟨bv, 9, none⟩ = false := frozen_of_heap HF.out.h
          go_wp2_with fail
          clear m0 m1 v8 v9 f8 f9
          go_roundw
          case rel => exact ⟨k + 1, (p.still t q).1, by omega, by go_num, by rw [Hid, HK.out, HD.out, if_neg HTF.out, HZ.out]; rfl, HF.out.put HBV.out (p.still t q).1⟩
          case measure => simp [intOf]; omega
    · have hke : p.things.drop k = [] := List.drop_eq_nil_of_le (by omega)
      have HK2 : Hid (p.look p.things p.all = some q) := by rw [Hid, HK.out, hke]; rfl
      clear hke
      go_wp2_with fail
      simp only [Exit.noGoto]
      go_end0
      exact .inl ⟨q, HK2.out, rfl, HW.out⟩
end Go.Proofs.YtbnhngfegnhaiaaDoor
namespace Go.Proofs.YtbnhngfegnhaiaaDoor
open Go.RowKit
set_option linter.unusedVariables false
set_option linter.unusedSimpArgs false
/-- The error of a pair whose numbers of things are asked. -/
def errT (p : Par) (l : List Int) : Int := if p.valid then (if okN p l then (match p.look p.things p.all with | some _ => 0 | none => 4) else 2) else 1
set_option maxRecDepth 100000 in
set_option maxHeartbeats 4000000 in
theorem truths21 {p : Par} {a al : Option Addr} {c cl : Nat} {l : List Int} {w : World} (ha : IsThs w a p.things) (hl : p.things.length ≤ 1000000) (hi : IsInts w al l) (hll : l.length ≤ 1000) :
    Calls Tryd.prog 42 #[p.v a c, .slice al l.length cl] w fun e w' => Below w.heap.size w w' ∧ ((errT p l ≠ 0 ∧ e = .panicked [{ v := .iface 138 (.agg #[.int .i64 (errT p l)]), recovered := false }]) ∨ (errT p l = 0 ∧ p.valid = true ∧ okN p l = true ∧ ∃ q bv, p.look p.things p.all = some q ∧ e = .returned (.pointer (some ⟨bv, 0, none⟩)) ∧ w.heap.size ≤ bv ∧ IsView w' bv p a c q)) := by
  have HX : Hid ((w.alloc (.cells (p.arr a c) 40)).heap[w.heap.size]? = some (.cells (p.arr a c) 40 (0, 0)) ∧ Below w.heap.size w (w.alloc (.cells (p.arr a c) 40)) ∧ IsThs (w.alloc (.cells (p.arr a c) 40)) a p.things ∧ IsInts (w.alloc (.cells (p.arr a c) 40)) al l) := ⟨World.alloc_heap_new w _, alloc_below _ _, ha.mono (alloc_below _ _), hi.mono (alloc_below _ _)⟩
  clear ha hi
  go_enter Tryd.func42, Tryd.ntmps42
  refine wp_seq_hid ?_
  intro K0 HK0
  go_wp2_with fail
  refine HK0.out _ _ ?_
  clear HK0 K0
  revert HX
  generalize w.alloc (.cells (p.arr a c) 40) = w1
  intro HX
  obtain ⟨k0, k1, k2, k3, k4, k5, k6, k7⟩ := par_cells HX.out.1
  refine wp_seq_hid ?_
  intro K1 HK1
  go_wp2_with fail
  refine (open40 HX.out.2.2.1 hl HX.out.2.2.2 hll).mono ?_
  clear k0 k1 k2 k3 k4 k5 k6 k7
  rintro e w2 ⟨hb, hcase⟩
  have HB := Lib.hid (HX.out.2.1.trans (hb.mono HX.out.2.1.size))
  have HBT := Lib.hid (HX.out.2.2.1.mono hb)
  have HBS := Lib.hid (Nat.le_trans HX.out.2.1.size hb.size)
  rcases hcase with ⟨hv, rfl⟩ | ⟨hv, ho, rfl⟩ | ⟨hv, ho, bv, rfl, hbv, hV⟩
  · have HE : Hid (errT p l = 1) := by unfold errT; rw [Hid, hv]; rfl
    clear hb hv
    unfold panE
    go_wp2_with fail
    exact ⟨rfl, HB.out, .inl ⟨by rw [HE.out]; decide, by rw [HE.out]⟩⟩
  · have HE : Hid (errT p l = 2) := by unfold errT; rw [Hid, hv, ho]; rfl
    clear hb hv ho
    unfold panE
    go_wp2_with fail
    exact ⟨rfl, HB.out, .inl ⟨by rw [HE.out]; decide, by rw [HE.out]⟩⟩
  · have HV := Lib.hid (And.intro hv ho)
    have HBV : Hid (w1.heap.size ≤ bv) := hbv
    have HWV := Lib.hid (Nat.le_trans HX.out.2.1.size hbv)
    have HI : Hid (LookI w1 bv p a c ⟨0, 0⟩ w2) := ⟨hb, hV.h⟩
    have HN := Lib.hid (nums_of hv)
    have HT := Lib.hid HX.out.2.2.1
    clear hb hv ho hV hbv
    go_wp2_with fail
    refine HK1.out _ _ ?_
    clear HK1 K1
    refine wp_seq_hid ?_
    intro K2 HK2
    go_wp2_with fail
    refine (look41 HT HN HBV HI).mono ?_
    rintro e w3 (⟨q, hq, rfl, hL⟩ | ⟨hq, rfl, hb⟩)
    · have HE : Hid (errT p l = 0) := by unfold errT; rw [Hid, HV.out.1, HV.out.2, hq]; rfl
      have HQ := Lib.hid (And.intro hq hL)
      clear hq hL
      go_wp2_with fail
      refine HK2.out _ _ ?_
      go_wp2_with fail
      go_ret
      exact ⟨HX.out.2.1.trans (HQ.out.2.below.mono HX.out.2.1.size), .inr ⟨HE.out, HV.out.1, HV.out.2, q, bv, HQ.out.1, rfl, HWV.out, HQ.out.2.view HT.out⟩⟩
    · have HE : Hid (errT p l = 4) := by unfold errT; rw [Hid, HV.out.1, HV.out.2, hq]; rfl
      have HB3 := Lib.hid hb
      clear hb hq
      unfold panE
      go_wp2_with fail
      exact ⟨rfl, HX.out.2.1.trans (HB3.out.mono HX.out.2.1.size), .inl ⟨by rw [HE.out]; decide, by rw [HE.out]⟩⟩
/-- A span and an error put into their blocks. -/
theorem door_put {B : Nat} {A v : World} {bs be : Nat} {x0 x1 y0 : Value} (q : Spn) (x : Int) (hs : v.heap[bs]? = some (.cells #[x0, x1] 24 (0, 0))) (he : v.heap[be]? = some (.cells #[y0] 32 (0, 0))) (hne : bs ≠ be) (hb : Below B A v) (h1 : B ≤ bs) (h2 : B ≤ be) :
    (((v.setCell ⟨bs, 0, none⟩ (.int .i64 q.lo)).setCell ⟨bs, 1, none⟩ (.int .i64 q.hi)).setCell ⟨be, 0, none⟩ (.int .i64 x)).heap[bs]? = some (.cells q.arr 24 (0, 0)) ∧
    (((v.setCell ⟨bs, 0, none⟩ (.int .i64 q.lo)).setCell ⟨bs, 1, none⟩ (.int .i64 q.hi)).setCell ⟨be, 0, none⟩ (.int .i64 x)).heap[be]? = some (.cells #[.int .i64 x] 32 (0, 0)) ∧
    Below B A (((v.setCell ⟨bs, 0, none⟩ (.int .i64 q.lo)).setCell ⟨bs, 1, none⟩ (.int .i64 q.hi)).setCell ⟨be, 0, none⟩ (.int .i64 x)) := by
  have h3 := heap_setCell_at (k := 1) (heap_setCell_at (k := 0) hs (.int .i64 q.lo)) (.int .i64 q.hi)
  have h4 : ((v.setCell ⟨bs, 0, none⟩ (.int .i64 q.lo)).setCell ⟨bs, 1, none⟩ (.int .i64 q.hi)).heap[be]? = some (.cells #[y0] 32 (0, 0)) := by
    rw [Below.heap_setCell _ _ _ _ (Ne.symm hne), Below.heap_setCell _ _ _ _ (Ne.symm hne)]
    exact he
  refine ⟨?_, heap_setCell_at (k := 0) h4 _, ((hb.setCell (p := ⟨bs, _, none⟩) h1 _).setCell (p := ⟨bs, _, none⟩) h1 _).setCell (p := ⟨be, _, none⟩) h2 _⟩
  rw [Below.heap_setCell _ _ _ _ hne]
  exact h3
theorem powerE_err (p : Par) : (powerE p).2 = errT p [] := by
  unfold powerE errT
  have h : okN p [] = true := rfl
  rw [h]
  cases p.valid
  · rfl
  · simp only [if_true]
    cases p.look p.things p.all <;> rfl
theorem powerE_no {p : Par} (h : errT p [] ≠ 0) : (powerE p).1 = ⟨0, 0⟩ := by
  unfold errT at h
  unfold powerE
  cases hv : p.valid
  · rfl
  · rw [hv] at h
    have h2 : okN p [] = true := rfl
    rw [h2] at h
    cases hl : p.look p.things p.all
    · rfl
    · rw [hl] at h
      exact absurd rfl h
theorem powerE_yes {p : Par} {q : Spn} (hv : p.valid = true) (h : p.look p.things p.all = some q) : powerE p = (q, 0) := by
  unfold powerE
  rw [hv, h]
  rfl
set_option maxRecDepth 100000 in
set_option maxHeartbeats 4000000 in
theorem power9 {p : Par} {a : Option Addr} {c : Nat} {w : World} (ha : IsThs w a p.things) (hl : p.things.length ≤ 1000000) :
    Calls Tryd.prog 27 #[p.v a c] w fun e w' => e = .returned (.tuple #[(powerE p).1.v, .int .i64 (powerE p).2]) ∧ Below w.heap.size w w' := by
  have HX := Lib.hid (alloc3 w (p.arr a c) #[.int .i64 0, .int .i64 0] #[.int .i64 0] 40 24 32 _ rfl)
  have HT := Lib.hid (And.intro (ha.mono HX.out.2.2.2) HX.out.2.2.2.size)
  clear ha
  refine calls_of_wp_x Tryd.func27 rfl ?_
  simp only [Tryd.ntmps27, List.size_toArray, List.length_cons, List.length_nil, Nat.reduceAdd, Nat.reduceSub, Array.replicate_succ, Array.replicate_zero, List.push_toArray, List.append_toArray, List.nil_append, List.cons_append]
  conv => arg 2; whnf
  refine wp_seq_hid ?_
  intro K0 HK0
  go_wp2_with fail
  refine HK0.out _ _ ?_
  clear HK0 K0
  revert HX HT
  generalize ((w.alloc (.cells (p.arr a c) 40)).alloc (.cells #[.int .i64 0, .int .i64 0] 24)).alloc (.cells #[.int .i64 0] 32) = w1
  generalize hbe : w.heap.size + 2 = be
  generalize hbs : w.heap.size + 1 = bs
  generalize hbp : w.heap.size = bp
  intro HX HT
  refine wp_seq_hid ?_
  intro K1 HK1
  go_wp2_with fail
  refine HK1.out _ _ ?_
  clear HK1 K1
  have HA := Lib.hid (And.intro hbe (And.intro hbs hbp))
  have HI : Hid (IsInts w1 none []) := fun i hi => absurd hi (by simp)
  clear hbe hbs hbp
  obtain ⟨k0, k1, k2, k3, k4, k5, k6, k7⟩ := par_cells HX.out.1
  refine wp_seq_hid ?_
  intro K2 HK2
  go_wp2_with fail
  refine (truths21 (l := []) HT.out.1 hl HI.out (by simp)).mono ?_
  clear k0 k1 k2 k3 k4 k5 k6 k7
  rintro e w2 ⟨hb, hcase⟩
  have HB := Lib.hid hb
  clear hb
  have HS := Lib.hid ((HB.out.block _ (heap_lt HX.out.2.1)).trans HX.out.2.1)
  have HE := Lib.hid ((HB.out.block _ (heap_lt HX.out.2.2.1)).trans HX.out.2.2.1)
  have HBB := Lib.hid (HX.out.2.2.2.trans (HB.out.mono HT.out.2))
  rcases hcase with ⟨hz, rfl⟩ | ⟨hz, hv, _, q, bv, hq, rfl, hbv, hV⟩
  · have HZ := Lib.hid hz
    clear hz
    go_wp2_with fail
    have h1 := HA.out.1
    have h2 := HA.out.2.1
    have h3 := HA.out.2.2
    have hlt := heap_lt HS.out
    have hc := (caught_other (be := be) (x := errT p []) hlt (by omega)).trans HS.out
    have h5 := HB.out.size
    have h6 := HT.out.2
    exact door_no HE.out (res_c2e rfl _ rfl rfl (by rw [cell_of_heap hc]; rfl) (by rw [cell_of_heap hc]; rfl) (by rw [cell_of_heap (caught_heap HE.out)]; rfl)) ⟨by rw [powerE_no HZ.out, powerE_err]; rfl, caught_below HBB.out (by omega) (by omega)⟩
  · have HZ := Lib.hid (And.intro (powerE_yes hv hq) hV)
    clear hz hv hq hV hbv
    have m8 : w2.cell? ⟨bv, 8, none⟩ = some (.int .i64 q.lo) := by rw [cell_of_heap HZ.out.2.h]; rfl
    have m9 : w2.cell? ⟨bv, 9, none⟩ = some (.int .i64 q.hi) := by rw [cell_of_heap HZ.out.2.h]; rfl
    go_wp2_with fail
    refine (span26 q w2).mono ?_
    clear m8 m9
    rintro e w3 ⟨rfl, hb⟩
    have HS3 := Lib.hid ((hb.block _ (heap_lt HS.out)).trans HS.out)
    have HE3 := Lib.hid ((hb.block _ (heap_lt HE.out)).trans HE.out)
    have HB3 := Lib.hid (HBB.out.trans (hb.mono (Nat.le_trans HT.out.2 HB.out.size)))
    clear hb
    have s0 : w3.cell? ⟨bs, 0, none⟩ = some (.int .i64 0) := by rw [cell_of_heap HS3.out]; rfl
    have s1 : w3.cell? ⟨bs, 1, none⟩ = some (.int .i64 0) := by rw [cell_of_heap HS3.out]; rfl
    have f0 : ∀ k, w3.frozen? ⟨bs, k, none⟩ = false := fun k => frozen_of_heap HS3.out
    have e0 : w3.cell? ⟨be, 0, none⟩ = some (.int .i64 0) := by rw [cell_of_heap HE3.out]; rfl
    have f1 : ∀ k, w3.frozen? ⟨be, k, none⟩ = false := fun k => frozen_of_heap HE3.out
    have hne : bs ≠ be := by
      have h1 := HA.out.1
      have h2 := HA.out.2.1
      omega
    go_wp2_with fail
    refine HK2.out _ _ ?_
    go_wp2_with fail
    have h1 := HA.out.1
    have h2 := HA.out.2.1
    have h3 := HA.out.2.2
    obtain ⟨p1, p2, p3⟩ := door_put q 0 HS3.out HE3.out hne HB3.out (by omega) (by omega)
    exact door_ok (res_c2e rfl _ rfl rfl (by rw [cell_of_heap p1]; rfl) (by rw [cell_of_heap p1]; rfl) (by rw [cell_of_heap p2]; rfl)) ⟨by rw [HZ.out.1]; rfl, p3⟩
end Go.Proofs.YtbnhngfegnhaiaaDoor
