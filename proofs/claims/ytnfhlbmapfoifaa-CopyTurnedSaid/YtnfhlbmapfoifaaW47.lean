/- Needs; Compare's drawn regions. -/
import Derived.Test.YtnfhlbmapfoifaaW46
namespace Go.Proofs.Ytnfhlbmapfoifaa
open Go.RowKit
set_option linter.unusedVariables false

attribute [local go_sem] Oper.semAt_some
structure cp10F (b11 : Nat) (b12 : Nat) (xl : Int) (xh : Int) (yl : Int) (yh : Int) (mx : Nat) (my : Nat) (rl : Nat) (S0 : World → Prop) (S1 : Unit → World → Prop) (S2 : Unit → Unit → World → Prop) (d : Nat → Bool) (x41 x42 x43 x44 x45 x13 : Value) (u1 : Unit) (u2 : Unit) (w : World) : Prop where
  q1 : d 1 = true → d 0 = true
  q3 : d 3 = true → d 1 = true ∧ d 2 = true
  q4 : d 4 = true → d 1 = true ∧ d 3 = true
  q5 : d 5 = true → d 0 = true ∧ d 1 = true ∧ d 2 = true ∧ d 3 = true ∧ d 4 = true
  f0 : d 0 = true → x41 = .agg #[.int .u64 xl, .int .u64 xh]
  f1 : d 1 = true → x42 = .int .i64 mx
  f2 : d 2 = true → x43 = .agg #[.int .u64 yl, .int .u64 yh]
  f3 : d 3 = true → x44 = .int .i64 my
  f4 : d 4 = true → x45 = .int .i64 (mxN mx my : Nat)
  f5 : d 5 = true → x13 = .int .i64 (mxN mx my : Nat)
  st0 : d 1 = false → S0 w
  st1 : d 1 = true → d 3 = false → S1 u1 w
  st2 : d 3 = true → S2 u1 u2 w
noncomputable def cp10C : Code := (Try.f19.body.bind (regionR 10)).getD .skip
set_option maxRecDepth 100000 in
set_option maxHeartbeats 4000000 in
theorem cp10 {b11 : Nat} {b12 : Nat} {xl : Int} {xh : Int} {yl : Int} {yh : Int} {mx : Nat} {my : Nat} {rl : Nat} {S0 : World → Prop} {S1 : Unit → World → Prop} {S2 : Unit → Unit → World → Prop} {Q : Exit → Act → World → Prop} {W1 : World} (h0 : S0 W1.drew)
    (kl0 : Hid (∀ (w : World), (S0 w) → w.cell? ⟨b11, 0, none⟩ = some (.int .u64 xl) ∧ w.cell? ⟨b11, 1, none⟩ = some (.int .u64 xh)))
    (kc1 : Hid (∀ (w : World), S0 w → Calls Try.prog 68 #[.agg #[.int .u64 xl, .int .u64 xh]] w fun e w' => ∃ u1 : Unit, e = .returned (.int .i64 mx) ∧ S1 u1 w'))
    (kl2 : Hid (∀ (u1 : Unit) (w : World), (S0 w ∨ S1 u1 w) → w.cell? ⟨b12, 0, none⟩ = some (.int .u64 yl) ∧ w.cell? ⟨b12, 1, none⟩ = some (.int .u64 yh)))
    (kc3 : Hid (∀ (u1 : Unit) (w : World), S1 u1 w → Calls Try.prog 68 #[.agg #[.int .u64 yl, .int .u64 yh]] w fun e w' => ∃ u2 : Unit, e = .returned (.int .i64 my) ∧ S2 u1 u2 w'))
    {s0 s1 s2 s3 s4 s5 s6 s7 s8 s9 s10 s13 s14 s15 s16 s17 s18 s19 s20 s21 s22 s23 s24 s25 s26 s27 s28 s29 s30 s31 s32 s33 s34 s35 s36 s37 s38 s39 s40 s41 s42 s43 s44 s45 s46 s47 s48 s49 s50 s51 s52 s53 s54 : Value} {dd : List Deferred}
    (hQ : ∀ (u1 : Unit) (u2 : Unit) (w' : World), S2 u1 u2 w' → Q .normal { tmps := #[s0, s1, s2, s3, s4, s5, s6, s7, s8, s9, s10, .pointer (some ⟨b11, 0, none⟩), .pointer (some ⟨b12, 0, none⟩), .int .i64 (mxN mx my : Nat), s14, s15, s16, s17, s18, s19, s20, s21, s22, s23, s24, s25, s26, s27, s28, s29, s30, s31, s32, s33, s34, s35, s36, s37, s38, s39, s40, .agg #[.int .u64 xl, .int .u64 xh], .int .i64 mx, .agg #[.int .u64 yl, .int .u64 yh], .int .i64 my, .int .i64 (mxN mx my : Nat), s46, s47, s48, s49, s50, s51, s52, s53, s54], defers := dd } w') :
    Code.wpIn (wideAt (some rl)) 0 Try.prog cp10C Q { tmps := #[s0, s1, s2, s3, s4, s5, s6, s7, s8, s9, s10, .pointer (some ⟨b11, 0, none⟩), .pointer (some ⟨b12, 0, none⟩), s13, s14, s15, s16, s17, s18, s19, s20, s21, s22, s23, s24, s25, s26, s27, s28, s29, s30, s31, s32, s33, s34, s35, s36, s37, s38, s39, s40, s41, s42, s43, s44, s45, s46, s47, s48, s49, s50, s51, s52, s53, s54], defers := dd } W1 := by
  have HQ := Lib.hid hQ
  clear hQ
  conv => arg 4; whnf
  refine wpIn_region_invG mixed (by kernel_rfl) (fun d_ a_ w' => ∃ (x41 : Value) (x42 : Value) (x43 : Value) (x44 : Value) (x45 : Value) (x13 : Value) (u1 : Unit) (u2 : Unit), a_ = { tmps := #[s0, s1, s2, s3, s4, s5, s6, s7, s8, s9, s10, .pointer (some ⟨b11, 0, none⟩), .pointer (some ⟨b12, 0, none⟩), x13, s14, s15, s16, s17, s18, s19, s20, s21, s22, s23, s24, s25, s26, s27, s28, s29, s30, s31, s32, s33, s34, s35, s36, s37, s38, s39, s40, x41, x42, x43, x44, x45, s46, s47, s48, s49, s50, s51, s52, s53, s54], defers := dd } ∧ cp10F b11 b12 xl xh yl yh mx my rl S0 S1 S2 d_ x41 x42 x43 x44 x45 x13 u1 u2 w') ?_ ?_ ?_
  · refine ⟨s41, s42, s43, s44, s45, s13, default, default, rfl, ?_⟩
    constructor <;> first | rfl | (intro _; rfl) | (intro h; cases h; done) | (intro _; exact h0) | exact h0
  · refine ⟨?_, ?_, ?_, ?_, ?_, ?_, trivial⟩
    all_goals
      rintro d_ a_ w1 K hd_ hdep ⟨x41, x42, x43, x44, x45, x13, u1, u2, rfl, F⟩ HK
      simp [Region.binds] at hdep
    · have hst : S0 w1 := by
        have n_ : d_ 1 = false := by
          cases e_ : d_ 1 with
          | false => rfl
          | true => have h2 := (F.q1 e_); rw [show d_ 0 = false from hd_] at h2; cases h2
        exact (F.st0 n_)
      have kk := kl0.out w1 hst
      obtain ⟨kk0, kk1⟩ := kk
      clear hst
      have HF : Hid (cp10F b11 b12 xl xh yl yh mx my rl S0 S1 S2 (upd d_ 0) (.agg #[.int .u64 xl, .int .u64 xh]) x42 x43 x44 x45 x13 u1 u2 w1) := ⟨fun h => rfl, F.q3, F.q4, fun h => ⟨rfl, (F.q5 h).2.1, (F.q5 h).2.2.1, (F.q5 h).2.2.2.1, (F.q5 h).2.2.2.2⟩, fun _ => rfl, F.f1, F.f2, F.f3, F.f4, F.f5, F.st0, F.st1, F.st2⟩
      clear F
      go_simp
      exact HK.out _ _ ⟨_, _, _, _, _, _, _, _, rfl, HF.out⟩
    · have hS := F.st0  hd_
      obtain rfl := F.f0 (by simp [hdep])
      have hc := kc1.out w1 hS
      have HF := Lib.hid F
      clear F
      go_simp
      refine ⟨trivial, rfl, wideAt_calls (hc.mono ?_)⟩
      rintro e w5 ⟨v_, rfl, hres⟩
      exact HK.out _ _ ⟨_, _, _, _, _, _, v_, u2, rfl, ⟨fun _ => (show _ from (by simp [hdep] : d_ 0 = true)), fun h => ⟨rfl, (HF.out.q3 h).2⟩, fun h => ⟨rfl, (HF.out.q4 h).2⟩, fun h => ⟨(HF.out.q5 h).1, rfl, (HF.out.q5 h).2.2.1, (HF.out.q5 h).2.2.2.1, (HF.out.q5 h).2.2.2.2⟩, HF.out.f0, fun _ => rfl, HF.out.f2, HF.out.f3, HF.out.f4, HF.out.f5, fun h => (by simp [upd] at h), fun _ _ => hres, fun h => (by have h2 : d_ 1 = true := (HF.out.q3 h).1; rw [show d_ 1 = false from hd_] at h2; cases h2)⟩⟩
    · have hst : S0 w1 ∨ S1 u1 w1 := by
        cases e1 : d_ 1 with
        | false => exact .inl ((F.st0 e1))
        | true =>
          have n_ : d_ 3 = false := by
            cases e_ : d_ 3 with
            | false => rfl
            | true => have h2 := (F.q3 e_).2; rw [show d_ 2 = false from hd_] at h2; cases h2
          exact .inr ((F.st1 e1 n_))
      have kk := kl2.out u1 w1 hst
      obtain ⟨kk0, kk1⟩ := kk
      clear hst
      have HF : Hid (cp10F b11 b12 xl xh yl yh mx my rl S0 S1 S2 (upd d_ 2) x41 x42 (.agg #[.int .u64 yl, .int .u64 yh]) x44 x45 x13 u1 u2 w1) := ⟨F.q1, fun h => ⟨(F.q3 h).1, rfl⟩, F.q4, fun h => ⟨(F.q5 h).1, (F.q5 h).2.1, rfl, (F.q5 h).2.2.2.1, (F.q5 h).2.2.2.2⟩, F.f0, F.f1, fun _ => rfl, F.f3, F.f4, F.f5, F.st0, F.st1, F.st2⟩
      clear F
      go_simp
      exact HK.out _ _ ⟨_, _, _, _, _, _, _, _, rfl, HF.out⟩
    · have hS := F.st1 (by simp [hdep] : d_ 1 = true) hd_
      obtain rfl := F.f2 (by simp [hdep])
      have hc := kc3.out u1 w1 hS
      have HF := Lib.hid F
      clear F
      go_simp
      refine ⟨trivial, rfl, wideAt_calls (hc.mono ?_)⟩
      rintro e w5 ⟨v_, rfl, hres⟩
      exact HK.out _ _ ⟨_, _, _, _, _, _, u1, v_, rfl, ⟨HF.out.q1, fun _ => ⟨(show _ from (by simp [hdep] : d_ 1 = true)), (show _ from (by simp [hdep] : d_ 2 = true))⟩, fun h => ⟨(HF.out.q4 h).1, rfl⟩, fun h => ⟨(HF.out.q5 h).1, (HF.out.q5 h).2.1, (HF.out.q5 h).2.2.1, rfl, (HF.out.q5 h).2.2.2.2⟩, HF.out.f0, HF.out.f1, HF.out.f2, fun _ => rfl, HF.out.f4, HF.out.f5, fun h => (by have h2 : d_ 1 = false := h; rw [(by simp [hdep] : d_ 1 = true)] at h2; cases h2), fun _ h => (by simp [upd] at h), fun _ => hres⟩⟩
    · obtain rfl := F.f1 (by simp [hdep])
      obtain rfl := F.f3 (by simp [hdep])
      have HF : Hid (cp10F b11 b12 xl xh yl yh mx my rl S0 S1 S2 (upd d_ 4) x41 (.int .i64 mx) x43 (.int .i64 my) (.int .i64 (mxN mx my : Nat)) x13 u1 u2 w1) := ⟨F.q1, F.q3, fun _ => ⟨(show _ from (by simp [hdep] : d_ 1 = true)), (show _ from (by simp [hdep] : d_ 3 = true))⟩, fun h => ⟨(F.q5 h).1, (F.q5 h).2.1, (F.q5 h).2.2.1, (F.q5 h).2.2.2.1, rfl⟩, F.f0, F.f1, F.f2, F.f3, fun _ => rfl, F.f5, F.st0, F.st1, F.st2⟩
      clear F
      have hmx := mx_eq mx my
      go_simp
      exact HK.out _ _ ⟨_, _, _, _, _, _, _, _, rfl, HF.out⟩
    · obtain rfl := F.f4 (by simp [hdep])
      have HF : Hid (cp10F b11 b12 xl xh yl yh mx my rl S0 S1 S2 (upd d_ 5) x41 x42 x43 x44 (.int .i64 (mxN mx my : Nat)) (.int .i64 (mxN mx my : Nat)) u1 u2 w1) := ⟨F.q1, F.q3, F.q4, fun _ => ⟨(show _ from (by simp [hdep] : d_ 0 = true)), (show _ from (by simp [hdep] : d_ 1 = true)), (show _ from (by simp [hdep] : d_ 2 = true)), (show _ from (by simp [hdep] : d_ 3 = true)), (show _ from (by simp [hdep] : d_ 4 = true))⟩, F.f0, F.f1, F.f2, F.f3, F.f4, fun _ => rfl, F.st0, F.st1, F.st2⟩
      clear F
      go_simp
      exact HK.out _ _ ⟨_, _, _, _, _, _, _, _, rfl, HF.out⟩
  · rintro d_ a_ w1 hall ⟨x41, x42, x43, x44, x45, x13, u1, u2, rfl, F⟩
    have hall' : ∀ k, k < 6 → d_ k = true := hall
    obtain rfl := F.f0 (hall' 0 (by decide))
    obtain rfl := F.f1 (hall' 1 (by decide))
    obtain rfl := F.f2 (hall' 2 (by decide))
    obtain rfl := F.f3 (hall' 3 (by decide))
    obtain rfl := F.f4 (hall' 4 (by decide))
    obtain rfl := F.f5 (hall' 5 (by decide))
    have hst := F.st2 (hall' 3 (by decide))
    exact HQ.out u1 u2 w1 hst
structure cp13F (b2 : Nat) (b3 : Nat) (b4 : Nat) (b5 : Nat) (x : Nat) (y : Nat) (z : Nat) (S0 : World → Prop) (S1 : World → Prop) (S2 : World → Prop) (S3 : World → Prop) (S4 : World → Prop) (d : Nat → Bool) (x52 x53 x54 : Value) (w : World) : Prop where
  q3 : d 3 = true → d 0 = true
  q4 : d 4 = true → d 0 = true ∧ d 1 = true ∧ d 3 = true
  q5 : d 5 = true → d 0 = true ∧ d 1 = true ∧ d 2 = true ∧ d 3 = true ∧ d 4 = true
  q6 : d 6 = true → d 0 = true ∧ d 1 = true ∧ d 2 = true ∧ d 3 = true ∧ d 4 = true ∧ d 5 = true
  f0 : d 0 = true → x52 = .int .i64 x
  f1 : d 1 = true → x53 = .int .i64 y
  f2 : d 2 = true → x54 = .int .i64 z
  st0 : d 3 = false → S0 w
  st1 : d 3 = true → d 4 = false → S1 w
  st2 : d 4 = true → d 5 = false → S2 w
  st3 : d 5 = true → d 6 = false → S3 w
  st4 : d 6 = true → S4 w
noncomputable def cp13C : Code := (Try.f19.body.bind (regionAt 13)).getD .skip
set_option maxRecDepth 100000 in
set_option maxHeartbeats 4000000 in
theorem cp13 {b2 : Nat} {b3 : Nat} {b4 : Nat} {b5 : Nat} {x : Nat} {y : Nat} {z : Nat} {S0 : World → Prop} {S1 : World → Prop} {S2 : World → Prop} {S3 : World → Prop} {S4 : World → Prop} {Q : Exit → Act → World → Prop} {W1 : World} (h0 : S0 W1.drew)
    (kl0 : Hid (∀ (w : World), (S0 w) → w.cell? ⟨b2, 0, none⟩ = some (.int .i64 x)))
    (kl1 : Hid (∀ (w : World), (S0 w ∨ S1 w) → w.cell? ⟨b3, 0, none⟩ = some (.int .i64 y)))
    (kl2 : Hid (∀ (w : World), (S0 w ∨ S1 w ∨ S2 w) → w.cell? ⟨b4, 0, none⟩ = some (.int .i64 z)))
    (kc3 : Hid (∀ (w : World), S0 w → (∃ u, w.cell? ⟨b2, 0, none⟩ = some u) ∧ w.frozen? ⟨b2, 0, none⟩ = false ∧ S1 (w.setCell ⟨b2, 0, none⟩ (.int .i64 x))))
    (kc4 : Hid (∀ (w : World), S1 w → (∃ u, w.cell? ⟨b3, 0, none⟩ = some u) ∧ w.frozen? ⟨b3, 0, none⟩ = false ∧ S2 (w.setCell ⟨b3, 0, none⟩ (.int .i64 y))))
    (kc5 : Hid (∀ (w : World), S2 w → (∃ u, w.cell? ⟨b4, 0, none⟩ = some u) ∧ w.frozen? ⟨b4, 0, none⟩ = false ∧ S3 (w.setCell ⟨b4, 0, none⟩ (.int .i64 z))))
    (kc6 : Hid (∀ (w : World), S3 w → (∃ u, w.cell? ⟨b5, 0, none⟩ = some u) ∧ w.frozen? ⟨b5, 0, none⟩ = false ∧ S4 (w.setCell ⟨b5, 0, none⟩ (.int .i64 0))))
    {s0 s1 s6 s7 s8 s9 s10 s11 s12 s13 s14 s15 s16 s17 s18 s19 s20 s21 s22 s23 s24 s25 s26 s27 s28 s29 s30 s31 s32 s33 s34 s35 s36 s37 s38 s39 s40 s41 s42 s43 s44 s45 s46 s47 s48 s49 s50 s51 s52 s53 s54 : Value} {dd : List Deferred}
    (hQ : ∀ (w' : World), S4 w' → Q .normal { tmps := #[s0, s1, .pointer (some ⟨b2, 0, none⟩), .pointer (some ⟨b3, 0, none⟩), .pointer (some ⟨b4, 0, none⟩), .pointer (some ⟨b5, 0, none⟩), s6, s7, s8, s9, s10, s11, s12, s13, s14, s15, s16, s17, s18, s19, s20, s21, s22, s23, s24, s25, s26, s27, s28, s29, s30, s31, s32, s33, s34, s35, s36, s37, s38, s39, s40, s41, s42, s43, s44, s45, s46, s47, s48, s49, s50, s51, .int .i64 x, .int .i64 y, .int .i64 z], defers := dd } w') :
    Code.wpIn (wideAt none) 0 Try.prog cp13C Q { tmps := #[s0, s1, .pointer (some ⟨b2, 0, none⟩), .pointer (some ⟨b3, 0, none⟩), .pointer (some ⟨b4, 0, none⟩), .pointer (some ⟨b5, 0, none⟩), s6, s7, s8, s9, s10, s11, s12, s13, s14, s15, s16, s17, s18, s19, s20, s21, s22, s23, s24, s25, s26, s27, s28, s29, s30, s31, s32, s33, s34, s35, s36, s37, s38, s39, s40, s41, s42, s43, s44, s45, s46, s47, s48, s49, s50, s51, s52, s53, s54], defers := dd } W1 := by
  have HQ := Lib.hid hQ
  clear hQ
  conv => arg 4; whnf
  refine wpIn_region_invG mixed (by kernel_rfl) (fun d_ a_ w' => ∃ (x52 : Value) (x53 : Value) (x54 : Value), a_ = { tmps := #[s0, s1, .pointer (some ⟨b2, 0, none⟩), .pointer (some ⟨b3, 0, none⟩), .pointer (some ⟨b4, 0, none⟩), .pointer (some ⟨b5, 0, none⟩), s6, s7, s8, s9, s10, s11, s12, s13, s14, s15, s16, s17, s18, s19, s20, s21, s22, s23, s24, s25, s26, s27, s28, s29, s30, s31, s32, s33, s34, s35, s36, s37, s38, s39, s40, s41, s42, s43, s44, s45, s46, s47, s48, s49, s50, s51, x52, x53, x54], defers := dd } ∧ cp13F b2 b3 b4 b5 x y z S0 S1 S2 S3 S4 d_ x52 x53 x54 w') ?_ ?_ ?_
  · refine ⟨s52, s53, s54, rfl, ?_⟩
    constructor <;> first | rfl | (intro _; rfl) | (intro h; cases h; done) | (intro _; exact h0) | exact h0
  · refine ⟨?_, ?_, ?_, ?_, ?_, ?_, ?_, trivial⟩
    all_goals
      rintro d_ a_ w1 K hd_ hdep ⟨x52, x53, x54, rfl, F⟩ HK
      simp [Region.binds] at hdep
    · have hst : S0 w1 := by
        have n_ : d_ 3 = false := by
          cases e_ : d_ 3 with
          | false => rfl
          | true => have h2 := (F.q3 e_); rw [show d_ 0 = false from hd_] at h2; cases h2
        exact (F.st0 n_)
      have kk := kl0.out w1 hst
      clear hst
      have HF : Hid (cp13F b2 b3 b4 b5 x y z S0 S1 S2 S3 S4 (upd d_ 0) (.int .i64 x) x53 x54 w1) := ⟨fun h => rfl, fun h => ⟨rfl, (F.q4 h).2.1, (F.q4 h).2.2⟩, fun h => ⟨rfl, (F.q5 h).2.1, (F.q5 h).2.2.1, (F.q5 h).2.2.2.1, (F.q5 h).2.2.2.2⟩, fun h => ⟨rfl, (F.q6 h).2.1, (F.q6 h).2.2.1, (F.q6 h).2.2.2.1, (F.q6 h).2.2.2.2.1, (F.q6 h).2.2.2.2.2⟩, fun _ => rfl, F.f1, F.f2, F.st0, F.st1, F.st2, F.st3, F.st4⟩
      clear F
      go_simp
      exact HK.out _ _ ⟨_, _, _, rfl, HF.out⟩
    · have hst : S0 w1 ∨ S1 w1 := by
        cases e1 : d_ 3 with
        | false => exact .inl ((F.st0 e1))
        | true =>
          have n_ : d_ 4 = false := by
            cases e_ : d_ 4 with
            | false => rfl
            | true => have h2 := (F.q4 e_).2.1; rw [show d_ 1 = false from hd_] at h2; cases h2
          exact .inr ((F.st1 e1 n_))
      have kk := kl1.out w1 hst
      clear hst
      have HF : Hid (cp13F b2 b3 b4 b5 x y z S0 S1 S2 S3 S4 (upd d_ 1) x52 (.int .i64 y) x54 w1) := ⟨F.q3, fun h => ⟨(F.q4 h).1, rfl, (F.q4 h).2.2⟩, fun h => ⟨(F.q5 h).1, rfl, (F.q5 h).2.2.1, (F.q5 h).2.2.2.1, (F.q5 h).2.2.2.2⟩, fun h => ⟨(F.q6 h).1, rfl, (F.q6 h).2.2.1, (F.q6 h).2.2.2.1, (F.q6 h).2.2.2.2.1, (F.q6 h).2.2.2.2.2⟩, F.f0, fun _ => rfl, F.f2, F.st0, F.st1, F.st2, F.st3, F.st4⟩
      clear F
      go_simp
      exact HK.out _ _ ⟨_, _, _, rfl, HF.out⟩
    · have hst : S0 w1 ∨ S1 w1 ∨ S2 w1 := by
        cases e1 : d_ 3 with
        | false => exact .inl ((F.st0 e1))
        | true =>
          cases e2 : d_ 4 with
          | false => exact .inr (.inl ((F.st1 e1 e2)))
          | true =>
            have n_ : d_ 5 = false := by
              cases e_ : d_ 5 with
              | false => rfl
              | true => have h2 := (F.q5 e_).2.2.1; rw [show d_ 2 = false from hd_] at h2; cases h2
            exact .inr (.inr ((F.st2 e2 n_)))
      have kk := kl2.out w1 hst
      clear hst
      have HF : Hid (cp13F b2 b3 b4 b5 x y z S0 S1 S2 S3 S4 (upd d_ 2) x52 x53 (.int .i64 z) w1) := ⟨F.q3, F.q4, fun h => ⟨(F.q5 h).1, (F.q5 h).2.1, rfl, (F.q5 h).2.2.2.1, (F.q5 h).2.2.2.2⟩, fun h => ⟨(F.q6 h).1, (F.q6 h).2.1, rfl, (F.q6 h).2.2.2.1, (F.q6 h).2.2.2.2.1, (F.q6 h).2.2.2.2.2⟩, F.f0, F.f1, fun _ => rfl, F.st0, F.st1, F.st2, F.st3, F.st4⟩
      clear F
      go_simp
      exact HK.out _ _ ⟨_, _, _, rfl, HF.out⟩
    · have hS := F.st0  hd_
      obtain rfl := F.f0 (by simp [hdep])
      obtain ⟨⟨u0, kcell0⟩, kfr0, hres⟩ := kc3.out w1 hS
      have HF : Hid (cp13F b2 b3 b4 b5 x y z S0 S1 S2 S3 S4 (upd d_ 3) (.int .i64 x) x53 x54 (w1.setCell ⟨b2, 0, none⟩ (.int .i64 x))) := ⟨fun _ => (show _ from (by simp [hdep] : d_ 0 = true)), fun h => ⟨(F.q4 h).1, (F.q4 h).2.1, rfl⟩, fun h => ⟨(F.q5 h).1, (F.q5 h).2.1, (F.q5 h).2.2.1, rfl, (F.q5 h).2.2.2.2⟩, fun h => ⟨(F.q6 h).1, (F.q6 h).2.1, (F.q6 h).2.2.1, rfl, (F.q6 h).2.2.2.2.1, (F.q6 h).2.2.2.2.2⟩, F.f0, F.f1, F.f2, fun h => (by simp [upd] at h), fun _ _ => hres, fun h _ => (by have h2 : d_ 3 = true := (F.q4 h).2.2; rw [show d_ 3 = false from hd_] at h2; cases h2), fun h _ => (by have h2 : d_ 3 = true := (F.q5 h).2.2.2.1; rw [show d_ 3 = false from hd_] at h2; cases h2), fun h => (by have h2 : d_ 3 = true := (F.q6 h).2.2.2.1; rw [show d_ 3 = false from hd_] at h2; cases h2)⟩
      clear F hS hres
      go_simp
      exact HK.out _ _ ⟨_, _, _, rfl, HF.out⟩
    · have hS := F.st1 (by simp [hdep] : d_ 3 = true) hd_
      obtain rfl := F.f1 (by simp [hdep])
      obtain ⟨⟨u0, kcell0⟩, kfr0, hres⟩ := kc4.out w1 hS
      have HF : Hid (cp13F b2 b3 b4 b5 x y z S0 S1 S2 S3 S4 (upd d_ 4) x52 (.int .i64 y) x54 (w1.setCell ⟨b3, 0, none⟩ (.int .i64 y))) := ⟨F.q3, fun _ => ⟨(show _ from (by simp [hdep] : d_ 0 = true)), (show _ from (by simp [hdep] : d_ 1 = true)), (show _ from (by simp [hdep] : d_ 3 = true))⟩, fun h => ⟨(F.q5 h).1, (F.q5 h).2.1, (F.q5 h).2.2.1, (F.q5 h).2.2.2.1, rfl⟩, fun h => ⟨(F.q6 h).1, (F.q6 h).2.1, (F.q6 h).2.2.1, (F.q6 h).2.2.2.1, rfl, (F.q6 h).2.2.2.2.2⟩, F.f0, F.f1, F.f2, fun h => (by have h2 : d_ 3 = false := h; rw [(by simp [hdep] : d_ 3 = true)] at h2; cases h2), fun _ h => (by simp [upd] at h), fun _ _ => hres, fun h _ => (by have h2 : d_ 4 = true := (F.q5 h).2.2.2.2; rw [show d_ 4 = false from hd_] at h2; cases h2), fun h => (by have h2 : d_ 4 = true := (F.q6 h).2.2.2.2.1; rw [show d_ 4 = false from hd_] at h2; cases h2)⟩
      clear F hS hres
      go_simp
      exact HK.out _ _ ⟨_, _, _, rfl, HF.out⟩
    · have hS := F.st2 (by simp [hdep] : d_ 4 = true) hd_
      obtain rfl := F.f2 (by simp [hdep])
      obtain ⟨⟨u0, kcell0⟩, kfr0, hres⟩ := kc5.out w1 hS
      have HF : Hid (cp13F b2 b3 b4 b5 x y z S0 S1 S2 S3 S4 (upd d_ 5) x52 x53 (.int .i64 z) (w1.setCell ⟨b4, 0, none⟩ (.int .i64 z))) := ⟨F.q3, F.q4, fun _ => ⟨(show _ from (by simp [hdep] : d_ 0 = true)), (show _ from (by simp [hdep] : d_ 1 = true)), (show _ from (by simp [hdep] : d_ 2 = true)), (show _ from (by simp [hdep] : d_ 3 = true)), (show _ from (by simp [hdep] : d_ 4 = true))⟩, fun h => ⟨(F.q6 h).1, (F.q6 h).2.1, (F.q6 h).2.2.1, (F.q6 h).2.2.2.1, (F.q6 h).2.2.2.2.1, rfl⟩, F.f0, F.f1, F.f2, fun h => (by have h2 : d_ 3 = false := h; rw [(by simp [hdep] : d_ 3 = true)] at h2; cases h2), fun _ h => (by have h2 : d_ 4 = false := h; rw [(by simp [hdep] : d_ 4 = true)] at h2; cases h2), fun _ h => (by simp [upd] at h), fun _ _ => hres, fun h => (by have h2 : d_ 5 = true := (F.q6 h).2.2.2.2.2; rw [show d_ 5 = false from hd_] at h2; cases h2)⟩
      clear F hS hres
      go_simp
      exact HK.out _ _ ⟨_, _, _, rfl, HF.out⟩
    · have hS := F.st3 (by simp [hdep] : d_ 5 = true) hd_
      obtain ⟨⟨u0, kcell0⟩, kfr0, hres⟩ := kc6.out w1 hS
      have HF : Hid (cp13F b2 b3 b4 b5 x y z S0 S1 S2 S3 S4 (upd d_ 6) x52 x53 x54 (w1.setCell ⟨b5, 0, none⟩ (.int .i64 0))) := ⟨F.q3, F.q4, F.q5, fun _ => ⟨(show _ from (by simp [hdep] : d_ 0 = true)), (show _ from (by simp [hdep] : d_ 1 = true)), (show _ from (by simp [hdep] : d_ 2 = true)), (show _ from (by simp [hdep] : d_ 3 = true)), (show _ from (by simp [hdep] : d_ 4 = true)), (show _ from (by simp [hdep] : d_ 5 = true))⟩, F.f0, F.f1, F.f2, fun h => (by have h2 : d_ 3 = false := h; rw [(by simp [hdep] : d_ 3 = true)] at h2; cases h2), fun _ h => (by have h2 : d_ 4 = false := h; rw [(by simp [hdep] : d_ 4 = true)] at h2; cases h2), fun _ h => (by have h2 : d_ 5 = false := h; rw [(by simp [hdep] : d_ 5 = true)] at h2; cases h2), fun _ h => (by simp [upd] at h), fun _ => hres⟩
      clear F hS hres
      go_simp
      exact HK.out _ _ ⟨_, _, _, rfl, HF.out⟩
  · rintro d_ a_ w1 hall ⟨x52, x53, x54, rfl, F⟩
    have hall' : ∀ k, k < 7 → d_ k = true := hall
    obtain rfl := F.f0 (hall' 0 (by decide))
    obtain rfl := F.f1 (hall' 1 (by decide))
    obtain rfl := F.f2 (hall' 2 (by decide))
    have hst := F.st4 (hall' 6 (by decide))
    exact HQ.out  w1 hst
def needsE (p : Prs) : Int × Int := if ordersE p = 0 then (((needV (ordersL p) p.cards.length (allS (ordersL p).length) : Nat) : Int), 0) else (0, ordersE p)
theorem orders_mem {p : Prs} : ∀ (d : Nat) (pre : List Int), ∀ o ∈ onO p d pre, o.length = pre.length + d
  | 0, pre, o, h => by
    rw [onO_zero] at h
    split at h
    · simp at h; subst h; rfl
    · simp at h
  | d + 1, pre, o, h => by
    rw [onO_succ, List.mem_flatMap] at h
    obtain ⟨i, _, h⟩ := h
    unfold oF at h
    split at h
    · simp at h
    · have := orders_mem d _ o h
      simp at this
      omega
theorem orders_at {p : Prs} {o : List Int} (h : o ∈ ordersL p) : o.length = p.cards.length := by
  have := orders_mem _ _ o h
  simpa using this
set_option maxRecDepth 100000 in
set_option maxHeartbeats 4000000 in
theorem needs22 {p : Prs} {a : Option Addr} {cap : Nat} {w : World} (ha : IsPrts w a p.cards) (hn : p.cards.length ≤ 16) :
    Calls Try.prog 22 #[p.v a cap] w fun e w' => e = .returned (.tuple #[.int .i64 (needsE p).1, .int .i64 (needsE p).2]) ∧ Below w.heap.size w w' := by
  have hmf : ∀ (fn : Fn) (first cap : Array Value) (w : World), (Instr.makeFunc fn first cap).run Try.prog w = .ok (.func fn first cap) w := fun _ _ _ _ => rfl
  have HC := Lib.hid cf71
  refine calls_of_wp_x Try.func22 rfl ?_
  simp only [Try.ntmps22, List.size_toArray, List.length_cons, List.length_nil, Nat.reduceAdd, Nat.reduceSub, Array.replicate_succ, Array.replicate_zero, List.push_toArray, List.append_toArray, List.nil_append, List.cons_append]
  go_wp2_with fail
  obtain ⟨q0, q1, hz, hb⟩ := heap2 w (.cells (p.cells a cap) 26) (.cells #[.int .i64 0] 29)
  revert q0 q1 hz hb
  generalize ((w.alloc (.cells (p.cells a cap) 26)).alloc (.cells #[.int .i64 0] 29)) = W1
  intro q0 q1 hz hb
  refine (sorter66 (ha.mono hb) hn).mono ?_
  rintro e w2 ⟨h2, hb2⟩
  have hB2 := hb.trans (hb2.mono hb.size)
  have he2 := (hb2.block _ (heap_lt q1)).trans q1
  have hz2 := hb2.size
  rcases h2 with ⟨hE, sb, mb, v, rfl, hS, hm, hsb, hmb, _⟩ | ⟨hE, rfl⟩
  · have hv := ordersE_valid hE
    have hn5 := (valid_parts hv).1
    have hfew := orders_few hv
    have HNE : Hid (needsE p = (((needV (ordersL p) p.cards.length (allS (ordersL p).length) : Nat) : Int), 0)) := by rw [Hid]; unfold needsE; rw [if_pos hE]
    have HF := Lib.hid (And.intro hS (And.intro hm (And.intro hsb (And.intro hmb (And.intro he2 (And.intro hB2 (And.intro hz hz2)))))))
    have HX := Lib.hid (And.intro hn5 hfew)
    clear hS hm hsb hmb he2 hB2 hz hz2 hE hv hn5 hfew q0 q1 hb hb2 ha
    go_wp2_with fail
    obtain ⟨hS, hm, hsb, hmb, he2, hB2, hz, hz2⟩ := HF.out
    have hb4 : Below w2.heap.size w2 (w2.alloc (.cells (leftA (allS (ordersL p).length)) 95)) := (Below.refl _ _).alloc (Nat.le_refl _) _
    have hm4 := (hb4.block _ (heap_lt hm)).trans hm
    refine (needs_any HX.out.1 (by have := HX.out.2; omega) (fun o ho => by rw [orders_at ho]; exact hn) _ (allS (ordersL p).length) _ (Nat.le_refl _) (allS_lt (by have := HX.out.2; omega)) (hS.below hb4) (KnownI.made _ _ hm4)).mono ?_
    rintro e w5 ⟨rfl, hs5, _⟩
    have hB5 : Below w.heap.size w w5 := (hB2.trans (hb4.mono hB2.size)).trans (hs5.below (by have := hB2.size; simp; omega) (fun k hk e => by omega))
    have e5 := (hs5.block _ (by simp; have := heap_lt he2; omega) (by omega)).trans ((hb4.block _ (heap_lt he2)).trans he2)
    have c5 : w5.cell? ⟨w.heap.size + 1, 0, none⟩ = some (.int .i64 0) := by rw [cell_of_heap e5]; rfl
    have f5 : w5.frozen? ⟨w.heap.size + 1, 0, none⟩ = false := frozen_of_heap e5
    have H5 := Lib.hid (And.intro hB5 e5)
    clear hS hm hsb hmb he2 hB2 hz hz2 hb4 hm4 hs5 hB5 e5
    go_wp2_with fail
    have e9 := heap_setCell_at (k := 0) H5.out.2 (.int .i64 0)
    refine ⟨[], _, rfl, leaves_ok (recov71_ok _ _) HC.out (res_tc rfl _ rfl (x := .int .i64 0) (by rw [cell_of_heap e9]; rfl)) ⟨?_, H5.out.1.setCell (by show w.heap.size ≤ w.heap.size + 1; omega) _⟩⟩
    rw [HNE.out]
    rfl
  · have hc2 : w2.cell? ⟨w.heap.size + 1, 0, none⟩ = some (.int .i64 0) := by rw [cell_of_heap he2]; rfl
    have hb3 : Below w.heap.size w ((w2.alloc (.cells #[.int .i64 (ordersE p)] 115)).setCell ⟨w.heap.size + 1, 0, none⟩ (.int .i64 (ordersE p))) :=
      (hB2.alloc hB2.size _).setCell (by simp) _
    have hcell := World.cell?_setCell_same (w2.alloc (.cells #[.int .i64 (ordersE p)] 115)) ⟨w.heap.size + 1, 0, none⟩ (.int .i64 (ordersE p)) (cell_stays ((Below.refl _ w2).alloc (Nat.le_refl _) _) hc2)
    refine ⟨[], _, rfl, leaves_no (recov71_no (ordersE p) hc2 (frozen_of_heap he2)) rfl HC.out (res_tc rfl _ rfl hcell) ⟨?_, hb3⟩⟩
    have : needsE p = (0, ordersE p) := by unfold needsE; rw [if_neg hE]
    rw [this]
    rfl
end Go.Proofs.Ytnfhlbmapfoifaa
