/- TopStood: the drawn regions. TopStood: from region 10 on. TopStood: from region 3 on. TopStood: the walk. The row's last step where the call leaves a world of which only what lay there before is known. Presses and formes that are handed in, opened. -/
import Derived.Test.YtbnhngfegnhaiaaC11
import Derived.Below
import Derived.ChangeSame
import Derived.ProofKit
import Derived.Deep.Slices
import Derived.Deep.Fields
import Derived.Lib.SmallJoins
import Derived.Carry
import Derived.OpenShut
namespace Go.Proofs.Ytbnhngfegnhaiaa
open Go.RowKit
set_option linter.unusedVariables false
set_option linter.unusedSimpArgs false
theorem cf8 (args : Array Value) (w : World) : (callFunc 8 args).run Try.prog w = .ok (.enter 8 args) w := by simp [callFunc, Try.func8, Try.f8, go_sem]
attribute [local go_sem] Oper.semAt_some
structure std15tF (b3 : Nat) (b4 : Nat) (b7 : Nat) (b9 : Nat) (b11 : Nat) (ahi : Int) (alo : Int) (blo : Int) (mlo : Int) (mhi : Int) (tb : Bool) (S0 : World → Prop) (S1 : Unit → World → Prop) (S2 : Unit → Unit → World → Prop) (d : Nat → Bool) (x151 x152 x153 x154 x155 x156 x157 x158 x159 x160 x161 x162 x163 x164 x165 x166 x167 x168 x169 x170 x171 x172 x6 : Value) (u : Unit) (u2 : Unit) (w : World) : Prop where
  q2 : d 2 = true → d 1 = true
  q4 : d 4 = true → d 3 = true
  q6 : d 6 = true → d 5 = true
  q7 : d 7 = true → d 4 = true ∧ d 6 = true
  q8 : d 8 = true → d 2 = true ∧ d 7 = true
  q9 : d 9 = true → d 0 = true ∧ d 8 = true
  q11 : d 11 = true → d 10 = true
  q12 : d 12 = true → d 11 = true
  q13 : d 13 = true → d 9 = true ∧ d 12 = true
  q14 : d 14 = true → d 13 = true
  q15 : d 15 = true → d 13 = true ∧ d 14 = true
  q16 : d 16 = true → d 13 = true ∧ d 15 = true
  q17 : d 17 = true → d 13 = true ∧ d 16 = true
  q18 : d 18 = true → d 9 = true ∧ d 17 = true
  q19 : d 19 = true → d 13 = true ∧ d 18 = true
  q20 : d 20 = true → d 19 = true
  q21 : d 21 = true → d 19 = true ∧ d 20 = true
  q22 : d 22 = true → d 0 = true ∧ d 1 = true ∧ d 2 = true ∧ d 3 = true ∧ d 4 = true ∧ d 5 = true ∧ d 6 = true ∧ d 7 = true ∧ d 8 = true ∧ d 9 = true ∧ d 10 = true ∧ d 11 = true ∧ d 12 = true ∧ d 13 = true ∧ d 14 = true ∧ d 15 = true ∧ d 16 = true ∧ d 17 = true ∧ d 18 = true ∧ d 19 = true ∧ d 20 = true ∧ d 21 = true
  f0 : d 0 = true → x151 = .func (.func 8) #[] #[.pointer (some ⟨b3, 0, none⟩), .pointer (some ⟨b4, 0, none⟩)]
  f1 : d 1 = true → x152 = .pointer (some ⟨b9, 1, none⟩)
  f2 : d 2 = true → x153 = .int .i64 ahi
  f3 : d 3 = true → x154 = .pointer (some ⟨b9, 0, none⟩)
  f4 : d 4 = true → x155 = .int .i64 alo
  f5 : d 5 = true → x156 = .pointer (some ⟨b11, 0, none⟩)
  f6 : d 6 = true → x157 = .int .i64 blo
  f7 : d 7 = true → x158 = .int .i64 (max alo blo)
  f8 : d 8 = true → x159 = .int .i64 (min ahi (max alo blo))
  f9 : d 9 = true → x160 = .bool tb
  f10 : d 10 = true → x161 = .pointer (some ⟨b7, 0, none⟩)
  f11 : d 11 = true → x162 = .int .i64 mlo
  f12 : d 12 = true → x163 = .bool true
  f13 : d 13 = true → x164 = .bool true
  f14 : d 14 = true → x165 = .pointer (some ⟨b7, 1, none⟩)
  f15 : d 15 = true → x166 = .int .i64 mhi
  f16 : d 16 = true → x167 = .bool tb
  f17 : d 17 = true → x168 = .bool tb
  f18 : d 18 = true → x169 = .bool true
  f19 : d 19 = true → x170 = .bool true
  f20 : d 20 = true → x171 = .bool true
  f21 : d 21 = true → x172 = .bool true
  f22 : d 22 = true → x6 = .bool true
  st0 : d 9 = false → S0 w
  st1 : d 9 = true → d 20 = false → S1 u w
  st2 : d 20 = true → S2 u u2 w
noncomputable def std15tC : Code := (Try.f3.body.bind (regionAt 15)).getD .skip
set_option maxRecDepth 100000 in
set_option maxHeartbeats 4000000 in
theorem std15t {b3 : Nat} {b4 : Nat} {b7 : Nat} {b9 : Nat} {b11 : Nat} {ahi : Int} {alo : Int} {blo : Int} {mlo : Int} {mhi : Int} {tb : Bool} {S0 : World → Prop} {S1 : Unit → World → Prop} {S2 : Unit → Unit → World → Prop} {Q : Exit → Act → World → Prop} {W1 : World} (hd1 : decide (mlo ≤ 0) = true) (hm : decide (0 ≤ mhi) = tb) (h0 : S0 W1.drew)
    (kl2 : Hid (∀ (w : World), (S0 w) → w.cell? ⟨b9, 1, none⟩ = some (.int .i64 ahi)))
    (kl4 : Hid (∀ (w : World), (S0 w) → w.cell? ⟨b9, 0, none⟩ = some (.int .i64 alo)))
    (kl6 : Hid (∀ (w : World), (S0 w) → w.cell? ⟨b11, 0, none⟩ = some (.int .i64 blo)))
    (kc9 : Hid (∀ (w : World), S0 w → Calls Try.prog 8 #[.int .i64 (min ahi (max alo blo)), .pointer (some ⟨b3, 0, none⟩), .pointer (some ⟨b4, 0, none⟩)] w fun e w' => ∃ u : Unit, e = .returned (.bool tb) ∧ S1 u w'))
    (kl11 : Hid (∀ (u : Unit) (w : World), (S0 w ∨ S1 u w) → w.cell? ⟨b7, 0, none⟩ = some (.int .i64 mlo)))
    (kl15 : Hid (∀ (u : Unit) (w : World), (S1 u w) → w.cell? ⟨b7, 1, none⟩ = some (.int .i64 mhi)))
    (kc20 : Hid (∀ (u : Unit) (w : World), S1 u w → Calls Try.prog 5 #[] w fun e w' => ∃ u2 : Unit, e = .returned (.bool true) ∧ S2 u u2 w'))
    {s0 s1 s2 s5 s6 s8 s10 s12 s14 s15 s16 s17 s18 s19 s20 s21 s22 s23 s24 s25 s26 s27 s28 s29 s30 s31 s32 s33 s34 s35 s36 s37 s38 s39 s40 s41 s42 s43 s44 s45 s46 s47 s48 s49 s50 s51 s52 s53 s54 s55 s56 s57 s58 s59 s60 s61 s62 s63 s64 s65 s66 s67 s68 s69 s70 s71 s72 s73 s74 s75 s76 s77 s78 s79 s80 s81 s82 s83 s84 s85 s86 s87 s88 s89 s90 s91 s92 s93 s94 s95 s96 s97 s98 s99 s100 s101 s102 s103 s104 s105 s106 s107 s108 s109 s110 s111 s112 s113 s114 s115 s116 s117 s118 s119 s120 s121 s122 s123 s124 s125 s126 s127 s128 s129 s130 s131 s132 s133 s134 s135 s136 s137 s138 s139 s140 s141 s142 s143 s144 s145 s146 s147 s148 s149 s150 s151 s152 s153 s154 s155 s156 s157 s158 s159 s160 s161 s162 s163 s164 s165 s166 s167 s168 s169 s170 s171 s172 : Value} {dd : List Deferred}
    (hQ : ∀ (u : Unit) (u2 : Unit) (w' : World), S2 u u2 w' → Q .normal { tmps := #[s0, s1, s2, .pointer (some ⟨b3, 0, none⟩), .pointer (some ⟨b4, 0, none⟩), s5, .bool true, .pointer (some ⟨b7, 0, none⟩), s8, .pointer (some ⟨b9, 0, none⟩), s10, .pointer (some ⟨b11, 0, none⟩), s12, .func (.func 8) #[] #[.pointer (some ⟨b3, 0, none⟩), .pointer (some ⟨b4, 0, none⟩)], s14, s15, s16, s17, s18, s19, s20, s21, s22, s23, s24, s25, s26, s27, s28, s29, s30, s31, s32, s33, s34, s35, s36, s37, s38, s39, s40, s41, s42, s43, s44, s45, s46, s47, s48, s49, s50, s51, s52, s53, s54, s55, s56, s57, s58, s59, s60, s61, s62, s63, s64, s65, s66, s67, s68, s69, s70, s71, s72, s73, s74, s75, s76, s77, s78, s79, s80, s81, s82, s83, s84, s85, s86, s87, s88, s89, s90, s91, s92, s93, s94, s95, s96, s97, s98, s99, s100, s101, s102, s103, s104, s105, s106, s107, s108, s109, s110, s111, s112, s113, s114, s115, s116, s117, s118, s119, s120, s121, s122, s123, s124, s125, s126, s127, s128, s129, s130, s131, s132, s133, s134, s135, s136, s137, s138, s139, s140, s141, s142, s143, s144, s145, s146, s147, s148, s149, s150, .func (.func 8) #[] #[.pointer (some ⟨b3, 0, none⟩), .pointer (some ⟨b4, 0, none⟩)], .pointer (some ⟨b9, 1, none⟩), .int .i64 ahi, .pointer (some ⟨b9, 0, none⟩), .int .i64 alo, .pointer (some ⟨b11, 0, none⟩), .int .i64 blo, .int .i64 (max alo blo), .int .i64 (min ahi (max alo blo)), .bool tb, .pointer (some ⟨b7, 0, none⟩), .int .i64 mlo, .bool true, .bool true, .pointer (some ⟨b7, 1, none⟩), .int .i64 mhi, .bool tb, .bool tb, .bool true, .bool true, .bool true, .bool true], defers := dd } w') :
    Code.wpIn (wideAt none) 0 Try.prog std15tC Q { tmps := #[s0, s1, s2, .pointer (some ⟨b3, 0, none⟩), .pointer (some ⟨b4, 0, none⟩), s5, s6, .pointer (some ⟨b7, 0, none⟩), s8, .pointer (some ⟨b9, 0, none⟩), s10, .pointer (some ⟨b11, 0, none⟩), s12, .func (.func 8) #[] #[.pointer (some ⟨b3, 0, none⟩), .pointer (some ⟨b4, 0, none⟩)], s14, s15, s16, s17, s18, s19, s20, s21, s22, s23, s24, s25, s26, s27, s28, s29, s30, s31, s32, s33, s34, s35, s36, s37, s38, s39, s40, s41, s42, s43, s44, s45, s46, s47, s48, s49, s50, s51, s52, s53, s54, s55, s56, s57, s58, s59, s60, s61, s62, s63, s64, s65, s66, s67, s68, s69, s70, s71, s72, s73, s74, s75, s76, s77, s78, s79, s80, s81, s82, s83, s84, s85, s86, s87, s88, s89, s90, s91, s92, s93, s94, s95, s96, s97, s98, s99, s100, s101, s102, s103, s104, s105, s106, s107, s108, s109, s110, s111, s112, s113, s114, s115, s116, s117, s118, s119, s120, s121, s122, s123, s124, s125, s126, s127, s128, s129, s130, s131, s132, s133, s134, s135, s136, s137, s138, s139, s140, s141, s142, s143, s144, s145, s146, s147, s148, s149, s150, s151, s152, s153, s154, s155, s156, s157, s158, s159, s160, s161, s162, s163, s164, s165, s166, s167, s168, s169, s170, s171, s172], defers := dd } W1 := by
  have HQ := Lib.hid hQ
  clear hQ
  conv => arg 4; whnf
  refine wpIn_region_invG mixed (by kernel_rfl) (fun d_ a_ w' => ∃ (x151 : Value) (x152 : Value) (x153 : Value) (x154 : Value) (x155 : Value) (x156 : Value) (x157 : Value) (x158 : Value) (x159 : Value) (x160 : Value) (x161 : Value) (x162 : Value) (x163 : Value) (x164 : Value) (x165 : Value) (x166 : Value) (x167 : Value) (x168 : Value) (x169 : Value) (x170 : Value) (x171 : Value) (x172 : Value) (x6 : Value) (u : Unit) (u2 : Unit), a_ = { tmps := #[s0, s1, s2, .pointer (some ⟨b3, 0, none⟩), .pointer (some ⟨b4, 0, none⟩), s5, x6, .pointer (some ⟨b7, 0, none⟩), s8, .pointer (some ⟨b9, 0, none⟩), s10, .pointer (some ⟨b11, 0, none⟩), s12, .func (.func 8) #[] #[.pointer (some ⟨b3, 0, none⟩), .pointer (some ⟨b4, 0, none⟩)], s14, s15, s16, s17, s18, s19, s20, s21, s22, s23, s24, s25, s26, s27, s28, s29, s30, s31, s32, s33, s34, s35, s36, s37, s38, s39, s40, s41, s42, s43, s44, s45, s46, s47, s48, s49, s50, s51, s52, s53, s54, s55, s56, s57, s58, s59, s60, s61, s62, s63, s64, s65, s66, s67, s68, s69, s70, s71, s72, s73, s74, s75, s76, s77, s78, s79, s80, s81, s82, s83, s84, s85, s86, s87, s88, s89, s90, s91, s92, s93, s94, s95, s96, s97, s98, s99, s100, s101, s102, s103, s104, s105, s106, s107, s108, s109, s110, s111, s112, s113, s114, s115, s116, s117, s118, s119, s120, s121, s122, s123, s124, s125, s126, s127, s128, s129, s130, s131, s132, s133, s134, s135, s136, s137, s138, s139, s140, s141, s142, s143, s144, s145, s146, s147, s148, s149, s150, x151, x152, x153, x154, x155, x156, x157, x158, x159, x160, x161, x162, x163, x164, x165, x166, x167, x168, x169, x170, x171, x172], defers := dd } ∧ std15tF b3 b4 b7 b9 b11 ahi alo blo mlo mhi tb S0 S1 S2 d_ x151 x152 x153 x154 x155 x156 x157 x158 x159 x160 x161 x162 x163 x164 x165 x166 x167 x168 x169 x170 x171 x172 x6 u u2 w') ?_ ?_ ?_
  · refine ⟨s151, s152, s153, s154, s155, s156, s157, s158, s159, s160, s161, s162, s163, s164, s165, s166, s167, s168, s169, s170, s171, s172, s6, default, default, rfl, ?_⟩
    constructor <;> first | rfl | (intro _; rfl) | (intro h; cases h; done) | (intro _; exact h0) | exact h0
  · refine ⟨?_, ?_, ?_, ?_, ?_, ?_, ?_, ?_, ?_, ?_, ?_, ?_, ?_, ?_, ?_, ?_, ?_, ?_, ?_, ?_, ?_, ?_, ?_, trivial⟩
    all_goals
      rintro d_ a_ w1 K hd_ hdep ⟨x151, x152, x153, x154, x155, x156, x157, x158, x159, x160, x161, x162, x163, x164, x165, x166, x167, x168, x169, x170, x171, x172, x6, u, u2, rfl, F⟩ HK
      simp [Region.binds] at hdep
    · have HF : Hid (std15tF b3 b4 b7 b9 b11 ahi alo blo mlo mhi tb S0 S1 S2 (upd d_ 0) (.func (.func 8) #[] #[.pointer (some ⟨b3, 0, none⟩), .pointer (some ⟨b4, 0, none⟩)]) x152 x153 x154 x155 x156 x157 x158 x159 x160 x161 x162 x163 x164 x165 x166 x167 x168 x169 x170 x171 x172 x6 u u2 w1) := ⟨F.q2, F.q4, F.q6, F.q7, F.q8, fun h => andM0 (F.q9 h) rfl, F.q11, F.q12, F.q13, F.q14, F.q15, F.q16, F.q17, F.q18, F.q19, F.q20, F.q21, fun h => andM0 (F.q22 h) rfl, fun _ => rfl, F.f1, F.f2, F.f3, F.f4, F.f5, F.f6, F.f7, F.f8, F.f9, F.f10, F.f11, F.f12, F.f13, F.f14, F.f15, F.f16, F.f17, F.f18, F.f19, F.f20, F.f21, F.f22, F.st0, F.st1, F.st2⟩
      clear F
      go_simp
      exact HK.out _ _ ⟨_, _, _, _, _, _, _, _, _, _, _, _, _, _, _, _, _, _, _, _, _, _, _, _, _, rfl, HF.out⟩
    · have HF : Hid (std15tF b3 b4 b7 b9 b11 ahi alo blo mlo mhi tb S0 S1 S2 (upd d_ 1) x151 (.pointer (some ⟨b9, 1, none⟩)) x153 x154 x155 x156 x157 x158 x159 x160 x161 x162 x163 x164 x165 x166 x167 x168 x169 x170 x171 x172 x6 u u2 w1) := ⟨fun h => rfl, F.q4, F.q6, F.q7, F.q8, F.q9, F.q11, F.q12, F.q13, F.q14, F.q15, F.q16, F.q17, F.q18, F.q19, F.q20, F.q21, fun h => andM1 (F.q22 h) rfl, F.f0, fun _ => rfl, F.f2, F.f3, F.f4, F.f5, F.f6, F.f7, F.f8, F.f9, F.f10, F.f11, F.f12, F.f13, F.f14, F.f15, F.f16, F.f17, F.f18, F.f19, F.f20, F.f21, F.f22, F.st0, F.st1, F.st2⟩
      clear F
      go_simp
      exact HK.out _ _ ⟨_, _, _, _, _, _, _, _, _, _, _, _, _, _, _, _, _, _, _, _, _, _, _, _, _, rfl, HF.out⟩
    · have hst : S0 w1 := by
        have n_ : d_ 9 = false := by
          cases e_ : d_ 9 with
          | false => rfl
          | true => have h2 := (F.q8 (F.q9 e_).2).1; rw [show d_ 2 = false from hd_] at h2; cases h2
        exact (F.st0 n_)
      have kk := kl2.out w1 hst
      clear hst
      obtain rfl := F.f1 (by simp [hdep])
      have HF : Hid (std15tF b3 b4 b7 b9 b11 ahi alo blo mlo mhi tb S0 S1 S2 (upd d_ 2) x151 (.pointer (some ⟨b9, 1, none⟩)) (.int .i64 ahi) x154 x155 x156 x157 x158 x159 x160 x161 x162 x163 x164 x165 x166 x167 x168 x169 x170 x171 x172 x6 u u2 w1) := ⟨fun _ => (show _ from (by simp [hdep] : d_ 1 = true)), F.q4, F.q6, F.q7, fun h => andM0 (F.q8 h) rfl, F.q9, F.q11, F.q12, F.q13, F.q14, F.q15, F.q16, F.q17, F.q18, F.q19, F.q20, F.q21, fun h => andM2 (F.q22 h) rfl, F.f0, F.f1, fun _ => rfl, F.f3, F.f4, F.f5, F.f6, F.f7, F.f8, F.f9, F.f10, F.f11, F.f12, F.f13, F.f14, F.f15, F.f16, F.f17, F.f18, F.f19, F.f20, F.f21, F.f22, F.st0, F.st1, F.st2⟩
      clear F
      go_simp
      exact HK.out _ _ ⟨_, _, _, _, _, _, _, _, _, _, _, _, _, _, _, _, _, _, _, _, _, _, _, _, _, rfl, HF.out⟩
    · have HF : Hid (std15tF b3 b4 b7 b9 b11 ahi alo blo mlo mhi tb S0 S1 S2 (upd d_ 3) x151 x152 x153 (.pointer (some ⟨b9, 0, none⟩)) x155 x156 x157 x158 x159 x160 x161 x162 x163 x164 x165 x166 x167 x168 x169 x170 x171 x172 x6 u u2 w1) := ⟨F.q2, fun h => rfl, F.q6, F.q7, F.q8, F.q9, F.q11, F.q12, F.q13, F.q14, F.q15, F.q16, F.q17, F.q18, F.q19, F.q20, F.q21, fun h => andM3 (F.q22 h) rfl, F.f0, F.f1, F.f2, fun _ => rfl, F.f4, F.f5, F.f6, F.f7, F.f8, F.f9, F.f10, F.f11, F.f12, F.f13, F.f14, F.f15, F.f16, F.f17, F.f18, F.f19, F.f20, F.f21, F.f22, F.st0, F.st1, F.st2⟩
      clear F
      go_simp
      exact HK.out _ _ ⟨_, _, _, _, _, _, _, _, _, _, _, _, _, _, _, _, _, _, _, _, _, _, _, _, _, rfl, HF.out⟩
    · have hst : S0 w1 := by
        have n_ : d_ 9 = false := by
          cases e_ : d_ 9 with
          | false => rfl
          | true => have h2 := (F.q7 (F.q8 (F.q9 e_).2).2).1; rw [show d_ 4 = false from hd_] at h2; cases h2
        exact (F.st0 n_)
      have kk := kl4.out w1 hst
      clear hst
      obtain rfl := F.f3 (by simp [hdep])
      have HF : Hid (std15tF b3 b4 b7 b9 b11 ahi alo blo mlo mhi tb S0 S1 S2 (upd d_ 4) x151 x152 x153 (.pointer (some ⟨b9, 0, none⟩)) (.int .i64 alo) x156 x157 x158 x159 x160 x161 x162 x163 x164 x165 x166 x167 x168 x169 x170 x171 x172 x6 u u2 w1) := ⟨F.q2, fun _ => (show _ from (by simp [hdep] : d_ 3 = true)), F.q6, fun h => andM0 (F.q7 h) rfl, F.q8, F.q9, F.q11, F.q12, F.q13, F.q14, F.q15, F.q16, F.q17, F.q18, F.q19, F.q20, F.q21, fun h => andM4 (F.q22 h) rfl, F.f0, F.f1, F.f2, F.f3, fun _ => rfl, F.f5, F.f6, F.f7, F.f8, F.f9, F.f10, F.f11, F.f12, F.f13, F.f14, F.f15, F.f16, F.f17, F.f18, F.f19, F.f20, F.f21, F.f22, F.st0, F.st1, F.st2⟩
      clear F
      go_simp
      exact HK.out _ _ ⟨_, _, _, _, _, _, _, _, _, _, _, _, _, _, _, _, _, _, _, _, _, _, _, _, _, rfl, HF.out⟩
    · have HF : Hid (std15tF b3 b4 b7 b9 b11 ahi alo blo mlo mhi tb S0 S1 S2 (upd d_ 5) x151 x152 x153 x154 x155 (.pointer (some ⟨b11, 0, none⟩)) x157 x158 x159 x160 x161 x162 x163 x164 x165 x166 x167 x168 x169 x170 x171 x172 x6 u u2 w1) := ⟨F.q2, F.q4, fun h => rfl, F.q7, F.q8, F.q9, F.q11, F.q12, F.q13, F.q14, F.q15, F.q16, F.q17, F.q18, F.q19, F.q20, F.q21, fun h => andM5 (F.q22 h) rfl, F.f0, F.f1, F.f2, F.f3, F.f4, fun _ => rfl, F.f6, F.f7, F.f8, F.f9, F.f10, F.f11, F.f12, F.f13, F.f14, F.f15, F.f16, F.f17, F.f18, F.f19, F.f20, F.f21, F.f22, F.st0, F.st1, F.st2⟩
      clear F
      go_simp
      exact HK.out _ _ ⟨_, _, _, _, _, _, _, _, _, _, _, _, _, _, _, _, _, _, _, _, _, _, _, _, _, rfl, HF.out⟩
    · have hst : S0 w1 := by
        have n_ : d_ 9 = false := by
          cases e_ : d_ 9 with
          | false => rfl
          | true => have h2 := (F.q7 (F.q8 (F.q9 e_).2).2).2; rw [show d_ 6 = false from hd_] at h2; cases h2
        exact (F.st0 n_)
      have kk := kl6.out w1 hst
      clear hst
      obtain rfl := F.f5 (by simp [hdep])
      have HF : Hid (std15tF b3 b4 b7 b9 b11 ahi alo blo mlo mhi tb S0 S1 S2 (upd d_ 6) x151 x152 x153 x154 x155 (.pointer (some ⟨b11, 0, none⟩)) (.int .i64 blo) x158 x159 x160 x161 x162 x163 x164 x165 x166 x167 x168 x169 x170 x171 x172 x6 u u2 w1) := ⟨F.q2, F.q4, fun _ => (show _ from (by simp [hdep] : d_ 5 = true)), fun h => andL1 (F.q7 h) rfl, F.q8, F.q9, F.q11, F.q12, F.q13, F.q14, F.q15, F.q16, F.q17, F.q18, F.q19, F.q20, F.q21, fun h => andM6 (F.q22 h) rfl, F.f0, F.f1, F.f2, F.f3, F.f4, F.f5, fun _ => rfl, F.f7, F.f8, F.f9, F.f10, F.f11, F.f12, F.f13, F.f14, F.f15, F.f16, F.f17, F.f18, F.f19, F.f20, F.f21, F.f22, F.st0, F.st1, F.st2⟩
      clear F
      go_simp
      exact HK.out _ _ ⟨_, _, _, _, _, _, _, _, _, _, _, _, _, _, _, _, _, _, _, _, _, _, _, _, _, rfl, HF.out⟩
    · obtain rfl := F.f4 (by simp [hdep])
      obtain rfl := F.f6 (by simp [hdep])
      have HF : Hid (std15tF b3 b4 b7 b9 b11 ahi alo blo mlo mhi tb S0 S1 S2 (upd d_ 7) x151 x152 x153 x154 (.int .i64 alo) x156 (.int .i64 blo) (.int .i64 (max alo blo)) x159 x160 x161 x162 x163 x164 x165 x166 x167 x168 x169 x170 x171 x172 x6 u u2 w1) := ⟨F.q2, F.q4, F.q6, fun _ => ⟨(show _ from (by simp [hdep] : d_ 4 = true)), (show _ from (by simp [hdep] : d_ 6 = true))⟩, fun h => andL1 (F.q8 h) rfl, F.q9, F.q11, F.q12, F.q13, F.q14, F.q15, F.q16, F.q17, F.q18, F.q19, F.q20, F.q21, fun h => andM7 (F.q22 h) rfl, F.f0, F.f1, F.f2, F.f3, F.f4, F.f5, F.f6, fun _ => rfl, F.f8, F.f9, F.f10, F.f11, F.f12, F.f13, F.f14, F.f15, F.f16, F.f17, F.f18, F.f19, F.f20, F.f21, F.f22, F.st0, F.st1, F.st2⟩
      clear F
      go_simp
      exact HK.out _ _ ⟨_, _, _, _, _, _, _, _, _, _, _, _, _, _, _, _, _, _, _, _, _, _, _, _, _, rfl, HF.out⟩
    · obtain rfl := F.f2 (by simp [hdep])
      obtain rfl := F.f7 (by simp [hdep])
      have HF : Hid (std15tF b3 b4 b7 b9 b11 ahi alo blo mlo mhi tb S0 S1 S2 (upd d_ 8) x151 x152 (.int .i64 ahi) x154 x155 x156 x157 (.int .i64 (max alo blo)) (.int .i64 (min ahi (max alo blo))) x160 x161 x162 x163 x164 x165 x166 x167 x168 x169 x170 x171 x172 x6 u u2 w1) := ⟨F.q2, F.q4, F.q6, F.q7, fun _ => ⟨(show _ from (by simp [hdep] : d_ 2 = true)), (show _ from (by simp [hdep] : d_ 7 = true))⟩, fun h => andL1 (F.q9 h) rfl, F.q11, F.q12, F.q13, F.q14, F.q15, F.q16, F.q17, F.q18, F.q19, F.q20, F.q21, fun h => andM8 (F.q22 h) rfl, F.f0, F.f1, F.f2, F.f3, F.f4, F.f5, F.f6, F.f7, fun _ => rfl, F.f9, F.f10, F.f11, F.f12, F.f13, F.f14, F.f15, F.f16, F.f17, F.f18, F.f19, F.f20, F.f21, F.f22, F.st0, F.st1, F.st2⟩
      clear F
      go_simp
      exact HK.out _ _ ⟨_, _, _, _, _, _, _, _, _, _, _, _, _, _, _, _, _, _, _, _, _, _, _, _, _, rfl, HF.out⟩
    · have hS := F.st0  hd_
      obtain rfl := F.f0 (by simp [hdep])
      obtain rfl := F.f8 (by simp [hdep])
      have hc := kc9.out w1 hS
      have HF := Lib.hid F
      clear F
      have cf := cf8
      go_simp
      refine ⟨trivial, rfl, wideAt_calls (hc.mono ?_)⟩
      rintro e w5 ⟨v_, rfl, hres⟩
      exact HK.out _ _ ⟨_, _, _, _, _, _, _, _, _, _, _, _, _, _, _, _, _, _, _, _, _, _, _, v_, u2, rfl, ⟨HF.out.q2, HF.out.q4, HF.out.q6, HF.out.q7, HF.out.q8, fun _ => ⟨(show _ from (by simp [hdep] : d_ 0 = true)), (show _ from (by simp [hdep] : d_ 8 = true))⟩, HF.out.q11, HF.out.q12, fun h => ⟨rfl, (HF.out.q13 h).2⟩, HF.out.q14, HF.out.q15, HF.out.q16, HF.out.q17, fun h => ⟨rfl, (HF.out.q18 h).2⟩, HF.out.q19, HF.out.q20, HF.out.q21, fun h => ⟨(HF.out.q22 h).1, (HF.out.q22 h).2.1, (HF.out.q22 h).2.2.1, (HF.out.q22 h).2.2.2.1, (HF.out.q22 h).2.2.2.2.1, (HF.out.q22 h).2.2.2.2.2.1, (HF.out.q22 h).2.2.2.2.2.2.1, (HF.out.q22 h).2.2.2.2.2.2.2.1, (HF.out.q22 h).2.2.2.2.2.2.2.2.1, rfl, (HF.out.q22 h).2.2.2.2.2.2.2.2.2.2.1, (HF.out.q22 h).2.2.2.2.2.2.2.2.2.2.2.1, (HF.out.q22 h).2.2.2.2.2.2.2.2.2.2.2.2.1, (HF.out.q22 h).2.2.2.2.2.2.2.2.2.2.2.2.2.1, (HF.out.q22 h).2.2.2.2.2.2.2.2.2.2.2.2.2.2.1, (HF.out.q22 h).2.2.2.2.2.2.2.2.2.2.2.2.2.2.2.1, (HF.out.q22 h).2.2.2.2.2.2.2.2.2.2.2.2.2.2.2.2.1, (HF.out.q22 h).2.2.2.2.2.2.2.2.2.2.2.2.2.2.2.2.2.1, (HF.out.q22 h).2.2.2.2.2.2.2.2.2.2.2.2.2.2.2.2.2.2.1, (HF.out.q22 h).2.2.2.2.2.2.2.2.2.2.2.2.2.2.2.2.2.2.2.1, (HF.out.q22 h).2.2.2.2.2.2.2.2.2.2.2.2.2.2.2.2.2.2.2.2.1, (HF.out.q22 h).2.2.2.2.2.2.2.2.2.2.2.2.2.2.2.2.2.2.2.2.2⟩, HF.out.f0, HF.out.f1, HF.out.f2, HF.out.f3, HF.out.f4, HF.out.f5, HF.out.f6, HF.out.f7, HF.out.f8, fun _ => rfl, HF.out.f10, HF.out.f11, HF.out.f12, HF.out.f13, HF.out.f14, HF.out.f15, HF.out.f16, HF.out.f17, HF.out.f18, HF.out.f19, HF.out.f20, HF.out.f21, HF.out.f22, fun h => (by simp [upd] at h), fun _ _ => hres, fun h => (by have h2 : d_ 9 = true := (HF.out.q13 (HF.out.q19 (HF.out.q20 h)).1).1; rw [show d_ 9 = false from hd_] at h2; cases h2)⟩⟩
    · have HF : Hid (std15tF b3 b4 b7 b9 b11 ahi alo blo mlo mhi tb S0 S1 S2 (upd d_ 10) x151 x152 x153 x154 x155 x156 x157 x158 x159 x160 (.pointer (some ⟨b7, 0, none⟩)) x162 x163 x164 x165 x166 x167 x168 x169 x170 x171 x172 x6 u u2 w1) := ⟨F.q2, F.q4, F.q6, F.q7, F.q8, F.q9, fun h => rfl, F.q12, F.q13, F.q14, F.q15, F.q16, F.q17, F.q18, F.q19, F.q20, F.q21, fun h => andM10 (F.q22 h) rfl, F.f0, F.f1, F.f2, F.f3, F.f4, F.f5, F.f6, F.f7, F.f8, F.f9, fun _ => rfl, F.f11, F.f12, F.f13, F.f14, F.f15, F.f16, F.f17, F.f18, F.f19, F.f20, F.f21, F.f22, F.st0, F.st1, F.st2⟩
      clear F
      go_simp
      exact HK.out _ _ ⟨_, _, _, _, _, _, _, _, _, _, _, _, _, _, _, _, _, _, _, _, _, _, _, _, _, rfl, HF.out⟩
    · have hst : S0 w1 ∨ S1 u w1 := by
        cases e1 : d_ 9 with
        | false => exact .inl ((F.st0 e1))
        | true =>
          have n_ : d_ 20 = false := by
            cases e_ : d_ 20 with
            | false => rfl
            | true => have h2 := (F.q12 (F.q13 (F.q19 (F.q20 e_)).1).2); rw [show d_ 11 = false from hd_] at h2; cases h2
          exact .inr ((F.st1 e1 n_))
      have kk := kl11.out u w1 hst
      clear hst
      obtain rfl := F.f10 (by simp [hdep])
      have HF : Hid (std15tF b3 b4 b7 b9 b11 ahi alo blo mlo mhi tb S0 S1 S2 (upd d_ 11) x151 x152 x153 x154 x155 x156 x157 x158 x159 x160 (.pointer (some ⟨b7, 0, none⟩)) (.int .i64 mlo) x163 x164 x165 x166 x167 x168 x169 x170 x171 x172 x6 u u2 w1) := ⟨F.q2, F.q4, F.q6, F.q7, F.q8, F.q9, fun _ => (show _ from (by simp [hdep] : d_ 10 = true)), fun h => rfl, F.q13, F.q14, F.q15, F.q16, F.q17, F.q18, F.q19, F.q20, F.q21, fun h => andM11 (F.q22 h) rfl, F.f0, F.f1, F.f2, F.f3, F.f4, F.f5, F.f6, F.f7, F.f8, F.f9, F.f10, fun _ => rfl, F.f12, F.f13, F.f14, F.f15, F.f16, F.f17, F.f18, F.f19, F.f20, F.f21, F.f22, F.st0, F.st1, F.st2⟩
      clear F
      go_simp
      exact HK.out _ _ ⟨_, _, _, _, _, _, _, _, _, _, _, _, _, _, _, _, _, _, _, _, _, _, _, _, _, rfl, HF.out⟩
    · obtain rfl := F.f11 (by simp [hdep])
      have HF : Hid (std15tF b3 b4 b7 b9 b11 ahi alo blo mlo mhi tb S0 S1 S2 (upd d_ 12) x151 x152 x153 x154 x155 x156 x157 x158 x159 x160 x161 (.int .i64 mlo) (.bool true) x164 x165 x166 x167 x168 x169 x170 x171 x172 x6 u u2 w1) := ⟨F.q2, F.q4, F.q6, F.q7, F.q8, F.q9, F.q11, fun _ => (show _ from (by simp [hdep] : d_ 11 = true)), fun h => andL1 (F.q13 h) rfl, F.q14, F.q15, F.q16, F.q17, F.q18, F.q19, F.q20, F.q21, fun h => andM12 (F.q22 h) rfl, F.f0, F.f1, F.f2, F.f3, F.f4, F.f5, F.f6, F.f7, F.f8, F.f9, F.f10, F.f11, fun _ => rfl, F.f13, F.f14, F.f15, F.f16, F.f17, F.f18, F.f19, F.f20, F.f21, F.f22, F.st0, F.st1, F.st2⟩
      clear F
      go_simp
      exact HK.out _ _ ⟨_, _, _, _, _, _, _, _, _, _, _, _, _, _, _, _, _, _, _, _, _, _, _, _, _, rfl, HF.out⟩
    · obtain rfl := F.f12 (by simp [hdep])
      have HF : Hid (std15tF b3 b4 b7 b9 b11 ahi alo blo mlo mhi tb S0 S1 S2 (upd d_ 13) x151 x152 x153 x154 x155 x156 x157 x158 x159 x160 x161 x162 (.bool true) (.bool true) x165 x166 x167 x168 x169 x170 x171 x172 x6 u u2 w1) := ⟨F.q2, F.q4, F.q6, F.q7, F.q8, F.q9, F.q11, F.q12, fun _ => ⟨(show _ from (by simp [hdep] : d_ 9 = true)), (show _ from (by simp [hdep] : d_ 12 = true))⟩, fun h => rfl, fun h => andM0 (F.q15 h) rfl, fun h => andM0 (F.q16 h) rfl, fun h => andM0 (F.q17 h) rfl, F.q18, fun h => andM0 (F.q19 h) rfl, F.q20, F.q21, fun h => andM13 (F.q22 h) rfl, F.f0, F.f1, F.f2, F.f3, F.f4, F.f5, F.f6, F.f7, F.f8, F.f9, F.f10, F.f11, F.f12, fun _ => rfl, F.f14, F.f15, F.f16, F.f17, F.f18, F.f19, F.f20, F.f21, F.f22, F.st0, F.st1, F.st2⟩
      clear F
      go_simp
      exact HK.out _ _ ⟨_, _, _, _, _, _, _, _, _, _, _, _, _, _, _, _, _, _, _, _, _, _, _, _, _, rfl, HF.out⟩
    · obtain rfl := F.f13 (by simp [hdep])
      have HF : Hid (std15tF b3 b4 b7 b9 b11 ahi alo blo mlo mhi tb S0 S1 S2 (upd d_ 14) x151 x152 x153 x154 x155 x156 x157 x158 x159 x160 x161 x162 x163 (.bool true) (.pointer (some ⟨b7, 1, none⟩)) x166 x167 x168 x169 x170 x171 x172 x6 u u2 w1) := ⟨F.q2, F.q4, F.q6, F.q7, F.q8, F.q9, F.q11, F.q12, F.q13, fun _ => (show _ from (by simp [hdep] : d_ 13 = true)), fun h => andL1 (F.q15 h) rfl, F.q16, F.q17, F.q18, F.q19, F.q20, F.q21, fun h => andM14 (F.q22 h) rfl, F.f0, F.f1, F.f2, F.f3, F.f4, F.f5, F.f6, F.f7, F.f8, F.f9, F.f10, F.f11, F.f12, F.f13, fun _ => rfl, F.f15, F.f16, F.f17, F.f18, F.f19, F.f20, F.f21, F.f22, F.st0, F.st1, F.st2⟩
      clear F
      go_simp
      exact HK.out _ _ ⟨_, _, _, _, _, _, _, _, _, _, _, _, _, _, _, _, _, _, _, _, _, _, _, _, _, rfl, HF.out⟩
    · have hst : S1 u w1 := by
        have n_ : d_ 20 = false := by
          cases e_ : d_ 20 with
          | false => rfl
          | true => have h2 := (F.q16 (F.q17 (F.q18 (F.q19 (F.q20 e_)).2).2).2).2; rw [show d_ 15 = false from hd_] at h2; cases h2
        exact (F.st1 (F.q13 (by simp [hdep] : d_ 13 = true)).1 n_)
      have kk := kl15.out u w1 hst
      clear hst
      obtain rfl := F.f13 (by simp [hdep])
      obtain rfl := F.f14 (by simp [hdep])
      have HF : Hid (std15tF b3 b4 b7 b9 b11 ahi alo blo mlo mhi tb S0 S1 S2 (upd d_ 15) x151 x152 x153 x154 x155 x156 x157 x158 x159 x160 x161 x162 x163 (.bool true) (.pointer (some ⟨b7, 1, none⟩)) (.int .i64 mhi) x167 x168 x169 x170 x171 x172 x6 u u2 w1) := ⟨F.q2, F.q4, F.q6, F.q7, F.q8, F.q9, F.q11, F.q12, F.q13, F.q14, fun _ => ⟨(show _ from (by simp [hdep] : d_ 13 = true)), (show _ from (by simp [hdep] : d_ 14 = true))⟩, fun h => andL1 (F.q16 h) rfl, F.q17, F.q18, F.q19, F.q20, F.q21, fun h => andM15 (F.q22 h) rfl, F.f0, F.f1, F.f2, F.f3, F.f4, F.f5, F.f6, F.f7, F.f8, F.f9, F.f10, F.f11, F.f12, F.f13, F.f14, fun _ => rfl, F.f16, F.f17, F.f18, F.f19, F.f20, F.f21, F.f22, F.st0, F.st1, F.st2⟩
      clear F
      go_simp
      exact HK.out _ _ ⟨_, _, _, _, _, _, _, _, _, _, _, _, _, _, _, _, _, _, _, _, _, _, _, _, _, rfl, HF.out⟩
    · obtain rfl := F.f13 (by simp [hdep])
      obtain rfl := F.f15 (by simp [hdep])
      have HF : Hid (std15tF b3 b4 b7 b9 b11 ahi alo blo mlo mhi tb S0 S1 S2 (upd d_ 16) x151 x152 x153 x154 x155 x156 x157 x158 x159 x160 x161 x162 x163 (.bool true) x165 (.int .i64 mhi) (.bool tb) x168 x169 x170 x171 x172 x6 u u2 w1) := ⟨F.q2, F.q4, F.q6, F.q7, F.q8, F.q9, F.q11, F.q12, F.q13, F.q14, F.q15, fun _ => ⟨(show _ from (by simp [hdep] : d_ 13 = true)), (show _ from (by simp [hdep] : d_ 15 = true))⟩, fun h => andL1 (F.q17 h) rfl, F.q18, F.q19, F.q20, F.q21, fun h => andM16 (F.q22 h) rfl, F.f0, F.f1, F.f2, F.f3, F.f4, F.f5, F.f6, F.f7, F.f8, F.f9, F.f10, F.f11, F.f12, F.f13, F.f14, F.f15, fun _ => rfl, F.f17, F.f18, F.f19, F.f20, F.f21, F.f22, F.st0, F.st1, F.st2⟩
      clear F
      go_simp
      exact HK.out _ _ ⟨_, _, _, _, _, _, _, _, _, _, _, _, _, _, _, _, _, _, _, _, _, _, _, _, _, rfl, HF.out⟩
    · obtain rfl := F.f13 (by simp [hdep])
      obtain rfl := F.f16 (by simp [hdep])
      have HF : Hid (std15tF b3 b4 b7 b9 b11 ahi alo blo mlo mhi tb S0 S1 S2 (upd d_ 17) x151 x152 x153 x154 x155 x156 x157 x158 x159 x160 x161 x162 x163 (.bool true) x165 x166 (.bool tb) (.bool tb) x169 x170 x171 x172 x6 u u2 w1) := ⟨F.q2, F.q4, F.q6, F.q7, F.q8, F.q9, F.q11, F.q12, F.q13, F.q14, F.q15, F.q16, fun _ => ⟨(show _ from (by simp [hdep] : d_ 13 = true)), (show _ from (by simp [hdep] : d_ 16 = true))⟩, fun h => andL1 (F.q18 h) rfl, F.q19, F.q20, F.q21, fun h => andM17 (F.q22 h) rfl, F.f0, F.f1, F.f2, F.f3, F.f4, F.f5, F.f6, F.f7, F.f8, F.f9, F.f10, F.f11, F.f12, F.f13, F.f14, F.f15, F.f16, fun _ => rfl, F.f18, F.f19, F.f20, F.f21, F.f22, F.st0, F.st1, F.st2⟩
      clear F
      go_simp
      exact HK.out _ _ ⟨_, _, _, _, _, _, _, _, _, _, _, _, _, _, _, _, _, _, _, _, _, _, _, _, _, rfl, HF.out⟩
    · obtain rfl := F.f9 (by simp [hdep])
      obtain rfl := F.f17 (by simp [hdep])
      have HF : Hid (std15tF b3 b4 b7 b9 b11 ahi alo blo mlo mhi tb S0 S1 S2 (upd d_ 18) x151 x152 x153 x154 x155 x156 x157 x158 x159 (.bool tb) x161 x162 x163 x164 x165 x166 x167 (.bool tb) (.bool true) x170 x171 x172 x6 u u2 w1) := ⟨F.q2, F.q4, F.q6, F.q7, F.q8, F.q9, F.q11, F.q12, F.q13, F.q14, F.q15, F.q16, F.q17, fun _ => ⟨(show _ from (by simp [hdep] : d_ 9 = true)), (show _ from (by simp [hdep] : d_ 17 = true))⟩, fun h => andL1 (F.q19 h) rfl, F.q20, F.q21, fun h => andM18 (F.q22 h) rfl, F.f0, F.f1, F.f2, F.f3, F.f4, F.f5, F.f6, F.f7, F.f8, F.f9, F.f10, F.f11, F.f12, F.f13, F.f14, F.f15, F.f16, F.f17, fun _ => rfl, F.f19, F.f20, F.f21, F.f22, F.st0, F.st1, F.st2⟩
      clear F
      go_simp
      exact HK.out _ _ ⟨_, _, _, _, _, _, _, _, _, _, _, _, _, _, _, _, _, _, _, _, _, _, _, _, _, rfl, HF.out⟩
    · obtain rfl := F.f18 (by simp [hdep])
      have HF : Hid (std15tF b3 b4 b7 b9 b11 ahi alo blo mlo mhi tb S0 S1 S2 (upd d_ 19) x151 x152 x153 x154 x155 x156 x157 x158 x159 x160 x161 x162 x163 x164 x165 x166 x167 x168 (.bool true) (.bool true) x171 x172 x6 u u2 w1) := ⟨F.q2, F.q4, F.q6, F.q7, F.q8, F.q9, F.q11, F.q12, F.q13, F.q14, F.q15, F.q16, F.q17, F.q18, fun _ => ⟨(show _ from (by simp [hdep] : d_ 13 = true)), (show _ from (by simp [hdep] : d_ 18 = true))⟩, fun h => rfl, fun h => andM0 (F.q21 h) rfl, fun h => andM19 (F.q22 h) rfl, F.f0, F.f1, F.f2, F.f3, F.f4, F.f5, F.f6, F.f7, F.f8, F.f9, F.f10, F.f11, F.f12, F.f13, F.f14, F.f15, F.f16, F.f17, F.f18, fun _ => rfl, F.f20, F.f21, F.f22, F.st0, F.st1, F.st2⟩
      clear F
      go_simp
      exact HK.out _ _ ⟨_, _, _, _, _, _, _, _, _, _, _, _, _, _, _, _, _, _, _, _, _, _, _, _, _, rfl, HF.out⟩
    · have hS := F.st1 (F.q13 (F.q19 (by simp [hdep] : d_ 19 = true)).1).1 hd_
      obtain rfl := F.f19 (by simp [hdep])
      have hc := kc20.out u w1 hS
      have HF := Lib.hid F
      clear F
      go_simp
      refine ⟨trivial, rfl, wideAt_calls (hc.mono ?_)⟩
      rintro e w5 ⟨v_, rfl, hres⟩
      exact HK.out _ _ ⟨_, _, _, _, _, _, _, _, _, _, _, _, _, _, _, _, _, _, _, _, _, _, _, u, v_, rfl, ⟨HF.out.q2, HF.out.q4, HF.out.q6, HF.out.q7, HF.out.q8, HF.out.q9, HF.out.q11, HF.out.q12, HF.out.q13, HF.out.q14, HF.out.q15, HF.out.q16, HF.out.q17, HF.out.q18, HF.out.q19, fun _ => (show _ from (by simp [hdep] : d_ 19 = true)), fun h => ⟨(HF.out.q21 h).1, rfl⟩, fun h => ⟨(HF.out.q22 h).1, (HF.out.q22 h).2.1, (HF.out.q22 h).2.2.1, (HF.out.q22 h).2.2.2.1, (HF.out.q22 h).2.2.2.2.1, (HF.out.q22 h).2.2.2.2.2.1, (HF.out.q22 h).2.2.2.2.2.2.1, (HF.out.q22 h).2.2.2.2.2.2.2.1, (HF.out.q22 h).2.2.2.2.2.2.2.2.1, (HF.out.q22 h).2.2.2.2.2.2.2.2.2.1, (HF.out.q22 h).2.2.2.2.2.2.2.2.2.2.1, (HF.out.q22 h).2.2.2.2.2.2.2.2.2.2.2.1, (HF.out.q22 h).2.2.2.2.2.2.2.2.2.2.2.2.1, (HF.out.q22 h).2.2.2.2.2.2.2.2.2.2.2.2.2.1, (HF.out.q22 h).2.2.2.2.2.2.2.2.2.2.2.2.2.2.1, (HF.out.q22 h).2.2.2.2.2.2.2.2.2.2.2.2.2.2.2.1, (HF.out.q22 h).2.2.2.2.2.2.2.2.2.2.2.2.2.2.2.2.1, (HF.out.q22 h).2.2.2.2.2.2.2.2.2.2.2.2.2.2.2.2.2.1, (HF.out.q22 h).2.2.2.2.2.2.2.2.2.2.2.2.2.2.2.2.2.2.1, (HF.out.q22 h).2.2.2.2.2.2.2.2.2.2.2.2.2.2.2.2.2.2.2.1, rfl, (HF.out.q22 h).2.2.2.2.2.2.2.2.2.2.2.2.2.2.2.2.2.2.2.2.2⟩, HF.out.f0, HF.out.f1, HF.out.f2, HF.out.f3, HF.out.f4, HF.out.f5, HF.out.f6, HF.out.f7, HF.out.f8, HF.out.f9, HF.out.f10, HF.out.f11, HF.out.f12, HF.out.f13, HF.out.f14, HF.out.f15, HF.out.f16, HF.out.f17, HF.out.f18, HF.out.f19, fun _ => rfl, HF.out.f21, HF.out.f22, fun h => (by have h2 : d_ 9 = false := h; rw [(HF.out.q13 (HF.out.q19 (by simp [hdep] : d_ 19 = true)).1).1] at h2; cases h2), fun _ h => (by simp [upd] at h), fun _ => hres⟩⟩
    · obtain rfl := F.f19 (by simp [hdep])
      obtain rfl := F.f20 (by simp [hdep])
      have HF : Hid (std15tF b3 b4 b7 b9 b11 ahi alo blo mlo mhi tb S0 S1 S2 (upd d_ 21) x151 x152 x153 x154 x155 x156 x157 x158 x159 x160 x161 x162 x163 x164 x165 x166 x167 x168 x169 (.bool true) (.bool true) (.bool true) x6 u u2 w1) := ⟨F.q2, F.q4, F.q6, F.q7, F.q8, F.q9, F.q11, F.q12, F.q13, F.q14, F.q15, F.q16, F.q17, F.q18, F.q19, F.q20, fun _ => ⟨(show _ from (by simp [hdep] : d_ 19 = true)), (show _ from (by simp [hdep] : d_ 20 = true))⟩, fun h => andL21 (F.q22 h) rfl, F.f0, F.f1, F.f2, F.f3, F.f4, F.f5, F.f6, F.f7, F.f8, F.f9, F.f10, F.f11, F.f12, F.f13, F.f14, F.f15, F.f16, F.f17, F.f18, F.f19, F.f20, fun _ => rfl, F.f22, F.st0, F.st1, F.st2⟩
      clear F
      go_simp
      exact HK.out _ _ ⟨_, _, _, _, _, _, _, _, _, _, _, _, _, _, _, _, _, _, _, _, _, _, _, _, _, rfl, HF.out⟩
    · obtain rfl := F.f21 (by simp [hdep])
      have HF : Hid (std15tF b3 b4 b7 b9 b11 ahi alo blo mlo mhi tb S0 S1 S2 (upd d_ 22) x151 x152 x153 x154 x155 x156 x157 x158 x159 x160 x161 x162 x163 x164 x165 x166 x167 x168 x169 x170 x171 (.bool true) (.bool true) u u2 w1) := ⟨F.q2, F.q4, F.q6, F.q7, F.q8, F.q9, F.q11, F.q12, F.q13, F.q14, F.q15, F.q16, F.q17, F.q18, F.q19, F.q20, F.q21, fun _ => ⟨(show _ from (by simp [hdep] : d_ 0 = true)), (show _ from (by simp [hdep] : d_ 1 = true)), (show _ from (by simp [hdep] : d_ 2 = true)), (show _ from (by simp [hdep] : d_ 3 = true)), (show _ from (by simp [hdep] : d_ 4 = true)), (show _ from (by simp [hdep] : d_ 5 = true)), (show _ from (by simp [hdep] : d_ 6 = true)), (show _ from (by simp [hdep] : d_ 7 = true)), (show _ from (by simp [hdep] : d_ 8 = true)), (show _ from (by simp [hdep] : d_ 9 = true)), (show _ from (by simp [hdep] : d_ 10 = true)), (show _ from (by simp [hdep] : d_ 11 = true)), (show _ from (by simp [hdep] : d_ 12 = true)), (show _ from (by simp [hdep] : d_ 13 = true)), (show _ from (by simp [hdep] : d_ 14 = true)), (show _ from (by simp [hdep] : d_ 15 = true)), (show _ from (by simp [hdep] : d_ 16 = true)), (show _ from (by simp [hdep] : d_ 17 = true)), (show _ from (by simp [hdep] : d_ 18 = true)), (show _ from (by simp [hdep] : d_ 19 = true)), (show _ from (by simp [hdep] : d_ 20 = true)), (show _ from (by simp [hdep] : d_ 21 = true))⟩, F.f0, F.f1, F.f2, F.f3, F.f4, F.f5, F.f6, F.f7, F.f8, F.f9, F.f10, F.f11, F.f12, F.f13, F.f14, F.f15, F.f16, F.f17, F.f18, F.f19, F.f20, F.f21, fun _ => rfl, F.st0, F.st1, F.st2⟩
      clear F
      go_simp
      exact HK.out _ _ ⟨_, _, _, _, _, _, _, _, _, _, _, _, _, _, _, _, _, _, _, _, _, _, _, _, _, rfl, HF.out⟩
  · rintro d_ a_ w1 hall ⟨x151, x152, x153, x154, x155, x156, x157, x158, x159, x160, x161, x162, x163, x164, x165, x166, x167, x168, x169, x170, x171, x172, x6, u, u2, rfl, F⟩
    have hall' : ∀ k, k < 23 → d_ k = true := hall
    obtain rfl := F.f0 (hall' 0 (by decide))
    obtain rfl := F.f1 (hall' 1 (by decide))
    obtain rfl := F.f2 (hall' 2 (by decide))
    obtain rfl := F.f3 (hall' 3 (by decide))
    obtain rfl := F.f4 (hall' 4 (by decide))
    obtain rfl := F.f5 (hall' 5 (by decide))
    obtain rfl := F.f6 (hall' 6 (by decide))
    obtain rfl := F.f7 (hall' 7 (by decide))
    obtain rfl := F.f8 (hall' 8 (by decide))
    obtain rfl := F.f9 (hall' 9 (by decide))
    obtain rfl := F.f10 (hall' 10 (by decide))
    obtain rfl := F.f11 (hall' 11 (by decide))
    obtain rfl := F.f12 (hall' 12 (by decide))
    obtain rfl := F.f13 (hall' 13 (by decide))
    obtain rfl := F.f14 (hall' 14 (by decide))
    obtain rfl := F.f15 (hall' 15 (by decide))
    obtain rfl := F.f16 (hall' 16 (by decide))
    obtain rfl := F.f17 (hall' 17 (by decide))
    obtain rfl := F.f18 (hall' 18 (by decide))
    obtain rfl := F.f19 (hall' 19 (by decide))
    obtain rfl := F.f20 (hall' 20 (by decide))
    obtain rfl := F.f21 (hall' 21 (by decide))
    obtain rfl := F.f22 (hall' 22 (by decide))
    have hst := F.st2 (hall' 20 (by decide))
    exact HQ.out u u2 w1 hst
structure std15fF (b3 : Nat) (b4 : Nat) (b7 : Nat) (b9 : Nat) (b11 : Nat) (ahi : Int) (alo : Int) (blo : Int) (mlo : Int) (mhi : Int) (tb : Bool) (S0 : World → Prop) (S1 : Unit → World → Prop) (S2 : Unit → Unit → World → Prop) (d : Nat → Bool) (x151 x152 x153 x154 x155 x156 x157 x158 x159 x160 x161 x162 x163 x164 x165 x166 x167 x168 x169 x170 x171 x172 x6 : Value) (u : Unit) (u2 : Unit) (w : World) : Prop where
  q2 : d 2 = true → d 1 = true
  q4 : d 4 = true → d 3 = true
  q6 : d 6 = true → d 5 = true
  q7 : d 7 = true → d 4 = true ∧ d 6 = true
  q8 : d 8 = true → d 2 = true ∧ d 7 = true
  q9 : d 9 = true → d 0 = true ∧ d 8 = true
  q11 : d 11 = true → d 10 = true
  q12 : d 12 = true → d 11 = true
  q13 : d 13 = true → d 9 = true ∧ d 12 = true
  q14 : d 14 = true → d 13 = true
  q15 : d 15 = true → d 13 = true ∧ d 14 = true
  q16 : d 16 = true → d 13 = true ∧ d 15 = true
  q17 : d 17 = true → d 13 = true ∧ d 16 = true
  q18 : d 18 = true → d 9 = true ∧ d 17 = true
  q19 : d 19 = true → d 13 = true ∧ d 18 = true
  q20 : d 20 = true → d 19 = true
  q21 : d 21 = true → d 19 = true ∧ d 20 = true
  q22 : d 22 = true → d 0 = true ∧ d 1 = true ∧ d 2 = true ∧ d 3 = true ∧ d 4 = true ∧ d 5 = true ∧ d 6 = true ∧ d 7 = true ∧ d 8 = true ∧ d 9 = true ∧ d 10 = true ∧ d 11 = true ∧ d 12 = true ∧ d 13 = true ∧ d 14 = true ∧ d 15 = true ∧ d 16 = true ∧ d 17 = true ∧ d 18 = true ∧ d 19 = true ∧ d 20 = true ∧ d 21 = true
  f0 : d 0 = true → x151 = .func (.func 8) #[] #[.pointer (some ⟨b3, 0, none⟩), .pointer (some ⟨b4, 0, none⟩)]
  f1 : d 1 = true → x152 = .pointer (some ⟨b9, 1, none⟩)
  f2 : d 2 = true → x153 = .int .i64 ahi
  f3 : d 3 = true → x154 = .pointer (some ⟨b9, 0, none⟩)
  f4 : d 4 = true → x155 = .int .i64 alo
  f5 : d 5 = true → x156 = .pointer (some ⟨b11, 0, none⟩)
  f6 : d 6 = true → x157 = .int .i64 blo
  f7 : d 7 = true → x158 = .int .i64 (max alo blo)
  f8 : d 8 = true → x159 = .int .i64 (min ahi (max alo blo))
  f9 : d 9 = true → x160 = .bool false
  f10 : d 10 = true → x161 = .pointer (some ⟨b7, 0, none⟩)
  f11 : d 11 = true → x162 = .int .i64 mlo
  f12 : d 12 = true → x163 = .bool false
  f13 : d 13 = true → x164 = .bool false
  f14 : d 14 = true → x165 = undef
  f15 : d 15 = true → x166 = undef
  f16 : d 16 = true → x167 = undef
  f17 : d 17 = true → x168 = .bool false
  f18 : d 18 = true → x169 = .bool true
  f19 : d 19 = true → x170 = .bool true
  f20 : d 20 = true → x171 = .bool true
  f21 : d 21 = true → x172 = .bool true
  f22 : d 22 = true → x6 = .bool true
  st0 : d 9 = false → S0 w
  st1 : d 9 = true → d 20 = false → S1 u w
  st2 : d 20 = true → S2 u u2 w
noncomputable def std15fC : Code := (Try.f3.body.bind (regionAt 15)).getD .skip
set_option maxRecDepth 100000 in
set_option maxHeartbeats 4000000 in
theorem std15f {b3 : Nat} {b4 : Nat} {b7 : Nat} {b9 : Nat} {b11 : Nat} {ahi : Int} {alo : Int} {blo : Int} {mlo : Int} {mhi : Int} {tb : Bool} {S0 : World → Prop} {S1 : Unit → World → Prop} {S2 : Unit → Unit → World → Prop} {Q : Exit → Act → World → Prop} {W1 : World} (hd1 : decide (mlo ≤ 0) = false) (h0 : S0 W1.drew)
    (kl2 : Hid (∀ (w : World), (S0 w) → w.cell? ⟨b9, 1, none⟩ = some (.int .i64 ahi)))
    (kl4 : Hid (∀ (w : World), (S0 w) → w.cell? ⟨b9, 0, none⟩ = some (.int .i64 alo)))
    (kl6 : Hid (∀ (w : World), (S0 w) → w.cell? ⟨b11, 0, none⟩ = some (.int .i64 blo)))
    (kc9 : Hid (∀ (w : World), S0 w → Calls Try.prog 8 #[.int .i64 (min ahi (max alo blo)), .pointer (some ⟨b3, 0, none⟩), .pointer (some ⟨b4, 0, none⟩)] w fun e w' => ∃ u : Unit, e = .returned (.bool false) ∧ S1 u w'))
    (kl11 : Hid (∀ (u : Unit) (w : World), (S0 w ∨ S1 u w) → w.cell? ⟨b7, 0, none⟩ = some (.int .i64 mlo)))
    (kc20 : Hid (∀ (u : Unit) (w : World), S1 u w → Calls Try.prog 5 #[] w fun e w' => ∃ u2 : Unit, e = .returned (.bool true) ∧ S2 u u2 w'))
    {s0 s1 s2 s5 s6 s8 s10 s12 s14 s15 s16 s17 s18 s19 s20 s21 s22 s23 s24 s25 s26 s27 s28 s29 s30 s31 s32 s33 s34 s35 s36 s37 s38 s39 s40 s41 s42 s43 s44 s45 s46 s47 s48 s49 s50 s51 s52 s53 s54 s55 s56 s57 s58 s59 s60 s61 s62 s63 s64 s65 s66 s67 s68 s69 s70 s71 s72 s73 s74 s75 s76 s77 s78 s79 s80 s81 s82 s83 s84 s85 s86 s87 s88 s89 s90 s91 s92 s93 s94 s95 s96 s97 s98 s99 s100 s101 s102 s103 s104 s105 s106 s107 s108 s109 s110 s111 s112 s113 s114 s115 s116 s117 s118 s119 s120 s121 s122 s123 s124 s125 s126 s127 s128 s129 s130 s131 s132 s133 s134 s135 s136 s137 s138 s139 s140 s141 s142 s143 s144 s145 s146 s147 s148 s149 s150 s151 s152 s153 s154 s155 s156 s157 s158 s159 s160 s161 s162 s163 s164 s165 s166 s167 s168 s169 s170 s171 s172 : Value} {dd : List Deferred}
    (hQ : ∀ (u : Unit) (u2 : Unit) (w' : World), S2 u u2 w' → Q .normal { tmps := #[s0, s1, s2, .pointer (some ⟨b3, 0, none⟩), .pointer (some ⟨b4, 0, none⟩), s5, .bool true, .pointer (some ⟨b7, 0, none⟩), s8, .pointer (some ⟨b9, 0, none⟩), s10, .pointer (some ⟨b11, 0, none⟩), s12, .func (.func 8) #[] #[.pointer (some ⟨b3, 0, none⟩), .pointer (some ⟨b4, 0, none⟩)], s14, s15, s16, s17, s18, s19, s20, s21, s22, s23, s24, s25, s26, s27, s28, s29, s30, s31, s32, s33, s34, s35, s36, s37, s38, s39, s40, s41, s42, s43, s44, s45, s46, s47, s48, s49, s50, s51, s52, s53, s54, s55, s56, s57, s58, s59, s60, s61, s62, s63, s64, s65, s66, s67, s68, s69, s70, s71, s72, s73, s74, s75, s76, s77, s78, s79, s80, s81, s82, s83, s84, s85, s86, s87, s88, s89, s90, s91, s92, s93, s94, s95, s96, s97, s98, s99, s100, s101, s102, s103, s104, s105, s106, s107, s108, s109, s110, s111, s112, s113, s114, s115, s116, s117, s118, s119, s120, s121, s122, s123, s124, s125, s126, s127, s128, s129, s130, s131, s132, s133, s134, s135, s136, s137, s138, s139, s140, s141, s142, s143, s144, s145, s146, s147, s148, s149, s150, .func (.func 8) #[] #[.pointer (some ⟨b3, 0, none⟩), .pointer (some ⟨b4, 0, none⟩)], .pointer (some ⟨b9, 1, none⟩), .int .i64 ahi, .pointer (some ⟨b9, 0, none⟩), .int .i64 alo, .pointer (some ⟨b11, 0, none⟩), .int .i64 blo, .int .i64 (max alo blo), .int .i64 (min ahi (max alo blo)), .bool false, .pointer (some ⟨b7, 0, none⟩), .int .i64 mlo, .bool false, .bool false, undef, undef, undef, .bool false, .bool true, .bool true, .bool true, .bool true], defers := dd } w') :
    Code.wpIn (wideAt none) 0 Try.prog std15fC Q { tmps := #[s0, s1, s2, .pointer (some ⟨b3, 0, none⟩), .pointer (some ⟨b4, 0, none⟩), s5, s6, .pointer (some ⟨b7, 0, none⟩), s8, .pointer (some ⟨b9, 0, none⟩), s10, .pointer (some ⟨b11, 0, none⟩), s12, .func (.func 8) #[] #[.pointer (some ⟨b3, 0, none⟩), .pointer (some ⟨b4, 0, none⟩)], s14, s15, s16, s17, s18, s19, s20, s21, s22, s23, s24, s25, s26, s27, s28, s29, s30, s31, s32, s33, s34, s35, s36, s37, s38, s39, s40, s41, s42, s43, s44, s45, s46, s47, s48, s49, s50, s51, s52, s53, s54, s55, s56, s57, s58, s59, s60, s61, s62, s63, s64, s65, s66, s67, s68, s69, s70, s71, s72, s73, s74, s75, s76, s77, s78, s79, s80, s81, s82, s83, s84, s85, s86, s87, s88, s89, s90, s91, s92, s93, s94, s95, s96, s97, s98, s99, s100, s101, s102, s103, s104, s105, s106, s107, s108, s109, s110, s111, s112, s113, s114, s115, s116, s117, s118, s119, s120, s121, s122, s123, s124, s125, s126, s127, s128, s129, s130, s131, s132, s133, s134, s135, s136, s137, s138, s139, s140, s141, s142, s143, s144, s145, s146, s147, s148, s149, s150, s151, s152, s153, s154, s155, s156, s157, s158, s159, s160, s161, s162, s163, s164, s165, s166, s167, s168, s169, s170, s171, s172], defers := dd } W1 := by
  have HQ := Lib.hid hQ
  clear hQ
  conv => arg 4; whnf
  refine wpIn_region_invG mixed (by kernel_rfl) (fun d_ a_ w' => ∃ (x151 : Value) (x152 : Value) (x153 : Value) (x154 : Value) (x155 : Value) (x156 : Value) (x157 : Value) (x158 : Value) (x159 : Value) (x160 : Value) (x161 : Value) (x162 : Value) (x163 : Value) (x164 : Value) (x165 : Value) (x166 : Value) (x167 : Value) (x168 : Value) (x169 : Value) (x170 : Value) (x171 : Value) (x172 : Value) (x6 : Value) (u : Unit) (u2 : Unit), a_ = { tmps := #[s0, s1, s2, .pointer (some ⟨b3, 0, none⟩), .pointer (some ⟨b4, 0, none⟩), s5, x6, .pointer (some ⟨b7, 0, none⟩), s8, .pointer (some ⟨b9, 0, none⟩), s10, .pointer (some ⟨b11, 0, none⟩), s12, .func (.func 8) #[] #[.pointer (some ⟨b3, 0, none⟩), .pointer (some ⟨b4, 0, none⟩)], s14, s15, s16, s17, s18, s19, s20, s21, s22, s23, s24, s25, s26, s27, s28, s29, s30, s31, s32, s33, s34, s35, s36, s37, s38, s39, s40, s41, s42, s43, s44, s45, s46, s47, s48, s49, s50, s51, s52, s53, s54, s55, s56, s57, s58, s59, s60, s61, s62, s63, s64, s65, s66, s67, s68, s69, s70, s71, s72, s73, s74, s75, s76, s77, s78, s79, s80, s81, s82, s83, s84, s85, s86, s87, s88, s89, s90, s91, s92, s93, s94, s95, s96, s97, s98, s99, s100, s101, s102, s103, s104, s105, s106, s107, s108, s109, s110, s111, s112, s113, s114, s115, s116, s117, s118, s119, s120, s121, s122, s123, s124, s125, s126, s127, s128, s129, s130, s131, s132, s133, s134, s135, s136, s137, s138, s139, s140, s141, s142, s143, s144, s145, s146, s147, s148, s149, s150, x151, x152, x153, x154, x155, x156, x157, x158, x159, x160, x161, x162, x163, x164, x165, x166, x167, x168, x169, x170, x171, x172], defers := dd } ∧ std15fF b3 b4 b7 b9 b11 ahi alo blo mlo mhi tb S0 S1 S2 d_ x151 x152 x153 x154 x155 x156 x157 x158 x159 x160 x161 x162 x163 x164 x165 x166 x167 x168 x169 x170 x171 x172 x6 u u2 w') ?_ ?_ ?_
  · refine ⟨s151, s152, s153, s154, s155, s156, s157, s158, s159, s160, s161, s162, s163, s164, s165, s166, s167, s168, s169, s170, s171, s172, s6, default, default, rfl, ?_⟩
    constructor <;> first | rfl | (intro _; rfl) | (intro h; cases h; done) | (intro _; exact h0) | exact h0
  · refine ⟨?_, ?_, ?_, ?_, ?_, ?_, ?_, ?_, ?_, ?_, ?_, ?_, ?_, ?_, ?_, ?_, ?_, ?_, ?_, ?_, ?_, ?_, ?_, trivial⟩
    all_goals
      rintro d_ a_ w1 K hd_ hdep ⟨x151, x152, x153, x154, x155, x156, x157, x158, x159, x160, x161, x162, x163, x164, x165, x166, x167, x168, x169, x170, x171, x172, x6, u, u2, rfl, F⟩ HK
      simp [Region.binds] at hdep
    · have HF : Hid (std15fF b3 b4 b7 b9 b11 ahi alo blo mlo mhi tb S0 S1 S2 (upd d_ 0) (.func (.func 8) #[] #[.pointer (some ⟨b3, 0, none⟩), .pointer (some ⟨b4, 0, none⟩)]) x152 x153 x154 x155 x156 x157 x158 x159 x160 x161 x162 x163 x164 x165 x166 x167 x168 x169 x170 x171 x172 x6 u u2 w1) := ⟨F.q2, F.q4, F.q6, F.q7, F.q8, fun h => andM0 (F.q9 h) rfl, F.q11, F.q12, F.q13, F.q14, F.q15, F.q16, F.q17, F.q18, F.q19, F.q20, F.q21, fun h => andM0 (F.q22 h) rfl, fun _ => rfl, F.f1, F.f2, F.f3, F.f4, F.f5, F.f6, F.f7, F.f8, F.f9, F.f10, F.f11, F.f12, F.f13, F.f14, F.f15, F.f16, F.f17, F.f18, F.f19, F.f20, F.f21, F.f22, F.st0, F.st1, F.st2⟩
      clear F
      go_simp
      exact HK.out _ _ ⟨_, _, _, _, _, _, _, _, _, _, _, _, _, _, _, _, _, _, _, _, _, _, _, _, _, rfl, HF.out⟩
    · have HF : Hid (std15fF b3 b4 b7 b9 b11 ahi alo blo mlo mhi tb S0 S1 S2 (upd d_ 1) x151 (.pointer (some ⟨b9, 1, none⟩)) x153 x154 x155 x156 x157 x158 x159 x160 x161 x162 x163 x164 x165 x166 x167 x168 x169 x170 x171 x172 x6 u u2 w1) := ⟨fun h => rfl, F.q4, F.q6, F.q7, F.q8, F.q9, F.q11, F.q12, F.q13, F.q14, F.q15, F.q16, F.q17, F.q18, F.q19, F.q20, F.q21, fun h => andM1 (F.q22 h) rfl, F.f0, fun _ => rfl, F.f2, F.f3, F.f4, F.f5, F.f6, F.f7, F.f8, F.f9, F.f10, F.f11, F.f12, F.f13, F.f14, F.f15, F.f16, F.f17, F.f18, F.f19, F.f20, F.f21, F.f22, F.st0, F.st1, F.st2⟩
      clear F
      go_simp
      exact HK.out _ _ ⟨_, _, _, _, _, _, _, _, _, _, _, _, _, _, _, _, _, _, _, _, _, _, _, _, _, rfl, HF.out⟩
    · have hst : S0 w1 := by
        have n_ : d_ 9 = false := by
          cases e_ : d_ 9 with
          | false => rfl
          | true => have h2 := (F.q8 (F.q9 e_).2).1; rw [show d_ 2 = false from hd_] at h2; cases h2
        exact (F.st0 n_)
      have kk := kl2.out w1 hst
      clear hst
      obtain rfl := F.f1 (by simp [hdep])
      have HF : Hid (std15fF b3 b4 b7 b9 b11 ahi alo blo mlo mhi tb S0 S1 S2 (upd d_ 2) x151 (.pointer (some ⟨b9, 1, none⟩)) (.int .i64 ahi) x154 x155 x156 x157 x158 x159 x160 x161 x162 x163 x164 x165 x166 x167 x168 x169 x170 x171 x172 x6 u u2 w1) := ⟨fun _ => (show _ from (by simp [hdep] : d_ 1 = true)), F.q4, F.q6, F.q7, fun h => andM0 (F.q8 h) rfl, F.q9, F.q11, F.q12, F.q13, F.q14, F.q15, F.q16, F.q17, F.q18, F.q19, F.q20, F.q21, fun h => andM2 (F.q22 h) rfl, F.f0, F.f1, fun _ => rfl, F.f3, F.f4, F.f5, F.f6, F.f7, F.f8, F.f9, F.f10, F.f11, F.f12, F.f13, F.f14, F.f15, F.f16, F.f17, F.f18, F.f19, F.f20, F.f21, F.f22, F.st0, F.st1, F.st2⟩
      clear F
      go_simp
      exact HK.out _ _ ⟨_, _, _, _, _, _, _, _, _, _, _, _, _, _, _, _, _, _, _, _, _, _, _, _, _, rfl, HF.out⟩
    · have HF : Hid (std15fF b3 b4 b7 b9 b11 ahi alo blo mlo mhi tb S0 S1 S2 (upd d_ 3) x151 x152 x153 (.pointer (some ⟨b9, 0, none⟩)) x155 x156 x157 x158 x159 x160 x161 x162 x163 x164 x165 x166 x167 x168 x169 x170 x171 x172 x6 u u2 w1) := ⟨F.q2, fun h => rfl, F.q6, F.q7, F.q8, F.q9, F.q11, F.q12, F.q13, F.q14, F.q15, F.q16, F.q17, F.q18, F.q19, F.q20, F.q21, fun h => andM3 (F.q22 h) rfl, F.f0, F.f1, F.f2, fun _ => rfl, F.f4, F.f5, F.f6, F.f7, F.f8, F.f9, F.f10, F.f11, F.f12, F.f13, F.f14, F.f15, F.f16, F.f17, F.f18, F.f19, F.f20, F.f21, F.f22, F.st0, F.st1, F.st2⟩
      clear F
      go_simp
      exact HK.out _ _ ⟨_, _, _, _, _, _, _, _, _, _, _, _, _, _, _, _, _, _, _, _, _, _, _, _, _, rfl, HF.out⟩
    · have hst : S0 w1 := by
        have n_ : d_ 9 = false := by
          cases e_ : d_ 9 with
          | false => rfl
          | true => have h2 := (F.q7 (F.q8 (F.q9 e_).2).2).1; rw [show d_ 4 = false from hd_] at h2; cases h2
        exact (F.st0 n_)
      have kk := kl4.out w1 hst
      clear hst
      obtain rfl := F.f3 (by simp [hdep])
      have HF : Hid (std15fF b3 b4 b7 b9 b11 ahi alo blo mlo mhi tb S0 S1 S2 (upd d_ 4) x151 x152 x153 (.pointer (some ⟨b9, 0, none⟩)) (.int .i64 alo) x156 x157 x158 x159 x160 x161 x162 x163 x164 x165 x166 x167 x168 x169 x170 x171 x172 x6 u u2 w1) := ⟨F.q2, fun _ => (show _ from (by simp [hdep] : d_ 3 = true)), F.q6, fun h => andM0 (F.q7 h) rfl, F.q8, F.q9, F.q11, F.q12, F.q13, F.q14, F.q15, F.q16, F.q17, F.q18, F.q19, F.q20, F.q21, fun h => andM4 (F.q22 h) rfl, F.f0, F.f1, F.f2, F.f3, fun _ => rfl, F.f5, F.f6, F.f7, F.f8, F.f9, F.f10, F.f11, F.f12, F.f13, F.f14, F.f15, F.f16, F.f17, F.f18, F.f19, F.f20, F.f21, F.f22, F.st0, F.st1, F.st2⟩
      clear F
      go_simp
      exact HK.out _ _ ⟨_, _, _, _, _, _, _, _, _, _, _, _, _, _, _, _, _, _, _, _, _, _, _, _, _, rfl, HF.out⟩
    · have HF : Hid (std15fF b3 b4 b7 b9 b11 ahi alo blo mlo mhi tb S0 S1 S2 (upd d_ 5) x151 x152 x153 x154 x155 (.pointer (some ⟨b11, 0, none⟩)) x157 x158 x159 x160 x161 x162 x163 x164 x165 x166 x167 x168 x169 x170 x171 x172 x6 u u2 w1) := ⟨F.q2, F.q4, fun h => rfl, F.q7, F.q8, F.q9, F.q11, F.q12, F.q13, F.q14, F.q15, F.q16, F.q17, F.q18, F.q19, F.q20, F.q21, fun h => andM5 (F.q22 h) rfl, F.f0, F.f1, F.f2, F.f3, F.f4, fun _ => rfl, F.f6, F.f7, F.f8, F.f9, F.f10, F.f11, F.f12, F.f13, F.f14, F.f15, F.f16, F.f17, F.f18, F.f19, F.f20, F.f21, F.f22, F.st0, F.st1, F.st2⟩
      clear F
      go_simp
      exact HK.out _ _ ⟨_, _, _, _, _, _, _, _, _, _, _, _, _, _, _, _, _, _, _, _, _, _, _, _, _, rfl, HF.out⟩
    · have hst : S0 w1 := by
        have n_ : d_ 9 = false := by
          cases e_ : d_ 9 with
          | false => rfl
          | true => have h2 := (F.q7 (F.q8 (F.q9 e_).2).2).2; rw [show d_ 6 = false from hd_] at h2; cases h2
        exact (F.st0 n_)
      have kk := kl6.out w1 hst
      clear hst
      obtain rfl := F.f5 (by simp [hdep])
      have HF : Hid (std15fF b3 b4 b7 b9 b11 ahi alo blo mlo mhi tb S0 S1 S2 (upd d_ 6) x151 x152 x153 x154 x155 (.pointer (some ⟨b11, 0, none⟩)) (.int .i64 blo) x158 x159 x160 x161 x162 x163 x164 x165 x166 x167 x168 x169 x170 x171 x172 x6 u u2 w1) := ⟨F.q2, F.q4, fun _ => (show _ from (by simp [hdep] : d_ 5 = true)), fun h => andL1 (F.q7 h) rfl, F.q8, F.q9, F.q11, F.q12, F.q13, F.q14, F.q15, F.q16, F.q17, F.q18, F.q19, F.q20, F.q21, fun h => andM6 (F.q22 h) rfl, F.f0, F.f1, F.f2, F.f3, F.f4, F.f5, fun _ => rfl, F.f7, F.f8, F.f9, F.f10, F.f11, F.f12, F.f13, F.f14, F.f15, F.f16, F.f17, F.f18, F.f19, F.f20, F.f21, F.f22, F.st0, F.st1, F.st2⟩
      clear F
      go_simp
      exact HK.out _ _ ⟨_, _, _, _, _, _, _, _, _, _, _, _, _, _, _, _, _, _, _, _, _, _, _, _, _, rfl, HF.out⟩
    · obtain rfl := F.f4 (by simp [hdep])
      obtain rfl := F.f6 (by simp [hdep])
      have HF : Hid (std15fF b3 b4 b7 b9 b11 ahi alo blo mlo mhi tb S0 S1 S2 (upd d_ 7) x151 x152 x153 x154 (.int .i64 alo) x156 (.int .i64 blo) (.int .i64 (max alo blo)) x159 x160 x161 x162 x163 x164 x165 x166 x167 x168 x169 x170 x171 x172 x6 u u2 w1) := ⟨F.q2, F.q4, F.q6, fun _ => ⟨(show _ from (by simp [hdep] : d_ 4 = true)), (show _ from (by simp [hdep] : d_ 6 = true))⟩, fun h => andL1 (F.q8 h) rfl, F.q9, F.q11, F.q12, F.q13, F.q14, F.q15, F.q16, F.q17, F.q18, F.q19, F.q20, F.q21, fun h => andM7 (F.q22 h) rfl, F.f0, F.f1, F.f2, F.f3, F.f4, F.f5, F.f6, fun _ => rfl, F.f8, F.f9, F.f10, F.f11, F.f12, F.f13, F.f14, F.f15, F.f16, F.f17, F.f18, F.f19, F.f20, F.f21, F.f22, F.st0, F.st1, F.st2⟩
      clear F
      go_simp
      exact HK.out _ _ ⟨_, _, _, _, _, _, _, _, _, _, _, _, _, _, _, _, _, _, _, _, _, _, _, _, _, rfl, HF.out⟩
    · obtain rfl := F.f2 (by simp [hdep])
      obtain rfl := F.f7 (by simp [hdep])
      have HF : Hid (std15fF b3 b4 b7 b9 b11 ahi alo blo mlo mhi tb S0 S1 S2 (upd d_ 8) x151 x152 (.int .i64 ahi) x154 x155 x156 x157 (.int .i64 (max alo blo)) (.int .i64 (min ahi (max alo blo))) x160 x161 x162 x163 x164 x165 x166 x167 x168 x169 x170 x171 x172 x6 u u2 w1) := ⟨F.q2, F.q4, F.q6, F.q7, fun _ => ⟨(show _ from (by simp [hdep] : d_ 2 = true)), (show _ from (by simp [hdep] : d_ 7 = true))⟩, fun h => andL1 (F.q9 h) rfl, F.q11, F.q12, F.q13, F.q14, F.q15, F.q16, F.q17, F.q18, F.q19, F.q20, F.q21, fun h => andM8 (F.q22 h) rfl, F.f0, F.f1, F.f2, F.f3, F.f4, F.f5, F.f6, F.f7, fun _ => rfl, F.f9, F.f10, F.f11, F.f12, F.f13, F.f14, F.f15, F.f16, F.f17, F.f18, F.f19, F.f20, F.f21, F.f22, F.st0, F.st1, F.st2⟩
      clear F
      go_simp
      exact HK.out _ _ ⟨_, _, _, _, _, _, _, _, _, _, _, _, _, _, _, _, _, _, _, _, _, _, _, _, _, rfl, HF.out⟩
    · have hS := F.st0  hd_
      obtain rfl := F.f0 (by simp [hdep])
      obtain rfl := F.f8 (by simp [hdep])
      have hc := kc9.out w1 hS
      have HF := Lib.hid F
      clear F
      have cf := cf8
      go_simp
      refine ⟨trivial, rfl, wideAt_calls (hc.mono ?_)⟩
      rintro e w5 ⟨v_, rfl, hres⟩
      exact HK.out _ _ ⟨_, _, _, _, _, _, _, _, _, _, _, _, _, _, _, _, _, _, _, _, _, _, _, v_, u2, rfl, ⟨HF.out.q2, HF.out.q4, HF.out.q6, HF.out.q7, HF.out.q8, fun _ => ⟨(show _ from (by simp [hdep] : d_ 0 = true)), (show _ from (by simp [hdep] : d_ 8 = true))⟩, HF.out.q11, HF.out.q12, fun h => ⟨rfl, (HF.out.q13 h).2⟩, HF.out.q14, HF.out.q15, HF.out.q16, HF.out.q17, fun h => ⟨rfl, (HF.out.q18 h).2⟩, HF.out.q19, HF.out.q20, HF.out.q21, fun h => ⟨(HF.out.q22 h).1, (HF.out.q22 h).2.1, (HF.out.q22 h).2.2.1, (HF.out.q22 h).2.2.2.1, (HF.out.q22 h).2.2.2.2.1, (HF.out.q22 h).2.2.2.2.2.1, (HF.out.q22 h).2.2.2.2.2.2.1, (HF.out.q22 h).2.2.2.2.2.2.2.1, (HF.out.q22 h).2.2.2.2.2.2.2.2.1, rfl, (HF.out.q22 h).2.2.2.2.2.2.2.2.2.2.1, (HF.out.q22 h).2.2.2.2.2.2.2.2.2.2.2.1, (HF.out.q22 h).2.2.2.2.2.2.2.2.2.2.2.2.1, (HF.out.q22 h).2.2.2.2.2.2.2.2.2.2.2.2.2.1, (HF.out.q22 h).2.2.2.2.2.2.2.2.2.2.2.2.2.2.1, (HF.out.q22 h).2.2.2.2.2.2.2.2.2.2.2.2.2.2.2.1, (HF.out.q22 h).2.2.2.2.2.2.2.2.2.2.2.2.2.2.2.2.1, (HF.out.q22 h).2.2.2.2.2.2.2.2.2.2.2.2.2.2.2.2.2.1, (HF.out.q22 h).2.2.2.2.2.2.2.2.2.2.2.2.2.2.2.2.2.2.1, (HF.out.q22 h).2.2.2.2.2.2.2.2.2.2.2.2.2.2.2.2.2.2.2.1, (HF.out.q22 h).2.2.2.2.2.2.2.2.2.2.2.2.2.2.2.2.2.2.2.2.1, (HF.out.q22 h).2.2.2.2.2.2.2.2.2.2.2.2.2.2.2.2.2.2.2.2.2⟩, HF.out.f0, HF.out.f1, HF.out.f2, HF.out.f3, HF.out.f4, HF.out.f5, HF.out.f6, HF.out.f7, HF.out.f8, fun _ => rfl, HF.out.f10, HF.out.f11, HF.out.f12, HF.out.f13, HF.out.f14, HF.out.f15, HF.out.f16, HF.out.f17, HF.out.f18, HF.out.f19, HF.out.f20, HF.out.f21, HF.out.f22, fun h => (by simp [upd] at h), fun _ _ => hres, fun h => (by have h2 : d_ 9 = true := (HF.out.q13 (HF.out.q19 (HF.out.q20 h)).1).1; rw [show d_ 9 = false from hd_] at h2; cases h2)⟩⟩
    · have HF : Hid (std15fF b3 b4 b7 b9 b11 ahi alo blo mlo mhi tb S0 S1 S2 (upd d_ 10) x151 x152 x153 x154 x155 x156 x157 x158 x159 x160 (.pointer (some ⟨b7, 0, none⟩)) x162 x163 x164 x165 x166 x167 x168 x169 x170 x171 x172 x6 u u2 w1) := ⟨F.q2, F.q4, F.q6, F.q7, F.q8, F.q9, fun h => rfl, F.q12, F.q13, F.q14, F.q15, F.q16, F.q17, F.q18, F.q19, F.q20, F.q21, fun h => andM10 (F.q22 h) rfl, F.f0, F.f1, F.f2, F.f3, F.f4, F.f5, F.f6, F.f7, F.f8, F.f9, fun _ => rfl, F.f11, F.f12, F.f13, F.f14, F.f15, F.f16, F.f17, F.f18, F.f19, F.f20, F.f21, F.f22, F.st0, F.st1, F.st2⟩
      clear F
      go_simp
      exact HK.out _ _ ⟨_, _, _, _, _, _, _, _, _, _, _, _, _, _, _, _, _, _, _, _, _, _, _, _, _, rfl, HF.out⟩
    · have hst : S0 w1 ∨ S1 u w1 := by
        cases e1 : d_ 9 with
        | false => exact .inl ((F.st0 e1))
        | true =>
          have n_ : d_ 20 = false := by
            cases e_ : d_ 20 with
            | false => rfl
            | true => have h2 := (F.q12 (F.q13 (F.q19 (F.q20 e_)).1).2); rw [show d_ 11 = false from hd_] at h2; cases h2
          exact .inr ((F.st1 e1 n_))
      have kk := kl11.out u w1 hst
      clear hst
      obtain rfl := F.f10 (by simp [hdep])
      have HF : Hid (std15fF b3 b4 b7 b9 b11 ahi alo blo mlo mhi tb S0 S1 S2 (upd d_ 11) x151 x152 x153 x154 x155 x156 x157 x158 x159 x160 (.pointer (some ⟨b7, 0, none⟩)) (.int .i64 mlo) x163 x164 x165 x166 x167 x168 x169 x170 x171 x172 x6 u u2 w1) := ⟨F.q2, F.q4, F.q6, F.q7, F.q8, F.q9, fun _ => (show _ from (by simp [hdep] : d_ 10 = true)), fun h => rfl, F.q13, F.q14, F.q15, F.q16, F.q17, F.q18, F.q19, F.q20, F.q21, fun h => andM11 (F.q22 h) rfl, F.f0, F.f1, F.f2, F.f3, F.f4, F.f5, F.f6, F.f7, F.f8, F.f9, F.f10, fun _ => rfl, F.f12, F.f13, F.f14, F.f15, F.f16, F.f17, F.f18, F.f19, F.f20, F.f21, F.f22, F.st0, F.st1, F.st2⟩
      clear F
      go_simp
      exact HK.out _ _ ⟨_, _, _, _, _, _, _, _, _, _, _, _, _, _, _, _, _, _, _, _, _, _, _, _, _, rfl, HF.out⟩
    · obtain rfl := F.f11 (by simp [hdep])
      have HF : Hid (std15fF b3 b4 b7 b9 b11 ahi alo blo mlo mhi tb S0 S1 S2 (upd d_ 12) x151 x152 x153 x154 x155 x156 x157 x158 x159 x160 x161 (.int .i64 mlo) (.bool false) x164 x165 x166 x167 x168 x169 x170 x171 x172 x6 u u2 w1) := ⟨F.q2, F.q4, F.q6, F.q7, F.q8, F.q9, F.q11, fun _ => (show _ from (by simp [hdep] : d_ 11 = true)), fun h => andL1 (F.q13 h) rfl, F.q14, F.q15, F.q16, F.q17, F.q18, F.q19, F.q20, F.q21, fun h => andM12 (F.q22 h) rfl, F.f0, F.f1, F.f2, F.f3, F.f4, F.f5, F.f6, F.f7, F.f8, F.f9, F.f10, F.f11, fun _ => rfl, F.f13, F.f14, F.f15, F.f16, F.f17, F.f18, F.f19, F.f20, F.f21, F.f22, F.st0, F.st1, F.st2⟩
      clear F
      go_simp
      exact HK.out _ _ ⟨_, _, _, _, _, _, _, _, _, _, _, _, _, _, _, _, _, _, _, _, _, _, _, _, _, rfl, HF.out⟩
    · obtain rfl := F.f12 (by simp [hdep])
      have HF : Hid (std15fF b3 b4 b7 b9 b11 ahi alo blo mlo mhi tb S0 S1 S2 (upd d_ 13) x151 x152 x153 x154 x155 x156 x157 x158 x159 x160 x161 x162 (.bool false) (.bool false) x165 x166 x167 x168 x169 x170 x171 x172 x6 u u2 w1) := ⟨F.q2, F.q4, F.q6, F.q7, F.q8, F.q9, F.q11, F.q12, fun _ => ⟨(show _ from (by simp [hdep] : d_ 9 = true)), (show _ from (by simp [hdep] : d_ 12 = true))⟩, fun h => rfl, fun h => andM0 (F.q15 h) rfl, fun h => andM0 (F.q16 h) rfl, fun h => andM0 (F.q17 h) rfl, F.q18, fun h => andM0 (F.q19 h) rfl, F.q20, F.q21, fun h => andM13 (F.q22 h) rfl, F.f0, F.f1, F.f2, F.f3, F.f4, F.f5, F.f6, F.f7, F.f8, F.f9, F.f10, F.f11, F.f12, fun _ => rfl, F.f14, F.f15, F.f16, F.f17, F.f18, F.f19, F.f20, F.f21, F.f22, F.st0, F.st1, F.st2⟩
      clear F
      go_simp
      exact HK.out _ _ ⟨_, _, _, _, _, _, _, _, _, _, _, _, _, _, _, _, _, _, _, _, _, _, _, _, _, rfl, HF.out⟩
    · obtain rfl := F.f13 (by simp [hdep])
      have HF : Hid (std15fF b3 b4 b7 b9 b11 ahi alo blo mlo mhi tb S0 S1 S2 (upd d_ 14) x151 x152 x153 x154 x155 x156 x157 x158 x159 x160 x161 x162 x163 (.bool false) (undef) x166 x167 x168 x169 x170 x171 x172 x6 u u2 w1) := ⟨F.q2, F.q4, F.q6, F.q7, F.q8, F.q9, F.q11, F.q12, F.q13, fun _ => (show _ from (by simp [hdep] : d_ 13 = true)), fun h => andL1 (F.q15 h) rfl, F.q16, F.q17, F.q18, F.q19, F.q20, F.q21, fun h => andM14 (F.q22 h) rfl, F.f0, F.f1, F.f2, F.f3, F.f4, F.f5, F.f6, F.f7, F.f8, F.f9, F.f10, F.f11, F.f12, F.f13, fun _ => rfl, F.f15, F.f16, F.f17, F.f18, F.f19, F.f20, F.f21, F.f22, F.st0, F.st1, F.st2⟩
      clear F
      go_simp
      exact HK.out _ _ ⟨_, _, _, _, _, _, _, _, _, _, _, _, _, _, _, _, _, _, _, _, _, _, _, _, _, rfl, HF.out⟩
    · obtain rfl := F.f13 (by simp [hdep])
      obtain rfl := F.f14 (by simp [hdep])
      have HF : Hid (std15fF b3 b4 b7 b9 b11 ahi alo blo mlo mhi tb S0 S1 S2 (upd d_ 15) x151 x152 x153 x154 x155 x156 x157 x158 x159 x160 x161 x162 x163 (.bool false) (undef) (undef) x167 x168 x169 x170 x171 x172 x6 u u2 w1) := ⟨F.q2, F.q4, F.q6, F.q7, F.q8, F.q9, F.q11, F.q12, F.q13, F.q14, fun _ => ⟨(show _ from (by simp [hdep] : d_ 13 = true)), (show _ from (by simp [hdep] : d_ 14 = true))⟩, fun h => andL1 (F.q16 h) rfl, F.q17, F.q18, F.q19, F.q20, F.q21, fun h => andM15 (F.q22 h) rfl, F.f0, F.f1, F.f2, F.f3, F.f4, F.f5, F.f6, F.f7, F.f8, F.f9, F.f10, F.f11, F.f12, F.f13, F.f14, fun _ => rfl, F.f16, F.f17, F.f18, F.f19, F.f20, F.f21, F.f22, F.st0, F.st1, F.st2⟩
      clear F
      go_simp
      exact HK.out _ _ ⟨_, _, _, _, _, _, _, _, _, _, _, _, _, _, _, _, _, _, _, _, _, _, _, _, _, rfl, HF.out⟩
    · obtain rfl := F.f13 (by simp [hdep])
      obtain rfl := F.f15 (by simp [hdep])
      have HF : Hid (std15fF b3 b4 b7 b9 b11 ahi alo blo mlo mhi tb S0 S1 S2 (upd d_ 16) x151 x152 x153 x154 x155 x156 x157 x158 x159 x160 x161 x162 x163 (.bool false) x165 (undef) (undef) x168 x169 x170 x171 x172 x6 u u2 w1) := ⟨F.q2, F.q4, F.q6, F.q7, F.q8, F.q9, F.q11, F.q12, F.q13, F.q14, F.q15, fun _ => ⟨(show _ from (by simp [hdep] : d_ 13 = true)), (show _ from (by simp [hdep] : d_ 15 = true))⟩, fun h => andL1 (F.q17 h) rfl, F.q18, F.q19, F.q20, F.q21, fun h => andM16 (F.q22 h) rfl, F.f0, F.f1, F.f2, F.f3, F.f4, F.f5, F.f6, F.f7, F.f8, F.f9, F.f10, F.f11, F.f12, F.f13, F.f14, F.f15, fun _ => rfl, F.f17, F.f18, F.f19, F.f20, F.f21, F.f22, F.st0, F.st1, F.st2⟩
      clear F
      go_simp
      exact HK.out _ _ ⟨_, _, _, _, _, _, _, _, _, _, _, _, _, _, _, _, _, _, _, _, _, _, _, _, _, rfl, HF.out⟩
    · obtain rfl := F.f13 (by simp [hdep])
      obtain rfl := F.f16 (by simp [hdep])
      have HF : Hid (std15fF b3 b4 b7 b9 b11 ahi alo blo mlo mhi tb S0 S1 S2 (upd d_ 17) x151 x152 x153 x154 x155 x156 x157 x158 x159 x160 x161 x162 x163 (.bool false) x165 x166 (undef) (.bool false) x169 x170 x171 x172 x6 u u2 w1) := ⟨F.q2, F.q4, F.q6, F.q7, F.q8, F.q9, F.q11, F.q12, F.q13, F.q14, F.q15, F.q16, fun _ => ⟨(show _ from (by simp [hdep] : d_ 13 = true)), (show _ from (by simp [hdep] : d_ 16 = true))⟩, fun h => andL1 (F.q18 h) rfl, F.q19, F.q20, F.q21, fun h => andM17 (F.q22 h) rfl, F.f0, F.f1, F.f2, F.f3, F.f4, F.f5, F.f6, F.f7, F.f8, F.f9, F.f10, F.f11, F.f12, F.f13, F.f14, F.f15, F.f16, fun _ => rfl, F.f18, F.f19, F.f20, F.f21, F.f22, F.st0, F.st1, F.st2⟩
      clear F
      go_simp
      exact HK.out _ _ ⟨_, _, _, _, _, _, _, _, _, _, _, _, _, _, _, _, _, _, _, _, _, _, _, _, _, rfl, HF.out⟩
    · obtain rfl := F.f9 (by simp [hdep])
      obtain rfl := F.f17 (by simp [hdep])
      have HF : Hid (std15fF b3 b4 b7 b9 b11 ahi alo blo mlo mhi tb S0 S1 S2 (upd d_ 18) x151 x152 x153 x154 x155 x156 x157 x158 x159 (.bool false) x161 x162 x163 x164 x165 x166 x167 (.bool false) (.bool true) x170 x171 x172 x6 u u2 w1) := ⟨F.q2, F.q4, F.q6, F.q7, F.q8, F.q9, F.q11, F.q12, F.q13, F.q14, F.q15, F.q16, F.q17, fun _ => ⟨(show _ from (by simp [hdep] : d_ 9 = true)), (show _ from (by simp [hdep] : d_ 17 = true))⟩, fun h => andL1 (F.q19 h) rfl, F.q20, F.q21, fun h => andM18 (F.q22 h) rfl, F.f0, F.f1, F.f2, F.f3, F.f4, F.f5, F.f6, F.f7, F.f8, F.f9, F.f10, F.f11, F.f12, F.f13, F.f14, F.f15, F.f16, F.f17, fun _ => rfl, F.f19, F.f20, F.f21, F.f22, F.st0, F.st1, F.st2⟩
      clear F
      go_simp
      exact HK.out _ _ ⟨_, _, _, _, _, _, _, _, _, _, _, _, _, _, _, _, _, _, _, _, _, _, _, _, _, rfl, HF.out⟩
    · obtain rfl := F.f18 (by simp [hdep])
      have HF : Hid (std15fF b3 b4 b7 b9 b11 ahi alo blo mlo mhi tb S0 S1 S2 (upd d_ 19) x151 x152 x153 x154 x155 x156 x157 x158 x159 x160 x161 x162 x163 x164 x165 x166 x167 x168 (.bool true) (.bool true) x171 x172 x6 u u2 w1) := ⟨F.q2, F.q4, F.q6, F.q7, F.q8, F.q9, F.q11, F.q12, F.q13, F.q14, F.q15, F.q16, F.q17, F.q18, fun _ => ⟨(show _ from (by simp [hdep] : d_ 13 = true)), (show _ from (by simp [hdep] : d_ 18 = true))⟩, fun h => rfl, fun h => andM0 (F.q21 h) rfl, fun h => andM19 (F.q22 h) rfl, F.f0, F.f1, F.f2, F.f3, F.f4, F.f5, F.f6, F.f7, F.f8, F.f9, F.f10, F.f11, F.f12, F.f13, F.f14, F.f15, F.f16, F.f17, F.f18, fun _ => rfl, F.f20, F.f21, F.f22, F.st0, F.st1, F.st2⟩
      clear F
      go_simp
      exact HK.out _ _ ⟨_, _, _, _, _, _, _, _, _, _, _, _, _, _, _, _, _, _, _, _, _, _, _, _, _, rfl, HF.out⟩
    · have hS := F.st1 (F.q13 (F.q19 (by simp [hdep] : d_ 19 = true)).1).1 hd_
      obtain rfl := F.f19 (by simp [hdep])
      have hc := kc20.out u w1 hS
      have HF := Lib.hid F
      clear F
      go_simp
      refine ⟨trivial, rfl, wideAt_calls (hc.mono ?_)⟩
      rintro e w5 ⟨v_, rfl, hres⟩
      exact HK.out _ _ ⟨_, _, _, _, _, _, _, _, _, _, _, _, _, _, _, _, _, _, _, _, _, _, _, u, v_, rfl, ⟨HF.out.q2, HF.out.q4, HF.out.q6, HF.out.q7, HF.out.q8, HF.out.q9, HF.out.q11, HF.out.q12, HF.out.q13, HF.out.q14, HF.out.q15, HF.out.q16, HF.out.q17, HF.out.q18, HF.out.q19, fun _ => (show _ from (by simp [hdep] : d_ 19 = true)), fun h => ⟨(HF.out.q21 h).1, rfl⟩, fun h => ⟨(HF.out.q22 h).1, (HF.out.q22 h).2.1, (HF.out.q22 h).2.2.1, (HF.out.q22 h).2.2.2.1, (HF.out.q22 h).2.2.2.2.1, (HF.out.q22 h).2.2.2.2.2.1, (HF.out.q22 h).2.2.2.2.2.2.1, (HF.out.q22 h).2.2.2.2.2.2.2.1, (HF.out.q22 h).2.2.2.2.2.2.2.2.1, (HF.out.q22 h).2.2.2.2.2.2.2.2.2.1, (HF.out.q22 h).2.2.2.2.2.2.2.2.2.2.1, (HF.out.q22 h).2.2.2.2.2.2.2.2.2.2.2.1, (HF.out.q22 h).2.2.2.2.2.2.2.2.2.2.2.2.1, (HF.out.q22 h).2.2.2.2.2.2.2.2.2.2.2.2.2.1, (HF.out.q22 h).2.2.2.2.2.2.2.2.2.2.2.2.2.2.1, (HF.out.q22 h).2.2.2.2.2.2.2.2.2.2.2.2.2.2.2.1, (HF.out.q22 h).2.2.2.2.2.2.2.2.2.2.2.2.2.2.2.2.1, (HF.out.q22 h).2.2.2.2.2.2.2.2.2.2.2.2.2.2.2.2.2.1, (HF.out.q22 h).2.2.2.2.2.2.2.2.2.2.2.2.2.2.2.2.2.2.1, (HF.out.q22 h).2.2.2.2.2.2.2.2.2.2.2.2.2.2.2.2.2.2.2.1, rfl, (HF.out.q22 h).2.2.2.2.2.2.2.2.2.2.2.2.2.2.2.2.2.2.2.2.2⟩, HF.out.f0, HF.out.f1, HF.out.f2, HF.out.f3, HF.out.f4, HF.out.f5, HF.out.f6, HF.out.f7, HF.out.f8, HF.out.f9, HF.out.f10, HF.out.f11, HF.out.f12, HF.out.f13, HF.out.f14, HF.out.f15, HF.out.f16, HF.out.f17, HF.out.f18, HF.out.f19, fun _ => rfl, HF.out.f21, HF.out.f22, fun h => (by have h2 : d_ 9 = false := h; rw [(HF.out.q13 (HF.out.q19 (by simp [hdep] : d_ 19 = true)).1).1] at h2; cases h2), fun _ h => (by simp [upd] at h), fun _ => hres⟩⟩
    · obtain rfl := F.f19 (by simp [hdep])
      obtain rfl := F.f20 (by simp [hdep])
      have HF : Hid (std15fF b3 b4 b7 b9 b11 ahi alo blo mlo mhi tb S0 S1 S2 (upd d_ 21) x151 x152 x153 x154 x155 x156 x157 x158 x159 x160 x161 x162 x163 x164 x165 x166 x167 x168 x169 (.bool true) (.bool true) (.bool true) x6 u u2 w1) := ⟨F.q2, F.q4, F.q6, F.q7, F.q8, F.q9, F.q11, F.q12, F.q13, F.q14, F.q15, F.q16, F.q17, F.q18, F.q19, F.q20, fun _ => ⟨(show _ from (by simp [hdep] : d_ 19 = true)), (show _ from (by simp [hdep] : d_ 20 = true))⟩, fun h => andL21 (F.q22 h) rfl, F.f0, F.f1, F.f2, F.f3, F.f4, F.f5, F.f6, F.f7, F.f8, F.f9, F.f10, F.f11, F.f12, F.f13, F.f14, F.f15, F.f16, F.f17, F.f18, F.f19, F.f20, fun _ => rfl, F.f22, F.st0, F.st1, F.st2⟩
      clear F
      go_simp
      exact HK.out _ _ ⟨_, _, _, _, _, _, _, _, _, _, _, _, _, _, _, _, _, _, _, _, _, _, _, _, _, rfl, HF.out⟩
    · obtain rfl := F.f21 (by simp [hdep])
      have HF : Hid (std15fF b3 b4 b7 b9 b11 ahi alo blo mlo mhi tb S0 S1 S2 (upd d_ 22) x151 x152 x153 x154 x155 x156 x157 x158 x159 x160 x161 x162 x163 x164 x165 x166 x167 x168 x169 x170 x171 (.bool true) (.bool true) u u2 w1) := ⟨F.q2, F.q4, F.q6, F.q7, F.q8, F.q9, F.q11, F.q12, F.q13, F.q14, F.q15, F.q16, F.q17, F.q18, F.q19, F.q20, F.q21, fun _ => ⟨(show _ from (by simp [hdep] : d_ 0 = true)), (show _ from (by simp [hdep] : d_ 1 = true)), (show _ from (by simp [hdep] : d_ 2 = true)), (show _ from (by simp [hdep] : d_ 3 = true)), (show _ from (by simp [hdep] : d_ 4 = true)), (show _ from (by simp [hdep] : d_ 5 = true)), (show _ from (by simp [hdep] : d_ 6 = true)), (show _ from (by simp [hdep] : d_ 7 = true)), (show _ from (by simp [hdep] : d_ 8 = true)), (show _ from (by simp [hdep] : d_ 9 = true)), (show _ from (by simp [hdep] : d_ 10 = true)), (show _ from (by simp [hdep] : d_ 11 = true)), (show _ from (by simp [hdep] : d_ 12 = true)), (show _ from (by simp [hdep] : d_ 13 = true)), (show _ from (by simp [hdep] : d_ 14 = true)), (show _ from (by simp [hdep] : d_ 15 = true)), (show _ from (by simp [hdep] : d_ 16 = true)), (show _ from (by simp [hdep] : d_ 17 = true)), (show _ from (by simp [hdep] : d_ 18 = true)), (show _ from (by simp [hdep] : d_ 19 = true)), (show _ from (by simp [hdep] : d_ 20 = true)), (show _ from (by simp [hdep] : d_ 21 = true))⟩, F.f0, F.f1, F.f2, F.f3, F.f4, F.f5, F.f6, F.f7, F.f8, F.f9, F.f10, F.f11, F.f12, F.f13, F.f14, F.f15, F.f16, F.f17, F.f18, F.f19, F.f20, F.f21, fun _ => rfl, F.st0, F.st1, F.st2⟩
      clear F
      go_simp
      exact HK.out _ _ ⟨_, _, _, _, _, _, _, _, _, _, _, _, _, _, _, _, _, _, _, _, _, _, _, _, _, rfl, HF.out⟩
  · rintro d_ a_ w1 hall ⟨x151, x152, x153, x154, x155, x156, x157, x158, x159, x160, x161, x162, x163, x164, x165, x166, x167, x168, x169, x170, x171, x172, x6, u, u2, rfl, F⟩
    have hall' : ∀ k, k < 23 → d_ k = true := hall
    obtain rfl := F.f0 (hall' 0 (by decide))
    obtain rfl := F.f1 (hall' 1 (by decide))
    obtain rfl := F.f2 (hall' 2 (by decide))
    obtain rfl := F.f3 (hall' 3 (by decide))
    obtain rfl := F.f4 (hall' 4 (by decide))
    obtain rfl := F.f5 (hall' 5 (by decide))
    obtain rfl := F.f6 (hall' 6 (by decide))
    obtain rfl := F.f7 (hall' 7 (by decide))
    obtain rfl := F.f8 (hall' 8 (by decide))
    obtain rfl := F.f9 (hall' 9 (by decide))
    obtain rfl := F.f10 (hall' 10 (by decide))
    obtain rfl := F.f11 (hall' 11 (by decide))
    obtain rfl := F.f12 (hall' 12 (by decide))
    obtain rfl := F.f13 (hall' 13 (by decide))
    obtain rfl := F.f14 (hall' 14 (by decide))
    obtain rfl := F.f15 (hall' 15 (by decide))
    obtain rfl := F.f16 (hall' 16 (by decide))
    obtain rfl := F.f17 (hall' 17 (by decide))
    obtain rfl := F.f18 (hall' 18 (by decide))
    obtain rfl := F.f19 (hall' 19 (by decide))
    obtain rfl := F.f20 (hall' 20 (by decide))
    obtain rfl := F.f21 (hall' 21 (by decide))
    obtain rfl := F.f22 (hall' 22 (by decide))
    have hst := F.st2 (hall' 20 (by decide))
    exact HQ.out u u2 w1 hst
end Go.Proofs.Ytbnhngfegnhaiaa
namespace Go.Proofs.Ytbnhngfegnhaiaa
open Go.RowKit
set_option linter.unusedVariables false
set_option linter.unusedSimpArgs false
/-- What holds behind the distances. -/
structure StW (w0 : World) (g : Gla) (a1 : Option Addr) (c1 : Nat) (a2 : Option Addr) (c2 k b3 b4 : Nat) (w : World) : Prop where
  below : Below b3 w0 w
  lt : b3 < w.heap.size
  hg : w.heap[b3]? = some (.cells (g.arr a1 c1 a2 c2) 28 (0, 0))
  hk : w.heap[b4]? = some (.cells #[.int .i64 k] 3 (0, 0))
  h1 : IsThs w a1 g.first.things
  h2 : IsThs w a2 g.second.things
theorem StW.next {w0 : World} {g : Gla} {a1 : Option Addr} {c1 : Nat} {a2 : Option Addr} {c2 k b3 b4 : Nat} {w w' : World} (h : StW w0 g a1 c1 a2 c2 k b3 b4 w) (hb : Below w.heap.size w w') : StW w0 g a1 c1 a2 c2 k b3 b4 w' :=
  ⟨h.below.trans (hb.mono (Nat.le_of_lt h.lt)), Nat.lt_of_lt_of_le h.lt hb.size, (hb.block _ h.lt).trans h.hg, (hb.block _ (heap_lt h.hk)).trans h.hk, h.h1.mono hb, h.h2.mono hb⟩
theorem heap_next {w w' : World} {b : Nat} {c : Array Value} {t : TypeId} {f : Nat × Nat} (h : w.heap[b]? = some (.cells c t f)) (hb : Below w.heap.size w w') : w'.heap[b]? = some (.cells c t f) := (hb.block _ (heap_lt h)).trans h
attribute [local go_sem] Oper.semAt_some
noncomputable def stood10C : Code := (Try.f3.body.bind (fromRegion 10)).getD .skip
noncomputable def stood15C : Code := (Try.f3.body.bind (fromRegion 15)).getD .skip
set_option maxRecDepth 100000 in
set_option maxHeartbeats 8000000 in
theorem stood15 {w0 : World} {g : Gla} {a1 a2 : Option Addr} {c1 c2 k b3 b4 b7 b9 b11 : Nat} {m a b : Spn} {w : World} (hW : StW w0 g a1 c1 a2 c2 k b3 b4 w) (h7 : w.heap[b7]? = some (.cells m.arr 23 (0, 0))) (h9 : w.heap[b9]? = some (.cells a.arr 23 (0, 0))) (h11 : w.heap[b11]? = some (.cells b.arr 23 (0, 0)))
    (hS : StoodOk a b m (canP g.second k)) (hk : k < g.second.things.length) (hl : g.second.things.length ≤ 12) {s0 s1 s2 s5 s6 s8 s10 s12 s14 s15 s16 s17 s18 s19 s20 s21 s22 s23 s24 s25 s26 s27 s28 s29 s30 s31 s32 s33 s34 s35 s36 s37 s38 s39 s40 s41 s42 s43 s44 s45 s46 s47 s48 s49 s50 s51 s52 s53 s54 s55 s56 s57 s58 s59 s60 s61 s62 s63 s64 s65 s66 s67 s68 s69 s70 s71 s72 s73 s74 s75 s76 s77 s78 s79 s80 s81 s82 s83 s84 s85 s86 s87 s88 s89 s90 s91 s92 s93 s94 s95 s96 s97 s98 s99 s100 s101 s102 s103 s104 s105 s106 s107 s108 s109 s110 s111 s112 s113 s114 s115 s116 s117 s118 s119 s120 s121 s122 s123 s124 s125 s126 s127 s128 s129 s130 s131 s132 s133 s134 s135 s136 s137 s138 s139 s140 s141 s142 s143 s144 s145 s146 s147 s148 s149 s150 s151 s152 s153 s154 s155 s156 s157 s158 s159 s160 s161 s162 s163 s164 s165 s166 s167 s168 s169 s170 s171 s172 : Value} :
    Code.wp Try.prog stood15C (bodyPost Try.prog Try.f3 (fun e w' => e = .returned (.bool true) ∧ Below b3 w0 w')) { tmps := #[s0, s1, s2, .pointer (some ⟨b3, 0, none⟩), .pointer (some ⟨b4, 0, none⟩), s5, s6, .pointer (some ⟨b7, 0, none⟩), s8, .pointer (some ⟨b9, 0, none⟩), s10, .pointer (some ⟨b11, 0, none⟩), s12, .func (.func 8) #[] #[.pointer (some ⟨b3, 0, none⟩), .pointer (some ⟨b4, 0, none⟩)], s14, s15, s16, s17, s18, s19, s20, s21, s22, s23, s24, s25, s26, s27, s28, s29, s30, s31, s32, s33, s34, s35, s36, s37, s38, s39, s40, s41, s42, s43, s44, s45, s46, s47, s48, s49, s50, s51, s52, s53, s54, s55, s56, s57, s58, s59, s60, s61, s62, s63, s64, s65, s66, s67, s68, s69, s70, s71, s72, s73, s74, s75, s76, s77, s78, s79, s80, s81, s82, s83, s84, s85, s86, s87, s88, s89, s90, s91, s92, s93, s94, s95, s96, s97, s98, s99, s100, s101, s102, s103, s104, s105, s106, s107, s108, s109, s110, s111, s112, s113, s114, s115, s116, s117, s118, s119, s120, s121, s122, s123, s124, s125, s126, s127, s128, s129, s130, s131, s132, s133, s134, s135, s136, s137, s138, s139, s140, s141, s142, s143, s144, s145, s146, s147, s148, s149, s150, s151, s152, s153, s154, s155, s156, s157, s158, s159, s160, s161, s162, s163, s164, s165, s166, s167, s168, s169, s170, s171, s172], defers := [] } w := by
  have HW := Lib.hid (And.intro hW (And.intro h7 (And.intro h9 h11)))
  have HS := Lib.hid (And.intro hS (And.intro hk hl))
  clear hW h7 h9 h11 hS hk hl
  conv => arg 2; whnf
  refine wp_seq_hid ?_
  intro K15 HK15
  by_cases hd : m.lo ≤ 0
  · have HD := Lib.hid (decide_eq_true hd)
    clear hd
    refine wpIn_wide.1 (std15t (b3 := b3) (b4 := b4) (b7 := b7) (b9 := b9) (b11 := b11) (ahi := a.hi) (alo := a.lo) (blo := b.lo) (mlo := m.lo) (mhi := m.hi) (tb := decide (0 ≤ m.hi)) (S0 := fun v => Below w.heap.size w v) (S1 := fun _ v => Below w.heap.size w v) (S2 := fun _ _ v => Below w.heap.size w v) HD.out rfl ?h0 ?l2 ?l4 ?l6 ?c9 ?l11 ?l15 ?c20 ?hQ)
    case h0 => exact (Below.refl _ _).drew
    case l2 => exact fun v h => by rw [cell_of_heap (heap_next HW.out.2.2.1 h)]; rfl
    case l4 => exact fun v h => by rw [cell_of_heap (heap_next HW.out.2.2.1 h)]; rfl
    case l6 => exact fun v h => by rw [cell_of_heap (heap_next HW.out.2.2.2 h)]; rfl
    case l11 => exact fun u v h => by rw [cell_of_heap (heap_next HW.out.2.1 (h.elim id id))]; rfl
    case l15 => exact fun u v h => by rw [cell_of_heap (heap_next HW.out.2.1 h)]; rfl
    case c9 =>
      intro v h
      have hv := HW.out.1.next h
      refine (can8 (z := min a.hi (max a.lo b.lo)) HS.out.2.1 HS.out.2.2 hv.h2 hv.hg hv.hk).mono ?_
      rintro e v' ⟨rfl, hb⟩
      exact ⟨(), by rw [HS.out.1.last]; rw [HD.out]; rfl, h.trans (hb.mono h.size)⟩
    case c20 =>
      intro u v h
      refine alive5.mono ?_
      rintro e v' ⟨rfl, hb⟩
      exact ⟨(), rfl, h.trans (hb.mono h.size)⟩
    case hQ =>
      intro u u2 v h
      refine HK15.out _ _ ?_
      go_wp2_with fail
      go_ret
      exact ⟨rfl, (HW.out.1.next h).below⟩
  · have HD := Lib.hid (decide_eq_false hd)
    clear hd
    refine wpIn_wide.1 (std15f (b3 := b3) (b4 := b4) (b7 := b7) (b9 := b9) (b11 := b11) (ahi := a.hi) (alo := a.lo) (blo := b.lo) (mlo := m.lo) (mhi := m.hi) (tb := decide (0 ≤ m.hi)) (S0 := fun v => Below w.heap.size w v) (S1 := fun _ v => Below w.heap.size w v) (S2 := fun _ _ v => Below w.heap.size w v) HD.out ?h0_b ?l2_b ?l4_b ?l6_b ?c9_b ?l11_b ?c20_b ?hQ_b)
    case h0_b => exact (Below.refl _ _).drew
    case l2_b => exact fun v h => by rw [cell_of_heap (heap_next HW.out.2.2.1 h)]; rfl
    case l4_b => exact fun v h => by rw [cell_of_heap (heap_next HW.out.2.2.1 h)]; rfl
    case l6_b => exact fun v h => by rw [cell_of_heap (heap_next HW.out.2.2.2 h)]; rfl
    case l11_b => exact fun u v h => by rw [cell_of_heap (heap_next HW.out.2.1 (h.elim id id))]; rfl
    case c9_b =>
      intro v h
      have hv := HW.out.1.next h
      refine (can8 (z := min a.hi (max a.lo b.lo)) HS.out.2.1 HS.out.2.2 hv.h2 hv.hg hv.hk).mono ?_
      rintro e v' ⟨rfl, hb⟩
      exact ⟨(), by rw [HS.out.1.last]; rw [HD.out]; rfl, h.trans (hb.mono h.size)⟩
    case c20_b =>
      intro u v h
      refine alive5.mono ?_
      rintro e v' ⟨rfl, hb⟩
      exact ⟨(), rfl, h.trans (hb.mono h.size)⟩
    case hQ_b =>
      intro u u2 v h
      refine HK15.out _ _ ?_
      go_wp2_with fail
      go_ret
      exact ⟨rfl, (HW.out.1.next h).below⟩
set_option maxRecDepth 100000 in
set_option maxHeartbeats 8000000 in
theorem stood_tail {w0 : World} {g : Gla} {a1 a2 : Option Addr} {c1 c2 k b3 b4 b7 b9 b11 : Nat} {m a b : Spn} {x : Int} {w : World} (hW : StW w0 g a1 c1 a2 c2 k b3 b4 w) (h7 : w.heap[b7]? = some (.cells m.arr 23 (0, 0))) (h9 : w.heap[b9]? = some (.cells a.arr 23 (0, 0))) (h11 : w.heap[b11]? = some (.cells b.arr 23 (0, 0)))
    (hS : StoodOk a b m (canP g.second k)) (hk : k < g.second.things.length) (hl : g.second.things.length ≤ 12) (hx : 0 ≤ x ∧ x ≤ 4294967295) {s0 s1 s5 s6 s8 s10 s12 s13 s14 s15 s16 s17 s18 s19 s20 s21 s22 s23 s24 s25 s26 s27 s28 s29 s30 s31 s32 s33 s34 s35 s36 s37 s38 s39 s40 s41 s42 s43 s44 s45 s46 s47 s48 s49 s50 s51 s52 s53 s54 s55 s56 s57 s58 s59 s60 s61 s62 s63 s64 s65 s66 s67 s68 s69 s70 s71 s72 s73 s74 s75 s76 s77 s78 s79 s80 s81 s82 s83 s84 s85 s86 s87 s88 s89 s90 s91 s92 s93 s94 s95 s96 s97 s98 s99 s100 s101 s102 s103 s104 s105 s106 s107 s108 s109 s110 s111 s112 s113 s114 s115 s116 s117 s118 s119 s120 s121 s122 s123 s124 s125 s126 s127 s128 s129 s130 s131 s132 s133 s134 s135 s136 s137 s138 s139 s140 s141 s142 s143 s144 s145 s146 s147 s148 s149 s150 s151 s152 s153 s154 s155 s156 s157 s158 s159 s160 s161 s162 s163 s164 s165 s166 s167 s168 s169 s170 s171 s172 : Value} :
    Code.wp Try.prog stood10C (bodyPost Try.prog Try.f3 (fun e w' => e = .returned (.bool true) ∧ Below b3 w0 w')) { tmps := #[s0, s1, .int .u32 x, .pointer (some ⟨b3, 0, none⟩), .pointer (some ⟨b4, 0, none⟩), s5, s6, .pointer (some ⟨b7, 0, none⟩), s8, .pointer (some ⟨b9, 0, none⟩), s10, .pointer (some ⟨b11, 0, none⟩), s12, s13, s14, s15, s16, s17, s18, s19, s20, s21, s22, s23, s24, s25, s26, s27, s28, s29, s30, s31, s32, s33, s34, s35, s36, s37, s38, s39, s40, s41, s42, s43, s44, s45, s46, s47, s48, s49, s50, s51, s52, s53, s54, s55, s56, s57, s58, s59, s60, s61, s62, s63, s64, s65, s66, s67, s68, s69, s70, s71, s72, s73, s74, s75, s76, s77, s78, s79, s80, s81, s82, s83, s84, s85, s86, s87, s88, s89, s90, s91, s92, s93, s94, s95, s96, s97, s98, s99, s100, s101, s102, s103, s104, s105, s106, s107, s108, s109, s110, s111, s112, s113, s114, s115, s116, s117, s118, s119, s120, s121, s122, s123, s124, s125, s126, s127, s128, s129, s130, s131, s132, s133, s134, s135, s136, s137, s138, s139, s140, s141, s142, s143, s144, s145, s146, s147, s148, s149, s150, s151, s152, s153, s154, s155, s156, s157, s158, s159, s160, s161, s162, s163, s164, s165, s166, s167, s168, s169, s170, s171, s172], defers := [] } w := by
  have HW := Lib.hid (And.intro hW (And.intro h7 (And.intro h9 h11)))
  have HS := Lib.hid (And.intro hS (And.intro hk hl))
  have HZ : Hid (∃ z : Int, z = a.lo + x % (a.hi - a.lo + 1) ∧ a.lo ≤ z ∧ z ≤ a.hi) := by
    have h1 := hS.is
    have e1 : x.tmod (a.hi - a.lo + 1) = x % (a.hi - a.lo + 1) := Int.tmod_eq_emod_of_nonneg hx.1
    have e2 := Int.emod_nonneg x (show a.hi - a.lo + 1 ≠ 0 by omega)
    have e3 := Int.emod_lt_of_pos x (show 0 < a.hi - a.lo + 1 by omega)
    exact ⟨_, rfl, by omega, by omega⟩
  obtain ⟨z, hz, hz1, hz2⟩ := HZ.out
  have HZZ := Lib.hid (And.intro hz1 hz2)
  have w1 : IntKind.i64.wrap (a.hi - a.lo) = a.hi - a.lo := IntWalk.i64_in _ (by have := hS.is; omega)
  have w2 : IntKind.i64.wrap (a.hi - a.lo + 1) = a.hi - a.lo + 1 := IntWalk.i64_in _ (by have := hS.is; omega)
  have w3 : IntKind.i64.wrap (x % (a.hi - a.lo + 1)) = x % (a.hi - a.lo + 1) := IntWalk.i64_in _ (by have := hS.is; omega)
  have w4 : IntKind.i64.wrap (a.lo + x % (a.hi - a.lo + 1)) = z := by rw [← hz]; exact IntWalk.i64_in _ (by have := hS.is; omega)
  have w6 : wrap64 (a.lo + x % (a.hi - a.lo + 1)) = z := by rw [← hz]; exact IntWalk.wrap64_in _ (by have := hS.is; exact ⟨by omega, by omega⟩)
  have w5 : IntKind.i64.wrap x = x := IntWalk.i64_in _ (by omega)
  have hne : a.hi - a.lo + 1 ≠ 0 := by have := hS.is; omega
  clear hz hz1 hz2 HZ hW h7 h9 h11 hS hk hl
  have hmf : ∀ (fn : Fn) (first cap : Array Value) (w : World), (Instr.makeFunc fn first cap).run Try.prog w = .ok (.func fn first cap) w := fun _ _ _ _ => rfl
  have cf := cf8
  conv => arg 2; whnf
  refine wp_seq_hid ?_
  intro K10 HK10
  go_wp2_with fail
  refine HK10.out _ _ ?_
  clear HK10 K10
  have c0 : w.cell? ⟨b9, 0, none⟩ = some (.int .i64 a.lo) := by rw [cell_of_heap HW.out.2.2.1]; rfl
  have c1 : w.cell? ⟨b9, 1, none⟩ = some (.int .i64 a.hi) := by rw [cell_of_heap HW.out.2.2.1]; rfl
  refine wp_seq_hid ?_
  intro K11 HK11
  go_quiet (fail)
  refine HK11.out _ _ ?_
  clear HK11 K11 w1 w2 w3 w4 w5 w6 hne c0 c1
  have HW2 : Hid (StW w0 g a1 c1 a2 c2 k b3 b4 (w.drewN nq) ∧ (w.drewN nq).heap[b7]? = some (.cells m.arr 23 (0, 0)) ∧ (w.drewN nq).heap[b9]? = some (.cells a.arr 23 (0, 0)) ∧ (w.drewN nq).heap[b11]? = some (.cells b.arr 23 (0, 0))) := by
    have hb := below_drewN (Below.refl w.heap.size w) nq
    exact ⟨HW.out.1.next hb, heap_next HW.out.2.1 hb, heap_next HW.out.2.2.1 hb, heap_next HW.out.2.2.2 hb⟩
  clear HW
  revert HW2
  generalize w.drewN nq = w2
  intro HW2
  refine wp_seq_hid ?_
  intro K12 HK12
  go_wp2_with fail
  refine (can8 (z := z) HS.out.2.1 HS.out.2.2 HW2.out.1.h2 HW2.out.1.hg HW2.out.1.hk).mono ?_
  rintro e w3 ⟨rfl, hb⟩
  rw [HS.out.1.ask z HZZ.out.1 HZZ.out.2]
  have HW3 : Hid (StW w0 g a1 c1 a2 c2 k b3 b4 w3 ∧ w3.heap[b7]? = some (.cells m.arr 23 (0, 0)) ∧ w3.heap[b9]? = some (.cells a.arr 23 (0, 0)) ∧ w3.heap[b11]? = some (.cells b.arr 23 (0, 0))) := ⟨HW2.out.1.next hb, heap_next HW2.out.2.1 hb, heap_next HW2.out.2.2.1 hb, heap_next HW2.out.2.2.2 hb⟩
  clear HW2 hb
  go_wp2_with fail
  refine HK12.out _ _ ?_
  clear HK12 K12
  refine wp_seq_hid ?_
  intro K13 HK13
  have d0 : w3.cell? ⟨b11, 0, none⟩ = some (.int .i64 b.lo) := by rw [cell_of_heap HW3.out.2.2.2]; rfl
  have d1 : w3.cell? ⟨b11, 1, none⟩ = some (.int .i64 b.hi) := by rw [cell_of_heap HW3.out.2.2.2]; rfl
  have d2 : w3.cell? ⟨b7, 0, none⟩ = some (.int .i64 m.lo) := by rw [cell_of_heap HW3.out.2.1]; rfl
  have d3 : w3.cell? ⟨b7, 1, none⟩ = some (.int .i64 m.hi) := by rw [cell_of_heap HW3.out.2.1]; rfl
  have HN : Hid (∀ K : Prop, Code.wp Try.prog Code.skip (fun _ _ _ => K) ⟨#[], []⟩ w3 → True) := fun _ _ => trivial
  clear HN
  by_cases q1 : b.lo ≤ z <;> by_cases q2 : z ≤ b.hi
  case pos =>
    have hmid := HS.out.1.mid z HZZ.out.1 HZZ.out.2 (by rw [HS.out.1.ask z HZZ.out.1 HZZ.out.2]; simp [q1, q2])
    have q3 : ¬ m.lo > 0 := by omega
    have q4 : ¬ m.hi < 0 := by omega
    clear hmid
    go_wp2_with fail
    refine HK13.out _ _ ?_
    exact stood15 HW3.out.1 HW3.out.2.1 HW3.out.2.2.1 HW3.out.2.2.2 HS.out.1 HS.out.2.1 HS.out.2.2
  all_goals
    go_wp2_with fail
    refine HK13.out _ _ ?_
    exact stood15 HW3.out.1 HW3.out.2.1 HW3.out.2.2.1 HW3.out.2.2.2 HS.out.1 HS.out.2.1 HS.out.2.2
end Go.Proofs.Ytbnhngfegnhaiaa
namespace Go.Proofs.Ytbnhngfegnhaiaa
open Go.RowKit
set_option linter.unusedVariables false
set_option linter.unusedSimpArgs false
theorem dist_of_power {p : Par} {k : Nat} (hV : p.valid = true) (hk : k < p.things.length) (h : (powerE p).2 ≠ 0) : (distE p k).2 ≠ 0 := by
  have e : inR (k : Int) 0 ((p.things.length : Int) - 1) = true := by simp [inR]; omega
  unfold powerE at h
  rw [if_pos hV] at h
  unfold distE
  rw [hV, e]
  cases hl : p.look p.things p.all with
  | none => simp
  | some q => rw [hl] at h; simp at h
theorem moved_fails {g : Gla} {k : Nat} (hV : g.valid = true) (hk : k < g.first.things.length) (hm : (movedE g k).2 ≠ 0) : (movedE g k).1 = ⟨0, 0⟩ ∧ ((distE g.first k).2 ≠ 0 ∨ (distE g.second k).2 ≠ 0) := by
  have hV2 := hV
  unfold Gla.valid at hV2
  simp only [Bool.and_eq_true, decide_eq_true_eq] at hV2
  obtain ⟨⟨⟨⟨v1, v2⟩, vl⟩, _⟩, _⟩ := hV2
  have e : inR (k : Int) 0 ((g.first.things.length : Int) - 1) = true := by simp [inR]; omega
  unfold movedE at hm ⊢
  rw [hV, e] at hm ⊢
  simp only [Bool.not_true, Bool.false_eq_true, if_false] at hm ⊢
  by_cases p1 : (powerE g.first).2 ≠ 0
  · rw [if_pos p1]
    exact ⟨rfl, .inl (dist_of_power v1 hk p1)⟩
  rw [if_neg p1] at hm ⊢
  by_cases p2 : (powerE g.second).2 ≠ 0
  · rw [if_pos p2]
    exact ⟨rfl, .inr (dist_of_power v2 (by omega) p2)⟩
  rw [if_neg p2] at hm ⊢
  by_cases d : (distE g.first k).2 ≠ 0 ∨ (distE g.second k).2 ≠ 0
  · rw [if_pos d]
    exact ⟨rfl, d⟩
  · rw [if_neg d] at hm
    exact absurd rfl hm
attribute [local go_sem] Oper.semAt_some
noncomputable def stood3C : Code := (Try.f3.body.bind (fromRegion 3)).getD .skip
set_option maxRecDepth 100000 in
set_option maxHeartbeats 8000000 in
theorem stood_rest {w0 : World} {g : Gla} {a1 a2 : Option Addr} {c1 c2 k b3 b4 : Nat} {x : Int} {w : World} (hW : StW w0 g a1 c1 a2 c2 k b3 b4 w) (hV : g.valid = true) (hk : k < g.first.things.length) (ht : (gt g.second.things k).far = 0) (hx : 0 ≤ x ∧ x ≤ 4294967295) {s0 s1 s5 s6 s7 s8 s9 s10 s11 s12 s13 s14 s15 s16 s17 s18 s19 s20 s21 s22 s23 s24 s25 s26 s27 s28 s29 s30 s31 s32 s33 s34 s35 s36 s37 s38 s39 s40 s41 s42 s43 s44 s45 s46 s47 s48 s49 s50 s51 s52 s53 s54 s55 s56 s57 s58 s59 s60 s61 s62 s63 s64 s65 s66 s67 s68 s69 s70 s71 s72 s73 s74 s75 s76 s77 s78 s79 s80 s81 s82 s83 s84 s85 s86 s87 s88 s89 s90 s91 s92 s93 s94 s95 s96 s97 s98 s99 s100 s101 s102 s103 s104 s105 s106 s107 s108 s109 s110 s111 s112 s113 s114 s115 s116 s117 s118 s119 s120 s121 s122 s123 s124 s125 s126 s127 s128 s129 s130 s131 s132 s133 s134 s135 s136 s137 s138 s139 s140 s141 s142 s143 s144 s145 s146 s147 s148 s149 s150 s151 s152 s153 s154 s155 s156 s157 s158 s159 s160 s161 s162 s163 s164 s165 s166 s167 s168 s169 s170 s171 s172 : Value} :
    Code.wp Try.prog stood3C (bodyPost Try.prog Try.f3 (fun e w' => e = .returned (.bool true) ∧ Below b3 w0 w')) { tmps := #[s0, s1, .int .u32 x, .pointer (some ⟨b3, 0, none⟩), .pointer (some ⟨b4, 0, none⟩), s5, s6, s7, s8, s9, s10, s11, s12, s13, s14, s15, s16, s17, s18, s19, s20, s21, s22, s23, s24, s25, s26, s27, s28, s29, s30, s31, s32, s33, s34, s35, s36, s37, s38, s39, s40, s41, s42, s43, s44, s45, s46, s47, s48, s49, s50, s51, s52, s53, s54, s55, s56, s57, s58, s59, s60, s61, s62, s63, s64, s65, s66, s67, s68, s69, s70, s71, s72, s73, s74, s75, s76, s77, s78, s79, s80, s81, s82, s83, s84, s85, s86, s87, s88, s89, s90, s91, s92, s93, s94, s95, s96, s97, s98, s99, s100, s101, s102, s103, s104, s105, s106, s107, s108, s109, s110, s111, s112, s113, s114, s115, s116, s117, s118, s119, s120, s121, s122, s123, s124, s125, s126, s127, s128, s129, s130, s131, s132, s133, s134, s135, s136, s137, s138, s139, s140, s141, s142, s143, s144, s145, s146, s147, s148, s149, s150, s151, s152, s153, s154, s155, s156, s157, s158, s159, s160, s161, s162, s163, s164, s165, s166, s167, s168, s169, s170, s171, s172], defers := [] } w := by
  have HV : Hid ((g.valid = true ∧ k < g.first.things.length ∧ (gt g.second.things k).far = 0) ∧ (k < g.second.things.length ∧ g.first.things.length ≤ 12 ∧ g.second.things.length ≤ 12)) := by
    refine ⟨⟨hV, hk, ht⟩, ?_⟩
    unfold Gla.valid Par.valid at hV
    simp only [Bool.and_eq_true, decide_eq_true_eq] at hV
    omega
  have HW := Lib.hid hW
  have HX := Lib.hid hx
  clear hW hV hk ht hx
  conv => arg 2; whnf
  have sk : w.cell? ⟨b4, 0, none⟩ = some (.int .i64 k) := by rw [cell_of_heap HW.out.hk]; rfl
  refine wp_seq_hid ?_
  intro K3 HK3
  go_wp2_with (refine wpList_load_gla HW.out.hg rfl _ (by rfl) (by rfl) ?_)
  refine (moved6 HV.out.1.1 HV.out.1.2.1 HW.out.h1 HW.out.h2).mono ?_
  clear sk
  rintro e w1 ⟨rfl, hb⟩
  generalize hm : movedE g k = m
  have HM := Lib.hid hm
  clear hm
  have HA := Lib.hid (And.intro (World.alloc_heap_new w1 (.cells m.1.arr 23)) (alloc_below w1 (.cells m.1.arr 23)))
  go_wp2_with fail
  refine HK3.out _ _ ?_
  clear HK3 K3
  have HW2 : Hid (StW w0 g a1 c1 a2 c2 k b3 b4 (w1.alloc (.cells m.1.arr 23))) := (HW.out.next hb).next HA.out.2
  clear HW hb
  revert HA HW2
  change Hid ((w1.alloc (.cells #[.int .i64 m.1.lo, .int .i64 m.1.hi] 23)).heap[w1.heap.size]? = some (.cells #[.int .i64 m.1.lo, .int .i64 m.1.hi] 23 (0, 0)) ∧ Below w1.heap.size w1 (w1.alloc (.cells #[.int .i64 m.1.lo, .int .i64 m.1.hi] 23))) → Hid (StW w0 g a1 c1 a2 c2 k b3 b4 (w1.alloc (.cells #[.int .i64 m.1.lo, .int .i64 m.1.hi] 23))) → _
  generalize w1.alloc (.cells #[.int .i64 m.1.lo, .int .i64 m.1.hi] 23) = w2
  generalize w1.heap.size = b7
  intro HA HW2
  have H7 : Hid (w2.heap[b7]? = some (.cells m.1.arr 23 (0, 0))) := HA.out.1
  clear HA
  refine wp_seq_hid ?_
  intro K4 HK4
  have sk : w2.cell? ⟨b4, 0, none⟩ = some (.int .i64 k) := by rw [cell_of_heap HW2.out.hk]; rfl
  obtain ⟨q0, q1, q2, q3, q4, q5, q6, q7, _⟩ := gla_cells HW2.out.hg
  go_wp2_with fail
  refine (distance7 (p := g.first) HW2.out.h1 (by have := HV.out.2; omega)).mono ?_
  clear sk q0 q1 q2 q3 q4 q5 q6 q7
  rintro e w3 ⟨rfl, hb⟩
  generalize hm : distE g.first k = a
  have HDA := Lib.hid hm
  clear hm
  have HA := Lib.hid (And.intro (World.alloc_heap_new w3 (.cells a.1.arr 23)) (alloc_below w3 (.cells a.1.arr 23)))
  go_wp2_with fail
  refine HK4.out _ _ ?_
  clear HK4 K4
  have HW4 : Hid (StW w0 g a1 c1 a2 c2 k b3 b4 (w3.alloc (.cells a.1.arr 23)) ∧ (w3.alloc (.cells a.1.arr 23)).heap[b7]? = some (.cells m.1.arr 23 (0, 0))) := ⟨(HW2.out.next hb).next HA.out.2, heap_next (heap_next H7.out hb) HA.out.2⟩
  clear HW2 H7 hb
  revert HA HW4
  change Hid ((w3.alloc (.cells #[.int .i64 a.1.lo, .int .i64 a.1.hi] 23)).heap[w3.heap.size]? = some (.cells #[.int .i64 a.1.lo, .int .i64 a.1.hi] 23 (0, 0)) ∧ Below w3.heap.size w3 (w3.alloc (.cells #[.int .i64 a.1.lo, .int .i64 a.1.hi] 23))) → Hid (StW w0 g a1 c1 a2 c2 k b3 b4 (w3.alloc (.cells #[.int .i64 a.1.lo, .int .i64 a.1.hi] 23)) ∧ (w3.alloc (.cells #[.int .i64 a.1.lo, .int .i64 a.1.hi] 23)).heap[b7]? = some (.cells m.1.arr 23 (0, 0))) → _
  generalize w3.alloc (.cells #[.int .i64 a.1.lo, .int .i64 a.1.hi] 23) = w4
  generalize w3.heap.size = b9
  intro HA HW4
  have H9 : Hid (w4.heap[b9]? = some (.cells a.1.arr 23 (0, 0))) := HA.out.1
  clear HA
  refine wp_seq_hid ?_
  intro K5 HK5
  have sk : w4.cell? ⟨b4, 0, none⟩ = some (.int .i64 k) := by rw [cell_of_heap HW4.out.1.hk]; rfl
  obtain ⟨_, _, _, _, _, _, _, _, q8, q9, q10, q11, q12, q13, q14, q15, _, _⟩ := gla_cells HW4.out.1.hg
  go_wp2_with fail
  refine (distance7 (p := g.second) HW4.out.1.h2 (by have := HV.out.2; omega)).mono ?_
  clear sk q8 q9 q10 q11 q12 q13 q14 q15
  rintro e w5 ⟨rfl, hb⟩
  generalize hm : distE g.second k = b
  have HDB := Lib.hid hm
  clear hm
  have HA := Lib.hid (And.intro (World.alloc_heap_new w5 (.cells b.1.arr 23)) (alloc_below w5 (.cells b.1.arr 23)))
  go_wp2_with fail
  refine HK5.out _ _ ?_
  clear HK5 K5
  have HW6 : Hid (StW w0 g a1 c1 a2 c2 k b3 b4 (w5.alloc (.cells b.1.arr 23)) ∧ (w5.alloc (.cells b.1.arr 23)).heap[b7]? = some (.cells m.1.arr 23 (0, 0)) ∧ (w5.alloc (.cells b.1.arr 23)).heap[b9]? = some (.cells a.1.arr 23 (0, 0))) := ⟨(HW4.out.1.next hb).next HA.out.2, heap_next (heap_next HW4.out.2 hb) HA.out.2, heap_next (heap_next H9.out hb) HA.out.2⟩
  clear HW4 H9 hb
  revert HA HW6
  change Hid ((w5.alloc (.cells #[.int .i64 b.1.lo, .int .i64 b.1.hi] 23)).heap[w5.heap.size]? = some (.cells #[.int .i64 b.1.lo, .int .i64 b.1.hi] 23 (0, 0)) ∧ Below w5.heap.size w5 (w5.alloc (.cells #[.int .i64 b.1.lo, .int .i64 b.1.hi] 23))) → Hid (StW w0 g a1 c1 a2 c2 k b3 b4 (w5.alloc (.cells #[.int .i64 b.1.lo, .int .i64 b.1.hi] 23)) ∧ (w5.alloc (.cells #[.int .i64 b.1.lo, .int .i64 b.1.hi] 23)).heap[b7]? = some (.cells m.1.arr 23 (0, 0)) ∧ (w5.alloc (.cells #[.int .i64 b.1.lo, .int .i64 b.1.hi] 23)).heap[b9]? = some (.cells a.1.arr 23 (0, 0))) → _
  generalize w5.alloc (.cells #[.int .i64 b.1.lo, .int .i64 b.1.hi] 23) = w6
  generalize w5.heap.size = b11
  intro HA HW6
  have H11 : Hid (w6.heap[b11]? = some (.cells b.1.arr 23 (0, 0))) := HA.out.1
  clear HA
  by_cases hz : m.2 = 0
  · have hlaw := stood_law HV.out.1.1 HV.out.1.2.1 HV.out.1.2.2 (by rw [HM.out]; exact hz)
    rw [HM.out, HDA.out, HDB.out] at hlaw
    obtain ⟨ha2, hb2, hS⟩ := hlaw
    have HS := Lib.hid hS
    refine wp_seq_hid ?_
    intro K6 HK6
    go_wp2_with fail
    refine HK6.out _ _ ?_
    clear HK6 K6
    have s0 : w6.cell? ⟨b9, 0, none⟩ = some (.int .i64 a.1.lo) := by rw [cell_of_heap HW6.out.2.2]; rfl
    have s1 : w6.cell? ⟨b9, 1, none⟩ = some (.int .i64 a.1.hi) := by rw [cell_of_heap HW6.out.2.2]; rfl
    have t0 : ¬ a.1.lo > a.1.hi := by have := hS.is; omega
    have t1 : ¬ a.1.lo < 1 := by have := hS.is; omega
    clear hS
    refine wp_seq_hid ?_
    intro K8 HK8
    go_wp2_with fail
    refine HK8.out _ _ ?_
    exact stood_tail HW6.out.1 HW6.out.2.1 HW6.out.2.2 H11.out HS.out HV.out.2.1 HV.out.2.2.2 HX.out
  · have hf := moved_fails HV.out.1.1 HV.out.1.2.1 (by rw [HM.out]; exact hz)
    rw [HM.out, HDA.out, HDB.out] at hf
    obtain ⟨hm0, hab⟩ := hf
    have s0 : w6.cell? ⟨b7, 0, none⟩ = some (.int .i64 0) := by rw [cell_of_heap HW6.out.2.1, hm0]; rfl
    have s1 : w6.cell? ⟨b7, 1, none⟩ = some (.int .i64 0) := by rw [cell_of_heap HW6.out.2.1, hm0]; rfl
    clear hm0
    refine wp_seq_hid ?_
    intro K6 HK6
    by_cases ha : a.2 = 0
    · have hb : b.2 ≠ 0 := hab.elim (fun h => absurd ha h) id
      clear hab
      go_wp2_with fail
      refine alive5.mono ?_
      rintro e w7 ⟨rfl, hb7⟩
      go_wp2_with fail
      go_ret
      exact ⟨ret_bool (by simp [hb]), (HW6.out.1.next hb7).below⟩
    · clear hab
      go_wp2_with fail
      all_goals first
        | (refine ⟨fun _ _ => trivial, ?_⟩; go_wp2_with fail)
        | skip
      refine alive5.mono ?_
      rintro e w7 ⟨rfl, hb7⟩
      go_wp2_with fail
      go_ret
      exact ⟨rfl, (HW6.out.1.next hb7).below⟩
end Go.Proofs.Ytbnhngfegnhaiaa
namespace Go.Proofs.Ytbnhngfegnhaiaa
open Go.RowKit
set_option linter.unusedVariables false
set_option linter.unusedSimpArgs false
theorem wpList_load_gla_g {ops : Array Oper} {rest : List Oper} {op : Oper} {a : Act} {w : World} {Q : Exit → Act → World → Prop} {b : Nat} {g : Gla} {a1 a2 : Option Addr} {c1 c2 : Nat} {ty : TypeId} {fr : Nat × Nat} (hq : w.heap[b]? = some (.cells (g.arr a1 c1 a2 c2) ty fr)) (hgd : Region.wanted op (yielded ops a.tmps) = true) (x : Operand) (ho : op.op = .load 28 x)
    (hx : a.eval x = .pointer (some ⟨b, 0, none⟩)) (h : wpList Try.prog ops Q rest (a.put op.dst (g.v a1 c1 a2 c2)) w) : wpList Try.prog ops Q (op :: rest) a w := by
  show if Region.wanted op (yielded ops a.tmps) then _ else _
  rw [if_pos hgd]
  exact .inl (wp_load_mid 28 x ho b 0 hx _ _ (range_block hq) Try.underlying28 rfl info28 h)
attribute [local go_sem] Oper.semAt_some
set_option maxRecDepth 100000 in
set_option maxHeartbeats 8000000 in
theorem stood3 {g : Gla} {a1 a2 : Option Addr} {c1 c2 : Nat} {n x : Int} {w : World} (h1 : IsThs w a1 g.first.things) (h2 : IsThs w a2 g.second.things) (hx : 0 ≤ x ∧ x ≤ 4294967295) :
    Calls Try.prog 3 #[g.v a1 c1 a2 c2, .int .i64 n, .int .u32 x] w fun e w' => e = .returned (.bool true) ∧ Below w.heap.size w w' := by
  have HX := Lib.hid (alloc2 w (g.arr a1 c1 a2 c2) #[.int .i64 n] 28 3)
  have HA := Lib.hid (And.intro (h1.mono HX.out.2.2) (And.intro (h2.mono HX.out.2.2) hx))
  clear h1 h2 hx
  go_enter Try.func3, Try.ntmps3
  refine wp_seq_hid ?_
  intro K0 HK0
  go_wp2_with fail
  refine HK0.out _ _ ?_
  clear HK0 K0
  revert HX HA
  generalize (w.alloc (.cells (g.arr a1 c1 a2 c2) 28)).alloc (.cells #[.int .i64 n] 3) = w1
  generalize hb4 : w.heap.size + 1 = b4
  generalize hb3 : w.heap.size = b3
  intro HX HA
  have HLT : Hid (b3 < w1.heap.size) := heap_lt HX.out.1
  clear hb4 hb3
  have HB1 := Lib.hid (Below.refl w1.heap.size w1)
  have KF : Hid (∀ v, Below w1.heap.size w1 v → GlaC v b3 g a1 c1 a2 c2 ∧ v.cell? ⟨b4, 0, none⟩ = some (.int .i64 n) ∧ Below b3 w v) := fun v hv =>
    ⟨gla_cells ((hv.block _ (heap_lt HX.out.1)).trans HX.out.1), by rw [cell_of_heap ((hv.block _ (heap_lt HX.out.2.1)).trans HX.out.2.1)]; rfl, HX.out.2.2.trans (hv.mono (Nat.le_of_lt HLT.out))⟩
  refine wp_seq_hid ?_
  intro K1 HK1
  obtain ⟨_, _, _, _, _, _, _, q7, _, _, _, _, _, _, _, q15, _, _⟩ := (KF.out w1 HB1.out).1
  by_cases hl1 : g.first.things.length > 12
  · have hd : decide ((g.first.things.length : Int) > 12) = true := by simp; omega
    go_wp2_with fail
    all_goals first
      | (refine ⟨fun _ _ => trivial, ?_⟩; go_wp2_with fail)
      | skip
    refine alive5.mono ?_
    rintro e w9 ⟨rfl, hb9⟩
    go_wp2_with fail
    go_ret
    exact ⟨rfl, (KF.out w9 (HB1.out.trans (hb9.mono HB1.out.size))).2.2⟩
  have HL1 := Lib.hid hl1
  have hd : decide ((g.first.things.length : Int) > 12) = false := by simp; omega
  clear hl1
  by_cases hl2 : g.second.things.length > 12
  · have hd2 : decide ((g.second.things.length : Int) > 12) = true := by simp; omega
    go_wp2_with fail
    all_goals first
      | (refine ⟨fun _ _ => trivial, ?_⟩; go_wp2_with fail)
      | skip
    refine alive5.mono ?_
    rintro e w9 ⟨rfl, hb9⟩
    go_wp2_with fail
    go_ret
    exact ⟨rfl, (KF.out w9 (HB1.out.trans (hb9.mono HB1.out.size))).2.2⟩
  have HL2 := Lib.hid hl2
  have hd2 : decide ((g.second.things.length : Int) > 12) = false := by simp; omega
  clear hl2
  go_wp2_with (refine wpList_load_gla_g HX.out.1 (by rfl) _ (by rfl) (by rfl) ?_)
  refine (glacier4 HA.out.1 HA.out.2.1 (by have := HL1.out; omega) (by have := HL2.out; omega)).mono ?_
  clear q7 q15
  rintro e w2 ⟨rfl, hb⟩
  have HB2 := Lib.hid (HB1.out.trans (hb.mono HB1.out.size))
  clear hb
  obtain ⟨⟨_, _, _, _, _, _, _, q7, _, _, _, _, _, _, _, q15, _, _⟩, sn, _⟩ := KF.out w2 HB2.out
  cases hv : g.valid
  case false =>
    go_wp2_with fail
    all_goals first
      | (refine ⟨fun _ _ => trivial, ?_⟩; go_wp2_with fail)
      | skip
    refine alive5.mono ?_
    rintro e w9 ⟨rfl, hb9⟩
    go_wp2_with fail
    go_ret
    exact ⟨rfl, (KF.out w9 (HB2.out.trans (hb9.mono HB2.out.size))).2.2⟩
  have HV := Lib.hid hv
  clear hv
  by_cases hn : n < 0
  · go_wp2_with fail
    all_goals first
      | (refine ⟨fun _ _ => trivial, ?_⟩; go_wp2_with fail)
      | skip
    refine alive5.mono ?_
    rintro e w9 ⟨rfl, hb9⟩
    go_wp2_with fail
    go_ret
    exact ⟨rfl, (KF.out w9 (HB2.out.trans (hb9.mono HB2.out.size))).2.2⟩
  obtain ⟨k, rfl⟩ : ∃ k : Nat, n = k := ⟨n.toNat, by omega⟩
  clear hn
  by_cases hk : (k : Int) ≥ (g.first.things.length : Int)
  · go_wp2_with fail
    all_goals first
      | (refine ⟨fun _ _ => trivial, ?_⟩; go_wp2_with fail)
      | skip
    refine alive5.mono ?_
    rintro e w9 ⟨rfl, hb9⟩
    go_wp2_with fail
    go_ret
    exact ⟨rfl, (KF.out w9 (HB2.out.trans (hb9.mono HB2.out.size))).2.2⟩
  have HK : Hid (k < g.first.things.length ∧ k < g.second.things.length) := by
    have h := HV.out
    unfold Gla.valid at h
    simp only [Bool.and_eq_true, decide_eq_true_eq] at h
    rw [Hid]
    omega
  have hks := HK.out.2
  obtain ⟨bb, off, hae, hth⟩ := (HA.out.2.1.mono HB2.out) k hks
  subst hae
  obtain ⟨_, _, _, _, _, _, _, _, c8⟩ := hth
  by_cases hf : (gt g.second.things k).far = 0
  case neg =>
    have hd3 : ((gt g.second.things k).far != 0) = true := by simp [hf]
    go_wp2_with fail
    all_goals first
      | (refine ⟨fun _ _ => trivial, ?_⟩; go_wp2_with fail)
      | skip
    refine alive5.mono ?_
    rintro e w9 ⟨rfl, hb9⟩
    go_wp2_with fail
    go_ret
    exact ⟨rfl, (KF.out w9 (HB2.out.trans (hb9.mono HB2.out.size))).2.2⟩
  have HF := Lib.hid hf
  have hd3 : ((gt g.second.things k).far != 0) = false := by simp [hf]
  clear hf
  go_wp2_with fail
  refine HK1.out _ _ ?_
  have hb := HB2.out
  exact stood_rest ⟨(KF.out w2 hb).2.2, Nat.lt_of_lt_of_le HLT.out hb.size, (hb.block _ (heap_lt HX.out.1)).trans HX.out.1, (hb.block _ (heap_lt HX.out.2.1)).trans HX.out.2.1, HA.out.1.mono hb, HA.out.2.1.mono hb⟩ HV.out HK.out.1 HF.out HA.out.2.2
end Go.Proofs.Ytbnhngfegnhaiaa
namespace Go.Proofs.Ytbnhngfegnhaiaa
open Go.RowKit Go.WideShapes Go.ChangeShapes
section
variable {H : Type} {enc : TypeId × Value → H} {P : Program}
theorem post_of_below {f : Func} {s : ChangeSpec} {apart fresh handsOn again : Bool} {W W' : World} {args : Array Value} {v : Value} {ds gs : List (DataW H)} {before pa pv : List MemPlace}
    (hW : DataW.Whole enc P f.params.toList s.vars apart W args.toList ds gs before)
    (hres : ∀ (b : Nat) (sp : Nat → Bool) (hd : Bool), DataW.TrodAll enc P W' b sp hd f.resultTypes.toList (v.resultList f.resultTypes.size) (s.fn H (ds ++ gs)).results [])
    (hargs : ∀ sp : Nat → Bool, (∀ p ∈ before, sp p.block = true) → DataW.TrodAll enc P W' 0 sp true f.params.toList args.toList (s.fn H (ds ++ gs)).args pa)
    (hvars : ∀ sp : Nat → Bool, (∀ p ∈ before, sp p.block = true) → DataW.TrodVars enc P W' sp s.vars (s.fn H (ds ++ gs)).vars pv)
    (hps : before = pa ++ pv) (hb : Below W.heap.size W W')
    (hok : ∀ (j : Nat) (t : TypeId) (r : Value), f.resultTypes[j]? = some t → (v.resultList f.resultTypes.size)[j]? = some r → Value.okWide P W' .any 0 t r) :
    s.post enc P f apart fresh handsOn again W args v W' := by
  have hlt : ∀ p ∈ before, p.block < W.heap.size := fun p hp => hW.lt p hp
  have hold : ∀ p ∈ before, (fun b => decide (b < W.heap.size)) p.block = true := fun p hp => by simpa using hlt p hp
  refine ⟨ds, gs, before, [], pa, pv, hW, hres _ _ _, hargs _ hold, hvars _ hold, World.keptBut_mono (fun p hp => ⟨hp, ?_⟩) (hb.frame (· ∈ before)), fun _ => ?_⟩
  · rw [hps, List.mem_append] at hp
    exact Or.inr hp
  · obtain ⟨_, _, _, _, _, hz, hn⟩ := hW
    refine ⟨hok, _, _, ([] ++ pa) ++ pv, ⟨[] ++ pa, pv, trodAll_append (hargs _ (fun _ _ => rfl)) (hres _ _ _), hvars _ (fun _ _ => rfl), rfl, ?_, ?_⟩, ?_⟩
    · intro b off hp
      have hin : MemPlace.cell b off ∈ before := by rw [hps]; simpa using hp
      rw [hb.frozen (hlt _ hin)]
      exact hz b off hin
    · intro ha
      have := hn ha
      rw [hps] at this
      simpa using this
    · intro p hp _
      rw [hps]
      simpa using hp
end
end Go.Proofs.Ytbnhngfegnhaiaa
namespace Go.Proofs.Ytbnhngfegnhaiaa
open Go.ChangeShapes Go.WideShapes Go.ChangeAt Go.Deep Go.RowKit Go.Joins
set_option linter.unusedVariables false
theorem Try.laidOut : laidOutB Try.prog = true := by kernel_rfl
theorem Try.cells3 : Try.prog.cellsOf 3 = 1 := by kernel_rfl
theorem Try.cells23 : Try.prog.cellsOf 23 = 2 := by kernel_rfl
theorem Try.cells24 : Try.prog.cellsOf 24 = 1 := by kernel_rfl
theorem Try.cells26 : Try.prog.cellsOf 26 = 8 := by kernel_rfl
theorem Try.cells28 : Try.prog.cellsOf 28 = 18 := by kernel_rfl
theorem Try.cells32 : Try.prog.cellsOf 32 = 4 := by kernel_rfl
theorem Try.cells34 : Try.prog.cellsOf 34 = 9 := by kernel_rfl
theorem add_at (b o i : Nat) : (⟨b, o, none⟩ : Addr).add i = ⟨b, o + i, none⟩ := by
  unfold Addr.add
  split
  · rename_i h; subst h; rfl
  · rfl
theorem spotless {w : World} {a : Addr} {v : Value} (h : w.cell? a = some v) : a = ⟨a.block, a.off, none⟩ := by
  obtain ⟨b, o, s⟩ := a
  cases s with
  | none => rfl
  | some s =>
    exfalso
    simp only [World.cell?] at h
    split at h <;> simp at h
theorem add_zero' (a : Addr) : a.add 0 = a := rfl
section
variable {H : Type} {enc : TypeId × Value → H} {w : World} {base : Nat} {spare : Nat → Bool} {held : Bool}
set_option maxRecDepth 100000 in
theorem trod_c1 {t : TypeId} {fuel : Nat} {cs : List Value} {x : DataW H × List MemPlace} (ht : Try.prog.underlying t = some (.int .i64)) (h : DataW.trod enc Try.prog w base spare held fuel t cs = some x) :
    ∃ n, cs = [.int .i64 n] := by
  obtain ⟨n, h1, _, h3⟩ := DataW.trod_int ht h
  exact ⟨n, h1⟩
theorem spotted {t m len : Nat} {a : Addr} {D : Nat → DataW H} {Pl : Nat → List MemPlace} {n : Nat} (hc0 : 0 < Try.prog.cellsOf t) (hle : len ≤ m)
    (hi : ∀ i, i < m → ∃ cs', w.cells? base (a.add (i * Try.prog.cellsOf t)) (Try.prog.cellsOf t) = some cs' ∧ DataW.trod enc Try.prog w base spare held n t cs' = some (D i, Pl i)) (h : 0 < len) : a = ⟨a.block, a.off, none⟩ := by
  obtain ⟨cs, hc, hd⟩ := hi 0 (by omega)
  obtain ⟨_, hcl, hat⟩ := World.cells?_some hc
  have h0 := hat 0 hc0
  rw [Nat.zero_mul, add_zero', add_zero'] at h0
  have : ∃ v, w.cell? a = some v := by
    cases cs with
    | nil => simp at hcl; omega
    | cons x r => exact ⟨x, h0⟩
  obtain ⟨v, hv⟩ := this
  exact spotless hv
set_option maxRecDepth 100000 in
theorem trod_span {fuel : Nat} {cs : List Value} {x : DataW H × List MemPlace} (h : DataW.trod enc Try.prog w base spare held fuel 23 cs = some x) :
    ∃ q : Spn, cs = [.int .i64 q.lo, .int .i64 q.hi] := by
  obtain ⟨xs, n, _, _, hl, hx, hf⟩ := DataW.trod_struct Try.underlying23 h
  rw [Try.cells23] at hl
  have hx : xs.length = 2 := hx
  match cs, hl, xs, hx with
  | [c0, c1], _, [x0, x1], _ =>
    have f0 : DataW.trod enc Try.prog w base spare held n 3 (([c0, c1].drop 0).take (Try.prog.cellsOf 3)) = some x0 := hf 0 _ rfl
    have f1 : DataW.trod enc Try.prog w base spare held n 3 (([c0, c1].drop 1).take (Try.prog.cellsOf 3)) = some x1 := hf 1 _ rfl
    rw [Try.cells3] at f0
    rw [Try.cells3] at f1
    obtain ⟨a, h0⟩ := trod_c1 Try.underlying3 f0
    obtain ⟨b, h1⟩ := trod_c1 Try.underlying3 f1
    simp only [List.drop_succ_cons, List.drop_zero, List.take_succ_cons, List.take_zero, List.cons.injEq, and_true] at h0 h1
    exact ⟨⟨a, b⟩, by rw [h0, h1]⟩
set_option maxRecDepth 100000 in
theorem trod_place {fuel : Nat} {cs : List Value} {x : DataW H × List MemPlace} (h : DataW.trod enc Try.prog w base spare held fuel 32 cs = some x) :
    ∃ p : Plc, cs = [.int .i64 p.x.lo, .int .i64 p.x.hi, .int .i64 p.y.lo, .int .i64 p.y.hi] := by
  obtain ⟨xs, n, _, _, hl, hx, hf⟩ := DataW.trod_struct Try.underlying32 h
  rw [Try.cells32] at hl
  have hx : xs.length = 2 := hx
  match cs, hl, xs, hx with
  | [c0, c1, c2, c3], _, [x0, x1], _ =>
    have f0 : DataW.trod enc Try.prog w base spare held n 23 (([c0, c1, c2, c3].drop 0).take (Try.prog.cellsOf 23)) = some x0 := hf 0 _ rfl
    have f1 : DataW.trod enc Try.prog w base spare held n 23 (([c0, c1, c2, c3].drop 2).take (Try.prog.cellsOf 23)) = some x1 := hf 1 _ rfl
    rw [Try.cells23] at f0
    rw [Try.cells23] at f1
    obtain ⟨x, h0⟩ := trod_span f0
    obtain ⟨y, h1⟩ := trod_span f1
    simp only [List.drop_succ_cons, List.drop_zero, List.take_succ_cons, List.take_zero, List.cons.injEq, and_true] at h0 h1
    obtain ⟨e0, e1⟩ := h0
    obtain ⟨e2, e3⟩ := h1
    exact ⟨⟨x, y⟩, by rw [e0, e1, e2, e3]⟩
set_option maxRecDepth 100000 in
theorem trod_thg {fuel : Nat} {cs : List Value} {x : DataW H × List MemPlace} (h : DataW.trod enc Try.prog w base spare held fuel 34 cs = some x) :
    ∃ t : Thg, cs = [.int .i64 t.left.x.lo, .int .i64 t.left.x.hi, .int .i64 t.left.y.lo, .int .i64 t.left.y.hi, .int .i64 t.right.x.lo, .int .i64 t.right.x.hi, .int .i64 t.right.y.lo, .int .i64 t.right.y.hi, .int .i64 t.far] := by
  obtain ⟨xs, n, _, _, hl, hx, hf⟩ := DataW.trod_struct Try.underlying34 h
  rw [Try.cells34] at hl
  have hx : xs.length = 3 := hx
  match cs, hl, xs, hx with
  | [c0, c1, c2, c3, c4, c5, c6, c7, c8], _, [x0, x1, x2], _ =>
    have f0 : DataW.trod enc Try.prog w base spare held n 32 (([c0, c1, c2, c3, c4, c5, c6, c7, c8].drop 0).take (Try.prog.cellsOf 32)) = some x0 := hf 0 _ rfl
    have f1 : DataW.trod enc Try.prog w base spare held n 32 (([c0, c1, c2, c3, c4, c5, c6, c7, c8].drop 4).take (Try.prog.cellsOf 32)) = some x1 := hf 1 _ rfl
    have f2 : DataW.trod enc Try.prog w base spare held n 3 (([c0, c1, c2, c3, c4, c5, c6, c7, c8].drop 8).take (Try.prog.cellsOf 3)) = some x2 := hf 2 _ rfl
    rw [Try.cells32] at f0
    rw [Try.cells32] at f1
    rw [Try.cells3] at f2
    obtain ⟨l, h0⟩ := trod_place f0
    obtain ⟨r, h1⟩ := trod_place f1
    obtain ⟨z, h2⟩ := trod_c1 Try.underlying3 f2
    simp only [List.drop_succ_cons, List.drop_zero, List.take_succ_cons, List.take_zero, List.cons.injEq, and_true] at h0 h1 h2
    obtain ⟨e0, e1, e2, e3⟩ := h0
    obtain ⟨e4, e5, e6, e7⟩ := h1
    exact ⟨⟨l, r, z⟩, by rw [e0, e1, e2, e3, e4, e5, e6, e7, h2]⟩
set_option maxRecDepth 100000 in
theorem open_thsL {fuel : Nat} {v : Value} {x : DataW H × List MemPlace} (h : DataW.trod enc Try.prog w base spare held fuel 24 [v] = some x) :
    ∃ (a : Option Addr) (l : List Thg) (cap : Nat), v = .slice a l.length cap ∧ IsThs w a l := by
  rcases open_slice Try.underlying24 h with ⟨h1, _⟩ | ⟨a, len, cap, m, n, D, Pl, h1, _, hl, hm, hmm, _, hi⟩
  · simp only [List.cons.injEq, and_true] at h1
    exact ⟨none, [], 0, h1, fun i hi => by simp at hi⟩
  · simp only [List.cons.injEq, and_true] at h1
    have hle : len ≤ m := by rw [hmm]; split <;> omega
    have hs := spotted (by rw [Try.cells34]; decide) hle hi
    have each : ∀ i, ∃ t : Thg, i < len → a = ⟨a.block, a.off, none⟩ ∧ ThgC w a.block (a.off + i * 9) t := by
      intro i
      by_cases hil : i < len
      · have hs := hs (by omega)
        obtain ⟨cs, hc, hd⟩ := hi i (by omega)
        rw [Try.cells34] at hc
        obtain ⟨_, hcl, hat⟩ := World.cells?_some hc
        obtain ⟨t, rfl⟩ := trod_thg hd
        have hh : ∀ k (hk : k < 9), w.cell? ⟨a.block, a.off + i * 9 + k, none⟩ = some ([.int .i64 t.left.x.lo, .int .i64 t.left.x.hi, .int .i64 t.left.y.lo, .int .i64 t.left.y.hi, .int .i64 t.right.x.lo, .int .i64 t.right.x.hi, .int .i64 t.right.y.lo, .int .i64 t.right.y.hi, .int .i64 t.far][k]'hk) := fun k hk => by
          have h0 := hat k hk
          rw [hs, add_at, add_at] at h0
          rw [h0]
          exact List.getElem?_eq_getElem hk
        exact ⟨t, fun _ => ⟨hs, hh 0 (by decide), hh 1 (by decide), hh 2 (by decide), hh 3 (by decide), hh 4 (by decide), hh 5 (by decide), hh 6 (by decide), hh 7 (by decide), hh 8 (by decide)⟩⟩
      · exact ⟨thg0, fun h => absurd h hil⟩
    obtain ⟨f, hf⟩ := Classical.axiomOfChoice each
    refine ⟨some a, (List.range len).map f, cap, by rw [h1]; simp, fun i hi => ?_⟩
    have hi' : i < len := by simpa using hi
    obtain ⟨hs, h0⟩ := hf i hi'
    refine ⟨a.block, a.off, by rw [← hs], ?_⟩
    have : gt ((List.range len).map f) i = f i := by simp [gt, hi']
    rw [this]
    exact h0
set_option maxRecDepth 100000 in
theorem trod_pair {fuel : Nat} {cs : List Value} {x : DataW H × List MemPlace} (h : DataW.trod enc Try.prog w base spare held fuel 26 cs = some x) :
    ∃ (p : Par) (a : Option Addr) (c : Nat), cs = [.int .i64 p.focal.lo, .int .i64 p.focal.hi, .int .i64 p.base.lo, .int .i64 p.base.hi, .int .i64 p.tilt, .int .i64 p.near, .int .i64 p.far, .slice a p.things.length c] ∧ IsThs w a p.things := by
  obtain ⟨xs, n, _, _, hl, hx, hf⟩ := DataW.trod_struct Try.underlying26 h
  rw [Try.cells26] at hl
  have hx : xs.length = 6 := hx
  match cs, hl, xs, hx with
  | [c0, c1, c2, c3, c4, c5, c6, c7], _, [x0, x1, x2, x3, x4, x5], _ =>
    have f0 : DataW.trod enc Try.prog w base spare held n 23 (([c0, c1, c2, c3, c4, c5, c6, c7].drop 0).take (Try.prog.cellsOf 23)) = some x0 := hf 0 _ rfl
    have f1 : DataW.trod enc Try.prog w base spare held n 23 (([c0, c1, c2, c3, c4, c5, c6, c7].drop 2).take (Try.prog.cellsOf 23)) = some x1 := hf 1 _ rfl
    have f2 : DataW.trod enc Try.prog w base spare held n 3 (([c0, c1, c2, c3, c4, c5, c6, c7].drop 4).take (Try.prog.cellsOf 3)) = some x2 := hf 2 _ rfl
    have f3 : DataW.trod enc Try.prog w base spare held n 3 (([c0, c1, c2, c3, c4, c5, c6, c7].drop 5).take (Try.prog.cellsOf 3)) = some x3 := hf 3 _ rfl
    have f4 : DataW.trod enc Try.prog w base spare held n 3 (([c0, c1, c2, c3, c4, c5, c6, c7].drop 6).take (Try.prog.cellsOf 3)) = some x4 := hf 4 _ rfl
    have f5 : DataW.trod enc Try.prog w base spare held n 24 (([c0, c1, c2, c3, c4, c5, c6, c7].drop 7).take (Try.prog.cellsOf 24)) = some x5 := hf 5 _ rfl
    rw [Try.cells23] at f0
    rw [Try.cells23] at f1
    rw [Try.cells3] at f2
    rw [Try.cells3] at f3
    rw [Try.cells3] at f4
    rw [Try.cells24] at f5
    obtain ⟨fo, h0⟩ := trod_span f0
    obtain ⟨ba, h1⟩ := trod_span f1
    obtain ⟨ti, h2⟩ := trod_c1 Try.underlying3 f2
    obtain ⟨ne, h3⟩ := trod_c1 Try.underlying3 f3
    obtain ⟨fa, h4⟩ := trod_c1 Try.underlying3 f4
    obtain ⟨a, l, c, h5, hs⟩ := open_thsL f5
    simp only [List.drop_succ_cons, List.drop_zero, List.take_succ_cons, List.take_zero, List.cons.injEq, and_true] at h0 h1 h2 h3 h4
    obtain ⟨e0, e1⟩ := h0
    obtain ⟨e2, e3⟩ := h1
    exact ⟨⟨fo, ba, ti, ne, fa, l⟩, a, c, by rw [e0, e1, e2, e3, h2, h3, h4, h5], hs⟩
set_option maxRecDepth 100000 in
theorem open_gla {b0 : Nat} {v : Value} {d : DataW H} {q : List MemPlace} (hv : Value.okWide Try.prog w .any b0 28 v) (h : DataW.Trod enc Try.prog w base spare held 28 v d q) :
    ∃ (g : Gla) (a1 : Option Addr) (c1 : Nat) (a2 : Option Addr) (c2 : Nat), v = .agg #[.int .i64 g.first.focal.lo, .int .i64 g.first.focal.hi, .int .i64 g.first.base.lo, .int .i64 g.first.base.hi, .int .i64 g.first.tilt, .int .i64 g.first.near, .int .i64 g.first.far, .slice a1 g.first.things.length c1, .int .i64 g.second.focal.lo, .int .i64 g.second.focal.hi, .int .i64 g.second.base.lo, .int .i64 g.second.base.hi, .int .i64 g.second.tilt, .int .i64 g.second.near, .int .i64 g.second.far, .slice a2 g.second.things.length c2, .int .i64 g.day1, .int .i64 g.day2] ∧ IsThs w a1 g.first.things ∧ IsThs w a2 g.second.things := by
  obtain ⟨cs, rfl, hsz⟩ := okWide_struct Try.underlying28 hv
  rw [Try.cells28] at hsz
  obtain ⟨fuel, hf⟩ := h
  obtain ⟨xs, n, _, _, hl, hx, hf⟩ := DataW.trod_struct Try.underlying28 hf
  have hx : xs.length = 4 := hx
  obtain ⟨l⟩ := cs
  have hsz : l.length = 18 := hsz
  match l, hsz, xs, hx with
  | [c0, c1, c2, c3, c4, c5, c6, c7, c8, c9, c10, c11, c12, c13, c14, c15, c16, c17], _, [x0, x1, x2, x3], _ =>
    have f0 : DataW.trod enc Try.prog w base spare held n 26 (([c0, c1, c2, c3, c4, c5, c6, c7, c8, c9, c10, c11, c12, c13, c14, c15, c16, c17].drop 0).take (Try.prog.cellsOf 26)) = some x0 := hf 0 _ rfl
    have f1 : DataW.trod enc Try.prog w base spare held n 26 (([c0, c1, c2, c3, c4, c5, c6, c7, c8, c9, c10, c11, c12, c13, c14, c15, c16, c17].drop 8).take (Try.prog.cellsOf 26)) = some x1 := hf 1 _ rfl
    have f2 : DataW.trod enc Try.prog w base spare held n 3 (([c0, c1, c2, c3, c4, c5, c6, c7, c8, c9, c10, c11, c12, c13, c14, c15, c16, c17].drop 16).take (Try.prog.cellsOf 3)) = some x2 := hf 2 _ rfl
    have f3 : DataW.trod enc Try.prog w base spare held n 3 (([c0, c1, c2, c3, c4, c5, c6, c7, c8, c9, c10, c11, c12, c13, c14, c15, c16, c17].drop 17).take (Try.prog.cellsOf 3)) = some x3 := hf 3 _ rfl
    rw [Try.cells26] at f0
    rw [Try.cells26] at f1
    rw [Try.cells3] at f2
    rw [Try.cells3] at f3
    obtain ⟨p1, a1, c1, h0, hs1⟩ := trod_pair f0
    obtain ⟨p2, a2, c2, h1, hs2⟩ := trod_pair f1
    obtain ⟨d1, h2⟩ := trod_c1 Try.underlying3 f2
    obtain ⟨d2, h3⟩ := trod_c1 Try.underlying3 f3
    simp only [List.drop_succ_cons, List.drop_zero, List.take_succ_cons, List.take_zero, List.cons.injEq, and_true] at h0 h1 h2 h3
    obtain ⟨rfl, rfl, rfl, rfl, rfl, rfl, rfl, rfl⟩ := h0
    obtain ⟨rfl, rfl, rfl, rfl, rfl, rfl, rfl, rfl⟩ := h1
    subst h2 h3
    exact ⟨⟨p1, p2, d1, d2⟩, a1, c1, a2, c2, rfl, hs1, hs2⟩
end
end Go.Proofs.Ytbnhngfegnhaiaa
