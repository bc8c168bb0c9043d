/- CopyChain: a card is picked: the drawn region. CopyChain: the picks. CopyChain: the head; all prints. -/
import Derived.Test.YtnfhlbmapfoifaaR35
import Derived.Test.YtnfhlbmapfoifaaU8
namespace Go.Proofs.Ytnfhlbmapfoifaa
open Go.RowKit
set_option linter.unusedVariables false

structure pick23F (ao : Option Addr) (j : Nat) (co : Nat) (fb : Nat) (ln : Nat) (cf : Nat) (k : Nat) (x : Int) (at_ : Option Addr) (S0 : World → Prop) (S1 : Nat → World → Prop) (S2 : Nat → Option Addr × Nat → World → Prop) (S3 : Nat → Option Addr × Nat → Option Addr × Nat → World → Prop) (d : Nat → Bool) (x101 x102 x103 x104 x105 x106 x107 x108 x109 x110 x111 x112 x113 x114 x115 x9 x10 : Value) (ms : Nat) (r1 : Option Addr × Nat) (r2 : Option Addr × Nat) (w : World) : Prop where
  q3 : d 3 = true → d 1 = true ∧ d 2 = true
  q4 : d 4 = true → d 3 = true
  q5 : d 5 = true → d 4 = true
  q6 : d 6 = true → d 0 = true ∧ d 5 = true
  q9 : d 9 = true → d 7 = true ∧ d 8 = true
  q12 : d 12 = true → d 11 = true
  q13 : d 13 = true → d 10 = true ∧ d 12 = true
  q14 : d 14 = true → d 6 = true ∧ d 9 = true ∧ d 13 = true
  q15 : d 15 = true → d 0 = true ∧ d 1 = true ∧ d 2 = true ∧ d 3 = true ∧ d 4 = true ∧ d 5 = true ∧ d 6 = true ∧ d 14 = true
  q16 : d 16 = true → d 0 = true ∧ d 1 = true ∧ d 2 = true ∧ d 3 = true ∧ d 4 = true ∧ d 5 = true ∧ d 6 = true ∧ d 7 = true ∧ d 8 = true ∧ d 9 = true ∧ d 10 = true ∧ d 11 = true ∧ d 12 = true ∧ d 13 = true ∧ d 14 = true ∧ d 15 = true
  f0 : d 0 = true → x101 = .slice ao j co
  f1 : d 1 = true → x102 = .slice (some ⟨fb, 0, none⟩) ln cf
  f2 : d 2 = true → x103 = .int .i64 k
  f3 : d 3 = true → x104 = .pointer (some ⟨fb, k, none⟩)
  f4 : d 4 = true → x105 = .int .i64 x
  f5 : d 5 = true → x106 = .slice (some ⟨ms, 0, none⟩) 1 1
  f6 : d 6 = true → x107 = .slice r1.1 (j + 1) r1.2
  f7 : d 7 = true → x108 = .slice (some ⟨fb, 0, none⟩) ln cf
  f8 : d 8 = true → x109 = .int .i64 k
  f9 : d 9 = true → x110 = .slice (some ⟨fb, 0, none⟩) k cf
  f10 : d 10 = true → x111 = .slice (some ⟨fb, 0, none⟩) ln cf
  f11 : d 11 = true → x112 = .int .i64 k
  f12 : d 12 = true → x113 = .int .i64 ((k : Int) + 1)
  f13 : d 13 = true → x114 = .slice at_ (ln - (k + 1)) (cf - (k + 1))
  f14 : d 14 = true → x115 = .slice r2.1 (ln - 1) r2.2
  f15 : d 15 = true → x9 = .slice r1.1 (j + 1) r1.2
  f16 : d 16 = true → x10 = .slice r2.1 (ln - 1) r2.2
  g15 : d 15 = false → .slice ao j co = x9
  g16 : d 16 = false → .slice (some ⟨fb, 0, none⟩) ln cf = x10
  st0 : d 5 = false → S0 w
  st1 : d 5 = true → d 6 = false → S1 ms w
  st2 : d 6 = true → d 14 = false → S2 ms r1 w
  st3 : d 14 = true → S3 ms r1 r2 w
noncomputable def pick23C : Code := (Try.f5.body.bind (regionAt 23)).getD .skip
set_option maxRecDepth 100000 in
set_option maxHeartbeats 4000000 in
theorem pick23 {ao : Option Addr} {j : Nat} {co : Nat} {fb : Nat} {ln : Nat} {cf : Nat} {k : Nat} {x : Int} {at_ : Option Addr} {S0 : World → Prop} {S1 : Nat → World → Prop} {S2 : Nat → Option Addr × Nat → World → Prop} {S3 : Nat → Option Addr × Nat → Option Addr × Nat → World → Prop} {Q : Exit → Act → World → Prop} {W1 : World} (hk : k < ln) (hln : ln ≤ 16) (hcf : ln ≤ cf) (hcf2 : cf ≤ 16) (hat : (if cf = k + 1 then some (⟨fb, 0, none⟩ : Addr) else some ⟨fb, k + 1, none⟩) = at_) (h0 : S0 W1.drew)
    (kl4 : Hid (∀ (w : World), (S0 w) → w.cell? ⟨fb, k, none⟩ = some (.int .i64 x)))
    (kc5 : Hid (∀ (w : World), S0 w → S1 w.heap.size (w.alloc (.cells #[.int .i64 x] 3))))
    (kc6 : Hid (∀ (ms : Nat) (w : World), S1 ms w → ∃ (r1 : Option Addr × Nat) (w' : World), (Builtin.append_ #[42, 42] 42 #[.slice ao j co, .slice (some ⟨ms, 0, none⟩) 1 1]).run Try.prog w = .ok (.slice r1.1 (j + 1) r1.2) w' ∧ S2 ms r1 w'))
    (kc14 : Hid (∀ (ms : Nat) (r1 : Option Addr × Nat) (w : World), S2 ms r1 w → ∃ (r2 : Option Addr × Nat) (w' : World), (Builtin.append_ #[42, 42] 42 #[.slice (some ⟨fb, 0, none⟩) k cf, .slice at_ (ln - (k + 1)) (cf - (k + 1))]).run Try.prog w = .ok (.slice r2.1 (ln - 1) r2.2) w' ∧ S3 ms r1 r2 w'))
    {s0 s1 s2 s3 s4 s5 s6 s7 s8 s11 s12 s14 s15 s16 s17 s18 s19 s20 s21 s22 s23 s24 s25 s26 s27 s28 s29 s30 s31 s32 s33 s34 s35 s36 s37 s38 s39 s40 s41 s42 s43 s44 s45 s46 s47 s48 s49 s50 s51 s52 s53 s54 s55 s56 s57 s58 s59 s60 s61 s62 s63 s64 s65 s66 s67 s68 s69 s70 s71 s72 s73 s74 s75 s76 s77 s78 s79 s80 s81 s82 s83 s84 s85 s86 s87 s88 s89 s90 s91 s92 s93 s94 s95 s96 s97 s98 s99 s100 s101 s102 s103 s104 s105 s106 s107 s108 s109 s110 s111 s112 s113 s114 s115 s116 s117 s118 s119 s120 s121 s122 s123 s124 s125 s126 s127 s128 s129 s130 s131 s132 s133 s134 s135 s136 s137 s138 s139 s140 s141 s142 s143 s144 s145 s146 s147 s148 s149 s150 s151 s152 s153 s154 s155 s156 s157 s158 s159 s160 s161 s162 s163 s164 s165 s166 s167 s168 s169 s170 s171 s172 s173 s174 s175 s176 s177 s178 s179 s180 s181 s182 s183 s184 s185 s186 s187 s188 s189 s190 s191 s192 s193 s194 s195 s196 s197 s198 s199 s200 s201 s202 s203 s204 s205 s206 s207 s208 s209 s210 s211 s212 s213 s214 s215 s216 s217 s218 s219 s220 s221 s222 s223 s224 s225 s226 s227 s228 s229 s230 s231 s232 s233 s234 s235 s236 s237 s238 s239 s240 s241 s242 s243 s244 s245 s246 s247 : Value} {dd : List Deferred}
    (hQ : ∀ (ms : Nat) (r1 : Option Addr × Nat) (r2 : Option Addr × Nat) (w' : World), S3 ms r1 r2 w' → Q .normal { tmps := #[s0, s1, s2, s3, s4, s5, s6, s7, s8, .slice r1.1 (j + 1) r1.2, .slice r2.1 (ln - 1) r2.2, s11, s12, .int .i64 k, s14, s15, s16, s17, s18, s19, s20, s21, s22, s23, s24, s25, s26, s27, s28, s29, s30, s31, s32, s33, s34, s35, s36, s37, s38, s39, s40, s41, s42, s43, s44, s45, s46, s47, s48, s49, s50, s51, s52, s53, s54, s55, s56, s57, s58, s59, s60, s61, s62, s63, s64, s65, s66, s67, s68, s69, s70, s71, s72, s73, s74, s75, s76, s77, s78, s79, s80, s81, s82, s83, s84, s85, s86, s87, s88, s89, s90, s91, s92, s93, s94, s95, s96, s97, s98, s99, s100, .slice ao j co, .slice (some ⟨fb, 0, none⟩) ln cf, .int .i64 k, .pointer (some ⟨fb, k, none⟩), .int .i64 x, .slice (some ⟨ms, 0, none⟩) 1 1, .slice r1.1 (j + 1) r1.2, .slice (some ⟨fb, 0, none⟩) ln cf, .int .i64 k, .slice (some ⟨fb, 0, none⟩) k cf, .slice (some ⟨fb, 0, none⟩) ln cf, .int .i64 k, .int .i64 ((k : Int) + 1), .slice at_ (ln - (k + 1)) (cf - (k + 1)), .slice r2.1 (ln - 1) r2.2, s116, s117, s118, s119, s120, s121, s122, s123, s124, s125, s126, s127, s128, s129, s130, s131, s132, s133, s134, s135, s136, s137, s138, s139, s140, s141, s142, s143, s144, s145, s146, s147, s148, s149, s150, s151, s152, s153, s154, s155, s156, s157, s158, s159, s160, s161, s162, s163, s164, s165, s166, s167, s168, s169, s170, s171, s172, s173, s174, s175, s176, s177, s178, s179, s180, s181, s182, s183, s184, s185, s186, s187, s188, s189, s190, s191, s192, s193, s194, s195, s196, s197, s198, s199, s200, s201, s202, s203, s204, s205, s206, s207, s208, s209, s210, s211, s212, s213, s214, s215, s216, s217, s218, s219, s220, s221, s222, s223, s224, s225, s226, s227, s228, s229, s230, s231, s232, s233, s234, s235, s236, s237, s238, s239, s240, s241, s242, s243, s244, s245, s246, s247], defers := dd } w') :
    Code.wpIn (wideAt none) 0 Try.prog pick23C Q { tmps := #[s0, s1, s2, s3, s4, s5, s6, s7, s8, .slice ao j co, .slice (some ⟨fb, 0, none⟩) ln cf, s11, s12, .int .i64 k, s14, s15, s16, s17, s18, s19, s20, s21, s22, s23, s24, s25, s26, s27, s28, s29, s30, s31, s32, s33, s34, s35, s36, s37, s38, s39, s40, s41, s42, s43, s44, s45, s46, s47, s48, s49, s50, s51, s52, s53, s54, s55, s56, s57, s58, s59, s60, s61, s62, s63, s64, s65, s66, s67, s68, s69, s70, s71, s72, s73, s74, s75, s76, s77, s78, s79, s80, s81, s82, s83, s84, s85, s86, s87, s88, s89, s90, s91, s92, s93, s94, s95, s96, s97, s98, s99, s100, s101, s102, s103, s104, s105, s106, s107, s108, s109, s110, s111, s112, s113, s114, s115, s116, s117, s118, s119, s120, s121, s122, s123, s124, s125, s126, s127, s128, s129, s130, s131, s132, s133, s134, s135, s136, s137, s138, s139, s140, s141, s142, s143, s144, s145, s146, s147, s148, s149, s150, s151, s152, s153, s154, s155, s156, s157, s158, s159, s160, s161, s162, s163, s164, s165, s166, s167, s168, s169, s170, s171, s172, s173, s174, s175, s176, s177, s178, s179, s180, s181, s182, s183, s184, s185, s186, s187, s188, s189, s190, s191, s192, s193, s194, s195, s196, s197, s198, s199, s200, s201, s202, s203, s204, s205, s206, s207, s208, s209, s210, s211, s212, s213, s214, s215, s216, s217, s218, s219, s220, s221, s222, s223, s224, s225, s226, s227, s228, s229, s230, s231, s232, s233, s234, s235, s236, s237, s238, s239, s240, s241, s242, s243, s244, s245, s246, s247], defers := dd } W1 := by
  have HQ := Lib.hid hQ
  clear hQ
  conv => arg 4; whnf
  refine wpIn_region_invG mixed (by kernel_rfl) (fun d_ a_ w' => ∃ (x101 : Value) (x102 : Value) (x103 : Value) (x104 : Value) (x105 : Value) (x106 : Value) (x107 : Value) (x108 : Value) (x109 : Value) (x110 : Value) (x111 : Value) (x112 : Value) (x113 : Value) (x114 : Value) (x115 : Value) (x9 : Value) (x10 : Value) (ms : Nat) (r1 : Option Addr × Nat) (r2 : Option Addr × Nat), a_ = { tmps := #[s0, s1, s2, s3, s4, s5, s6, s7, s8, x9, x10, s11, s12, .int .i64 k, s14, s15, s16, s17, s18, s19, s20, s21, s22, s23, s24, s25, s26, s27, s28, s29, s30, s31, s32, s33, s34, s35, s36, s37, s38, s39, s40, s41, s42, s43, s44, s45, s46, s47, s48, s49, s50, s51, s52, s53, s54, s55, s56, s57, s58, s59, s60, s61, s62, s63, s64, s65, s66, s67, s68, s69, s70, s71, s72, s73, s74, s75, s76, s77, s78, s79, s80, s81, s82, s83, s84, s85, s86, s87, s88, s89, s90, s91, s92, s93, s94, s95, s96, s97, s98, s99, s100, x101, x102, x103, x104, x105, x106, x107, x108, x109, x110, x111, x112, x113, x114, x115, s116, s117, s118, s119, s120, s121, s122, s123, s124, s125, s126, s127, s128, s129, s130, s131, s132, s133, s134, s135, s136, s137, s138, s139, s140, s141, s142, s143, s144, s145, s146, s147, s148, s149, s150, s151, s152, s153, s154, s155, s156, s157, s158, s159, s160, s161, s162, s163, s164, s165, s166, s167, s168, s169, s170, s171, s172, s173, s174, s175, s176, s177, s178, s179, s180, s181, s182, s183, s184, s185, s186, s187, s188, s189, s190, s191, s192, s193, s194, s195, s196, s197, s198, s199, s200, s201, s202, s203, s204, s205, s206, s207, s208, s209, s210, s211, s212, s213, s214, s215, s216, s217, s218, s219, s220, s221, s222, s223, s224, s225, s226, s227, s228, s229, s230, s231, s232, s233, s234, s235, s236, s237, s238, s239, s240, s241, s242, s243, s244, s245, s246, s247], defers := dd } ∧ pick23F ao j co fb ln cf k x at_ S0 S1 S2 S3 d_ x101 x102 x103 x104 x105 x106 x107 x108 x109 x110 x111 x112 x113 x114 x115 x9 x10 ms r1 r2 w') ?_ ?_ ?_
  · refine ⟨s101, s102, s103, s104, s105, s106, s107, s108, s109, s110, s111, s112, s113, s114, s115, (.slice ao j co), (.slice (some ⟨fb, 0, none⟩) ln cf), 0, default, default, rfl, ?_⟩
    constructor <;> first | rfl | (intro _; rfl) | (intro h; cases h; done) | (intro _; exact h0) | exact h0
  · refine ⟨?_, ?_, ?_, ?_, ?_, ?_, ?_, ?_, ?_, ?_, ?_, ?_, ?_, ?_, ?_, ?_, ?_, trivial⟩
    all_goals
      rintro d_ a_ w1 K hd_ hdep ⟨x101, x102, x103, x104, x105, x106, x107, x108, x109, x110, x111, x112, x113, x114, x115, x9, x10, ms, r1, r2, rfl, F⟩ HK
      simp [Region.binds] at hdep
    · have n15_ : d_ 15 = false := by
        cases e_ : d_ 15 with
        | false => rfl
        | true => have h2 := (F.q15 e_).1; rw [show d_ 0 = false from hd_] at h2; cases h2
      have g15_ := F.g15 n15_
      subst g15_
      have HF : Hid (pick23F ao j co fb ln cf k x at_ S0 S1 S2 S3 (upd d_ 0) (.slice ao j co) x102 x103 x104 x105 x106 x107 x108 x109 x110 x111 x112 x113 x114 x115 (.slice ao j co) x10 ms r1 r2 w1) := ⟨F.q3, F.q4, F.q5, fun h => ⟨rfl, (F.q6 h).2⟩, F.q9, F.q12, F.q13, F.q14, fun h => ⟨rfl, (F.q15 h).2.1, (F.q15 h).2.2.1, (F.q15 h).2.2.2.1, (F.q15 h).2.2.2.2.1, (F.q15 h).2.2.2.2.2.1, (F.q15 h).2.2.2.2.2.2.1, (F.q15 h).2.2.2.2.2.2.2⟩, fun h => ⟨rfl, (F.q16 h).2.1, (F.q16 h).2.2.1, (F.q16 h).2.2.2.1, (F.q16 h).2.2.2.2.1, (F.q16 h).2.2.2.2.2.1, (F.q16 h).2.2.2.2.2.2.1, (F.q16 h).2.2.2.2.2.2.2.1, (F.q16 h).2.2.2.2.2.2.2.2.1, (F.q16 h).2.2.2.2.2.2.2.2.2.1, (F.q16 h).2.2.2.2.2.2.2.2.2.2.1, (F.q16 h).2.2.2.2.2.2.2.2.2.2.2.1, (F.q16 h).2.2.2.2.2.2.2.2.2.2.2.2.1, (F.q16 h).2.2.2.2.2.2.2.2.2.2.2.2.2.1, (F.q16 h).2.2.2.2.2.2.2.2.2.2.2.2.2.2.1, (F.q16 h).2.2.2.2.2.2.2.2.2.2.2.2.2.2.2⟩, fun _ => rfl, F.f1, F.f2, F.f3, F.f4, F.f5, F.f6, F.f7, F.f8, F.f9, F.f10, F.f11, F.f12, F.f13, F.f14, F.f15, F.f16, F.g15, F.g16, F.st0, F.st1, F.st2, F.st3⟩
      clear F
      go_simp
      exact HK.out _ _ ⟨_, _, _, _, _, _, _, _, _, _, _, _, _, _, _, _, _, _, _, _, rfl, HF.out⟩
    · have n16_ : d_ 16 = false := by
        cases e_ : d_ 16 with
        | false => rfl
        | true => have h2 := (F.q16 e_).2.1; rw [show d_ 1 = false from hd_] at h2; cases h2
      have g16_ := F.g16 n16_
      subst g16_
      have HF : Hid (pick23F ao j co fb ln cf k x at_ S0 S1 S2 S3 (upd d_ 1) x101 (.slice (some ⟨fb, 0, none⟩) ln cf) x103 x104 x105 x106 x107 x108 x109 x110 x111 x112 x113 x114 x115 x9 (.slice (some ⟨fb, 0, none⟩) ln cf) ms r1 r2 w1) := ⟨fun h => ⟨rfl, (F.q3 h).2⟩, F.q4, F.q5, F.q6, F.q9, F.q12, F.q13, F.q14, fun h => ⟨(F.q15 h).1, rfl, (F.q15 h).2.2.1, (F.q15 h).2.2.2.1, (F.q15 h).2.2.2.2.1, (F.q15 h).2.2.2.2.2.1, (F.q15 h).2.2.2.2.2.2.1, (F.q15 h).2.2.2.2.2.2.2⟩, fun h => ⟨(F.q16 h).1, rfl, (F.q16 h).2.2.1, (F.q16 h).2.2.2.1, (F.q16 h).2.2.2.2.1, (F.q16 h).2.2.2.2.2.1, (F.q16 h).2.2.2.2.2.2.1, (F.q16 h).2.2.2.2.2.2.2.1, (F.q16 h).2.2.2.2.2.2.2.2.1, (F.q16 h).2.2.2.2.2.2.2.2.2.1, (F.q16 h).2.2.2.2.2.2.2.2.2.2.1, (F.q16 h).2.2.2.2.2.2.2.2.2.2.2.1, (F.q16 h).2.2.2.2.2.2.2.2.2.2.2.2.1, (F.q16 h).2.2.2.2.2.2.2.2.2.2.2.2.2.1, (F.q16 h).2.2.2.2.2.2.2.2.2.2.2.2.2.2.1, (F.q16 h).2.2.2.2.2.2.2.2.2.2.2.2.2.2.2⟩, F.f0, fun _ => rfl, F.f2, F.f3, F.f4, F.f5, F.f6, F.f7, F.f8, F.f9, F.f10, F.f11, F.f12, F.f13, F.f14, F.f15, F.f16, F.g15, F.g16, F.st0, F.st1, F.st2, F.st3⟩
      clear F
      go_simp
      exact HK.out _ _ ⟨_, _, _, _, _, _, _, _, _, _, _, _, _, _, _, _, _, _, _, _, rfl, HF.out⟩
    · have HF : Hid (pick23F ao j co fb ln cf k x at_ S0 S1 S2 S3 (upd d_ 2) x101 x102 (.int .i64 k) x104 x105 x106 x107 x108 x109 x110 x111 x112 x113 x114 x115 x9 x10 ms r1 r2 w1) := ⟨fun h => ⟨(F.q3 h).1, rfl⟩, F.q4, F.q5, F.q6, F.q9, F.q12, F.q13, F.q14, fun h => ⟨(F.q15 h).1, (F.q15 h).2.1, rfl, (F.q15 h).2.2.2.1, (F.q15 h).2.2.2.2.1, (F.q15 h).2.2.2.2.2.1, (F.q15 h).2.2.2.2.2.2.1, (F.q15 h).2.2.2.2.2.2.2⟩, fun h => ⟨(F.q16 h).1, (F.q16 h).2.1, rfl, (F.q16 h).2.2.2.1, (F.q16 h).2.2.2.2.1, (F.q16 h).2.2.2.2.2.1, (F.q16 h).2.2.2.2.2.2.1, (F.q16 h).2.2.2.2.2.2.2.1, (F.q16 h).2.2.2.2.2.2.2.2.1, (F.q16 h).2.2.2.2.2.2.2.2.2.1, (F.q16 h).2.2.2.2.2.2.2.2.2.2.1, (F.q16 h).2.2.2.2.2.2.2.2.2.2.2.1, (F.q16 h).2.2.2.2.2.2.2.2.2.2.2.2.1, (F.q16 h).2.2.2.2.2.2.2.2.2.2.2.2.2.1, (F.q16 h).2.2.2.2.2.2.2.2.2.2.2.2.2.2.1, (F.q16 h).2.2.2.2.2.2.2.2.2.2.2.2.2.2.2⟩, F.f0, F.f1, fun _ => rfl, F.f3, F.f4, F.f5, F.f6, F.f7, F.f8, F.f9, F.f10, F.f11, F.f12, F.f13, F.f14, F.f15, F.f16, F.g15, F.g16, F.st0, F.st1, F.st2, F.st3⟩
      clear F
      go_simp
      exact HK.out _ _ ⟨_, _, _, _, _, _, _, _, _, _, _, _, _, _, _, _, _, _, _, _, rfl, HF.out⟩
    · obtain rfl := F.f1 (by simp [hdep])
      obtain rfl := F.f2 (by simp [hdep])
      have HF : Hid (pick23F ao j co fb ln cf k x at_ S0 S1 S2 S3 (upd d_ 3) x101 (.slice (some ⟨fb, 0, none⟩) ln cf) (.int .i64 k) (.pointer (some ⟨fb, k, none⟩)) x105 x106 x107 x108 x109 x110 x111 x112 x113 x114 x115 x9 x10 ms r1 r2 w1) := ⟨fun _ => ⟨(show _ from (by simp [hdep] : d_ 1 = true)), (show _ from (by simp [hdep] : d_ 2 = true))⟩, fun h => rfl, F.q5, F.q6, F.q9, F.q12, F.q13, F.q14, fun h => ⟨(F.q15 h).1, (F.q15 h).2.1, (F.q15 h).2.2.1, rfl, (F.q15 h).2.2.2.2.1, (F.q15 h).2.2.2.2.2.1, (F.q15 h).2.2.2.2.2.2.1, (F.q15 h).2.2.2.2.2.2.2⟩, fun h => ⟨(F.q16 h).1, (F.q16 h).2.1, (F.q16 h).2.2.1, rfl, (F.q16 h).2.2.2.2.1, (F.q16 h).2.2.2.2.2.1, (F.q16 h).2.2.2.2.2.2.1, (F.q16 h).2.2.2.2.2.2.2.1, (F.q16 h).2.2.2.2.2.2.2.2.1, (F.q16 h).2.2.2.2.2.2.2.2.2.1, (F.q16 h).2.2.2.2.2.2.2.2.2.2.1, (F.q16 h).2.2.2.2.2.2.2.2.2.2.2.1, (F.q16 h).2.2.2.2.2.2.2.2.2.2.2.2.1, (F.q16 h).2.2.2.2.2.2.2.2.2.2.2.2.2.1, (F.q16 h).2.2.2.2.2.2.2.2.2.2.2.2.2.2.1, (F.q16 h).2.2.2.2.2.2.2.2.2.2.2.2.2.2.2⟩, F.f0, F.f1, F.f2, fun _ => rfl, F.f4, F.f5, F.f6, F.f7, F.f8, F.f9, F.f10, F.f11, F.f12, F.f13, F.f14, F.f15, F.f16, F.g15, F.g16, F.st0, F.st1, F.st2, F.st3⟩
      clear F
      go_simp
      exact HK.out _ _ ⟨_, _, _, _, _, _, _, _, _, _, _, _, _, _, _, _, _, _, _, _, rfl, HF.out⟩
    · have hst : S0 w1 := by
        have n_ : d_ 5 = false := by
          cases e_ : d_ 5 with
          | false => rfl
          | true => have h2 := (F.q5 e_); rw [show d_ 4 = false from hd_] at h2; cases h2
        exact (F.st0 n_)
      have kk := kl4.out w1 hst
      clear hst
      obtain rfl := F.f3 (by simp [hdep])
      have HF : Hid (pick23F ao j co fb ln cf k x at_ S0 S1 S2 S3 (upd d_ 4) x101 x102 x103 (.pointer (some ⟨fb, k, none⟩)) (.int .i64 x) x106 x107 x108 x109 x110 x111 x112 x113 x114 x115 x9 x10 ms r1 r2 w1) := ⟨F.q3, fun _ => (show _ from (by simp [hdep] : d_ 3 = true)), fun h => rfl, F.q6, F.q9, F.q12, F.q13, F.q14, fun h => ⟨(F.q15 h).1, (F.q15 h).2.1, (F.q15 h).2.2.1, (F.q15 h).2.2.2.1, rfl, (F.q15 h).2.2.2.2.2.1, (F.q15 h).2.2.2.2.2.2.1, (F.q15 h).2.2.2.2.2.2.2⟩, fun h => ⟨(F.q16 h).1, (F.q16 h).2.1, (F.q16 h).2.2.1, (F.q16 h).2.2.2.1, rfl, (F.q16 h).2.2.2.2.2.1, (F.q16 h).2.2.2.2.2.2.1, (F.q16 h).2.2.2.2.2.2.2.1, (F.q16 h).2.2.2.2.2.2.2.2.1, (F.q16 h).2.2.2.2.2.2.2.2.2.1, (F.q16 h).2.2.2.2.2.2.2.2.2.2.1, (F.q16 h).2.2.2.2.2.2.2.2.2.2.2.1, (F.q16 h).2.2.2.2.2.2.2.2.2.2.2.2.1, (F.q16 h).2.2.2.2.2.2.2.2.2.2.2.2.2.1, (F.q16 h).2.2.2.2.2.2.2.2.2.2.2.2.2.2.1, (F.q16 h).2.2.2.2.2.2.2.2.2.2.2.2.2.2.2⟩, F.f0, F.f1, F.f2, F.f3, fun _ => rfl, F.f5, F.f6, F.f7, F.f8, F.f9, F.f10, F.f11, F.f12, F.f13, F.f14, F.f15, F.f16, F.g15, F.g16, F.st0, F.st1, F.st2, F.st3⟩
      clear F
      go_simp
      exact HK.out _ _ ⟨_, _, _, _, _, _, _, _, _, _, _, _, _, _, _, _, _, _, _, _, rfl, HF.out⟩
    · have hS := F.st0  hd_
      obtain rfl := F.f4 (by simp [hdep])
      have hres := kc5.out w1 hS
      have HF : Hid (pick23F ao j co fb ln cf k x at_ S0 S1 S2 S3 (upd d_ 5) x101 x102 x103 x104 (.int .i64 x) ((.slice (some ⟨w1.heap.size, 0, none⟩) 1 1)) x107 x108 x109 x110 x111 x112 x113 x114 x115 x9 x10 w1.heap.size r1 r2 (w1.alloc (.cells #[.int .i64 x] 3))) := ⟨F.q3, F.q4, fun _ => (show _ from (by simp [hdep] : d_ 4 = true)), fun h => ⟨(F.q6 h).1, rfl⟩, F.q9, F.q12, F.q13, F.q14, fun h => ⟨(F.q15 h).1, (F.q15 h).2.1, (F.q15 h).2.2.1, (F.q15 h).2.2.2.1, (F.q15 h).2.2.2.2.1, rfl, (F.q15 h).2.2.2.2.2.2.1, (F.q15 h).2.2.2.2.2.2.2⟩, fun h => ⟨(F.q16 h).1, (F.q16 h).2.1, (F.q16 h).2.2.1, (F.q16 h).2.2.2.1, (F.q16 h).2.2.2.2.1, rfl, (F.q16 h).2.2.2.2.2.2.1, (F.q16 h).2.2.2.2.2.2.2.1, (F.q16 h).2.2.2.2.2.2.2.2.1, (F.q16 h).2.2.2.2.2.2.2.2.2.1, (F.q16 h).2.2.2.2.2.2.2.2.2.2.1, (F.q16 h).2.2.2.2.2.2.2.2.2.2.2.1, (F.q16 h).2.2.2.2.2.2.2.2.2.2.2.2.1, (F.q16 h).2.2.2.2.2.2.2.2.2.2.2.2.2.1, (F.q16 h).2.2.2.2.2.2.2.2.2.2.2.2.2.2.1, (F.q16 h).2.2.2.2.2.2.2.2.2.2.2.2.2.2.2⟩, F.f0, F.f1, F.f2, F.f3, F.f4, fun _ => rfl, F.f6, F.f7, F.f8, F.f9, F.f10, F.f11, F.f12, F.f13, F.f14, F.f15, F.f16, F.g15, F.g16, fun h => (by simp [upd] at h), fun _ _ => hres, fun h _ => (by have h2 : d_ 5 = true := (F.q6 h).2; rw [show d_ 5 = false from hd_] at h2; cases h2), fun h => (by have h2 : d_ 5 = true := (F.q6 (F.q14 h).1).2; rw [show d_ 5 = false from hd_] at h2; cases h2)⟩
      clear F hS hres
      go_simp
      exact HK.out _ _ ⟨_, _, _, _, _, _, _, _, _, _, _, _, _, _, _, _, _, _, _, _, rfl, HF.out⟩
    · have hS := F.st1 (by simp [hdep] : d_ 5 = true) hd_
      obtain rfl := F.f0 (by simp [hdep])
      obtain rfl := F.f5 (by simp [hdep])
      obtain ⟨v_, w_, hr, hres⟩ := kc6.out ms w1 hS
      rw [if_pos (by rfl)]
      refine wpIn_append_run (.tmp 101) (.tmp 106) 42 rfl _ _ _ _ rfl rfl hr ?_
      exact HK.out _ _ ⟨_, _, _, _, _, _, _, _, _, _, _, _, _, _, _, _, _, ms, v_, r2, rfl, ⟨F.q3, F.q4, F.q5, fun _ => ⟨(show _ from (by simp [hdep] : d_ 0 = true)), (show _ from (by simp [hdep] : d_ 5 = true))⟩, F.q9, F.q12, F.q13, fun h => ⟨rfl, (F.q14 h).2.1, (F.q14 h).2.2⟩, fun h => ⟨(F.q15 h).1, (F.q15 h).2.1, (F.q15 h).2.2.1, (F.q15 h).2.2.2.1, (F.q15 h).2.2.2.2.1, (F.q15 h).2.2.2.2.2.1, rfl, (F.q15 h).2.2.2.2.2.2.2⟩, fun h => ⟨(F.q16 h).1, (F.q16 h).2.1, (F.q16 h).2.2.1, (F.q16 h).2.2.2.1, (F.q16 h).2.2.2.2.1, (F.q16 h).2.2.2.2.2.1, rfl, (F.q16 h).2.2.2.2.2.2.2.1, (F.q16 h).2.2.2.2.2.2.2.2.1, (F.q16 h).2.2.2.2.2.2.2.2.2.1, (F.q16 h).2.2.2.2.2.2.2.2.2.2.1, (F.q16 h).2.2.2.2.2.2.2.2.2.2.2.1, (F.q16 h).2.2.2.2.2.2.2.2.2.2.2.2.1, (F.q16 h).2.2.2.2.2.2.2.2.2.2.2.2.2.1, (F.q16 h).2.2.2.2.2.2.2.2.2.2.2.2.2.2.1, (F.q16 h).2.2.2.2.2.2.2.2.2.2.2.2.2.2.2⟩, F.f0, F.f1, F.f2, F.f3, F.f4, F.f5, fun _ => rfl, F.f7, F.f8, F.f9, F.f10, F.f11, F.f12, F.f13, F.f14, fun h => (by have h2 : d_ 6 = true := (F.q15 h).2.2.2.2.2.2.1; rw [show d_ 6 = false from hd_] at h2; cases h2), F.f16, F.g15, F.g16, fun h => (by have h2 : d_ 5 = false := h; rw [(by simp [hdep] : d_ 5 = true)] at h2; cases h2), fun _ h => (by simp [upd] at h), fun _ _ => hres, fun h => (by have h2 : d_ 6 = true := (F.q14 h).1; rw [show d_ 6 = false from hd_] at h2; cases h2)⟩⟩
    · have n16_ : d_ 16 = false := by
        cases e_ : d_ 16 with
        | false => rfl
        | true => have h2 := (F.q16 e_).2.2.2.2.2.2.2.1; rw [show d_ 7 = false from hd_] at h2; cases h2
      have g16_ := F.g16 n16_
      subst g16_
      have HF : Hid (pick23F ao j co fb ln cf k x at_ S0 S1 S2 S3 (upd d_ 7) x101 x102 x103 x104 x105 x106 x107 (.slice (some ⟨fb, 0, none⟩) ln cf) x109 x110 x111 x112 x113 x114 x115 x9 (.slice (some ⟨fb, 0, none⟩) ln cf) ms r1 r2 w1) := ⟨F.q3, F.q4, F.q5, F.q6, fun h => ⟨rfl, (F.q9 h).2⟩, F.q12, F.q13, F.q14, F.q15, fun h => ⟨(F.q16 h).1, (F.q16 h).2.1, (F.q16 h).2.2.1, (F.q16 h).2.2.2.1, (F.q16 h).2.2.2.2.1, (F.q16 h).2.2.2.2.2.1, (F.q16 h).2.2.2.2.2.2.1, rfl, (F.q16 h).2.2.2.2.2.2.2.2.1, (F.q16 h).2.2.2.2.2.2.2.2.2.1, (F.q16 h).2.2.2.2.2.2.2.2.2.2.1, (F.q16 h).2.2.2.2.2.2.2.2.2.2.2.1, (F.q16 h).2.2.2.2.2.2.2.2.2.2.2.2.1, (F.q16 h).2.2.2.2.2.2.2.2.2.2.2.2.2.1, (F.q16 h).2.2.2.2.2.2.2.2.2.2.2.2.2.2.1, (F.q16 h).2.2.2.2.2.2.2.2.2.2.2.2.2.2.2⟩, F.f0, F.f1, F.f2, F.f3, F.f4, F.f5, F.f6, fun _ => rfl, F.f8, F.f9, F.f10, F.f11, F.f12, F.f13, F.f14, F.f15, F.f16, F.g15, F.g16, F.st0, F.st1, F.st2, F.st3⟩
      clear F
      go_simp
      exact HK.out _ _ ⟨_, _, _, _, _, _, _, _, _, _, _, _, _, _, _, _, _, _, _, _, rfl, HF.out⟩
    · have HF : Hid (pick23F ao j co fb ln cf k x at_ S0 S1 S2 S3 (upd d_ 8) x101 x102 x103 x104 x105 x106 x107 x108 (.int .i64 k) x110 x111 x112 x113 x114 x115 x9 x10 ms r1 r2 w1) := ⟨F.q3, F.q4, F.q5, F.q6, fun h => ⟨(F.q9 h).1, rfl⟩, F.q12, F.q13, F.q14, F.q15, fun h => ⟨(F.q16 h).1, (F.q16 h).2.1, (F.q16 h).2.2.1, (F.q16 h).2.2.2.1, (F.q16 h).2.2.2.2.1, (F.q16 h).2.2.2.2.2.1, (F.q16 h).2.2.2.2.2.2.1, (F.q16 h).2.2.2.2.2.2.2.1, rfl, (F.q16 h).2.2.2.2.2.2.2.2.2.1, (F.q16 h).2.2.2.2.2.2.2.2.2.2.1, (F.q16 h).2.2.2.2.2.2.2.2.2.2.2.1, (F.q16 h).2.2.2.2.2.2.2.2.2.2.2.2.1, (F.q16 h).2.2.2.2.2.2.2.2.2.2.2.2.2.1, (F.q16 h).2.2.2.2.2.2.2.2.2.2.2.2.2.2.1, (F.q16 h).2.2.2.2.2.2.2.2.2.2.2.2.2.2.2⟩, F.f0, F.f1, F.f2, F.f3, F.f4, F.f5, F.f6, F.f7, fun _ => rfl, F.f9, F.f10, F.f11, F.f12, F.f13, F.f14, F.f15, F.f16, F.g15, F.g16, F.st0, F.st1, F.st2, F.st3⟩
      clear F
      go_simp
      exact HK.out _ _ ⟨_, _, _, _, _, _, _, _, _, _, _, _, _, _, _, _, _, _, _, _, rfl, HF.out⟩
    · obtain rfl := F.f7 (by simp [hdep])
      obtain rfl := F.f8 (by simp [hdep])
      have HF : Hid (pick23F ao j co fb ln cf k x at_ S0 S1 S2 S3 (upd d_ 9) x101 x102 x103 x104 x105 x106 x107 (.slice (some ⟨fb, 0, none⟩) ln cf) (.int .i64 k) (.slice (some ⟨fb, 0, none⟩) k cf) x111 x112 x113 x114 x115 x9 x10 ms r1 r2 w1) := ⟨F.q3, F.q4, F.q5, F.q6, fun _ => ⟨(show _ from (by simp [hdep] : d_ 7 = true)), (show _ from (by simp [hdep] : d_ 8 = true))⟩, F.q12, F.q13, fun h => ⟨(F.q14 h).1, rfl, (F.q14 h).2.2⟩, F.q15, fun h => ⟨(F.q16 h).1, (F.q16 h).2.1, (F.q16 h).2.2.1, (F.q16 h).2.2.2.1, (F.q16 h).2.2.2.2.1, (F.q16 h).2.2.2.2.2.1, (F.q16 h).2.2.2.2.2.2.1, (F.q16 h).2.2.2.2.2.2.2.1, (F.q16 h).2.2.2.2.2.2.2.2.1, rfl, (F.q16 h).2.2.2.2.2.2.2.2.2.2.1, (F.q16 h).2.2.2.2.2.2.2.2.2.2.2.1, (F.q16 h).2.2.2.2.2.2.2.2.2.2.2.2.1, (F.q16 h).2.2.2.2.2.2.2.2.2.2.2.2.2.1, (F.q16 h).2.2.2.2.2.2.2.2.2.2.2.2.2.2.1, (F.q16 h).2.2.2.2.2.2.2.2.2.2.2.2.2.2.2⟩, F.f0, F.f1, F.f2, F.f3, F.f4, F.f5, F.f6, F.f7, F.f8, fun _ => rfl, F.f10, F.f11, F.f12, F.f13, F.f14, F.f15, F.f16, F.g15, F.g16, F.st0, F.st1, F.st2, F.st3⟩
      clear F
      have hkc : (k : Int) ≤ (cf : Int) := by omega
      go_simp
      exact HK.out _ _ ⟨_, _, _, _, _, _, _, _, _, _, _, _, _, _, _, _, _, _, _, _, rfl, HF.out⟩
    · have n16_ : d_ 16 = false := by
        cases e_ : d_ 16 with
        | false => rfl
        | true => have h2 := (F.q16 e_).2.2.2.2.2.2.2.2.2.2.1; rw [show d_ 10 = false from hd_] at h2; cases h2
      have g16_ := F.g16 n16_
      subst g16_
      have HF : Hid (pick23F ao j co fb ln cf k x at_ S0 S1 S2 S3 (upd d_ 10) x101 x102 x103 x104 x105 x106 x107 x108 x109 x110 (.slice (some ⟨fb, 0, none⟩) ln cf) x112 x113 x114 x115 x9 (.slice (some ⟨fb, 0, none⟩) ln cf) ms r1 r2 w1) := ⟨F.q3, F.q4, F.q5, F.q6, F.q9, F.q12, fun h => ⟨rfl, (F.q13 h).2⟩, F.q14, F.q15, fun h => ⟨(F.q16 h).1, (F.q16 h).2.1, (F.q16 h).2.2.1, (F.q16 h).2.2.2.1, (F.q16 h).2.2.2.2.1, (F.q16 h).2.2.2.2.2.1, (F.q16 h).2.2.2.2.2.2.1, (F.q16 h).2.2.2.2.2.2.2.1, (F.q16 h).2.2.2.2.2.2.2.2.1, (F.q16 h).2.2.2.2.2.2.2.2.2.1, rfl, (F.q16 h).2.2.2.2.2.2.2.2.2.2.2.1, (F.q16 h).2.2.2.2.2.2.2.2.2.2.2.2.1, (F.q16 h).2.2.2.2.2.2.2.2.2.2.2.2.2.1, (F.q16 h).2.2.2.2.2.2.2.2.2.2.2.2.2.2.1, (F.q16 h).2.2.2.2.2.2.2.2.2.2.2.2.2.2.2⟩, F.f0, F.f1, F.f2, F.f3, F.f4, F.f5, F.f6, F.f7, F.f8, F.f9, fun _ => rfl, F.f11, F.f12, F.f13, F.f14, F.f15, F.f16, F.g15, F.g16, F.st0, F.st1, F.st2, F.st3⟩
      clear F
      go_simp
      exact HK.out _ _ ⟨_, _, _, _, _, _, _, _, _, _, _, _, _, _, _, _, _, _, _, _, rfl, HF.out⟩
    · have HF : Hid (pick23F ao j co fb ln cf k x at_ S0 S1 S2 S3 (upd d_ 11) x101 x102 x103 x104 x105 x106 x107 x108 x109 x110 x111 (.int .i64 k) x113 x114 x115 x9 x10 ms r1 r2 w1) := ⟨F.q3, F.q4, F.q5, F.q6, F.q9, fun h => rfl, F.q13, F.q14, F.q15, fun h => ⟨(F.q16 h).1, (F.q16 h).2.1, (F.q16 h).2.2.1, (F.q16 h).2.2.2.1, (F.q16 h).2.2.2.2.1, (F.q16 h).2.2.2.2.2.1, (F.q16 h).2.2.2.2.2.2.1, (F.q16 h).2.2.2.2.2.2.2.1, (F.q16 h).2.2.2.2.2.2.2.2.1, (F.q16 h).2.2.2.2.2.2.2.2.2.1, (F.q16 h).2.2.2.2.2.2.2.2.2.2.1, rfl, (F.q16 h).2.2.2.2.2.2.2.2.2.2.2.2.1, (F.q16 h).2.2.2.2.2.2.2.2.2.2.2.2.2.1, (F.q16 h).2.2.2.2.2.2.2.2.2.2.2.2.2.2.1, (F.q16 h).2.2.2.2.2.2.2.2.2.2.2.2.2.2.2⟩, F.f0, F.f1, F.f2, F.f3, F.f4, F.f5, F.f6, F.f7, F.f8, F.f9, F.f10, fun _ => rfl, F.f12, F.f13, F.f14, F.f15, F.f16, F.g15, F.g16, F.st0, F.st1, F.st2, F.st3⟩
      clear F
      go_simp
      exact HK.out _ _ ⟨_, _, _, _, _, _, _, _, _, _, _, _, _, _, _, _, _, _, _, _, rfl, HF.out⟩
    · obtain rfl := F.f11 (by simp [hdep])
      have HF : Hid (pick23F ao j co fb ln cf k x at_ S0 S1 S2 S3 (upd d_ 12) x101 x102 x103 x104 x105 x106 x107 x108 x109 x110 x111 (.int .i64 k) (.int .i64 ((k : Int) + 1)) x114 x115 x9 x10 ms r1 r2 w1) := ⟨F.q3, F.q4, F.q5, F.q6, F.q9, fun _ => (show _ from (by simp [hdep] : d_ 11 = true)), fun h => ⟨(F.q13 h).1, rfl⟩, F.q14, F.q15, fun h => ⟨(F.q16 h).1, (F.q16 h).2.1, (F.q16 h).2.2.1, (F.q16 h).2.2.2.1, (F.q16 h).2.2.2.2.1, (F.q16 h).2.2.2.2.2.1, (F.q16 h).2.2.2.2.2.2.1, (F.q16 h).2.2.2.2.2.2.2.1, (F.q16 h).2.2.2.2.2.2.2.2.1, (F.q16 h).2.2.2.2.2.2.2.2.2.1, (F.q16 h).2.2.2.2.2.2.2.2.2.2.1, (F.q16 h).2.2.2.2.2.2.2.2.2.2.2.1, rfl, (F.q16 h).2.2.2.2.2.2.2.2.2.2.2.2.2.1, (F.q16 h).2.2.2.2.2.2.2.2.2.2.2.2.2.2.1, (F.q16 h).2.2.2.2.2.2.2.2.2.2.2.2.2.2.2⟩, F.f0, F.f1, F.f2, F.f3, F.f4, F.f5, F.f6, F.f7, F.f8, F.f9, F.f10, F.f11, fun _ => rfl, F.f13, F.f14, F.f15, F.f16, F.g15, F.g16, F.st0, F.st1, F.st2, F.st3⟩
      clear F
      have hwr : IntKind.i64.wrap ((k : Int) + 1) = (k : Int) + 1 := by rw [IntKind.wrap_i64]; omega
      go_simp
      exact HK.out _ _ ⟨_, _, _, _, _, _, _, _, _, _, _, _, _, _, _, _, _, _, _, _, rfl, HF.out⟩
    · obtain rfl := F.f10 (by simp [hdep])
      obtain rfl := F.f12 (by simp [hdep])
      have HF : Hid (pick23F ao j co fb ln cf k x at_ S0 S1 S2 S3 (upd d_ 13) x101 x102 x103 x104 x105 x106 x107 x108 x109 x110 (.slice (some ⟨fb, 0, none⟩) ln cf) x112 (.int .i64 ((k : Int) + 1)) (.slice at_ (ln - (k + 1)) (cf - (k + 1))) x115 x9 x10 ms r1 r2 w1) := ⟨F.q3, F.q4, F.q5, F.q6, F.q9, F.q12, fun _ => ⟨(show _ from (by simp [hdep] : d_ 10 = true)), (show _ from (by simp [hdep] : d_ 12 = true))⟩, fun h => ⟨(F.q14 h).1, (F.q14 h).2.1, rfl⟩, F.q15, fun h => ⟨(F.q16 h).1, (F.q16 h).2.1, (F.q16 h).2.2.1, (F.q16 h).2.2.2.1, (F.q16 h).2.2.2.2.1, (F.q16 h).2.2.2.2.2.1, (F.q16 h).2.2.2.2.2.2.1, (F.q16 h).2.2.2.2.2.2.2.1, (F.q16 h).2.2.2.2.2.2.2.2.1, (F.q16 h).2.2.2.2.2.2.2.2.2.1, (F.q16 h).2.2.2.2.2.2.2.2.2.2.1, (F.q16 h).2.2.2.2.2.2.2.2.2.2.2.1, (F.q16 h).2.2.2.2.2.2.2.2.2.2.2.2.1, rfl, (F.q16 h).2.2.2.2.2.2.2.2.2.2.2.2.2.2.1, (F.q16 h).2.2.2.2.2.2.2.2.2.2.2.2.2.2.2⟩, F.f0, F.f1, F.f2, F.f3, F.f4, F.f5, F.f6, F.f7, F.f8, F.f9, F.f10, F.f11, F.f12, fun _ => rfl, F.f14, F.f15, F.f16, F.g15, F.g16, F.st0, F.st1, F.st2, F.st3⟩
      clear F
      have hk1 : (k : Int) + 1 ≤ (ln : Int) := by omega
      have hk2 : ((k : Int) + 1).toNat = k + 1 := by omega
      go_simp
      exact HK.out _ _ ⟨_, _, _, _, _, _, _, _, _, _, _, _, _, _, _, _, _, _, _, _, rfl, HF.out⟩
    · have hS := F.st2 (by simp [hdep] : d_ 6 = true) hd_
      obtain rfl := F.f9 (by simp [hdep])
      obtain rfl := F.f13 (by simp [hdep])
      obtain ⟨v_, w_, hr, hres⟩ := kc14.out ms r1 w1 hS
      rw [if_pos (by rfl)]
      refine wpIn_append_run (.tmp 110) (.tmp 114) 42 rfl _ _ _ _ rfl rfl hr ?_
      exact HK.out _ _ ⟨_, _, _, _, _, _, _, _, _, _, _, _, _, _, _, _, _, ms, r1, v_, rfl, ⟨F.q3, F.q4, F.q5, F.q6, F.q9, F.q12, F.q13, fun _ => ⟨(show _ from (by simp [hdep] : d_ 6 = true)), (show _ from (by simp [hdep] : d_ 9 = true)), (show _ from (by simp [hdep] : d_ 13 = true))⟩, fun h => ⟨(F.q15 h).1, (F.q15 h).2.1, (F.q15 h).2.2.1, (F.q15 h).2.2.2.1, (F.q15 h).2.2.2.2.1, (F.q15 h).2.2.2.2.2.1, (F.q15 h).2.2.2.2.2.2.1, rfl⟩, fun h => ⟨(F.q16 h).1, (F.q16 h).2.1, (F.q16 h).2.2.1, (F.q16 h).2.2.2.1, (F.q16 h).2.2.2.2.1, (F.q16 h).2.2.2.2.2.1, (F.q16 h).2.2.2.2.2.2.1, (F.q16 h).2.2.2.2.2.2.2.1, (F.q16 h).2.2.2.2.2.2.2.2.1, (F.q16 h).2.2.2.2.2.2.2.2.2.1, (F.q16 h).2.2.2.2.2.2.2.2.2.2.1, (F.q16 h).2.2.2.2.2.2.2.2.2.2.2.1, (F.q16 h).2.2.2.2.2.2.2.2.2.2.2.2.1, (F.q16 h).2.2.2.2.2.2.2.2.2.2.2.2.2.1, rfl, (F.q16 h).2.2.2.2.2.2.2.2.2.2.2.2.2.2.2⟩, F.f0, F.f1, F.f2, F.f3, F.f4, F.f5, F.f6, F.f7, F.f8, F.f9, F.f10, F.f11, F.f12, F.f13, fun _ => rfl, F.f15, fun h => (by have h2 : d_ 14 = true := (F.q16 h).2.2.2.2.2.2.2.2.2.2.2.2.2.2.1; rw [show d_ 14 = false from hd_] at h2; cases h2), F.g15, F.g16, fun h => (by have h2 : d_ 5 = false := h; rw [(F.q6 (by simp [hdep] : d_ 6 = true)).2] at h2; cases h2), fun _ h => (by have h2 : d_ 6 = false := h; rw [(by simp [hdep] : d_ 6 = true)] at h2; cases h2), fun _ h => (by simp [upd] at h), fun _ => hres⟩⟩
    · obtain rfl := F.f6 (by simp [hdep])
      have HF : Hid (pick23F ao j co fb ln cf k x at_ S0 S1 S2 S3 (upd d_ 15) x101 x102 x103 x104 x105 x106 (.slice r1.1 (j + 1) r1.2) x108 x109 x110 x111 x112 x113 x114 x115 (.slice r1.1 (j + 1) r1.2) x10 ms r1 r2 w1) := ⟨F.q3, F.q4, F.q5, F.q6, F.q9, F.q12, F.q13, F.q14, fun _ => ⟨(show _ from (by simp [hdep] : d_ 0 = true)), (show _ from (by simp [hdep] : d_ 1 = true)), (show _ from (by simp [hdep] : d_ 2 = true)), (show _ from (by simp [hdep] : d_ 3 = true)), (show _ from (by simp [hdep] : d_ 4 = true)), (show _ from (by simp [hdep] : d_ 5 = true)), (show _ from (by simp [hdep] : d_ 6 = true)), (show _ from (by simp [hdep] : d_ 14 = true))⟩, fun h => ⟨(F.q16 h).1, (F.q16 h).2.1, (F.q16 h).2.2.1, (F.q16 h).2.2.2.1, (F.q16 h).2.2.2.2.1, (F.q16 h).2.2.2.2.2.1, (F.q16 h).2.2.2.2.2.2.1, (F.q16 h).2.2.2.2.2.2.2.1, (F.q16 h).2.2.2.2.2.2.2.2.1, (F.q16 h).2.2.2.2.2.2.2.2.2.1, (F.q16 h).2.2.2.2.2.2.2.2.2.2.1, (F.q16 h).2.2.2.2.2.2.2.2.2.2.2.1, (F.q16 h).2.2.2.2.2.2.2.2.2.2.2.2.1, (F.q16 h).2.2.2.2.2.2.2.2.2.2.2.2.2.1, (F.q16 h).2.2.2.2.2.2.2.2.2.2.2.2.2.2.1, rfl⟩, F.f0, F.f1, F.f2, F.f3, F.f4, F.f5, F.f6, F.f7, F.f8, F.f9, F.f10, F.f11, F.f12, F.f13, F.f14, fun _ => rfl, F.f16, fun h => (by simp [upd] at h), F.g16, F.st0, F.st1, F.st2, F.st3⟩
      clear F
      go_simp
      exact HK.out _ _ ⟨_, _, _, _, _, _, _, _, _, _, _, _, _, _, _, _, _, _, _, _, rfl, HF.out⟩
    · obtain rfl := F.f14 (by simp [hdep])
      have HF : Hid (pick23F ao j co fb ln cf k x at_ S0 S1 S2 S3 (upd d_ 16) x101 x102 x103 x104 x105 x106 x107 x108 x109 x110 x111 x112 x113 x114 (.slice r2.1 (ln - 1) r2.2) x9 (.slice r2.1 (ln - 1) r2.2) ms r1 r2 w1) := ⟨F.q3, F.q4, F.q5, F.q6, F.q9, F.q12, F.q13, F.q14, F.q15, fun _ => ⟨(show _ from (by simp [hdep] : d_ 0 = true)), (show _ from (by simp [hdep] : d_ 1 = true)), (show _ from (by simp [hdep] : d_ 2 = true)), (show _ from (by simp [hdep] : d_ 3 = true)), (show _ from (by simp [hdep] : d_ 4 = true)), (show _ from (by simp [hdep] : d_ 5 = true)), (show _ from (by simp [hdep] : d_ 6 = true)), (show _ from (by simp [hdep] : d_ 7 = true)), (show _ from (by simp [hdep] : d_ 8 = true)), (show _ from (by simp [hdep] : d_ 9 = true)), (show _ from (by simp [hdep] : d_ 10 = true)), (show _ from (by simp [hdep] : d_ 11 = true)), (show _ from (by simp [hdep] : d_ 12 = true)), (show _ from (by simp [hdep] : d_ 13 = true)), (show _ from (by simp [hdep] : d_ 14 = true)), (show _ from (by simp [hdep] : d_ 15 = true))⟩, F.f0, F.f1, F.f2, F.f3, F.f4, F.f5, F.f6, F.f7, F.f8, F.f9, F.f10, F.f11, F.f12, F.f13, F.f14, F.f15, fun _ => rfl, F.g15, fun h => (by simp [upd] at h), F.st0, F.st1, F.st2, F.st3⟩
      clear F
      go_simp
      exact HK.out _ _ ⟨_, _, _, _, _, _, _, _, _, _, _, _, _, _, _, _, _, _, _, _, rfl, HF.out⟩
  · rintro d_ a_ w1 hall ⟨x101, x102, x103, x104, x105, x106, x107, x108, x109, x110, x111, x112, x113, x114, x115, x9, x10, ms, r1, r2, rfl, F⟩
    have hall' : ∀ k, k < 17 → d_ k = true := hall
    obtain rfl := F.f0 (hall' 0 (by decide))
    obtain rfl := F.f1 (hall' 1 (by decide))
    obtain rfl := F.f2 (hall' 2 (by decide))
    obtain rfl := F.f3 (hall' 3 (by decide))
    obtain rfl := F.f4 (hall' 4 (by decide))
    obtain rfl := F.f5 (hall' 5 (by decide))
    obtain rfl := F.f6 (hall' 6 (by decide))
    obtain rfl := F.f7 (hall' 7 (by decide))
    obtain rfl := F.f8 (hall' 8 (by decide))
    obtain rfl := F.f9 (hall' 9 (by decide))
    obtain rfl := F.f10 (hall' 10 (by decide))
    obtain rfl := F.f11 (hall' 11 (by decide))
    obtain rfl := F.f12 (hall' 12 (by decide))
    obtain rfl := F.f13 (hall' 13 (by decide))
    obtain rfl := F.f14 (hall' 14 (by decide))
    obtain rfl := F.f15 (hall' 15 (by decide))
    obtain rfl := F.f16 (hall' 16 (by decide))
    have hst := F.st3 (hall' 14 (by decide))
    exact HQ.out ms r1 r2 w1 hst

end Go.Proofs.Ytnfhlbmapfoifaa

namespace Go.Proofs.Ytnfhlbmapfoifaa
open Go.RowKit
set_option linter.unusedVariables false
set_option linter.unusedSimpArgs false

/-- What lies in memory while cards are picked. -/
structure PkW (n fb : Nat) (own free : List Int) (ao : Option Addr) (co : Nat) (w0 w : World) : Prop where
  below : Below w0.heap.size w0 w
  old : w0.heap.size ≤ fb
  free : ∃ cur : Array Value, w.heap[fb]? = some (.cells cur 3 (0, 0)) ∧ cur.size = n ∧ ∀ i, i < free.length → cur[i]? = some (.int .i64 (gi free i))
  own : w.ownsRow (fb + 1) 3 1 (.slice ao own.length co) own.length (own.map (Value.int .i64))
theorem PkW.mono {n fb : Nat} {own free : List Int} {ao : Option Addr} {co : Nat} {w0 w w' : World} (h : PkW n fb own free ao co w0 w) (hb : Below w.heap.size w w') : PkW n fb own free ao co w0 w' := by
  obtain ⟨cur, h1, h2⟩ := h.free
  exact ⟨h.below.trans (hb.mono h.below.size), h.old, ⟨cur, (hb.block _ (heap_lt h1)).trans h1, h2⟩, own_below h.own hb⟩
theorem PkW.lt {n fb : Nat} {own free : List Int} {ao : Option Addr} {co : Nat} {w0 w : World} (h : PkW n fb own free ao co w0 w) : fb < w.heap.size := by
  obtain ⟨cur, h1, _⟩ := h.free
  exact heap_lt h1
theorem pick_own {n fb : Nat} {own free : List Int} {ao : Option Addr} {co ms : Nat} {x : Int} {w0 w : World} (h : PkW n fb own free ao co w0 w) (hms : w.heap[ms]? = some (.cells #[.int .i64 x] 3 (0, 0))) (hl : own.length ≤ 16) :
    ∃ (r1 : Option Addr × Nat) (w' : World), (Builtin.append_ #[42, 42] 42 #[.slice ao own.length co, .slice (some ⟨ms, 0, none⟩) 1 1]).run Try.prog w = .ok (.slice r1.1 (own.length + 1) r1.2) w' ∧ PkW n fb (own ++ [x]) free r1.1 r1.2 w0 w' := by
  obtain ⟨i0, hi0, hz0, hz1, hz2⟩ := info_parts infoI
  have hlt := h.lt
  obtain ⟨v', w', hr, hn, hg, _⟩ := append_keep (P := Try.prog) (w := w) (fb + 1) 42 42 3 i0 _ 8 Try.underlying42 hi0 hz0 hz1 hz2 rfl _ _ _ h.own ⟨ms, 0, none⟩ (.int .i64 x) (by rw [cell_of_heap hms]; rfl) rfl (by simp [maxLen]; omega) (by omega) (by omega)
  obtain ⟨a', c', rfl, _⟩ := own_slice hn
  obtain ⟨cur, h1, h2⟩ := h.free
  have hold := h.old
  refine ⟨(a', c'), w', hr, ⟨h.below.grown hg (by have := h.below.size; omega) (fun k hk => by have := (h.own.lt k hk).1; omega), hold, ⟨cur, (hg.block fb hlt (fun e => by have := (h.own.lt fb e.symm).1; omega)).trans h1, h2⟩, ?_⟩⟩
  have e : (own ++ [x]).length = own.length + 1 := by simp
  have e2 : (own ++ [x]).map (Value.int .i64) = own.map (Value.int .i64) ++ [.int .i64 x] := by simp
  rw [e, e2]
  exact hn
theorem gi_erase {l : List Int} {k i : Nat} : gi (l.eraseIdx k) i = if i < k then gi l i else gi l (i + 1) := by
  unfold gi
  simp only [List.getD_eq_getElem?_getD, List.getElem?_eraseIdx]
  split <;> rfl
theorem pick_free {n fb : Nat} {own free : List Int} {ao : Option Addr} {co k : Nat} {at_ : Option Addr} {w0 w : World} (h : PkW n fb own free ao co w0 w) (hk : k < free.length) (hn : free.length ≤ n) (hat : (if n = k + 1 then some (⟨fb, 0, none⟩ : Addr) else some ⟨fb, k + 1, none⟩) = at_) :
    ∃ (r2 : Option Addr × Nat) (w' : World), (Builtin.append_ #[42, 42] 42 #[.slice (some ⟨fb, 0, none⟩) k n, .slice at_ (free.length - (k + 1)) (n - (k + 1))]).run Try.prog w = .ok (.slice r2.1 (free.length - 1) r2.2) w' ∧ (PkW n fb own (free.eraseIdx k) ao co w0 w' ∧ r2 = (some ⟨fb, 0, none⟩, n)) := by
  obtain ⟨i0, hi0, hz0, hz1, hz2⟩ := info_parts infoI
  obtain ⟨cur, h1, h2, h3⟩ := h.free
  obtain ⟨ad, hadr, had⟩ : ∃ ad : Addr, at_ = some ad ∧ (k + 1 < free.length → ad = ⟨fb, k + 1, none⟩) := by
    by_cases e : n = k + 1
    · rw [if_pos e] at hat
      exact ⟨_, hat.symm, fun h => by omega⟩
    · rw [if_neg e] at hat
      exact ⟨_, hat.symm, fun _ => rfl⟩
  subst hadr
  have hsz : i0.size = 1 := hz1
  have hnl : ((free.drop (k + 1)).map (Value.int .i64)).length = free.length - (k + 1) := by simp
  have hr := run_append_room (P := Try.prog) w 42 42 3 i0 Try.underlying42 hi0 fb k n cur h1 ad (free.length - (k + 1)) (n - (k + 1)) ((free.drop (k + 1)).map (Value.int .i64)) (by rw [hnl, hsz, Nat.mul_one]) (fun j u hj => by
      have hjl : j < free.length - (k + 1) := by have := (List.getElem?_eq_some_iff.1 hj).1; simpa using this
      rw [had (by omega)]
      have e2 : ((⟨fb, k + 1, none⟩ : Addr).add j) = ⟨fb, k + 1 + j, none⟩ := by unfold Addr.add; split <;> simp_all
      rw [e2, cell_of_heap h1, h3 (k + 1 + j) (by omega)]
      rw [List.getElem?_map, List.getElem?_drop] at hj
      have hb : k + 1 + j < free.length := by omega
      simp [hb] at hj
      rw [← hj]
      simp [gi, hb]) (by intro u hu; rw [List.mem_map] at hu; obtain ⟨x, _, rfl⟩ := hu; rfl) (by omega) (by rw [hnl, hsz, h2]; omega)
  have e1 : k + (free.length - (k + 1)) = free.length - 1 := by omega
  rw [e1] at hr
  refine ⟨(some ⟨fb, 0, none⟩, n), _, hr, ⟨?_, ?_, ?_, ?_⟩, rfl⟩
  · exact h.below.trans ⟨rfl, rfl, rfl, by simp, fun q hq => setRow_other w fb q _ (by have := h.old; omega)⟩
  · exact h.old
  · refine ⟨_, setRow_heap w fb cur _ 3 (0, 0) h1, ?_, fun i hi => ?_⟩
    · rw [hsz]
      simp [hnl, h2]
      omega
    · rw [hsz, Nat.mul_one]
      have hil : i < free.length - 1 := by rw [List.length_eraseIdx_of_lt hk] at hi; exact hi
      rw [List.getElem?_toArray, gi_erase]
      by_cases hik : i < k
      · rw [if_pos hik, List.append_assoc, List.getElem?_append_left (by simp [h2]; omega), List.getElem?_take, if_pos hik]
        simpa using h3 i (by omega)
      · rw [if_neg hik, List.append_assoc, List.getElem?_append_right (by simp [h2]; omega), List.getElem?_append_left (by simp [h2]; omega)]
        rw [List.getElem?_map, List.getElem?_drop]
        have e5 : k + 1 + (i - (cur.toList.take k).length) = i + 1 := by simp [h2]; omega
        rw [e5]
        have hb : i + 1 < free.length := by omega
        simp [gi, hb]
  · exact own_blocks h.own (fun g hg => setRow_other w fb g _ (by have := (h.own.lt g hg).1; omega))
noncomputable def c9C : Code := (Try.f5.body.bind (fromRegion 9)).getD .skip
theorem rangeL_gi {n k : Nat} (h : k < n) : gi ((List.range n).map fun (i : Nat) => (i : Int)) k = (k : Int) := by simp [gi, h]
set_option maxRecDepth 100000 in
set_option maxHeartbeats 8000000 in
theorem chain9 {p : Prs} {a : Option Addr} {cap bx nb : Nat} {av : Option Addr} {cv : Nat} {ab : Option Addr} {lb cb : Nat} {w0 w : World} (H : ChW p a cap bx nb av [] none w0 w) (hu : IsU8 w ab lb) (hlb : lb ≤ 9223372036854775807) (hv : p.valid = true) (hne : ordersL p ≠ [])
    {s0 s3 s4 s6 s8 s9 s10 s11 s12 s13 s14 s15 s16 s17 s18 s19 s20 s21 s22 s23 s24 s25 s26 s27 s28 s29 s30 s31 s32 s33 s34 s35 s36 s37 s38 s39 s40 s41 s42 s43 s44 s45 s46 s47 s48 s49 s50 s51 s52 s53 s54 s55 s56 s57 s58 s59 s60 s61 s62 s63 s64 s65 s66 s67 s68 s69 s70 s71 s72 s73 s74 s75 s76 s77 s78 s79 s80 s81 s82 s83 s84 s85 s86 s87 s88 s89 s90 s91 s92 s93 s94 s95 s96 s97 s98 s99 s100 s101 s102 s103 s104 s105 s106 s107 s108 s109 s110 s111 s112 s113 s114 s115 s116 s117 s118 s119 s120 s121 s122 s123 s124 s125 s126 s127 s128 s129 s130 s131 s132 s133 s134 s135 s136 s137 s138 s139 s140 s141 s142 s143 s144 s145 s146 s147 s148 s149 s150 s151 s152 s153 s154 s155 s156 s157 s158 s159 s160 s161 s162 s163 s164 s165 s166 s167 s168 s169 s170 s171 s172 s173 s174 s175 s176 s177 s178 s179 s180 s181 s182 s183 s184 s185 s186 s187 s188 s189 s190 s191 s192 s193 s194 s195 s196 s197 s198 s199 s200 s201 s202 s203 s204 s205 s206 s207 s208 s209 s210 s211 s212 s213 s214 s215 s216 s217 s218 s219 s220 s221 s222 s223 s224 s225 s226 s227 s228 s229 s230 s231 s232 s233 s234 s235 s236 s237 s238 s239 s240 s241 s242 s243 s244 s245 s246 s247 : Value} :
    Code.wp Try.prog c9C (bodyPost Try.prog Try.f5 fun e w' => e = .returned (.bool true) ∧ Below w0.heap.size w0 w') { tmps := #[s0, .slice ab lb cb, .pointer (some ⟨bx, 0, none⟩), s3, s4, .slice av (ordersL p).length cv, s6, .pointer (some ⟨nb, 0, none⟩), s8, s9, s10, s11, s12, s13, s14, s15, s16, s17, s18, s19, s20, s21, s22, s23, s24, s25, s26, s27, s28, s29, s30, s31, s32, s33, s34, s35, s36, s37, s38, s39, s40, s41, s42, s43, s44, s45, s46, s47, s48, s49, s50, s51, s52, s53, s54, s55, s56, s57, s58, s59, s60, s61, s62, s63, s64, s65, s66, s67, s68, s69, s70, s71, s72, s73, s74, s75, s76, s77, s78, s79, s80, s81, s82, s83, s84, s85, s86, s87, s88, s89, s90, s91, s92, s93, s94, s95, s96, s97, s98, s99, s100, s101, s102, s103, s104, s105, s106, s107, s108, s109, s110, s111, s112, s113, s114, s115, s116, s117, s118, s119, s120, s121, s122, s123, s124, s125, s126, s127, s128, s129, s130, s131, s132, s133, s134, s135, s136, s137, s138, s139, s140, s141, s142, s143, s144, s145, s146, s147, s148, s149, s150, s151, s152, s153, s154, s155, s156, s157, s158, s159, s160, s161, s162, s163, s164, s165, s166, s167, s168, s169, s170, s171, s172, s173, s174, s175, s176, s177, s178, s179, s180, s181, s182, s183, s184, s185, s186, s187, s188, s189, s190, s191, s192, s193, s194, s195, s196, s197, s198, s199, s200, s201, s202, s203, s204, s205, s206, s207, s208, s209, s210, s211, s212, s213, s214, s215, s216, s217, s218, s219, s220, s221, s222, s223, s224, s225, s226, s227, s228, s229, s230, s231, s232, s233, s234, s235, s236, s237, s238, s239, s240, s241, s242, s243, s244, s245, s246, s247], defers := [] } w := by
  have hn5 := (valid_parts hv).1
  have hmf : ∀ (fn : Fn) (first cap : Array Value) (w : World), (Instr.makeFunc fn first cap).run Try.prog w = .ok (.func fn first cap) w := fun _ _ _ _ => rfl
  obtain ⟨i0, hi0, hi1, hi2, hi3⟩ := info_parts infoI
  have hmk : ∀ w, (Instr.makeSlice 42 (.int .i64 (p.cards.length : Int)) (.int .i64 (p.cards.length : Int))).run Try.prog w = .ok (.slice (some ⟨w.heap.size, 0, none⟩) p.cards.length p.cards.length) (w.alloc (.cells (intArr (List.replicate p.cards.length 0)) 3)) := by
    intro w
    have h := run_make (P := Try.prog) (w := w) 42 3 i0 _ Try.underlying42 hi0 hi1 .i64 .i64 (p.cards.length : Int) (p.cards.length : Int) (by omega) (by omega) (by rw [hi3]; omega) (by omega)
    rw [← made_ints]
    simpa [hi2, Value.cells] using h
  have HH := Lib.hid (And.intro H hu)
  have HV := Lib.hid (And.intro hv hne)
  have hb1 : Below w.heap.size w (w.alloc (.cells (intArr (List.replicate p.cards.length 0)) 3)) := (Below.refl _ w).alloc (Nat.le_refl _) _
  have q1 := World.alloc_heap_new w (.cells (intArr (List.replicate p.cards.length 0)) 3)
  have HW1 := Lib.hid (And.intro hb1 q1)
  obtain ⟨k0, k1, k2, k3, k4, k5⟩ := H.cells
  clear H hu hv hne hi0 hi1 hi2 hi3 hb1 q1
  conv => arg 2; whnf
  refine wp_seq_hid ?_
  intro K1 HK1
  go_wp2_with fail
  refine HK1.out _ _ ?_
  refine wp_seq_hid ?_
  intro K2 HK2
  go_wp2_with fail
  refine HK2.out _ _ ?_
  refine wp_seq_hid ?_
  intro K3 HK3
  go_wp2_with fail
  refine HK3.out _ _ ?_
  clear k0 k1 k2 k3 k4 k5 HK1 HK2 HK3
  refine wp_seq_hid ?_
  intro K4 HK4
  go_wp2_with fail
  revert HW1
  generalize hW1 : w.alloc (.cells (intArr (List.replicate p.cards.length 0)) 3) = W1
  clear hW1
  intro HW1
  go_loopw [75] (fun i wr => ∃ k : Nat, k ≤ p.cards.length ∧ i = .int .i64 k ∧ Hid (Below w.heap.size w wr) ∧ Hid (∃ cur : Array Value, wr.heap[w.heap.size]? = some (.cells cur 3 (0, 0)) ∧ cur.size = p.cards.length ∧ ∀ i, i < k → cur[i]? = some (.int .i64 (i : Nat)))) (fun i _ => p.cards.length - (intOf i).toNat)
  case atStart => exact ⟨0, by omega, rfl, HW1.out.1, ⟨_, HW1.out.2, by simp [intArr], fun i hi => by omega⟩⟩
  case round =>
    obtain ⟨k, hk, rfl, HB, HC⟩ := hrel
    obtain ⟨cur, c1, c2, c3⟩ := HC.out
    by_cases hlt : k < p.cards.length
    · have ca : ∃ u, wr.cell? ⟨w.heap.size, k, none⟩ = some u := by
        rw [cell_of_heap c1]
        exact ⟨_, Array.getElem?_eq_getElem (by omega)⟩
      obtain ⟨u, ca⟩ := ca
      have fa : wr.frozen? ⟨w.heap.size, k, none⟩ = false := frozen_of_heap c1
      have HX := Lib.hid (And.intro c1 (And.intro c2 c3))
      clear c1 c2 c3 HC
      go_wp2_with fail
      go_roundw
      case rel => exact ⟨k + 1, by omega, by go_num, HB.out.setCell (Nat.le_refl _) _, ⟨_, heap_setCell_at HX.out.1 _, by simp [HX.out.2.1], fun i hi => by
        rw [Array.getElem?_setIfInBounds]
        by_cases e : k = i
        · subst e; simp [HX.out.2.1, hlt]
        · rw [if_neg e]; exact HX.out.2.2 i (by omega)⟩⟩
      case measure => simp [intOf]; omega
    · obtain rfl : k = p.cards.length := by omega
      have HX := Lib.hid (And.intro c1 (And.intro c2 c3))
      clear c1 c2 c3 HC
      have HCH := Lib.hid (HH.out.1.mono HB.out)
      have HU := Lib.hid (HH.out.2.mono HB.out)
      have HPK : Hid (PkW p.cards.length w.heap.size [] ((List.range p.cards.length).map fun (i : Nat) => (i : Int)) none 0 w wr) := ⟨HB.out, Nat.le_refl _, ⟨cur, HX.out.1, HX.out.2.1, fun i hi => by
        have hi' : i < p.cards.length := by simpa using hi
        rw [rangeL_gi hi']; exact HX.out.2.2 i hi'⟩, World.ownsRow_nil _ _ _ _⟩
      have hc5 : wr.cell? ⟨nb, 0, none⟩ = some (.int .i64 p.cards.length) := HCH.out.cells.2.2.2.2.2
      go_wp2_with fail
      refine HK4.out _ _ ?_
      refine wp_seq_hid ?_
      intro K5 HK5
      go_wp2_with fail
      clear hc5 HX HB HW1
      go_loopw [9, 10, 84] (fun o f i wr => ∃ (j : Nat) (own free : List Int) (ao' : Option Addr) (co' : Nat), j ≤ p.cards.length ∧ i = .int .i64 j ∧ own.length = j ∧ free.length + j = p.cards.length ∧ o = .slice ao' own.length co' ∧ f = .slice (some ⟨w.heap.size, 0, none⟩) free.length p.cards.length ∧ Hid (IsPerm p.cards.length (own ++ free)) ∧ Hid (PkW p.cards.length w.heap.size own free ao' co' w wr)) (fun _ _ i _ => p.cards.length - (intOf i).toNat)
      case atStart => exact ⟨0, [], (List.range p.cards.length).map fun (i : Nat) => (i : Int), none, 0, by omega, rfl, rfl, by simp, rfl, by simp, by simpa [Hid] using perm_range p.cards.length, HPK.out⟩
      case round =>
        obtain ⟨j, own, free, ao', co', hj, rfl, hol, hfl, rfl, rfl, HPM, HPK⟩ := hrel
        have HU2 := Lib.hid (HH.out.2.mono HPK.out.below)
        by_cases hlt : j < p.cards.length
        · subst hol
          by_cases hz : lb = 0
          · subst hz
            have hf0 : 0 < free.length := by omega
            have HAT : Hid (∀ at_ : Option Addr, (if p.cards.length = 0 + 1 then some (⟨w.heap.size, 0, none⟩ : Addr) else some ⟨w.heap.size, 0 + 1, none⟩) = at_ → True) := fun _ _ => trivial
            go_wp2_with fail
            refine wpIn_wide.1 (pick23 (ao := ao') (j := own.length) (co := co') (fb := w.heap.size) (ln := free.length) (cf := p.cards.length) (k := 0) (x := gi free 0)
              (S0 := fun v => PkW p.cards.length w.heap.size own free ao' co' w v ∧ Below wr.heap.size wr v)
              (S1 := fun ms v => (PkW p.cards.length w.heap.size own free ao' co' w v) ∧ v.heap[ms]? = some (.cells #[.int .i64 (gi free 0)] 3 (0, 0)))
              (S2 := fun ms r1 v => PkW p.cards.length w.heap.size (own ++ [gi free 0]) free r1.1 r1.2 w v)
              (S3 := fun ms r1 r2 v => PkW p.cards.length w.heap.size (own ++ [gi free 0]) (free.eraseIdx 0) r1.1 r1.2 w v ∧ r2 = (some ⟨w.heap.size, 0, none⟩, p.cards.length))
              (by omega) (by omega) (by omega) (by omega) rfl ?h0 ?l4 ?c5 ?c6 ?c14 ?hQ)
            case h0 => exact ⟨HPK.out.mono (Below.refl _ wr).drew, (Below.refl _ wr).drew⟩
            case l4 =>
              intro v h
              obtain ⟨cur, h1, _, h3⟩ := h.1.free
              rw [cell_of_heap h1]
              exact h3 0 (by omega)
            case c5 => exact fun v h => ⟨h.1.mono ((Below.refl _ v).alloc (Nat.le_refl _) _), World.alloc_heap_new _ _⟩
            case c6 => exact fun ms v h => pick_own h.1 h.2 (by omega)
            case c14 => exact fun ms r1 v h => pick_free h (by omega) (by omega) rfl
            case hQ =>
              rintro ms r1 r2 v ⟨h1, rfl⟩
              have H1 := Lib.hid h1
              have HP2 := Lib.hid (perm_pick (k := 0) (by omega) HPM.out)
              have hel : (free.eraseIdx 0).length = free.length - 1 := List.length_eraseIdx_of_lt (by omega)
              have hol : (own ++ [gi free 0]).length = own.length + 1 := by simp
              clear h1
              go_wp2_with fail
              go_roundw
              case rel => exact ⟨own.length + 1, own ++ [gi free 0], free.eraseIdx 0, r1.1, r1.2, by omega, by go_num, hol, by omega, by rw [hol], by rw [hel], HP2.out, H1.out⟩
              case measure => simp [intOf]; omega
          · have hlb0 : 0 < lb := by omega
            obtain ⟨q, hq⟩ : ∃ q : Nat, own.length % lb = q := ⟨_, rfl⟩
            have hql : q < lb := by rw [← hq]; exact Nat.mod_lt _ hlb0
            have hmod : ((own.length : Int) % (lb : Int)) = (q : Int) := by rw [← hq]; exact (Int.natCast_emod _ _).symm
            obtain ⟨bb, off, rfl, xb, x0, x1, hcell⟩ := HU2.out q hql
            have hf0 : 0 < free.length := by omega
            obtain ⟨kx, hkx⟩ := Int.eq_ofNat_of_zero_le (Int.emod_nonneg xb (show (free.length : Int) ≠ 0 by omega))
            have hkl : kx < free.length := by have := Int.emod_lt_of_pos xb (show (0 : Int) < (free.length : Int) by omega); omega
            have HQ := Lib.hid hq
            clear hq
            have HAT : Hid (∀ at_ : Option Addr, (if p.cards.length = kx + 1 then some (⟨w.heap.size, 0, none⟩ : Addr) else some ⟨w.heap.size, kx + 1, none⟩) = at_ → True) := fun _ _ => trivial
            go_wp2_with fail
            rw [hkx]
            refine wpIn_wide.1 (pick23 (ao := ao') (j := own.length) (co := co') (fb := w.heap.size) (ln := free.length) (cf := p.cards.length) (k := kx) (x := gi free kx)
              (S0 := fun v => PkW p.cards.length w.heap.size own free ao' co' w v ∧ Below wr.heap.size wr v)
              (S1 := fun ms v => (PkW p.cards.length w.heap.size own free ao' co' w v) ∧ v.heap[ms]? = some (.cells #[.int .i64 (gi free kx)] 3 (0, 0)))
              (S2 := fun ms r1 v => PkW p.cards.length w.heap.size (own ++ [gi free kx]) free r1.1 r1.2 w v)
              (S3 := fun ms r1 r2 v => PkW p.cards.length w.heap.size (own ++ [gi free kx]) (free.eraseIdx kx) r1.1 r1.2 w v ∧ r2 = (some ⟨w.heap.size, 0, none⟩, p.cards.length))
              (by omega) (by omega) (by omega) (by omega) rfl ?h0 ?l4 ?c5 ?c6 ?c14 ?hQ)
            case h0 => exact ⟨HPK.out.mono (Below.refl _ wr).drew, (Below.refl _ wr).drew⟩
            case l4 =>
              intro v h
              obtain ⟨cur, h1, _, h3⟩ := h.1.free
              rw [cell_of_heap h1]
              exact h3 kx (by omega)
            case c5 => exact fun v h => ⟨h.1.mono ((Below.refl _ v).alloc (Nat.le_refl _) _), World.alloc_heap_new _ _⟩
            case c6 => exact fun ms v h => pick_own h.1 h.2 (by omega)
            case c14 => exact fun ms r1 v h => pick_free h (by omega) (by omega) rfl
            case hQ =>
              rintro ms r1 r2 v ⟨h1, rfl⟩
              have H1 := Lib.hid h1
              have HP2 := Lib.hid (perm_pick (k := kx) (by omega) HPM.out)
              have hel : (free.eraseIdx kx).length = free.length - 1 := List.length_eraseIdx_of_lt (by omega)
              have hol : (own ++ [gi free kx]).length = own.length + 1 := by simp
              clear h1
              go_wp2_with fail
              go_roundw
              case rel => exact ⟨own.length + 1, own ++ [gi free kx], free.eraseIdx kx, r1.1, r1.2, by omega, by go_num, hol, by omega, by rw [hol], by rw [hel], HP2.out, H1.out⟩
              case measure => simp [intOf]; omega
        · have hjn : j = p.cards.length := by omega
          have hf0 : free = [] := List.eq_nil_of_length_eq_zero (by omega)
          subst hf0
          have hperm : IsPerm p.cards.length own := by have := HPM.out; rw [List.append_nil] at this; exact this
          have hch : ChW p a cap bx nb av own ao' w0 wr := by
            have h1 := HH.out.1.mono HPK.out.below
            exact ⟨h1.below, h1.box, h1.prs, h1.num, h1.lists, own_ints HPK.out.own⟩
          have HF := Lib.hid (And.intro hperm hch)
          clear hperm hch
          go_wp2_with fail
          refine HK5.out _ _ ?_
          exact chain25 HF.out.2 HV.out.1 HV.out.2 HF.out.1
end Go.Proofs.Ytnfhlbmapfoifaa

namespace Go.Proofs.Ytnfhlbmapfoifaa
open Go.RowKit
set_option linter.unusedVariables false
set_option linter.unusedSimpArgs false

set_option maxRecDepth 100000 in
set_option maxHeartbeats 8000000 in
theorem chain_great {p : Prs} {a : Option Addr} {cap : Nat} {w : World} (ha : IsPrts w a p.cards) (hg : 16 < p.cards.length) {ab : Option Addr} {lb cb : Nat} (hu : IsU8 w ab lb) (hlb : lb ≤ 9223372036854775807) : Calls Try.prog 5 #[p.v a cap, .slice ab lb cb] w fun e w' => e = .returned (.bool true) ∧ Below w.heap.size w w' := by
  have hb0 : Below w.heap.size w (w.alloc (.cells (p.cells a cap) 26)) := (Below.refl _ w).alloc (Nat.le_refl _) _
  have q0 := World.alloc_heap_new w (.cells (p.cells a cap) 26)
  have HW := Lib.hid (And.intro hb0 (And.intro q0 (ha.mono hb0)))
  clear hb0 q0 ha
  go_enter Try.func5, Try.ntmps5
  go_wp2_with fail
  revert HW
  generalize w.alloc (.cells (p.cells a cap) 26) = w1
  intro HW
  have KP : Hid (∀ v, Below w1.heap.size w1 v → v.heap[w.heap.size]? = some (.cells (p.cells a cap) 26 (0, 0)) ∧ IsPrts v a p.cards ∧ Below w.heap.size w v) := fun v h => ⟨(h.block _ (heap_lt HW.out.2.1)).trans HW.out.2.1, HW.out.2.2.mono h, HW.out.1.trans (h.mono HW.out.1.size)⟩
  obtain ⟨k0, k1, k2, k3, k4⟩ := prs_cells (KP.out w1 (Below.refl _ _)).1
  refine (great5 (KP.out w1 (Below.refl _ _)).2.1).mono ?_
  rintro e b0 ⟨rfl, hb⟩
  have HB := Lib.hid hb
  clear hb k0 k1 k2 k3 k4
  rw [show decide (16 < p.cards.length) = true from by simpa using hg]
  go_wp2_with fail
  refine (alive_any b0).mono ?_
  rintro e c9 ⟨rfl, hb⟩
  have HB9 := Lib.hid (HB.out.trans (hb.mono HB.out.size))
  clear hb
  go_wp2_with fail
  go_ret
  exact ⟨rfl, (KP.out _ HB9.out).2.2⟩
set_option maxRecDepth 100000 in
set_option maxHeartbeats 8000000 in
theorem chain_no {p : Prs} {a : Option Addr} {cap : Nat} {w : World} (ha : IsPrts w a p.cards) (hn : p.cards.length ≤ 16) (hE : ordersE p ≠ 0) {ab : Option Addr} {lb cb : Nat} (hu : IsU8 w ab lb) (hlb : lb ≤ 9223372036854775807) : Calls Try.prog 5 #[p.v a cap, .slice ab lb cb] w fun e w' => e = .returned (.bool true) ∧ Below w.heap.size w w' := by
  have HN := Lib.hid hn
  have HOL : Hid (ordN p = []) := by rw [Hid]; unfold ordN; rw [if_neg hE]
  have hEE : (p.valid = false ∧ ordersE p = 1) ∨ (p.valid = true ∧ ordersE p = 4) := by
    unfold ordersE at hE ⊢
    cases hv : p.valid
    · left; simp
    · right
      rw [hv] at hE
      refine ⟨rfl, ?_⟩
      simp at hE ⊢
      exact hE
  have HEE := Lib.hid hEE
  clear hn hE hEE
  have hb0 : Below w.heap.size w (w.alloc (.cells (p.cells a cap) 26)) := (Below.refl _ w).alloc (Nat.le_refl _) _
  have q0 := World.alloc_heap_new w (.cells (p.cells a cap) 26)
  have HW := Lib.hid (And.intro hb0 (And.intro q0 (ha.mono hb0)))
  clear hb0 q0 ha
  go_enter Try.func5, Try.ntmps5
  go_wp2_with fail
  revert HW
  generalize w.alloc (.cells (p.cells a cap) 26) = w1
  intro HW
  have KP : Hid (∀ v, Below w1.heap.size w1 v → v.heap[w.heap.size]? = some (.cells (p.cells a cap) 26 (0, 0)) ∧ IsPrts v a p.cards ∧ Below w.heap.size w v) := fun v h => ⟨(h.block _ (heap_lt HW.out.2.1)).trans HW.out.2.1, HW.out.2.2.mono h, HW.out.1.trans (h.mono HW.out.1.size)⟩
  obtain ⟨k0, k1, k2, k3, k4⟩ := prs_cells (KP.out w1 (Below.refl _ _)).1
  refine (great5 (KP.out w1 (Below.refl _ _)).2.1).mono ?_
  rintro e b0 ⟨rfl, hb⟩
  have HB := Lib.hid hb
  clear hb k0 k1 k2 k3 k4
  rw [show decide (16 < p.cards.length) = false from by simpa using HN.out]
  obtain ⟨k0, k1, k2, k3, k4⟩ := prs_cells (KP.out b0 HB.out).1
  go_wp2_with fail
  refine (orders_c (KP.out b0 HB.out).2.1 HN.out).mono ?_
  rintro e b1 ⟨av, cv, rfl, hi, hb⟩
  have HB2 := Lib.hid (HB.out.trans (hb.mono HB.out.size))
  rw [HOL.out]
  clear hi
  clear hb k0 k1 k2 k3 k4 HB
  have HB := HB2
  clear HB2
  have HPR := Lib.hid (prints_any (cap := cap) (KP.out b1 HB.out).2.1 HN.out)
  obtain ⟨k0, k1, k2, k3, k4⟩ := prs_cells (KP.out b1 HB.out).1
  rcases HEE.out with ⟨hv, he⟩ | ⟨hv, he⟩
  · rw [he]
    rw [hv] at HPR
    clear hv he
    go_wp2_with fail
    refine HPR.out.mono ?_
    rintro e b2 ⟨rfl, hb⟩
    have HB2 := Lib.hid (HB.out.trans (hb.mono HB.out.size))
    clear hb
    go_wp2_with fail
    refine (alive_any b2).mono ?_
    rintro e c9 ⟨rfl, hb⟩
    have HB9 := Lib.hid (HB2.out.trans (hb.mono HB2.out.size))
    clear hb
    go_wp2_with fail
    go_ret
    exact ⟨rfl, (KP.out _ HB9.out).2.2⟩
  · rw [he]
    rw [hv] at HPR
    clear hv he
    go_wp2_with fail
    refine HPR.out.mono ?_
    rintro e b2 ⟨rfl, hb⟩
    have HB2 := Lib.hid (HB.out.trans (hb.mono HB.out.size))
    clear hb
    go_wp2_with fail
    refine (alive_any b2).mono ?_
    rintro e c9 ⟨rfl, hb⟩
    have HB9 := Lib.hid (HB2.out.trans (hb.mono HB2.out.size))
    clear hb
    go_wp2_with fail
    go_ret
    exact ⟨rfl, (KP.out _ HB9.out).2.2⟩
set_option maxRecDepth 100000 in
set_option maxHeartbeats 8000000 in
theorem chain_yes {p : Prs} {a : Option Addr} {cap : Nat} {w : World} (ha : IsPrts w a p.cards) (hn : p.cards.length ≤ 16) (hE : ordersE p = 0) {ab : Option Addr} {lb cb : Nat} (hu : IsU8 w ab lb) (hlb : lb ≤ 9223372036854775807) : Calls Try.prog 5 #[p.v a cap, .slice ab lb cb] w fun e w' => e = .returned (.bool true) ∧ Below w.heap.size w w' := by
  have HN := Lib.hid hn
  have hv := ordersE_valid hE
  have HOL : Hid (ordN p = ordersL p) := by rw [Hid]; unfold ordN; rw [if_pos hE]
  have hne : ordersL p ≠ [] := fun h => by
    unfold ordersE at hE
    rw [hv, h] at hE
    simp at hE
  have HV := Lib.hid (And.intro hv (And.intro hne (And.intro hu (And.intro hlb hE))))
  have hpos : 0 < (ordersL p).length := List.length_pos_iff.2 hne
  have hfew := orders_few hv
  clear hn hE hv hne hu hlb
  have hb0 : Below w.heap.size w (w.alloc (.cells (p.cells a cap) 26)) := (Below.refl _ w).alloc (Nat.le_refl _) _
  have q0 := World.alloc_heap_new w (.cells (p.cells a cap) 26)
  have HW := Lib.hid (And.intro hb0 (And.intro q0 (ha.mono hb0)))
  clear hb0 q0 ha
  go_enter Try.func5, Try.ntmps5
  refine wp_seq_hid ?_
  intro K0 HK0
  go_wp2_with fail
  refine HK0.out _ _ ?_
  refine wp_seq_hid ?_
  intro K1 HK1
  go_wp2_with fail
  revert HW
  generalize w.alloc (.cells (p.cells a cap) 26) = w1
  intro HW
  have KP : Hid (∀ v, Below w1.heap.size w1 v → v.heap[w.heap.size]? = some (.cells (p.cells a cap) 26 (0, 0)) ∧ IsPrts v a p.cards ∧ Below w.heap.size w v) := fun v h => ⟨(h.block _ (heap_lt HW.out.2.1)).trans HW.out.2.1, HW.out.2.2.mono h, HW.out.1.trans (h.mono HW.out.1.size)⟩
  obtain ⟨k0, k1, k2, k3, k4⟩ := prs_cells (KP.out w1 (Below.refl _ _)).1
  refine (great5 (KP.out w1 (Below.refl _ _)).2.1).mono ?_
  rintro e b0 ⟨rfl, hb⟩
  have HB := Lib.hid hb
  clear hb k0 k1 k2 k3 k4
  rw [show decide (16 < p.cards.length) = false from by simpa using HN.out]
  go_wp2_with fail
  refine HK1.out _ _ ?_
  refine wp_seq_hid ?_
  intro K2 HK2
  obtain ⟨k0, k1, k2, k3, k4⟩ := prs_cells (KP.out b0 HB.out).1
  go_wp2_with fail
  refine (orders_c (KP.out b0 HB.out).2.1 HN.out).mono ?_
  rintro e b1 ⟨av, cv, rfl, hi, hb⟩
  have HB2 := Lib.hid (HB.out.trans (hb.mono HB.out.size))
  rw [HOL.out] at hi ⊢
  rw [HV.out.2.2.2.2]
  have HI := Lib.hid hi
  clear hi
  clear hb k0 k1 k2 k3 k4 HB
  have HB := HB2
  clear HB2
  go_wp2_with fail
  refine HK2.out _ _ ?_
  refine wp_seq_hid ?_
  intro K3 HK3
  go_wp2_with fail
  refine HK3.out _ _ ?_
  refine wp_seq_hid ?_
  intro K4 HK4
  have hb3 : Below b1.heap.size b1 (b1.alloc (.cells #[.int .i64 p.cards.length] 3)) := (Below.refl _ b1).alloc (Nat.le_refl _) _
  have q3 : (b1.alloc (.cells #[.int .i64 p.cards.length] 3)).heap[b1.heap.size]? = some (.cells #[.int .i64 p.cards.length] 3 (0, 0)) := World.alloc_heap_new _ _
  have HQ3 := Lib.hid (And.intro hb3 q3)
  clear hb3 q3
  obtain ⟨k0, k1, k2, k3, k4⟩ := prs_cells (KP.out b1 HB.out).1
  go_wp2_with fail
  clear k0 k1 k2 k3 k4
  refine HK4.out _ _ ?_
  refine wp_seq_hid ?_
  intro K5 HK5
  revert HQ3
  generalize b1.alloc (.cells #[.int .i64 p.cards.length] 3) = b2
  intro HQ3
  have HB3 := Lib.hid (HB.out.trans (HQ3.out.1.mono HB.out.size))
  obtain ⟨k0, k1, k2, k3, k4⟩ := prs_cells (KP.out b2 HB3.out).1
  go_wp2_with fail
  have HPR := prints_any (cap := cap) (KP.out b2 HB3.out).2.1 HN.out
  rw [HV.out.1] at HPR
  refine HPR.mono ?_
  rintro e b3 ⟨rfl, hb⟩
  have HB4 := Lib.hid (HB3.out.trans (hb.mono HB3.out.size))
  have HC : Hid (ChW p a cap w.heap.size b1.heap.size av [] none w b3 ∧ IsU8 b3 ab lb) := ⟨⟨(KP.out b3 HB4.out).2.2, (KP.out b3 HB4.out).1, (KP.out b3 HB4.out).2.1, (hb.block _ (heap_lt HQ3.out.2)).trans HQ3.out.2, (HI.out.mono HQ3.out.1).mono hb, fun i hi => by simp at hi⟩, HV.out.2.2.1.mono (KP.out b3 HB4.out).2.2⟩
  clear hb HPR k0 k1 k2 k3 k4
  go_wp2_with fail
  refine HK5.out _ _ ?_
  exact chain9 HC.out.1 HC.out.2 HV.out.2.2.2.1 HV.out.1 HV.out.2.1
theorem copyChain_any {p : Prs} {a : Option Addr} {cap : Nat} {w : World} (ha : IsPrts w a p.cards) {ab : Option Addr} {lb cb : Nat} (hu : IsU8 w ab lb) (hlb : lb ≤ 9223372036854775807) : Calls Try.prog 5 #[p.v a cap, .slice ab lb cb] w fun e w' => e = .returned (.bool true) ∧ Below w.heap.size w w' := by
  by_cases hg : 16 < p.cards.length
  · exact chain_great ha hg hu hlb
  · by_cases hE : ordersE p = 0
    · exact chain_yes ha (by omega) hE hu hlb
    · exact chain_no ha (by omega) hE hu hlb
end Go.Proofs.Ytnfhlbmapfoifaa

