/- WalkTrue: the drawn regions of its loop. -/
import Derived.Test.YtphefhpmbahagaaT75
import Derived.Lib.MinMax
namespace Go.Proofs.Ytphefhpmbahagaa
open Go.RowKit
set_option linter.unusedVariables false
set_option linter.unusedSimpArgs false

structure tru19F (bx : Nat) (bw : Nat) (ba : Nat) (b5 : Nat) (now : Int) (lo : Int) (hi : Int) (lg : Int) (v : Nat) (n : Nat) (ab : Nat) (ao : Nat) (ac : Nat) (S0 : World → Prop) (S1 : Int → World → Prop) (S2 : Int → Int → World → Prop) (d : Nat → Bool) (x156 x157 x158 x159 x160 x161 x162 x163 x164 x165 x166 x167 x168 x17 : Value) (x : Int) (p : Int) (w : World) : Prop where
  q3 : d 3 = true → d 2 = true
  q4 : d 4 = true → d 1 = true ∧ d 3 = true
  q5 : d 5 = true → d 0 = true ∧ d 4 = true
  q7 : d 7 = true → d 6 = true
  q9 : d 9 = true → d 7 = true ∧ d 8 = true
  q10 : d 10 = true → d 9 = true
  q11 : d 11 = true → d 10 = true
  q12 : d 12 = true → d 5 = true ∧ d 11 = true
  q13 : d 13 = true → d 0 = true ∧ d 1 = true ∧ d 2 = true ∧ d 3 = true ∧ d 4 = true ∧ d 5 = true ∧ d 6 = true ∧ d 7 = true ∧ d 8 = true ∧ d 9 = true ∧ d 10 = true ∧ d 11 = true ∧ d 12 = true
  f0 : d 0 = true → x156 = .int .i64 now
  f1 : d 1 = true → x157 = .agg #[.int .i64 lo, .int .i64 hi]
  f2 : d 2 = true → x158 = .func (.func 35) #[] #[.pointer (some ⟨ba, 0, none⟩), .pointer (some ⟨b5, 0, none⟩)]
  f3 : d 3 = true → x159 = .int .u16 x
  f4 : d 4 = true → x160 = .int .i64 p
  f5 : d 5 = true → x161 = .int .i64 (IntKind.i64.wrap (now + p))
  f6 : d 6 = true → x162 = .pointer (some ⟨bx, 4, none⟩)
  f7 : d 7 = true → x163 = .slice (some ⟨ab, ao, none⟩) n ac
  f8 : d 8 = true → x164 = .int .i64 v
  f9 : d 9 = true → x165 = .pointer (some ⟨ab, ao + v * 2, none⟩)
  f10 : d 10 = true → x166 = .pointer (some ⟨ab, ao + v * 2, none⟩)
  f11 : d 11 = true → x167 = .int .i64 lg
  f12 : d 12 = true → x168 = .int .i64 (max (IntKind.i64.wrap (now + p)) lg)
  f13 : d 13 = true → x17 = .int .i64 (max (IntKind.i64.wrap (now + p)) lg)
  g13 : d 13 = false → .int .i64 now = x17
  st0 : d 3 = false → S0 w
  st1 : d 3 = true → d 4 = false → S1 x w
  st2 : d 4 = true → S2 x p w
noncomputable def tru19C : Code := (Try.f6.body.bind (regionAt 19)).getD .skip
set_option maxRecDepth 100000 in
set_option maxHeartbeats 4000000 in
theorem tru19 {bx : Nat} {bw : Nat} {ba : Nat} {b5 : Nat} {now : Int} {lo : Int} {hi : Int} {lg : Int} {v : Nat} {n : Nat} {ab : Nat} {ao : Nat} {ac : Nat} {S0 : World → Prop} {S1 : Int → World → Prop} {S2 : Int → Int → World → Prop} {Q : Exit → Act → World → Prop} {W1 : World} (hvn : v < n) (h0 : S0 W1.drew)
    (kl1 : Hid (∀ (x : Int) (w : World), (S0 w ∨ S1 x w) → w.cell? ⟨bw, 0, none⟩ = some (.int .i64 lo) ∧ w.cell? ⟨bw, 1, none⟩ = some (.int .i64 hi)))
    (kc3 : Hid (∀ (w : World), S0 w → Calls Try.prog 35 #[.pointer (some ⟨ba, 0, none⟩), .pointer (some ⟨b5, 0, none⟩)] w fun e w' => ∃ x : Int, e = .returned (.int .u16 x) ∧ S1 x w'))
    (kc4 : Hid (∀ (x : Int) (w : World), S1 x w → Calls Try.prog 36 #[.agg #[.int .i64 lo, .int .i64 hi], .int .u16 x] w fun e w' => ∃ p : Int, e = .returned (.int .i64 p) ∧ S2 x p w'))
    (kl7 : Hid (∀ (x : Int) (p : Int) (w : World), (S0 w ∨ S1 x w ∨ S2 x p w) → w.cell? ⟨bx, 4, none⟩ = some (.slice (some ⟨ab, ao, none⟩) n ac)))
    (kl11 : Hid (∀ (x : Int) (p : Int) (w : World), (S0 w ∨ S1 x w ∨ S2 x p w) → w.cell? ⟨ab, ao + v * 2, none⟩ = some (.int .i64 lg)))
    {s0 s1 s2 s4 s5 s6 s7 s8 s9 s10 s11 s12 s13 s14 s15 s18 s19 s20 s23 s24 s25 s26 s27 s28 s29 s30 s31 s32 s33 s34 s35 s36 s37 s38 s39 s40 s41 s42 s43 s44 s45 s46 s47 s48 s49 s50 s51 s52 s53 s54 s55 s56 s57 s58 s59 s60 s61 s62 s63 s64 s65 s66 s67 s68 s69 s70 s71 s72 s73 s74 s75 s76 s77 s78 s79 s80 s81 s82 s83 s84 s85 s86 s87 s88 s89 s90 s91 s92 s93 s94 s95 s96 s97 s98 s99 s100 s101 s102 s103 s104 s105 s106 s107 s108 s109 s110 s111 s112 s113 s114 s115 s116 s117 s118 s119 s120 s121 s122 s123 s124 s125 s126 s127 s128 s129 s130 s131 s132 s133 s134 s135 s136 s137 s138 s139 s140 s141 s142 s143 s144 s145 s146 s147 s148 s149 s150 s151 s152 s153 s154 s155 s156 s157 s158 s159 s160 s161 s162 s163 s164 s165 s166 s167 s168 s169 s170 s171 s172 s173 s174 s175 s176 s177 s178 s179 s180 s181 s182 s183 s184 s185 s186 s187 s188 s189 s190 s191 s192 s193 s194 s195 s196 s197 s198 s199 s200 s201 s202 s203 s204 s205 s206 s207 s208 s209 s210 s211 s212 s213 s214 s215 s216 s217 s218 s219 s220 s221 s222 s223 s224 s225 s226 s227 s228 s229 s230 s231 s232 s233 s234 s235 s236 s237 s238 s239 s240 s241 s242 s243 s244 s245 s246 s247 s248 s249 s250 s251 s252 s253 s254 s255 s256 s257 s258 s259 s260 s261 s262 s263 s264 s265 s266 s267 : Value} {dd : List Deferred}
    (hQ : ∀ (x : Int) (p : Int) (w' : World), S2 x p w' → Q .normal { tmps := #[s0, s1, s2, .pointer (some ⟨bx, 0, none⟩), s4, s5, s6, s7, s8, s9, s10, s11, s12, s13, s14, s15, .func (.func 35) #[] #[.pointer (some ⟨ba, 0, none⟩), .pointer (some ⟨b5, 0, none⟩)], .int .i64 (max (IntKind.i64.wrap (now + p)) lg), s18, s19, s20, .int .i64 v, .pointer (some ⟨bw, 0, none⟩), s23, s24, s25, s26, s27, s28, s29, s30, s31, s32, s33, s34, s35, s36, s37, s38, s39, s40, s41, s42, s43, s44, s45, s46, s47, s48, s49, s50, s51, s52, s53, s54, s55, s56, s57, s58, s59, s60, s61, s62, s63, s64, s65, s66, s67, s68, s69, s70, s71, s72, s73, s74, s75, s76, s77, s78, s79, s80, s81, s82, s83, s84, s85, s86, s87, s88, s89, s90, s91, s92, s93, s94, s95, s96, s97, s98, s99, s100, s101, s102, s103, s104, s105, s106, s107, s108, s109, s110, s111, s112, s113, s114, s115, s116, s117, s118, s119, s120, s121, s122, s123, s124, s125, s126, s127, s128, s129, s130, s131, s132, s133, s134, s135, s136, s137, s138, s139, s140, s141, s142, s143, s144, s145, s146, s147, s148, s149, s150, s151, s152, s153, s154, s155, .int .i64 now, .agg #[.int .i64 lo, .int .i64 hi], .func (.func 35) #[] #[.pointer (some ⟨ba, 0, none⟩), .pointer (some ⟨b5, 0, none⟩)], .int .u16 x, .int .i64 p, .int .i64 (IntKind.i64.wrap (now + p)), .pointer (some ⟨bx, 4, none⟩), .slice (some ⟨ab, ao, none⟩) n ac, .int .i64 v, .pointer (some ⟨ab, ao + v * 2, none⟩), .pointer (some ⟨ab, ao + v * 2, none⟩), .int .i64 lg, .int .i64 (max (IntKind.i64.wrap (now + p)) lg), s169, s170, s171, s172, s173, s174, s175, s176, s177, s178, s179, s180, s181, s182, s183, s184, s185, s186, s187, s188, s189, s190, s191, s192, s193, s194, s195, s196, s197, s198, s199, s200, s201, s202, s203, s204, s205, s206, s207, s208, s209, s210, s211, s212, s213, s214, s215, s216, s217, s218, s219, s220, s221, s222, s223, s224, s225, s226, s227, s228, s229, s230, s231, s232, s233, s234, s235, s236, s237, s238, s239, s240, s241, s242, s243, s244, s245, s246, s247, s248, s249, s250, s251, s252, s253, s254, s255, s256, s257, s258, s259, s260, s261, s262, s263, s264, s265, s266, s267], defers := dd } w') :
    Code.wpIn (wideAt none) 0 Try.prog tru19C Q { tmps := #[s0, s1, s2, .pointer (some ⟨bx, 0, none⟩), s4, s5, s6, s7, s8, s9, s10, s11, s12, s13, s14, s15, .func (.func 35) #[] #[.pointer (some ⟨ba, 0, none⟩), .pointer (some ⟨b5, 0, none⟩)], .int .i64 now, s18, s19, s20, .int .i64 v, .pointer (some ⟨bw, 0, none⟩), s23, s24, s25, s26, s27, s28, s29, s30, s31, s32, s33, s34, s35, s36, s37, s38, s39, s40, s41, s42, s43, s44, s45, s46, s47, s48, s49, s50, s51, s52, s53, s54, s55, s56, s57, s58, s59, s60, s61, s62, s63, s64, s65, s66, s67, s68, s69, s70, s71, s72, s73, s74, s75, s76, s77, s78, s79, s80, s81, s82, s83, s84, s85, s86, s87, s88, s89, s90, s91, s92, s93, s94, s95, s96, s97, s98, s99, s100, s101, s102, s103, s104, s105, s106, s107, s108, s109, s110, s111, s112, s113, s114, s115, s116, s117, s118, s119, s120, s121, s122, s123, s124, s125, s126, s127, s128, s129, s130, s131, s132, s133, s134, s135, s136, s137, s138, s139, s140, s141, s142, s143, s144, s145, s146, s147, s148, s149, s150, s151, s152, s153, s154, s155, s156, s157, s158, s159, s160, s161, s162, s163, s164, s165, s166, s167, s168, s169, s170, s171, s172, s173, s174, s175, s176, s177, s178, s179, s180, s181, s182, s183, s184, s185, s186, s187, s188, s189, s190, s191, s192, s193, s194, s195, s196, s197, s198, s199, s200, s201, s202, s203, s204, s205, s206, s207, s208, s209, s210, s211, s212, s213, s214, s215, s216, s217, s218, s219, s220, s221, s222, s223, s224, s225, s226, s227, s228, s229, s230, s231, s232, s233, s234, s235, s236, s237, s238, s239, s240, s241, s242, s243, s244, s245, s246, s247, s248, s249, s250, s251, s252, s253, s254, s255, s256, s257, s258, s259, s260, s261, s262, s263, s264, s265, s266, s267], defers := dd } W1 := by
  have HQ := Lib.hid hQ
  clear hQ
  conv => arg 4; whnf
  refine wpIn_region_invG mixed (by kernel_rfl) (fun d_ a_ w' => ∃ (x156 : Value) (x157 : Value) (x158 : Value) (x159 : Value) (x160 : Value) (x161 : Value) (x162 : Value) (x163 : Value) (x164 : Value) (x165 : Value) (x166 : Value) (x167 : Value) (x168 : Value) (x17 : Value) (x : Int) (p : Int), a_ = { tmps := #[s0, s1, s2, .pointer (some ⟨bx, 0, none⟩), s4, s5, s6, s7, s8, s9, s10, s11, s12, s13, s14, s15, .func (.func 35) #[] #[.pointer (some ⟨ba, 0, none⟩), .pointer (some ⟨b5, 0, none⟩)], x17, s18, s19, s20, .int .i64 v, .pointer (some ⟨bw, 0, none⟩), s23, s24, s25, s26, s27, s28, s29, s30, s31, s32, s33, s34, s35, s36, s37, s38, s39, s40, s41, s42, s43, s44, s45, s46, s47, s48, s49, s50, s51, s52, s53, s54, s55, s56, s57, s58, s59, s60, s61, s62, s63, s64, s65, s66, s67, s68, s69, s70, s71, s72, s73, s74, s75, s76, s77, s78, s79, s80, s81, s82, s83, s84, s85, s86, s87, s88, s89, s90, s91, s92, s93, s94, s95, s96, s97, s98, s99, s100, s101, s102, s103, s104, s105, s106, s107, s108, s109, s110, s111, s112, s113, s114, s115, s116, s117, s118, s119, s120, s121, s122, s123, s124, s125, s126, s127, s128, s129, s130, s131, s132, s133, s134, s135, s136, s137, s138, s139, s140, s141, s142, s143, s144, s145, s146, s147, s148, s149, s150, s151, s152, s153, s154, s155, x156, x157, x158, x159, x160, x161, x162, x163, x164, x165, x166, x167, x168, s169, s170, s171, s172, s173, s174, s175, s176, s177, s178, s179, s180, s181, s182, s183, s184, s185, s186, s187, s188, s189, s190, s191, s192, s193, s194, s195, s196, s197, s198, s199, s200, s201, s202, s203, s204, s205, s206, s207, s208, s209, s210, s211, s212, s213, s214, s215, s216, s217, s218, s219, s220, s221, s222, s223, s224, s225, s226, s227, s228, s229, s230, s231, s232, s233, s234, s235, s236, s237, s238, s239, s240, s241, s242, s243, s244, s245, s246, s247, s248, s249, s250, s251, s252, s253, s254, s255, s256, s257, s258, s259, s260, s261, s262, s263, s264, s265, s266, s267], defers := dd } ∧ tru19F bx bw ba b5 now lo hi lg v n ab ao ac S0 S1 S2 d_ x156 x157 x158 x159 x160 x161 x162 x163 x164 x165 x166 x167 x168 x17 x p w') ?_ ?_ ?_
  · refine ⟨s156, s157, s158, s159, s160, s161, s162, s163, s164, s165, s166, s167, s168, (.int .i64 now), 0, 0, rfl, ?_⟩
    constructor <;> first | rfl | (intro _; rfl) | (intro h; cases h; done) | (intro _; exact h0) | exact h0
  · refine ⟨?_, ?_, ?_, ?_, ?_, ?_, ?_, ?_, ?_, ?_, ?_, ?_, ?_, ?_, trivial⟩
    all_goals
      rintro d_ a_ w1 K hd_ hdep ⟨x156, x157, x158, x159, x160, x161, x162, x163, x164, x165, x166, x167, x168, x17, x, p, rfl, F⟩ HK
      simp [Region.binds] at hdep
    · have n13_ : d_ 13 = false := by
        cases e_ : d_ 13 with
        | false => rfl
        | true => have h2 := (F.q13 e_).1; rw [show d_ 0 = false from hd_] at h2; cases h2
      have g13_ := F.g13 n13_
      subst g13_
      have HF : Hid (tru19F bx bw ba b5 now lo hi lg v n ab ao ac S0 S1 S2 (upd d_ 0) (.int .i64 now) x157 x158 x159 x160 x161 x162 x163 x164 x165 x166 x167 x168 (.int .i64 now) x p w1) := ⟨F.q3, F.q4, fun h => ⟨rfl, (F.q5 h).2⟩, F.q7, F.q9, F.q10, F.q11, F.q12, fun h => ⟨rfl, (F.q13 h).2.1, (F.q13 h).2.2.1, (F.q13 h).2.2.2.1, (F.q13 h).2.2.2.2.1, (F.q13 h).2.2.2.2.2.1, (F.q13 h).2.2.2.2.2.2.1, (F.q13 h).2.2.2.2.2.2.2.1, (F.q13 h).2.2.2.2.2.2.2.2.1, (F.q13 h).2.2.2.2.2.2.2.2.2.1, (F.q13 h).2.2.2.2.2.2.2.2.2.2.1, (F.q13 h).2.2.2.2.2.2.2.2.2.2.2.1, (F.q13 h).2.2.2.2.2.2.2.2.2.2.2.2⟩, fun _ => rfl, F.f1, F.f2, F.f3, F.f4, F.f5, F.f6, F.f7, F.f8, F.f9, F.f10, F.f11, F.f12, F.f13, F.g13, F.st0, F.st1, F.st2⟩
      clear F
      go_simp
      exact HK.out _ _ ⟨_, _, _, _, _, _, _, _, _, _, _, _, _, _, _, _, rfl, HF.out⟩
    · have hst : S0 w1 ∨ S1 x w1 := by
        cases e1 : d_ 3 with
        | false => exact .inl ((F.st0 e1))
        | true =>
          have n_ : d_ 4 = false := by
            cases e_ : d_ 4 with
            | false => rfl
            | true => have h2 := (F.q4 e_).1; rw [show d_ 1 = false from hd_] at h2; cases h2
          exact .inr ((F.st1 e1 n_))
      have kk := kl1.out x w1 hst
      obtain ⟨kk0, kk1⟩ := kk
      clear hst
      have HF : Hid (tru19F bx bw ba b5 now lo hi lg v n ab ao ac S0 S1 S2 (upd d_ 1) x156 (.agg #[.int .i64 lo, .int .i64 hi]) x158 x159 x160 x161 x162 x163 x164 x165 x166 x167 x168 x17 x p w1) := ⟨F.q3, fun h => ⟨rfl, (F.q4 h).2⟩, F.q5, F.q7, F.q9, F.q10, F.q11, F.q12, fun h => ⟨(F.q13 h).1, rfl, (F.q13 h).2.2.1, (F.q13 h).2.2.2.1, (F.q13 h).2.2.2.2.1, (F.q13 h).2.2.2.2.2.1, (F.q13 h).2.2.2.2.2.2.1, (F.q13 h).2.2.2.2.2.2.2.1, (F.q13 h).2.2.2.2.2.2.2.2.1, (F.q13 h).2.2.2.2.2.2.2.2.2.1, (F.q13 h).2.2.2.2.2.2.2.2.2.2.1, (F.q13 h).2.2.2.2.2.2.2.2.2.2.2.1, (F.q13 h).2.2.2.2.2.2.2.2.2.2.2.2⟩, F.f0, fun _ => rfl, F.f2, F.f3, F.f4, F.f5, F.f6, F.f7, F.f8, F.f9, F.f10, F.f11, F.f12, F.f13, F.g13, F.st0, F.st1, F.st2⟩
      clear F
      go_simp
      exact HK.out _ _ ⟨_, _, _, _, _, _, _, _, _, _, _, _, _, _, _, _, rfl, HF.out⟩
    · have HF : Hid (tru19F bx bw ba b5 now lo hi lg v n ab ao ac S0 S1 S2 (upd d_ 2) x156 x157 (.func (.func 35) #[] #[.pointer (some ⟨ba, 0, none⟩), .pointer (some ⟨b5, 0, none⟩)]) x159 x160 x161 x162 x163 x164 x165 x166 x167 x168 x17 x p w1) := ⟨fun h => rfl, F.q4, F.q5, F.q7, F.q9, F.q10, F.q11, F.q12, fun h => ⟨(F.q13 h).1, (F.q13 h).2.1, rfl, (F.q13 h).2.2.2.1, (F.q13 h).2.2.2.2.1, (F.q13 h).2.2.2.2.2.1, (F.q13 h).2.2.2.2.2.2.1, (F.q13 h).2.2.2.2.2.2.2.1, (F.q13 h).2.2.2.2.2.2.2.2.1, (F.q13 h).2.2.2.2.2.2.2.2.2.1, (F.q13 h).2.2.2.2.2.2.2.2.2.2.1, (F.q13 h).2.2.2.2.2.2.2.2.2.2.2.1, (F.q13 h).2.2.2.2.2.2.2.2.2.2.2.2⟩, F.f0, F.f1, fun _ => rfl, F.f3, F.f4, F.f5, F.f6, F.f7, F.f8, F.f9, F.f10, F.f11, F.f12, F.f13, F.g13, F.st0, F.st1, F.st2⟩
      clear F
      go_simp
      exact HK.out _ _ ⟨_, _, _, _, _, _, _, _, _, _, _, _, _, _, _, _, rfl, HF.out⟩
    · have hS := F.st0  hd_
      obtain rfl := F.f2 (by simp [hdep])
      have hc := kc3.out w1 hS
      have HF := Lib.hid F
      clear F
      go_simp
      refine ⟨trivial, rfl, wideAt_calls (hc.mono ?_)⟩
      rintro e w5 ⟨v_, rfl, hres⟩
      exact HK.out _ _ ⟨_, _, _, _, _, _, _, _, _, _, _, _, _, _, v_, p, rfl, ⟨fun _ => (show _ from (by simp [hdep] : d_ 2 = true)), fun h => ⟨(HF.out.q4 h).1, rfl⟩, HF.out.q5, HF.out.q7, HF.out.q9, HF.out.q10, HF.out.q11, HF.out.q12, fun h => ⟨(HF.out.q13 h).1, (HF.out.q13 h).2.1, (HF.out.q13 h).2.2.1, rfl, (HF.out.q13 h).2.2.2.2.1, (HF.out.q13 h).2.2.2.2.2.1, (HF.out.q13 h).2.2.2.2.2.2.1, (HF.out.q13 h).2.2.2.2.2.2.2.1, (HF.out.q13 h).2.2.2.2.2.2.2.2.1, (HF.out.q13 h).2.2.2.2.2.2.2.2.2.1, (HF.out.q13 h).2.2.2.2.2.2.2.2.2.2.1, (HF.out.q13 h).2.2.2.2.2.2.2.2.2.2.2.1, (HF.out.q13 h).2.2.2.2.2.2.2.2.2.2.2.2⟩, HF.out.f0, HF.out.f1, HF.out.f2, fun _ => rfl, HF.out.f4, HF.out.f5, HF.out.f6, HF.out.f7, HF.out.f8, HF.out.f9, HF.out.f10, HF.out.f11, HF.out.f12, HF.out.f13, HF.out.g13, fun h => (by simp [upd] at h), fun _ _ => hres, fun h => (by have h2 : d_ 3 = true := (HF.out.q4 h).2; rw [show d_ 3 = false from hd_] at h2; cases h2)⟩⟩
    · have hS := F.st1 (by simp [hdep] : d_ 3 = true) hd_
      obtain rfl := F.f1 (by simp [hdep])
      obtain rfl := F.f3 (by simp [hdep])
      have hc := kc4.out x w1 hS
      have HF := Lib.hid F
      clear F
      go_simp
      refine ⟨trivial, rfl, wideAt_calls (hc.mono ?_)⟩
      rintro e w5 ⟨v_, rfl, hres⟩
      exact HK.out _ _ ⟨_, _, _, _, _, _, _, _, _, _, _, _, _, _, x, v_, rfl, ⟨HF.out.q3, fun _ => ⟨(show _ from (by simp [hdep] : d_ 1 = true)), (show _ from (by simp [hdep] : d_ 3 = true))⟩, fun h => ⟨(HF.out.q5 h).1, rfl⟩, HF.out.q7, HF.out.q9, HF.out.q10, HF.out.q11, HF.out.q12, fun h => ⟨(HF.out.q13 h).1, (HF.out.q13 h).2.1, (HF.out.q13 h).2.2.1, (HF.out.q13 h).2.2.2.1, rfl, (HF.out.q13 h).2.2.2.2.2.1, (HF.out.q13 h).2.2.2.2.2.2.1, (HF.out.q13 h).2.2.2.2.2.2.2.1, (HF.out.q13 h).2.2.2.2.2.2.2.2.1, (HF.out.q13 h).2.2.2.2.2.2.2.2.2.1, (HF.out.q13 h).2.2.2.2.2.2.2.2.2.2.1, (HF.out.q13 h).2.2.2.2.2.2.2.2.2.2.2.1, (HF.out.q13 h).2.2.2.2.2.2.2.2.2.2.2.2⟩, HF.out.f0, HF.out.f1, HF.out.f2, HF.out.f3, fun _ => rfl, fun h => (by have h2 : d_ 4 = true := (HF.out.q5 h).2; rw [show d_ 4 = false from hd_] at h2; cases h2), HF.out.f6, HF.out.f7, HF.out.f8, HF.out.f9, HF.out.f10, HF.out.f11, fun h => (by have h2 : d_ 4 = true := (HF.out.q5 (HF.out.q12 h).1).2; rw [show d_ 4 = false from hd_] at h2; cases h2), fun h => (by have h2 : d_ 4 = true := (HF.out.q13 h).2.2.2.2.1; rw [show d_ 4 = false from hd_] at h2; cases h2), HF.out.g13, fun h => (by have h2 : d_ 3 = false := h; rw [(by simp [hdep] : d_ 3 = true)] at h2; cases h2), fun _ h => (by simp [upd] at h), fun _ => hres⟩⟩
    · obtain rfl := F.f0 (by simp [hdep])
      obtain rfl := F.f4 (by simp [hdep])
      have HF : Hid (tru19F bx bw ba b5 now lo hi lg v n ab ao ac S0 S1 S2 (upd d_ 5) (.int .i64 now) x157 x158 x159 (.int .i64 p) (.int .i64 (IntKind.i64.wrap (now + p))) x162 x163 x164 x165 x166 x167 x168 x17 x p w1) := ⟨F.q3, F.q4, fun _ => ⟨(show _ from (by simp [hdep] : d_ 0 = true)), (show _ from (by simp [hdep] : d_ 4 = true))⟩, F.q7, F.q9, F.q10, F.q11, fun h => ⟨rfl, (F.q12 h).2⟩, fun h => ⟨(F.q13 h).1, (F.q13 h).2.1, (F.q13 h).2.2.1, (F.q13 h).2.2.2.1, (F.q13 h).2.2.2.2.1, rfl, (F.q13 h).2.2.2.2.2.2.1, (F.q13 h).2.2.2.2.2.2.2.1, (F.q13 h).2.2.2.2.2.2.2.2.1, (F.q13 h).2.2.2.2.2.2.2.2.2.1, (F.q13 h).2.2.2.2.2.2.2.2.2.2.1, (F.q13 h).2.2.2.2.2.2.2.2.2.2.2.1, (F.q13 h).2.2.2.2.2.2.2.2.2.2.2.2⟩, F.f0, F.f1, F.f2, F.f3, F.f4, fun _ => rfl, F.f6, F.f7, F.f8, F.f9, F.f10, F.f11, F.f12, F.f13, F.g13, F.st0, F.st1, F.st2⟩
      clear F
      go_simp
      exact HK.out _ _ ⟨_, _, _, _, _, _, _, _, _, _, _, _, _, _, _, _, rfl, HF.out⟩
    · have HF : Hid (tru19F bx bw ba b5 now lo hi lg v n ab ao ac S0 S1 S2 (upd d_ 6) x156 x157 x158 x159 x160 x161 (.pointer (some ⟨bx, 4, none⟩)) x163 x164 x165 x166 x167 x168 x17 x p w1) := ⟨F.q3, F.q4, F.q5, fun h => rfl, F.q9, F.q10, F.q11, F.q12, fun h => ⟨(F.q13 h).1, (F.q13 h).2.1, (F.q13 h).2.2.1, (F.q13 h).2.2.2.1, (F.q13 h).2.2.2.2.1, (F.q13 h).2.2.2.2.2.1, rfl, (F.q13 h).2.2.2.2.2.2.2.1, (F.q13 h).2.2.2.2.2.2.2.2.1, (F.q13 h).2.2.2.2.2.2.2.2.2.1, (F.q13 h).2.2.2.2.2.2.2.2.2.2.1, (F.q13 h).2.2.2.2.2.2.2.2.2.2.2.1, (F.q13 h).2.2.2.2.2.2.2.2.2.2.2.2⟩, F.f0, F.f1, F.f2, F.f3, F.f4, F.f5, fun _ => rfl, F.f7, F.f8, F.f9, F.f10, F.f11, F.f12, F.f13, F.g13, F.st0, F.st1, F.st2⟩
      clear F
      go_simp
      exact HK.out _ _ ⟨_, _, _, _, _, _, _, _, _, _, _, _, _, _, _, _, rfl, HF.out⟩
    · have hst : S0 w1 ∨ S1 x w1 ∨ S2 x p w1 := by
        cases e1 : d_ 3 with
        | false => exact .inl ((F.st0 e1))
        | true =>
          cases e2 : d_ 4 with
          | false => exact .inr (.inl ((F.st1 e1 e2)))
          | true =>
            exact .inr (.inr ((F.st2 e2)))
      have kk := kl7.out x p w1 hst
      clear hst
      obtain rfl := F.f6 (by simp [hdep])
      have HF : Hid (tru19F bx bw ba b5 now lo hi lg v n ab ao ac S0 S1 S2 (upd d_ 7) x156 x157 x158 x159 x160 x161 (.pointer (some ⟨bx, 4, none⟩)) (.slice (some ⟨ab, ao, none⟩) n ac) x164 x165 x166 x167 x168 x17 x p w1) := ⟨F.q3, F.q4, F.q5, fun _ => (show _ from (by simp [hdep] : d_ 6 = true)), fun h => ⟨rfl, (F.q9 h).2⟩, F.q10, F.q11, F.q12, fun h => ⟨(F.q13 h).1, (F.q13 h).2.1, (F.q13 h).2.2.1, (F.q13 h).2.2.2.1, (F.q13 h).2.2.2.2.1, (F.q13 h).2.2.2.2.2.1, (F.q13 h).2.2.2.2.2.2.1, rfl, (F.q13 h).2.2.2.2.2.2.2.2.1, (F.q13 h).2.2.2.2.2.2.2.2.2.1, (F.q13 h).2.2.2.2.2.2.2.2.2.2.1, (F.q13 h).2.2.2.2.2.2.2.2.2.2.2.1, (F.q13 h).2.2.2.2.2.2.2.2.2.2.2.2⟩, F.f0, F.f1, F.f2, F.f3, F.f4, F.f5, F.f6, fun _ => rfl, F.f8, F.f9, F.f10, F.f11, F.f12, F.f13, F.g13, F.st0, F.st1, F.st2⟩
      clear F
      go_simp
      exact HK.out _ _ ⟨_, _, _, _, _, _, _, _, _, _, _, _, _, _, _, _, rfl, HF.out⟩
    · have HF : Hid (tru19F bx bw ba b5 now lo hi lg v n ab ao ac S0 S1 S2 (upd d_ 8) x156 x157 x158 x159 x160 x161 x162 x163 (.int .i64 v) x165 x166 x167 x168 x17 x p w1) := ⟨F.q3, F.q4, F.q5, F.q7, fun h => ⟨(F.q9 h).1, rfl⟩, F.q10, F.q11, F.q12, fun h => ⟨(F.q13 h).1, (F.q13 h).2.1, (F.q13 h).2.2.1, (F.q13 h).2.2.2.1, (F.q13 h).2.2.2.2.1, (F.q13 h).2.2.2.2.2.1, (F.q13 h).2.2.2.2.2.2.1, (F.q13 h).2.2.2.2.2.2.2.1, rfl, (F.q13 h).2.2.2.2.2.2.2.2.2.1, (F.q13 h).2.2.2.2.2.2.2.2.2.2.1, (F.q13 h).2.2.2.2.2.2.2.2.2.2.2.1, (F.q13 h).2.2.2.2.2.2.2.2.2.2.2.2⟩, F.f0, F.f1, F.f2, F.f3, F.f4, F.f5, F.f6, F.f7, fun _ => rfl, F.f9, F.f10, F.f11, F.f12, F.f13, F.g13, F.st0, F.st1, F.st2⟩
      clear F
      go_simp
      exact HK.out _ _ ⟨_, _, _, _, _, _, _, _, _, _, _, _, _, _, _, _, rfl, HF.out⟩
    · obtain rfl := F.f7 (by simp [hdep])
      obtain rfl := F.f8 (by simp [hdep])
      have HF : Hid (tru19F bx bw ba b5 now lo hi lg v n ab ao ac S0 S1 S2 (upd d_ 9) x156 x157 x158 x159 x160 x161 x162 (.slice (some ⟨ab, ao, none⟩) n ac) (.int .i64 v) (.pointer (some ⟨ab, ao + v * 2, none⟩)) x166 x167 x168 x17 x p w1) := ⟨F.q3, F.q4, F.q5, F.q7, fun _ => ⟨(show _ from (by simp [hdep] : d_ 7 = true)), (show _ from (by simp [hdep] : d_ 8 = true))⟩, fun h => rfl, F.q11, F.q12, fun h => ⟨(F.q13 h).1, (F.q13 h).2.1, (F.q13 h).2.2.1, (F.q13 h).2.2.2.1, (F.q13 h).2.2.2.2.1, (F.q13 h).2.2.2.2.2.1, (F.q13 h).2.2.2.2.2.2.1, (F.q13 h).2.2.2.2.2.2.2.1, (F.q13 h).2.2.2.2.2.2.2.2.1, rfl, (F.q13 h).2.2.2.2.2.2.2.2.2.2.1, (F.q13 h).2.2.2.2.2.2.2.2.2.2.2.1, (F.q13 h).2.2.2.2.2.2.2.2.2.2.2.2⟩, F.f0, F.f1, F.f2, F.f3, F.f4, F.f5, F.f6, F.f7, F.f8, fun _ => rfl, F.f10, F.f11, F.f12, F.f13, F.g13, F.st0, F.st1, F.st2⟩
      clear F
      have hvn2 : v < n := hvn
      go_simp
      exact HK.out _ _ ⟨_, _, _, _, _, _, _, _, _, _, _, _, _, _, _, _, rfl, HF.out⟩
    · obtain rfl := F.f9 (by simp [hdep])
      have HF : Hid (tru19F bx bw ba b5 now lo hi lg v n ab ao ac S0 S1 S2 (upd d_ 10) x156 x157 x158 x159 x160 x161 x162 x163 x164 (.pointer (some ⟨ab, ao + v * 2, none⟩)) (.pointer (some ⟨ab, ao + v * 2, none⟩)) x167 x168 x17 x p w1) := ⟨F.q3, F.q4, F.q5, F.q7, F.q9, fun _ => (show _ from (by simp [hdep] : d_ 9 = true)), fun h => rfl, F.q12, fun h => ⟨(F.q13 h).1, (F.q13 h).2.1, (F.q13 h).2.2.1, (F.q13 h).2.2.2.1, (F.q13 h).2.2.2.2.1, (F.q13 h).2.2.2.2.2.1, (F.q13 h).2.2.2.2.2.2.1, (F.q13 h).2.2.2.2.2.2.2.1, (F.q13 h).2.2.2.2.2.2.2.2.1, (F.q13 h).2.2.2.2.2.2.2.2.2.1, rfl, (F.q13 h).2.2.2.2.2.2.2.2.2.2.2.1, (F.q13 h).2.2.2.2.2.2.2.2.2.2.2.2⟩, F.f0, F.f1, F.f2, F.f3, F.f4, F.f5, F.f6, F.f7, F.f8, F.f9, fun _ => rfl, F.f11, F.f12, F.f13, F.g13, F.st0, F.st1, F.st2⟩
      clear F
      go_simp
      exact HK.out _ _ ⟨_, _, _, _, _, _, _, _, _, _, _, _, _, _, _, _, rfl, HF.out⟩
    · have hst : S0 w1 ∨ S1 x w1 ∨ S2 x p w1 := by
        cases e1 : d_ 3 with
        | false => exact .inl ((F.st0 e1))
        | true =>
          cases e2 : d_ 4 with
          | false => exact .inr (.inl ((F.st1 e1 e2)))
          | true =>
            exact .inr (.inr ((F.st2 e2)))
      have kk := kl11.out x p w1 hst
      clear hst
      obtain rfl := F.f10 (by simp [hdep])
      have HF : Hid (tru19F bx bw ba b5 now lo hi lg v n ab ao ac S0 S1 S2 (upd d_ 11) x156 x157 x158 x159 x160 x161 x162 x163 x164 x165 (.pointer (some ⟨ab, ao + v * 2, none⟩)) (.int .i64 lg) x168 x17 x p w1) := ⟨F.q3, F.q4, F.q5, F.q7, F.q9, F.q10, fun _ => (show _ from (by simp [hdep] : d_ 10 = true)), fun h => ⟨(F.q12 h).1, rfl⟩, fun h => ⟨(F.q13 h).1, (F.q13 h).2.1, (F.q13 h).2.2.1, (F.q13 h).2.2.2.1, (F.q13 h).2.2.2.2.1, (F.q13 h).2.2.2.2.2.1, (F.q13 h).2.2.2.2.2.2.1, (F.q13 h).2.2.2.2.2.2.2.1, (F.q13 h).2.2.2.2.2.2.2.2.1, (F.q13 h).2.2.2.2.2.2.2.2.2.1, (F.q13 h).2.2.2.2.2.2.2.2.2.2.1, rfl, (F.q13 h).2.2.2.2.2.2.2.2.2.2.2.2⟩, F.f0, F.f1, F.f2, F.f3, F.f4, F.f5, F.f6, F.f7, F.f8, F.f9, F.f10, fun _ => rfl, F.f12, F.f13, F.g13, F.st0, F.st1, F.st2⟩
      clear F
      go_simp
      exact HK.out _ _ ⟨_, _, _, _, _, _, _, _, _, _, _, _, _, _, _, _, rfl, HF.out⟩
    · obtain rfl := F.f5 (by simp [hdep])
      obtain rfl := F.f11 (by simp [hdep])
      have HF : Hid (tru19F bx bw ba b5 now lo hi lg v n ab ao ac S0 S1 S2 (upd d_ 12) x156 x157 x158 x159 x160 (.int .i64 (IntKind.i64.wrap (now + p))) x162 x163 x164 x165 x166 (.int .i64 lg) (.int .i64 (max (IntKind.i64.wrap (now + p)) lg)) x17 x p w1) := ⟨F.q3, F.q4, F.q5, F.q7, F.q9, F.q10, F.q11, fun _ => ⟨(show _ from (by simp [hdep] : d_ 5 = true)), (show _ from (by simp [hdep] : d_ 11 = true))⟩, fun h => ⟨(F.q13 h).1, (F.q13 h).2.1, (F.q13 h).2.2.1, (F.q13 h).2.2.2.1, (F.q13 h).2.2.2.2.1, (F.q13 h).2.2.2.2.2.1, (F.q13 h).2.2.2.2.2.2.1, (F.q13 h).2.2.2.2.2.2.2.1, (F.q13 h).2.2.2.2.2.2.2.2.1, (F.q13 h).2.2.2.2.2.2.2.2.2.1, (F.q13 h).2.2.2.2.2.2.2.2.2.2.1, (F.q13 h).2.2.2.2.2.2.2.2.2.2.2.1, rfl⟩, F.f0, F.f1, F.f2, F.f3, F.f4, F.f5, F.f6, F.f7, F.f8, F.f9, F.f10, F.f11, fun _ => rfl, F.f13, F.g13, F.st0, F.st1, F.st2⟩
      clear F
      go_simp
      exact HK.out _ _ ⟨_, _, _, _, _, _, _, _, _, _, _, _, _, _, _, _, rfl, HF.out⟩
    · obtain rfl := F.f12 (by simp [hdep])
      have HF : Hid (tru19F bx bw ba b5 now lo hi lg v n ab ao ac S0 S1 S2 (upd d_ 13) x156 x157 x158 x159 x160 x161 x162 x163 x164 x165 x166 x167 (.int .i64 (max (IntKind.i64.wrap (now + p)) lg)) (.int .i64 (max (IntKind.i64.wrap (now + p)) lg)) x p w1) := ⟨F.q3, F.q4, F.q5, F.q7, F.q9, F.q10, F.q11, F.q12, fun _ => ⟨(show _ from (by simp [hdep] : d_ 0 = true)), (show _ from (by simp [hdep] : d_ 1 = true)), (show _ from (by simp [hdep] : d_ 2 = true)), (show _ from (by simp [hdep] : d_ 3 = true)), (show _ from (by simp [hdep] : d_ 4 = true)), (show _ from (by simp [hdep] : d_ 5 = true)), (show _ from (by simp [hdep] : d_ 6 = true)), (show _ from (by simp [hdep] : d_ 7 = true)), (show _ from (by simp [hdep] : d_ 8 = true)), (show _ from (by simp [hdep] : d_ 9 = true)), (show _ from (by simp [hdep] : d_ 10 = true)), (show _ from (by simp [hdep] : d_ 11 = true)), (show _ from (by simp [hdep] : d_ 12 = true))⟩, F.f0, F.f1, F.f2, F.f3, F.f4, F.f5, F.f6, F.f7, F.f8, F.f9, F.f10, F.f11, F.f12, fun _ => rfl, fun h => (by simp [upd] at h), F.st0, F.st1, F.st2⟩
      clear F
      go_simp
      exact HK.out _ _ ⟨_, _, _, _, _, _, _, _, _, _, _, _, _, _, _, _, rfl, HF.out⟩
  · rintro d_ a_ w1 hall ⟨x156, x157, x158, x159, x160, x161, x162, x163, x164, x165, x166, x167, x168, x17, x, p, rfl, F⟩
    have hall' : ∀ k, k < 14 → d_ k = true := hall
    obtain rfl := F.f0 (hall' 0 (by decide))
    obtain rfl := F.f1 (hall' 1 (by decide))
    obtain rfl := F.f2 (hall' 2 (by decide))
    obtain rfl := F.f3 (hall' 3 (by decide))
    obtain rfl := F.f4 (hall' 4 (by decide))
    obtain rfl := F.f5 (hall' 5 (by decide))
    obtain rfl := F.f6 (hall' 6 (by decide))
    obtain rfl := F.f7 (hall' 7 (by decide))
    obtain rfl := F.f8 (hall' 8 (by decide))
    obtain rfl := F.f9 (hall' 9 (by decide))
    obtain rfl := F.f10 (hall' 10 (by decide))
    obtain rfl := F.f11 (hall' 11 (by decide))
    obtain rfl := F.f12 (hall' 12 (by decide))
    obtain rfl := F.f13 (hall' 13 (by decide))
    have hst := F.st2 (hall' 4 (by decide))
    exact HQ.out x p w1 hst
structure tru26F (bx : Nat) (ba : Nat) (b5 : Nat) (now : Int) (lo : Int) (hi : Int) (v : Nat) (n : Nat) (ab : Nat) (ao : Nat) (ac : Nat) (S0 : World → Prop) (S1 : Int → World → Prop) (S2 : Int → Int → World → Prop) (d : Nat → Bool) (x229 x230 x231 x232 x233 x234 x235 x236 x237 x238 x17 : Value) (x : Int) (p : Int) (w : World) : Prop where
  q2 : d 2 = true → d 1 = true
  q4 : d 4 = true → d 2 = true ∧ d 3 = true
  q5 : d 5 = true → d 4 = true
  q7 : d 7 = true → d 6 = true
  q8 : d 8 = true → d 5 = true ∧ d 7 = true
  q9 : d 9 = true → d 0 = true ∧ d 8 = true
  q10 : d 10 = true → d 0 = true ∧ d 1 = true ∧ d 2 = true ∧ d 3 = true ∧ d 4 = true ∧ d 5 = true ∧ d 6 = true ∧ d 7 = true ∧ d 8 = true ∧ d 9 = true
  f0 : d 0 = true → x229 = .int .i64 now
  f1 : d 1 = true → x230 = .pointer (some ⟨bx, 3, none⟩)
  f2 : d 2 = true → x231 = .slice (some ⟨ab, ao, none⟩) n ac
  f3 : d 3 = true → x232 = .int .i64 v
  f4 : d 4 = true → x233 = .pointer (some ⟨ab, ao + v * 2, none⟩)
  f5 : d 5 = true → x234 = .agg #[.int .i64 lo, .int .i64 hi]
  f6 : d 6 = true → x235 = .func (.func 35) #[] #[.pointer (some ⟨ba, 0, none⟩), .pointer (some ⟨b5, 0, none⟩)]
  f7 : d 7 = true → x236 = .int .u16 x
  f8 : d 8 = true → x237 = .int .i64 p
  f9 : d 9 = true → x238 = .int .i64 (IntKind.i64.wrap (now + p))
  f10 : d 10 = true → x17 = .int .i64 (IntKind.i64.wrap (now + p))
  g10 : d 10 = false → .int .i64 now = x17
  st0 : d 7 = false → S0 w
  st1 : d 7 = true → d 8 = false → S1 x w
  st2 : d 8 = true → S2 x p w
noncomputable def tru26C : Code := (Try.f6.body.bind (regionAt 26)).getD .skip
set_option maxRecDepth 100000 in
set_option maxHeartbeats 4000000 in
theorem tru26 {bx : Nat} {ba : Nat} {b5 : Nat} {now : Int} {lo : Int} {hi : Int} {v : Nat} {n : Nat} {ab : Nat} {ao : Nat} {ac : Nat} {S0 : World → Prop} {S1 : Int → World → Prop} {S2 : Int → Int → World → Prop} {Q : Exit → Act → World → Prop} {W1 : World} (hvn : v < n) (h0 : S0 W1.drew)
    (kl2 : Hid (∀ (x : Int) (w : World), (S0 w ∨ S1 x w) → w.cell? ⟨bx, 3, none⟩ = some (.slice (some ⟨ab, ao, none⟩) n ac)))
    (kl5 : Hid (∀ (x : Int) (w : World), (S0 w ∨ S1 x w) → w.cell? ⟨ab, ao + v * 2, none⟩ = some (.int .i64 lo) ∧ w.cell? ⟨ab, ao + v * 2 + 1, none⟩ = some (.int .i64 hi)))
    (kc7 : Hid (∀ (w : World), S0 w → Calls Try.prog 35 #[.pointer (some ⟨ba, 0, none⟩), .pointer (some ⟨b5, 0, none⟩)] w fun e w' => ∃ x : Int, e = .returned (.int .u16 x) ∧ S1 x w'))
    (kc8 : Hid (∀ (x : Int) (w : World), S1 x w → Calls Try.prog 36 #[.agg #[.int .i64 lo, .int .i64 hi], .int .u16 x] w fun e w' => ∃ p : Int, e = .returned (.int .i64 p) ∧ S2 x p w'))
    {s0 s1 s2 s4 s5 s6 s7 s8 s9 s10 s11 s12 s13 s14 s15 s18 s19 s20 s22 s23 s24 s25 s26 s27 s28 s29 s30 s31 s32 s33 s34 s35 s36 s37 s38 s39 s40 s41 s42 s43 s44 s45 s46 s47 s48 s49 s50 s51 s52 s53 s54 s55 s56 s57 s58 s59 s60 s61 s62 s63 s64 s65 s66 s67 s68 s69 s70 s71 s72 s73 s74 s75 s76 s77 s78 s79 s80 s81 s82 s83 s84 s85 s86 s87 s88 s89 s90 s91 s92 s93 s94 s95 s96 s97 s98 s99 s100 s101 s102 s103 s104 s105 s106 s107 s108 s109 s110 s111 s112 s113 s114 s115 s116 s117 s118 s119 s120 s121 s122 s123 s124 s125 s126 s127 s128 s129 s130 s131 s132 s133 s134 s135 s136 s137 s138 s139 s140 s141 s142 s143 s144 s145 s146 s147 s148 s149 s150 s151 s152 s153 s154 s155 s156 s157 s158 s159 s160 s161 s162 s163 s164 s165 s166 s167 s168 s169 s170 s171 s172 s173 s174 s175 s176 s177 s178 s179 s180 s181 s182 s183 s184 s185 s186 s187 s188 s189 s190 s191 s192 s193 s194 s195 s196 s197 s198 s199 s200 s201 s202 s203 s204 s205 s206 s207 s208 s209 s210 s211 s212 s213 s214 s215 s216 s217 s218 s219 s220 s221 s222 s223 s224 s225 s226 s227 s228 s229 s230 s231 s232 s233 s234 s235 s236 s237 s238 s239 s240 s241 s242 s243 s244 s245 s246 s247 s248 s249 s250 s251 s252 s253 s254 s255 s256 s257 s258 s259 s260 s261 s262 s263 s264 s265 s266 s267 : Value} {dd : List Deferred}
    (hQ : ∀ (x : Int) (p : Int) (w' : World), S2 x p w' → Q .normal { tmps := #[s0, s1, s2, .pointer (some ⟨bx, 0, none⟩), s4, s5, s6, s7, s8, s9, s10, s11, s12, s13, s14, s15, .func (.func 35) #[] #[.pointer (some ⟨ba, 0, none⟩), .pointer (some ⟨b5, 0, none⟩)], .int .i64 (IntKind.i64.wrap (now + p)), s18, s19, s20, .int .i64 v, s22, s23, s24, s25, s26, s27, s28, s29, s30, s31, s32, s33, s34, s35, s36, s37, s38, s39, s40, s41, s42, s43, s44, s45, s46, s47, s48, s49, s50, s51, s52, s53, s54, s55, s56, s57, s58, s59, s60, s61, s62, s63, s64, s65, s66, s67, s68, s69, s70, s71, s72, s73, s74, s75, s76, s77, s78, s79, s80, s81, s82, s83, s84, s85, s86, s87, s88, s89, s90, s91, s92, s93, s94, s95, s96, s97, s98, s99, s100, s101, s102, s103, s104, s105, s106, s107, s108, s109, s110, s111, s112, s113, s114, s115, s116, s117, s118, s119, s120, s121, s122, s123, s124, s125, s126, s127, s128, s129, s130, s131, s132, s133, s134, s135, s136, s137, s138, s139, s140, s141, s142, s143, s144, s145, s146, s147, s148, s149, s150, s151, s152, s153, s154, s155, s156, s157, s158, s159, s160, s161, s162, s163, s164, s165, s166, s167, s168, s169, s170, s171, s172, s173, s174, s175, s176, s177, s178, s179, s180, s181, s182, s183, s184, s185, s186, s187, s188, s189, s190, s191, s192, s193, s194, s195, s196, s197, s198, s199, s200, s201, s202, s203, s204, s205, s206, s207, s208, s209, s210, s211, s212, s213, s214, s215, s216, s217, s218, s219, s220, s221, s222, s223, s224, s225, s226, s227, s228, .int .i64 now, .pointer (some ⟨bx, 3, none⟩), .slice (some ⟨ab, ao, none⟩) n ac, .int .i64 v, .pointer (some ⟨ab, ao + v * 2, none⟩), .agg #[.int .i64 lo, .int .i64 hi], .func (.func 35) #[] #[.pointer (some ⟨ba, 0, none⟩), .pointer (some ⟨b5, 0, none⟩)], .int .u16 x, .int .i64 p, .int .i64 (IntKind.i64.wrap (now + p)), s239, s240, s241, s242, s243, s244, s245, s246, s247, s248, s249, s250, s251, s252, s253, s254, s255, s256, s257, s258, s259, s260, s261, s262, s263, s264, s265, s266, s267], defers := dd } w') :
    Code.wpIn (wideAt none) 0 Try.prog tru26C Q { tmps := #[s0, s1, s2, .pointer (some ⟨bx, 0, none⟩), s4, s5, s6, s7, s8, s9, s10, s11, s12, s13, s14, s15, .func (.func 35) #[] #[.pointer (some ⟨ba, 0, none⟩), .pointer (some ⟨b5, 0, none⟩)], .int .i64 now, s18, s19, s20, .int .i64 v, s22, s23, s24, s25, s26, s27, s28, s29, s30, s31, s32, s33, s34, s35, s36, s37, s38, s39, s40, s41, s42, s43, s44, s45, s46, s47, s48, s49, s50, s51, s52, s53, s54, s55, s56, s57, s58, s59, s60, s61, s62, s63, s64, s65, s66, s67, s68, s69, s70, s71, s72, s73, s74, s75, s76, s77, s78, s79, s80, s81, s82, s83, s84, s85, s86, s87, s88, s89, s90, s91, s92, s93, s94, s95, s96, s97, s98, s99, s100, s101, s102, s103, s104, s105, s106, s107, s108, s109, s110, s111, s112, s113, s114, s115, s116, s117, s118, s119, s120, s121, s122, s123, s124, s125, s126, s127, s128, s129, s130, s131, s132, s133, s134, s135, s136, s137, s138, s139, s140, s141, s142, s143, s144, s145, s146, s147, s148, s149, s150, s151, s152, s153, s154, s155, s156, s157, s158, s159, s160, s161, s162, s163, s164, s165, s166, s167, s168, s169, s170, s171, s172, s173, s174, s175, s176, s177, s178, s179, s180, s181, s182, s183, s184, s185, s186, s187, s188, s189, s190, s191, s192, s193, s194, s195, s196, s197, s198, s199, s200, s201, s202, s203, s204, s205, s206, s207, s208, s209, s210, s211, s212, s213, s214, s215, s216, s217, s218, s219, s220, s221, s222, s223, s224, s225, s226, s227, s228, s229, s230, s231, s232, s233, s234, s235, s236, s237, s238, s239, s240, s241, s242, s243, s244, s245, s246, s247, s248, s249, s250, s251, s252, s253, s254, s255, s256, s257, s258, s259, s260, s261, s262, s263, s264, s265, s266, s267], defers := dd } W1 := by
  have HQ := Lib.hid hQ
  clear hQ
  conv => arg 4; whnf
  refine wpIn_region_invG mixed (by kernel_rfl) (fun d_ a_ w' => ∃ (x229 : Value) (x230 : Value) (x231 : Value) (x232 : Value) (x233 : Value) (x234 : Value) (x235 : Value) (x236 : Value) (x237 : Value) (x238 : Value) (x17 : Value) (x : Int) (p : Int), a_ = { tmps := #[s0, s1, s2, .pointer (some ⟨bx, 0, none⟩), s4, s5, s6, s7, s8, s9, s10, s11, s12, s13, s14, s15, .func (.func 35) #[] #[.pointer (some ⟨ba, 0, none⟩), .pointer (some ⟨b5, 0, none⟩)], x17, s18, s19, s20, .int .i64 v, s22, s23, s24, s25, s26, s27, s28, s29, s30, s31, s32, s33, s34, s35, s36, s37, s38, s39, s40, s41, s42, s43, s44, s45, s46, s47, s48, s49, s50, s51, s52, s53, s54, s55, s56, s57, s58, s59, s60, s61, s62, s63, s64, s65, s66, s67, s68, s69, s70, s71, s72, s73, s74, s75, s76, s77, s78, s79, s80, s81, s82, s83, s84, s85, s86, s87, s88, s89, s90, s91, s92, s93, s94, s95, s96, s97, s98, s99, s100, s101, s102, s103, s104, s105, s106, s107, s108, s109, s110, s111, s112, s113, s114, s115, s116, s117, s118, s119, s120, s121, s122, s123, s124, s125, s126, s127, s128, s129, s130, s131, s132, s133, s134, s135, s136, s137, s138, s139, s140, s141, s142, s143, s144, s145, s146, s147, s148, s149, s150, s151, s152, s153, s154, s155, s156, s157, s158, s159, s160, s161, s162, s163, s164, s165, s166, s167, s168, s169, s170, s171, s172, s173, s174, s175, s176, s177, s178, s179, s180, s181, s182, s183, s184, s185, s186, s187, s188, s189, s190, s191, s192, s193, s194, s195, s196, s197, s198, s199, s200, s201, s202, s203, s204, s205, s206, s207, s208, s209, s210, s211, s212, s213, s214, s215, s216, s217, s218, s219, s220, s221, s222, s223, s224, s225, s226, s227, s228, x229, x230, x231, x232, x233, x234, x235, x236, x237, x238, s239, s240, s241, s242, s243, s244, s245, s246, s247, s248, s249, s250, s251, s252, s253, s254, s255, s256, s257, s258, s259, s260, s261, s262, s263, s264, s265, s266, s267], defers := dd } ∧ tru26F bx ba b5 now lo hi v n ab ao ac S0 S1 S2 d_ x229 x230 x231 x232 x233 x234 x235 x236 x237 x238 x17 x p w') ?_ ?_ ?_
  · refine ⟨s229, s230, s231, s232, s233, s234, s235, s236, s237, s238, (.int .i64 now), 0, 0, rfl, ?_⟩
    constructor <;> first | rfl | (intro _; rfl) | (intro h; cases h; done) | (intro _; exact h0) | exact h0
  · refine ⟨?_, ?_, ?_, ?_, ?_, ?_, ?_, ?_, ?_, ?_, ?_, trivial⟩
    all_goals
      rintro d_ a_ w1 K hd_ hdep ⟨x229, x230, x231, x232, x233, x234, x235, x236, x237, x238, x17, x, p, rfl, F⟩ HK
      simp [Region.binds] at hdep
    · have n10_ : d_ 10 = false := by
        cases e_ : d_ 10 with
        | false => rfl
        | true => have h2 := (F.q10 e_).1; rw [show d_ 0 = false from hd_] at h2; cases h2
      have g10_ := F.g10 n10_
      subst g10_
      have HF : Hid (tru26F bx ba b5 now lo hi v n ab ao ac S0 S1 S2 (upd d_ 0) (.int .i64 now) x230 x231 x232 x233 x234 x235 x236 x237 x238 (.int .i64 now) x p w1) := ⟨F.q2, F.q4, F.q5, F.q7, F.q8, fun h => ⟨rfl, (F.q9 h).2⟩, fun h => ⟨rfl, (F.q10 h).2.1, (F.q10 h).2.2.1, (F.q10 h).2.2.2.1, (F.q10 h).2.2.2.2.1, (F.q10 h).2.2.2.2.2.1, (F.q10 h).2.2.2.2.2.2.1, (F.q10 h).2.2.2.2.2.2.2.1, (F.q10 h).2.2.2.2.2.2.2.2.1, (F.q10 h).2.2.2.2.2.2.2.2.2⟩, fun _ => rfl, F.f1, F.f2, F.f3, F.f4, F.f5, F.f6, F.f7, F.f8, F.f9, F.f10, F.g10, F.st0, F.st1, F.st2⟩
      clear F
      go_simp
      exact HK.out _ _ ⟨_, _, _, _, _, _, _, _, _, _, _, _, _, rfl, HF.out⟩
    · have HF : Hid (tru26F bx ba b5 now lo hi v n ab ao ac S0 S1 S2 (upd d_ 1) x229 (.pointer (some ⟨bx, 3, none⟩)) x231 x232 x233 x234 x235 x236 x237 x238 x17 x p w1) := ⟨fun h => rfl, F.q4, F.q5, F.q7, F.q8, F.q9, fun h => ⟨(F.q10 h).1, rfl, (F.q10 h).2.2.1, (F.q10 h).2.2.2.1, (F.q10 h).2.2.2.2.1, (F.q10 h).2.2.2.2.2.1, (F.q10 h).2.2.2.2.2.2.1, (F.q10 h).2.2.2.2.2.2.2.1, (F.q10 h).2.2.2.2.2.2.2.2.1, (F.q10 h).2.2.2.2.2.2.2.2.2⟩, F.f0, fun _ => rfl, F.f2, F.f3, F.f4, F.f5, F.f6, F.f7, F.f8, F.f9, F.f10, F.g10, F.st0, F.st1, F.st2⟩
      clear F
      go_simp
      exact HK.out _ _ ⟨_, _, _, _, _, _, _, _, _, _, _, _, _, rfl, HF.out⟩
    · have hst : S0 w1 ∨ S1 x w1 := by
        cases e1 : d_ 7 with
        | false => exact .inl ((F.st0 e1))
        | true =>
          have n_ : d_ 8 = false := by
            cases e_ : d_ 8 with
            | false => rfl
            | true => have h2 := (F.q4 (F.q5 (F.q8 e_).1)).1; rw [show d_ 2 = false from hd_] at h2; cases h2
          exact .inr ((F.st1 e1 n_))
      have kk := kl2.out x w1 hst
      clear hst
      obtain rfl := F.f1 (by simp [hdep])
      have HF : Hid (tru26F bx ba b5 now lo hi v n ab ao ac S0 S1 S2 (upd d_ 2) x229 (.pointer (some ⟨bx, 3, none⟩)) (.slice (some ⟨ab, ao, none⟩) n ac) x232 x233 x234 x235 x236 x237 x238 x17 x p w1) := ⟨fun _ => (show _ from (by simp [hdep] : d_ 1 = true)), fun h => ⟨rfl, (F.q4 h).2⟩, F.q5, F.q7, F.q8, F.q9, fun h => ⟨(F.q10 h).1, (F.q10 h).2.1, rfl, (F.q10 h).2.2.2.1, (F.q10 h).2.2.2.2.1, (F.q10 h).2.2.2.2.2.1, (F.q10 h).2.2.2.2.2.2.1, (F.q10 h).2.2.2.2.2.2.2.1, (F.q10 h).2.2.2.2.2.2.2.2.1, (F.q10 h).2.2.2.2.2.2.2.2.2⟩, F.f0, F.f1, fun _ => rfl, F.f3, F.f4, F.f5, F.f6, F.f7, F.f8, F.f9, F.f10, F.g10, F.st0, F.st1, F.st2⟩
      clear F
      go_simp
      exact HK.out _ _ ⟨_, _, _, _, _, _, _, _, _, _, _, _, _, rfl, HF.out⟩
    · have HF : Hid (tru26F bx ba b5 now lo hi v n ab ao ac S0 S1 S2 (upd d_ 3) x229 x230 x231 (.int .i64 v) x233 x234 x235 x236 x237 x238 x17 x p w1) := ⟨F.q2, fun h => ⟨(F.q4 h).1, rfl⟩, F.q5, F.q7, F.q8, F.q9, fun h => ⟨(F.q10 h).1, (F.q10 h).2.1, (F.q10 h).2.2.1, rfl, (F.q10 h).2.2.2.2.1, (F.q10 h).2.2.2.2.2.1, (F.q10 h).2.2.2.2.2.2.1, (F.q10 h).2.2.2.2.2.2.2.1, (F.q10 h).2.2.2.2.2.2.2.2.1, (F.q10 h).2.2.2.2.2.2.2.2.2⟩, F.f0, F.f1, F.f2, fun _ => rfl, F.f4, F.f5, F.f6, F.f7, F.f8, F.f9, F.f10, F.g10, F.st0, F.st1, F.st2⟩
      clear F
      go_simp
      exact HK.out _ _ ⟨_, _, _, _, _, _, _, _, _, _, _, _, _, rfl, HF.out⟩
    · obtain rfl := F.f2 (by simp [hdep])
      obtain rfl := F.f3 (by simp [hdep])
      have HF : Hid (tru26F bx ba b5 now lo hi v n ab ao ac S0 S1 S2 (upd d_ 4) x229 x230 (.slice (some ⟨ab, ao, none⟩) n ac) (.int .i64 v) (.pointer (some ⟨ab, ao + v * 2, none⟩)) x234 x235 x236 x237 x238 x17 x p w1) := ⟨F.q2, fun _ => ⟨(show _ from (by simp [hdep] : d_ 2 = true)), (show _ from (by simp [hdep] : d_ 3 = true))⟩, fun h => rfl, F.q7, F.q8, F.q9, fun h => ⟨(F.q10 h).1, (F.q10 h).2.1, (F.q10 h).2.2.1, (F.q10 h).2.2.2.1, rfl, (F.q10 h).2.2.2.2.2.1, (F.q10 h).2.2.2.2.2.2.1, (F.q10 h).2.2.2.2.2.2.2.1, (F.q10 h).2.2.2.2.2.2.2.2.1, (F.q10 h).2.2.2.2.2.2.2.2.2⟩, F.f0, F.f1, F.f2, F.f3, fun _ => rfl, F.f5, F.f6, F.f7, F.f8, F.f9, F.f10, F.g10, F.st0, F.st1, F.st2⟩
      clear F
      have hvn2 : v < n := hvn
      go_simp
      exact HK.out _ _ ⟨_, _, _, _, _, _, _, _, _, _, _, _, _, rfl, HF.out⟩
    · have hst : S0 w1 ∨ S1 x w1 := by
        cases e1 : d_ 7 with
        | false => exact .inl ((F.st0 e1))
        | true =>
          have n_ : d_ 8 = false := by
            cases e_ : d_ 8 with
            | false => rfl
            | true => have h2 := (F.q8 e_).1; rw [show d_ 5 = false from hd_] at h2; cases h2
          exact .inr ((F.st1 e1 n_))
      have kk := kl5.out x w1 hst
      obtain ⟨kk0, kk1⟩ := kk
      clear hst
      obtain rfl := F.f4 (by simp [hdep])
      have HF : Hid (tru26F bx ba b5 now lo hi v n ab ao ac S0 S1 S2 (upd d_ 5) x229 x230 x231 x232 (.pointer (some ⟨ab, ao + v * 2, none⟩)) (.agg #[.int .i64 lo, .int .i64 hi]) x235 x236 x237 x238 x17 x p w1) := ⟨F.q2, F.q4, fun _ => (show _ from (by simp [hdep] : d_ 4 = true)), F.q7, fun h => ⟨rfl, (F.q8 h).2⟩, F.q9, fun h => ⟨(F.q10 h).1, (F.q10 h).2.1, (F.q10 h).2.2.1, (F.q10 h).2.2.2.1, (F.q10 h).2.2.2.2.1, rfl, (F.q10 h).2.2.2.2.2.2.1, (F.q10 h).2.2.2.2.2.2.2.1, (F.q10 h).2.2.2.2.2.2.2.2.1, (F.q10 h).2.2.2.2.2.2.2.2.2⟩, F.f0, F.f1, F.f2, F.f3, F.f4, fun _ => rfl, F.f6, F.f7, F.f8, F.f9, F.f10, F.g10, F.st0, F.st1, F.st2⟩
      clear F
      go_simp
      exact HK.out _ _ ⟨_, _, _, _, _, _, _, _, _, _, _, _, _, rfl, HF.out⟩
    · have HF : Hid (tru26F bx ba b5 now lo hi v n ab ao ac S0 S1 S2 (upd d_ 6) x229 x230 x231 x232 x233 x234 (.func (.func 35) #[] #[.pointer (some ⟨ba, 0, none⟩), .pointer (some ⟨b5, 0, none⟩)]) x236 x237 x238 x17 x p w1) := ⟨F.q2, F.q4, F.q5, fun h => rfl, F.q8, F.q9, fun h => ⟨(F.q10 h).1, (F.q10 h).2.1, (F.q10 h).2.2.1, (F.q10 h).2.2.2.1, (F.q10 h).2.2.2.2.1, (F.q10 h).2.2.2.2.2.1, rfl, (F.q10 h).2.2.2.2.2.2.2.1, (F.q10 h).2.2.2.2.2.2.2.2.1, (F.q10 h).2.2.2.2.2.2.2.2.2⟩, F.f0, F.f1, F.f2, F.f3, F.f4, F.f5, fun _ => rfl, F.f7, F.f8, F.f9, F.f10, F.g10, F.st0, F.st1, F.st2⟩
      clear F
      go_simp
      exact HK.out _ _ ⟨_, _, _, _, _, _, _, _, _, _, _, _, _, rfl, HF.out⟩
    · have hS := F.st0  hd_
      obtain rfl := F.f6 (by simp [hdep])
      have hc := kc7.out w1 hS
      have HF := Lib.hid F
      clear F
      go_simp
      refine ⟨trivial, rfl, wideAt_calls (hc.mono ?_)⟩
      rintro e w5 ⟨v_, rfl, hres⟩
      exact HK.out _ _ ⟨_, _, _, _, _, _, _, _, _, _, _, v_, p, rfl, ⟨HF.out.q2, HF.out.q4, HF.out.q5, fun _ => (show _ from (by simp [hdep] : d_ 6 = true)), fun h => ⟨(HF.out.q8 h).1, rfl⟩, HF.out.q9, fun h => ⟨(HF.out.q10 h).1, (HF.out.q10 h).2.1, (HF.out.q10 h).2.2.1, (HF.out.q10 h).2.2.2.1, (HF.out.q10 h).2.2.2.2.1, (HF.out.q10 h).2.2.2.2.2.1, (HF.out.q10 h).2.2.2.2.2.2.1, rfl, (HF.out.q10 h).2.2.2.2.2.2.2.2.1, (HF.out.q10 h).2.2.2.2.2.2.2.2.2⟩, HF.out.f0, HF.out.f1, HF.out.f2, HF.out.f3, HF.out.f4, HF.out.f5, HF.out.f6, fun _ => rfl, HF.out.f8, HF.out.f9, HF.out.f10, HF.out.g10, fun h => (by simp [upd] at h), fun _ _ => hres, fun h => (by have h2 : d_ 7 = true := (HF.out.q8 h).2; rw [show d_ 7 = false from hd_] at h2; cases h2)⟩⟩
    · have hS := F.st1 (by simp [hdep] : d_ 7 = true) hd_
      obtain rfl := F.f5 (by simp [hdep])
      obtain rfl := F.f7 (by simp [hdep])
      have hc := kc8.out x w1 hS
      have HF := Lib.hid F
      clear F
      go_simp
      refine ⟨trivial, rfl, wideAt_calls (hc.mono ?_)⟩
      rintro e w5 ⟨v_, rfl, hres⟩
      exact HK.out _ _ ⟨_, _, _, _, _, _, _, _, _, _, _, x, v_, rfl, ⟨HF.out.q2, HF.out.q4, HF.out.q5, HF.out.q7, fun _ => ⟨(show _ from (by simp [hdep] : d_ 5 = true)), (show _ from (by simp [hdep] : d_ 7 = true))⟩, fun h => ⟨(HF.out.q9 h).1, rfl⟩, fun h => ⟨(HF.out.q10 h).1, (HF.out.q10 h).2.1, (HF.out.q10 h).2.2.1, (HF.out.q10 h).2.2.2.1, (HF.out.q10 h).2.2.2.2.1, (HF.out.q10 h).2.2.2.2.2.1, (HF.out.q10 h).2.2.2.2.2.2.1, (HF.out.q10 h).2.2.2.2.2.2.2.1, rfl, (HF.out.q10 h).2.2.2.2.2.2.2.2.2⟩, HF.out.f0, HF.out.f1, HF.out.f2, HF.out.f3, HF.out.f4, HF.out.f5, HF.out.f6, HF.out.f7, fun _ => rfl, fun h => (by have h2 : d_ 8 = true := (HF.out.q9 h).2; rw [show d_ 8 = false from hd_] at h2; cases h2), fun h => (by have h2 : d_ 8 = true := (HF.out.q10 h).2.2.2.2.2.2.2.2.1; rw [show d_ 8 = false from hd_] at h2; cases h2), HF.out.g10, fun h => (by have h2 : d_ 7 = false := h; rw [(by simp [hdep] : d_ 7 = true)] at h2; cases h2), fun _ h => (by simp [upd] at h), fun _ => hres⟩⟩
    · obtain rfl := F.f0 (by simp [hdep])
      obtain rfl := F.f8 (by simp [hdep])
      have HF : Hid (tru26F bx ba b5 now lo hi v n ab ao ac S0 S1 S2 (upd d_ 9) (.int .i64 now) x230 x231 x232 x233 x234 x235 x236 (.int .i64 p) (.int .i64 (IntKind.i64.wrap (now + p))) x17 x p w1) := ⟨F.q2, F.q4, F.q5, F.q7, F.q8, fun _ => ⟨(show _ from (by simp [hdep] : d_ 0 = true)), (show _ from (by simp [hdep] : d_ 8 = true))⟩, fun h => ⟨(F.q10 h).1, (F.q10 h).2.1, (F.q10 h).2.2.1, (F.q10 h).2.2.2.1, (F.q10 h).2.2.2.2.1, (F.q10 h).2.2.2.2.2.1, (F.q10 h).2.2.2.2.2.2.1, (F.q10 h).2.2.2.2.2.2.2.1, (F.q10 h).2.2.2.2.2.2.2.2.1, rfl⟩, F.f0, F.f1, F.f2, F.f3, F.f4, F.f5, F.f6, F.f7, F.f8, fun _ => rfl, F.f10, F.g10, F.st0, F.st1, F.st2⟩
      clear F
      go_simp
      exact HK.out _ _ ⟨_, _, _, _, _, _, _, _, _, _, _, _, _, rfl, HF.out⟩
    · obtain rfl := F.f9 (by simp [hdep])
      have HF : Hid (tru26F bx ba b5 now lo hi v n ab ao ac S0 S1 S2 (upd d_ 10) x229 x230 x231 x232 x233 x234 x235 x236 x237 (.int .i64 (IntKind.i64.wrap (now + p))) (.int .i64 (IntKind.i64.wrap (now + p))) x p w1) := ⟨F.q2, F.q4, F.q5, F.q7, F.q8, F.q9, fun _ => ⟨(show _ from (by simp [hdep] : d_ 0 = true)), (show _ from (by simp [hdep] : d_ 1 = true)), (show _ from (by simp [hdep] : d_ 2 = true)), (show _ from (by simp [hdep] : d_ 3 = true)), (show _ from (by simp [hdep] : d_ 4 = true)), (show _ from (by simp [hdep] : d_ 5 = true)), (show _ from (by simp [hdep] : d_ 6 = true)), (show _ from (by simp [hdep] : d_ 7 = true)), (show _ from (by simp [hdep] : d_ 8 = true)), (show _ from (by simp [hdep] : d_ 9 = true))⟩, F.f0, F.f1, F.f2, F.f3, F.f4, F.f5, F.f6, F.f7, F.f8, F.f9, fun _ => rfl, fun h => (by simp [upd] at h), F.st0, F.st1, F.st2⟩
      clear F
      go_simp
      exact HK.out _ _ ⟨_, _, _, _, _, _, _, _, _, _, _, _, _, rfl, HF.out⟩
  · rintro d_ a_ w1 hall ⟨x229, x230, x231, x232, x233, x234, x235, x236, x237, x238, x17, x, p, rfl, F⟩
    have hall' : ∀ k, k < 11 → d_ k = true := hall
    obtain rfl := F.f0 (hall' 0 (by decide))
    obtain rfl := F.f1 (hall' 1 (by decide))
    obtain rfl := F.f2 (hall' 2 (by decide))
    obtain rfl := F.f3 (hall' 3 (by decide))
    obtain rfl := F.f4 (hall' 4 (by decide))
    obtain rfl := F.f5 (hall' 5 (by decide))
    obtain rfl := F.f6 (hall' 6 (by decide))
    obtain rfl := F.f7 (hall' 7 (by decide))
    obtain rfl := F.f8 (hall' 8 (by decide))
    obtain rfl := F.f9 (hall' 9 (by decide))
    obtain rfl := F.f10 (hall' 10 (by decide))
    have hst := F.st2 (hall' 8 (by decide))
    exact HQ.out x p w1 hst
structure tru18F (bx : Nat) (sb : Nat) (k : Nat) (j : Nat) (v : Nat) (m : Nat) (ab : Nat) (ao : Nat) (n : Nat) (cap : Nat) (wb : Nat) (wo : Nat) (wn : Nat) (wc : Nat) (rb : Nat) (ro : Nat) (rn : Nat) (rc : Nat) (s : Spn) (S0 : World → Prop) (S1 : World → Prop) (d : Nat → Bool) (x144 x145 x146 x147 x148 x149 x150 x151 x152 x153 x154 x155 : Value) (w : World) : Prop where
  q1 : d 1 = true → d 0 = true
  q4 : d 4 = true → d 3 = true
  q5 : d 5 = true → d 2 = true ∧ d 4 = true
  q6 : d 6 = true → d 5 = true
  q7 : d 7 = true → d 1 = true ∧ d 6 = true
  q8 : d 8 = true → d 7 = true
  q10 : d 10 = true → d 8 = true ∧ d 9 = true
  q11 : d 11 = true → d 10 = true
  q12 : d 12 = true → d 0 = true ∧ d 1 = true ∧ d 2 = true ∧ d 3 = true ∧ d 4 = true ∧ d 5 = true ∧ d 6 = true ∧ d 7 = true ∧ d 8 = true ∧ d 9 = true ∧ d 10 = true ∧ d 11 = true
  f0 : d 0 = true → x144 = .pointer (some ⟨bx, 2, none⟩)
  f1 : d 1 = true → x145 = .slice (some ⟨wb, wo, none⟩) wn wc
  f2 : d 2 = true → x146 = .slice (some ⟨ab, ao, none⟩) n cap
  f3 : d 3 = true → x147 = .int .i64 k
  f4 : d 4 = true → x148 = .int .i64 j
  f5 : d 5 = true → x149 = .pointer (some ⟨ab, ao + j, none⟩)
  f6 : d 6 = true → x150 = .int .i64 m
  f7 : d 7 = true → x151 = .pointer (some ⟨wb, wo + m, none⟩)
  f8 : d 8 = true → x152 = .slice (some ⟨rb, ro, none⟩) rn rc
  f9 : d 9 = true → x153 = .int .i64 v
  f10 : d 10 = true → x154 = .pointer (some ⟨rb, ro + v * 2, none⟩)
  f11 : d 11 = true → x155 = .agg #[.int .i64 s.lo, .int .i64 s.hi]
  st0 : d 12 = false → S0 w
  st1 : d 12 = true → S1 w
noncomputable def tru18C : Code := (Try.f6.body.bind (regionAt 18)).getD .skip
set_option maxRecDepth 100000 in
set_option maxHeartbeats 4000000 in
theorem tru18 {bx : Nat} {sb : Nat} {k : Nat} {j : Nat} {v : Nat} {m : Nat} {ab : Nat} {ao : Nat} {n : Nat} {cap : Nat} {wb : Nat} {wo : Nat} {wn : Nat} {wc : Nat} {rb : Nat} {ro : Nat} {rn : Nat} {rc : Nat} {s : Spn} {S0 : World → Prop} {S1 : World → Prop} {Q : Exit → Act → World → Prop} {W1 : World} (hkj : IntKind.i64.wrap ((k : Int) - 1) = (j : Int)) (hjn : j < n) (hmn : m < wn) (hvn : v < rn) (h0 : S0 W1.drew)
    (kl1 : Hid (∀ (w : World), (S0 w) → w.cell? ⟨bx, 2, none⟩ = some (.slice (some ⟨wb, wo, none⟩) wn wc)))
    (kl6 : Hid (∀ (w : World), (S0 w) → w.cell? ⟨ab, ao + j, none⟩ = some (.int .i64 m)))
    (kl8 : Hid (∀ (w : World), (S0 w) → w.cell? ⟨wb, wo + m, none⟩ = some (.slice (some ⟨rb, ro, none⟩) rn rc)))
    (kl11 : Hid (∀ (w : World), (S0 w) → w.cell? ⟨rb, ro + v * 2, none⟩ = some (.int .i64 s.lo) ∧ w.cell? ⟨rb, ro + v * 2 + 1, none⟩ = some (.int .i64 s.hi)))
    (kc12 : Hid (∀ (w : World), S0 w → (∃ u, w.cell? ⟨sb, 0, none⟩ = some u) ∧ w.frozen? ⟨sb, 0, none⟩ = false ∧ (∃ u, w.cell? ⟨sb, 1, none⟩ = some u) ∧ w.frozen? ⟨sb, 1, none⟩ = false ∧ S1 ((w.setCell ⟨sb, 0, none⟩ (.int .i64 s.lo)).setCell ⟨sb, 1, none⟩ (.int .i64 s.hi))))
    {s0 s2 s4 s5 s6 s7 s8 s9 s10 s11 s12 s13 s14 s15 s16 s17 s18 s19 s23 s24 s25 s26 s27 s28 s29 s30 s31 s32 s33 s34 s35 s36 s37 s38 s39 s40 s41 s42 s43 s44 s45 s46 s47 s48 s49 s50 s51 s52 s53 s54 s55 s56 s57 s58 s59 s60 s61 s62 s63 s64 s65 s66 s67 s68 s69 s70 s71 s72 s73 s74 s75 s76 s77 s78 s79 s80 s81 s82 s83 s84 s85 s86 s87 s88 s89 s90 s91 s92 s93 s94 s95 s96 s97 s98 s99 s100 s101 s102 s103 s104 s105 s106 s107 s108 s109 s110 s111 s112 s113 s114 s115 s116 s117 s118 s119 s120 s121 s122 s123 s124 s125 s126 s127 s128 s129 s130 s131 s132 s133 s134 s135 s136 s137 s138 s139 s140 s141 s142 s143 s144 s145 s146 s147 s148 s149 s150 s151 s152 s153 s154 s155 s156 s157 s158 s159 s160 s161 s162 s163 s164 s165 s166 s167 s168 s169 s170 s171 s172 s173 s174 s175 s176 s177 s178 s179 s180 s181 s182 s183 s184 s185 s186 s187 s188 s189 s190 s191 s192 s193 s194 s195 s196 s197 s198 s199 s200 s201 s202 s203 s204 s205 s206 s207 s208 s209 s210 s211 s212 s213 s214 s215 s216 s217 s218 s219 s220 s221 s222 s223 s224 s225 s226 s227 s228 s229 s230 s231 s232 s233 s234 s235 s236 s237 s238 s239 s240 s241 s242 s243 s244 s245 s246 s247 s248 s249 s250 s251 s252 s253 s254 s255 s256 s257 s258 s259 s260 s261 s262 s263 s264 s265 s266 s267 : Value} {dd : List Deferred}
    (hQ : ∀ (w' : World), S1 w' → Q .normal { tmps := #[s0, .slice (some ⟨ab, ao, none⟩) n cap, s2, .pointer (some ⟨bx, 0, none⟩), s4, s5, s6, s7, s8, s9, s10, s11, s12, s13, s14, s15, s16, s17, s18, s19, .int .i64 k, .int .i64 v, .pointer (some ⟨sb, 0, none⟩), s23, s24, s25, s26, s27, s28, s29, s30, s31, s32, s33, s34, s35, s36, s37, s38, s39, s40, s41, s42, s43, s44, s45, s46, s47, s48, s49, s50, s51, s52, s53, s54, s55, s56, s57, s58, s59, s60, s61, s62, s63, s64, s65, s66, s67, s68, s69, s70, s71, s72, s73, s74, s75, s76, s77, s78, s79, s80, s81, s82, s83, s84, s85, s86, s87, s88, s89, s90, s91, s92, s93, s94, s95, s96, s97, s98, s99, s100, s101, s102, s103, s104, s105, s106, s107, s108, s109, s110, s111, s112, s113, s114, s115, s116, s117, s118, s119, s120, s121, s122, s123, s124, s125, s126, s127, s128, s129, s130, s131, s132, s133, s134, s135, s136, s137, s138, s139, s140, s141, s142, s143, .pointer (some ⟨bx, 2, none⟩), .slice (some ⟨wb, wo, none⟩) wn wc, .slice (some ⟨ab, ao, none⟩) n cap, .int .i64 k, .int .i64 j, .pointer (some ⟨ab, ao + j, none⟩), .int .i64 m, .pointer (some ⟨wb, wo + m, none⟩), .slice (some ⟨rb, ro, none⟩) rn rc, .int .i64 v, .pointer (some ⟨rb, ro + v * 2, none⟩), .agg #[.int .i64 s.lo, .int .i64 s.hi], s156, s157, s158, s159, s160, s161, s162, s163, s164, s165, s166, s167, s168, s169, s170, s171, s172, s173, s174, s175, s176, s177, s178, s179, s180, s181, s182, s183, s184, s185, s186, s187, s188, s189, s190, s191, s192, s193, s194, s195, s196, s197, s198, s199, s200, s201, s202, s203, s204, s205, s206, s207, s208, s209, s210, s211, s212, s213, s214, s215, s216, s217, s218, s219, s220, s221, s222, s223, s224, s225, s226, s227, s228, s229, s230, s231, s232, s233, s234, s235, s236, s237, s238, s239, s240, s241, s242, s243, s244, s245, s246, s247, s248, s249, s250, s251, s252, s253, s254, s255, s256, s257, s258, s259, s260, s261, s262, s263, s264, s265, s266, s267], defers := dd } w') :
    Code.wpIn (wideAt none) 0 Try.prog tru18C Q { tmps := #[s0, .slice (some ⟨ab, ao, none⟩) n cap, s2, .pointer (some ⟨bx, 0, none⟩), s4, s5, s6, s7, s8, s9, s10, s11, s12, s13, s14, s15, s16, s17, s18, s19, .int .i64 k, .int .i64 v, .pointer (some ⟨sb, 0, none⟩), s23, s24, s25, s26, s27, s28, s29, s30, s31, s32, s33, s34, s35, s36, s37, s38, s39, s40, s41, s42, s43, s44, s45, s46, s47, s48, s49, s50, s51, s52, s53, s54, s55, s56, s57, s58, s59, s60, s61, s62, s63, s64, s65, s66, s67, s68, s69, s70, s71, s72, s73, s74, s75, s76, s77, s78, s79, s80, s81, s82, s83, s84, s85, s86, s87, s88, s89, s90, s91, s92, s93, s94, s95, s96, s97, s98, s99, s100, s101, s102, s103, s104, s105, s106, s107, s108, s109, s110, s111, s112, s113, s114, s115, s116, s117, s118, s119, s120, s121, s122, s123, s124, s125, s126, s127, s128, s129, s130, s131, s132, s133, s134, s135, s136, s137, s138, s139, s140, s141, s142, s143, s144, s145, s146, s147, s148, s149, s150, s151, s152, s153, s154, s155, s156, s157, s158, s159, s160, s161, s162, s163, s164, s165, s166, s167, s168, s169, s170, s171, s172, s173, s174, s175, s176, s177, s178, s179, s180, s181, s182, s183, s184, s185, s186, s187, s188, s189, s190, s191, s192, s193, s194, s195, s196, s197, s198, s199, s200, s201, s202, s203, s204, s205, s206, s207, s208, s209, s210, s211, s212, s213, s214, s215, s216, s217, s218, s219, s220, s221, s222, s223, s224, s225, s226, s227, s228, s229, s230, s231, s232, s233, s234, s235, s236, s237, s238, s239, s240, s241, s242, s243, s244, s245, s246, s247, s248, s249, s250, s251, s252, s253, s254, s255, s256, s257, s258, s259, s260, s261, s262, s263, s264, s265, s266, s267], defers := dd } W1 := by
  have HQ := Lib.hid hQ
  clear hQ
  conv => arg 4; whnf
  refine wpIn_region_invG mixed (by kernel_rfl) (fun d_ a_ w' => ∃ (x144 : Value) (x145 : Value) (x146 : Value) (x147 : Value) (x148 : Value) (x149 : Value) (x150 : Value) (x151 : Value) (x152 : Value) (x153 : Value) (x154 : Value) (x155 : Value), a_ = { tmps := #[s0, .slice (some ⟨ab, ao, none⟩) n cap, s2, .pointer (some ⟨bx, 0, none⟩), s4, s5, s6, s7, s8, s9, s10, s11, s12, s13, s14, s15, s16, s17, s18, s19, .int .i64 k, .int .i64 v, .pointer (some ⟨sb, 0, none⟩), s23, s24, s25, s26, s27, s28, s29, s30, s31, s32, s33, s34, s35, s36, s37, s38, s39, s40, s41, s42, s43, s44, s45, s46, s47, s48, s49, s50, s51, s52, s53, s54, s55, s56, s57, s58, s59, s60, s61, s62, s63, s64, s65, s66, s67, s68, s69, s70, s71, s72, s73, s74, s75, s76, s77, s78, s79, s80, s81, s82, s83, s84, s85, s86, s87, s88, s89, s90, s91, s92, s93, s94, s95, s96, s97, s98, s99, s100, s101, s102, s103, s104, s105, s106, s107, s108, s109, s110, s111, s112, s113, s114, s115, s116, s117, s118, s119, s120, s121, s122, s123, s124, s125, s126, s127, s128, s129, s130, s131, s132, s133, s134, s135, s136, s137, s138, s139, s140, s141, s142, s143, x144, x145, x146, x147, x148, x149, x150, x151, x152, x153, x154, x155, s156, s157, s158, s159, s160, s161, s162, s163, s164, s165, s166, s167, s168, s169, s170, s171, s172, s173, s174, s175, s176, s177, s178, s179, s180, s181, s182, s183, s184, s185, s186, s187, s188, s189, s190, s191, s192, s193, s194, s195, s196, s197, s198, s199, s200, s201, s202, s203, s204, s205, s206, s207, s208, s209, s210, s211, s212, s213, s214, s215, s216, s217, s218, s219, s220, s221, s222, s223, s224, s225, s226, s227, s228, s229, s230, s231, s232, s233, s234, s235, s236, s237, s238, s239, s240, s241, s242, s243, s244, s245, s246, s247, s248, s249, s250, s251, s252, s253, s254, s255, s256, s257, s258, s259, s260, s261, s262, s263, s264, s265, s266, s267], defers := dd } ∧ tru18F bx sb k j v m ab ao n cap wb wo wn wc rb ro rn rc s S0 S1 d_ x144 x145 x146 x147 x148 x149 x150 x151 x152 x153 x154 x155 w') ?_ ?_ ?_
  · refine ⟨s144, s145, s146, s147, s148, s149, s150, s151, s152, s153, s154, s155, rfl, ?_⟩
    constructor <;> first | rfl | (intro _; rfl) | (intro h; cases h; done) | (intro _; exact h0) | exact h0
  · refine ⟨?_, ?_, ?_, ?_, ?_, ?_, ?_, ?_, ?_, ?_, ?_, ?_, ?_, trivial⟩
    all_goals
      rintro d_ a_ w1 K hd_ hdep ⟨x144, x145, x146, x147, x148, x149, x150, x151, x152, x153, x154, x155, rfl, F⟩ HK
      simp [Region.binds] at hdep
    · have HF : Hid (tru18F bx sb k j v m ab ao n cap wb wo wn wc rb ro rn rc s S0 S1 (upd d_ 0) (.pointer (some ⟨bx, 2, none⟩)) x145 x146 x147 x148 x149 x150 x151 x152 x153 x154 x155 w1) := ⟨fun h => rfl, F.q4, F.q5, F.q6, F.q7, F.q8, F.q10, F.q11, fun h => ⟨rfl, (F.q12 h).2.1, (F.q12 h).2.2.1, (F.q12 h).2.2.2.1, (F.q12 h).2.2.2.2.1, (F.q12 h).2.2.2.2.2.1, (F.q12 h).2.2.2.2.2.2.1, (F.q12 h).2.2.2.2.2.2.2.1, (F.q12 h).2.2.2.2.2.2.2.2.1, (F.q12 h).2.2.2.2.2.2.2.2.2.1, (F.q12 h).2.2.2.2.2.2.2.2.2.2.1, (F.q12 h).2.2.2.2.2.2.2.2.2.2.2⟩, fun _ => rfl, F.f1, F.f2, F.f3, F.f4, F.f5, F.f6, F.f7, F.f8, F.f9, F.f10, F.f11, F.st0, F.st1⟩
      clear F
      go_simp
      exact HK.out _ _ ⟨_, _, _, _, _, _, _, _, _, _, _, _, rfl, HF.out⟩
    · have hst : S0 w1 := by
        have n_ : d_ 12 = false := by
          cases e_ : d_ 12 with
          | false => rfl
          | true => have h2 := (F.q12 e_).2.1; rw [show d_ 1 = false from hd_] at h2; cases h2
        exact (F.st0 n_)
      have kk := kl1.out w1 hst
      clear hst
      obtain rfl := F.f0 (by simp [hdep])
      have HF : Hid (tru18F bx sb k j v m ab ao n cap wb wo wn wc rb ro rn rc s S0 S1 (upd d_ 1) (.pointer (some ⟨bx, 2, none⟩)) (.slice (some ⟨wb, wo, none⟩) wn wc) x146 x147 x148 x149 x150 x151 x152 x153 x154 x155 w1) := ⟨fun _ => (show _ from (by simp [hdep] : d_ 0 = true)), F.q4, F.q5, F.q6, fun h => ⟨rfl, (F.q7 h).2⟩, F.q8, F.q10, F.q11, fun h => ⟨(F.q12 h).1, rfl, (F.q12 h).2.2.1, (F.q12 h).2.2.2.1, (F.q12 h).2.2.2.2.1, (F.q12 h).2.2.2.2.2.1, (F.q12 h).2.2.2.2.2.2.1, (F.q12 h).2.2.2.2.2.2.2.1, (F.q12 h).2.2.2.2.2.2.2.2.1, (F.q12 h).2.2.2.2.2.2.2.2.2.1, (F.q12 h).2.2.2.2.2.2.2.2.2.2.1, (F.q12 h).2.2.2.2.2.2.2.2.2.2.2⟩, F.f0, fun _ => rfl, F.f2, F.f3, F.f4, F.f5, F.f6, F.f7, F.f8, F.f9, F.f10, F.f11, F.st0, F.st1⟩
      clear F
      go_simp
      exact HK.out _ _ ⟨_, _, _, _, _, _, _, _, _, _, _, _, rfl, HF.out⟩
    · have HF : Hid (tru18F bx sb k j v m ab ao n cap wb wo wn wc rb ro rn rc s S0 S1 (upd d_ 2) x144 x145 (.slice (some ⟨ab, ao, none⟩) n cap) x147 x148 x149 x150 x151 x152 x153 x154 x155 w1) := ⟨F.q1, F.q4, fun h => ⟨rfl, (F.q5 h).2⟩, F.q6, F.q7, F.q8, F.q10, F.q11, fun h => ⟨(F.q12 h).1, (F.q12 h).2.1, rfl, (F.q12 h).2.2.2.1, (F.q12 h).2.2.2.2.1, (F.q12 h).2.2.2.2.2.1, (F.q12 h).2.2.2.2.2.2.1, (F.q12 h).2.2.2.2.2.2.2.1, (F.q12 h).2.2.2.2.2.2.2.2.1, (F.q12 h).2.2.2.2.2.2.2.2.2.1, (F.q12 h).2.2.2.2.2.2.2.2.2.2.1, (F.q12 h).2.2.2.2.2.2.2.2.2.2.2⟩, F.f0, F.f1, fun _ => rfl, F.f3, F.f4, F.f5, F.f6, F.f7, F.f8, F.f9, F.f10, F.f11, F.st0, F.st1⟩
      clear F
      go_simp
      exact HK.out _ _ ⟨_, _, _, _, _, _, _, _, _, _, _, _, rfl, HF.out⟩
    · have HF : Hid (tru18F bx sb k j v m ab ao n cap wb wo wn wc rb ro rn rc s S0 S1 (upd d_ 3) x144 x145 x146 (.int .i64 k) x148 x149 x150 x151 x152 x153 x154 x155 w1) := ⟨F.q1, fun h => rfl, F.q5, F.q6, F.q7, F.q8, F.q10, F.q11, fun h => ⟨(F.q12 h).1, (F.q12 h).2.1, (F.q12 h).2.2.1, rfl, (F.q12 h).2.2.2.2.1, (F.q12 h).2.2.2.2.2.1, (F.q12 h).2.2.2.2.2.2.1, (F.q12 h).2.2.2.2.2.2.2.1, (F.q12 h).2.2.2.2.2.2.2.2.1, (F.q12 h).2.2.2.2.2.2.2.2.2.1, (F.q12 h).2.2.2.2.2.2.2.2.2.2.1, (F.q12 h).2.2.2.2.2.2.2.2.2.2.2⟩, F.f0, F.f1, F.f2, fun _ => rfl, F.f4, F.f5, F.f6, F.f7, F.f8, F.f9, F.f10, F.f11, F.st0, F.st1⟩
      clear F
      go_simp
      exact HK.out _ _ ⟨_, _, _, _, _, _, _, _, _, _, _, _, rfl, HF.out⟩
    · obtain rfl := F.f3 (by simp [hdep])
      have HF : Hid (tru18F bx sb k j v m ab ao n cap wb wo wn wc rb ro rn rc s S0 S1 (upd d_ 4) x144 x145 x146 (.int .i64 k) (.int .i64 j) x149 x150 x151 x152 x153 x154 x155 w1) := ⟨F.q1, fun _ => (show _ from (by simp [hdep] : d_ 3 = true)), fun h => ⟨(F.q5 h).1, rfl⟩, F.q6, F.q7, F.q8, F.q10, F.q11, fun h => ⟨(F.q12 h).1, (F.q12 h).2.1, (F.q12 h).2.2.1, (F.q12 h).2.2.2.1, rfl, (F.q12 h).2.2.2.2.2.1, (F.q12 h).2.2.2.2.2.2.1, (F.q12 h).2.2.2.2.2.2.2.1, (F.q12 h).2.2.2.2.2.2.2.2.1, (F.q12 h).2.2.2.2.2.2.2.2.2.1, (F.q12 h).2.2.2.2.2.2.2.2.2.2.1, (F.q12 h).2.2.2.2.2.2.2.2.2.2.2⟩, F.f0, F.f1, F.f2, F.f3, fun _ => rfl, F.f5, F.f6, F.f7, F.f8, F.f9, F.f10, F.f11, F.st0, F.st1⟩
      clear F
      have hkj2 := hkj
      go_simp
      exact HK.out _ _ ⟨_, _, _, _, _, _, _, _, _, _, _, _, rfl, HF.out⟩
    · obtain rfl := F.f2 (by simp [hdep])
      obtain rfl := F.f4 (by simp [hdep])
      have HF : Hid (tru18F bx sb k j v m ab ao n cap wb wo wn wc rb ro rn rc s S0 S1 (upd d_ 5) x144 x145 (.slice (some ⟨ab, ao, none⟩) n cap) x147 (.int .i64 j) (.pointer (some ⟨ab, ao + j, none⟩)) x150 x151 x152 x153 x154 x155 w1) := ⟨F.q1, F.q4, fun _ => ⟨(show _ from (by simp [hdep] : d_ 2 = true)), (show _ from (by simp [hdep] : d_ 4 = true))⟩, fun h => rfl, F.q7, F.q8, F.q10, F.q11, fun h => ⟨(F.q12 h).1, (F.q12 h).2.1, (F.q12 h).2.2.1, (F.q12 h).2.2.2.1, (F.q12 h).2.2.2.2.1, rfl, (F.q12 h).2.2.2.2.2.2.1, (F.q12 h).2.2.2.2.2.2.2.1, (F.q12 h).2.2.2.2.2.2.2.2.1, (F.q12 h).2.2.2.2.2.2.2.2.2.1, (F.q12 h).2.2.2.2.2.2.2.2.2.2.1, (F.q12 h).2.2.2.2.2.2.2.2.2.2.2⟩, F.f0, F.f1, F.f2, F.f3, F.f4, fun _ => rfl, F.f6, F.f7, F.f8, F.f9, F.f10, F.f11, F.st0, F.st1⟩
      clear F
      have hjn2 : j < n := hjn
      go_simp
      exact HK.out _ _ ⟨_, _, _, _, _, _, _, _, _, _, _, _, rfl, HF.out⟩
    · have hst : S0 w1 := by
        have n_ : d_ 12 = false := by
          cases e_ : d_ 12 with
          | false => rfl
          | true => have h2 := (F.q12 e_).2.2.2.2.2.2.1; rw [show d_ 6 = false from hd_] at h2; cases h2
        exact (F.st0 n_)
      have kk := kl6.out w1 hst
      clear hst
      obtain rfl := F.f5 (by simp [hdep])
      have HF : Hid (tru18F bx sb k j v m ab ao n cap wb wo wn wc rb ro rn rc s S0 S1 (upd d_ 6) x144 x145 x146 x147 x148 (.pointer (some ⟨ab, ao + j, none⟩)) (.int .i64 m) x151 x152 x153 x154 x155 w1) := ⟨F.q1, F.q4, F.q5, fun _ => (show _ from (by simp [hdep] : d_ 5 = true)), fun h => ⟨(F.q7 h).1, rfl⟩, F.q8, F.q10, F.q11, fun h => ⟨(F.q12 h).1, (F.q12 h).2.1, (F.q12 h).2.2.1, (F.q12 h).2.2.2.1, (F.q12 h).2.2.2.2.1, (F.q12 h).2.2.2.2.2.1, rfl, (F.q12 h).2.2.2.2.2.2.2.1, (F.q12 h).2.2.2.2.2.2.2.2.1, (F.q12 h).2.2.2.2.2.2.2.2.2.1, (F.q12 h).2.2.2.2.2.2.2.2.2.2.1, (F.q12 h).2.2.2.2.2.2.2.2.2.2.2⟩, F.f0, F.f1, F.f2, F.f3, F.f4, F.f5, fun _ => rfl, F.f7, F.f8, F.f9, F.f10, F.f11, F.st0, F.st1⟩
      clear F
      go_simp
      exact HK.out _ _ ⟨_, _, _, _, _, _, _, _, _, _, _, _, rfl, HF.out⟩
    · obtain rfl := F.f1 (by simp [hdep])
      obtain rfl := F.f6 (by simp [hdep])
      have HF : Hid (tru18F bx sb k j v m ab ao n cap wb wo wn wc rb ro rn rc s S0 S1 (upd d_ 7) x144 (.slice (some ⟨wb, wo, none⟩) wn wc) x146 x147 x148 x149 (.int .i64 m) (.pointer (some ⟨wb, wo + m, none⟩)) x152 x153 x154 x155 w1) := ⟨F.q1, F.q4, F.q5, F.q6, fun _ => ⟨(show _ from (by simp [hdep] : d_ 1 = true)), (show _ from (by simp [hdep] : d_ 6 = true))⟩, fun h => rfl, F.q10, F.q11, fun h => ⟨(F.q12 h).1, (F.q12 h).2.1, (F.q12 h).2.2.1, (F.q12 h).2.2.2.1, (F.q12 h).2.2.2.2.1, (F.q12 h).2.2.2.2.2.1, (F.q12 h).2.2.2.2.2.2.1, rfl, (F.q12 h).2.2.2.2.2.2.2.2.1, (F.q12 h).2.2.2.2.2.2.2.2.2.1, (F.q12 h).2.2.2.2.2.2.2.2.2.2.1, (F.q12 h).2.2.2.2.2.2.2.2.2.2.2⟩, F.f0, F.f1, F.f2, F.f3, F.f4, F.f5, F.f6, fun _ => rfl, F.f8, F.f9, F.f10, F.f11, F.st0, F.st1⟩
      clear F
      have hmn2 : m < wn := hmn
      go_simp
      exact HK.out _ _ ⟨_, _, _, _, _, _, _, _, _, _, _, _, rfl, HF.out⟩
    · have hst : S0 w1 := by
        have n_ : d_ 12 = false := by
          cases e_ : d_ 12 with
          | false => rfl
          | true => have h2 := (F.q12 e_).2.2.2.2.2.2.2.2.1; rw [show d_ 8 = false from hd_] at h2; cases h2
        exact (F.st0 n_)
      have kk := kl8.out w1 hst
      clear hst
      obtain rfl := F.f7 (by simp [hdep])
      have HF : Hid (tru18F bx sb k j v m ab ao n cap wb wo wn wc rb ro rn rc s S0 S1 (upd d_ 8) x144 x145 x146 x147 x148 x149 x150 (.pointer (some ⟨wb, wo + m, none⟩)) (.slice (some ⟨rb, ro, none⟩) rn rc) x153 x154 x155 w1) := ⟨F.q1, F.q4, F.q5, F.q6, F.q7, fun _ => (show _ from (by simp [hdep] : d_ 7 = true)), fun h => ⟨rfl, (F.q10 h).2⟩, F.q11, fun h => ⟨(F.q12 h).1, (F.q12 h).2.1, (F.q12 h).2.2.1, (F.q12 h).2.2.2.1, (F.q12 h).2.2.2.2.1, (F.q12 h).2.2.2.2.2.1, (F.q12 h).2.2.2.2.2.2.1, (F.q12 h).2.2.2.2.2.2.2.1, rfl, (F.q12 h).2.2.2.2.2.2.2.2.2.1, (F.q12 h).2.2.2.2.2.2.2.2.2.2.1, (F.q12 h).2.2.2.2.2.2.2.2.2.2.2⟩, F.f0, F.f1, F.f2, F.f3, F.f4, F.f5, F.f6, F.f7, fun _ => rfl, F.f9, F.f10, F.f11, F.st0, F.st1⟩
      clear F
      go_simp
      exact HK.out _ _ ⟨_, _, _, _, _, _, _, _, _, _, _, _, rfl, HF.out⟩
    · have HF : Hid (tru18F bx sb k j v m ab ao n cap wb wo wn wc rb ro rn rc s S0 S1 (upd d_ 9) x144 x145 x146 x147 x148 x149 x150 x151 x152 (.int .i64 v) x154 x155 w1) := ⟨F.q1, F.q4, F.q5, F.q6, F.q7, F.q8, fun h => ⟨(F.q10 h).1, rfl⟩, F.q11, fun h => ⟨(F.q12 h).1, (F.q12 h).2.1, (F.q12 h).2.2.1, (F.q12 h).2.2.2.1, (F.q12 h).2.2.2.2.1, (F.q12 h).2.2.2.2.2.1, (F.q12 h).2.2.2.2.2.2.1, (F.q12 h).2.2.2.2.2.2.2.1, (F.q12 h).2.2.2.2.2.2.2.2.1, rfl, (F.q12 h).2.2.2.2.2.2.2.2.2.2.1, (F.q12 h).2.2.2.2.2.2.2.2.2.2.2⟩, F.f0, F.f1, F.f2, F.f3, F.f4, F.f5, F.f6, F.f7, F.f8, fun _ => rfl, F.f10, F.f11, F.st0, F.st1⟩
      clear F
      go_simp
      exact HK.out _ _ ⟨_, _, _, _, _, _, _, _, _, _, _, _, rfl, HF.out⟩
    · obtain rfl := F.f8 (by simp [hdep])
      obtain rfl := F.f9 (by simp [hdep])
      have HF : Hid (tru18F bx sb k j v m ab ao n cap wb wo wn wc rb ro rn rc s S0 S1 (upd d_ 10) x144 x145 x146 x147 x148 x149 x150 x151 (.slice (some ⟨rb, ro, none⟩) rn rc) (.int .i64 v) (.pointer (some ⟨rb, ro + v * 2, none⟩)) x155 w1) := ⟨F.q1, F.q4, F.q5, F.q6, F.q7, F.q8, fun _ => ⟨(show _ from (by simp [hdep] : d_ 8 = true)), (show _ from (by simp [hdep] : d_ 9 = true))⟩, fun h => rfl, fun h => ⟨(F.q12 h).1, (F.q12 h).2.1, (F.q12 h).2.2.1, (F.q12 h).2.2.2.1, (F.q12 h).2.2.2.2.1, (F.q12 h).2.2.2.2.2.1, (F.q12 h).2.2.2.2.2.2.1, (F.q12 h).2.2.2.2.2.2.2.1, (F.q12 h).2.2.2.2.2.2.2.2.1, (F.q12 h).2.2.2.2.2.2.2.2.2.1, rfl, (F.q12 h).2.2.2.2.2.2.2.2.2.2.2⟩, F.f0, F.f1, F.f2, F.f3, F.f4, F.f5, F.f6, F.f7, F.f8, F.f9, fun _ => rfl, F.f11, F.st0, F.st1⟩
      clear F
      have hvn2 : v < rn := hvn
      go_simp
      exact HK.out _ _ ⟨_, _, _, _, _, _, _, _, _, _, _, _, rfl, HF.out⟩
    · have hst : S0 w1 := by
        have n_ : d_ 12 = false := by
          cases e_ : d_ 12 with
          | false => rfl
          | true => have h2 := (F.q12 e_).2.2.2.2.2.2.2.2.2.2.2; rw [show d_ 11 = false from hd_] at h2; cases h2
        exact (F.st0 n_)
      have kk := kl11.out w1 hst
      obtain ⟨kk0, kk1⟩ := kk
      clear hst
      obtain rfl := F.f10 (by simp [hdep])
      have HF : Hid (tru18F bx sb k j v m ab ao n cap wb wo wn wc rb ro rn rc s S0 S1 (upd d_ 11) x144 x145 x146 x147 x148 x149 x150 x151 x152 x153 (.pointer (some ⟨rb, ro + v * 2, none⟩)) (.agg #[.int .i64 s.lo, .int .i64 s.hi]) w1) := ⟨F.q1, F.q4, F.q5, F.q6, F.q7, F.q8, F.q10, fun _ => (show _ from (by simp [hdep] : d_ 10 = true)), fun h => ⟨(F.q12 h).1, (F.q12 h).2.1, (F.q12 h).2.2.1, (F.q12 h).2.2.2.1, (F.q12 h).2.2.2.2.1, (F.q12 h).2.2.2.2.2.1, (F.q12 h).2.2.2.2.2.2.1, (F.q12 h).2.2.2.2.2.2.2.1, (F.q12 h).2.2.2.2.2.2.2.2.1, (F.q12 h).2.2.2.2.2.2.2.2.2.1, (F.q12 h).2.2.2.2.2.2.2.2.2.2.1, rfl⟩, F.f0, F.f1, F.f2, F.f3, F.f4, F.f5, F.f6, F.f7, F.f8, F.f9, F.f10, fun _ => rfl, F.st0, F.st1⟩
      clear F
      go_simp
      exact HK.out _ _ ⟨_, _, _, _, _, _, _, _, _, _, _, _, rfl, HF.out⟩
    · have hS := F.st0  hd_
      obtain rfl := F.f11 (by simp [hdep])
      obtain ⟨⟨ku0, kcell0⟩, kfr0, ⟨ku1, kcell1⟩, kfr1, hres⟩ := kc12.out w1 hS
      have HF : Hid (tru18F bx sb k j v m ab ao n cap wb wo wn wc rb ro rn rc s S0 S1 (upd d_ 12) x144 x145 x146 x147 x148 x149 x150 x151 x152 x153 x154 (.agg #[.int .i64 s.lo, .int .i64 s.hi]) ((w1.setCell ⟨sb, 0, none⟩ (.int .i64 s.lo)).setCell ⟨sb, 1, none⟩ (.int .i64 s.hi))) := ⟨F.q1, F.q4, F.q5, F.q6, F.q7, F.q8, F.q10, F.q11, fun _ => ⟨(show _ from (by simp [hdep] : d_ 0 = true)), (show _ from (by simp [hdep] : d_ 1 = true)), (show _ from (by simp [hdep] : d_ 2 = true)), (show _ from (by simp [hdep] : d_ 3 = true)), (show _ from (by simp [hdep] : d_ 4 = true)), (show _ from (by simp [hdep] : d_ 5 = true)), (show _ from (by simp [hdep] : d_ 6 = true)), (show _ from (by simp [hdep] : d_ 7 = true)), (show _ from (by simp [hdep] : d_ 8 = true)), (show _ from (by simp [hdep] : d_ 9 = true)), (show _ from (by simp [hdep] : d_ 10 = true)), (show _ from (by simp [hdep] : d_ 11 = true))⟩, F.f0, F.f1, F.f2, F.f3, F.f4, F.f5, F.f6, F.f7, F.f8, F.f9, F.f10, F.f11, fun h => (by simp [upd] at h), fun _ => hres⟩
      clear F hS hres
      go_simp
      exact HK.out _ _ ⟨_, _, _, _, _, _, _, _, _, _, _, _, rfl, HF.out⟩
  · rintro d_ a_ w1 hall ⟨x144, x145, x146, x147, x148, x149, x150, x151, x152, x153, x154, x155, rfl, F⟩
    have hall' : ∀ k, k < 13 → d_ k = true := hall
    obtain rfl := F.f0 (hall' 0 (by decide))
    obtain rfl := F.f1 (hall' 1 (by decide))
    obtain rfl := F.f2 (hall' 2 (by decide))
    obtain rfl := F.f3 (hall' 3 (by decide))
    obtain rfl := F.f4 (hall' 4 (by decide))
    obtain rfl := F.f5 (hall' 5 (by decide))
    obtain rfl := F.f6 (hall' 6 (by decide))
    obtain rfl := F.f7 (hall' 7 (by decide))
    obtain rfl := F.f8 (hall' 8 (by decide))
    obtain rfl := F.f9 (hall' 9 (by decide))
    obtain rfl := F.f10 (hall' 10 (by decide))
    obtain rfl := F.f11 (hall' 11 (by decide))
    have hst := F.st1 (hall' 12 (by decide))
    exact HQ.out  w1 hst
end Go.Proofs.Ytphefhpmbahagaa
