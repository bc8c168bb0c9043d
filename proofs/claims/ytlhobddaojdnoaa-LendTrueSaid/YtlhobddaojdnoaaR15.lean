/- The law LendTurned: two lists copied in one statement. -/
import Derived.Test.YtlhobddaojdnoaaTA
namespace Go.Proofs.Ytlhobddaojdnoaa
open Go.RowKit
set_option linter.unusedVariables false

def regionAt (n : Nat) : Code → Option Code
  | .region id ops b => if id = n then some (.region id ops b) else none
  | .seq a b => match regionAt n a with
    | some c => some c
    | none => regionAt n b
  | .block _ c => regionAt n c
  | .scope c => regionAt n c
  | .loop c => regionAt n c
  | .cond _ a b => match regionAt n a with
    | some c => some c
    | none => regionAt n b
  | _ => none
noncomputable def regDC : Code := (Try.f11.body.bind (regionAt 23)).getD .skip
/-- What is known in the midst of the region. -/
structure CopF (W : World) (c : Cab) (B4 : Nat) (va vb : Value) (d : Nat → Bool) (x19 x20 x132 x133 x134 x135 x136 x137 x138 x139 : Value) (w : World) : Prop where
  same : Below W.heap.size W w
  o8 : d 8 = true → d 3 = true ∧ d 7 = true
  o9 : d 9 = true → d 7 = true
  f0 : d 0 = true → d 3 = false → w.ownsRow W.heap.size 3 1 x132 0 []
  f1 : d 1 = true → x133 = .pointer (some ⟨B4, 1, none⟩)
  f2 : d 2 = true → x134 = va
  f3 : d 3 = true → w.ownsRow W.heap.size 3 1 x135 c.homes.length (c.homes.map (Value.int .i64))
  f4 : d 4 = true → d 7 = false → w.ownsRow W.heap.size 48 4 x136 0 []
  f5 : d 5 = true → x137 = .pointer (some ⟨B4, 3, none⟩)
  f6 : d 6 = true → x138 = vb
  f7 : d 7 = true → w.ownsRow W.heap.size 48 4 x139 c.loans.length (loanCells c.loans)
  f8 : d 8 = true → x19 = x135
  f9 : d 9 = true → x20 = x139
section
variable {W : World} {c : Cab} {B4 : Nat} {va vb : Value} {d : Nat → Bool} {x19 x20 x132 x133 x134 x135 x136 x137 x138 x139 : Value} {w w' : World}
theorem CopF.s1 (F : CopF W c B4 va vb d x19 x20 x132 x133 x134 x135 x136 x137 x138 x139 w) : CopF W c B4 va vb (upd d 1) x19 x20 x132 (.pointer (some ⟨B4, 1, none⟩)) x134 x135 x136 x137 x138 x139 w := ⟨F.same, F.o8, F.o9, F.f0, fun _ => rfl, F.f2, F.f3, F.f4, F.f5, F.f6, F.f7, F.f8, F.f9⟩
theorem CopF.s2 (F : CopF W c B4 va vb d x19 x20 x132 x133 x134 x135 x136 x137 x138 x139 w) : CopF W c B4 va vb (upd d 2) x19 x20 x132 x133 va x135 x136 x137 x138 x139 w := ⟨F.same, F.o8, F.o9, F.f0, F.f1, fun _ => rfl, F.f3, F.f4, F.f5, F.f6, F.f7, F.f8, F.f9⟩
theorem CopF.s5 (F : CopF W c B4 va vb d x19 x20 x132 x133 x134 x135 x136 x137 x138 x139 w) : CopF W c B4 va vb (upd d 5) x19 x20 x132 x133 x134 x135 x136 (.pointer (some ⟨B4, 3, none⟩)) x138 x139 w := ⟨F.same, F.o8, F.o9, F.f0, F.f1, F.f2, F.f3, F.f4, fun _ => rfl, F.f6, F.f7, F.f8, F.f9⟩
theorem CopF.s6 (F : CopF W c B4 va vb d x19 x20 x132 x133 x134 x135 x136 x137 x138 x139 w) : CopF W c B4 va vb (upd d 6) x19 x20 x132 x133 x134 x135 x136 x137 vb x139 w := ⟨F.same, F.o8, F.o9, F.f0, F.f1, F.f2, F.f3, F.f4, F.f5, fun _ => rfl, F.f7, F.f8, F.f9⟩
theorem CopF.alloc (F : CopF W c B4 va vb d x19 x20 x132 x133 x134 x135 x136 x137 x138 x139 w) (o : Obj) : CopF W c B4 va vb d x19 x20 x132 x133 x134 x135 x136 x137 x138 x139 (w.alloc o) :=
  ⟨F.same.alloc F.same.size _, F.o8, F.o9, fun h1 h2 => (F.f0 h1 h2).alloc _, F.f1, F.f2, fun h => (F.f3 h).alloc _, fun h1 h2 => (F.f4 h1 h2).alloc _, F.f5, F.f6, fun h => (F.f7 h).alloc _, F.f8, F.f9⟩
theorem CopF.s0 (F : CopF W c B4 va vb d x19 x20 x132 x133 x134 x135 x136 x137 x138 x139 w) : CopF W c B4 va vb (upd d 0) x19 x20 (.slice (some ⟨w.heap.size, 0, none⟩) 0 0) x133 x134 x135 x136 x137 x138 x139 (w.alloc (.cells #[] 3)) := by
  have G := F.alloc (.cells #[] 3)
  exact ⟨G.same, F.o8, F.o9, fun _ _ => World.ownsRow_made w #[] 0 F.same.size (by simp [maxLen]) (by simp), F.f1, F.f2, G.f3, G.f4, F.f5, F.f6, G.f7, F.f8, F.f9⟩
theorem CopF.s4 (F : CopF W c B4 va vb d x19 x20 x132 x133 x134 x135 x136 x137 x138 x139 w) : CopF W c B4 va vb (upd d 4) x19 x20 x132 x133 x134 x135 (.slice (some ⟨w.heap.size, 0, none⟩) 0 0) x137 x138 x139 (w.alloc (.cells #[] 48)) := by
  have G := F.alloc (.cells #[] 48)
  exact ⟨G.same, F.o8, F.o9, G.f0, F.f1, F.f2, G.f3, fun _ _ => World.ownsRow_made w #[] 0 F.same.size (by simp [maxLen]) (by simp), F.f5, F.f6, G.f7, F.f8, F.f9⟩
theorem CopF.s3 (F : CopF W c B4 va vb d x19 x20 x132 x133 x134 x135 x136 x137 x138 x139 w) (hd : d 3 = false) (hx : w.ownsRow W.heap.size 3 1 x132 0 []) {v : Value} (hn : w'.ownsRow W.heap.size 3 1 v c.homes.length (c.homes.map (Value.int .i64))) (hg : w.grownBy w' x132.ownBlock) :
    CopF W c B4 va vb (upd d 3) x19 x20 x132 x133 x134 v x136 x137 x138 x139 w' := by
  have n8 : d 8 = false := by
    cases e : d 8 with
    | false => rfl
    | true => have := (F.o8 e).1; rw [hd] at this; cases this
  exact ⟨F.same.grown hg F.same.size (below_row hx), fun h => (by have h2 : d 8 = true := h; rw [n8] at h2; cases h2), F.o9, fun _ h => (by simp [upd] at h), F.f1, F.f2, fun _ => hn, fun h1 h2 => (F.f4 h1 h2).kept hg (own_apart (F.f4 h1 h2) hx (by decide)), F.f5, F.f6, fun h => (F.f7 h).kept hg (own_apart (F.f7 h) hx (by decide)), fun h => (by have h2 : d 8 = true := h; rw [n8] at h2; cases h2), F.f9⟩
theorem CopF.s7 (F : CopF W c B4 va vb d x19 x20 x132 x133 x134 x135 x136 x137 x138 x139 w) (hd : d 7 = false) (hx : w.ownsRow W.heap.size 48 4 x136 0 []) {v : Value} (hn : w'.ownsRow W.heap.size 48 4 v c.loans.length (loanCells c.loans)) (hg : w.grownBy w' x136.ownBlock) :
    CopF W c B4 va vb (upd d 7) x19 x20 x132 x133 x134 x135 x136 x137 x138 v w' := by
  have n8 : d 8 = false := by
    cases e : d 8 with
    | false => rfl
    | true => have := (F.o8 e).2; rw [hd] at this; cases this
  have n9 : d 9 = false := by
    cases e : d 9 with
    | false => rfl
    | true => have := F.o9 e; rw [hd] at this; cases this
  exact ⟨F.same.grown hg F.same.size (below_row hx), fun h => (by have h2 : d 8 = true := h; rw [n8] at h2; cases h2), fun _ => rfl, fun h1 h2 => (F.f0 h1 h2).kept hg (own_apart (F.f0 h1 h2) hx (by decide)), F.f1, F.f2, fun h => (F.f3 h).kept hg (own_apart (F.f3 h) hx (by decide)), fun _ h => (by simp [upd] at h), F.f5, F.f6, fun _ => hn, F.f8, fun h => (by have h2 : d 9 = true := h; rw [n9] at h2; cases h2)⟩
theorem CopF.s8 (F : CopF W c B4 va vb d x19 x20 x132 x133 x134 x135 x136 x137 x138 x139 w) (h3 : d 3 = true) (h7 : d 7 = true) : CopF W c B4 va vb (upd d 8) x135 x20 x132 x133 x134 x135 x136 x137 x138 x139 w := ⟨F.same, fun _ => ⟨h3, h7⟩, F.o9, F.f0, F.f1, F.f2, F.f3, F.f4, F.f5, F.f6, F.f7, fun _ => rfl, F.f9⟩
theorem CopF.s9 (F : CopF W c B4 va vb d x19 x20 x132 x133 x134 x135 x136 x137 x138 x139 w) (h7 : d 7 = true) : CopF W c B4 va vb (upd d 9) x19 x139 x132 x133 x134 x135 x136 x137 x138 x139 w := ⟨F.same, F.o8, fun _ => h7, F.f0, F.f1, F.f2, F.f3, F.f4, F.f5, F.f6, F.f7, F.f8, fun _ => rfl⟩
end
set_option maxRecDepth 100000 in
set_option maxHeartbeats 8000000 in
theorem regD {c : Cab} {w7 : World} {ah : Option Addr} {ch : Nat} {al : Option Addr} {cl B4 : Nat} {Q : Exit → Act → World → Prop} (hi : IsInts w7 ah c.homes) (li : IsLoans w7 al c.loans) (hh : c.homes.length ≤ 16) (hl : c.loans.length ≤ 30)
    (h1 : w7.cell? ⟨B4, 1, none⟩ = some (.slice ah c.homes.length ch)) (h3 : w7.cell? ⟨B4, 3, none⟩ = some (.slice al c.loans.length cl)) {s0 s1 s2 s3 s5 s6 s7 s8 s9 s10 s11 s12 s13 s14 s15 s16 s17 s18 s19 s20 s21 s22 s23 s24 s25 s26 s27 s28 s29 s30 s31 s32 s33 s34 s35 s36 s37 s38 s39 s40 s41 s42 s43 s44 s45 s46 s47 s48 s49 s50 s51 s52 s53 s54 s55 s56 s57 s58 s59 s60 s61 s62 s63 s64 s65 s66 s67 s68 s69 s70 s71 s72 s73 s74 s75 s76 s77 s78 s79 s80 s81 s82 s83 s84 s85 s86 s87 s88 s89 s90 s91 s92 s93 s94 s95 s96 s97 s98 s99 s100 s101 s102 s103 s104 s105 s106 s107 s108 s109 s110 s111 s112 s113 s114 s115 s116 s117 s118 s119 s120 s121 s122 s123 s124 s125 s126 s127 s128 s129 s130 s131 s132 s133 s134 s135 s136 s137 s138 s139 s140 s141 s142 s143 s144 s145 s146 s147 s148 s149 s150 s151 s152 s153 s154 s155 s156 s157 s158 s159 s160 s161 s162 s163 s164 s165 s166 s167 s168 s169 s170 s171 s172 s173 s174 s175 s176 s177 s178 s179 s180 s181 s182 s183 s184 s185 s186 s187 s188 s189 s190 s191 s192 s193 s194 s195 s196 s197 s198 s199 s200 s201 s202 s203 s204 s205 s206 s207 s208 s209 s210 s211 s212 s213 s214 s215 s216 s217 s218 s219 s220 s221 s222 s223 s224 s225 s226 s227 s228 s229 s230 s231 s232 s233 s234 s235 s236 s237 s238 s239 s240 s241 s242 s243 s244 s245 s246 s247 s248 s249 s250 s251 s252 s253 s254 s255 s256 s257 s258 s259 s260 s261 s262 s263 s264 s265 s266 s267 s268 s269 s270 s271 s272 s273 s274 s275 s276 s277 s278 s279 s280 s281 s282 s283 s284 s285 s286 s287 s288 s289 s290 s291 s292 s293 s294 s295 s296 s297 s298 s299 s300 s301 s302 s303 s304 s305 s306 s307 s308 s309 s310 s311 s312 s313 s314 s315 s316 s317 s318 s319 s320 s321 s322 s323 s324 s325 s326 s327 s328 s329 s330 s331 s332 s333 s334 s335 s336 s337 s338 s339 s340 s341 s342 s343 s344 s345 s346 s347 s348 s349 s350 s351 s352 s353 s354 s355 s356 s357 s358 s359 s360 : Value}
    (hQ : ∀ (x132 x133 x134 x135 x136 x137 x138 x139 : Value) (a1 a2 : Option Addr) (c1 c2 : Nat) (w' : World), IsInts w' a1 c.homes → IsLoans w' a2 c.loans → Below w7.heap.size w7 w' →
      Q .normal { tmps := #[s0, s1, s2, s3, .pointer (some ⟨B4, 0, none⟩), s5, s6, s7, s8, s9, s10, s11, s12, s13, s14, s15, s16, s17, s18, .slice a1 c.homes.length c1, .slice a2 c.loans.length c2, s21, s22, s23, s24, s25, s26, s27, s28, s29, s30, s31, s32, s33, s34, s35, s36, s37, s38, s39, s40, s41, s42, s43, s44, s45, s46, s47, s48, s49, s50, s51, s52, s53, s54, s55, s56, s57, s58, s59, s60, s61, s62, s63, s64, s65, s66, s67, s68, s69, s70, s71, s72, s73, s74, s75, s76, s77, s78, s79, s80, s81, s82, s83, s84, s85, s86, s87, s88, s89, s90, s91, s92, s93, s94, s95, s96, s97, s98, s99, s100, s101, s102, s103, s104, s105, s106, s107, s108, s109, s110, s111, s112, s113, s114, s115, s116, s117, s118, s119, s120, s121, s122, s123, s124, s125, s126, s127, s128, s129, s130, s131, x132, x133, x134, x135, x136, x137, x138, x139, s140, s141, s142, s143, s144, s145, s146, s147, s148, s149, s150, s151, s152, s153, s154, s155, s156, s157, s158, s159, s160, s161, s162, s163, s164, s165, s166, s167, s168, s169, s170, s171, s172, s173, s174, s175, s176, s177, s178, s179, s180, s181, s182, s183, s184, s185, s186, s187, s188, s189, s190, s191, s192, s193, s194, s195, s196, s197, s198, s199, s200, s201, s202, s203, s204, s205, s206, s207, s208, s209, s210, s211, s212, s213, s214, s215, s216, s217, s218, s219, s220, s221, s222, s223, s224, s225, s226, s227, s228, s229, s230, s231, s232, s233, s234, s235, s236, s237, s238, s239, s240, s241, s242, s243, s244, s245, s246, s247, s248, s249, s250, s251, s252, s253, s254, s255, s256, s257, s258, s259, s260, s261, s262, s263, s264, s265, s266, s267, s268, s269, s270, s271, s272, s273, s274, s275, s276, s277, s278, s279, s280, s281, s282, s283, s284, s285, s286, s287, s288, s289, s290, s291, s292, s293, s294, s295, s296, s297, s298, s299, s300, s301, s302, s303, s304, s305, s306, s307, s308, s309, s310, s311, s312, s313, s314, s315, s316, s317, s318, s319, s320, s321, s322, s323, s324, s325, s326, s327, s328, s329, s330, s331, s332, s333, s334, s335, s336, s337, s338, s339, s340, s341, s342, s343, s344, s345, s346, s347, s348, s349, s350, s351, s352, s353, s354, s355, s356, s357, s358, s359, s360], defers := [] } w') :
    Code.wp Try.prog regDC Q { tmps := #[s0, s1, s2, s3, .pointer (some ⟨B4, 0, none⟩), s5, s6, s7, s8, s9, s10, s11, s12, s13, s14, s15, s16, s17, s18, s19, s20, s21, s22, s23, s24, s25, s26, s27, s28, s29, s30, s31, s32, s33, s34, s35, s36, s37, s38, s39, s40, s41, s42, s43, s44, s45, s46, s47, s48, s49, s50, s51, s52, s53, s54, s55, s56, s57, s58, s59, s60, s61, s62, s63, s64, s65, s66, s67, s68, s69, s70, s71, s72, s73, s74, s75, s76, s77, s78, s79, s80, s81, s82, s83, s84, s85, s86, s87, s88, s89, s90, s91, s92, s93, s94, s95, s96, s97, s98, s99, s100, s101, s102, s103, s104, s105, s106, s107, s108, s109, s110, s111, s112, s113, s114, s115, s116, s117, s118, s119, s120, s121, s122, s123, s124, s125, s126, s127, s128, s129, s130, s131, s132, s133, s134, s135, s136, s137, s138, s139, s140, s141, s142, s143, s144, s145, s146, s147, s148, s149, s150, s151, s152, s153, s154, s155, s156, s157, s158, s159, s160, s161, s162, s163, s164, s165, s166, s167, s168, s169, s170, s171, s172, s173, s174, s175, s176, s177, s178, s179, s180, s181, s182, s183, s184, s185, s186, s187, s188, s189, s190, s191, s192, s193, s194, s195, s196, s197, s198, s199, s200, s201, s202, s203, s204, s205, s206, s207, s208, s209, s210, s211, s212, s213, s214, s215, s216, s217, s218, s219, s220, s221, s222, s223, s224, s225, s226, s227, s228, s229, s230, s231, s232, s233, s234, s235, s236, s237, s238, s239, s240, s241, s242, s243, s244, s245, s246, s247, s248, s249, s250, s251, s252, s253, s254, s255, s256, s257, s258, s259, s260, s261, s262, s263, s264, s265, s266, s267, s268, s269, s270, s271, s272, s273, s274, s275, s276, s277, s278, s279, s280, s281, s282, s283, s284, s285, s286, s287, s288, s289, s290, s291, s292, s293, s294, s295, s296, s297, s298, s299, s300, s301, s302, s303, s304, s305, s306, s307, s308, s309, s310, s311, s312, s313, s314, s315, s316, s317, s318, s319, s320, s321, s322, s323, s324, s325, s326, s327, s328, s329, s330, s331, s332, s333, s334, s335, s336, s337, s338, s339, s340, s341, s342, s343, s344, s345, s346, s347, s348, s349, s350, s351, s352, s353, s354, s355, s356, s357, s358, s359, s360], defers := [] } w7 := by
  obtain ⟨i0, hi0, hz0, hz1, hz2⟩ := info_parts infoI
  obtain ⟨j0, hj0, hy0, hy1, hy2⟩ := info_parts info48
  have HQ := Lib.hid hQ
  clear hQ
  conv => arg 2; whnf
  refine wp_region_inv mixed (by kernel_rfl) (fun d_ a_ w' => ∃ x19 x20 x132 x133 x134 x135 x136 x137 x138 x139, a_ = { tmps := #[s0, s1, s2, s3, .pointer (some ⟨B4, 0, none⟩), s5, s6, s7, s8, s9, s10, s11, s12, s13, s14, s15, s16, s17, s18, x19, x20, s21, s22, s23, s24, s25, s26, s27, s28, s29, s30, s31, s32, s33, s34, s35, s36, s37, s38, s39, s40, s41, s42, s43, s44, s45, s46, s47, s48, s49, s50, s51, s52, s53, s54, s55, s56, s57, s58, s59, s60, s61, s62, s63, s64, s65, s66, s67, s68, s69, s70, s71, s72, s73, s74, s75, s76, s77, s78, s79, s80, s81, s82, s83, s84, s85, s86, s87, s88, s89, s90, s91, s92, s93, s94, s95, s96, s97, s98, s99, s100, s101, s102, s103, s104, s105, s106, s107, s108, s109, s110, s111, s112, s113, s114, s115, s116, s117, s118, s119, s120, s121, s122, s123, s124, s125, s126, s127, s128, s129, s130, s131, x132, x133, x134, x135, x136, x137, x138, x139, s140, s141, s142, s143, s144, s145, s146, s147, s148, s149, s150, s151, s152, s153, s154, s155, s156, s157, s158, s159, s160, s161, s162, s163, s164, s165, s166, s167, s168, s169, s170, s171, s172, s173, s174, s175, s176, s177, s178, s179, s180, s181, s182, s183, s184, s185, s186, s187, s188, s189, s190, s191, s192, s193, s194, s195, s196, s197, s198, s199, s200, s201, s202, s203, s204, s205, s206, s207, s208, s209, s210, s211, s212, s213, s214, s215, s216, s217, s218, s219, s220, s221, s222, s223, s224, s225, s226, s227, s228, s229, s230, s231, s232, s233, s234, s235, s236, s237, s238, s239, s240, s241, s242, s243, s244, s245, s246, s247, s248, s249, s250, s251, s252, s253, s254, s255, s256, s257, s258, s259, s260, s261, s262, s263, s264, s265, s266, s267, s268, s269, s270, s271, s272, s273, s274, s275, s276, s277, s278, s279, s280, s281, s282, s283, s284, s285, s286, s287, s288, s289, s290, s291, s292, s293, s294, s295, s296, s297, s298, s299, s300, s301, s302, s303, s304, s305, s306, s307, s308, s309, s310, s311, s312, s313, s314, s315, s316, s317, s318, s319, s320, s321, s322, s323, s324, s325, s326, s327, s328, s329, s330, s331, s332, s333, s334, s335, s336, s337, s338, s339, s340, s341, s342, s343, s344, s345, s346, s347, s348, s349, s350, s351, s352, s353, s354, s355, s356, s357, s358, s359, s360], defers := [] } ∧ CopF w7 c B4 (.slice ah c.homes.length ch) (.slice al c.loans.length cl) d_ x19 x20 x132 x133 x134 x135 x136 x137 x138 x139 w') ?_ ?_ ?_
  · exact ⟨s19, s20, s132, s133, s134, s135, s136, s137, s138, s139, rfl, by constructor <;> first | exact (Below.refl _ w7).drew | (intro h; cases h)⟩
  · refine ⟨?_, ?_, ?_, ?_, ?_, ?_, ?_, ?_, ?_, ?_, trivial⟩
    all_goals
      rintro d_ a_ w1 K hd hdep ⟨x19, x20, x132, x133, x134, x135, x136, x137, x138, x139, rfl, F⟩ HK
      simp [Region.binds] at hdep
    · have HF := Lib.hid F.s0
      clear F
      go_simp
      exact HK.out _ _ ⟨_, _, _, _, _, _, _, _, _, _, rfl, HF.out⟩
    · have HF := Lib.hid F.s1
      clear F
      go_simp
      exact HK.out _ _ ⟨_, _, _, _, _, _, _, _, _, _, rfl, HF.out⟩
    · obtain rfl := F.f1 hdep
      have hc := cell_stays F.same h1
      have HF := Lib.hid F.s2
      clear F
      go_simp
      exact HK.out _ _ ⟨_, _, _, _, _, _, _, _, _, _, rfl, HF.out⟩
    · obtain rfl := F.f2 hdep.2
      have own := F.f0 hdep.1 hd
      obtain ⟨v', w', hr, hn, hg⟩ := append_rows (P := Try.prog) w7.heap.size 22 22 3 i0 _ 1 8 Try.underlying22 hi0 hz0 hz1 hz2 rfl (by decide) _ _ _ own ah c.homes.length ch (c.homes.map (Value.int .i64)) (by simp) (ints_of_news (hi.mono F.same)) (one_ints _) (by simp [maxLen]; omega) (by omega) F.same.size
      refine wp_append_run (.tmp 132) (.tmp 134) 22 rfl _ _ _ _ rfl rfl hr ?_
      exact HK.out _ _ ⟨_, _, _, _, _, _, _, _, _, _, rfl, F.s3 hd own (by simpa using hn) hg⟩
    · have HF := Lib.hid F.s4
      clear F
      go_simp
      exact HK.out _ _ ⟨_, _, _, _, _, _, _, _, _, _, rfl, HF.out⟩
    · have HF := Lib.hid F.s5
      clear F
      go_simp
      exact HK.out _ _ ⟨_, _, _, _, _, _, _, _, _, _, rfl, HF.out⟩
    · obtain rfl := F.f5 hdep
      have hc := cell_stays F.same h3
      have HF := Lib.hid F.s6
      clear F
      go_simp
      exact HK.out _ _ ⟨_, _, _, _, _, _, _, _, _, _, rfl, HF.out⟩
    · obtain rfl := F.f6 hdep.2.1
      have own := F.f4 hdep.1 hd
      obtain ⟨v', w', hr, hn, hg⟩ := append_rows (P := Try.prog) w7.heap.size 23 23 48 j0 _ 4 32 Try.underlying23 hj0 hy0 hy1 hy2 rfl (by decide) _ _ _ own al c.loans.length cl (loanCells c.loans) (loanCells_len _) (loanCells_of (li.mono F.same)) (loanCells_one _) (by simp [maxLen]; omega) (by omega) F.same.size
      refine wp_append_run (.tmp 136) (.tmp 138) 23 rfl _ _ _ _ rfl rfl hr ?_
      exact HK.out _ _ ⟨_, _, _, _, _, _, _, _, _, _, rfl, F.s7 hd own (by simpa using hn) hg⟩
    · have HF := Lib.hid (F.s8 (by simp [hdep]) (by simp [hdep]))
      clear F
      go_simp
      exact HK.out _ _ ⟨_, _, _, _, _, _, _, _, _, _, rfl, HF.out⟩
    · have HF := Lib.hid (F.s9 (by simp [hdep]))
      clear F
      go_simp
      exact HK.out _ _ ⟨_, _, _, _, _, _, _, _, _, _, rfl, HF.out⟩
  · rintro d_ a_ w1 hall ⟨x19, x20, x132, x133, x134, x135, x136, x137, x138, x139, rfl, F⟩
    have hall' : ∀ k, k < 10 → d_ k = true := hall
    obtain rfl := F.f8 (hall' 8 (by decide))
    obtain rfl := F.f9 (hall' 9 (by decide))
    have o1 := F.f3 (hall' 3 (by decide))
    have o2 := F.f7 (hall' 7 (by decide))
    obtain ⟨a1, c1, e1, i1⟩ := own_ints o1 rfl
    obtain ⟨a2, c2, e2, _⟩ := own_slice o2
    subst e1 e2
    refine HQ.out _ _ _ _ _ _ _ _ a1 a2 c1 c2 w1 i1 ?_ F.same
    by_cases h0 : c.loans.length = 0
    · intro i hi
      omega
    · obtain ⟨g, cap, he, _, _, _, _, hcs⟩ := own_cell o2 (by omega)
      simp only [Value.slice.injEq, true_and] at he
      obtain ⟨rfl, rfl⟩ := he
      exact loans_of_cells hcs
end Go.Proofs.Ytlhobddaojdnoaa
