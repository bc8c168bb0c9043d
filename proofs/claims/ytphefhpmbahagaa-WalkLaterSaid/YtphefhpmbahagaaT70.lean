/- The drawn regions of WalkLater's law: two copies of a tour. WalkLater: the plain law. WalkLater: the walk. -/
import Derived.Test.YtphefhpmbahagaaT10
import Derived.Test.YtphefhpmbahagaaT61
import Derived.Test.YtphefhpmbahagaaT52
namespace Go.Proofs.Ytphefhpmbahagaa
open Go.RowKit
set_option linter.unusedVariables false
set_option linter.unusedSimpArgs false

structure lat10F (W1 : World) (t : Tr) (A : TrA) (bx : Nat) (d : Nat → Bool) (x72 x73 x13 x14 : Value) (w : World) : Prop where
  same : Below W1.heap.size W1 w
  f0 : d 0 = true → x72 = t.v A
  f1 : d 1 = true → x73 = t.v A
  f2 : d 2 = true → ∃ bq : Nat, x13 = .pointer (some ⟨bq, 0, none⟩) ∧ W1.heap.size ≤ bq ∧ w.heap[bq]? = some (.cells (if d 4 then (t.cells A) else #[.int .i64 0, .slice none 0 0, .slice none 0 0, .slice none 0 0, .slice none 0 0]) 25 (0, 0))
  o4 : d 4 = true → d 2 = true
  f3 : d 3 = true → ∃ bq : Nat, x14 = .pointer (some ⟨bq, 0, none⟩) ∧ W1.heap.size ≤ bq ∧ w.heap[bq]? = some (.cells (if d 5 then (t.cells A) else #[.int .i64 0, .slice none 0 0, .slice none 0 0, .slice none 0 0, .slice none 0 0]) 25 (0, 0))
  o5 : d 5 = true → d 3 = true
  n2_3 : d 2 = true → d 3 = true → x13 ≠ x14
section
variable {W1 : World} {t : Tr} {A : TrA} {bx : Nat} {d : Nat → Bool} {x72 x73 x13 x14 : Value} {w w' : World}
theorem lat10F.s0 (F : lat10F W1 t A bx d x72 x73 x13 x14 w) : lat10F W1 t A bx (upd d 0) (t.v A) x73 x13 x14 w := ⟨F.same, fun _ => rfl, F.f1, F.f2, F.o4, F.f3, F.o5, F.n2_3⟩
theorem lat10F.s1 (F : lat10F W1 t A bx d x72 x73 x13 x14 w) : lat10F W1 t A bx (upd d 1) x72 (t.v A) x13 x14 w := ⟨F.same, F.f0, fun _ => rfl, F.f2, F.o4, F.f3, F.o5, F.n2_3⟩
theorem lat10F.below (F : lat10F W1 t A bx d x72 x73 x13 x14 w) (hb : Below w.heap.size w w') : lat10F W1 t A bx d x72 x73 x13 x14 w' := by
  refine ⟨F.same.trans (hb.mono F.same.size), F.f0, F.f1, ?_, F.o4, ?_, F.o5, F.n2_3⟩
  · intro h
    obtain ⟨bq, h1, h2, h3⟩ := F.f2 h
    exact ⟨bq, h1, h2, (hb.block _ (heap_lt h3)).trans h3⟩
  · intro h
    obtain ⟨bq, h1, h2, h3⟩ := F.f3 h
    exact ⟨bq, h1, h2, (hb.block _ (heap_lt h3)).trans h3⟩
theorem lat10F.s2 (F : lat10F W1 t A bx d x72 x73 x13 x14 w) (h4 : d 4 = false) : lat10F W1 t A bx (upd d 2) x72 x73 (.pointer (some ⟨w.heap.size, 0, none⟩)) x14 (w.alloc (.cells #[.int .i64 0, .slice none 0 0, .slice none 0 0, .slice none 0 0, .slice none 0 0] 25)) := by
  have G := F.below ((Below.refl _ w).alloc (Nat.le_refl _) (.cells #[.int .i64 0, .slice none 0 0, .slice none 0 0, .slice none 0 0, .slice none 0 0] 25))
  refine ⟨G.same, G.f0, G.f1, ?_, fun h => (by have h2 : d 4 = true := h; rw [h4] at h2; cases h2), G.f3, G.o5, fun _ h e => (by obtain ⟨bq, h1, h2, h3⟩ := F.f3 h; rw [h1] at e; have h4 := heap_lt h3; simp only [Value.pointer.injEq, Option.some.injEq, Addr.mk.injEq] at e; omega)⟩
  intro _
  have e : upd d 2 4 = false := h4
  rw [e]
  exact ⟨_, rfl, F.same.size, World.alloc_heap_new w _⟩
theorem lat10F.s4 (F : lat10F W1 t A bx d x72 x73 x13 x14 w) (h2 : d 2 = true) {bq : Nat} (hb : W1.heap.size ≤ bq) (hx : x13 = .pointer (some ⟨bq, 0, none⟩)) (hh : w.heap[bq]? = some (.cells #[.int .i64 0, .slice none 0 0, .slice none 0 0, .slice none 0 0, .slice none 0 0] 25 (0, 0))) : lat10F W1 t A bx (upd d 4) x72 x73 x13 x14 (((((w.setCell ⟨bq, 0, none⟩ (.int .i64 t.dawn)).setCell ⟨bq, 1, none⟩ (.slice A.af t.frm.length A.cf)).setCell ⟨bq, 2, none⟩ (.slice A.aw t.ways.length A.cw)).setCell ⟨bq, 3, none⟩ (.slice A.as_ t.stay.length A.cs)).setCell ⟨bq, 4, none⟩ (.slice A.al t.light.length A.cl)) := by
  refine ⟨(((((F.same).setCell (p := ⟨bq, 0, none⟩) hb (.int .i64 t.dawn)).setCell (p := ⟨bq, 1, none⟩) hb (.slice A.af t.frm.length A.cf)).setCell (p := ⟨bq, 2, none⟩) hb (.slice A.aw t.ways.length A.cw)).setCell (p := ⟨bq, 3, none⟩) hb (.slice A.as_ t.stay.length A.cs)).setCell (p := ⟨bq, 4, none⟩) hb (.slice A.al t.light.length A.cl), F.f0, F.f1, ?_, fun _ => h2, fun h => (by obtain ⟨bz, g1, g2, g3⟩ := F.f3 h; have hne : bz ≠ bq := fun e => F.n2_3 h2 h (by rw [hx, g1, e]); exact ⟨bz, g1, g2, by refine (Below.heap_setCell _ _ _ _ hne).trans ?_; refine (Below.heap_setCell _ _ _ _ hne).trans ?_; refine (Below.heap_setCell _ _ _ _ hne).trans ?_; refine (Below.heap_setCell _ _ _ _ hne).trans ?_; refine (Below.heap_setCell _ _ _ _ hne).trans ?_; exact g3⟩), F.o5, F.n2_3⟩
  intro _
  have e : upd d 4 4 = true := rfl
  rw [e]
  exact ⟨bq, hx, hb, (heap_setCell_at (k := 4) (heap_setCell_at (k := 3) (heap_setCell_at (k := 2) (heap_setCell_at (k := 1) (heap_setCell_at (k := 0) hh (.int .i64 t.dawn)) (.slice A.af t.frm.length A.cf)) (.slice A.aw t.ways.length A.cw)) (.slice A.as_ t.stay.length A.cs)) (.slice A.al t.light.length A.cl))⟩
theorem lat10F.s3 (F : lat10F W1 t A bx d x72 x73 x13 x14 w) (h5 : d 5 = false) : lat10F W1 t A bx (upd d 3) x72 x73 x13 (.pointer (some ⟨w.heap.size, 0, none⟩)) (w.alloc (.cells #[.int .i64 0, .slice none 0 0, .slice none 0 0, .slice none 0 0, .slice none 0 0] 25)) := by
  have G := F.below ((Below.refl _ w).alloc (Nat.le_refl _) (.cells #[.int .i64 0, .slice none 0 0, .slice none 0 0, .slice none 0 0, .slice none 0 0] 25))
  refine ⟨G.same, G.f0, G.f1, G.f2, G.o4, ?_, fun h => (by have h2 : d 5 = true := h; rw [h5] at h2; cases h2), fun h _ e => (by obtain ⟨bq, h1, h2, h3⟩ := F.f2 h; rw [h1] at e; have h4 := heap_lt h3; simp only [Value.pointer.injEq, Option.some.injEq, Addr.mk.injEq] at e; omega)⟩
  intro _
  have e : upd d 3 5 = false := h5
  rw [e]
  exact ⟨_, rfl, F.same.size, World.alloc_heap_new w _⟩
theorem lat10F.s5 (F : lat10F W1 t A bx d x72 x73 x13 x14 w) (h3 : d 3 = true) {bq : Nat} (hb : W1.heap.size ≤ bq) (hx : x14 = .pointer (some ⟨bq, 0, none⟩)) (hh : w.heap[bq]? = some (.cells #[.int .i64 0, .slice none 0 0, .slice none 0 0, .slice none 0 0, .slice none 0 0] 25 (0, 0))) : lat10F W1 t A bx (upd d 5) x72 x73 x13 x14 (((((w.setCell ⟨bq, 0, none⟩ (.int .i64 t.dawn)).setCell ⟨bq, 1, none⟩ (.slice A.af t.frm.length A.cf)).setCell ⟨bq, 2, none⟩ (.slice A.aw t.ways.length A.cw)).setCell ⟨bq, 3, none⟩ (.slice A.as_ t.stay.length A.cs)).setCell ⟨bq, 4, none⟩ (.slice A.al t.light.length A.cl)) := by
  refine ⟨(((((F.same).setCell (p := ⟨bq, 0, none⟩) hb (.int .i64 t.dawn)).setCell (p := ⟨bq, 1, none⟩) hb (.slice A.af t.frm.length A.cf)).setCell (p := ⟨bq, 2, none⟩) hb (.slice A.aw t.ways.length A.cw)).setCell (p := ⟨bq, 3, none⟩) hb (.slice A.as_ t.stay.length A.cs)).setCell (p := ⟨bq, 4, none⟩) hb (.slice A.al t.light.length A.cl), F.f0, F.f1, fun h => (by obtain ⟨bz, g1, g2, g3⟩ := F.f2 h; have hne : bz ≠ bq := fun e => F.n2_3 h h3 (by rw [hx, g1, e]); exact ⟨bz, g1, g2, by refine (Below.heap_setCell _ _ _ _ hne).trans ?_; refine (Below.heap_setCell _ _ _ _ hne).trans ?_; refine (Below.heap_setCell _ _ _ _ hne).trans ?_; refine (Below.heap_setCell _ _ _ _ hne).trans ?_; refine (Below.heap_setCell _ _ _ _ hne).trans ?_; exact g3⟩), F.o4, ?_, fun _ => h3, F.n2_3⟩
  intro _
  have e : upd d 5 5 = true := rfl
  rw [e]
  exact ⟨bq, hx, hb, (heap_setCell_at (k := 4) (heap_setCell_at (k := 3) (heap_setCell_at (k := 2) (heap_setCell_at (k := 1) (heap_setCell_at (k := 0) hh (.int .i64 t.dawn)) (.slice A.af t.frm.length A.cf)) (.slice A.aw t.ways.length A.cw)) (.slice A.as_ t.stay.length A.cs)) (.slice A.al t.light.length A.cl))⟩
end
noncomputable def lat10C : Code := (Try.f9.body.bind (regionAt 10)).getD .skip
set_option maxRecDepth 100000 in
set_option maxHeartbeats 4000000 in
theorem lat10 {W1 : World} {t : Tr} {A : TrA} {bx : Nat} {Q : Exit → Act → World → Prop} (hq : W1.heap[bx]? = some (.cells (t.cells A) 25 (0, 0)))
    {s0 s1 s2 s3 s5 s6 s7 s8 s9 s10 s11 s12 s13 s14 s15 s16 s17 s18 s19 s20 s21 s22 s23 s24 s25 s26 s27 s28 s29 s30 s31 s32 s33 s34 s35 s36 s37 s38 s39 s40 s41 s42 s43 s44 s45 s46 s47 s48 s49 s50 s51 s52 s53 s54 s55 s56 s57 s58 s59 s60 s61 s62 s63 s64 s65 s66 s67 s68 s69 s70 s71 s72 s73 s74 s75 s76 s77 s78 s79 s80 s81 s82 s83 s84 s85 s86 s87 s88 s89 s90 s91 s92 s93 s94 s95 s96 s97 s98 s99 s100 s101 s102 s103 s104 s105 s106 s107 s108 s109 s110 s111 s112 s113 s114 s115 s116 s117 s118 s119 s120 s121 s122 s123 s124 s125 s126 s127 s128 s129 s130 s131 s132 s133 s134 s135 s136 s137 s138 s139 s140 s141 s142 s143 s144 s145 s146 s147 s148 s149 s150 s151 s152 s153 s154 s155 s156 s157 s158 s159 s160 s161 s162 s163 s164 s165 s166 s167 s168 s169 s170 s171 s172 s173 s174 s175 s176 s177 s178 s179 s180 s181 s182 s183 s184 s185 s186 s187 s188 s189 s190 s191 s192 s193 s194 s195 s196 s197 s198 s199 s200 s201 s202 s203 s204 s205 s206 s207 s208 s209 s210 s211 s212 s213 s214 s215 s216 s217 s218 s219 s220 s221 s222 s223 s224 s225 s226 s227 s228 s229 s230 s231 s232 s233 s234 s235 s236 s237 s238 s239 s240 s241 s242 s243 s244 s245 s246 s247 s248 s249 s250 s251 s252 s253 s254 s255 : Value} {dd : List Deferred}
    (hQ : ∀ (x72 x73 x13 x14 : Value) (w' : World), Below W1.heap.size W1 w' → x72 = t.v A → x73 = t.v A → (∃ bq : Nat, x13 = .pointer (some ⟨bq, 0, none⟩) ∧ W1.heap.size ≤ bq ∧ w'.heap[bq]? = some (.cells (t.cells A) 25 (0, 0))) → (∃ bq : Nat, x14 = .pointer (some ⟨bq, 0, none⟩) ∧ W1.heap.size ≤ bq ∧ w'.heap[bq]? = some (.cells (t.cells A) 25 (0, 0))) → x13 ≠ x14 → Q .normal { tmps := #[s0, s1, s2, s3, .pointer (some ⟨bx, 0, none⟩), s5, s6, s7, s8, s9, s10, s11, s12, x13, x14, s15, s16, s17, s18, s19, s20, s21, s22, s23, s24, s25, s26, s27, s28, s29, s30, s31, s32, s33, s34, s35, s36, s37, s38, s39, s40, s41, s42, s43, s44, s45, s46, s47, s48, s49, s50, s51, s52, s53, s54, s55, s56, s57, s58, s59, s60, s61, s62, s63, s64, s65, s66, s67, s68, s69, s70, s71, x72, x73, s74, s75, s76, s77, s78, s79, s80, s81, s82, s83, s84, s85, s86, s87, s88, s89, s90, s91, s92, s93, s94, s95, s96, s97, s98, s99, s100, s101, s102, s103, s104, s105, s106, s107, s108, s109, s110, s111, s112, s113, s114, s115, s116, s117, s118, s119, s120, s121, s122, s123, s124, s125, s126, s127, s128, s129, s130, s131, s132, s133, s134, s135, s136, s137, s138, s139, s140, s141, s142, s143, s144, s145, s146, s147, s148, s149, s150, s151, s152, s153, s154, s155, s156, s157, s158, s159, s160, s161, s162, s163, s164, s165, s166, s167, s168, s169, s170, s171, s172, s173, s174, s175, s176, s177, s178, s179, s180, s181, s182, s183, s184, s185, s186, s187, s188, s189, s190, s191, s192, s193, s194, s195, s196, s197, s198, s199, s200, s201, s202, s203, s204, s205, s206, s207, s208, s209, s210, s211, s212, s213, s214, s215, s216, s217, s218, s219, s220, s221, s222, s223, s224, s225, s226, s227, s228, s229, s230, s231, s232, s233, s234, s235, s236, s237, s238, s239, s240, s241, s242, s243, s244, s245, s246, s247, s248, s249, s250, s251, s252, s253, s254, s255], defers := dd } w') :
    Code.wp Try.prog lat10C Q { tmps := #[s0, s1, s2, s3, .pointer (some ⟨bx, 0, none⟩), s5, s6, s7, s8, s9, s10, s11, s12, s13, s14, s15, s16, s17, s18, s19, s20, s21, s22, s23, s24, s25, s26, s27, s28, s29, s30, s31, s32, s33, s34, s35, s36, s37, s38, s39, s40, s41, s42, s43, s44, s45, s46, s47, s48, s49, s50, s51, s52, s53, s54, s55, s56, s57, s58, s59, s60, s61, s62, s63, s64, s65, s66, s67, s68, s69, s70, s71, s72, s73, s74, s75, s76, s77, s78, s79, s80, s81, s82, s83, s84, s85, s86, s87, s88, s89, s90, s91, s92, s93, s94, s95, s96, s97, s98, s99, s100, s101, s102, s103, s104, s105, s106, s107, s108, s109, s110, s111, s112, s113, s114, s115, s116, s117, s118, s119, s120, s121, s122, s123, s124, s125, s126, s127, s128, s129, s130, s131, s132, s133, s134, s135, s136, s137, s138, s139, s140, s141, s142, s143, s144, s145, s146, s147, s148, s149, s150, s151, s152, s153, s154, s155, s156, s157, s158, s159, s160, s161, s162, s163, s164, s165, s166, s167, s168, s169, s170, s171, s172, s173, s174, s175, s176, s177, s178, s179, s180, s181, s182, s183, s184, s185, s186, s187, s188, s189, s190, s191, s192, s193, s194, s195, s196, s197, s198, s199, s200, s201, s202, s203, s204, s205, s206, s207, s208, s209, s210, s211, s212, s213, s214, s215, s216, s217, s218, s219, s220, s221, s222, s223, s224, s225, s226, s227, s228, s229, s230, s231, s232, s233, s234, s235, s236, s237, s238, s239, s240, s241, s242, s243, s244, s245, s246, s247, s248, s249, s250, s251, s252, s253, s254, s255], defers := dd } W1 := by
  have HQ := Lib.hid hQ
  clear hQ
  conv => arg 2; whnf
  refine wp_region_inv' mixed (by kernel_rfl) (fun d_ a_ w' => ∃ x72 x73 x13 x14, a_ = { tmps := #[s0, s1, s2, s3, .pointer (some ⟨bx, 0, none⟩), s5, s6, s7, s8, s9, s10, s11, s12, x13, x14, s15, s16, s17, s18, s19, s20, s21, s22, s23, s24, s25, s26, s27, s28, s29, s30, s31, s32, s33, s34, s35, s36, s37, s38, s39, s40, s41, s42, s43, s44, s45, s46, s47, s48, s49, s50, s51, s52, s53, s54, s55, s56, s57, s58, s59, s60, s61, s62, s63, s64, s65, s66, s67, s68, s69, s70, s71, x72, x73, s74, s75, s76, s77, s78, s79, s80, s81, s82, s83, s84, s85, s86, s87, s88, s89, s90, s91, s92, s93, s94, s95, s96, s97, s98, s99, s100, s101, s102, s103, s104, s105, s106, s107, s108, s109, s110, s111, s112, s113, s114, s115, s116, s117, s118, s119, s120, s121, s122, s123, s124, s125, s126, s127, s128, s129, s130, s131, s132, s133, s134, s135, s136, s137, s138, s139, s140, s141, s142, s143, s144, s145, s146, s147, s148, s149, s150, s151, s152, s153, s154, s155, s156, s157, s158, s159, s160, s161, s162, s163, s164, s165, s166, s167, s168, s169, s170, s171, s172, s173, s174, s175, s176, s177, s178, s179, s180, s181, s182, s183, s184, s185, s186, s187, s188, s189, s190, s191, s192, s193, s194, s195, s196, s197, s198, s199, s200, s201, s202, s203, s204, s205, s206, s207, s208, s209, s210, s211, s212, s213, s214, s215, s216, s217, s218, s219, s220, s221, s222, s223, s224, s225, s226, s227, s228, s229, s230, s231, s232, s233, s234, s235, s236, s237, s238, s239, s240, s241, s242, s243, s244, s245, s246, s247, s248, s249, s250, s251, s252, s253, s254, s255], defers := dd } ∧ lat10F W1 t A bx d_ x72 x73 x13 x14 w') ?_ ?_ ?_
  · refine ⟨s72, s73, s13, s14, rfl, (Below.refl _ W1).drew, ?_, ?_, ?_, ?_, ?_, ?_, ?_⟩ <;> (intro h; cases h)
  · refine ⟨?_, ?_, ?_, ?_, ?_, ?_, trivial⟩
    all_goals
      rintro d_ a_ w1 K hd_ hdep ⟨x72, x73, x13, x14, rfl, F⟩ HK
      simp [Region.binds] at hdep
      have hb1 := F.same
    · obtain ⟨k0, k1, k2, k3, k4⟩ := tr_cells ((F.same.block _ (heap_lt hq)).trans hq)
      have HF := Lib.hid F.s0
      clear F
      skip
      go_simp
      exact HK.out _ _ ⟨_, _, _, _, rfl, HF.out⟩
    · obtain ⟨k0, k1, k2, k3, k4⟩ := tr_cells ((F.same.block _ (heap_lt hq)).trans hq)
      have HF := Lib.hid F.s1
      clear F
      skip
      go_simp
      exact HK.out _ _ ⟨_, _, _, _, rfl, HF.out⟩
    · have n4 : d_ 4 = false := by
        cases e : d_ 4 with
        | false => rfl
        | true => have h2 := F.o4 e; exact absurd (show d_ 2 = false from hd_) (by rw [h2]; simp)
      have HF := Lib.hid (F.s2 n4)
      clear F hb1
      go_simp
      exact HK.out _ _ ⟨_, _, _, _, rfl, HF.out⟩
    · have n5 : d_ 5 = false := by
        cases e : d_ 5 with
        | false => rfl
        | true => have h2 := F.o5 e; exact absurd (show d_ 3 = false from hd_) (by rw [h2]; simp)
      have HF := Lib.hid (F.s3 n5)
      clear F hb1
      go_simp
      exact HK.out _ _ ⟨_, _, _, _, rfl, HF.out⟩
    · obtain rfl := F.f0 (by simp [hdep])
      have ha2 : d_ 2 = true := by simp [hdep]
      obtain ⟨bq, hx, hWb, hh⟩ := F.f2 ha2
      have hds : d_ 4 = false := hd_
      rw [hds] at hh
      have hh' : w1.heap[bq]? = some (.cells #[.int .i64 0, .slice none 0 0, .slice none 0 0, .slice none 0 0, .slice none 0 0] 25 (0, 0)) := hh
      have z0 : ∀ k, w1.frozen? ⟨bq, k, none⟩ = false := fun k => frozen_of_heap hh'
      have zc0 : ∃ v, w1.cell? ⟨bq, 0, none⟩ = some v := ⟨_, by rw [cell_of_heap hh']; rfl⟩
      obtain ⟨vc0, zc0⟩ := zc0
      have zc1 : ∃ v, w1.cell? ⟨bq, 1, none⟩ = some v := ⟨_, by rw [cell_of_heap hh']; rfl⟩
      obtain ⟨vc1, zc1⟩ := zc1
      have zc2 : ∃ v, w1.cell? ⟨bq, 2, none⟩ = some v := ⟨_, by rw [cell_of_heap hh']; rfl⟩
      obtain ⟨vc2, zc2⟩ := zc2
      have zc3 : ∃ v, w1.cell? ⟨bq, 3, none⟩ = some v := ⟨_, by rw [cell_of_heap hh']; rfl⟩
      obtain ⟨vc3, zc3⟩ := zc3
      have zc4 : ∃ v, w1.cell? ⟨bq, 4, none⟩ = some v := ⟨_, by rw [cell_of_heap hh']; rfl⟩
      obtain ⟨vc4, zc4⟩ := zc4
      have HF := Lib.hid (F.s4 ha2 hWb hx hh')
      clear F hh hh' hb1
      subst hx
      go_simp
      exact HK.out _ _ ⟨_, _, _, _, rfl, HF.out⟩
    · obtain rfl := F.f1 (by simp [hdep])
      have ha3 : d_ 3 = true := by simp [hdep]
      obtain ⟨bq, hx, hWb, hh⟩ := F.f3 ha3
      have hds : d_ 5 = false := hd_
      rw [hds] at hh
      have hh' : w1.heap[bq]? = some (.cells #[.int .i64 0, .slice none 0 0, .slice none 0 0, .slice none 0 0, .slice none 0 0] 25 (0, 0)) := hh
      have z0 : ∀ k, w1.frozen? ⟨bq, k, none⟩ = false := fun k => frozen_of_heap hh'
      have zc0 : ∃ v, w1.cell? ⟨bq, 0, none⟩ = some v := ⟨_, by rw [cell_of_heap hh']; rfl⟩
      obtain ⟨vc0, zc0⟩ := zc0
      have zc1 : ∃ v, w1.cell? ⟨bq, 1, none⟩ = some v := ⟨_, by rw [cell_of_heap hh']; rfl⟩
      obtain ⟨vc1, zc1⟩ := zc1
      have zc2 : ∃ v, w1.cell? ⟨bq, 2, none⟩ = some v := ⟨_, by rw [cell_of_heap hh']; rfl⟩
      obtain ⟨vc2, zc2⟩ := zc2
      have zc3 : ∃ v, w1.cell? ⟨bq, 3, none⟩ = some v := ⟨_, by rw [cell_of_heap hh']; rfl⟩
      obtain ⟨vc3, zc3⟩ := zc3
      have zc4 : ∃ v, w1.cell? ⟨bq, 4, none⟩ = some v := ⟨_, by rw [cell_of_heap hh']; rfl⟩
      obtain ⟨vc4, zc4⟩ := zc4
      have HF := Lib.hid (F.s5 ha3 hWb hx hh')
      clear F hh hh' hb1
      subst hx
      go_simp
      exact HK.out _ _ ⟨_, _, _, _, rfl, HF.out⟩
  · rintro d_ a_ w1 hall ⟨x72, x73, x13, x14, rfl, F⟩
    have hall' : ∀ k, k < 6 → d_ k = true := hall
    have E2 := F.f2 (hall' 2 (by decide))
    rw [hall' 4 (by decide)] at E2
    have E3 := F.f3 (hall' 3 (by decide))
    rw [hall' 5 (by decide)] at E3
    exact HQ.out _ _ _ _ w1 F.same (F.f0 (hall' 0 (by decide))) (F.f1 (hall' 1 (by decide))) E2 E3 (F.n2_3 (hall' 2 (by decide)) (hall' 3 (by decide)))

structure lat11F (b4 : Nat) (b13 : Nat) (b14 : Nat) (dw : Int) (nl : Int) (S0 : World → Prop) (S1 : World → Prop) (S2 : World → Prop) (d : Nat → Bool) (x74 x75 x76 x77 x78 x79 x80 x81 x82 x83 x84 : Value) (w : World) : Prop where
  q1 : d 1 = true → d 0 = true
  q3 : d 3 = true → d 1 = true ∧ d 2 = true
  q5 : d 5 = true → d 4 = true
  q7 : d 7 = true → d 5 = true ∧ d 6 = true
  q8 : d 8 = true → d 7 = true
  q9 : d 9 = true → d 0 = true ∧ d 1 = true ∧ d 2 = true ∧ d 3 = true
  q10 : d 10 = true → d 0 = true ∧ d 1 = true ∧ d 2 = true ∧ d 3 = true ∧ d 9 = true
  q11 : d 11 = true → d 0 = true ∧ d 1 = true ∧ d 2 = true ∧ d 3 = true ∧ d 4 = true ∧ d 5 = true ∧ d 6 = true ∧ d 7 = true ∧ d 8 = true ∧ d 9 = true ∧ d 10 = true
  q12 : d 12 = true → d 0 = true ∧ d 1 = true ∧ d 2 = true ∧ d 3 = true ∧ d 4 = true ∧ d 5 = true ∧ d 6 = true ∧ d 7 = true ∧ d 8 = true ∧ d 9 = true ∧ d 10 = true ∧ d 11 = true
  f0 : d 0 = true → x74 = .pointer (some ⟨b4, 0, none⟩)
  f1 : d 1 = true → x75 = .int .i64 dw
  f2 : d 2 = true → x76 = .int .i64 nl
  f3 : d 3 = true → x77 = .int .i64 (dw + nl)
  f4 : d 4 = true → x78 = .pointer (some ⟨b4, 0, none⟩)
  f5 : d 5 = true → x79 = .int .i64 dw
  f6 : d 6 = true → x80 = .int .i64 nl
  f7 : d 7 = true → x81 = .int .i64 (dw + nl)
  f8 : d 8 = true → x82 = .int .i64 (dw + nl + 1)
  f9 : d 9 = true → x83 = .pointer (some ⟨b13, 0, none⟩)
  f11 : d 11 = true → x84 = .pointer (some ⟨b14, 0, none⟩)
  st0 : d 10 = false → S0 w
  st1 : d 10 = true → d 12 = false → S1 w
  st2 : d 12 = true → S2 w
noncomputable def lat11C : Code := (Try.f9.body.bind (regionAt 11)).getD .skip
set_option maxRecDepth 100000 in
set_option maxHeartbeats 4000000 in
theorem lat11 {b4 : Nat} {b13 : Nat} {b14 : Nat} {dw : Int} {nl : Int} {S0 : World → Prop} {S1 : World → Prop} {S2 : World → Prop} {Q : Exit → Act → World → Prop} {W1 : World} (hw1 : IntKind.i64.wrap (dw + nl) = dw + nl) (hw2 : IntKind.i64.wrap (dw + nl + 1) = dw + nl + 1) (h0 : S0 W1.drew)
    (kl1 : Hid (∀ (w : World), (S0 w) → w.cell? ⟨b4, 0, none⟩ = some (.int .i64 dw)))
    (kl5 : Hid (∀ (w : World), (S0 w ∨ S1 w) → w.cell? ⟨b4, 0, none⟩ = some (.int .i64 dw)))
    (kc10 : Hid (∀ (w : World), S0 w → (∃ u, w.cell? ⟨b13, 0, none⟩ = some u) ∧ w.frozen? ⟨b13, 0, none⟩ = false ∧ S1 (w.setCell ⟨b13, 0, none⟩ (.int .i64 (dw + nl)))))
    (kc12 : Hid (∀ (w : World), S1 w → (∃ u, w.cell? ⟨b14, 0, none⟩ = some u) ∧ w.frozen? ⟨b14, 0, none⟩ = false ∧ S2 (w.setCell ⟨b14, 0, none⟩ (.int .i64 (dw + nl + 1)))))
    {s0 s1 s2 s3 s5 s6 s7 s8 s10 s11 s12 s15 s16 s17 s18 s19 s20 s21 s22 s23 s24 s25 s26 s27 s28 s29 s30 s31 s32 s33 s34 s35 s36 s37 s38 s39 s40 s41 s42 s43 s44 s45 s46 s47 s48 s49 s50 s51 s52 s53 s54 s55 s56 s57 s58 s59 s60 s61 s62 s63 s64 s65 s66 s67 s68 s69 s70 s71 s72 s73 s74 s75 s76 s77 s78 s79 s80 s81 s82 s83 s84 s85 s86 s87 s88 s89 s90 s91 s92 s93 s94 s95 s96 s97 s98 s99 s100 s101 s102 s103 s104 s105 s106 s107 s108 s109 s110 s111 s112 s113 s114 s115 s116 s117 s118 s119 s120 s121 s122 s123 s124 s125 s126 s127 s128 s129 s130 s131 s132 s133 s134 s135 s136 s137 s138 s139 s140 s141 s142 s143 s144 s145 s146 s147 s148 s149 s150 s151 s152 s153 s154 s155 s156 s157 s158 s159 s160 s161 s162 s163 s164 s165 s166 s167 s168 s169 s170 s171 s172 s173 s174 s175 s176 s177 s178 s179 s180 s181 s182 s183 s184 s185 s186 s187 s188 s189 s190 s191 s192 s193 s194 s195 s196 s197 s198 s199 s200 s201 s202 s203 s204 s205 s206 s207 s208 s209 s210 s211 s212 s213 s214 s215 s216 s217 s218 s219 s220 s221 s222 s223 s224 s225 s226 s227 s228 s229 s230 s231 s232 s233 s234 s235 s236 s237 s238 s239 s240 s241 s242 s243 s244 s245 s246 s247 s248 s249 s250 s251 s252 s253 s254 s255 : Value} {dd : List Deferred}
    (hQ : ∀ (w' : World), S2 w' → Q .normal { tmps := #[s0, s1, s2, s3, .pointer (some ⟨b4, 0, none⟩), s5, s6, s7, s8, .int .i64 nl, s10, s11, s12, .pointer (some ⟨b13, 0, none⟩), .pointer (some ⟨b14, 0, none⟩), s15, s16, s17, s18, s19, s20, s21, s22, s23, s24, s25, s26, s27, s28, s29, s30, s31, s32, s33, s34, s35, s36, s37, s38, s39, s40, s41, s42, s43, s44, s45, s46, s47, s48, s49, s50, s51, s52, s53, s54, s55, s56, s57, s58, s59, s60, s61, s62, s63, s64, s65, s66, s67, s68, s69, s70, s71, s72, s73, .pointer (some ⟨b4, 0, none⟩), .int .i64 dw, .int .i64 nl, .int .i64 (dw + nl), .pointer (some ⟨b4, 0, none⟩), .int .i64 dw, .int .i64 nl, .int .i64 (dw + nl), .int .i64 (dw + nl + 1), .pointer (some ⟨b13, 0, none⟩), .pointer (some ⟨b14, 0, none⟩), s85, s86, s87, s88, s89, s90, s91, s92, s93, s94, s95, s96, s97, s98, s99, s100, s101, s102, s103, s104, s105, s106, s107, s108, s109, s110, s111, s112, s113, s114, s115, s116, s117, s118, s119, s120, s121, s122, s123, s124, s125, s126, s127, s128, s129, s130, s131, s132, s133, s134, s135, s136, s137, s138, s139, s140, s141, s142, s143, s144, s145, s146, s147, s148, s149, s150, s151, s152, s153, s154, s155, s156, s157, s158, s159, s160, s161, s162, s163, s164, s165, s166, s167, s168, s169, s170, s171, s172, s173, s174, s175, s176, s177, s178, s179, s180, s181, s182, s183, s184, s185, s186, s187, s188, s189, s190, s191, s192, s193, s194, s195, s196, s197, s198, s199, s200, s201, s202, s203, s204, s205, s206, s207, s208, s209, s210, s211, s212, s213, s214, s215, s216, s217, s218, s219, s220, s221, s222, s223, s224, s225, s226, s227, s228, s229, s230, s231, s232, s233, s234, s235, s236, s237, s238, s239, s240, s241, s242, s243, s244, s245, s246, s247, s248, s249, s250, s251, s252, s253, s254, s255], defers := dd } w') :
    Code.wpIn (wideAt none) 0 Try.prog lat11C Q { tmps := #[s0, s1, s2, s3, .pointer (some ⟨b4, 0, none⟩), s5, s6, s7, s8, .int .i64 nl, s10, s11, s12, .pointer (some ⟨b13, 0, none⟩), .pointer (some ⟨b14, 0, none⟩), s15, s16, s17, s18, s19, s20, s21, s22, s23, s24, s25, s26, s27, s28, s29, s30, s31, s32, s33, s34, s35, s36, s37, s38, s39, s40, s41, s42, s43, s44, s45, s46, s47, s48, s49, s50, s51, s52, s53, s54, s55, s56, s57, s58, s59, s60, s61, s62, s63, s64, s65, s66, s67, s68, s69, s70, s71, s72, s73, s74, s75, s76, s77, s78, s79, s80, s81, s82, s83, s84, s85, s86, s87, s88, s89, s90, s91, s92, s93, s94, s95, s96, s97, s98, s99, s100, s101, s102, s103, s104, s105, s106, s107, s108, s109, s110, s111, s112, s113, s114, s115, s116, s117, s118, s119, s120, s121, s122, s123, s124, s125, s126, s127, s128, s129, s130, s131, s132, s133, s134, s135, s136, s137, s138, s139, s140, s141, s142, s143, s144, s145, s146, s147, s148, s149, s150, s151, s152, s153, s154, s155, s156, s157, s158, s159, s160, s161, s162, s163, s164, s165, s166, s167, s168, s169, s170, s171, s172, s173, s174, s175, s176, s177, s178, s179, s180, s181, s182, s183, s184, s185, s186, s187, s188, s189, s190, s191, s192, s193, s194, s195, s196, s197, s198, s199, s200, s201, s202, s203, s204, s205, s206, s207, s208, s209, s210, s211, s212, s213, s214, s215, s216, s217, s218, s219, s220, s221, s222, s223, s224, s225, s226, s227, s228, s229, s230, s231, s232, s233, s234, s235, s236, s237, s238, s239, s240, s241, s242, s243, s244, s245, s246, s247, s248, s249, s250, s251, s252, s253, s254, s255], defers := dd } W1 := by
  have HQ := Lib.hid hQ
  clear hQ
  conv => arg 4; whnf
  refine wpIn_region_invG mixed (by kernel_rfl) (fun d_ a_ w' => ∃ (x74 : Value) (x75 : Value) (x76 : Value) (x77 : Value) (x78 : Value) (x79 : Value) (x80 : Value) (x81 : Value) (x82 : Value) (x83 : Value) (x84 : Value), a_ = { tmps := #[s0, s1, s2, s3, .pointer (some ⟨b4, 0, none⟩), s5, s6, s7, s8, .int .i64 nl, s10, s11, s12, .pointer (some ⟨b13, 0, none⟩), .pointer (some ⟨b14, 0, none⟩), s15, s16, s17, s18, s19, s20, s21, s22, s23, s24, s25, s26, s27, s28, s29, s30, s31, s32, s33, s34, s35, s36, s37, s38, s39, s40, s41, s42, s43, s44, s45, s46, s47, s48, s49, s50, s51, s52, s53, s54, s55, s56, s57, s58, s59, s60, s61, s62, s63, s64, s65, s66, s67, s68, s69, s70, s71, s72, s73, x74, x75, x76, x77, x78, x79, x80, x81, x82, x83, x84, s85, s86, s87, s88, s89, s90, s91, s92, s93, s94, s95, s96, s97, s98, s99, s100, s101, s102, s103, s104, s105, s106, s107, s108, s109, s110, s111, s112, s113, s114, s115, s116, s117, s118, s119, s120, s121, s122, s123, s124, s125, s126, s127, s128, s129, s130, s131, s132, s133, s134, s135, s136, s137, s138, s139, s140, s141, s142, s143, s144, s145, s146, s147, s148, s149, s150, s151, s152, s153, s154, s155, s156, s157, s158, s159, s160, s161, s162, s163, s164, s165, s166, s167, s168, s169, s170, s171, s172, s173, s174, s175, s176, s177, s178, s179, s180, s181, s182, s183, s184, s185, s186, s187, s188, s189, s190, s191, s192, s193, s194, s195, s196, s197, s198, s199, s200, s201, s202, s203, s204, s205, s206, s207, s208, s209, s210, s211, s212, s213, s214, s215, s216, s217, s218, s219, s220, s221, s222, s223, s224, s225, s226, s227, s228, s229, s230, s231, s232, s233, s234, s235, s236, s237, s238, s239, s240, s241, s242, s243, s244, s245, s246, s247, s248, s249, s250, s251, s252, s253, s254, s255], defers := dd } ∧ lat11F b4 b13 b14 dw nl S0 S1 S2 d_ x74 x75 x76 x77 x78 x79 x80 x81 x82 x83 x84 w') ?_ ?_ ?_
  · refine ⟨s74, s75, s76, s77, s78, s79, s80, s81, s82, s83, s84, rfl, ?_⟩
    constructor <;> first | rfl | (intro _; rfl) | (intro h; cases h; done) | (intro _; exact h0) | exact h0
  · refine ⟨?_, ?_, ?_, ?_, ?_, ?_, ?_, ?_, ?_, ?_, ?_, ?_, ?_, trivial⟩
    all_goals
      rintro d_ a_ w1 K hd_ hdep ⟨x74, x75, x76, x77, x78, x79, x80, x81, x82, x83, x84, rfl, F⟩ HK
      simp [Region.binds] at hdep
    · have HF : Hid (lat11F b4 b13 b14 dw nl S0 S1 S2 (upd d_ 0) (.pointer (some ⟨b4, 0, none⟩)) x75 x76 x77 x78 x79 x80 x81 x82 x83 x84 w1) := ⟨fun h => rfl, F.q3, F.q5, F.q7, F.q8, fun h => ⟨rfl, (F.q9 h).2.1, (F.q9 h).2.2.1, (F.q9 h).2.2.2⟩, fun h => ⟨rfl, (F.q10 h).2.1, (F.q10 h).2.2.1, (F.q10 h).2.2.2.1, (F.q10 h).2.2.2.2⟩, fun h => ⟨rfl, (F.q11 h).2.1, (F.q11 h).2.2.1, (F.q11 h).2.2.2.1, (F.q11 h).2.2.2.2.1, (F.q11 h).2.2.2.2.2.1, (F.q11 h).2.2.2.2.2.2.1, (F.q11 h).2.2.2.2.2.2.2.1, (F.q11 h).2.2.2.2.2.2.2.2.1, (F.q11 h).2.2.2.2.2.2.2.2.2.1, (F.q11 h).2.2.2.2.2.2.2.2.2.2⟩, fun h => ⟨rfl, (F.q12 h).2.1, (F.q12 h).2.2.1, (F.q12 h).2.2.2.1, (F.q12 h).2.2.2.2.1, (F.q12 h).2.2.2.2.2.1, (F.q12 h).2.2.2.2.2.2.1, (F.q12 h).2.2.2.2.2.2.2.1, (F.q12 h).2.2.2.2.2.2.2.2.1, (F.q12 h).2.2.2.2.2.2.2.2.2.1, (F.q12 h).2.2.2.2.2.2.2.2.2.2.1, (F.q12 h).2.2.2.2.2.2.2.2.2.2.2⟩, fun _ => rfl, F.f1, F.f2, F.f3, F.f4, F.f5, F.f6, F.f7, F.f8, F.f9, F.f11, F.st0, F.st1, F.st2⟩
      clear F
      go_simp
      exact HK.out _ _ ⟨_, _, _, _, _, _, _, _, _, _, _, rfl, HF.out⟩
    · have hst : S0 w1 := by
        have n_ : d_ 10 = false := by
          cases e_ : d_ 10 with
          | false => rfl
          | true => have h2 := (F.q10 e_).2.1; rw [show d_ 1 = false from hd_] at h2; cases h2
        exact (F.st0 n_)
      have kk := kl1.out w1 hst
      clear hst
      obtain rfl := F.f0 (by simp [hdep])
      have HF : Hid (lat11F b4 b13 b14 dw nl S0 S1 S2 (upd d_ 1) (.pointer (some ⟨b4, 0, none⟩)) (.int .i64 dw) x76 x77 x78 x79 x80 x81 x82 x83 x84 w1) := ⟨fun _ => (show _ from (by simp [hdep] : d_ 0 = true)), fun h => ⟨rfl, (F.q3 h).2⟩, F.q5, F.q7, F.q8, fun h => ⟨(F.q9 h).1, rfl, (F.q9 h).2.2.1, (F.q9 h).2.2.2⟩, fun h => ⟨(F.q10 h).1, rfl, (F.q10 h).2.2.1, (F.q10 h).2.2.2.1, (F.q10 h).2.2.2.2⟩, fun h => ⟨(F.q11 h).1, rfl, (F.q11 h).2.2.1, (F.q11 h).2.2.2.1, (F.q11 h).2.2.2.2.1, (F.q11 h).2.2.2.2.2.1, (F.q11 h).2.2.2.2.2.2.1, (F.q11 h).2.2.2.2.2.2.2.1, (F.q11 h).2.2.2.2.2.2.2.2.1, (F.q11 h).2.2.2.2.2.2.2.2.2.1, (F.q11 h).2.2.2.2.2.2.2.2.2.2⟩, fun h => ⟨(F.q12 h).1, rfl, (F.q12 h).2.2.1, (F.q12 h).2.2.2.1, (F.q12 h).2.2.2.2.1, (F.q12 h).2.2.2.2.2.1, (F.q12 h).2.2.2.2.2.2.1, (F.q12 h).2.2.2.2.2.2.2.1, (F.q12 h).2.2.2.2.2.2.2.2.1, (F.q12 h).2.2.2.2.2.2.2.2.2.1, (F.q12 h).2.2.2.2.2.2.2.2.2.2.1, (F.q12 h).2.2.2.2.2.2.2.2.2.2.2⟩, F.f0, fun _ => rfl, F.f2, F.f3, F.f4, F.f5, F.f6, F.f7, F.f8, F.f9, F.f11, F.st0, F.st1, F.st2⟩
      clear F
      go_simp
      exact HK.out _ _ ⟨_, _, _, _, _, _, _, _, _, _, _, rfl, HF.out⟩
    · have HF : Hid (lat11F b4 b13 b14 dw nl S0 S1 S2 (upd d_ 2) x74 x75 (.int .i64 nl) x77 x78 x79 x80 x81 x82 x83 x84 w1) := ⟨F.q1, fun h => ⟨(F.q3 h).1, rfl⟩, F.q5, F.q7, F.q8, fun h => ⟨(F.q9 h).1, (F.q9 h).2.1, rfl, (F.q9 h).2.2.2⟩, fun h => ⟨(F.q10 h).1, (F.q10 h).2.1, rfl, (F.q10 h).2.2.2.1, (F.q10 h).2.2.2.2⟩, fun h => ⟨(F.q11 h).1, (F.q11 h).2.1, rfl, (F.q11 h).2.2.2.1, (F.q11 h).2.2.2.2.1, (F.q11 h).2.2.2.2.2.1, (F.q11 h).2.2.2.2.2.2.1, (F.q11 h).2.2.2.2.2.2.2.1, (F.q11 h).2.2.2.2.2.2.2.2.1, (F.q11 h).2.2.2.2.2.2.2.2.2.1, (F.q11 h).2.2.2.2.2.2.2.2.2.2⟩, fun h => ⟨(F.q12 h).1, (F.q12 h).2.1, rfl, (F.q12 h).2.2.2.1, (F.q12 h).2.2.2.2.1, (F.q12 h).2.2.2.2.2.1, (F.q12 h).2.2.2.2.2.2.1, (F.q12 h).2.2.2.2.2.2.2.1, (F.q12 h).2.2.2.2.2.2.2.2.1, (F.q12 h).2.2.2.2.2.2.2.2.2.1, (F.q12 h).2.2.2.2.2.2.2.2.2.2.1, (F.q12 h).2.2.2.2.2.2.2.2.2.2.2⟩, F.f0, F.f1, fun _ => rfl, F.f3, F.f4, F.f5, F.f6, F.f7, F.f8, F.f9, F.f11, F.st0, F.st1, F.st2⟩
      clear F
      go_simp
      exact HK.out _ _ ⟨_, _, _, _, _, _, _, _, _, _, _, rfl, HF.out⟩
    · obtain rfl := F.f1 (by simp [hdep])
      obtain rfl := F.f2 (by simp [hdep])
      have HF : Hid (lat11F b4 b13 b14 dw nl S0 S1 S2 (upd d_ 3) x74 (.int .i64 dw) (.int .i64 nl) (.int .i64 (dw + nl)) x78 x79 x80 x81 x82 x83 x84 w1) := ⟨F.q1, fun _ => ⟨(show _ from (by simp [hdep] : d_ 1 = true)), (show _ from (by simp [hdep] : d_ 2 = true))⟩, F.q5, F.q7, F.q8, fun h => ⟨(F.q9 h).1, (F.q9 h).2.1, (F.q9 h).2.2.1, rfl⟩, fun h => ⟨(F.q10 h).1, (F.q10 h).2.1, (F.q10 h).2.2.1, rfl, (F.q10 h).2.2.2.2⟩, fun h => ⟨(F.q11 h).1, (F.q11 h).2.1, (F.q11 h).2.2.1, rfl, (F.q11 h).2.2.2.2.1, (F.q11 h).2.2.2.2.2.1, (F.q11 h).2.2.2.2.2.2.1, (F.q11 h).2.2.2.2.2.2.2.1, (F.q11 h).2.2.2.2.2.2.2.2.1, (F.q11 h).2.2.2.2.2.2.2.2.2.1, (F.q11 h).2.2.2.2.2.2.2.2.2.2⟩, fun h => ⟨(F.q12 h).1, (F.q12 h).2.1, (F.q12 h).2.2.1, rfl, (F.q12 h).2.2.2.2.1, (F.q12 h).2.2.2.2.2.1, (F.q12 h).2.2.2.2.2.2.1, (F.q12 h).2.2.2.2.2.2.2.1, (F.q12 h).2.2.2.2.2.2.2.2.1, (F.q12 h).2.2.2.2.2.2.2.2.2.1, (F.q12 h).2.2.2.2.2.2.2.2.2.2.1, (F.q12 h).2.2.2.2.2.2.2.2.2.2.2⟩, F.f0, F.f1, F.f2, fun _ => rfl, F.f4, F.f5, F.f6, F.f7, F.f8, F.f9, F.f11, F.st0, F.st1, F.st2⟩
      clear F
      go_simp
      exact HK.out _ _ ⟨_, _, _, _, _, _, _, _, _, _, _, rfl, HF.out⟩
    · have HF : Hid (lat11F b4 b13 b14 dw nl S0 S1 S2 (upd d_ 4) x74 x75 x76 x77 (.pointer (some ⟨b4, 0, none⟩)) x79 x80 x81 x82 x83 x84 w1) := ⟨F.q1, F.q3, fun h => rfl, F.q7, F.q8, F.q9, F.q10, fun h => ⟨(F.q11 h).1, (F.q11 h).2.1, (F.q11 h).2.2.1, (F.q11 h).2.2.2.1, rfl, (F.q11 h).2.2.2.2.2.1, (F.q11 h).2.2.2.2.2.2.1, (F.q11 h).2.2.2.2.2.2.2.1, (F.q11 h).2.2.2.2.2.2.2.2.1, (F.q11 h).2.2.2.2.2.2.2.2.2.1, (F.q11 h).2.2.2.2.2.2.2.2.2.2⟩, fun h => ⟨(F.q12 h).1, (F.q12 h).2.1, (F.q12 h).2.2.1, (F.q12 h).2.2.2.1, rfl, (F.q12 h).2.2.2.2.2.1, (F.q12 h).2.2.2.2.2.2.1, (F.q12 h).2.2.2.2.2.2.2.1, (F.q12 h).2.2.2.2.2.2.2.2.1, (F.q12 h).2.2.2.2.2.2.2.2.2.1, (F.q12 h).2.2.2.2.2.2.2.2.2.2.1, (F.q12 h).2.2.2.2.2.2.2.2.2.2.2⟩, F.f0, F.f1, F.f2, F.f3, fun _ => rfl, F.f5, F.f6, F.f7, F.f8, F.f9, F.f11, F.st0, F.st1, F.st2⟩
      clear F
      go_simp
      exact HK.out _ _ ⟨_, _, _, _, _, _, _, _, _, _, _, rfl, HF.out⟩
    · have hst : S0 w1 ∨ S1 w1 := by
        cases e1 : d_ 10 with
        | false => exact .inl ((F.st0 e1))
        | true =>
          have n_ : d_ 12 = false := by
            cases e_ : d_ 12 with
            | false => rfl
            | true => have h2 := (F.q12 e_).2.2.2.2.2.1; rw [show d_ 5 = false from hd_] at h2; cases h2
          exact .inr ((F.st1 e1 n_))
      have kk := kl5.out w1 hst
      clear hst
      obtain rfl := F.f4 (by simp [hdep])
      have HF : Hid (lat11F b4 b13 b14 dw nl S0 S1 S2 (upd d_ 5) x74 x75 x76 x77 (.pointer (some ⟨b4, 0, none⟩)) (.int .i64 dw) x80 x81 x82 x83 x84 w1) := ⟨F.q1, F.q3, fun _ => (show _ from (by simp [hdep] : d_ 4 = true)), fun h => ⟨rfl, (F.q7 h).2⟩, F.q8, F.q9, F.q10, fun h => ⟨(F.q11 h).1, (F.q11 h).2.1, (F.q11 h).2.2.1, (F.q11 h).2.2.2.1, (F.q11 h).2.2.2.2.1, rfl, (F.q11 h).2.2.2.2.2.2.1, (F.q11 h).2.2.2.2.2.2.2.1, (F.q11 h).2.2.2.2.2.2.2.2.1, (F.q11 h).2.2.2.2.2.2.2.2.2.1, (F.q11 h).2.2.2.2.2.2.2.2.2.2⟩, fun h => ⟨(F.q12 h).1, (F.q12 h).2.1, (F.q12 h).2.2.1, (F.q12 h).2.2.2.1, (F.q12 h).2.2.2.2.1, rfl, (F.q12 h).2.2.2.2.2.2.1, (F.q12 h).2.2.2.2.2.2.2.1, (F.q12 h).2.2.2.2.2.2.2.2.1, (F.q12 h).2.2.2.2.2.2.2.2.2.1, (F.q12 h).2.2.2.2.2.2.2.2.2.2.1, (F.q12 h).2.2.2.2.2.2.2.2.2.2.2⟩, F.f0, F.f1, F.f2, F.f3, F.f4, fun _ => rfl, F.f6, F.f7, F.f8, F.f9, F.f11, F.st0, F.st1, F.st2⟩
      clear F
      go_simp
      exact HK.out _ _ ⟨_, _, _, _, _, _, _, _, _, _, _, rfl, HF.out⟩
    · have HF : Hid (lat11F b4 b13 b14 dw nl S0 S1 S2 (upd d_ 6) x74 x75 x76 x77 x78 x79 (.int .i64 nl) x81 x82 x83 x84 w1) := ⟨F.q1, F.q3, F.q5, fun h => ⟨(F.q7 h).1, rfl⟩, F.q8, F.q9, F.q10, fun h => ⟨(F.q11 h).1, (F.q11 h).2.1, (F.q11 h).2.2.1, (F.q11 h).2.2.2.1, (F.q11 h).2.2.2.2.1, (F.q11 h).2.2.2.2.2.1, rfl, (F.q11 h).2.2.2.2.2.2.2.1, (F.q11 h).2.2.2.2.2.2.2.2.1, (F.q11 h).2.2.2.2.2.2.2.2.2.1, (F.q11 h).2.2.2.2.2.2.2.2.2.2⟩, fun h => ⟨(F.q12 h).1, (F.q12 h).2.1, (F.q12 h).2.2.1, (F.q12 h).2.2.2.1, (F.q12 h).2.2.2.2.1, (F.q12 h).2.2.2.2.2.1, rfl, (F.q12 h).2.2.2.2.2.2.2.1, (F.q12 h).2.2.2.2.2.2.2.2.1, (F.q12 h).2.2.2.2.2.2.2.2.2.1, (F.q12 h).2.2.2.2.2.2.2.2.2.2.1, (F.q12 h).2.2.2.2.2.2.2.2.2.2.2⟩, F.f0, F.f1, F.f2, F.f3, F.f4, F.f5, fun _ => rfl, F.f7, F.f8, F.f9, F.f11, F.st0, F.st1, F.st2⟩
      clear F
      go_simp
      exact HK.out _ _ ⟨_, _, _, _, _, _, _, _, _, _, _, rfl, HF.out⟩
    · obtain rfl := F.f5 (by simp [hdep])
      obtain rfl := F.f6 (by simp [hdep])
      have HF : Hid (lat11F b4 b13 b14 dw nl S0 S1 S2 (upd d_ 7) x74 x75 x76 x77 x78 (.int .i64 dw) (.int .i64 nl) (.int .i64 (dw + nl)) x82 x83 x84 w1) := ⟨F.q1, F.q3, F.q5, fun _ => ⟨(show _ from (by simp [hdep] : d_ 5 = true)), (show _ from (by simp [hdep] : d_ 6 = true))⟩, fun h => rfl, F.q9, F.q10, fun h => ⟨(F.q11 h).1, (F.q11 h).2.1, (F.q11 h).2.2.1, (F.q11 h).2.2.2.1, (F.q11 h).2.2.2.2.1, (F.q11 h).2.2.2.2.2.1, (F.q11 h).2.2.2.2.2.2.1, rfl, (F.q11 h).2.2.2.2.2.2.2.2.1, (F.q11 h).2.2.2.2.2.2.2.2.2.1, (F.q11 h).2.2.2.2.2.2.2.2.2.2⟩, fun h => ⟨(F.q12 h).1, (F.q12 h).2.1, (F.q12 h).2.2.1, (F.q12 h).2.2.2.1, (F.q12 h).2.2.2.2.1, (F.q12 h).2.2.2.2.2.1, (F.q12 h).2.2.2.2.2.2.1, rfl, (F.q12 h).2.2.2.2.2.2.2.2.1, (F.q12 h).2.2.2.2.2.2.2.2.2.1, (F.q12 h).2.2.2.2.2.2.2.2.2.2.1, (F.q12 h).2.2.2.2.2.2.2.2.2.2.2⟩, F.f0, F.f1, F.f2, F.f3, F.f4, F.f5, F.f6, fun _ => rfl, F.f8, F.f9, F.f11, F.st0, F.st1, F.st2⟩
      clear F
      go_simp
      exact HK.out _ _ ⟨_, _, _, _, _, _, _, _, _, _, _, rfl, HF.out⟩
    · obtain rfl := F.f7 (by simp [hdep])
      have HF : Hid (lat11F b4 b13 b14 dw nl S0 S1 S2 (upd d_ 8) x74 x75 x76 x77 x78 x79 x80 (.int .i64 (dw + nl)) (.int .i64 (dw + nl + 1)) x83 x84 w1) := ⟨F.q1, F.q3, F.q5, F.q7, fun _ => (show _ from (by simp [hdep] : d_ 7 = true)), F.q9, F.q10, fun h => ⟨(F.q11 h).1, (F.q11 h).2.1, (F.q11 h).2.2.1, (F.q11 h).2.2.2.1, (F.q11 h).2.2.2.2.1, (F.q11 h).2.2.2.2.2.1, (F.q11 h).2.2.2.2.2.2.1, (F.q11 h).2.2.2.2.2.2.2.1, rfl, (F.q11 h).2.2.2.2.2.2.2.2.2.1, (F.q11 h).2.2.2.2.2.2.2.2.2.2⟩, fun h => ⟨(F.q12 h).1, (F.q12 h).2.1, (F.q12 h).2.2.1, (F.q12 h).2.2.2.1, (F.q12 h).2.2.2.2.1, (F.q12 h).2.2.2.2.2.1, (F.q12 h).2.2.2.2.2.2.1, (F.q12 h).2.2.2.2.2.2.2.1, rfl, (F.q12 h).2.2.2.2.2.2.2.2.2.1, (F.q12 h).2.2.2.2.2.2.2.2.2.2.1, (F.q12 h).2.2.2.2.2.2.2.2.2.2.2⟩, F.f0, F.f1, F.f2, F.f3, F.f4, F.f5, F.f6, F.f7, fun _ => rfl, F.f9, F.f11, F.st0, F.st1, F.st2⟩
      clear F
      go_simp
      exact HK.out _ _ ⟨_, _, _, _, _, _, _, _, _, _, _, rfl, HF.out⟩
    · have HF : Hid (lat11F b4 b13 b14 dw nl S0 S1 S2 (upd d_ 9) x74 x75 x76 x77 x78 x79 x80 x81 x82 (.pointer (some ⟨b13, 0, none⟩)) x84 w1) := ⟨F.q1, F.q3, F.q5, F.q7, F.q8, fun _ => ⟨(show _ from (by simp [hdep] : d_ 0 = true)), (show _ from (by simp [hdep] : d_ 1 = true)), (show _ from (by simp [hdep] : d_ 2 = true)), (show _ from (by simp [hdep] : d_ 3 = true))⟩, fun h => ⟨(F.q10 h).1, (F.q10 h).2.1, (F.q10 h).2.2.1, (F.q10 h).2.2.2.1, rfl⟩, fun h => ⟨(F.q11 h).1, (F.q11 h).2.1, (F.q11 h).2.2.1, (F.q11 h).2.2.2.1, (F.q11 h).2.2.2.2.1, (F.q11 h).2.2.2.2.2.1, (F.q11 h).2.2.2.2.2.2.1, (F.q11 h).2.2.2.2.2.2.2.1, (F.q11 h).2.2.2.2.2.2.2.2.1, rfl, (F.q11 h).2.2.2.2.2.2.2.2.2.2⟩, fun h => ⟨(F.q12 h).1, (F.q12 h).2.1, (F.q12 h).2.2.1, (F.q12 h).2.2.2.1, (F.q12 h).2.2.2.2.1, (F.q12 h).2.2.2.2.2.1, (F.q12 h).2.2.2.2.2.2.1, (F.q12 h).2.2.2.2.2.2.2.1, (F.q12 h).2.2.2.2.2.2.2.2.1, rfl, (F.q12 h).2.2.2.2.2.2.2.2.2.2.1, (F.q12 h).2.2.2.2.2.2.2.2.2.2.2⟩, F.f0, F.f1, F.f2, F.f3, F.f4, F.f5, F.f6, F.f7, F.f8, fun _ => rfl, F.f11, F.st0, F.st1, F.st2⟩
      clear F
      go_simp
      exact HK.out _ _ ⟨_, _, _, _, _, _, _, _, _, _, _, rfl, HF.out⟩
    · have hS := F.st0  hd_
      obtain rfl := F.f3 (by simp [hdep])
      obtain rfl := F.f9 (by simp [hdep])
      obtain ⟨⟨ku0, kcell0⟩, kfr0, hres⟩ := kc10.out w1 hS
      have HF : Hid (lat11F b4 b13 b14 dw nl S0 S1 S2 (upd d_ 10) x74 x75 x76 (.int .i64 (dw + nl)) x78 x79 x80 x81 x82 (.pointer (some ⟨b13, 0, none⟩)) x84 (w1.setCell ⟨b13, 0, none⟩ (.int .i64 (dw + nl)))) := ⟨F.q1, F.q3, F.q5, F.q7, F.q8, F.q9, fun _ => ⟨(show _ from (by simp [hdep] : d_ 0 = true)), (show _ from (by simp [hdep] : d_ 1 = true)), (show _ from (by simp [hdep] : d_ 2 = true)), (show _ from (by simp [hdep] : d_ 3 = true)), (show _ from (by simp [hdep] : d_ 9 = true))⟩, fun h => ⟨(F.q11 h).1, (F.q11 h).2.1, (F.q11 h).2.2.1, (F.q11 h).2.2.2.1, (F.q11 h).2.2.2.2.1, (F.q11 h).2.2.2.2.2.1, (F.q11 h).2.2.2.2.2.2.1, (F.q11 h).2.2.2.2.2.2.2.1, (F.q11 h).2.2.2.2.2.2.2.2.1, (F.q11 h).2.2.2.2.2.2.2.2.2.1, rfl⟩, fun h => ⟨(F.q12 h).1, (F.q12 h).2.1, (F.q12 h).2.2.1, (F.q12 h).2.2.2.1, (F.q12 h).2.2.2.2.1, (F.q12 h).2.2.2.2.2.1, (F.q12 h).2.2.2.2.2.2.1, (F.q12 h).2.2.2.2.2.2.2.1, (F.q12 h).2.2.2.2.2.2.2.2.1, (F.q12 h).2.2.2.2.2.2.2.2.2.1, rfl, (F.q12 h).2.2.2.2.2.2.2.2.2.2.2⟩, F.f0, F.f1, F.f2, F.f3, F.f4, F.f5, F.f6, F.f7, F.f8, F.f9, F.f11, fun h => (by simp [upd] at h), fun _ _ => hres, fun h => (by have h2 : d_ 10 = true := (F.q12 h).2.2.2.2.2.2.2.2.2.2.1; rw [show d_ 10 = false from hd_] at h2; cases h2)⟩
      clear F hS hres
      go_simp
      exact HK.out _ _ ⟨_, _, _, _, _, _, _, _, _, _, _, rfl, HF.out⟩
    · have HF : Hid (lat11F b4 b13 b14 dw nl S0 S1 S2 (upd d_ 11) x74 x75 x76 x77 x78 x79 x80 x81 x82 x83 (.pointer (some ⟨b14, 0, none⟩)) w1) := ⟨F.q1, F.q3, F.q5, F.q7, F.q8, F.q9, F.q10, fun _ => ⟨(show _ from (by simp [hdep] : d_ 0 = true)), (show _ from (by simp [hdep] : d_ 1 = true)), (show _ from (by simp [hdep] : d_ 2 = true)), (show _ from (by simp [hdep] : d_ 3 = true)), (show _ from (by simp [hdep] : d_ 4 = true)), (show _ from (by simp [hdep] : d_ 5 = true)), (show _ from (by simp [hdep] : d_ 6 = true)), (show _ from (by simp [hdep] : d_ 7 = true)), (show _ from (by simp [hdep] : d_ 8 = true)), (show _ from (by simp [hdep] : d_ 9 = true)), (show _ from (by simp [hdep] : d_ 10 = true))⟩, fun h => ⟨(F.q12 h).1, (F.q12 h).2.1, (F.q12 h).2.2.1, (F.q12 h).2.2.2.1, (F.q12 h).2.2.2.2.1, (F.q12 h).2.2.2.2.2.1, (F.q12 h).2.2.2.2.2.2.1, (F.q12 h).2.2.2.2.2.2.2.1, (F.q12 h).2.2.2.2.2.2.2.2.1, (F.q12 h).2.2.2.2.2.2.2.2.2.1, (F.q12 h).2.2.2.2.2.2.2.2.2.2.1, rfl⟩, F.f0, F.f1, F.f2, F.f3, F.f4, F.f5, F.f6, F.f7, F.f8, F.f9, fun _ => rfl, F.st0, F.st1, F.st2⟩
      clear F
      go_simp
      exact HK.out _ _ ⟨_, _, _, _, _, _, _, _, _, _, _, rfl, HF.out⟩
    · have hS := F.st1 (by simp [hdep] : d_ 10 = true) hd_
      obtain rfl := F.f8 (by simp [hdep])
      obtain rfl := F.f11 (by simp [hdep])
      obtain ⟨⟨ku0, kcell0⟩, kfr0, hres⟩ := kc12.out w1 hS
      have HF : Hid (lat11F b4 b13 b14 dw nl S0 S1 S2 (upd d_ 12) x74 x75 x76 x77 x78 x79 x80 x81 (.int .i64 (dw + nl + 1)) x83 (.pointer (some ⟨b14, 0, none⟩)) (w1.setCell ⟨b14, 0, none⟩ (.int .i64 (dw + nl + 1)))) := ⟨F.q1, F.q3, F.q5, F.q7, F.q8, F.q9, F.q10, F.q11, fun _ => ⟨(show _ from (by simp [hdep] : d_ 0 = true)), (show _ from (by simp [hdep] : d_ 1 = true)), (show _ from (by simp [hdep] : d_ 2 = true)), (show _ from (by simp [hdep] : d_ 3 = true)), (show _ from (by simp [hdep] : d_ 4 = true)), (show _ from (by simp [hdep] : d_ 5 = true)), (show _ from (by simp [hdep] : d_ 6 = true)), (show _ from (by simp [hdep] : d_ 7 = true)), (show _ from (by simp [hdep] : d_ 8 = true)), (show _ from (by simp [hdep] : d_ 9 = true)), (show _ from (by simp [hdep] : d_ 10 = true)), (show _ from (by simp [hdep] : d_ 11 = true))⟩, F.f0, F.f1, F.f2, F.f3, F.f4, F.f5, F.f6, F.f7, F.f8, F.f9, F.f11, fun h => (by have h2 : d_ 10 = false := h; rw [(by simp [hdep] : d_ 10 = true)] at h2; cases h2), fun _ h => (by simp [upd] at h), fun _ => hres⟩
      clear F hS hres
      go_simp
      exact HK.out _ _ ⟨_, _, _, _, _, _, _, _, _, _, _, rfl, HF.out⟩
  · rintro d_ a_ w1 hall ⟨x74, x75, x76, x77, x78, x79, x80, x81, x82, x83, x84, rfl, F⟩
    have hall' : ∀ k, k < 13 → d_ k = true := hall
    obtain rfl := F.f0 (hall' 0 (by decide))
    obtain rfl := F.f1 (hall' 1 (by decide))
    obtain rfl := F.f2 (hall' 2 (by decide))
    obtain rfl := F.f3 (hall' 3 (by decide))
    obtain rfl := F.f4 (hall' 4 (by decide))
    obtain rfl := F.f5 (hall' 5 (by decide))
    obtain rfl := F.f6 (hall' 6 (by decide))
    obtain rfl := F.f7 (hall' 7 (by decide))
    obtain rfl := F.f8 (hall' 8 (by decide))
    obtain rfl := F.f9 (hall' 9 (by decide))
    obtain rfl := F.f11 (hall' 11 (by decide))
    have hst := F.st2 (hall' 12 (by decide))
    exact HQ.out  w1 hst
end Go.Proofs.Ytphefhpmbahagaa

namespace Go.Proofs.Ytphefhpmbahagaa
open Go.RowKit
set_option linter.unusedVariables false
set_option linter.unusedSimpArgs false

theorem on_valid {t : Tr} (h : t.valid = true) {d : Int} (hd : 0 ≤ d ∧ d ≤ 1440) : (t.on d).valid = true := by
  simp only [Tr.valid, Bool.and_eq_true] at h ⊢
  exact ⟨⟨⟨h.1.1.1, h.1.1.2⟩, by simp [inR, Tr.on, hd]⟩, h.2⟩
theorem on_order (t : Tr) (d : Int) (o : List Int) : (t.on d).order o = t.order o := rfl
theorem openE_on {t : Tr} {o : List Int} (h : openE t (t.order o) = 0) {d : Int} (hd : 0 ≤ d ∧ d ≤ 1440) : openE (t.on d) ((t.on d).order o) = 0 := by
  obtain ⟨h1, h2⟩ := openE_zero h
  rw [on_order]
  unfold openE
  rw [on_valid h1 hd, h2]
  rfl
theorem walked_on {t : Tr} {o : List Int} (h : openE t (t.order o) = 0) {d : Int} (hd : 0 ≤ d ∧ d ≤ 1440) :
    (walkedE (t.on d) o).2 = 0 ∧ ((walkedE (t.on d) o).1 = 2 ↔ (t.on d).is true o = true) := by
  unfold walkedE
  rw [if_pos (openE_on h hd)]
  refine ⟨rfl, ?_⟩
  show (if (t.on d).is true o = true then (2 : Int) else if (t.on d).is false o = true then 1 else 0) = 2 ↔ _
  split
  · simp [*]
  · split <;> simp [*]
/-- As many minutes later the order is sure, a minute later it is not. -/
theorem later_facts {t : Tr} {o : List Int} (hE : openE t (t.order o) = 0) (hs : t.is true o = true) :
    ∃ n : Int, laterE t o = (n, 0) ∧ 0 ≤ n ∧ 0 ≤ t.dawn ∧ t.dawn + n ≤ 1440 ∧ walkedE (t.on (t.dawn + n)) o = (2, 0) ∧
      (t.dawn + n + 1 ≤ 1440 → (walkedE (t.on (t.dawn + n + 1)) o).2 = 0 ∧ (walkedE (t.on (t.dawn + n + 1)) o).1 ≠ 2) := by
  have hF := fit_of_valid (openE_zero hE).1
  have hd := hF.dawn
  refine ⟨min (t.untilA o o.length) 1440 - t.dawn, by unfold laterE; rw [if_pos hE, if_pos hs], ?_, hd.1, by omega, ?_, ?_⟩
  · by_cases h0 : 0 < o.length
    · have := (sure_until hs h0 t.dawn).1 hs
      omega
    · have e : o = [] := List.eq_nil_of_length_eq_zero (by omega)
      subst e
      show 0 ≤ min (1440 : Int) 1440 - t.dawn
      omega
  · have hr : 0 ≤ t.dawn + (min (t.untilA o o.length) 1440 - t.dawn) ∧ t.dawn + (min (t.untilA o o.length) 1440 - t.dawn) ≤ 1440 := by
      by_cases h0 : 0 < o.length
      · have := (sure_until hs h0 t.dawn).1 hs
        omega
      · have e : o = [] := List.eq_nil_of_length_eq_zero (by omega)
        subst e
        show 0 ≤ t.dawn + (min (1440 : Int) 1440 - t.dawn) ∧ t.dawn + (min (1440 : Int) 1440 - t.dawn) ≤ 1440
        omega
    have h1 := walked_on hE hr
    refine Prod.ext (h1.2.2 ?_) h1.1
    by_cases h0 : 0 < o.length
    · exact (sure_until hs h0 _).2 (by omega)
    · have e : o = [] := List.eq_nil_of_length_eq_zero (by omega)
      subst e
      rfl
  · intro hl
    have h0 : 0 < o.length := by
      by_cases h0 : 0 < o.length
      · exact h0
      · have e : o = [] := List.eq_nil_of_length_eq_zero (by omega)
        subst e
        have : t.dawn + (min (1440 : Int) 1440 - t.dawn) + 1 ≤ 1440 := hl
        omega
    have h2 := (sure_until hs h0 t.dawn).1 hs
    have h1 := walked_on hE (d := t.dawn + (min (t.untilA o o.length) 1440 - t.dawn) + 1) ⟨by omega, hl⟩
    refine ⟨h1.1, fun h => ?_⟩
    have := (sure_until hs h0 _).1 (h1.2.1 h)
    omega

theorem view_mk {t : Tr} {m : Nat} (h : m < t.frm.length) : t.view (m : Int) = true := by
  unfold Tr.view inR Tr.n
  rw [Bool.and_eq_true, decide_eq_true_eq, decide_eq_true_eq]
  omega
/-! ### who comes before whom -/
theorem comes_flip : ∀ {l : List Int} {x y : Int}, x ∈ l → y ∈ l → x ≠ y → comesB l y x = !comesB l x y
  | [], x, y, h, _, _ => by cases h
  | a :: r, x, y, hx, hy, hne => by
    rw [comesB, comesB]
    by_cases h1 : a = x
    · have h2 : ¬ a = y := fun e => hne (h1.symm.trans e)
      rw [if_neg h2, if_pos h1, if_pos h1]; rfl
    · by_cases h2 : a = y
      · rw [if_pos h2, if_neg h1, if_pos h2]; rfl
      · rw [if_neg h2, if_neg h1, if_neg h1, if_neg h2]
        refine comes_flip ?_ ?_ hne
        · rcases List.mem_cons.1 hx with e | e
          · exact absurd e.symm h1
          · exact e
        · rcases List.mem_cons.1 hy with e | e
          · exact absurd e.symm h2
          · exact e
theorem tour_has {n : Nat} {x : List Int} (h : x ∈ toursL n) {v : Int} (hv : 0 ≤ v ∧ v < n) : v ∈ x := by
  obtain ⟨h1, h2, h3⟩ := tour_mem h
  have := (all_in n x h3 h2).2 h1 v.toNat (by omega)
  rwa [Int.toNat_of_nonneg hv.1] at this
theorem cntB_zero {t : Tr} {a b : Int} {p : Bool} : t.cntB a b p (toursL t.frm.length).length = 0 ↔ ∀ x ∈ toursL t.frm.length, t.is true x = true → befB a b x ≠ p := by
  unfold Tr.cntB
  rw [List.take_length, List.countP_eq_zero]
  constructor
  · intro h x hx hs e
    exact h x hx (by rw [hs, e]; simp)
  · intro h x hx e
    simp only [Bool.and_eq_true, beq_iff_eq] at e
    exact h x hx e.1 e.2
theorem cntB_flip {t : Tr} {a b : Int} (ha : t.view a = true) (hb : t.view b = true) (hab : a ≠ b) (p : Bool) : t.cntB b a p (toursL t.frm.length).length = t.cntB a b (!p) (toursL t.frm.length).length := by
  unfold Tr.cntB
  rw [List.take_length]
  refine List.countP_congr fun x hx => ?_
  have ha2 : 0 ≤ a ∧ a < t.frm.length := by obtain ⟨m, e, h⟩ := view_nat ha; omega
  have hb2 : 0 ≤ b ∧ b < t.frm.length := by obtain ⟨m, e, h⟩ := view_nat hb; omega
  rw [comes_bef ha hb hab hx, comes_bef hb ha (Ne.symm hab) hx, comes_flip (tour_has hx ha2) (tour_has hx hb2) hab]
  cases comesB x a b <;> cases p <;> simp
/-- There is a shortest tour just if one is sure. -/
theorem short_some {t : Tr} : (bestE t).1.length = t.frm.length ↔ ∃ x ∈ toursL t.frm.length, t.is true x = true := by
  obtain ⟨h1, h2, h3, h4⟩ := best_facts t
  constructor
  · intro h
    exact ⟨_, tours_all h h1 h2, h3⟩
  · rintro ⟨x, hx, hs⟩
    obtain ⟨g1, g2, g3⟩ := tour_mem hx
    have hlow := sure_low g3 g2 hs
    rw [betE_lt] at hlow
    have := (all_in _ _ h1 h2).1
    have e : (t.key x).1.length = t.frm.length := g1
    omega
/-- What is told of two views. -/
structure BefFacts (t : Tr) (i k : Int) (o : List Int) (c d g : Int) (l : List Int) : Prop where
  bef : beforeE t i k = (c, g)
  feb : beforeE t k i = (d, g)
  short : shortE t = (l, g)
  some : g = 0 ∨ (g = 4 ∧ c = 0 ∧ d = 0)
  told : g = 0 → (c = 2 ∧ d = 0 ∧ comesB l i k = true ∧ (o.length = t.frm.length → t.is true o = true → comesB o i k = true)) ∨
    (c = 0 ∧ d = 2 ∧ comesB l i k = false ∧ (o.length = t.frm.length → t.is true o = true → comesB o i k = false)) ∨ (c = 1 ∧ d = 1)
theorem bef_facts {t : Tr} (hv : t.valid = true) {i k : Int} (hi : t.view i = true) (hk : t.view k = true) (hik : i ≠ k) {o : List Int} (ho : t.order o = true) :
    ∃ c d g l, BefFacts t i k o c d g l := by
  have hE : openE t true = 0 := by unfold openE; rw [hv]; rfl
  have hE1 : openE t (befOk t i k) = 0 := by unfold openE befOk; rw [hv, hi, hk]; simp [hik]
  have hE2 : openE t (befOk t k i) = 0 := by unfold openE befOk; rw [hv, hi, hk]; simp [Ne.symm hik]
  have b1 : beforeE t i k = tellE (t.cntB i k true (toursL t.frm.length).length) (t.cntB i k false (toursL t.frm.length).length) := by unfold beforeE; rw [if_pos hE1]
  have b2 : beforeE t k i = tellE (t.cntB i k false (toursL t.frm.length).length) (t.cntB i k true (toursL t.frm.length).length) := by
    unfold beforeE; rw [if_pos hE2, cntB_flip hi hk hik, cntB_flip hi hk hik]; rfl
  have b3 : shortE t = (if (bestE t).1.length = t.frm.length then ((bestE t).1, 0) else ([], 4)) := by unfold shortE; rw [if_pos hE]
  have hy := cntB_zero (t := t) (a := i) (b := k) (p := true)
  have hn := cntB_zero (t := t) (a := i) (b := k) (p := false)
  have hin : o.length = t.frm.length → o ∈ toursL t.frm.length := fun e => by
    have h2 : (o.all t.view && decide o.Nodup) = true := ho
    rw [Bool.and_eq_true, decide_eq_true_eq] at h2
    exact tours_all e h2.2 (fun v hv => by obtain ⟨m, e, h⟩ := view_nat (order_view ho v hv); omega)
  obtain ⟨f1, f2, f3, f4⟩ := best_facts t
  have hx : ∀ {x : List Int} {p : Bool}, x ∈ toursL t.frm.length → befB i k x ≠ !p → comesB x i k = p := fun {x p} h1 h2 => by
    rw [comes_bef hi hk hik h1] at h2
    revert h2
    generalize comesB x i k = q
    cases q <;> cases p <;> simp
  generalize t.cntB i k true (toursL t.frm.length).length = Y at *
  generalize t.cntB i k false (toursL t.frm.length).length = M at *
  by_cases hs : (bestE t).1.length = t.frm.length
  · have hb := tours_all hs f1 f2
    rw [if_pos hs] at b3
    have hnz : ¬ (Y + M = 0) := fun e => by
      have h1 := hy.1 (by omega) _ hb f3
      have h2 := hn.1 (by omega) _ hb f3
      revert h1 h2
      generalize befB i k (bestE t).1 = q
      cases q <;> simp
    by_cases hM : M = 0
    · refine ⟨2, 0, 0, _, ⟨?_, ?_, b3, .inl rfl, fun _ => .inl ⟨rfl, rfl, hx hb (hn.1 hM _ hb f3), fun e hs => hx (hin e) (hn.1 hM _ (hin e) hs)⟩⟩⟩
      · rw [b1]; unfold tellE; rw [if_neg hnz, if_pos hM]
      · rw [b2]; unfold tellE; rw [if_neg (by omega), if_neg (by omega), if_pos hM]
    · by_cases hY : Y = 0
      · refine ⟨0, 2, 0, _, ⟨?_, ?_, b3, .inl rfl, fun _ => .inr (.inl ⟨rfl, rfl, hx hb (hy.1 hY _ hb f3), fun e hs => hx (hin e) (hy.1 hY _ (hin e) hs)⟩)⟩⟩
        · rw [b1]; unfold tellE; rw [if_neg hnz, if_neg hM, if_pos hY]
        · rw [b2]; unfold tellE; rw [if_neg (by omega), if_pos hY]
      · refine ⟨1, 1, 0, _, ⟨?_, ?_, b3, .inl rfl, fun _ => .inr (.inr ⟨rfl, rfl⟩)⟩⟩
        · rw [b1]; unfold tellE; rw [if_neg hnz, if_neg hM, if_neg hY]
        · rw [b2]; unfold tellE; rw [if_neg (by omega), if_neg hY, if_neg hM]
  · rw [if_neg hs] at b3
    have hno : ∀ x ∈ toursL t.frm.length, t.is true x = true → False := fun x h1 h2 => hs (short_some.2 ⟨x, h1, h2⟩)
    have hY : Y = 0 := hy.2 fun x h1 h2 => (hno x h1 h2).elim
    have hM : M = 0 := hn.2 fun x h1 h2 => (hno x h1 h2).elim
    refine ⟨0, 0, 4, _, ⟨?_, ?_, b3, .inr ⟨rfl, rfl, rfl⟩, fun h => by cases h⟩⟩
    · rw [b1]; unfold tellE; rw [if_pos (by omega)]
    · rw [b2]; unfold tellE; rw [if_pos (by omega)]
end Go.Proofs.Ytphefhpmbahagaa

namespace Go.Proofs.Ytphefhpmbahagaa
open Go.RowKit
set_option linter.unusedVariables false
set_option linter.unusedSimpArgs false

theorem on_cells {w : World} {b : Nat} {t : Tr} {A : TrA} {ty : TypeId} {d : Int} (hq : w.heap[b]? = some (.cells ((t.on d).cells A) ty (0, 0))) : w.cell? ⟨b, 0, none⟩ = some (.int .i64 d) ∧ w.cell? ⟨b, 1, none⟩ = some (.slice A.af t.frm.length A.cf) ∧
    w.cell? ⟨b, 2, none⟩ = some (.slice A.aw t.ways.length A.cw) ∧ w.cell? ⟨b, 3, none⟩ = some (.slice A.as_ t.stay.length A.cs) ∧ w.cell? ⟨b, 4, none⟩ = some (.slice A.al t.light.length A.cl) := tr_cells (t := t.on d) hq
set_option maxRecDepth 100000 in
set_option maxHeartbeats 8000000 in
theorem walkLater_any {t : Tr} {A : TrA} {w : World} (ht : IsTr w t A) (hw : t.ways.length ≤ 9223372036854775807) {o : List Int} {a : Option Addr} {cap : Nat} (ha : IsInts w a o) {x y : Int} (hx : 0 ≤ x ∧ x ≤ 255) (hy : 0 ≤ y ∧ y ≤ 255) :
    Calls Try.prog 9 #[t.v A, .slice a o.length cap, .int .u8 x, .int .u8 y] w fun e w' => e = .returned (.bool true) ∧ Below w.heap.size w w' := by
  have hb0 : Below w.heap.size w (w.alloc (.cells (t.cells A) 25)) := (Below.refl _ w).alloc (Nat.le_refl _) _
  have q0 := World.alloc_heap_new w (.cells (t.cells A) 25)
  have HW := Lib.hid (And.intro hb0 (And.intro q0 (And.intro (ht.mono hb0) (ha.mono hb0))))
  have HG : Hid (∀ v, IsTr v t A → Calls Try.prog 12 #[t.v A, .slice a o.length cap, .int .i64 6] v fun e w' => e = .returned (.bool (t.great o 6)) ∧ Below v.heap.size v w') := fun v h => great12 h hw 6
  clear hb0 q0 ha ht hw
  go_enter Try.func9, Try.ntmps9
  refine wp_seq_hid ?_
  intro K0 HK0
  go_wp2_with fail
  refine HK0.out _ _ ?_
  refine wp_seq_hid ?_
  intro K1 HK1
  revert HW
  generalize w.alloc (.cells (t.cells A) 25) = w1
  intro HW
  have KP : Hid (∀ v, Below w1.heap.size w1 v → v.heap[w.heap.size]? = some (.cells (t.cells A) 25 (0, 0)) ∧ IsTr v t A ∧ IsInts v a o ∧ Below w.heap.size w v) := fun v h => ⟨(h.block _ (heap_lt HW.out.2.1)).trans HW.out.2.1, HW.out.2.2.1.mono h, HW.out.2.2.2.mono h, HW.out.1.trans (h.mono HW.out.1.size)⟩
  have HWL : Hid (w.heap.size < w1.heap.size) := heap_lt HW.out.2.1
  have HB := Lib.hid (Below.refl w1.heap.size w1)
  obtain ⟨k0, k1, k2, k3, k4⟩ := tr_cells (KP.out w1 HB.out).1
  go_wp2_with fail
  refine (HG.out _ (KP.out w1 HB.out).2.1).mono ?_
  rintro e b0 ⟨rfl, hb⟩
  have HX := Lib.hid hb
  clear hb HB HG k0 k1 k2 k3 k4
  have HB := HX
  clear HX
  cases hg : t.great o 6
  case true =>
    go_wp2_with fail
    refine (alive13 _).mono ?_
    rintro e c1 ⟨rfl, hb⟩
    have HX := Lib.hid (HB.out.trans (hb.mono HB.out.size))
    clear hb
    go_wp2_with fail
    go_ret
    exact ⟨rfl, (KP.out _ HX.out).2.2.2⟩
  have HN := Lib.hid (great_no hg)
  clear hg
  go_wp2_with fail
  refine HK1.out _ _ ?_
  clear HK1 K1 HK0 K0
  have C20 : Hid (∀ v, Below w1.heap.size w1 v → Calls Try.prog 20 #[t.v A, .slice a o.length cap] v fun e w' => e = .returned (.tuple #[.int .i64 (laterE t o).1, .int .i64 (laterE t o).2]) ∧ Below v.heap.size v w') := fun v h => later20 (KP.out v h).2.1 HN.out.1 HN.out.2.1 (KP.out v h).2.2.1
  have C14 : Hid (∀ v, Below w1.heap.size w1 v → Calls Try.prog 14 #[t.v A, .slice a o.length cap] v fun e w' => e = .returned (.tuple #[.int .i64 (walkedE t o).1, .int .i64 (walkedE t o).2]) ∧ Below v.heap.size v w') := fun v h => walked14 (KP.out v h).2.1 HN.out.1 HN.out.2.1 (KP.out v h).2.2.1
  refine wp_seq_hid ?_
  intro K3 HK3
  obtain ⟨k0, k1, k2, k3, k4⟩ := tr_cells (KP.out b0 HB.out).1
  go_wp2_with fail
  refine (C20.out _ HB.out).mono ?_
  rintro e b1 ⟨rfl, hb⟩
  have HX := Lib.hid (HB.out.trans (hb.mono HB.out.size))
  clear hb HB C20 k0 k1 k2 k3 k4
  have HB := HX
  clear HX
  have HBZ : Hid (Below w1.heap.size w1 b1) := HB
  by_cases hE : openE t (t.order o) = 0
  case neg =>
    have hW : walkedE t o = (0, openE t (t.order o)) := by unfold walkedE; rw [if_neg hE]
    have hL : laterE t o = (0, openE t (t.order o)) := by unfold laterE; rw [if_neg hE]
    rw [hL]
    go_wp2_with fail
    refine HK3.out _ _ ?_
    clear HK3 K3
    refine wp_seq_hid ?_
    intro K4 HK4
    obtain ⟨k0, k1, k2, k3, k4⟩ := tr_cells (KP.out b1 HB.out).1
    go_wp2_with fail
    refine (C14.out _ HB.out).mono ?_
    rintro e b2 ⟨rfl, hb⟩
    have HX := Lib.hid (HB.out.trans (hb.mono HB.out.size))
    clear hb HB C14 k0 k1 k2 k3 k4
    have HB := HX
    clear HX
    rw [hW]
    revert hE
    clear hL hW
    generalize openE t (t.order o) = E
    intro hE
    have hb : (E != 0) = true := by simpa using hE
    have hee : (E == E) = true := by simp
    clear hE
    go_wp2_with fail
    refine HK4.out _ _ ?_
    go_wp2_with fail
    refine (alive13 _).mono ?_
    rintro e c1 ⟨rfl, hb⟩
    have HX := Lib.hid (HB.out.trans (hb.mono HB.out.size))
    clear hb
    go_wp2_with fail
    go_ret
    exact ⟨rfl, (KP.out _ HX.out).2.2.2⟩
  have hq : ∃ (q : Bool) (n e wq : Int), t.is true o = q ∧ laterE t o = (n, e) ∧ walkedE t o = (wq, 0) ∧ (e == 0) = q ∧ (wq == 2) = q ∧ (q = false → n = 0 ∧ e = 4) := by
    rcases walkedE_cases t o with ⟨h, _⟩ | ⟨_, hS, hW⟩ | ⟨_, hS, hW, hW2⟩
    · exact absurd hE h
    · obtain ⟨n, hL, _⟩ := later_facts hE hS
      exact ⟨true, n, 0, 2, hS, hL, hW, rfl, rfl, fun h => by cases h⟩
    · exact ⟨false, 0, 4, (walkedE t o).1, hS, by unfold laterE; rw [if_pos hE, hS]; rfl, Prod.ext rfl hW2, rfl, by simpa using hW, fun _ => ⟨rfl, rfl⟩⟩
  obtain ⟨q, n, le, wq, hS, hL, hW, hle, hwq, hno⟩ := hq
  have HSL := Lib.hid (And.intro hS (And.intro hL hno))
  rw [hL]
  clear hS hL hno
  go_wp2_with fail
  refine HK3.out _ _ ?_
  clear HK3 K3
  refine wp_seq_hid ?_
  intro K4 HK4
  obtain ⟨k0, k1, k2, k3, k4⟩ := tr_cells (KP.out b1 HB.out).1
  go_wp2_with fail
  refine (C14.out _ HB.out).mono ?_
  rintro e b2 ⟨rfl, hb⟩
  have HX := Lib.hid (HB.out.trans (hb.mono HB.out.size))
  clear hb HB C14 k0 k1 k2 k3 k4
  have HB := HX
  clear HX
  rw [hW]
  clear hW
  go_wp2_with fail
  refine HK4.out _ _ ?_
  clear HK4 K4
  refine wp_seq_hid ?_
  intro K5 HK5
  go_wp2_with fail
  refine HK5.out _ _ ?_
  clear HK5 K5
  refine wp_seq_hid ?_
  intro K7 HK7
  obtain ⟨k0, k1, k2, k3, k4⟩ := tr_cells (KP.out b2 HB.out).1
  go_wp2_with fail
  have HVV := Lib.hid (openE_zero hE)
  refine (rtour33 (KP.out _ HB.out).2.1 HN.out.1).mono ?_
  rintro e b3 ⟨rfl, hb⟩
  rw [HVV.out.1]
  have HX := Lib.hid (HB.out.trans (hb.mono HB.out.size))
  clear hb HB k0 k1 k2 k3 k4
  have HB := HX
  clear HX
  go_wp2_with fail
  refine HK7.out _ _ ?_
  clear HK7 K7
  refine wp_seq_hid ?_
  intro K9 HK9
  have REST : Hid (∀ {s0 s5 s6 s7 s8 s9 s10 s12 s13 s14 s15 s16 s17 s18 s19 s20 s21 s22 s23 s24 s25 s26 s27 s28 s29 s30 s31 s32 s33 s34 s35 s36 s37 s38 s39 s40 s41 s42 s43 s44 s45 s46 s47 s48 s49 s50 s51 s52 s53 s54 s55 s56 s57 s58 s59 s60 s61 s62 s63 s64 s65 s66 s67 s68 s69 s70 s71 s72 s73 s74 s75 s76 s77 s78 s79 s80 s81 s82 s83 s84 s85 s86 s87 s88 s89 s90 s91 s92 s93 s94 s95 s96 s97 s98 s99 s100 s101 s102 s103 s104 s105 s106 s107 s108 s109 s110 s111 s112 s113 s114 s115 s116 s117 s118 s119 s120 s121 s122 s123 s124 s125 s126 s127 s128 s129 s130 s131 s132 s133 s134 s135 s136 s137 s138 s139 s140 s141 s142 s143 s144 s145 s146 s147 s148 s149 s150 s151 s152 s153 s154 s155 s156 s157 s158 s159 s160 s161 s162 s163 s164 s165 s166 s167 s168 s169 s170 s171 s172 s173 s174 s175 s176 s177 s178 s179 s180 s181 s182 s183 s184 s185 s186 s187 s188 s189 s190 s191 s192 s193 s194 s195 s196 s197 s198 s199 s200 s201 s202 s203 s204 s205 s206 s207 s208 s209 s210 s211 s212 s213 s214 s215 s216 s217 s218 s219 s220 s221 s222 s223 s224 s225 s226 s227 s228 s229 s230 s231 s232 s233 s234 s235 s236 s237 s238 s239 s240 s241 s242 s243 s244 s245 s246 s247 s248 s249 s250 s251 s252 s253 s254 s255 : Value} {v : World} {wv : Int}, Below w1.heap.size w1 v → (wv = 2 → t.is true o = true) → K9 { tmps := #[s0, .slice a o.length cap, .int .u8 x, .int .u8 y, .pointer (some ⟨w.heap.size, 0, none⟩), s5, s6, s7, s8, s9, s10, .int .i64 wv, s12, s13, s14, s15, s16, s17, s18, s19, s20, s21, s22, s23, s24, s25, s26, s27, s28, s29, s30, s31, s32, s33, s34, s35, s36, s37, s38, s39, s40, s41, s42, s43, s44, s45, s46, s47, s48, s49, s50, s51, s52, s53, s54, s55, s56, s57, s58, s59, s60, s61, s62, s63, s64, s65, s66, s67, s68, s69, s70, s71, s72, s73, s74, s75, s76, s77, s78, s79, s80, s81, s82, s83, s84, s85, s86, s87, s88, s89, s90, s91, s92, s93, s94, s95, s96, s97, s98, s99, s100, s101, s102, s103, s104, s105, s106, s107, s108, s109, s110, s111, s112, s113, s114, s115, s116, s117, s118, s119, s120, s121, s122, s123, s124, s125, s126, s127, s128, s129, s130, s131, s132, s133, s134, s135, s136, s137, s138, s139, s140, s141, s142, s143, s144, s145, s146, s147, s148, s149, s150, s151, s152, s153, s154, s155, s156, s157, s158, s159, s160, s161, s162, s163, s164, s165, s166, s167, s168, s169, s170, s171, s172, s173, s174, s175, s176, s177, s178, s179, s180, s181, s182, s183, s184, s185, s186, s187, s188, s189, s190, s191, s192, s193, s194, s195, s196, s197, s198, s199, s200, s201, s202, s203, s204, s205, s206, s207, s208, s209, s210, s211, s212, s213, s214, s215, s216, s217, s218, s219, s220, s221, s222, s223, s224, s225, s226, s227, s228, s229, s230, s231, s232, s233, s234, s235, s236, s237, s238, s239, s240, s241, s242, s243, s244, s245, s246, s247, s248, s249, s250, s251, s252, s253, s254, s255], defers := [] } v) := by
    intro s0 s5 s6 s7 s8 s9 s10 s12 s13 s14 s15 s16 s17 s18 s19 s20 s21 s22 s23 s24 s25 s26 s27 s28 s29 s30 s31 s32 s33 s34 s35 s36 s37 s38 s39 s40 s41 s42 s43 s44 s45 s46 s47 s48 s49 s50 s51 s52 s53 s54 s55 s56 s57 s58 s59 s60 s61 s62 s63 s64 s65 s66 s67 s68 s69 s70 s71 s72 s73 s74 s75 s76 s77 s78 s79 s80 s81 s82 s83 s84 s85 s86 s87 s88 s89 s90 s91 s92 s93 s94 s95 s96 s97 s98 s99 s100 s101 s102 s103 s104 s105 s106 s107 s108 s109 s110 s111 s112 s113 s114 s115 s116 s117 s118 s119 s120 s121 s122 s123 s124 s125 s126 s127 s128 s129 s130 s131 s132 s133 s134 s135 s136 s137 s138 s139 s140 s141 s142 s143 s144 s145 s146 s147 s148 s149 s150 s151 s152 s153 s154 s155 s156 s157 s158 s159 s160 s161 s162 s163 s164 s165 s166 s167 s168 s169 s170 s171 s172 s173 s174 s175 s176 s177 s178 s179 s180 s181 s182 s183 s184 s185 s186 s187 s188 s189 s190 s191 s192 s193 s194 s195 s196 s197 s198 s199 s200 s201 s202 s203 s204 s205 s206 s207 s208 s209 s210 s211 s212 s213 s214 s215 s216 s217 s218 s219 s220 s221 s222 s223 s224 s225 s226 s227 s228 s229 s230 s231 s232 s233 s234 s235 s236 s237 s238 s239 s240 s241 s242 s243 s244 s245 s246 s247 s248 s249 s250 s251 s252 s253 s254 s255 v wv HBv hwv
    have HB := Lib.hid HBv
    clear HBv
    refine HK9.out _ _ ?_
    clear HK9 K9
    refine wp_seq_hid ?_
    intro K18 HK18
    obtain ⟨k0, k1, k2, k3, k4⟩ := tr_cells (KP.out v HB.out).1
    by_cases h2 : t.frm.length < 2
    · have hb2 : decide ((t.frm.length : Int) < 2) = true := by simp; omega
      go_wp2_with fail
      refine (alive13 _).mono ?_
      rintro e c1 ⟨rfl, hb⟩
      have HX := Lib.hid (HB.out.trans (hb.mono HB.out.size))
      clear hb
      go_wp2_with fail
      go_ret
      exact ⟨rfl, (KP.out _ HX.out).2.2.2⟩
    have hb2 : decide ((t.frm.length : Int) < 2) = false := by simp; omega
    go_wp2_with fail
    refine HK18.out _ _ ?_
    clear HK18 K18
    have h6 : t.frm.length ≤ 6 := (fit_of_valid HVV.out.1).n
    obtain ⟨i, hi⟩ : ∃ i : Nat, x.tmod (t.frm.length : Int) = (i : Int) := ⟨(x % (t.frm.length : Int)).toNat, by rw [Int.tmod_eq_emod_of_nonneg hx.1]; have := Int.emod_nonneg x (show (t.frm.length : Int) ≠ 0 by omega); omega⟩
    have hin : i < t.frm.length := by
      have h1 := Int.tmod_lt_of_pos x (show (0 : Int) < (t.frm.length : Int) by omega)
      omega
    obtain ⟨j, hj⟩ : ∃ j : Nat, y.tmod ((t.frm.length : Int) - 1) = (j : Int) := ⟨(y % ((t.frm.length : Int) - 1)).toNat, by rw [Int.tmod_eq_emod_of_nonneg hy.1]; have := Int.emod_nonneg y (show (t.frm.length : Int) - 1 ≠ 0 by omega); omega⟩
    have hjn : j + 1 < t.frm.length := by
      have h1 := Int.tmod_lt_of_pos y (show (0 : Int) < (t.frm.length : Int) - 1 by omega)
      omega
    obtain ⟨k, hk⟩ : ∃ k : Nat, ((i : Int) + 1 + (j : Int)).tmod (t.frm.length : Int) = (k : Int) := ⟨(((i : Int) + 1 + (j : Int)) % (t.frm.length : Int)).toNat, by rw [Int.tmod_eq_emod_of_nonneg (by omega)]; have := Int.emod_nonneg ((i : Int) + 1 + (j : Int)) (show (t.frm.length : Int) ≠ 0 by omega); omega⟩
    have hkk : k < t.frm.length ∧ k ≠ i := by
      have h1 := Int.tmod_lt_of_pos ((i : Int) + 1 + (j : Int)) (show (0 : Int) < (t.frm.length : Int) by omega)
      refine ⟨by omega, fun e => ?_⟩
      subst e
      rw [Int.tmod_eq_emod_of_nonneg (by omega)] at hk
      have h3 := Int.mul_ediv_add_emod ((k : Int) + 1 + (j : Int)) (t.frm.length : Int)
      rw [hk] at h3
      have h4 : (t.frm.length : Int) * (((k : Int) + 1 + (j : Int)) / (t.frm.length : Int)) = (j : Int) + 1 := by omega
      generalize ((k : Int) + 1 + (j : Int)) / (t.frm.length : Int) = q at h4
      have h5 : q = 0 ∨ 1 ≤ q ∨ q ≤ -1 := by omega
      rcases h5 with rfl | h5 | h5
      · simp at h4; omega
      · have := Int.mul_le_mul_of_nonneg_left h5 (show (0 : Int) ≤ t.frm.length by omega)
        omega
      · have := Int.mul_le_mul_of_nonneg_left h5 (show (0 : Int) ≤ t.frm.length by omega)
        omega
    obtain ⟨c, d, g, l, F⟩ := bef_facts HVV.out.1 (i := i) (k := k) (view_mk hin) (view_mk hkk.1) (by omega) HVV.out.2
    have C29 : Hid (∀ v, Below w1.heap.size w1 v → Calls Try.prog 29 #[t.v A, .int .i64 (i : Int), .int .i64 (k : Int)] v fun e w' => e = .returned (.tuple #[.int .i64 c, .int .i64 g]) ∧ Below v.heap.size v w') := fun v h => by
      have := before29 (KP.out v h).2.1 HN.out.1 i k
      rw [F.bef] at this; exact this
    have C30 : Hid (∀ v, Below w1.heap.size w1 v → Calls Try.prog 29 #[t.v A, .int .i64 (k : Int), .int .i64 (i : Int)] v fun e w' => e = .returned (.tuple #[.int .i64 d, .int .i64 g]) ∧ Below v.heap.size v w') := fun v h => by
      have := before29 (KP.out v h).2.1 HN.out.1 k i
      rw [F.feb] at this; exact this
    have HL30 : Hid (l.length ≤ 30) := by
      have := (best_len30 t).1
      rw [F.short] at this; exact this
    have C25 : Hid (∀ v, Below w1.heap.size w1 v → Calls Try.prog 25 #[t.v A] v fun e w' => ∃ av cv, e = .returned (.tuple #[.slice av l.length cv, .int .i64 g]) ∧ IsInts w' av l ∧ Below v.heap.size v w') := fun v h => by
      refine (shortest25 (KP.out v h).2.1 HN.out.1).mono ?_
      rw [F.short]
      rintro e w' ⟨⟨po, ov, pa, pc⟩, rfl, ho, hat, hb⟩
      have ho : po = l := ho
      subst ho
      exact ⟨pa, pc, rfl, hat.ints, hb⟩
    have HF := Lib.hid F
    clear F
    refine wp_seq_hid ?_
    intro K20 HK20
    go_wp2_with fail
    refine HK20.out _ _ ?_
    clear HK20 K20
    refine wp_seq_hid ?_
    intro K21 HK21
    have z1 := fun y : Aft v.heap.size v => cell_stays y.h k1
    have hm1 : 0 < (t.frm.length : Int) - 1 := by omega
    have hm0 : 0 < (t.frm.length : Int) := by omega
    have hln : (t.frm.length : Int) ≤ 6 := by omega
    have hj0 : 0 ≤ (j : Int) ∧ (j : Int) < 6 := by omega
    have hi0 : 0 ≤ (i : Int) ∧ (i : Int) < 6 := by omega
    clear k0 k1 k2 k3 k4
    refine wp_region_aft mixed (by kernel_rfl) ?_
    repeat (go_big_quiet_step (fail))
    refine wpQuiet_nil ?_
    rintro _ ⟨y, rfl⟩
    have HX := Lib.hid (HB.out.trans (y.h.mono HB.out.size))
    clear z1 HB
    revert HX
    generalize y.v = v
    intro HB
    refine HK21.out _ _ ?_
    clear HK21 K21
    refine wp_seq_hid ?_
    intro K22 HK22
    obtain ⟨k0, k1, k2, k3, k4⟩ := tr_cells (KP.out v HB.out).1
    go_wp2_with fail
    refine (C29.out _ HB.out).mono ?_
    rintro e b4 ⟨rfl, hb⟩
    have HX := Lib.hid (HB.out.trans (hb.mono HB.out.size))
    clear hb HB C29 k0 k1 k2 k3 k4
    have HB := HX
    clear HX
    go_wp2_with fail
    refine HK22.out _ _ ?_
    clear HK22 K22
    refine wp_seq_hid ?_
    intro K23 HK23
    obtain ⟨k0, k1, k2, k3, k4⟩ := tr_cells (KP.out b4 HB.out).1
    go_wp2_with fail
    refine (C30.out _ HB.out).mono ?_
    rintro e b5 ⟨rfl, hb⟩
    have HX := Lib.hid (HB.out.trans (hb.mono HB.out.size))
    clear hb HB C30 k0 k1 k2 k3 k4
    have HB := HX
    clear HX
    go_wp2_with fail
    refine HK23.out _ _ ?_
    clear HK23 K23
    refine wp_seq_hid ?_
    intro K24 HK24
    obtain ⟨k0, k1, k2, k3, k4⟩ := tr_cells (KP.out b5 HB.out).1
    go_wp2_with fail
    refine (C25.out _ HB.out).mono ?_
    rintro e b6 ⟨av, cv, rfl, hs1, hb⟩
    have HX := Lib.hid (And.intro (HB.out.trans (hb.mono HB.out.size)) hs1)
    clear hb HB C25 k0 k1 k2 k3 k4 hs1
    have HB := Lib.hid HX.out.1
    have HS1 := Lib.hid HX.out.2
    clear HX
    go_wp2_with fail
    refine HK24.out _ _ ?_
    clear HK24 K24
    have HT := Lib.hid HF.out.told
    rcases HF.out.some with rfl | ⟨rfl, rfl, rfl⟩
    case inr =>
      clear HT HF
      go_wp2_with fail
      refine (alive13 _).mono ?_
      rintro e c1 ⟨rfl, hb⟩
      have HX := Lib.hid (HB.out.trans (hb.mono HB.out.size))
      clear hb
      go_wp2_with fail
      go_ret
      exact ⟨rfl, (KP.out _ HX.out).2.2.2⟩
    refine wp_seq_hid ?_
    intro K25 HK25
    go_wp2_with fail
    refine HK25.out _ _ ?_
    clear HK25 K25
    refine wp_seq_hid ?_
    intro K27 HK27
    go_wp2_with fail
    refine HK27.out _ _ ?_
    clear HK27 K27
    refine wp_seq_hid ?_
    intro K29 HK29
    obtain ⟨k0, k1, k2, k3, k4⟩ := tr_cells (KP.out b6 HB.out).1
    go_wp2_with fail
    refine (comes39 (cap := cv) (by have := HL30.out; omega) HS1.out).mono ?_
    rintro e _ ⟨rfl, rfl⟩
    clear HF HS1
    rcases HT.out trivial with ⟨rfl, rfl, hc, HTT⟩ | ⟨rfl, rfl, hc, HTT⟩ | ⟨rfl, rfl⟩
    · rw [hc]
      clear HT hc
      go_wp2_with fail
      refine HK29.out _ _ ?_
      clear HK29 K29
      refine wp_seq_hid ?_
      intro K30 HK30
      go_wp2_with fail
      refine HK30.out _ _ ?_
      clear HK30 K30
      refine wp_seq_hid ?_
      intro K32 HK32
      by_cases hfull : o.length = t.frm.length ∧ wv = 2
      · obtain ⟨hol, rfl⟩ := hfull
        have hbl : ((o.length : Int) != (t.frm.length : Int)) = false := by simp; omega
        have HO2 := Lib.hid (And.intro hol (hwv rfl))
        clear hol hwv
        go_wp2_with fail
        refine HK32.out _ _ ?_
        clear HK32 K32
        have HT3 := Lib.hid (HTT HO2.out.1 HO2.out.2)
        clear HTT
        go_wp2_with fail
        refine (comes39 (cap := cap) (by have := HN.out.2.1; omega) (KP.out _ HB.out).2.2.1).mono ?_
        rintro e _ ⟨rfl, rfl⟩
        rw [HT3.out]
        go_wp2_with fail
        refine (alive13 _).mono ?_
        rintro e c1 ⟨rfl, hb⟩
        have HX := Lib.hid (HB.out.trans (hb.mono HB.out.size))
        clear hb
        go_wp2_with fail
        go_ret
        exact ⟨rfl, (KP.out _ HX.out).2.2.2⟩
      · have hbl : (((o.length : Int) != (t.frm.length : Int)) = true) ∨ (((o.length : Int) != (t.frm.length : Int)) = false ∧ (wv != 2) = true) := by
          by_cases e : o.length = t.frm.length
          · exact .inr ⟨by simp; omega, by simpa using fun e2 => hfull ⟨e, e2⟩⟩
          · exact .inl (by simp; omega)
        clear hfull HTT hwv
        rcases hbl with hbl | ⟨hbl, hbw⟩
        · go_wp2_with fail
          refine (alive13 _).mono ?_
          rintro e c1 ⟨rfl, hb⟩
          have HX := Lib.hid (HB.out.trans (hb.mono HB.out.size))
          clear hb
          go_wp2_with fail
          go_ret
          exact ⟨rfl, (KP.out _ HX.out).2.2.2⟩
        · go_wp2_with fail
          refine (alive13 _).mono ?_
          rintro e c1 ⟨rfl, hb⟩
          have HX := Lib.hid (HB.out.trans (hb.mono HB.out.size))
          clear hb
          go_wp2_with fail
          go_ret
          exact ⟨rfl, (KP.out _ HX.out).2.2.2⟩
    · rw [hc]
      clear HT hc
      go_wp2_with fail
      refine HK29.out _ _ ?_
      clear HK29 K29
      refine wp_seq_hid ?_
      intro K30 HK30
      go_wp2_with fail
      refine HK30.out _ _ ?_
      clear HK30 K30
      refine wp_seq_hid ?_
      intro K32 HK32
      by_cases hfull : o.length = t.frm.length ∧ wv = 2
      · obtain ⟨hol, rfl⟩ := hfull
        have hbl : ((o.length : Int) != (t.frm.length : Int)) = false := by simp; omega
        have HO2 := Lib.hid (And.intro hol (hwv rfl))
        clear hol hwv
        go_wp2_with fail
        refine HK32.out _ _ ?_
        clear HK32 K32
        have HT3 := Lib.hid (HTT HO2.out.1 HO2.out.2)
        clear HTT
        go_wp2_with fail
        refine (comes39 (cap := cap) (by have := HN.out.2.1; omega) (KP.out _ HB.out).2.2.1).mono ?_
        rintro e _ ⟨rfl, rfl⟩
        rw [HT3.out]
        go_wp2_with fail
        refine (alive13 _).mono ?_
        rintro e c1 ⟨rfl, hb⟩
        have HX := Lib.hid (HB.out.trans (hb.mono HB.out.size))
        clear hb
        go_wp2_with fail
        go_ret
        exact ⟨rfl, (KP.out _ HX.out).2.2.2⟩
      · have hbl : (((o.length : Int) != (t.frm.length : Int)) = true) ∨ (((o.length : Int) != (t.frm.length : Int)) = false ∧ (wv != 2) = true) := by
          by_cases e : o.length = t.frm.length
          · exact .inr ⟨by simp; omega, by simpa using fun e2 => hfull ⟨e, e2⟩⟩
          · exact .inl (by simp; omega)
        clear hfull HTT hwv
        rcases hbl with hbl | ⟨hbl, hbw⟩
        · go_wp2_with fail
          refine (alive13 _).mono ?_
          rintro e c1 ⟨rfl, hb⟩
          have HX := Lib.hid (HB.out.trans (hb.mono HB.out.size))
          clear hb
          go_wp2_with fail
          go_ret
          exact ⟨rfl, (KP.out _ HX.out).2.2.2⟩
        · go_wp2_with fail
          refine (alive13 _).mono ?_
          rintro e c1 ⟨rfl, hb⟩
          have HX := Lib.hid (HB.out.trans (hb.mono HB.out.size))
          clear hb
          go_wp2_with fail
          go_ret
          exact ⟨rfl, (KP.out _ HX.out).2.2.2⟩
    · clear HT
      have HTT : o.length = t.frm.length → t.is true o = true → True := fun _ _ => trivial
      generalize comesB l i k = cq
      go_wp2_with fail
      refine HK29.out _ _ ?_
      clear HK29 K29
      refine wp_seq_hid ?_
      intro K30 HK30
      go_wp2_with fail
      refine HK30.out _ _ ?_
      clear HK30 K30
      refine wp_seq_hid ?_
      intro K32 HK32
      by_cases hfull : o.length = t.frm.length ∧ wv = 2
      · obtain ⟨hol, rfl⟩ := hfull
        have hbl : ((o.length : Int) != (t.frm.length : Int)) = false := by simp; omega
        have HO2 := Lib.hid (And.intro hol (hwv rfl))
        clear hol hwv
        go_wp2_with fail
        refine HK32.out _ _ ?_
        clear HK32 K32
        have HT3 := Lib.hid (HTT HO2.out.1 HO2.out.2)
        clear HTT
        go_wp2_with fail
        refine (comes39 (cap := cap) (by have := HN.out.2.1; omega) (KP.out _ HB.out).2.2.1).mono ?_
        rintro e _ ⟨rfl, rfl⟩
        generalize comesB o i k = co
        go_wp2_with fail
        refine (alive13 _).mono ?_
        rintro e c1 ⟨rfl, hb⟩
        have HX := Lib.hid (HB.out.trans (hb.mono HB.out.size))
        clear hb
        go_wp2_with fail
        go_ret
        exact ⟨rfl, (KP.out _ HX.out).2.2.2⟩
      · have hbl : (((o.length : Int) != (t.frm.length : Int)) = true) ∨ (((o.length : Int) != (t.frm.length : Int)) = false ∧ (wv != 2) = true) := by
          by_cases e : o.length = t.frm.length
          · exact .inr ⟨by simp; omega, by simpa using fun e2 => hfull ⟨e, e2⟩⟩
          · exact .inl (by simp; omega)
        clear hfull HTT hwv
        rcases hbl with hbl | ⟨hbl, hbw⟩
        · go_wp2_with fail
          refine (alive13 _).mono ?_
          rintro e c1 ⟨rfl, hb⟩
          have HX := Lib.hid (HB.out.trans (hb.mono HB.out.size))
          clear hb
          go_wp2_with fail
          go_ret
          exact ⟨rfl, (KP.out _ HX.out).2.2.2⟩
        · go_wp2_with fail
          refine (alive13 _).mono ?_
          rintro e c1 ⟨rfl, hb⟩
          have HX := Lib.hid (HB.out.trans (hb.mono HB.out.size))
          clear hb
          go_wp2_with fail
          go_ret
          exact ⟨rfl, (KP.out _ HX.out).2.2.2⟩
  cases q
  case false =>
    obtain ⟨rfl, rfl⟩ := HSL.out.2.2 rfl
    go_wp2_with fail
    exact REST.out HB.out (fun e => by rw [e] at hwq; cases hwq)
  case true =>
    have hle0 : le = 0 := by simpa using hle
    have hwq2 : wq = 2 := by simpa using hwq
    subst hle0 hwq2
    obtain ⟨n', hL, hn0, hd0, hn1, hx1, hy1⟩ := later_facts hE HSL.out.1
    obtain rfl : n = n' := by
      have := HSL.out.2.1
      rw [hL] at this
      exact (Prod.mk.inj this).1.symm
    clear hL hle hwq
    go_upto_region 10 with fail
    refine lat10 (t := t) (A := A) (bx := w.heap.size) (KP.out _ HB.out).1 ?_
    rintro x72 x73 x13 x14 b4 hb4 rfl rfl ⟨b13, rfl, h13, g13⟩ ⟨b14, rfl, h14, g14⟩ hne
    have hne2 : b13 ≠ b14 := fun e => hne (by rw [e])
    clear hne
    have HS := Lib.hid (And.intro h13 (And.intro h14 hne2))
    have H4 := Lib.hid (And.intro hb4 (And.intro g13 g14))
    have hw13 : IntKind.i64.wrap (t.dawn + n) = t.dawn + n := IntWalk.i64_in _ (by omega)
    have hw14 : IntKind.i64.wrap (t.dawn + n + 1) = t.dawn + n + 1 := IntWalk.i64_in _ (by omega)
    clear hb4 g13 g14 h13 h14 hne2
    go_upto_region 11 with fail
    refine wpIn_wide.1 (lat11 (b4 := w.heap.size) (b13 := b13) (b14 := b14) (dw := t.dawn) (nl := n)
      (S0 := fun v => Below b3.heap.size b3 v ∧ v.heap[b13]? = some (.cells (t.cells A) 25 (0, 0)) ∧ v.heap[b14]? = some (.cells (t.cells A) 25 (0, 0)))
      (S1 := fun v => Below b3.heap.size b3 v ∧ v.heap[b13]? = some (.cells ((t.on (t.dawn + n)).cells A) 25 (0, 0)) ∧ v.heap[b14]? = some (.cells (t.cells A) 25 (0, 0)))
      (S2 := fun v => Below b3.heap.size b3 v ∧ v.heap[b13]? = some (.cells ((t.on (t.dawn + n)).cells A) 25 (0, 0)) ∧ v.heap[b14]? = some (.cells ((t.on (t.dawn + n + 1)).cells A) 25 (0, 0))) hw13 hw14 ?h0 ?l1 ?l5 ?c10 ?c12 ?hQ)
    case h0 => exact ⟨H4.out.1.drew, H4.out.2.1, H4.out.2.2⟩
    case l1 => exact fun v h => (tr_cells (KP.out v (HB.out.trans (h.1.mono HB.out.size))).1).1
    case l5 => exact fun v h => (tr_cells (KP.out v (HB.out.trans ((h.elim (fun h => h.1) (fun h => h.1)).mono HB.out.size))).1).1
    case c10 => exact fun v h => ⟨⟨_, (tr_cells h.2.1).1⟩, frozen_of_heap h.2.1, h.1.setCell HS.out.1 _, heap_setCell_at (k := 0) h.2.1 _, (Below.heap_setCell _ _ _ _ (Ne.symm HS.out.2.2)).trans h.2.2⟩
    case c12 => exact fun v h => ⟨⟨_, (tr_cells h.2.2).1⟩, frozen_of_heap h.2.2, h.1.setCell HS.out.2.1 _, (Below.heap_setCell _ _ _ _ HS.out.2.2).trans h.2.1, heap_setCell_at (k := 0) h.2.2 _⟩
    intro b5 h5
    clear H4
    have HB5 := Lib.hid (HB.out.trans (h5.1.mono HB.out.size))
    have H5 := Lib.hid h5
    clear h5 hw13 hw14
    have SM : ∀ d, (t.on d).Small := fun d => ⟨HN.out.1.frm, HN.out.1.ways, HN.out.1.stay, HN.out.1.light, HN.out.1.rows⟩
    rcases hyw : walkedE (t.on (t.dawn + n + 1)) o with ⟨dq, eq⟩
    rw [hyw] at hy1
    have D14 : Hid (∀ v, Below w1.heap.size w1 v → Calls Try.prog 14 #[(t.on (t.dawn + n)).v A, .slice a o.length cap] v fun e w' => e = .returned (.tuple #[.int .i64 2, .int .i64 0]) ∧ Below v.heap.size v w') := fun v h => by
      have := walked14 (cap := cap) (on_tr (KP.out v h).2.1 (t.dawn + n)) (SM _) HN.out.2.1 (KP.out v h).2.2.1
      rw [hx1] at this; exact this
    have D15 : Hid (∀ v, Below w1.heap.size w1 v → Calls Try.prog 14 #[(t.on (t.dawn + n + 1)).v A, .slice a o.length cap] v fun e w' => e = .returned (.tuple #[.int .i64 dq, .int .i64 eq]) ∧ Below v.heap.size v w') := fun v h => by
      have := walked14 (cap := cap) (on_tr (KP.out v h).2.1 (t.dawn + n + 1)) (SM _) HN.out.2.1 (KP.out v h).2.2.1
      rw [hyw] at this; exact this
    have HYY : Hid (t.dawn + n + 1 ≤ 1440 → eq = 0 ∧ dq ≠ 2) := hy1
    clear SM hy1 hx1 hyw
    obtain ⟨g0, g1, g2, g3, g4⟩ := on_cells H5.out.2.1
    go_wp2_with fail
    refine (D14.out _ HB5.out).mono ?_
    rintro e b6 ⟨rfl, hb⟩
    have HB6 := Lib.hid (HB5.out.trans (hb.mono HB5.out.size))
    have HG6 := Lib.hid (And.intro ((hb.block _ (heap_lt H5.out.2.1)).trans H5.out.2.1) ((hb.block _ (heap_lt H5.out.2.2)).trans H5.out.2.2))
    clear hb HB5 H5 g0 g1 g2 g3 g4
    obtain ⟨g0, g1, g2, g3, g4⟩ := on_cells HG6.out.2
    go_simp
    go_wp2_with fail
    refine (D15.out _ HB6.out).mono ?_
    rintro e b7 ⟨rfl, hb⟩
    have HB7 := Lib.hid (HB6.out.trans (hb.mono HB6.out.size))
    have HG7 := Lib.hid (And.intro ((hb.block _ (heap_lt HG6.out.1)).trans HG6.out.1) ((hb.block _ (heap_lt HG6.out.2)).trans HG6.out.2))
    clear hb HB6 HG6 g0 g1 g2 g3 g4
    have g0 := (on_cells HG7.out.1).1
    have g1 := (on_cells HG7.out.2).1
    have hbn : decide (n < 0) = false := by simp; omega
    have hbm : decide (1440 < t.dawn + n) = false := by simp; omega
    clear D14 D15
    go_simp
    by_cases hl : t.dawn + n + 1 ≤ 1440
    · obtain ⟨rfl, y2⟩ := HYY.out hl
      clear HYY
      have hbl : decide (t.dawn + n + 1 ≤ 1440) = true := by simpa using hl
      have hbd : (dq == 2) = false := by simpa using y2
      clear y2 hl
      go_wp2_with fail
      exact REST.out HB7.out (fun _ => HSL.out.1)
    · clear HYY
      have hbl : decide (t.dawn + n + 1 ≤ 1440) = false := by simpa using hl
      clear hl
      go_wp2_with fail
      exact REST.out HB7.out (fun _ => HSL.out.1)
end Go.Proofs.Ytphefhpmbahagaa

