/- The drawn regions of WalkMore's law. -/
import Derived.Test.YtphefhpmbahagaaT82
namespace Go.Proofs.Ytphefhpmbahagaa
open Go.RowKit
set_option linter.unusedVariables false
set_option linter.unusedSimpArgs false

structure mor6F (W1 : World) (t : Tr) (A : TrA) (bx : Nat) (d : Nat → Bool) (x62 x63 x64 x12 x13 x14 : Value) (w : World) : Prop where
  same : Below W1.heap.size W1 w
  f0 : d 0 = true → x62 = t.v A
  f1 : d 1 = true → x63 = t.v A
  f2 : d 2 = true → x64 = t.v A
  f3 : d 3 = true → ∃ bq : Nat, x12 = .pointer (some ⟨bq, 0, none⟩) ∧ W1.heap.size ≤ bq ∧ w.heap[bq]? = some (.cells (if d 6 then (t.cells A) else #[.int .i64 0, .slice none 0 0, .slice none 0 0, .slice none 0 0, .slice none 0 0]) 25 (0, 0))
  o6 : d 6 = true → d 3 = true
  f4 : d 4 = true → ∃ bq : Nat, x13 = .pointer (some ⟨bq, 0, none⟩) ∧ W1.heap.size ≤ bq ∧ w.heap[bq]? = some (.cells (if d 7 then (t.cells A) else #[.int .i64 0, .slice none 0 0, .slice none 0 0, .slice none 0 0, .slice none 0 0]) 25 (0, 0))
  o7 : d 7 = true → d 4 = true
  f5 : d 5 = true → ∃ bq : Nat, x14 = .pointer (some ⟨bq, 0, none⟩) ∧ W1.heap.size ≤ bq ∧ w.heap[bq]? = some (.cells (if d 8 then (t.cells A) else #[.int .i64 0, .slice none 0 0, .slice none 0 0, .slice none 0 0, .slice none 0 0]) 25 (0, 0))
  o8 : d 8 = true → d 5 = true
  n3_4 : d 3 = true → d 4 = true → x12 ≠ x13
  n3_5 : d 3 = true → d 5 = true → x12 ≠ x14
  n4_5 : d 4 = true → d 5 = true → x13 ≠ x14
section
variable {W1 : World} {t : Tr} {A : TrA} {bx : Nat} {d : Nat → Bool} {x62 x63 x64 x12 x13 x14 : Value} {w w' : World}
theorem mor6F.s0 (F : mor6F W1 t A bx d x62 x63 x64 x12 x13 x14 w) : mor6F W1 t A bx (upd d 0) (t.v A) x63 x64 x12 x13 x14 w := ⟨F.same, fun _ => rfl, F.f1, F.f2, F.f3, F.o6, F.f4, F.o7, F.f5, F.o8, F.n3_4, F.n3_5, F.n4_5⟩
theorem mor6F.s1 (F : mor6F W1 t A bx d x62 x63 x64 x12 x13 x14 w) : mor6F W1 t A bx (upd d 1) x62 (t.v A) x64 x12 x13 x14 w := ⟨F.same, F.f0, fun _ => rfl, F.f2, F.f3, F.o6, F.f4, F.o7, F.f5, F.o8, F.n3_4, F.n3_5, F.n4_5⟩
theorem mor6F.s2 (F : mor6F W1 t A bx d x62 x63 x64 x12 x13 x14 w) : mor6F W1 t A bx (upd d 2) x62 x63 (t.v A) x12 x13 x14 w := ⟨F.same, F.f0, F.f1, fun _ => rfl, F.f3, F.o6, F.f4, F.o7, F.f5, F.o8, F.n3_4, F.n3_5, F.n4_5⟩
theorem mor6F.below (F : mor6F W1 t A bx d x62 x63 x64 x12 x13 x14 w) (hb : Below w.heap.size w w') : mor6F W1 t A bx d x62 x63 x64 x12 x13 x14 w' := by
  refine ⟨F.same.trans (hb.mono F.same.size), F.f0, F.f1, F.f2, ?_, F.o6, ?_, F.o7, ?_, F.o8, F.n3_4, F.n3_5, F.n4_5⟩
  · intro h
    obtain ⟨bq, h1, h2, h3⟩ := F.f3 h
    exact ⟨bq, h1, h2, (hb.block _ (heap_lt h3)).trans h3⟩
  · intro h
    obtain ⟨bq, h1, h2, h3⟩ := F.f4 h
    exact ⟨bq, h1, h2, (hb.block _ (heap_lt h3)).trans h3⟩
  · intro h
    obtain ⟨bq, h1, h2, h3⟩ := F.f5 h
    exact ⟨bq, h1, h2, (hb.block _ (heap_lt h3)).trans h3⟩
theorem mor6F.s3 (F : mor6F W1 t A bx d x62 x63 x64 x12 x13 x14 w) (h6 : d 6 = false) : mor6F W1 t A bx (upd d 3) x62 x63 x64 (.pointer (some ⟨w.heap.size, 0, none⟩)) x13 x14 (w.alloc (.cells #[.int .i64 0, .slice none 0 0, .slice none 0 0, .slice none 0 0, .slice none 0 0] 25)) := by
  have G := F.below ((Below.refl _ w).alloc (Nat.le_refl _) (.cells #[.int .i64 0, .slice none 0 0, .slice none 0 0, .slice none 0 0, .slice none 0 0] 25))
  refine ⟨G.same, G.f0, G.f1, G.f2, ?_, fun h => (by have h2 : d 6 = true := h; rw [h6] at h2; cases h2), G.f4, G.o7, G.f5, G.o8, fun _ h e => (by obtain ⟨bq, h1, h2, h3⟩ := F.f4 h; rw [h1] at e; have h4 := heap_lt h3; simp only [Value.pointer.injEq, Option.some.injEq, Addr.mk.injEq] at e; omega), fun _ h e => (by obtain ⟨bq, h1, h2, h3⟩ := F.f5 h; rw [h1] at e; have h4 := heap_lt h3; simp only [Value.pointer.injEq, Option.some.injEq, Addr.mk.injEq] at e; omega), G.n4_5⟩
  intro _
  have e : upd d 3 6 = false := h6
  rw [e]
  exact ⟨_, rfl, F.same.size, World.alloc_heap_new w _⟩
theorem mor6F.s6 (F : mor6F W1 t A bx d x62 x63 x64 x12 x13 x14 w) (h3 : d 3 = true) {bq : Nat} (hb : W1.heap.size ≤ bq) (hx : x12 = .pointer (some ⟨bq, 0, none⟩)) (hh : w.heap[bq]? = some (.cells #[.int .i64 0, .slice none 0 0, .slice none 0 0, .slice none 0 0, .slice none 0 0] 25 (0, 0))) : mor6F W1 t A bx (upd d 6) x62 x63 x64 x12 x13 x14 (((((w.setCell ⟨bq, 0, none⟩ (.int .i64 t.dawn)).setCell ⟨bq, 1, none⟩ (.slice A.af t.frm.length A.cf)).setCell ⟨bq, 2, none⟩ (.slice A.aw t.ways.length A.cw)).setCell ⟨bq, 3, none⟩ (.slice A.as_ t.stay.length A.cs)).setCell ⟨bq, 4, none⟩ (.slice A.al t.light.length A.cl)) := by
  refine ⟨(((((F.same).setCell (p := ⟨bq, 0, none⟩) hb (.int .i64 t.dawn)).setCell (p := ⟨bq, 1, none⟩) hb (.slice A.af t.frm.length A.cf)).setCell (p := ⟨bq, 2, none⟩) hb (.slice A.aw t.ways.length A.cw)).setCell (p := ⟨bq, 3, none⟩) hb (.slice A.as_ t.stay.length A.cs)).setCell (p := ⟨bq, 4, none⟩) hb (.slice A.al t.light.length A.cl), F.f0, F.f1, F.f2, ?_, fun _ => h3, fun h => (by obtain ⟨bz, g1, g2, g3⟩ := F.f4 h; have hne : bz ≠ bq := fun e => F.n3_4 h3 h (by rw [hx, g1, e]); exact ⟨bz, g1, g2, by refine (Below.heap_setCell _ _ _ _ hne).trans ?_; refine (Below.heap_setCell _ _ _ _ hne).trans ?_; refine (Below.heap_setCell _ _ _ _ hne).trans ?_; refine (Below.heap_setCell _ _ _ _ hne).trans ?_; refine (Below.heap_setCell _ _ _ _ hne).trans ?_; exact g3⟩), F.o7, fun h => (by obtain ⟨bz, g1, g2, g3⟩ := F.f5 h; have hne : bz ≠ bq := fun e => F.n3_5 h3 h (by rw [hx, g1, e]); exact ⟨bz, g1, g2, by refine (Below.heap_setCell _ _ _ _ hne).trans ?_; refine (Below.heap_setCell _ _ _ _ hne).trans ?_; refine (Below.heap_setCell _ _ _ _ hne).trans ?_; refine (Below.heap_setCell _ _ _ _ hne).trans ?_; refine (Below.heap_setCell _ _ _ _ hne).trans ?_; exact g3⟩), F.o8, F.n3_4, F.n3_5, F.n4_5⟩
  intro _
  have e : upd d 6 6 = true := rfl
  rw [e]
  exact ⟨bq, hx, hb, (heap_setCell_at (k := 4) (heap_setCell_at (k := 3) (heap_setCell_at (k := 2) (heap_setCell_at (k := 1) (heap_setCell_at (k := 0) hh (.int .i64 t.dawn)) (.slice A.af t.frm.length A.cf)) (.slice A.aw t.ways.length A.cw)) (.slice A.as_ t.stay.length A.cs)) (.slice A.al t.light.length A.cl))⟩
theorem mor6F.s4 (F : mor6F W1 t A bx d x62 x63 x64 x12 x13 x14 w) (h7 : d 7 = false) : mor6F W1 t A bx (upd d 4) x62 x63 x64 x12 (.pointer (some ⟨w.heap.size, 0, none⟩)) x14 (w.alloc (.cells #[.int .i64 0, .slice none 0 0, .slice none 0 0, .slice none 0 0, .slice none 0 0] 25)) := by
  have G := F.below ((Below.refl _ w).alloc (Nat.le_refl _) (.cells #[.int .i64 0, .slice none 0 0, .slice none 0 0, .slice none 0 0, .slice none 0 0] 25))
  refine ⟨G.same, G.f0, G.f1, G.f2, G.f3, G.o6, ?_, fun h => (by have h2 : d 7 = true := h; rw [h7] at h2; cases h2), G.f5, G.o8, fun h _ e => (by obtain ⟨bq, h1, h2, h3⟩ := F.f3 h; rw [h1] at e; have h4 := heap_lt h3; simp only [Value.pointer.injEq, Option.some.injEq, Addr.mk.injEq] at e; omega), G.n3_5, fun _ h e => (by obtain ⟨bq, h1, h2, h3⟩ := F.f5 h; rw [h1] at e; have h4 := heap_lt h3; simp only [Value.pointer.injEq, Option.some.injEq, Addr.mk.injEq] at e; omega)⟩
  intro _
  have e : upd d 4 7 = false := h7
  rw [e]
  exact ⟨_, rfl, F.same.size, World.alloc_heap_new w _⟩
theorem mor6F.s7 (F : mor6F W1 t A bx d x62 x63 x64 x12 x13 x14 w) (h4 : d 4 = true) {bq : Nat} (hb : W1.heap.size ≤ bq) (hx : x13 = .pointer (some ⟨bq, 0, none⟩)) (hh : w.heap[bq]? = some (.cells #[.int .i64 0, .slice none 0 0, .slice none 0 0, .slice none 0 0, .slice none 0 0] 25 (0, 0))) : mor6F W1 t A bx (upd d 7) x62 x63 x64 x12 x13 x14 (((((w.setCell ⟨bq, 0, none⟩ (.int .i64 t.dawn)).setCell ⟨bq, 1, none⟩ (.slice A.af t.frm.length A.cf)).setCell ⟨bq, 2, none⟩ (.slice A.aw t.ways.length A.cw)).setCell ⟨bq, 3, none⟩ (.slice A.as_ t.stay.length A.cs)).setCell ⟨bq, 4, none⟩ (.slice A.al t.light.length A.cl)) := by
  refine ⟨(((((F.same).setCell (p := ⟨bq, 0, none⟩) hb (.int .i64 t.dawn)).setCell (p := ⟨bq, 1, none⟩) hb (.slice A.af t.frm.length A.cf)).setCell (p := ⟨bq, 2, none⟩) hb (.slice A.aw t.ways.length A.cw)).setCell (p := ⟨bq, 3, none⟩) hb (.slice A.as_ t.stay.length A.cs)).setCell (p := ⟨bq, 4, none⟩) hb (.slice A.al t.light.length A.cl), F.f0, F.f1, F.f2, fun h => (by obtain ⟨bz, g1, g2, g3⟩ := F.f3 h; have hne : bz ≠ bq := fun e => F.n3_4 h h4 (by rw [hx, g1, e]); exact ⟨bz, g1, g2, by refine (Below.heap_setCell _ _ _ _ hne).trans ?_; refine (Below.heap_setCell _ _ _ _ hne).trans ?_; refine (Below.heap_setCell _ _ _ _ hne).trans ?_; refine (Below.heap_setCell _ _ _ _ hne).trans ?_; refine (Below.heap_setCell _ _ _ _ hne).trans ?_; exact g3⟩), F.o6, ?_, fun _ => h4, fun h => (by obtain ⟨bz, g1, g2, g3⟩ := F.f5 h; have hne : bz ≠ bq := fun e => F.n4_5 h4 h (by rw [hx, g1, e]); exact ⟨bz, g1, g2, by refine (Below.heap_setCell _ _ _ _ hne).trans ?_; refine (Below.heap_setCell _ _ _ _ hne).trans ?_; refine (Below.heap_setCell _ _ _ _ hne).trans ?_; refine (Below.heap_setCell _ _ _ _ hne).trans ?_; refine (Below.heap_setCell _ _ _ _ hne).trans ?_; exact g3⟩), F.o8, F.n3_4, F.n3_5, F.n4_5⟩
  intro _
  have e : upd d 7 7 = true := rfl
  rw [e]
  exact ⟨bq, hx, hb, (heap_setCell_at (k := 4) (heap_setCell_at (k := 3) (heap_setCell_at (k := 2) (heap_setCell_at (k := 1) (heap_setCell_at (k := 0) hh (.int .i64 t.dawn)) (.slice A.af t.frm.length A.cf)) (.slice A.aw t.ways.length A.cw)) (.slice A.as_ t.stay.length A.cs)) (.slice A.al t.light.length A.cl))⟩
theorem mor6F.s5 (F : mor6F W1 t A bx d x62 x63 x64 x12 x13 x14 w) (h8 : d 8 = false) : mor6F W1 t A bx (upd d 5) x62 x63 x64 x12 x13 (.pointer (some ⟨w.heap.size, 0, none⟩)) (w.alloc (.cells #[.int .i64 0, .slice none 0 0, .slice none 0 0, .slice none 0 0, .slice none 0 0] 25)) := by
  have G := F.below ((Below.refl _ w).alloc (Nat.le_refl _) (.cells #[.int .i64 0, .slice none 0 0, .slice none 0 0, .slice none 0 0, .slice none 0 0] 25))
  refine ⟨G.same, G.f0, G.f1, G.f2, G.f3, G.o6, G.f4, G.o7, ?_, fun h => (by have h2 : d 8 = true := h; rw [h8] at h2; cases h2), G.n3_4, fun h _ e => (by obtain ⟨bq, h1, h2, h3⟩ := F.f3 h; rw [h1] at e; have h4 := heap_lt h3; simp only [Value.pointer.injEq, Option.some.injEq, Addr.mk.injEq] at e; omega), fun h _ e => (by obtain ⟨bq, h1, h2, h3⟩ := F.f4 h; rw [h1] at e; have h4 := heap_lt h3; simp only [Value.pointer.injEq, Option.some.injEq, Addr.mk.injEq] at e; omega)⟩
  intro _
  have e : upd d 5 8 = false := h8
  rw [e]
  exact ⟨_, rfl, F.same.size, World.alloc_heap_new w _⟩
theorem mor6F.s8 (F : mor6F W1 t A bx d x62 x63 x64 x12 x13 x14 w) (h5 : d 5 = true) {bq : Nat} (hb : W1.heap.size ≤ bq) (hx : x14 = .pointer (some ⟨bq, 0, none⟩)) (hh : w.heap[bq]? = some (.cells #[.int .i64 0, .slice none 0 0, .slice none 0 0, .slice none 0 0, .slice none 0 0] 25 (0, 0))) : mor6F W1 t A bx (upd d 8) x62 x63 x64 x12 x13 x14 (((((w.setCell ⟨bq, 0, none⟩ (.int .i64 t.dawn)).setCell ⟨bq, 1, none⟩ (.slice A.af t.frm.length A.cf)).setCell ⟨bq, 2, none⟩ (.slice A.aw t.ways.length A.cw)).setCell ⟨bq, 3, none⟩ (.slice A.as_ t.stay.length A.cs)).setCell ⟨bq, 4, none⟩ (.slice A.al t.light.length A.cl)) := by
  refine ⟨(((((F.same).setCell (p := ⟨bq, 0, none⟩) hb (.int .i64 t.dawn)).setCell (p := ⟨bq, 1, none⟩) hb (.slice A.af t.frm.length A.cf)).setCell (p := ⟨bq, 2, none⟩) hb (.slice A.aw t.ways.length A.cw)).setCell (p := ⟨bq, 3, none⟩) hb (.slice A.as_ t.stay.length A.cs)).setCell (p := ⟨bq, 4, none⟩) hb (.slice A.al t.light.length A.cl), F.f0, F.f1, F.f2, fun h => (by obtain ⟨bz, g1, g2, g3⟩ := F.f3 h; have hne : bz ≠ bq := fun e => F.n3_5 h h5 (by rw [hx, g1, e]); exact ⟨bz, g1, g2, by refine (Below.heap_setCell _ _ _ _ hne).trans ?_; refine (Below.heap_setCell _ _ _ _ hne).trans ?_; refine (Below.heap_setCell _ _ _ _ hne).trans ?_; refine (Below.heap_setCell _ _ _ _ hne).trans ?_; refine (Below.heap_setCell _ _ _ _ hne).trans ?_; exact g3⟩), F.o6, fun h => (by obtain ⟨bz, g1, g2, g3⟩ := F.f4 h; have hne : bz ≠ bq := fun e => F.n4_5 h h5 (by rw [hx, g1, e]); exact ⟨bz, g1, g2, by refine (Below.heap_setCell _ _ _ _ hne).trans ?_; refine (Below.heap_setCell _ _ _ _ hne).trans ?_; refine (Below.heap_setCell _ _ _ _ hne).trans ?_; refine (Below.heap_setCell _ _ _ _ hne).trans ?_; refine (Below.heap_setCell _ _ _ _ hne).trans ?_; exact g3⟩), F.o7, ?_, fun _ => h5, F.n3_4, F.n3_5, F.n4_5⟩
  intro _
  have e : upd d 8 8 = true := rfl
  rw [e]
  exact ⟨bq, hx, hb, (heap_setCell_at (k := 4) (heap_setCell_at (k := 3) (heap_setCell_at (k := 2) (heap_setCell_at (k := 1) (heap_setCell_at (k := 0) hh (.int .i64 t.dawn)) (.slice A.af t.frm.length A.cf)) (.slice A.aw t.ways.length A.cw)) (.slice A.as_ t.stay.length A.cs)) (.slice A.al t.light.length A.cl))⟩
end
noncomputable def mor6C : Code := (Try.f10.body.bind (regionAt 6)).getD .skip
set_option maxRecDepth 100000 in
set_option maxHeartbeats 4000000 in
theorem mor6 {W1 : World} {t : Tr} {A : TrA} {bx : Nat} {Q : Exit → Act → World → Prop} (hq : W1.heap[bx]? = some (.cells (t.cells A) 25 (0, 0)))
    {s0 s1 s2 s3 s5 s6 s7 s8 s9 s10 s11 s12 s13 s14 s15 s16 s17 s18 s19 s20 s21 s22 s23 s24 s25 s26 s27 s28 s29 s30 s31 s32 s33 s34 s35 s36 s37 s38 s39 s40 s41 s42 s43 s44 s45 s46 s47 s48 s49 s50 s51 s52 s53 s54 s55 s56 s57 s58 s59 s60 s61 s62 s63 s64 s65 s66 s67 s68 s69 s70 s71 s72 s73 s74 s75 s76 s77 s78 s79 s80 s81 s82 s83 s84 s85 s86 s87 s88 s89 s90 s91 s92 s93 s94 s95 s96 s97 s98 s99 s100 s101 s102 s103 s104 s105 s106 s107 s108 s109 s110 s111 s112 s113 s114 s115 s116 s117 s118 s119 s120 s121 s122 s123 s124 s125 s126 s127 s128 s129 s130 s131 s132 s133 s134 s135 s136 s137 s138 s139 s140 s141 s142 s143 s144 s145 s146 s147 s148 s149 s150 s151 s152 s153 s154 s155 s156 s157 s158 s159 s160 s161 s162 s163 s164 s165 s166 s167 s168 s169 s170 s171 s172 s173 s174 s175 s176 s177 s178 s179 s180 s181 s182 s183 s184 s185 s186 s187 s188 s189 s190 s191 s192 s193 s194 s195 s196 s197 s198 s199 s200 s201 s202 s203 s204 s205 s206 s207 s208 s209 s210 s211 s212 s213 s214 s215 s216 s217 s218 s219 s220 s221 s222 s223 s224 s225 s226 s227 s228 s229 s230 s231 s232 s233 s234 s235 s236 s237 s238 s239 s240 s241 s242 s243 s244 s245 s246 s247 s248 s249 s250 s251 s252 s253 s254 s255 s256 s257 s258 s259 s260 s261 s262 s263 s264 s265 s266 s267 s268 s269 s270 s271 s272 s273 s274 s275 s276 : Value} {dd : List Deferred}
    (hQ : ∀ (x62 x63 x64 x12 x13 x14 : Value) (w' : World), Below W1.heap.size W1 w' → x62 = t.v A → x63 = t.v A → x64 = t.v A → (∃ bq : Nat, x12 = .pointer (some ⟨bq, 0, none⟩) ∧ W1.heap.size ≤ bq ∧ w'.heap[bq]? = some (.cells (t.cells A) 25 (0, 0))) → (∃ bq : Nat, x13 = .pointer (some ⟨bq, 0, none⟩) ∧ W1.heap.size ≤ bq ∧ w'.heap[bq]? = some (.cells (t.cells A) 25 (0, 0))) → (∃ bq : Nat, x14 = .pointer (some ⟨bq, 0, none⟩) ∧ W1.heap.size ≤ bq ∧ w'.heap[bq]? = some (.cells (t.cells A) 25 (0, 0))) → x12 ≠ x13 → x12 ≠ x14 → x13 ≠ x14 → Q .normal { tmps := #[s0, s1, s2, s3, .pointer (some ⟨bx, 0, none⟩), s5, s6, s7, s8, s9, s10, s11, x12, x13, x14, s15, s16, s17, s18, s19, s20, s21, s22, s23, s24, s25, s26, s27, s28, s29, s30, s31, s32, s33, s34, s35, s36, s37, s38, s39, s40, s41, s42, s43, s44, s45, s46, s47, s48, s49, s50, s51, s52, s53, s54, s55, s56, s57, s58, s59, s60, s61, x62, x63, x64, s65, s66, s67, s68, s69, s70, s71, s72, s73, s74, s75, s76, s77, s78, s79, s80, s81, s82, s83, s84, s85, s86, s87, s88, s89, s90, s91, s92, s93, s94, s95, s96, s97, s98, s99, s100, s101, s102, s103, s104, s105, s106, s107, s108, s109, s110, s111, s112, s113, s114, s115, s116, s117, s118, s119, s120, s121, s122, s123, s124, s125, s126, s127, s128, s129, s130, s131, s132, s133, s134, s135, s136, s137, s138, s139, s140, s141, s142, s143, s144, s145, s146, s147, s148, s149, s150, s151, s152, s153, s154, s155, s156, s157, s158, s159, s160, s161, s162, s163, s164, s165, s166, s167, s168, s169, s170, s171, s172, s173, s174, s175, s176, s177, s178, s179, s180, s181, s182, s183, s184, s185, s186, s187, s188, s189, s190, s191, s192, s193, s194, s195, s196, s197, s198, s199, s200, s201, s202, s203, s204, s205, s206, s207, s208, s209, s210, s211, s212, s213, s214, s215, s216, s217, s218, s219, s220, s221, s222, s223, s224, s225, s226, s227, s228, s229, s230, s231, s232, s233, s234, s235, s236, s237, s238, s239, s240, s241, s242, s243, s244, s245, s246, s247, s248, s249, s250, s251, s252, s253, s254, s255, s256, s257, s258, s259, s260, s261, s262, s263, s264, s265, s266, s267, s268, s269, s270, s271, s272, s273, s274, s275, s276], defers := dd } w') :
    Code.wp Try.prog mor6C Q { tmps := #[s0, s1, s2, s3, .pointer (some ⟨bx, 0, none⟩), s5, s6, s7, s8, s9, s10, s11, s12, s13, s14, s15, s16, s17, s18, s19, s20, s21, s22, s23, s24, s25, s26, s27, s28, s29, s30, s31, s32, s33, s34, s35, s36, s37, s38, s39, s40, s41, s42, s43, s44, s45, s46, s47, s48, s49, s50, s51, s52, s53, s54, s55, s56, s57, s58, s59, s60, s61, s62, s63, s64, s65, s66, s67, s68, s69, s70, s71, s72, s73, s74, s75, s76, s77, s78, s79, s80, s81, s82, s83, s84, s85, s86, s87, s88, s89, s90, s91, s92, s93, s94, s95, s96, s97, s98, s99, s100, s101, s102, s103, s104, s105, s106, s107, s108, s109, s110, s111, s112, s113, s114, s115, s116, s117, s118, s119, s120, s121, s122, s123, s124, s125, s126, s127, s128, s129, s130, s131, s132, s133, s134, s135, s136, s137, s138, s139, s140, s141, s142, s143, s144, s145, s146, s147, s148, s149, s150, s151, s152, s153, s154, s155, s156, s157, s158, s159, s160, s161, s162, s163, s164, s165, s166, s167, s168, s169, s170, s171, s172, s173, s174, s175, s176, s177, s178, s179, s180, s181, s182, s183, s184, s185, s186, s187, s188, s189, s190, s191, s192, s193, s194, s195, s196, s197, s198, s199, s200, s201, s202, s203, s204, s205, s206, s207, s208, s209, s210, s211, s212, s213, s214, s215, s216, s217, s218, s219, s220, s221, s222, s223, s224, s225, s226, s227, s228, s229, s230, s231, s232, s233, s234, s235, s236, s237, s238, s239, s240, s241, s242, s243, s244, s245, s246, s247, s248, s249, s250, s251, s252, s253, s254, s255, s256, s257, s258, s259, s260, s261, s262, s263, s264, s265, s266, s267, s268, s269, s270, s271, s272, s273, s274, s275, s276], defers := dd } W1 := by
  have HQ := Lib.hid hQ
  clear hQ
  conv => arg 2; whnf
  refine wp_region_inv' mixed (by kernel_rfl) (fun d_ a_ w' => ∃ x62 x63 x64 x12 x13 x14, a_ = { tmps := #[s0, s1, s2, s3, .pointer (some ⟨bx, 0, none⟩), s5, s6, s7, s8, s9, s10, s11, x12, x13, x14, s15, s16, s17, s18, s19, s20, s21, s22, s23, s24, s25, s26, s27, s28, s29, s30, s31, s32, s33, s34, s35, s36, s37, s38, s39, s40, s41, s42, s43, s44, s45, s46, s47, s48, s49, s50, s51, s52, s53, s54, s55, s56, s57, s58, s59, s60, s61, x62, x63, x64, s65, s66, s67, s68, s69, s70, s71, s72, s73, s74, s75, s76, s77, s78, s79, s80, s81, s82, s83, s84, s85, s86, s87, s88, s89, s90, s91, s92, s93, s94, s95, s96, s97, s98, s99, s100, s101, s102, s103, s104, s105, s106, s107, s108, s109, s110, s111, s112, s113, s114, s115, s116, s117, s118, s119, s120, s121, s122, s123, s124, s125, s126, s127, s128, s129, s130, s131, s132, s133, s134, s135, s136, s137, s138, s139, s140, s141, s142, s143, s144, s145, s146, s147, s148, s149, s150, s151, s152, s153, s154, s155, s156, s157, s158, s159, s160, s161, s162, s163, s164, s165, s166, s167, s168, s169, s170, s171, s172, s173, s174, s175, s176, s177, s178, s179, s180, s181, s182, s183, s184, s185, s186, s187, s188, s189, s190, s191, s192, s193, s194, s195, s196, s197, s198, s199, s200, s201, s202, s203, s204, s205, s206, s207, s208, s209, s210, s211, s212, s213, s214, s215, s216, s217, s218, s219, s220, s221, s222, s223, s224, s225, s226, s227, s228, s229, s230, s231, s232, s233, s234, s235, s236, s237, s238, s239, s240, s241, s242, s243, s244, s245, s246, s247, s248, s249, s250, s251, s252, s253, s254, s255, s256, s257, s258, s259, s260, s261, s262, s263, s264, s265, s266, s267, s268, s269, s270, s271, s272, s273, s274, s275, s276], defers := dd } ∧ mor6F W1 t A bx d_ x62 x63 x64 x12 x13 x14 w') ?_ ?_ ?_
  · refine ⟨s62, s63, s64, s12, s13, s14, rfl, (Below.refl _ W1).drew, ?_, ?_, ?_, ?_, ?_, ?_, ?_, ?_, ?_, ?_, ?_, ?_⟩ <;> (intro h; cases h)
  · refine ⟨?_, ?_, ?_, ?_, ?_, ?_, ?_, ?_, ?_, trivial⟩
    all_goals
      rintro d_ a_ w1 K hd_ hdep ⟨x62, x63, x64, x12, x13, x14, rfl, F⟩ HK
      simp [Region.binds] at hdep
      have hb1 := F.same
    · obtain ⟨k0, k1, k2, k3, k4⟩ := tr_cells ((F.same.block _ (heap_lt hq)).trans hq)
      have HF := Lib.hid F.s0
      clear F
      skip
      go_simp
      exact HK.out _ _ ⟨_, _, _, _, _, _, rfl, HF.out⟩
    · obtain ⟨k0, k1, k2, k3, k4⟩ := tr_cells ((F.same.block _ (heap_lt hq)).trans hq)
      have HF := Lib.hid F.s1
      clear F
      skip
      go_simp
      exact HK.out _ _ ⟨_, _, _, _, _, _, rfl, HF.out⟩
    · obtain ⟨k0, k1, k2, k3, k4⟩ := tr_cells ((F.same.block _ (heap_lt hq)).trans hq)
      have HF := Lib.hid F.s2
      clear F
      skip
      go_simp
      exact HK.out _ _ ⟨_, _, _, _, _, _, rfl, HF.out⟩
    · have n6 : d_ 6 = false := by
        cases e : d_ 6 with
        | false => rfl
        | true => have h2 := F.o6 e; exact absurd (show d_ 3 = false from hd_) (by rw [h2]; simp)
      have HF := Lib.hid (F.s3 n6)
      clear F hb1
      go_simp
      exact HK.out _ _ ⟨_, _, _, _, _, _, rfl, HF.out⟩
    · have n7 : d_ 7 = false := by
        cases e : d_ 7 with
        | false => rfl
        | true => have h2 := F.o7 e; exact absurd (show d_ 4 = false from hd_) (by rw [h2]; simp)
      have HF := Lib.hid (F.s4 n7)
      clear F hb1
      go_simp
      exact HK.out _ _ ⟨_, _, _, _, _, _, rfl, HF.out⟩
    · have n8 : d_ 8 = false := by
        cases e : d_ 8 with
        | false => rfl
        | true => have h2 := F.o8 e; exact absurd (show d_ 5 = false from hd_) (by rw [h2]; simp)
      have HF := Lib.hid (F.s5 n8)
      clear F hb1
      go_simp
      exact HK.out _ _ ⟨_, _, _, _, _, _, rfl, HF.out⟩
    · obtain rfl := F.f0 (by simp [hdep])
      have ha3 : d_ 3 = true := by simp [hdep]
      obtain ⟨bq, hx, hWb, hh⟩ := F.f3 ha3
      have hds : d_ 6 = false := hd_
      rw [hds] at hh
      have hh' : w1.heap[bq]? = some (.cells #[.int .i64 0, .slice none 0 0, .slice none 0 0, .slice none 0 0, .slice none 0 0] 25 (0, 0)) := hh
      have z0 : ∀ k, w1.frozen? ⟨bq, k, none⟩ = false := fun k => frozen_of_heap hh'
      have zc0 : ∃ v, w1.cell? ⟨bq, 0, none⟩ = some v := ⟨_, by rw [cell_of_heap hh']; rfl⟩
      obtain ⟨vc0, zc0⟩ := zc0
      have zc1 : ∃ v, w1.cell? ⟨bq, 1, none⟩ = some v := ⟨_, by rw [cell_of_heap hh']; rfl⟩
      obtain ⟨vc1, zc1⟩ := zc1
      have zc2 : ∃ v, w1.cell? ⟨bq, 2, none⟩ = some v := ⟨_, by rw [cell_of_heap hh']; rfl⟩
      obtain ⟨vc2, zc2⟩ := zc2
      have zc3 : ∃ v, w1.cell? ⟨bq, 3, none⟩ = some v := ⟨_, by rw [cell_of_heap hh']; rfl⟩
      obtain ⟨vc3, zc3⟩ := zc3
      have zc4 : ∃ v, w1.cell? ⟨bq, 4, none⟩ = some v := ⟨_, by rw [cell_of_heap hh']; rfl⟩
      obtain ⟨vc4, zc4⟩ := zc4
      have HF := Lib.hid (F.s6 ha3 hWb hx hh')
      clear F hh hh' hb1
      subst hx
      go_simp
      exact HK.out _ _ ⟨_, _, _, _, _, _, rfl, HF.out⟩
    · obtain rfl := F.f1 (by simp [hdep])
      have ha4 : d_ 4 = true := by simp [hdep]
      obtain ⟨bq, hx, hWb, hh⟩ := F.f4 ha4
      have hds : d_ 7 = false := hd_
      rw [hds] at hh
      have hh' : w1.heap[bq]? = some (.cells #[.int .i64 0, .slice none 0 0, .slice none 0 0, .slice none 0 0, .slice none 0 0] 25 (0, 0)) := hh
      have z0 : ∀ k, w1.frozen? ⟨bq, k, none⟩ = false := fun k => frozen_of_heap hh'
      have zc0 : ∃ v, w1.cell? ⟨bq, 0, none⟩ = some v := ⟨_, by rw [cell_of_heap hh']; rfl⟩
      obtain ⟨vc0, zc0⟩ := zc0
      have zc1 : ∃ v, w1.cell? ⟨bq, 1, none⟩ = some v := ⟨_, by rw [cell_of_heap hh']; rfl⟩
      obtain ⟨vc1, zc1⟩ := zc1
      have zc2 : ∃ v, w1.cell? ⟨bq, 2, none⟩ = some v := ⟨_, by rw [cell_of_heap hh']; rfl⟩
      obtain ⟨vc2, zc2⟩ := zc2
      have zc3 : ∃ v, w1.cell? ⟨bq, 3, none⟩ = some v := ⟨_, by rw [cell_of_heap hh']; rfl⟩
      obtain ⟨vc3, zc3⟩ := zc3
      have zc4 : ∃ v, w1.cell? ⟨bq, 4, none⟩ = some v := ⟨_, by rw [cell_of_heap hh']; rfl⟩
      obtain ⟨vc4, zc4⟩ := zc4
      have HF := Lib.hid (F.s7 ha4 hWb hx hh')
      clear F hh hh' hb1
      subst hx
      go_simp
      exact HK.out _ _ ⟨_, _, _, _, _, _, rfl, HF.out⟩
    · obtain rfl := F.f2 (by simp [hdep])
      have ha5 : d_ 5 = true := by simp [hdep]
      obtain ⟨bq, hx, hWb, hh⟩ := F.f5 ha5
      have hds : d_ 8 = false := hd_
      rw [hds] at hh
      have hh' : w1.heap[bq]? = some (.cells #[.int .i64 0, .slice none 0 0, .slice none 0 0, .slice none 0 0, .slice none 0 0] 25 (0, 0)) := hh
      have z0 : ∀ k, w1.frozen? ⟨bq, k, none⟩ = false := fun k => frozen_of_heap hh'
      have zc0 : ∃ v, w1.cell? ⟨bq, 0, none⟩ = some v := ⟨_, by rw [cell_of_heap hh']; rfl⟩
      obtain ⟨vc0, zc0⟩ := zc0
      have zc1 : ∃ v, w1.cell? ⟨bq, 1, none⟩ = some v := ⟨_, by rw [cell_of_heap hh']; rfl⟩
      obtain ⟨vc1, zc1⟩ := zc1
      have zc2 : ∃ v, w1.cell? ⟨bq, 2, none⟩ = some v := ⟨_, by rw [cell_of_heap hh']; rfl⟩
      obtain ⟨vc2, zc2⟩ := zc2
      have zc3 : ∃ v, w1.cell? ⟨bq, 3, none⟩ = some v := ⟨_, by rw [cell_of_heap hh']; rfl⟩
      obtain ⟨vc3, zc3⟩ := zc3
      have zc4 : ∃ v, w1.cell? ⟨bq, 4, none⟩ = some v := ⟨_, by rw [cell_of_heap hh']; rfl⟩
      obtain ⟨vc4, zc4⟩ := zc4
      have HF := Lib.hid (F.s8 ha5 hWb hx hh')
      clear F hh hh' hb1
      subst hx
      go_simp
      exact HK.out _ _ ⟨_, _, _, _, _, _, rfl, HF.out⟩
  · rintro d_ a_ w1 hall ⟨x62, x63, x64, x12, x13, x14, rfl, F⟩
    have hall' : ∀ k, k < 9 → d_ k = true := hall
    have E3 := F.f3 (hall' 3 (by decide))
    rw [hall' 6 (by decide)] at E3
    have E4 := F.f4 (hall' 4 (by decide))
    rw [hall' 7 (by decide)] at E4
    have E5 := F.f5 (hall' 5 (by decide))
    rw [hall' 8 (by decide)] at E5
    exact HQ.out _ _ _ _ _ _ w1 F.same (F.f0 (hall' 0 (by decide))) (F.f1 (hall' 1 (by decide))) (F.f2 (hall' 2 (by decide))) E3 E4 E5 (F.n3_4 (hall' 3 (by decide)) (hall' 4 (by decide))) (F.n3_5 (hall' 3 (by decide)) (hall' 5 (by decide))) (F.n4_5 (hall' 4 (by decide)) (hall' 5 (by decide)))

structure mor7F (t : Tr) (A : TrA) (bx : Nat) (b7 : Nat) (b12 : Nat) (k : Nat) (S0 : World → Prop) (S1 : Nat × Nat → World → Prop) (S2 : Nat × Nat → Nat × Nat → World → Prop) (S3 : Nat × Nat → Nat × Nat → World → Prop) (S4 : Nat × Nat → Nat × Nat → World → Prop) (d : Nat → Bool) (x65 x66 x67 x68 x69 x70 x71 x72 x73 x74 x75 x76 : Value) (r1 : Nat × Nat) (r2 : Nat × Nat) (w : World) : Prop where
  q2 : d 2 = true → d 1 = true
  q4 : d 4 = true → d 0 = true ∧ d 2 = true ∧ d 3 = true
  q7 : d 7 = true → d 6 = true
  q9 : d 9 = true → d 4 = true ∧ d 5 = true ∧ d 7 = true ∧ d 8 = true
  q10 : d 10 = true → d 0 = true ∧ d 1 = true ∧ d 2 = true ∧ d 3 = true ∧ d 4 = true
  q11 : d 11 = true → d 0 = true ∧ d 1 = true ∧ d 2 = true ∧ d 3 = true ∧ d 4 = true ∧ d 9 = true ∧ d 10 = true
  q12 : d 12 = true → d 0 = true ∧ d 1 = true ∧ d 2 = true ∧ d 3 = true ∧ d 4 = true ∧ d 5 = true ∧ d 6 = true ∧ d 7 = true ∧ d 8 = true ∧ d 9 = true ∧ d 10 = true ∧ d 11 = true
  q13 : d 13 = true → d 0 = true ∧ d 1 = true ∧ d 2 = true ∧ d 3 = true ∧ d 4 = true ∧ d 5 = true ∧ d 6 = true ∧ d 7 = true ∧ d 8 = true ∧ d 9 = true ∧ d 10 = true ∧ d 11 = true ∧ d 12 = true
  f0 : d 0 = true → x65 = .func (.func 40) #[] #[.pointer (some ⟨b7, 0, none⟩)]
  f1 : d 1 = true → x66 = .pointer (some ⟨bx, 3, none⟩)
  f2 : d 2 = true → x67 = .slice A.as_ t.stay.length A.cs
  f3 : d 3 = true → x68 = .int .i64 (k : Int)
  f4 : d 4 = true → x69 = .slice (some ⟨r1.1, 0, none⟩) t.stay.length r1.2
  f5 : d 5 = true → x70 = .func (.func 40) #[] #[.pointer (some ⟨b7, 0, none⟩)]
  f6 : d 6 = true → x71 = .pointer (some ⟨bx, 1, none⟩)
  f7 : d 7 = true → x72 = .slice A.af t.frm.length A.cf
  f8 : d 8 = true → x73 = .int .i64 (k : Int)
  f9 : d 9 = true → x74 = .slice (some ⟨r2.1, 0, none⟩) t.frm.length r2.2
  f10 : d 10 = true → x75 = .pointer (some ⟨b12, 3, none⟩)
  f12 : d 12 = true → x76 = .pointer (some ⟨b12, 1, none⟩)
  st0 : d 4 = false → S0 w
  st1 : d 4 = true → d 9 = false → S1 r1 w
  st2 : d 9 = true → d 11 = false → S2 r1 r2 w
  st3 : d 11 = true → d 13 = false → S3 r1 r2 w
  st4 : d 13 = true → S4 r1 r2 w
noncomputable def mor7C : Code := (Try.f10.body.bind (regionAt 7)).getD .skip
set_option maxRecDepth 100000 in
set_option maxHeartbeats 4000000 in
theorem mor7 {t : Tr} {A : TrA} {bx : Nat} {b7 : Nat} {b12 : Nat} {k : Nat} {S0 : World → Prop} {S1 : Nat × Nat → World → Prop} {S2 : Nat × Nat → Nat × Nat → World → Prop} {S3 : Nat × Nat → Nat × Nat → World → Prop} {S4 : Nat × Nat → Nat × Nat → World → Prop} {Q : Exit → Act → World → Prop} {W1 : World} (h0 : S0 W1.drew)
    (kl2 : Hid (∀ (w : World), (S0 w) → w.cell? ⟨bx, 3, none⟩ = some (.slice A.as_ t.stay.length A.cs)))
    (kc4 : Hid (∀ (w : World), S0 w → Calls Try.prog 40 #[.slice A.as_ t.stay.length A.cs, .int .i64 (k : Int), .pointer (some ⟨b7, 0, none⟩)] w fun e w' => ∃ r1 : Nat × Nat, e = .returned (.slice (some ⟨r1.1, 0, none⟩) t.stay.length r1.2) ∧ S1 r1 w'))
    (kl7 : Hid (∀ (r1 : Nat × Nat) (w : World), (S0 w ∨ S1 r1 w) → w.cell? ⟨bx, 1, none⟩ = some (.slice A.af t.frm.length A.cf)))
    (kc9 : Hid (∀ (r1 : Nat × Nat) (w : World), S1 r1 w → Calls Try.prog 40 #[.slice A.af t.frm.length A.cf, .int .i64 (k : Int), .pointer (some ⟨b7, 0, none⟩)] w fun e w' => ∃ r2 : Nat × Nat, e = .returned (.slice (some ⟨r2.1, 0, none⟩) t.frm.length r2.2) ∧ S2 r1 r2 w'))
    (kc11 : Hid (∀ (r1 : Nat × Nat) (r2 : Nat × Nat) (w : World), S2 r1 r2 w → (∃ u, w.cell? ⟨b12, 3, none⟩ = some u) ∧ w.frozen? ⟨b12, 3, none⟩ = false ∧ S3 r1 r2 (w.setCell ⟨b12, 3, none⟩ (.slice (some ⟨r1.1, 0, none⟩) t.stay.length r1.2))))
    (kc13 : Hid (∀ (r1 : Nat × Nat) (r2 : Nat × Nat) (w : World), S3 r1 r2 w → (∃ u, w.cell? ⟨b12, 1, none⟩ = some u) ∧ w.frozen? ⟨b12, 1, none⟩ = false ∧ S4 r1 r2 (w.setCell ⟨b12, 1, none⟩ (.slice (some ⟨r2.1, 0, none⟩) t.frm.length r2.2))))
    {s0 s1 s2 s3 s5 s6 s7 s8 s9 s13 s14 s15 s16 s17 s18 s19 s20 s21 s22 s23 s24 s25 s26 s27 s28 s29 s30 s31 s32 s33 s34 s35 s36 s37 s38 s39 s40 s41 s42 s43 s44 s45 s46 s47 s48 s49 s50 s51 s52 s53 s54 s55 s56 s57 s58 s59 s60 s61 s62 s63 s64 s65 s66 s67 s68 s69 s70 s71 s72 s73 s74 s75 s76 s77 s78 s79 s80 s81 s82 s83 s84 s85 s86 s87 s88 s89 s90 s91 s92 s93 s94 s95 s96 s97 s98 s99 s100 s101 s102 s103 s104 s105 s106 s107 s108 s109 s110 s111 s112 s113 s114 s115 s116 s117 s118 s119 s120 s121 s122 s123 s124 s125 s126 s127 s128 s129 s130 s131 s132 s133 s134 s135 s136 s137 s138 s139 s140 s141 s142 s143 s144 s145 s146 s147 s148 s149 s150 s151 s152 s153 s154 s155 s156 s157 s158 s159 s160 s161 s162 s163 s164 s165 s166 s167 s168 s169 s170 s171 s172 s173 s174 s175 s176 s177 s178 s179 s180 s181 s182 s183 s184 s185 s186 s187 s188 s189 s190 s191 s192 s193 s194 s195 s196 s197 s198 s199 s200 s201 s202 s203 s204 s205 s206 s207 s208 s209 s210 s211 s212 s213 s214 s215 s216 s217 s218 s219 s220 s221 s222 s223 s224 s225 s226 s227 s228 s229 s230 s231 s232 s233 s234 s235 s236 s237 s238 s239 s240 s241 s242 s243 s244 s245 s246 s247 s248 s249 s250 s251 s252 s253 s254 s255 s256 s257 s258 s259 s260 s261 s262 s263 s264 s265 s266 s267 s268 s269 s270 s271 s272 s273 s274 s275 s276 : Value} {dd : List Deferred}
    (hQ : ∀ (r1 : Nat × Nat) (r2 : Nat × Nat) (w' : World), S4 r1 r2 w' → Q .normal { tmps := #[s0, s1, s2, s3, .pointer (some ⟨bx, 0, none⟩), s5, s6, s7, s8, s9, .int .i64 (k : Int), .func (.func 40) #[] #[.pointer (some ⟨b7, 0, none⟩)], .pointer (some ⟨b12, 0, none⟩), s13, s14, s15, s16, s17, s18, s19, s20, s21, s22, s23, s24, s25, s26, s27, s28, s29, s30, s31, s32, s33, s34, s35, s36, s37, s38, s39, s40, s41, s42, s43, s44, s45, s46, s47, s48, s49, s50, s51, s52, s53, s54, s55, s56, s57, s58, s59, s60, s61, s62, s63, s64, .func (.func 40) #[] #[.pointer (some ⟨b7, 0, none⟩)], .pointer (some ⟨bx, 3, none⟩), .slice A.as_ t.stay.length A.cs, .int .i64 (k : Int), .slice (some ⟨r1.1, 0, none⟩) t.stay.length r1.2, .func (.func 40) #[] #[.pointer (some ⟨b7, 0, none⟩)], .pointer (some ⟨bx, 1, none⟩), .slice A.af t.frm.length A.cf, .int .i64 (k : Int), .slice (some ⟨r2.1, 0, none⟩) t.frm.length r2.2, .pointer (some ⟨b12, 3, none⟩), .pointer (some ⟨b12, 1, none⟩), s77, s78, s79, s80, s81, s82, s83, s84, s85, s86, s87, s88, s89, s90, s91, s92, s93, s94, s95, s96, s97, s98, s99, s100, s101, s102, s103, s104, s105, s106, s107, s108, s109, s110, s111, s112, s113, s114, s115, s116, s117, s118, s119, s120, s121, s122, s123, s124, s125, s126, s127, s128, s129, s130, s131, s132, s133, s134, s135, s136, s137, s138, s139, s140, s141, s142, s143, s144, s145, s146, s147, s148, s149, s150, s151, s152, s153, s154, s155, s156, s157, s158, s159, s160, s161, s162, s163, s164, s165, s166, s167, s168, s169, s170, s171, s172, s173, s174, s175, s176, s177, s178, s179, s180, s181, s182, s183, s184, s185, s186, s187, s188, s189, s190, s191, s192, s193, s194, s195, s196, s197, s198, s199, s200, s201, s202, s203, s204, s205, s206, s207, s208, s209, s210, s211, s212, s213, s214, s215, s216, s217, s218, s219, s220, s221, s222, s223, s224, s225, s226, s227, s228, s229, s230, s231, s232, s233, s234, s235, s236, s237, s238, s239, s240, s241, s242, s243, s244, s245, s246, s247, s248, s249, s250, s251, s252, s253, s254, s255, s256, s257, s258, s259, s260, s261, s262, s263, s264, s265, s266, s267, s268, s269, s270, s271, s272, s273, s274, s275, s276], defers := dd } w') :
    Code.wpIn (wideAt none) 0 Try.prog mor7C Q { tmps := #[s0, s1, s2, s3, .pointer (some ⟨bx, 0, none⟩), s5, s6, s7, s8, s9, .int .i64 (k : Int), .func (.func 40) #[] #[.pointer (some ⟨b7, 0, none⟩)], .pointer (some ⟨b12, 0, none⟩), s13, s14, s15, s16, s17, s18, s19, s20, s21, s22, s23, s24, s25, s26, s27, s28, s29, s30, s31, s32, s33, s34, s35, s36, s37, s38, s39, s40, s41, s42, s43, s44, s45, s46, s47, s48, s49, s50, s51, s52, s53, s54, s55, s56, s57, s58, s59, s60, s61, s62, s63, s64, s65, s66, s67, s68, s69, s70, s71, s72, s73, s74, s75, s76, s77, s78, s79, s80, s81, s82, s83, s84, s85, s86, s87, s88, s89, s90, s91, s92, s93, s94, s95, s96, s97, s98, s99, s100, s101, s102, s103, s104, s105, s106, s107, s108, s109, s110, s111, s112, s113, s114, s115, s116, s117, s118, s119, s120, s121, s122, s123, s124, s125, s126, s127, s128, s129, s130, s131, s132, s133, s134, s135, s136, s137, s138, s139, s140, s141, s142, s143, s144, s145, s146, s147, s148, s149, s150, s151, s152, s153, s154, s155, s156, s157, s158, s159, s160, s161, s162, s163, s164, s165, s166, s167, s168, s169, s170, s171, s172, s173, s174, s175, s176, s177, s178, s179, s180, s181, s182, s183, s184, s185, s186, s187, s188, s189, s190, s191, s192, s193, s194, s195, s196, s197, s198, s199, s200, s201, s202, s203, s204, s205, s206, s207, s208, s209, s210, s211, s212, s213, s214, s215, s216, s217, s218, s219, s220, s221, s222, s223, s224, s225, s226, s227, s228, s229, s230, s231, s232, s233, s234, s235, s236, s237, s238, s239, s240, s241, s242, s243, s244, s245, s246, s247, s248, s249, s250, s251, s252, s253, s254, s255, s256, s257, s258, s259, s260, s261, s262, s263, s264, s265, s266, s267, s268, s269, s270, s271, s272, s273, s274, s275, s276], defers := dd } W1 := by
  have HQ := Lib.hid hQ
  clear hQ
  conv => arg 4; whnf
  refine wpIn_region_invG mixed (by kernel_rfl) (fun d_ a_ w' => ∃ (x65 : Value) (x66 : Value) (x67 : Value) (x68 : Value) (x69 : Value) (x70 : Value) (x71 : Value) (x72 : Value) (x73 : Value) (x74 : Value) (x75 : Value) (x76 : Value) (r1 : Nat × Nat) (r2 : Nat × Nat), a_ = { tmps := #[s0, s1, s2, s3, .pointer (some ⟨bx, 0, none⟩), s5, s6, s7, s8, s9, .int .i64 (k : Int), .func (.func 40) #[] #[.pointer (some ⟨b7, 0, none⟩)], .pointer (some ⟨b12, 0, none⟩), s13, s14, s15, s16, s17, s18, s19, s20, s21, s22, s23, s24, s25, s26, s27, s28, s29, s30, s31, s32, s33, s34, s35, s36, s37, s38, s39, s40, s41, s42, s43, s44, s45, s46, s47, s48, s49, s50, s51, s52, s53, s54, s55, s56, s57, s58, s59, s60, s61, s62, s63, s64, x65, x66, x67, x68, x69, x70, x71, x72, x73, x74, x75, x76, s77, s78, s79, s80, s81, s82, s83, s84, s85, s86, s87, s88, s89, s90, s91, s92, s93, s94, s95, s96, s97, s98, s99, s100, s101, s102, s103, s104, s105, s106, s107, s108, s109, s110, s111, s112, s113, s114, s115, s116, s117, s118, s119, s120, s121, s122, s123, s124, s125, s126, s127, s128, s129, s130, s131, s132, s133, s134, s135, s136, s137, s138, s139, s140, s141, s142, s143, s144, s145, s146, s147, s148, s149, s150, s151, s152, s153, s154, s155, s156, s157, s158, s159, s160, s161, s162, s163, s164, s165, s166, s167, s168, s169, s170, s171, s172, s173, s174, s175, s176, s177, s178, s179, s180, s181, s182, s183, s184, s185, s186, s187, s188, s189, s190, s191, s192, s193, s194, s195, s196, s197, s198, s199, s200, s201, s202, s203, s204, s205, s206, s207, s208, s209, s210, s211, s212, s213, s214, s215, s216, s217, s218, s219, s220, s221, s222, s223, s224, s225, s226, s227, s228, s229, s230, s231, s232, s233, s234, s235, s236, s237, s238, s239, s240, s241, s242, s243, s244, s245, s246, s247, s248, s249, s250, s251, s252, s253, s254, s255, s256, s257, s258, s259, s260, s261, s262, s263, s264, s265, s266, s267, s268, s269, s270, s271, s272, s273, s274, s275, s276], defers := dd } ∧ mor7F t A bx b7 b12 k S0 S1 S2 S3 S4 d_ x65 x66 x67 x68 x69 x70 x71 x72 x73 x74 x75 x76 r1 r2 w') ?_ ?_ ?_
  · refine ⟨s65, s66, s67, s68, s69, s70, s71, s72, s73, s74, s75, s76, default, default, rfl, ?_⟩
    constructor <;> first | rfl | (intro _; rfl) | (intro h; cases h; done) | (intro _; exact h0) | exact h0
  · refine ⟨?_, ?_, ?_, ?_, ?_, ?_, ?_, ?_, ?_, ?_, ?_, ?_, ?_, ?_, trivial⟩
    all_goals
      rintro d_ a_ w1 K hd_ hdep ⟨x65, x66, x67, x68, x69, x70, x71, x72, x73, x74, x75, x76, r1, r2, rfl, F⟩ HK
      simp [Region.binds] at hdep
    · have HF : Hid (mor7F t A bx b7 b12 k S0 S1 S2 S3 S4 (upd d_ 0) (.func (.func 40) #[] #[.pointer (some ⟨b7, 0, none⟩)]) x66 x67 x68 x69 x70 x71 x72 x73 x74 x75 x76 r1 r2 w1) := ⟨F.q2, fun h => ⟨rfl, (F.q4 h).2.1, (F.q4 h).2.2⟩, F.q7, F.q9, fun h => ⟨rfl, (F.q10 h).2.1, (F.q10 h).2.2.1, (F.q10 h).2.2.2.1, (F.q10 h).2.2.2.2⟩, fun h => ⟨rfl, (F.q11 h).2.1, (F.q11 h).2.2.1, (F.q11 h).2.2.2.1, (F.q11 h).2.2.2.2.1, (F.q11 h).2.2.2.2.2.1, (F.q11 h).2.2.2.2.2.2⟩, fun h => ⟨rfl, (F.q12 h).2.1, (F.q12 h).2.2.1, (F.q12 h).2.2.2.1, (F.q12 h).2.2.2.2.1, (F.q12 h).2.2.2.2.2.1, (F.q12 h).2.2.2.2.2.2.1, (F.q12 h).2.2.2.2.2.2.2.1, (F.q12 h).2.2.2.2.2.2.2.2.1, (F.q12 h).2.2.2.2.2.2.2.2.2.1, (F.q12 h).2.2.2.2.2.2.2.2.2.2.1, (F.q12 h).2.2.2.2.2.2.2.2.2.2.2⟩, fun h => ⟨rfl, (F.q13 h).2.1, (F.q13 h).2.2.1, (F.q13 h).2.2.2.1, (F.q13 h).2.2.2.2.1, (F.q13 h).2.2.2.2.2.1, (F.q13 h).2.2.2.2.2.2.1, (F.q13 h).2.2.2.2.2.2.2.1, (F.q13 h).2.2.2.2.2.2.2.2.1, (F.q13 h).2.2.2.2.2.2.2.2.2.1, (F.q13 h).2.2.2.2.2.2.2.2.2.2.1, (F.q13 h).2.2.2.2.2.2.2.2.2.2.2.1, (F.q13 h).2.2.2.2.2.2.2.2.2.2.2.2⟩, fun _ => rfl, F.f1, F.f2, F.f3, F.f4, F.f5, F.f6, F.f7, F.f8, F.f9, F.f10, F.f12, F.st0, F.st1, F.st2, F.st3, F.st4⟩
      clear F
      go_simp
      exact HK.out _ _ ⟨_, _, _, _, _, _, _, _, _, _, _, _, _, _, rfl, HF.out⟩
    · have HF : Hid (mor7F t A bx b7 b12 k S0 S1 S2 S3 S4 (upd d_ 1) x65 (.pointer (some ⟨bx, 3, none⟩)) x67 x68 x69 x70 x71 x72 x73 x74 x75 x76 r1 r2 w1) := ⟨fun h => rfl, F.q4, F.q7, F.q9, fun h => ⟨(F.q10 h).1, rfl, (F.q10 h).2.2.1, (F.q10 h).2.2.2.1, (F.q10 h).2.2.2.2⟩, fun h => ⟨(F.q11 h).1, rfl, (F.q11 h).2.2.1, (F.q11 h).2.2.2.1, (F.q11 h).2.2.2.2.1, (F.q11 h).2.2.2.2.2.1, (F.q11 h).2.2.2.2.2.2⟩, fun h => ⟨(F.q12 h).1, rfl, (F.q12 h).2.2.1, (F.q12 h).2.2.2.1, (F.q12 h).2.2.2.2.1, (F.q12 h).2.2.2.2.2.1, (F.q12 h).2.2.2.2.2.2.1, (F.q12 h).2.2.2.2.2.2.2.1, (F.q12 h).2.2.2.2.2.2.2.2.1, (F.q12 h).2.2.2.2.2.2.2.2.2.1, (F.q12 h).2.2.2.2.2.2.2.2.2.2.1, (F.q12 h).2.2.2.2.2.2.2.2.2.2.2⟩, fun h => ⟨(F.q13 h).1, rfl, (F.q13 h).2.2.1, (F.q13 h).2.2.2.1, (F.q13 h).2.2.2.2.1, (F.q13 h).2.2.2.2.2.1, (F.q13 h).2.2.2.2.2.2.1, (F.q13 h).2.2.2.2.2.2.2.1, (F.q13 h).2.2.2.2.2.2.2.2.1, (F.q13 h).2.2.2.2.2.2.2.2.2.1, (F.q13 h).2.2.2.2.2.2.2.2.2.2.1, (F.q13 h).2.2.2.2.2.2.2.2.2.2.2.1, (F.q13 h).2.2.2.2.2.2.2.2.2.2.2.2⟩, F.f0, fun _ => rfl, F.f2, F.f3, F.f4, F.f5, F.f6, F.f7, F.f8, F.f9, F.f10, F.f12, F.st0, F.st1, F.st2, F.st3, F.st4⟩
      clear F
      go_simp
      exact HK.out _ _ ⟨_, _, _, _, _, _, _, _, _, _, _, _, _, _, rfl, HF.out⟩
    · have hst : S0 w1 := by
        have n_ : d_ 4 = false := by
          cases e_ : d_ 4 with
          | false => rfl
          | true => have h2 := (F.q4 e_).2.1; rw [show d_ 2 = false from hd_] at h2; cases h2
        exact (F.st0 n_)
      have kk := kl2.out w1 hst
      clear hst
      obtain rfl := F.f1 (by simp [hdep])
      have HF : Hid (mor7F t A bx b7 b12 k S0 S1 S2 S3 S4 (upd d_ 2) x65 (.pointer (some ⟨bx, 3, none⟩)) (.slice A.as_ t.stay.length A.cs) x68 x69 x70 x71 x72 x73 x74 x75 x76 r1 r2 w1) := ⟨fun _ => (show _ from (by simp [hdep] : d_ 1 = true)), fun h => ⟨(F.q4 h).1, rfl, (F.q4 h).2.2⟩, F.q7, F.q9, fun h => ⟨(F.q10 h).1, (F.q10 h).2.1, rfl, (F.q10 h).2.2.2.1, (F.q10 h).2.2.2.2⟩, fun h => ⟨(F.q11 h).1, (F.q11 h).2.1, rfl, (F.q11 h).2.2.2.1, (F.q11 h).2.2.2.2.1, (F.q11 h).2.2.2.2.2.1, (F.q11 h).2.2.2.2.2.2⟩, fun h => ⟨(F.q12 h).1, (F.q12 h).2.1, rfl, (F.q12 h).2.2.2.1, (F.q12 h).2.2.2.2.1, (F.q12 h).2.2.2.2.2.1, (F.q12 h).2.2.2.2.2.2.1, (F.q12 h).2.2.2.2.2.2.2.1, (F.q12 h).2.2.2.2.2.2.2.2.1, (F.q12 h).2.2.2.2.2.2.2.2.2.1, (F.q12 h).2.2.2.2.2.2.2.2.2.2.1, (F.q12 h).2.2.2.2.2.2.2.2.2.2.2⟩, fun h => ⟨(F.q13 h).1, (F.q13 h).2.1, rfl, (F.q13 h).2.2.2.1, (F.q13 h).2.2.2.2.1, (F.q13 h).2.2.2.2.2.1, (F.q13 h).2.2.2.2.2.2.1, (F.q13 h).2.2.2.2.2.2.2.1, (F.q13 h).2.2.2.2.2.2.2.2.1, (F.q13 h).2.2.2.2.2.2.2.2.2.1, (F.q13 h).2.2.2.2.2.2.2.2.2.2.1, (F.q13 h).2.2.2.2.2.2.2.2.2.2.2.1, (F.q13 h).2.2.2.2.2.2.2.2.2.2.2.2⟩, F.f0, F.f1, fun _ => rfl, F.f3, F.f4, F.f5, F.f6, F.f7, F.f8, F.f9, F.f10, F.f12, F.st0, F.st1, F.st2, F.st3, F.st4⟩
      clear F
      go_simp
      exact HK.out _ _ ⟨_, _, _, _, _, _, _, _, _, _, _, _, _, _, rfl, HF.out⟩
    · have HF : Hid (mor7F t A bx b7 b12 k S0 S1 S2 S3 S4 (upd d_ 3) x65 x66 x67 (.int .i64 (k : Int)) x69 x70 x71 x72 x73 x74 x75 x76 r1 r2 w1) := ⟨F.q2, fun h => ⟨(F.q4 h).1, (F.q4 h).2.1, rfl⟩, F.q7, F.q9, fun h => ⟨(F.q10 h).1, (F.q10 h).2.1, (F.q10 h).2.2.1, rfl, (F.q10 h).2.2.2.2⟩, fun h => ⟨(F.q11 h).1, (F.q11 h).2.1, (F.q11 h).2.2.1, rfl, (F.q11 h).2.2.2.2.1, (F.q11 h).2.2.2.2.2.1, (F.q11 h).2.2.2.2.2.2⟩, fun h => ⟨(F.q12 h).1, (F.q12 h).2.1, (F.q12 h).2.2.1, rfl, (F.q12 h).2.2.2.2.1, (F.q12 h).2.2.2.2.2.1, (F.q12 h).2.2.2.2.2.2.1, (F.q12 h).2.2.2.2.2.2.2.1, (F.q12 h).2.2.2.2.2.2.2.2.1, (F.q12 h).2.2.2.2.2.2.2.2.2.1, (F.q12 h).2.2.2.2.2.2.2.2.2.2.1, (F.q12 h).2.2.2.2.2.2.2.2.2.2.2⟩, fun h => ⟨(F.q13 h).1, (F.q13 h).2.1, (F.q13 h).2.2.1, rfl, (F.q13 h).2.2.2.2.1, (F.q13 h).2.2.2.2.2.1, (F.q13 h).2.2.2.2.2.2.1, (F.q13 h).2.2.2.2.2.2.2.1, (F.q13 h).2.2.2.2.2.2.2.2.1, (F.q13 h).2.2.2.2.2.2.2.2.2.1, (F.q13 h).2.2.2.2.2.2.2.2.2.2.1, (F.q13 h).2.2.2.2.2.2.2.2.2.2.2.1, (F.q13 h).2.2.2.2.2.2.2.2.2.2.2.2⟩, F.f0, F.f1, F.f2, fun _ => rfl, F.f4, F.f5, F.f6, F.f7, F.f8, F.f9, F.f10, F.f12, F.st0, F.st1, F.st2, F.st3, F.st4⟩
      clear F
      go_simp
      exact HK.out _ _ ⟨_, _, _, _, _, _, _, _, _, _, _, _, _, _, rfl, HF.out⟩
    · have hS := F.st0  hd_
      obtain rfl := F.f0 (by simp [hdep])
      obtain rfl := F.f2 (by simp [hdep])
      obtain rfl := F.f3 (by simp [hdep])
      have hc := kc4.out w1 hS
      have HF := Lib.hid F
      clear F
      go_simp
      refine ⟨trivial, rfl, wideAt_calls (hc.mono ?_)⟩
      rintro e w5 ⟨v_, rfl, hres⟩
      exact HK.out _ _ ⟨_, _, _, _, _, _, _, _, _, _, _, _, v_, r2, rfl, ⟨HF.out.q2, fun _ => ⟨(show _ from (by simp [hdep] : d_ 0 = true)), (show _ from (by simp [hdep] : d_ 2 = true)), (show _ from (by simp [hdep] : d_ 3 = true))⟩, HF.out.q7, fun h => ⟨rfl, (HF.out.q9 h).2.1, (HF.out.q9 h).2.2.1, (HF.out.q9 h).2.2.2⟩, fun h => ⟨(HF.out.q10 h).1, (HF.out.q10 h).2.1, (HF.out.q10 h).2.2.1, (HF.out.q10 h).2.2.2.1, rfl⟩, fun h => ⟨(HF.out.q11 h).1, (HF.out.q11 h).2.1, (HF.out.q11 h).2.2.1, (HF.out.q11 h).2.2.2.1, rfl, (HF.out.q11 h).2.2.2.2.2.1, (HF.out.q11 h).2.2.2.2.2.2⟩, fun h => ⟨(HF.out.q12 h).1, (HF.out.q12 h).2.1, (HF.out.q12 h).2.2.1, (HF.out.q12 h).2.2.2.1, rfl, (HF.out.q12 h).2.2.2.2.2.1, (HF.out.q12 h).2.2.2.2.2.2.1, (HF.out.q12 h).2.2.2.2.2.2.2.1, (HF.out.q12 h).2.2.2.2.2.2.2.2.1, (HF.out.q12 h).2.2.2.2.2.2.2.2.2.1, (HF.out.q12 h).2.2.2.2.2.2.2.2.2.2.1, (HF.out.q12 h).2.2.2.2.2.2.2.2.2.2.2⟩, fun h => ⟨(HF.out.q13 h).1, (HF.out.q13 h).2.1, (HF.out.q13 h).2.2.1, (HF.out.q13 h).2.2.2.1, rfl, (HF.out.q13 h).2.2.2.2.2.1, (HF.out.q13 h).2.2.2.2.2.2.1, (HF.out.q13 h).2.2.2.2.2.2.2.1, (HF.out.q13 h).2.2.2.2.2.2.2.2.1, (HF.out.q13 h).2.2.2.2.2.2.2.2.2.1, (HF.out.q13 h).2.2.2.2.2.2.2.2.2.2.1, (HF.out.q13 h).2.2.2.2.2.2.2.2.2.2.2.1, (HF.out.q13 h).2.2.2.2.2.2.2.2.2.2.2.2⟩, HF.out.f0, HF.out.f1, HF.out.f2, HF.out.f3, fun _ => rfl, HF.out.f5, HF.out.f6, HF.out.f7, HF.out.f8, HF.out.f9, HF.out.f10, HF.out.f12, fun h => (by simp [upd] at h), fun _ _ => hres, fun h _ => (by have h2 : d_ 4 = true := (HF.out.q9 h).1; rw [show d_ 4 = false from hd_] at h2; cases h2), fun h _ => (by have h2 : d_ 4 = true := (HF.out.q11 h).2.2.2.2.1; rw [show d_ 4 = false from hd_] at h2; cases h2), fun h => (by have h2 : d_ 4 = true := (HF.out.q13 h).2.2.2.2.1; rw [show d_ 4 = false from hd_] at h2; cases h2)⟩⟩
    · have HF : Hid (mor7F t A bx b7 b12 k S0 S1 S2 S3 S4 (upd d_ 5) x65 x66 x67 x68 x69 (.func (.func 40) #[] #[.pointer (some ⟨b7, 0, none⟩)]) x71 x72 x73 x74 x75 x76 r1 r2 w1) := ⟨F.q2, F.q4, F.q7, fun h => ⟨(F.q9 h).1, rfl, (F.q9 h).2.2.1, (F.q9 h).2.2.2⟩, F.q10, F.q11, fun h => ⟨(F.q12 h).1, (F.q12 h).2.1, (F.q12 h).2.2.1, (F.q12 h).2.2.2.1, (F.q12 h).2.2.2.2.1, rfl, (F.q12 h).2.2.2.2.2.2.1, (F.q12 h).2.2.2.2.2.2.2.1, (F.q12 h).2.2.2.2.2.2.2.2.1, (F.q12 h).2.2.2.2.2.2.2.2.2.1, (F.q12 h).2.2.2.2.2.2.2.2.2.2.1, (F.q12 h).2.2.2.2.2.2.2.2.2.2.2⟩, fun h => ⟨(F.q13 h).1, (F.q13 h).2.1, (F.q13 h).2.2.1, (F.q13 h).2.2.2.1, (F.q13 h).2.2.2.2.1, rfl, (F.q13 h).2.2.2.2.2.2.1, (F.q13 h).2.2.2.2.2.2.2.1, (F.q13 h).2.2.2.2.2.2.2.2.1, (F.q13 h).2.2.2.2.2.2.2.2.2.1, (F.q13 h).2.2.2.2.2.2.2.2.2.2.1, (F.q13 h).2.2.2.2.2.2.2.2.2.2.2.1, (F.q13 h).2.2.2.2.2.2.2.2.2.2.2.2⟩, F.f0, F.f1, F.f2, F.f3, F.f4, fun _ => rfl, F.f6, F.f7, F.f8, F.f9, F.f10, F.f12, F.st0, F.st1, F.st2, F.st3, F.st4⟩
      clear F
      go_simp
      exact HK.out _ _ ⟨_, _, _, _, _, _, _, _, _, _, _, _, _, _, rfl, HF.out⟩
    · have HF : Hid (mor7F t A bx b7 b12 k S0 S1 S2 S3 S4 (upd d_ 6) x65 x66 x67 x68 x69 x70 (.pointer (some ⟨bx, 1, none⟩)) x72 x73 x74 x75 x76 r1 r2 w1) := ⟨F.q2, F.q4, fun h => rfl, F.q9, F.q10, F.q11, fun h => ⟨(F.q12 h).1, (F.q12 h).2.1, (F.q12 h).2.2.1, (F.q12 h).2.2.2.1, (F.q12 h).2.2.2.2.1, (F.q12 h).2.2.2.2.2.1, rfl, (F.q12 h).2.2.2.2.2.2.2.1, (F.q12 h).2.2.2.2.2.2.2.2.1, (F.q12 h).2.2.2.2.2.2.2.2.2.1, (F.q12 h).2.2.2.2.2.2.2.2.2.2.1, (F.q12 h).2.2.2.2.2.2.2.2.2.2.2⟩, fun h => ⟨(F.q13 h).1, (F.q13 h).2.1, (F.q13 h).2.2.1, (F.q13 h).2.2.2.1, (F.q13 h).2.2.2.2.1, (F.q13 h).2.2.2.2.2.1, rfl, (F.q13 h).2.2.2.2.2.2.2.1, (F.q13 h).2.2.2.2.2.2.2.2.1, (F.q13 h).2.2.2.2.2.2.2.2.2.1, (F.q13 h).2.2.2.2.2.2.2.2.2.2.1, (F.q13 h).2.2.2.2.2.2.2.2.2.2.2.1, (F.q13 h).2.2.2.2.2.2.2.2.2.2.2.2⟩, F.f0, F.f1, F.f2, F.f3, F.f4, F.f5, fun _ => rfl, F.f7, F.f8, F.f9, F.f10, F.f12, F.st0, F.st1, F.st2, F.st3, F.st4⟩
      clear F
      go_simp
      exact HK.out _ _ ⟨_, _, _, _, _, _, _, _, _, _, _, _, _, _, rfl, HF.out⟩
    · have hst : S0 w1 ∨ S1 r1 w1 := by
        cases e1 : d_ 4 with
        | false => exact .inl ((F.st0 e1))
        | true =>
          have n_ : d_ 9 = false := by
            cases e_ : d_ 9 with
            | false => rfl
            | true => have h2 := (F.q9 e_).2.2.1; rw [show d_ 7 = false from hd_] at h2; cases h2
          exact .inr ((F.st1 e1 n_))
      have kk := kl7.out r1 w1 hst
      clear hst
      obtain rfl := F.f6 (by simp [hdep])
      have HF : Hid (mor7F t A bx b7 b12 k S0 S1 S2 S3 S4 (upd d_ 7) x65 x66 x67 x68 x69 x70 (.pointer (some ⟨bx, 1, none⟩)) (.slice A.af t.frm.length A.cf) x73 x74 x75 x76 r1 r2 w1) := ⟨F.q2, F.q4, fun _ => (show _ from (by simp [hdep] : d_ 6 = true)), fun h => ⟨(F.q9 h).1, (F.q9 h).2.1, rfl, (F.q9 h).2.2.2⟩, F.q10, F.q11, fun h => ⟨(F.q12 h).1, (F.q12 h).2.1, (F.q12 h).2.2.1, (F.q12 h).2.2.2.1, (F.q12 h).2.2.2.2.1, (F.q12 h).2.2.2.2.2.1, (F.q12 h).2.2.2.2.2.2.1, rfl, (F.q12 h).2.2.2.2.2.2.2.2.1, (F.q12 h).2.2.2.2.2.2.2.2.2.1, (F.q12 h).2.2.2.2.2.2.2.2.2.2.1, (F.q12 h).2.2.2.2.2.2.2.2.2.2.2⟩, fun h => ⟨(F.q13 h).1, (F.q13 h).2.1, (F.q13 h).2.2.1, (F.q13 h).2.2.2.1, (F.q13 h).2.2.2.2.1, (F.q13 h).2.2.2.2.2.1, (F.q13 h).2.2.2.2.2.2.1, rfl, (F.q13 h).2.2.2.2.2.2.2.2.1, (F.q13 h).2.2.2.2.2.2.2.2.2.1, (F.q13 h).2.2.2.2.2.2.2.2.2.2.1, (F.q13 h).2.2.2.2.2.2.2.2.2.2.2.1, (F.q13 h).2.2.2.2.2.2.2.2.2.2.2.2⟩, F.f0, F.f1, F.f2, F.f3, F.f4, F.f5, F.f6, fun _ => rfl, F.f8, F.f9, F.f10, F.f12, F.st0, F.st1, F.st2, F.st3, F.st4⟩
      clear F
      go_simp
      exact HK.out _ _ ⟨_, _, _, _, _, _, _, _, _, _, _, _, _, _, rfl, HF.out⟩
    · have HF : Hid (mor7F t A bx b7 b12 k S0 S1 S2 S3 S4 (upd d_ 8) x65 x66 x67 x68 x69 x70 x71 x72 (.int .i64 (k : Int)) x74 x75 x76 r1 r2 w1) := ⟨F.q2, F.q4, F.q7, fun h => ⟨(F.q9 h).1, (F.q9 h).2.1, (F.q9 h).2.2.1, rfl⟩, F.q10, F.q11, fun h => ⟨(F.q12 h).1, (F.q12 h).2.1, (F.q12 h).2.2.1, (F.q12 h).2.2.2.1, (F.q12 h).2.2.2.2.1, (F.q12 h).2.2.2.2.2.1, (F.q12 h).2.2.2.2.2.2.1, (F.q12 h).2.2.2.2.2.2.2.1, rfl, (F.q12 h).2.2.2.2.2.2.2.2.2.1, (F.q12 h).2.2.2.2.2.2.2.2.2.2.1, (F.q12 h).2.2.2.2.2.2.2.2.2.2.2⟩, fun h => ⟨(F.q13 h).1, (F.q13 h).2.1, (F.q13 h).2.2.1, (F.q13 h).2.2.2.1, (F.q13 h).2.2.2.2.1, (F.q13 h).2.2.2.2.2.1, (F.q13 h).2.2.2.2.2.2.1, (F.q13 h).2.2.2.2.2.2.2.1, rfl, (F.q13 h).2.2.2.2.2.2.2.2.2.1, (F.q13 h).2.2.2.2.2.2.2.2.2.2.1, (F.q13 h).2.2.2.2.2.2.2.2.2.2.2.1, (F.q13 h).2.2.2.2.2.2.2.2.2.2.2.2⟩, F.f0, F.f1, F.f2, F.f3, F.f4, F.f5, F.f6, F.f7, fun _ => rfl, F.f9, F.f10, F.f12, F.st0, F.st1, F.st2, F.st3, F.st4⟩
      clear F
      go_simp
      exact HK.out _ _ ⟨_, _, _, _, _, _, _, _, _, _, _, _, _, _, rfl, HF.out⟩
    · have hS := F.st1 (by simp [hdep] : d_ 4 = true) hd_
      obtain rfl := F.f5 (by simp [hdep])
      obtain rfl := F.f7 (by simp [hdep])
      obtain rfl := F.f8 (by simp [hdep])
      have hc := kc9.out r1 w1 hS
      have HF := Lib.hid F
      clear F
      go_simp
      refine ⟨trivial, rfl, wideAt_calls (hc.mono ?_)⟩
      rintro e w5 ⟨v_, rfl, hres⟩
      exact HK.out _ _ ⟨_, _, _, _, _, _, _, _, _, _, _, _, r1, v_, rfl, ⟨HF.out.q2, HF.out.q4, HF.out.q7, fun _ => ⟨(show _ from (by simp [hdep] : d_ 4 = true)), (show _ from (by simp [hdep] : d_ 5 = true)), (show _ from (by simp [hdep] : d_ 7 = true)), (show _ from (by simp [hdep] : d_ 8 = true))⟩, HF.out.q10, fun h => ⟨(HF.out.q11 h).1, (HF.out.q11 h).2.1, (HF.out.q11 h).2.2.1, (HF.out.q11 h).2.2.2.1, (HF.out.q11 h).2.2.2.2.1, rfl, (HF.out.q11 h).2.2.2.2.2.2⟩, fun h => ⟨(HF.out.q12 h).1, (HF.out.q12 h).2.1, (HF.out.q12 h).2.2.1, (HF.out.q12 h).2.2.2.1, (HF.out.q12 h).2.2.2.2.1, (HF.out.q12 h).2.2.2.2.2.1, (HF.out.q12 h).2.2.2.2.2.2.1, (HF.out.q12 h).2.2.2.2.2.2.2.1, (HF.out.q12 h).2.2.2.2.2.2.2.2.1, rfl, (HF.out.q12 h).2.2.2.2.2.2.2.2.2.2.1, (HF.out.q12 h).2.2.2.2.2.2.2.2.2.2.2⟩, fun h => ⟨(HF.out.q13 h).1, (HF.out.q13 h).2.1, (HF.out.q13 h).2.2.1, (HF.out.q13 h).2.2.2.1, (HF.out.q13 h).2.2.2.2.1, (HF.out.q13 h).2.2.2.2.2.1, (HF.out.q13 h).2.2.2.2.2.2.1, (HF.out.q13 h).2.2.2.2.2.2.2.1, (HF.out.q13 h).2.2.2.2.2.2.2.2.1, rfl, (HF.out.q13 h).2.2.2.2.2.2.2.2.2.2.1, (HF.out.q13 h).2.2.2.2.2.2.2.2.2.2.2.1, (HF.out.q13 h).2.2.2.2.2.2.2.2.2.2.2.2⟩, HF.out.f0, HF.out.f1, HF.out.f2, HF.out.f3, HF.out.f4, HF.out.f5, HF.out.f6, HF.out.f7, HF.out.f8, fun _ => rfl, HF.out.f10, HF.out.f12, fun h => (by have h2 : d_ 4 = false := h; rw [(by simp [hdep] : d_ 4 = true)] at h2; cases h2), fun _ h => (by simp [upd] at h), fun _ _ => hres, fun h _ => (by have h2 : d_ 9 = true := (HF.out.q11 h).2.2.2.2.2.1; rw [show d_ 9 = false from hd_] at h2; cases h2), fun h => (by have h2 : d_ 9 = true := (HF.out.q13 h).2.2.2.2.2.2.2.2.2.1; rw [show d_ 9 = false from hd_] at h2; cases h2)⟩⟩
    · have HF : Hid (mor7F t A bx b7 b12 k S0 S1 S2 S3 S4 (upd d_ 10) x65 x66 x67 x68 x69 x70 x71 x72 x73 x74 (.pointer (some ⟨b12, 3, none⟩)) x76 r1 r2 w1) := ⟨F.q2, F.q4, F.q7, F.q9, fun _ => ⟨(show _ from (by simp [hdep] : d_ 0 = true)), (show _ from (by simp [hdep] : d_ 1 = true)), (show _ from (by simp [hdep] : d_ 2 = true)), (show _ from (by simp [hdep] : d_ 3 = true)), (show _ from (by simp [hdep] : d_ 4 = true))⟩, fun h => ⟨(F.q11 h).1, (F.q11 h).2.1, (F.q11 h).2.2.1, (F.q11 h).2.2.2.1, (F.q11 h).2.2.2.2.1, (F.q11 h).2.2.2.2.2.1, rfl⟩, fun h => ⟨(F.q12 h).1, (F.q12 h).2.1, (F.q12 h).2.2.1, (F.q12 h).2.2.2.1, (F.q12 h).2.2.2.2.1, (F.q12 h).2.2.2.2.2.1, (F.q12 h).2.2.2.2.2.2.1, (F.q12 h).2.2.2.2.2.2.2.1, (F.q12 h).2.2.2.2.2.2.2.2.1, (F.q12 h).2.2.2.2.2.2.2.2.2.1, rfl, (F.q12 h).2.2.2.2.2.2.2.2.2.2.2⟩, fun h => ⟨(F.q13 h).1, (F.q13 h).2.1, (F.q13 h).2.2.1, (F.q13 h).2.2.2.1, (F.q13 h).2.2.2.2.1, (F.q13 h).2.2.2.2.2.1, (F.q13 h).2.2.2.2.2.2.1, (F.q13 h).2.2.2.2.2.2.2.1, (F.q13 h).2.2.2.2.2.2.2.2.1, (F.q13 h).2.2.2.2.2.2.2.2.2.1, rfl, (F.q13 h).2.2.2.2.2.2.2.2.2.2.2.1, (F.q13 h).2.2.2.2.2.2.2.2.2.2.2.2⟩, F.f0, F.f1, F.f2, F.f3, F.f4, F.f5, F.f6, F.f7, F.f8, F.f9, fun _ => rfl, F.f12, F.st0, F.st1, F.st2, F.st3, F.st4⟩
      clear F
      go_simp
      exact HK.out _ _ ⟨_, _, _, _, _, _, _, _, _, _, _, _, _, _, rfl, HF.out⟩
    · have hS := F.st2 (by simp [hdep] : d_ 9 = true) hd_
      obtain rfl := F.f4 (by simp [hdep])
      obtain rfl := F.f10 (by simp [hdep])
      obtain ⟨⟨ku0, kcell0⟩, kfr0, hres⟩ := kc11.out r1 r2 w1 hS
      have HF : Hid (mor7F t A bx b7 b12 k S0 S1 S2 S3 S4 (upd d_ 11) x65 x66 x67 x68 (.slice (some ⟨r1.1, 0, none⟩) t.stay.length r1.2) x70 x71 x72 x73 x74 (.pointer (some ⟨b12, 3, none⟩)) x76 r1 r2 (w1.setCell ⟨b12, 3, none⟩ (.slice (some ⟨r1.1, 0, none⟩) t.stay.length r1.2))) := ⟨F.q2, F.q4, F.q7, F.q9, F.q10, fun _ => ⟨(show _ from (by simp [hdep] : d_ 0 = true)), (show _ from (by simp [hdep] : d_ 1 = true)), (show _ from (by simp [hdep] : d_ 2 = true)), (show _ from (by simp [hdep] : d_ 3 = true)), (show _ from (by simp [hdep] : d_ 4 = true)), (show _ from (by simp [hdep] : d_ 9 = true)), (show _ from (by simp [hdep] : d_ 10 = true))⟩, fun h => ⟨(F.q12 h).1, (F.q12 h).2.1, (F.q12 h).2.2.1, (F.q12 h).2.2.2.1, (F.q12 h).2.2.2.2.1, (F.q12 h).2.2.2.2.2.1, (F.q12 h).2.2.2.2.2.2.1, (F.q12 h).2.2.2.2.2.2.2.1, (F.q12 h).2.2.2.2.2.2.2.2.1, (F.q12 h).2.2.2.2.2.2.2.2.2.1, (F.q12 h).2.2.2.2.2.2.2.2.2.2.1, rfl⟩, fun h => ⟨(F.q13 h).1, (F.q13 h).2.1, (F.q13 h).2.2.1, (F.q13 h).2.2.2.1, (F.q13 h).2.2.2.2.1, (F.q13 h).2.2.2.2.2.1, (F.q13 h).2.2.2.2.2.2.1, (F.q13 h).2.2.2.2.2.2.2.1, (F.q13 h).2.2.2.2.2.2.2.2.1, (F.q13 h).2.2.2.2.2.2.2.2.2.1, (F.q13 h).2.2.2.2.2.2.2.2.2.2.1, rfl, (F.q13 h).2.2.2.2.2.2.2.2.2.2.2.2⟩, F.f0, F.f1, F.f2, F.f3, F.f4, F.f5, F.f6, F.f7, F.f8, F.f9, F.f10, F.f12, fun h => (by have h2 : d_ 4 = false := h; rw [(by simp [hdep] : d_ 4 = true)] at h2; cases h2), fun _ h => (by have h2 : d_ 9 = false := h; rw [(by simp [hdep] : d_ 9 = true)] at h2; cases h2), fun _ h => (by simp [upd] at h), fun _ _ => hres, fun h => (by have h2 : d_ 11 = true := (F.q13 h).2.2.2.2.2.2.2.2.2.2.2.1; rw [show d_ 11 = false from hd_] at h2; cases h2)⟩
      clear F hS hres
      go_simp
      exact HK.out _ _ ⟨_, _, _, _, _, _, _, _, _, _, _, _, _, _, rfl, HF.out⟩
    · have HF : Hid (mor7F t A bx b7 b12 k S0 S1 S2 S3 S4 (upd d_ 12) x65 x66 x67 x68 x69 x70 x71 x72 x73 x74 x75 (.pointer (some ⟨b12, 1, none⟩)) r1 r2 w1) := ⟨F.q2, F.q4, F.q7, F.q9, F.q10, F.q11, fun _ => ⟨(show _ from (by simp [hdep] : d_ 0 = true)), (show _ from (by simp [hdep] : d_ 1 = true)), (show _ from (by simp [hdep] : d_ 2 = true)), (show _ from (by simp [hdep] : d_ 3 = true)), (show _ from (by simp [hdep] : d_ 4 = true)), (show _ from (by simp [hdep] : d_ 5 = true)), (show _ from (by simp [hdep] : d_ 6 = true)), (show _ from (by simp [hdep] : d_ 7 = true)), (show _ from (by simp [hdep] : d_ 8 = true)), (show _ from (by simp [hdep] : d_ 9 = true)), (show _ from (by simp [hdep] : d_ 10 = true)), (show _ from (by simp [hdep] : d_ 11 = true))⟩, fun h => ⟨(F.q13 h).1, (F.q13 h).2.1, (F.q13 h).2.2.1, (F.q13 h).2.2.2.1, (F.q13 h).2.2.2.2.1, (F.q13 h).2.2.2.2.2.1, (F.q13 h).2.2.2.2.2.2.1, (F.q13 h).2.2.2.2.2.2.2.1, (F.q13 h).2.2.2.2.2.2.2.2.1, (F.q13 h).2.2.2.2.2.2.2.2.2.1, (F.q13 h).2.2.2.2.2.2.2.2.2.2.1, (F.q13 h).2.2.2.2.2.2.2.2.2.2.2.1, rfl⟩, F.f0, F.f1, F.f2, F.f3, F.f4, F.f5, F.f6, F.f7, F.f8, F.f9, F.f10, fun _ => rfl, F.st0, F.st1, F.st2, F.st3, F.st4⟩
      clear F
      go_simp
      exact HK.out _ _ ⟨_, _, _, _, _, _, _, _, _, _, _, _, _, _, rfl, HF.out⟩
    · have hS := F.st3 (by simp [hdep] : d_ 11 = true) hd_
      obtain rfl := F.f9 (by simp [hdep])
      obtain rfl := F.f12 (by simp [hdep])
      obtain ⟨⟨ku0, kcell0⟩, kfr0, hres⟩ := kc13.out r1 r2 w1 hS
      have HF : Hid (mor7F t A bx b7 b12 k S0 S1 S2 S3 S4 (upd d_ 13) x65 x66 x67 x68 x69 x70 x71 x72 x73 (.slice (some ⟨r2.1, 0, none⟩) t.frm.length r2.2) x75 (.pointer (some ⟨b12, 1, none⟩)) r1 r2 (w1.setCell ⟨b12, 1, none⟩ (.slice (some ⟨r2.1, 0, none⟩) t.frm.length r2.2))) := ⟨F.q2, F.q4, F.q7, F.q9, F.q10, F.q11, F.q12, fun _ => ⟨(show _ from (by simp [hdep] : d_ 0 = true)), (show _ from (by simp [hdep] : d_ 1 = true)), (show _ from (by simp [hdep] : d_ 2 = true)), (show _ from (by simp [hdep] : d_ 3 = true)), (show _ from (by simp [hdep] : d_ 4 = true)), (show _ from (by simp [hdep] : d_ 5 = true)), (show _ from (by simp [hdep] : d_ 6 = true)), (show _ from (by simp [hdep] : d_ 7 = true)), (show _ from (by simp [hdep] : d_ 8 = true)), (show _ from (by simp [hdep] : d_ 9 = true)), (show _ from (by simp [hdep] : d_ 10 = true)), (show _ from (by simp [hdep] : d_ 11 = true)), (show _ from (by simp [hdep] : d_ 12 = true))⟩, F.f0, F.f1, F.f2, F.f3, F.f4, F.f5, F.f6, F.f7, F.f8, F.f9, F.f10, F.f12, fun h => (by have h2 : d_ 4 = false := h; rw [(by simp [hdep] : d_ 4 = true)] at h2; cases h2), fun _ h => (by have h2 : d_ 9 = false := h; rw [(by simp [hdep] : d_ 9 = true)] at h2; cases h2), fun _ h => (by have h2 : d_ 11 = false := h; rw [(by simp [hdep] : d_ 11 = true)] at h2; cases h2), fun _ h => (by simp [upd] at h), fun _ => hres⟩
      clear F hS hres
      go_simp
      exact HK.out _ _ ⟨_, _, _, _, _, _, _, _, _, _, _, _, _, _, rfl, HF.out⟩
  · rintro d_ a_ w1 hall ⟨x65, x66, x67, x68, x69, x70, x71, x72, x73, x74, x75, x76, r1, r2, rfl, F⟩
    have hall' : ∀ k, k < 14 → d_ k = true := hall
    obtain rfl := F.f0 (hall' 0 (by decide))
    obtain rfl := F.f1 (hall' 1 (by decide))
    obtain rfl := F.f2 (hall' 2 (by decide))
    obtain rfl := F.f3 (hall' 3 (by decide))
    obtain rfl := F.f4 (hall' 4 (by decide))
    obtain rfl := F.f5 (hall' 5 (by decide))
    obtain rfl := F.f6 (hall' 6 (by decide))
    obtain rfl := F.f7 (hall' 7 (by decide))
    obtain rfl := F.f8 (hall' 8 (by decide))
    obtain rfl := F.f9 (hall' 9 (by decide))
    obtain rfl := F.f10 (hall' 10 (by decide))
    obtain rfl := F.f12 (hall' 12 (by decide))
    have hst := F.st4 (hall' 13 (by decide))
    exact HQ.out r1 r2 w1 hst
structure mor9F (bx : Nat) (b7 : Nat) (b12 : Nat) (k : Nat) (m : Nat) (n : Nat) (wb : Nat) (wn : Nat) (wc : Nat) (ob : Nat) (oo : Nat) (oc : Nat) (ai : Option Addr) (rn : Nat) (rc : Nat) (S0 : World → Prop) (S1 : Nat × Nat → World → Prop) (S2 : Nat × Nat → World → Prop) (d : Nat → Bool) (x82 x83 x84 x85 x86 x87 x88 x89 x90 x91 x92 x93 x94 x95 x96 : Value) (r1 : Nat × Nat) (w : World) : Prop where
  q1 : d 1 = true → d 0 = true
  q5 : d 5 = true → d 4 = true
  q7 : d 7 = true → d 5 = true ∧ d 6 = true
  q8 : d 8 = true → d 7 = true
  q10 : d 10 = true → d 9 = true
  q12 : d 12 = true → d 10 = true ∧ d 11 = true
  q13 : d 13 = true → d 3 = true ∧ d 8 = true ∧ d 12 = true
  q14 : d 14 = true → d 0 = true ∧ d 1 = true ∧ d 2 = true ∧ d 3 = true ∧ d 4 = true ∧ d 5 = true ∧ d 6 = true ∧ d 7 = true ∧ d 8 = true ∧ d 9 = true ∧ d 10 = true ∧ d 11 = true ∧ d 12 = true ∧ d 13 = true
  q15 : d 15 = true → d 0 = true ∧ d 1 = true ∧ d 2 = true ∧ d 3 = true ∧ d 4 = true ∧ d 5 = true ∧ d 6 = true ∧ d 7 = true ∧ d 8 = true ∧ d 9 = true ∧ d 10 = true ∧ d 11 = true ∧ d 12 = true ∧ d 13 = true ∧ d 14 = true
  f0 : d 0 = true → x82 = .pointer (some ⟨b12, 2, none⟩)
  f1 : d 1 = true → x83 = .slice (some ⟨wb, 0, none⟩) wn wc
  f2 : d 2 = true → x84 = .int .i64 (k : Int)
  f3 : d 3 = true → x85 = .func (.func 40) #[] #[.pointer (some ⟨b7, 0, none⟩)]
  f4 : d 4 = true → x86 = .pointer (some ⟨bx, 2, none⟩)
  f5 : d 5 = true → x87 = .slice (some ⟨ob, oo, none⟩) wn oc
  f6 : d 6 = true → x88 = .int .i64 (k : Int)
  f7 : d 7 = true → x89 = .pointer (some ⟨ob, oo + k, none⟩)
  f8 : d 8 = true → x90 = .slice ai rn rc
  f9 : d 9 = true → x91 = .int .i64 (k : Int)
  f10 : d 10 = true → x92 = .int .i64 ((k : Int) + 1)
  f11 : d 11 = true → x93 = .int .i64 (n : Int)
  f12 : d 12 = true → x94 = .int .i64 (m : Int)
  f13 : d 13 = true → x95 = .slice (some ⟨r1.1, 0, none⟩) rn r1.2
  f14 : d 14 = true → x96 = .pointer (some ⟨wb, k, none⟩)
  st0 : d 13 = false → S0 w
  st1 : d 13 = true → d 15 = false → S1 r1 w
  st2 : d 15 = true → S2 r1 w
noncomputable def mor9C : Code := (Try.f10.body.bind (regionAt 9)).getD .skip
set_option maxRecDepth 100000 in
set_option maxHeartbeats 4000000 in
theorem mor9 {bx : Nat} {b7 : Nat} {b12 : Nat} {k : Nat} {m : Nat} {n : Nat} {wb : Nat} {wn : Nat} {wc : Nat} {ob : Nat} {oo : Nat} {oc : Nat} {ai : Option Addr} {rn : Nat} {rc : Nat} {S0 : World → Prop} {S1 : Nat × Nat → World → Prop} {S2 : Nat × Nat → World → Prop} {Q : Exit → Act → World → Prop} {W1 : World} (hkw : k < wn) (hw : IntKind.i64.wrap ((k : Int) + 1) = (k : Int) + 1) (hm : ((k : Int) + 1).tmod (n : Int) = (m : Int)) (hn : ¬ n = 0) (h0 : S0 W1.drew)
    (kl1 : Hid (∀ (r1 : Nat × Nat) (w : World), (S0 w ∨ S1 r1 w) → w.cell? ⟨b12, 2, none⟩ = some (.slice (some ⟨wb, 0, none⟩) wn wc)))
    (kl5 : Hid (∀ (w : World), (S0 w) → w.cell? ⟨bx, 2, none⟩ = some (.slice (some ⟨ob, oo, none⟩) wn oc)))
    (kl8 : Hid (∀ (w : World), (S0 w) → w.cell? ⟨ob, oo + k, none⟩ = some (.slice ai rn rc)))
    (kc13 : Hid (∀ (w : World), S0 w → Calls Try.prog 40 #[.slice ai rn rc, .int .i64 (m : Int), .pointer (some ⟨b7, 0, none⟩)] w fun e w' => ∃ r1 : Nat × Nat, e = .returned (.slice (some ⟨r1.1, 0, none⟩) rn r1.2) ∧ S1 r1 w'))
    (kc15 : Hid (∀ (r1 : Nat × Nat) (w : World), S1 r1 w → (∃ u, w.cell? ⟨wb, k, none⟩ = some u) ∧ w.frozen? ⟨wb, k, none⟩ = false ∧ S2 r1 (w.setCell ⟨wb, k, none⟩ (.slice (some ⟨r1.1, 0, none⟩) rn r1.2))))
    {s0 s1 s2 s3 s5 s6 s7 s8 s13 s14 s15 s16 s17 s18 s19 s20 s21 s22 s23 s24 s25 s26 s27 s28 s29 s30 s31 s32 s33 s34 s35 s36 s37 s38 s39 s40 s41 s42 s43 s44 s45 s46 s47 s48 s49 s50 s51 s52 s53 s54 s55 s56 s57 s58 s59 s60 s61 s62 s63 s64 s65 s66 s67 s68 s69 s70 s71 s72 s73 s74 s75 s76 s77 s78 s79 s80 s81 s82 s83 s84 s85 s86 s87 s88 s89 s90 s91 s92 s93 s94 s95 s96 s97 s98 s99 s100 s101 s102 s103 s104 s105 s106 s107 s108 s109 s110 s111 s112 s113 s114 s115 s116 s117 s118 s119 s120 s121 s122 s123 s124 s125 s126 s127 s128 s129 s130 s131 s132 s133 s134 s135 s136 s137 s138 s139 s140 s141 s142 s143 s144 s145 s146 s147 s148 s149 s150 s151 s152 s153 s154 s155 s156 s157 s158 s159 s160 s161 s162 s163 s164 s165 s166 s167 s168 s169 s170 s171 s172 s173 s174 s175 s176 s177 s178 s179 s180 s181 s182 s183 s184 s185 s186 s187 s188 s189 s190 s191 s192 s193 s194 s195 s196 s197 s198 s199 s200 s201 s202 s203 s204 s205 s206 s207 s208 s209 s210 s211 s212 s213 s214 s215 s216 s217 s218 s219 s220 s221 s222 s223 s224 s225 s226 s227 s228 s229 s230 s231 s232 s233 s234 s235 s236 s237 s238 s239 s240 s241 s242 s243 s244 s245 s246 s247 s248 s249 s250 s251 s252 s253 s254 s255 s256 s257 s258 s259 s260 s261 s262 s263 s264 s265 s266 s267 s268 s269 s270 s271 s272 s273 s274 s275 s276 : Value} {dd : List Deferred}
    (hQ : ∀ (r1 : Nat × Nat) (w' : World), S2 r1 w' → Q .normal { tmps := #[s0, s1, s2, s3, .pointer (some ⟨bx, 0, none⟩), s5, s6, s7, s8, .int .i64 (n : Int), .int .i64 (k : Int), .func (.func 40) #[] #[.pointer (some ⟨b7, 0, none⟩)], .pointer (some ⟨b12, 0, none⟩), s13, s14, s15, s16, s17, s18, s19, s20, s21, s22, s23, s24, s25, s26, s27, s28, s29, s30, s31, s32, s33, s34, s35, s36, s37, s38, s39, s40, s41, s42, s43, s44, s45, s46, s47, s48, s49, s50, s51, s52, s53, s54, s55, s56, s57, s58, s59, s60, s61, s62, s63, s64, s65, s66, s67, s68, s69, s70, s71, s72, s73, s74, s75, s76, s77, s78, s79, s80, s81, .pointer (some ⟨b12, 2, none⟩), .slice (some ⟨wb, 0, none⟩) wn wc, .int .i64 (k : Int), .func (.func 40) #[] #[.pointer (some ⟨b7, 0, none⟩)], .pointer (some ⟨bx, 2, none⟩), .slice (some ⟨ob, oo, none⟩) wn oc, .int .i64 (k : Int), .pointer (some ⟨ob, oo + k, none⟩), .slice ai rn rc, .int .i64 (k : Int), .int .i64 ((k : Int) + 1), .int .i64 (n : Int), .int .i64 (m : Int), .slice (some ⟨r1.1, 0, none⟩) rn r1.2, .pointer (some ⟨wb, k, none⟩), s97, s98, s99, s100, s101, s102, s103, s104, s105, s106, s107, s108, s109, s110, s111, s112, s113, s114, s115, s116, s117, s118, s119, s120, s121, s122, s123, s124, s125, s126, s127, s128, s129, s130, s131, s132, s133, s134, s135, s136, s137, s138, s139, s140, s141, s142, s143, s144, s145, s146, s147, s148, s149, s150, s151, s152, s153, s154, s155, s156, s157, s158, s159, s160, s161, s162, s163, s164, s165, s166, s167, s168, s169, s170, s171, s172, s173, s174, s175, s176, s177, s178, s179, s180, s181, s182, s183, s184, s185, s186, s187, s188, s189, s190, s191, s192, s193, s194, s195, s196, s197, s198, s199, s200, s201, s202, s203, s204, s205, s206, s207, s208, s209, s210, s211, s212, s213, s214, s215, s216, s217, s218, s219, s220, s221, s222, s223, s224, s225, s226, s227, s228, s229, s230, s231, s232, s233, s234, s235, s236, s237, s238, s239, s240, s241, s242, s243, s244, s245, s246, s247, s248, s249, s250, s251, s252, s253, s254, s255, s256, s257, s258, s259, s260, s261, s262, s263, s264, s265, s266, s267, s268, s269, s270, s271, s272, s273, s274, s275, s276], defers := dd } w') :
    Code.wpIn (wideAt none) 0 Try.prog mor9C Q { tmps := #[s0, s1, s2, s3, .pointer (some ⟨bx, 0, none⟩), s5, s6, s7, s8, .int .i64 (n : Int), .int .i64 (k : Int), .func (.func 40) #[] #[.pointer (some ⟨b7, 0, none⟩)], .pointer (some ⟨b12, 0, none⟩), s13, s14, s15, s16, s17, s18, s19, s20, s21, s22, s23, s24, s25, s26, s27, s28, s29, s30, s31, s32, s33, s34, s35, s36, s37, s38, s39, s40, s41, s42, s43, s44, s45, s46, s47, s48, s49, s50, s51, s52, s53, s54, s55, s56, s57, s58, s59, s60, s61, s62, s63, s64, s65, s66, s67, s68, s69, s70, s71, s72, s73, s74, s75, s76, s77, s78, s79, s80, s81, s82, s83, s84, s85, s86, s87, s88, s89, s90, s91, s92, s93, s94, s95, s96, s97, s98, s99, s100, s101, s102, s103, s104, s105, s106, s107, s108, s109, s110, s111, s112, s113, s114, s115, s116, s117, s118, s119, s120, s121, s122, s123, s124, s125, s126, s127, s128, s129, s130, s131, s132, s133, s134, s135, s136, s137, s138, s139, s140, s141, s142, s143, s144, s145, s146, s147, s148, s149, s150, s151, s152, s153, s154, s155, s156, s157, s158, s159, s160, s161, s162, s163, s164, s165, s166, s167, s168, s169, s170, s171, s172, s173, s174, s175, s176, s177, s178, s179, s180, s181, s182, s183, s184, s185, s186, s187, s188, s189, s190, s191, s192, s193, s194, s195, s196, s197, s198, s199, s200, s201, s202, s203, s204, s205, s206, s207, s208, s209, s210, s211, s212, s213, s214, s215, s216, s217, s218, s219, s220, s221, s222, s223, s224, s225, s226, s227, s228, s229, s230, s231, s232, s233, s234, s235, s236, s237, s238, s239, s240, s241, s242, s243, s244, s245, s246, s247, s248, s249, s250, s251, s252, s253, s254, s255, s256, s257, s258, s259, s260, s261, s262, s263, s264, s265, s266, s267, s268, s269, s270, s271, s272, s273, s274, s275, s276], defers := dd } W1 := by
  have HQ := Lib.hid hQ
  clear hQ
  conv => arg 4; whnf
  refine wpIn_region_invG mixed (by kernel_rfl) (fun d_ a_ w' => ∃ (x82 : Value) (x83 : Value) (x84 : Value) (x85 : Value) (x86 : Value) (x87 : Value) (x88 : Value) (x89 : Value) (x90 : Value) (x91 : Value) (x92 : Value) (x93 : Value) (x94 : Value) (x95 : Value) (x96 : Value) (r1 : Nat × Nat), a_ = { tmps := #[s0, s1, s2, s3, .pointer (some ⟨bx, 0, none⟩), s5, s6, s7, s8, .int .i64 (n : Int), .int .i64 (k : Int), .func (.func 40) #[] #[.pointer (some ⟨b7, 0, none⟩)], .pointer (some ⟨b12, 0, none⟩), s13, s14, s15, s16, s17, s18, s19, s20, s21, s22, s23, s24, s25, s26, s27, s28, s29, s30, s31, s32, s33, s34, s35, s36, s37, s38, s39, s40, s41, s42, s43, s44, s45, s46, s47, s48, s49, s50, s51, s52, s53, s54, s55, s56, s57, s58, s59, s60, s61, s62, s63, s64, s65, s66, s67, s68, s69, s70, s71, s72, s73, s74, s75, s76, s77, s78, s79, s80, s81, x82, x83, x84, x85, x86, x87, x88, x89, x90, x91, x92, x93, x94, x95, x96, s97, s98, s99, s100, s101, s102, s103, s104, s105, s106, s107, s108, s109, s110, s111, s112, s113, s114, s115, s116, s117, s118, s119, s120, s121, s122, s123, s124, s125, s126, s127, s128, s129, s130, s131, s132, s133, s134, s135, s136, s137, s138, s139, s140, s141, s142, s143, s144, s145, s146, s147, s148, s149, s150, s151, s152, s153, s154, s155, s156, s157, s158, s159, s160, s161, s162, s163, s164, s165, s166, s167, s168, s169, s170, s171, s172, s173, s174, s175, s176, s177, s178, s179, s180, s181, s182, s183, s184, s185, s186, s187, s188, s189, s190, s191, s192, s193, s194, s195, s196, s197, s198, s199, s200, s201, s202, s203, s204, s205, s206, s207, s208, s209, s210, s211, s212, s213, s214, s215, s216, s217, s218, s219, s220, s221, s222, s223, s224, s225, s226, s227, s228, s229, s230, s231, s232, s233, s234, s235, s236, s237, s238, s239, s240, s241, s242, s243, s244, s245, s246, s247, s248, s249, s250, s251, s252, s253, s254, s255, s256, s257, s258, s259, s260, s261, s262, s263, s264, s265, s266, s267, s268, s269, s270, s271, s272, s273, s274, s275, s276], defers := dd } ∧ mor9F bx b7 b12 k m n wb wn wc ob oo oc ai rn rc S0 S1 S2 d_ x82 x83 x84 x85 x86 x87 x88 x89 x90 x91 x92 x93 x94 x95 x96 r1 w') ?_ ?_ ?_
  · refine ⟨s82, s83, s84, s85, s86, s87, s88, s89, s90, s91, s92, s93, s94, s95, s96, default, rfl, ?_⟩
    constructor <;> first | rfl | (intro _; rfl) | (intro h; cases h; done) | (intro _; exact h0) | exact h0
  · refine ⟨?_, ?_, ?_, ?_, ?_, ?_, ?_, ?_, ?_, ?_, ?_, ?_, ?_, ?_, ?_, ?_, trivial⟩
    all_goals
      rintro d_ a_ w1 K hd_ hdep ⟨x82, x83, x84, x85, x86, x87, x88, x89, x90, x91, x92, x93, x94, x95, x96, r1, rfl, F⟩ HK
      simp [Region.binds] at hdep
    · have HF : Hid (mor9F bx b7 b12 k m n wb wn wc ob oo oc ai rn rc S0 S1 S2 (upd d_ 0) (.pointer (some ⟨b12, 2, none⟩)) x83 x84 x85 x86 x87 x88 x89 x90 x91 x92 x93 x94 x95 x96 r1 w1) := ⟨fun h => rfl, F.q5, F.q7, F.q8, F.q10, F.q12, F.q13, fun h => ⟨rfl, (F.q14 h).2.1, (F.q14 h).2.2.1, (F.q14 h).2.2.2.1, (F.q14 h).2.2.2.2.1, (F.q14 h).2.2.2.2.2.1, (F.q14 h).2.2.2.2.2.2.1, (F.q14 h).2.2.2.2.2.2.2.1, (F.q14 h).2.2.2.2.2.2.2.2.1, (F.q14 h).2.2.2.2.2.2.2.2.2.1, (F.q14 h).2.2.2.2.2.2.2.2.2.2.1, (F.q14 h).2.2.2.2.2.2.2.2.2.2.2.1, (F.q14 h).2.2.2.2.2.2.2.2.2.2.2.2.1, (F.q14 h).2.2.2.2.2.2.2.2.2.2.2.2.2⟩, fun h => ⟨rfl, (F.q15 h).2.1, (F.q15 h).2.2.1, (F.q15 h).2.2.2.1, (F.q15 h).2.2.2.2.1, (F.q15 h).2.2.2.2.2.1, (F.q15 h).2.2.2.2.2.2.1, (F.q15 h).2.2.2.2.2.2.2.1, (F.q15 h).2.2.2.2.2.2.2.2.1, (F.q15 h).2.2.2.2.2.2.2.2.2.1, (F.q15 h).2.2.2.2.2.2.2.2.2.2.1, (F.q15 h).2.2.2.2.2.2.2.2.2.2.2.1, (F.q15 h).2.2.2.2.2.2.2.2.2.2.2.2.1, (F.q15 h).2.2.2.2.2.2.2.2.2.2.2.2.2.1, (F.q15 h).2.2.2.2.2.2.2.2.2.2.2.2.2.2⟩, fun _ => rfl, F.f1, F.f2, F.f3, F.f4, F.f5, F.f6, F.f7, F.f8, F.f9, F.f10, F.f11, F.f12, F.f13, F.f14, F.st0, F.st1, F.st2⟩
      clear F
      go_simp
      exact HK.out _ _ ⟨_, _, _, _, _, _, _, _, _, _, _, _, _, _, _, _, rfl, HF.out⟩
    · have hst : S0 w1 ∨ S1 r1 w1 := by
        cases e1 : d_ 13 with
        | false => exact .inl ((F.st0 e1))
        | true =>
          have n_ : d_ 15 = false := by
            cases e_ : d_ 15 with
            | false => rfl
            | true => have h2 := (F.q15 e_).2.1; rw [show d_ 1 = false from hd_] at h2; cases h2
          exact .inr ((F.st1 e1 n_))
      have kk := kl1.out r1 w1 hst
      clear hst
      obtain rfl := F.f0 (by simp [hdep])
      have HF : Hid (mor9F bx b7 b12 k m n wb wn wc ob oo oc ai rn rc S0 S1 S2 (upd d_ 1) (.pointer (some ⟨b12, 2, none⟩)) (.slice (some ⟨wb, 0, none⟩) wn wc) x84 x85 x86 x87 x88 x89 x90 x91 x92 x93 x94 x95 x96 r1 w1) := ⟨fun _ => (show _ from (by simp [hdep] : d_ 0 = true)), F.q5, F.q7, F.q8, F.q10, F.q12, F.q13, fun h => ⟨(F.q14 h).1, rfl, (F.q14 h).2.2.1, (F.q14 h).2.2.2.1, (F.q14 h).2.2.2.2.1, (F.q14 h).2.2.2.2.2.1, (F.q14 h).2.2.2.2.2.2.1, (F.q14 h).2.2.2.2.2.2.2.1, (F.q14 h).2.2.2.2.2.2.2.2.1, (F.q14 h).2.2.2.2.2.2.2.2.2.1, (F.q14 h).2.2.2.2.2.2.2.2.2.2.1, (F.q14 h).2.2.2.2.2.2.2.2.2.2.2.1, (F.q14 h).2.2.2.2.2.2.2.2.2.2.2.2.1, (F.q14 h).2.2.2.2.2.2.2.2.2.2.2.2.2⟩, fun h => ⟨(F.q15 h).1, rfl, (F.q15 h).2.2.1, (F.q15 h).2.2.2.1, (F.q15 h).2.2.2.2.1, (F.q15 h).2.2.2.2.2.1, (F.q15 h).2.2.2.2.2.2.1, (F.q15 h).2.2.2.2.2.2.2.1, (F.q15 h).2.2.2.2.2.2.2.2.1, (F.q15 h).2.2.2.2.2.2.2.2.2.1, (F.q15 h).2.2.2.2.2.2.2.2.2.2.1, (F.q15 h).2.2.2.2.2.2.2.2.2.2.2.1, (F.q15 h).2.2.2.2.2.2.2.2.2.2.2.2.1, (F.q15 h).2.2.2.2.2.2.2.2.2.2.2.2.2.1, (F.q15 h).2.2.2.2.2.2.2.2.2.2.2.2.2.2⟩, F.f0, fun _ => rfl, F.f2, F.f3, F.f4, F.f5, F.f6, F.f7, F.f8, F.f9, F.f10, F.f11, F.f12, F.f13, F.f14, F.st0, F.st1, F.st2⟩
      clear F
      go_simp
      exact HK.out _ _ ⟨_, _, _, _, _, _, _, _, _, _, _, _, _, _, _, _, rfl, HF.out⟩
    · have HF : Hid (mor9F bx b7 b12 k m n wb wn wc ob oo oc ai rn rc S0 S1 S2 (upd d_ 2) x82 x83 (.int .i64 (k : Int)) x85 x86 x87 x88 x89 x90 x91 x92 x93 x94 x95 x96 r1 w1) := ⟨F.q1, F.q5, F.q7, F.q8, F.q10, F.q12, F.q13, fun h => ⟨(F.q14 h).1, (F.q14 h).2.1, rfl, (F.q14 h).2.2.2.1, (F.q14 h).2.2.2.2.1, (F.q14 h).2.2.2.2.2.1, (F.q14 h).2.2.2.2.2.2.1, (F.q14 h).2.2.2.2.2.2.2.1, (F.q14 h).2.2.2.2.2.2.2.2.1, (F.q14 h).2.2.2.2.2.2.2.2.2.1, (F.q14 h).2.2.2.2.2.2.2.2.2.2.1, (F.q14 h).2.2.2.2.2.2.2.2.2.2.2.1, (F.q14 h).2.2.2.2.2.2.2.2.2.2.2.2.1, (F.q14 h).2.2.2.2.2.2.2.2.2.2.2.2.2⟩, fun h => ⟨(F.q15 h).1, (F.q15 h).2.1, rfl, (F.q15 h).2.2.2.1, (F.q15 h).2.2.2.2.1, (F.q15 h).2.2.2.2.2.1, (F.q15 h).2.2.2.2.2.2.1, (F.q15 h).2.2.2.2.2.2.2.1, (F.q15 h).2.2.2.2.2.2.2.2.1, (F.q15 h).2.2.2.2.2.2.2.2.2.1, (F.q15 h).2.2.2.2.2.2.2.2.2.2.1, (F.q15 h).2.2.2.2.2.2.2.2.2.2.2.1, (F.q15 h).2.2.2.2.2.2.2.2.2.2.2.2.1, (F.q15 h).2.2.2.2.2.2.2.2.2.2.2.2.2.1, (F.q15 h).2.2.2.2.2.2.2.2.2.2.2.2.2.2⟩, F.f0, F.f1, fun _ => rfl, F.f3, F.f4, F.f5, F.f6, F.f7, F.f8, F.f9, F.f10, F.f11, F.f12, F.f13, F.f14, F.st0, F.st1, F.st2⟩
      clear F
      go_simp
      exact HK.out _ _ ⟨_, _, _, _, _, _, _, _, _, _, _, _, _, _, _, _, rfl, HF.out⟩
    · have HF : Hid (mor9F bx b7 b12 k m n wb wn wc ob oo oc ai rn rc S0 S1 S2 (upd d_ 3) x82 x83 x84 (.func (.func 40) #[] #[.pointer (some ⟨b7, 0, none⟩)]) x86 x87 x88 x89 x90 x91 x92 x93 x94 x95 x96 r1 w1) := ⟨F.q1, F.q5, F.q7, F.q8, F.q10, F.q12, fun h => ⟨rfl, (F.q13 h).2.1, (F.q13 h).2.2⟩, fun h => ⟨(F.q14 h).1, (F.q14 h).2.1, (F.q14 h).2.2.1, rfl, (F.q14 h).2.2.2.2.1, (F.q14 h).2.2.2.2.2.1, (F.q14 h).2.2.2.2.2.2.1, (F.q14 h).2.2.2.2.2.2.2.1, (F.q14 h).2.2.2.2.2.2.2.2.1, (F.q14 h).2.2.2.2.2.2.2.2.2.1, (F.q14 h).2.2.2.2.2.2.2.2.2.2.1, (F.q14 h).2.2.2.2.2.2.2.2.2.2.2.1, (F.q14 h).2.2.2.2.2.2.2.2.2.2.2.2.1, (F.q14 h).2.2.2.2.2.2.2.2.2.2.2.2.2⟩, fun h => ⟨(F.q15 h).1, (F.q15 h).2.1, (F.q15 h).2.2.1, rfl, (F.q15 h).2.2.2.2.1, (F.q15 h).2.2.2.2.2.1, (F.q15 h).2.2.2.2.2.2.1, (F.q15 h).2.2.2.2.2.2.2.1, (F.q15 h).2.2.2.2.2.2.2.2.1, (F.q15 h).2.2.2.2.2.2.2.2.2.1, (F.q15 h).2.2.2.2.2.2.2.2.2.2.1, (F.q15 h).2.2.2.2.2.2.2.2.2.2.2.1, (F.q15 h).2.2.2.2.2.2.2.2.2.2.2.2.1, (F.q15 h).2.2.2.2.2.2.2.2.2.2.2.2.2.1, (F.q15 h).2.2.2.2.2.2.2.2.2.2.2.2.2.2⟩, F.f0, F.f1, F.f2, fun _ => rfl, F.f4, F.f5, F.f6, F.f7, F.f8, F.f9, F.f10, F.f11, F.f12, F.f13, F.f14, F.st0, F.st1, F.st2⟩
      clear F
      go_simp
      exact HK.out _ _ ⟨_, _, _, _, _, _, _, _, _, _, _, _, _, _, _, _, rfl, HF.out⟩
    · have HF : Hid (mor9F bx b7 b12 k m n wb wn wc ob oo oc ai rn rc S0 S1 S2 (upd d_ 4) x82 x83 x84 x85 (.pointer (some ⟨bx, 2, none⟩)) x87 x88 x89 x90 x91 x92 x93 x94 x95 x96 r1 w1) := ⟨F.q1, fun h => rfl, F.q7, F.q8, F.q10, F.q12, F.q13, fun h => ⟨(F.q14 h).1, (F.q14 h).2.1, (F.q14 h).2.2.1, (F.q14 h).2.2.2.1, rfl, (F.q14 h).2.2.2.2.2.1, (F.q14 h).2.2.2.2.2.2.1, (F.q14 h).2.2.2.2.2.2.2.1, (F.q14 h).2.2.2.2.2.2.2.2.1, (F.q14 h).2.2.2.2.2.2.2.2.2.1, (F.q14 h).2.2.2.2.2.2.2.2.2.2.1, (F.q14 h).2.2.2.2.2.2.2.2.2.2.2.1, (F.q14 h).2.2.2.2.2.2.2.2.2.2.2.2.1, (F.q14 h).2.2.2.2.2.2.2.2.2.2.2.2.2⟩, fun h => ⟨(F.q15 h).1, (F.q15 h).2.1, (F.q15 h).2.2.1, (F.q15 h).2.2.2.1, rfl, (F.q15 h).2.2.2.2.2.1, (F.q15 h).2.2.2.2.2.2.1, (F.q15 h).2.2.2.2.2.2.2.1, (F.q15 h).2.2.2.2.2.2.2.2.1, (F.q15 h).2.2.2.2.2.2.2.2.2.1, (F.q15 h).2.2.2.2.2.2.2.2.2.2.1, (F.q15 h).2.2.2.2.2.2.2.2.2.2.2.1, (F.q15 h).2.2.2.2.2.2.2.2.2.2.2.2.1, (F.q15 h).2.2.2.2.2.2.2.2.2.2.2.2.2.1, (F.q15 h).2.2.2.2.2.2.2.2.2.2.2.2.2.2⟩, F.f0, F.f1, F.f2, F.f3, fun _ => rfl, F.f5, F.f6, F.f7, F.f8, F.f9, F.f10, F.f11, F.f12, F.f13, F.f14, F.st0, F.st1, F.st2⟩
      clear F
      go_simp
      exact HK.out _ _ ⟨_, _, _, _, _, _, _, _, _, _, _, _, _, _, _, _, rfl, HF.out⟩
    · have hst : S0 w1 := by
        have n_ : d_ 13 = false := by
          cases e_ : d_ 13 with
          | false => rfl
          | true => have h2 := (F.q7 (F.q8 (F.q13 e_).2.1)).1; rw [show d_ 5 = false from hd_] at h2; cases h2
        exact (F.st0 n_)
      have kk := kl5.out w1 hst
      clear hst
      obtain rfl := F.f4 (by simp [hdep])
      have HF : Hid (mor9F bx b7 b12 k m n wb wn wc ob oo oc ai rn rc S0 S1 S2 (upd d_ 5) x82 x83 x84 x85 (.pointer (some ⟨bx, 2, none⟩)) (.slice (some ⟨ob, oo, none⟩) wn oc) x88 x89 x90 x91 x92 x93 x94 x95 x96 r1 w1) := ⟨F.q1, fun _ => (show _ from (by simp [hdep] : d_ 4 = true)), fun h => ⟨rfl, (F.q7 h).2⟩, F.q8, F.q10, F.q12, F.q13, fun h => ⟨(F.q14 h).1, (F.q14 h).2.1, (F.q14 h).2.2.1, (F.q14 h).2.2.2.1, (F.q14 h).2.2.2.2.1, rfl, (F.q14 h).2.2.2.2.2.2.1, (F.q14 h).2.2.2.2.2.2.2.1, (F.q14 h).2.2.2.2.2.2.2.2.1, (F.q14 h).2.2.2.2.2.2.2.2.2.1, (F.q14 h).2.2.2.2.2.2.2.2.2.2.1, (F.q14 h).2.2.2.2.2.2.2.2.2.2.2.1, (F.q14 h).2.2.2.2.2.2.2.2.2.2.2.2.1, (F.q14 h).2.2.2.2.2.2.2.2.2.2.2.2.2⟩, fun h => ⟨(F.q15 h).1, (F.q15 h).2.1, (F.q15 h).2.2.1, (F.q15 h).2.2.2.1, (F.q15 h).2.2.2.2.1, rfl, (F.q15 h).2.2.2.2.2.2.1, (F.q15 h).2.2.2.2.2.2.2.1, (F.q15 h).2.2.2.2.2.2.2.2.1, (F.q15 h).2.2.2.2.2.2.2.2.2.1, (F.q15 h).2.2.2.2.2.2.2.2.2.2.1, (F.q15 h).2.2.2.2.2.2.2.2.2.2.2.1, (F.q15 h).2.2.2.2.2.2.2.2.2.2.2.2.1, (F.q15 h).2.2.2.2.2.2.2.2.2.2.2.2.2.1, (F.q15 h).2.2.2.2.2.2.2.2.2.2.2.2.2.2⟩, F.f0, F.f1, F.f2, F.f3, F.f4, fun _ => rfl, F.f6, F.f7, F.f8, F.f9, F.f10, F.f11, F.f12, F.f13, F.f14, F.st0, F.st1, F.st2⟩
      clear F
      go_simp
      exact HK.out _ _ ⟨_, _, _, _, _, _, _, _, _, _, _, _, _, _, _, _, rfl, HF.out⟩
    · have HF : Hid (mor9F bx b7 b12 k m n wb wn wc ob oo oc ai rn rc S0 S1 S2 (upd d_ 6) x82 x83 x84 x85 x86 x87 (.int .i64 (k : Int)) x89 x90 x91 x92 x93 x94 x95 x96 r1 w1) := ⟨F.q1, F.q5, fun h => ⟨(F.q7 h).1, rfl⟩, F.q8, F.q10, F.q12, F.q13, fun h => ⟨(F.q14 h).1, (F.q14 h).2.1, (F.q14 h).2.2.1, (F.q14 h).2.2.2.1, (F.q14 h).2.2.2.2.1, (F.q14 h).2.2.2.2.2.1, rfl, (F.q14 h).2.2.2.2.2.2.2.1, (F.q14 h).2.2.2.2.2.2.2.2.1, (F.q14 h).2.2.2.2.2.2.2.2.2.1, (F.q14 h).2.2.2.2.2.2.2.2.2.2.1, (F.q14 h).2.2.2.2.2.2.2.2.2.2.2.1, (F.q14 h).2.2.2.2.2.2.2.2.2.2.2.2.1, (F.q14 h).2.2.2.2.2.2.2.2.2.2.2.2.2⟩, fun h => ⟨(F.q15 h).1, (F.q15 h).2.1, (F.q15 h).2.2.1, (F.q15 h).2.2.2.1, (F.q15 h).2.2.2.2.1, (F.q15 h).2.2.2.2.2.1, rfl, (F.q15 h).2.2.2.2.2.2.2.1, (F.q15 h).2.2.2.2.2.2.2.2.1, (F.q15 h).2.2.2.2.2.2.2.2.2.1, (F.q15 h).2.2.2.2.2.2.2.2.2.2.1, (F.q15 h).2.2.2.2.2.2.2.2.2.2.2.1, (F.q15 h).2.2.2.2.2.2.2.2.2.2.2.2.1, (F.q15 h).2.2.2.2.2.2.2.2.2.2.2.2.2.1, (F.q15 h).2.2.2.2.2.2.2.2.2.2.2.2.2.2⟩, F.f0, F.f1, F.f2, F.f3, F.f4, F.f5, fun _ => rfl, F.f7, F.f8, F.f9, F.f10, F.f11, F.f12, F.f13, F.f14, F.st0, F.st1, F.st2⟩
      clear F
      go_simp
      exact HK.out _ _ ⟨_, _, _, _, _, _, _, _, _, _, _, _, _, _, _, _, rfl, HF.out⟩
    · obtain rfl := F.f5 (by simp [hdep])
      obtain rfl := F.f6 (by simp [hdep])
      have HF : Hid (mor9F bx b7 b12 k m n wb wn wc ob oo oc ai rn rc S0 S1 S2 (upd d_ 7) x82 x83 x84 x85 x86 (.slice (some ⟨ob, oo, none⟩) wn oc) (.int .i64 (k : Int)) (.pointer (some ⟨ob, oo + k, none⟩)) x90 x91 x92 x93 x94 x95 x96 r1 w1) := ⟨F.q1, F.q5, fun _ => ⟨(show _ from (by simp [hdep] : d_ 5 = true)), (show _ from (by simp [hdep] : d_ 6 = true))⟩, fun h => rfl, F.q10, F.q12, F.q13, fun h => ⟨(F.q14 h).1, (F.q14 h).2.1, (F.q14 h).2.2.1, (F.q14 h).2.2.2.1, (F.q14 h).2.2.2.2.1, (F.q14 h).2.2.2.2.2.1, (F.q14 h).2.2.2.2.2.2.1, rfl, (F.q14 h).2.2.2.2.2.2.2.2.1, (F.q14 h).2.2.2.2.2.2.2.2.2.1, (F.q14 h).2.2.2.2.2.2.2.2.2.2.1, (F.q14 h).2.2.2.2.2.2.2.2.2.2.2.1, (F.q14 h).2.2.2.2.2.2.2.2.2.2.2.2.1, (F.q14 h).2.2.2.2.2.2.2.2.2.2.2.2.2⟩, fun h => ⟨(F.q15 h).1, (F.q15 h).2.1, (F.q15 h).2.2.1, (F.q15 h).2.2.2.1, (F.q15 h).2.2.2.2.1, (F.q15 h).2.2.2.2.2.1, (F.q15 h).2.2.2.2.2.2.1, rfl, (F.q15 h).2.2.2.2.2.2.2.2.1, (F.q15 h).2.2.2.2.2.2.2.2.2.1, (F.q15 h).2.2.2.2.2.2.2.2.2.2.1, (F.q15 h).2.2.2.2.2.2.2.2.2.2.2.1, (F.q15 h).2.2.2.2.2.2.2.2.2.2.2.2.1, (F.q15 h).2.2.2.2.2.2.2.2.2.2.2.2.2.1, (F.q15 h).2.2.2.2.2.2.2.2.2.2.2.2.2.2⟩, F.f0, F.f1, F.f2, F.f3, F.f4, F.f5, F.f6, fun _ => rfl, F.f8, F.f9, F.f10, F.f11, F.f12, F.f13, F.f14, F.st0, F.st1, F.st2⟩
      clear F
      have hkw2 : k < wn := hkw
      go_simp
      exact HK.out _ _ ⟨_, _, _, _, _, _, _, _, _, _, _, _, _, _, _, _, rfl, HF.out⟩
    · have hst : S0 w1 := by
        have n_ : d_ 13 = false := by
          cases e_ : d_ 13 with
          | false => rfl
          | true => have h2 := (F.q13 e_).2.1; rw [show d_ 8 = false from hd_] at h2; cases h2
        exact (F.st0 n_)
      have kk := kl8.out w1 hst
      clear hst
      obtain rfl := F.f7 (by simp [hdep])
      have HF : Hid (mor9F bx b7 b12 k m n wb wn wc ob oo oc ai rn rc S0 S1 S2 (upd d_ 8) x82 x83 x84 x85 x86 x87 x88 (.pointer (some ⟨ob, oo + k, none⟩)) (.slice ai rn rc) x91 x92 x93 x94 x95 x96 r1 w1) := ⟨F.q1, F.q5, F.q7, fun _ => (show _ from (by simp [hdep] : d_ 7 = true)), F.q10, F.q12, fun h => ⟨(F.q13 h).1, rfl, (F.q13 h).2.2⟩, fun h => ⟨(F.q14 h).1, (F.q14 h).2.1, (F.q14 h).2.2.1, (F.q14 h).2.2.2.1, (F.q14 h).2.2.2.2.1, (F.q14 h).2.2.2.2.2.1, (F.q14 h).2.2.2.2.2.2.1, (F.q14 h).2.2.2.2.2.2.2.1, rfl, (F.q14 h).2.2.2.2.2.2.2.2.2.1, (F.q14 h).2.2.2.2.2.2.2.2.2.2.1, (F.q14 h).2.2.2.2.2.2.2.2.2.2.2.1, (F.q14 h).2.2.2.2.2.2.2.2.2.2.2.2.1, (F.q14 h).2.2.2.2.2.2.2.2.2.2.2.2.2⟩, fun h => ⟨(F.q15 h).1, (F.q15 h).2.1, (F.q15 h).2.2.1, (F.q15 h).2.2.2.1, (F.q15 h).2.2.2.2.1, (F.q15 h).2.2.2.2.2.1, (F.q15 h).2.2.2.2.2.2.1, (F.q15 h).2.2.2.2.2.2.2.1, rfl, (F.q15 h).2.2.2.2.2.2.2.2.2.1, (F.q15 h).2.2.2.2.2.2.2.2.2.2.1, (F.q15 h).2.2.2.2.2.2.2.2.2.2.2.1, (F.q15 h).2.2.2.2.2.2.2.2.2.2.2.2.1, (F.q15 h).2.2.2.2.2.2.2.2.2.2.2.2.2.1, (F.q15 h).2.2.2.2.2.2.2.2.2.2.2.2.2.2⟩, F.f0, F.f1, F.f2, F.f3, F.f4, F.f5, F.f6, F.f7, fun _ => rfl, F.f9, F.f10, F.f11, F.f12, F.f13, F.f14, F.st0, F.st1, F.st2⟩
      clear F
      go_simp
      exact HK.out _ _ ⟨_, _, _, _, _, _, _, _, _, _, _, _, _, _, _, _, rfl, HF.out⟩
    · have HF : Hid (mor9F bx b7 b12 k m n wb wn wc ob oo oc ai rn rc S0 S1 S2 (upd d_ 9) x82 x83 x84 x85 x86 x87 x88 x89 x90 (.int .i64 (k : Int)) x92 x93 x94 x95 x96 r1 w1) := ⟨F.q1, F.q5, F.q7, F.q8, fun h => rfl, F.q12, F.q13, fun h => ⟨(F.q14 h).1, (F.q14 h).2.1, (F.q14 h).2.2.1, (F.q14 h).2.2.2.1, (F.q14 h).2.2.2.2.1, (F.q14 h).2.2.2.2.2.1, (F.q14 h).2.2.2.2.2.2.1, (F.q14 h).2.2.2.2.2.2.2.1, (F.q14 h).2.2.2.2.2.2.2.2.1, rfl, (F.q14 h).2.2.2.2.2.2.2.2.2.2.1, (F.q14 h).2.2.2.2.2.2.2.2.2.2.2.1, (F.q14 h).2.2.2.2.2.2.2.2.2.2.2.2.1, (F.q14 h).2.2.2.2.2.2.2.2.2.2.2.2.2⟩, fun h => ⟨(F.q15 h).1, (F.q15 h).2.1, (F.q15 h).2.2.1, (F.q15 h).2.2.2.1, (F.q15 h).2.2.2.2.1, (F.q15 h).2.2.2.2.2.1, (F.q15 h).2.2.2.2.2.2.1, (F.q15 h).2.2.2.2.2.2.2.1, (F.q15 h).2.2.2.2.2.2.2.2.1, rfl, (F.q15 h).2.2.2.2.2.2.2.2.2.2.1, (F.q15 h).2.2.2.2.2.2.2.2.2.2.2.1, (F.q15 h).2.2.2.2.2.2.2.2.2.2.2.2.1, (F.q15 h).2.2.2.2.2.2.2.2.2.2.2.2.2.1, (F.q15 h).2.2.2.2.2.2.2.2.2.2.2.2.2.2⟩, F.f0, F.f1, F.f2, F.f3, F.f4, F.f5, F.f6, F.f7, F.f8, fun _ => rfl, F.f10, F.f11, F.f12, F.f13, F.f14, F.st0, F.st1, F.st2⟩
      clear F
      go_simp
      exact HK.out _ _ ⟨_, _, _, _, _, _, _, _, _, _, _, _, _, _, _, _, rfl, HF.out⟩
    · obtain rfl := F.f9 (by simp [hdep])
      have HF : Hid (mor9F bx b7 b12 k m n wb wn wc ob oo oc ai rn rc S0 S1 S2 (upd d_ 10) x82 x83 x84 x85 x86 x87 x88 x89 x90 (.int .i64 (k : Int)) (.int .i64 ((k : Int) + 1)) x93 x94 x95 x96 r1 w1) := ⟨F.q1, F.q5, F.q7, F.q8, fun _ => (show _ from (by simp [hdep] : d_ 9 = true)), fun h => ⟨rfl, (F.q12 h).2⟩, F.q13, fun h => ⟨(F.q14 h).1, (F.q14 h).2.1, (F.q14 h).2.2.1, (F.q14 h).2.2.2.1, (F.q14 h).2.2.2.2.1, (F.q14 h).2.2.2.2.2.1, (F.q14 h).2.2.2.2.2.2.1, (F.q14 h).2.2.2.2.2.2.2.1, (F.q14 h).2.2.2.2.2.2.2.2.1, (F.q14 h).2.2.2.2.2.2.2.2.2.1, rfl, (F.q14 h).2.2.2.2.2.2.2.2.2.2.2.1, (F.q14 h).2.2.2.2.2.2.2.2.2.2.2.2.1, (F.q14 h).2.2.2.2.2.2.2.2.2.2.2.2.2⟩, fun h => ⟨(F.q15 h).1, (F.q15 h).2.1, (F.q15 h).2.2.1, (F.q15 h).2.2.2.1, (F.q15 h).2.2.2.2.1, (F.q15 h).2.2.2.2.2.1, (F.q15 h).2.2.2.2.2.2.1, (F.q15 h).2.2.2.2.2.2.2.1, (F.q15 h).2.2.2.2.2.2.2.2.1, (F.q15 h).2.2.2.2.2.2.2.2.2.1, rfl, (F.q15 h).2.2.2.2.2.2.2.2.2.2.2.1, (F.q15 h).2.2.2.2.2.2.2.2.2.2.2.2.1, (F.q15 h).2.2.2.2.2.2.2.2.2.2.2.2.2.1, (F.q15 h).2.2.2.2.2.2.2.2.2.2.2.2.2.2⟩, F.f0, F.f1, F.f2, F.f3, F.f4, F.f5, F.f6, F.f7, F.f8, F.f9, fun _ => rfl, F.f11, F.f12, F.f13, F.f14, F.st0, F.st1, F.st2⟩
      clear F
      have hw2 := hw
      go_simp
      exact HK.out _ _ ⟨_, _, _, _, _, _, _, _, _, _, _, _, _, _, _, _, rfl, HF.out⟩
    · have HF : Hid (mor9F bx b7 b12 k m n wb wn wc ob oo oc ai rn rc S0 S1 S2 (upd d_ 11) x82 x83 x84 x85 x86 x87 x88 x89 x90 x91 x92 (.int .i64 (n : Int)) x94 x95 x96 r1 w1) := ⟨F.q1, F.q5, F.q7, F.q8, F.q10, fun h => ⟨(F.q12 h).1, rfl⟩, F.q13, fun h => ⟨(F.q14 h).1, (F.q14 h).2.1, (F.q14 h).2.2.1, (F.q14 h).2.2.2.1, (F.q14 h).2.2.2.2.1, (F.q14 h).2.2.2.2.2.1, (F.q14 h).2.2.2.2.2.2.1, (F.q14 h).2.2.2.2.2.2.2.1, (F.q14 h).2.2.2.2.2.2.2.2.1, (F.q14 h).2.2.2.2.2.2.2.2.2.1, (F.q14 h).2.2.2.2.2.2.2.2.2.2.1, rfl, (F.q14 h).2.2.2.2.2.2.2.2.2.2.2.2.1, (F.q14 h).2.2.2.2.2.2.2.2.2.2.2.2.2⟩, fun h => ⟨(F.q15 h).1, (F.q15 h).2.1, (F.q15 h).2.2.1, (F.q15 h).2.2.2.1, (F.q15 h).2.2.2.2.1, (F.q15 h).2.2.2.2.2.1, (F.q15 h).2.2.2.2.2.2.1, (F.q15 h).2.2.2.2.2.2.2.1, (F.q15 h).2.2.2.2.2.2.2.2.1, (F.q15 h).2.2.2.2.2.2.2.2.2.1, (F.q15 h).2.2.2.2.2.2.2.2.2.2.1, rfl, (F.q15 h).2.2.2.2.2.2.2.2.2.2.2.2.1, (F.q15 h).2.2.2.2.2.2.2.2.2.2.2.2.2.1, (F.q15 h).2.2.2.2.2.2.2.2.2.2.2.2.2.2⟩, F.f0, F.f1, F.f2, F.f3, F.f4, F.f5, F.f6, F.f7, F.f8, F.f9, F.f10, fun _ => rfl, F.f12, F.f13, F.f14, F.st0, F.st1, F.st2⟩
      clear F
      go_simp
      exact HK.out _ _ ⟨_, _, _, _, _, _, _, _, _, _, _, _, _, _, _, _, rfl, HF.out⟩
    · obtain rfl := F.f10 (by simp [hdep])
      obtain rfl := F.f11 (by simp [hdep])
      have HF : Hid (mor9F bx b7 b12 k m n wb wn wc ob oo oc ai rn rc S0 S1 S2 (upd d_ 12) x82 x83 x84 x85 x86 x87 x88 x89 x90 x91 (.int .i64 ((k : Int) + 1)) (.int .i64 (n : Int)) (.int .i64 (m : Int)) x95 x96 r1 w1) := ⟨F.q1, F.q5, F.q7, F.q8, F.q10, fun _ => ⟨(show _ from (by simp [hdep] : d_ 10 = true)), (show _ from (by simp [hdep] : d_ 11 = true))⟩, fun h => ⟨(F.q13 h).1, (F.q13 h).2.1, rfl⟩, fun h => ⟨(F.q14 h).1, (F.q14 h).2.1, (F.q14 h).2.2.1, (F.q14 h).2.2.2.1, (F.q14 h).2.2.2.2.1, (F.q14 h).2.2.2.2.2.1, (F.q14 h).2.2.2.2.2.2.1, (F.q14 h).2.2.2.2.2.2.2.1, (F.q14 h).2.2.2.2.2.2.2.2.1, (F.q14 h).2.2.2.2.2.2.2.2.2.1, (F.q14 h).2.2.2.2.2.2.2.2.2.2.1, (F.q14 h).2.2.2.2.2.2.2.2.2.2.2.1, rfl, (F.q14 h).2.2.2.2.2.2.2.2.2.2.2.2.2⟩, fun h => ⟨(F.q15 h).1, (F.q15 h).2.1, (F.q15 h).2.2.1, (F.q15 h).2.2.2.1, (F.q15 h).2.2.2.2.1, (F.q15 h).2.2.2.2.2.1, (F.q15 h).2.2.2.2.2.2.1, (F.q15 h).2.2.2.2.2.2.2.1, (F.q15 h).2.2.2.2.2.2.2.2.1, (F.q15 h).2.2.2.2.2.2.2.2.2.1, (F.q15 h).2.2.2.2.2.2.2.2.2.2.1, (F.q15 h).2.2.2.2.2.2.2.2.2.2.2.1, rfl, (F.q15 h).2.2.2.2.2.2.2.2.2.2.2.2.2.1, (F.q15 h).2.2.2.2.2.2.2.2.2.2.2.2.2.2⟩, F.f0, F.f1, F.f2, F.f3, F.f4, F.f5, F.f6, F.f7, F.f8, F.f9, F.f10, F.f11, fun _ => rfl, F.f13, F.f14, F.st0, F.st1, F.st2⟩
      clear F
      have hm2 := hm
      have hn2 := hn
      go_simp
      exact HK.out _ _ ⟨_, _, _, _, _, _, _, _, _, _, _, _, _, _, _, _, rfl, HF.out⟩
    · have hS := F.st0  hd_
      obtain rfl := F.f3 (by simp [hdep])
      obtain rfl := F.f8 (by simp [hdep])
      obtain rfl := F.f12 (by simp [hdep])
      have hc := kc13.out w1 hS
      have HF := Lib.hid F
      clear F
      go_simp
      refine ⟨trivial, rfl, wideAt_calls (hc.mono ?_)⟩
      rintro e w5 ⟨v_, rfl, hres⟩
      exact HK.out _ _ ⟨_, _, _, _, _, _, _, _, _, _, _, _, _, _, _, v_, rfl, ⟨HF.out.q1, HF.out.q5, HF.out.q7, HF.out.q8, HF.out.q10, HF.out.q12, fun _ => ⟨(show _ from (by simp [hdep] : d_ 3 = true)), (show _ from (by simp [hdep] : d_ 8 = true)), (show _ from (by simp [hdep] : d_ 12 = true))⟩, fun h => ⟨(HF.out.q14 h).1, (HF.out.q14 h).2.1, (HF.out.q14 h).2.2.1, (HF.out.q14 h).2.2.2.1, (HF.out.q14 h).2.2.2.2.1, (HF.out.q14 h).2.2.2.2.2.1, (HF.out.q14 h).2.2.2.2.2.2.1, (HF.out.q14 h).2.2.2.2.2.2.2.1, (HF.out.q14 h).2.2.2.2.2.2.2.2.1, (HF.out.q14 h).2.2.2.2.2.2.2.2.2.1, (HF.out.q14 h).2.2.2.2.2.2.2.2.2.2.1, (HF.out.q14 h).2.2.2.2.2.2.2.2.2.2.2.1, (HF.out.q14 h).2.2.2.2.2.2.2.2.2.2.2.2.1, rfl⟩, fun h => ⟨(HF.out.q15 h).1, (HF.out.q15 h).2.1, (HF.out.q15 h).2.2.1, (HF.out.q15 h).2.2.2.1, (HF.out.q15 h).2.2.2.2.1, (HF.out.q15 h).2.2.2.2.2.1, (HF.out.q15 h).2.2.2.2.2.2.1, (HF.out.q15 h).2.2.2.2.2.2.2.1, (HF.out.q15 h).2.2.2.2.2.2.2.2.1, (HF.out.q15 h).2.2.2.2.2.2.2.2.2.1, (HF.out.q15 h).2.2.2.2.2.2.2.2.2.2.1, (HF.out.q15 h).2.2.2.2.2.2.2.2.2.2.2.1, (HF.out.q15 h).2.2.2.2.2.2.2.2.2.2.2.2.1, rfl, (HF.out.q15 h).2.2.2.2.2.2.2.2.2.2.2.2.2.2⟩, HF.out.f0, HF.out.f1, HF.out.f2, HF.out.f3, HF.out.f4, HF.out.f5, HF.out.f6, HF.out.f7, HF.out.f8, HF.out.f9, HF.out.f10, HF.out.f11, HF.out.f12, fun _ => rfl, HF.out.f14, fun h => (by simp [upd] at h), fun _ _ => hres, fun h => (by have h2 : d_ 13 = true := (HF.out.q15 h).2.2.2.2.2.2.2.2.2.2.2.2.2.1; rw [show d_ 13 = false from hd_] at h2; cases h2)⟩⟩
    · obtain rfl := F.f1 (by simp [hdep])
      obtain rfl := F.f2 (by simp [hdep])
      have HF : Hid (mor9F bx b7 b12 k m n wb wn wc ob oo oc ai rn rc S0 S1 S2 (upd d_ 14) x82 (.slice (some ⟨wb, 0, none⟩) wn wc) (.int .i64 (k : Int)) x85 x86 x87 x88 x89 x90 x91 x92 x93 x94 x95 (.pointer (some ⟨wb, k, none⟩)) r1 w1) := ⟨F.q1, F.q5, F.q7, F.q8, F.q10, F.q12, F.q13, fun _ => ⟨(show _ from (by simp [hdep] : d_ 0 = true)), (show _ from (by simp [hdep] : d_ 1 = true)), (show _ from (by simp [hdep] : d_ 2 = true)), (show _ from (by simp [hdep] : d_ 3 = true)), (show _ from (by simp [hdep] : d_ 4 = true)), (show _ from (by simp [hdep] : d_ 5 = true)), (show _ from (by simp [hdep] : d_ 6 = true)), (show _ from (by simp [hdep] : d_ 7 = true)), (show _ from (by simp [hdep] : d_ 8 = true)), (show _ from (by simp [hdep] : d_ 9 = true)), (show _ from (by simp [hdep] : d_ 10 = true)), (show _ from (by simp [hdep] : d_ 11 = true)), (show _ from (by simp [hdep] : d_ 12 = true)), (show _ from (by simp [hdep] : d_ 13 = true))⟩, fun h => ⟨(F.q15 h).1, (F.q15 h).2.1, (F.q15 h).2.2.1, (F.q15 h).2.2.2.1, (F.q15 h).2.2.2.2.1, (F.q15 h).2.2.2.2.2.1, (F.q15 h).2.2.2.2.2.2.1, (F.q15 h).2.2.2.2.2.2.2.1, (F.q15 h).2.2.2.2.2.2.2.2.1, (F.q15 h).2.2.2.2.2.2.2.2.2.1, (F.q15 h).2.2.2.2.2.2.2.2.2.2.1, (F.q15 h).2.2.2.2.2.2.2.2.2.2.2.1, (F.q15 h).2.2.2.2.2.2.2.2.2.2.2.2.1, (F.q15 h).2.2.2.2.2.2.2.2.2.2.2.2.2.1, rfl⟩, F.f0, F.f1, F.f2, F.f3, F.f4, F.f5, F.f6, F.f7, F.f8, F.f9, F.f10, F.f11, F.f12, F.f13, fun _ => rfl, F.st0, F.st1, F.st2⟩
      clear F
      have hkw2 : k < wn := hkw
      go_simp
      exact HK.out _ _ ⟨_, _, _, _, _, _, _, _, _, _, _, _, _, _, _, _, rfl, HF.out⟩
    · have hS := F.st1 (by simp [hdep] : d_ 13 = true) hd_
      obtain rfl := F.f13 (by simp [hdep])
      obtain rfl := F.f14 (by simp [hdep])
      obtain ⟨⟨ku0, kcell0⟩, kfr0, hres⟩ := kc15.out r1 w1 hS
      have HF : Hid (mor9F bx b7 b12 k m n wb wn wc ob oo oc ai rn rc S0 S1 S2 (upd d_ 15) x82 x83 x84 x85 x86 x87 x88 x89 x90 x91 x92 x93 x94 (.slice (some ⟨r1.1, 0, none⟩) rn r1.2) (.pointer (some ⟨wb, k, none⟩)) r1 (w1.setCell ⟨wb, k, none⟩ (.slice (some ⟨r1.1, 0, none⟩) rn r1.2))) := ⟨F.q1, F.q5, F.q7, F.q8, F.q10, F.q12, F.q13, F.q14, fun _ => ⟨(show _ from (by simp [hdep] : d_ 0 = true)), (show _ from (by simp [hdep] : d_ 1 = true)), (show _ from (by simp [hdep] : d_ 2 = true)), (show _ from (by simp [hdep] : d_ 3 = true)), (show _ from (by simp [hdep] : d_ 4 = true)), (show _ from (by simp [hdep] : d_ 5 = true)), (show _ from (by simp [hdep] : d_ 6 = true)), (show _ from (by simp [hdep] : d_ 7 = true)), (show _ from (by simp [hdep] : d_ 8 = true)), (show _ from (by simp [hdep] : d_ 9 = true)), (show _ from (by simp [hdep] : d_ 10 = true)), (show _ from (by simp [hdep] : d_ 11 = true)), (show _ from (by simp [hdep] : d_ 12 = true)), (show _ from (by simp [hdep] : d_ 13 = true)), (show _ from (by simp [hdep] : d_ 14 = true))⟩, F.f0, F.f1, F.f2, F.f3, F.f4, F.f5, F.f6, F.f7, F.f8, F.f9, F.f10, F.f11, F.f12, F.f13, F.f14, fun h => (by have h2 : d_ 13 = false := h; rw [(by simp [hdep] : d_ 13 = true)] at h2; cases h2), fun _ h => (by simp [upd] at h), fun _ => hres⟩
      clear F hS hres
      go_simp
      exact HK.out _ _ ⟨_, _, _, _, _, _, _, _, _, _, _, _, _, _, _, _, rfl, HF.out⟩
  · rintro d_ a_ w1 hall ⟨x82, x83, x84, x85, x86, x87, x88, x89, x90, x91, x92, x93, x94, x95, x96, r1, rfl, F⟩
    have hall' : ∀ k, k < 16 → d_ k = true := hall
    obtain rfl := F.f0 (hall' 0 (by decide))
    obtain rfl := F.f1 (hall' 1 (by decide))
    obtain rfl := F.f2 (hall' 2 (by decide))
    obtain rfl := F.f3 (hall' 3 (by decide))
    obtain rfl := F.f4 (hall' 4 (by decide))
    obtain rfl := F.f5 (hall' 5 (by decide))
    obtain rfl := F.f6 (hall' 6 (by decide))
    obtain rfl := F.f7 (hall' 7 (by decide))
    obtain rfl := F.f8 (hall' 8 (by decide))
    obtain rfl := F.f9 (hall' 9 (by decide))
    obtain rfl := F.f10 (hall' 10 (by decide))
    obtain rfl := F.f11 (hall' 11 (by decide))
    obtain rfl := F.f12 (hall' 12 (by decide))
    obtain rfl := F.f13 (hall' 13 (by decide))
    obtain rfl := F.f14 (hall' 14 (by decide))
    have hst := F.st2 (hall' 15 (by decide))
    exact HQ.out r1 w1 hst
end Go.Proofs.Ytphefhpmbahagaa
