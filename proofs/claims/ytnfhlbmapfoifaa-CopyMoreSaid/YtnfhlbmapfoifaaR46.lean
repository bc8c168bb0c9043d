/- The drawn regions of CopyMore's law. -/
import Derived.Test.YtnfhlbmapfoifaaR45
import Derived.Lib.MinMax
namespace Go.Proofs.Ytnfhlbmapfoifaa
open Go.RowKit
set_option linter.unusedVariables false
set_option linter.unusedSimpArgs false

structure mor4F (W1 : World) (p : Prs) (av : Option Addr) (cap : Nat) (bx : Nat) (d : Nat → Bool) (x58 x59 x60 x9 x10 x11 : Value) (w : World) : Prop where
  same : Below W1.heap.size W1 w
  f0 : d 0 = true → x58 = p.v av cap
  f1 : d 1 = true → x59 = p.v av cap
  f2 : d 2 = true → x60 = p.v av cap
  f3 : d 3 = true → ∃ bq : Nat, x9 = .pointer (some ⟨bq, 0, none⟩) ∧ W1.heap.size ≤ bq ∧ w.heap[bq]? = some (.cells (if d 6 then (p.cells av cap) else #[.slice none 0 0, .int .i64 0, .int .i64 0, .int .i64 0, .int .i64 0]) 26 (0, 0))
  o6 : d 6 = true → d 3 = true
  f4 : d 4 = true → ∃ bq : Nat, x10 = .pointer (some ⟨bq, 0, none⟩) ∧ W1.heap.size ≤ bq ∧ w.heap[bq]? = some (.cells (if d 7 then (p.cells av cap) else #[.slice none 0 0, .int .i64 0, .int .i64 0, .int .i64 0, .int .i64 0]) 26 (0, 0))
  o7 : d 7 = true → d 4 = true
  f5 : d 5 = true → ∃ bq : Nat, x11 = .pointer (some ⟨bq, 0, none⟩) ∧ W1.heap.size ≤ bq ∧ w.heap[bq]? = some (.cells (if d 8 then (p.cells av cap) else #[.slice none 0 0, .int .i64 0, .int .i64 0, .int .i64 0, .int .i64 0]) 26 (0, 0))
  o8 : d 8 = true → d 5 = true
  n3_4 : d 3 = true → d 4 = true → x9 ≠ x10
  n3_5 : d 3 = true → d 5 = true → x9 ≠ x11
  n4_5 : d 4 = true → d 5 = true → x10 ≠ x11
section
variable {W1 : World} {p : Prs} {av : Option Addr} {cap : Nat} {bx : Nat} {d : Nat → Bool} {x58 x59 x60 x9 x10 x11 : Value} {w w' : World}
theorem mor4F.s0 (F : mor4F W1 p av cap bx d x58 x59 x60 x9 x10 x11 w) : mor4F W1 p av cap bx (upd d 0) (p.v av cap) x59 x60 x9 x10 x11 w := ⟨F.same, fun _ => rfl, F.f1, F.f2, F.f3, F.o6, F.f4, F.o7, F.f5, F.o8, F.n3_4, F.n3_5, F.n4_5⟩
theorem mor4F.s1 (F : mor4F W1 p av cap bx d x58 x59 x60 x9 x10 x11 w) : mor4F W1 p av cap bx (upd d 1) x58 (p.v av cap) x60 x9 x10 x11 w := ⟨F.same, F.f0, fun _ => rfl, F.f2, F.f3, F.o6, F.f4, F.o7, F.f5, F.o8, F.n3_4, F.n3_5, F.n4_5⟩
theorem mor4F.s2 (F : mor4F W1 p av cap bx d x58 x59 x60 x9 x10 x11 w) : mor4F W1 p av cap bx (upd d 2) x58 x59 (p.v av cap) x9 x10 x11 w := ⟨F.same, F.f0, F.f1, fun _ => rfl, F.f3, F.o6, F.f4, F.o7, F.f5, F.o8, F.n3_4, F.n3_5, F.n4_5⟩
theorem mor4F.below (F : mor4F W1 p av cap bx d x58 x59 x60 x9 x10 x11 w) (hb : Below w.heap.size w w') : mor4F W1 p av cap bx d x58 x59 x60 x9 x10 x11 w' := by
  refine ⟨F.same.trans (hb.mono F.same.size), F.f0, F.f1, F.f2, ?_, F.o6, ?_, F.o7, ?_, F.o8, F.n3_4, F.n3_5, F.n4_5⟩
  · intro h
    obtain ⟨bq, h1, h2, h3⟩ := F.f3 h
    exact ⟨bq, h1, h2, (hb.block _ (heap_lt h3)).trans h3⟩
  · intro h
    obtain ⟨bq, h1, h2, h3⟩ := F.f4 h
    exact ⟨bq, h1, h2, (hb.block _ (heap_lt h3)).trans h3⟩
  · intro h
    obtain ⟨bq, h1, h2, h3⟩ := F.f5 h
    exact ⟨bq, h1, h2, (hb.block _ (heap_lt h3)).trans h3⟩
theorem mor4F.s3 (F : mor4F W1 p av cap bx d x58 x59 x60 x9 x10 x11 w) (h6 : d 6 = false) : mor4F W1 p av cap bx (upd d 3) x58 x59 x60 (.pointer (some ⟨w.heap.size, 0, none⟩)) x10 x11 (w.alloc (.cells #[.slice none 0 0, .int .i64 0, .int .i64 0, .int .i64 0, .int .i64 0] 26)) := by
  have G := F.below ((Below.refl _ w).alloc (Nat.le_refl _) (.cells #[.slice none 0 0, .int .i64 0, .int .i64 0, .int .i64 0, .int .i64 0] 26))
  refine ⟨G.same, G.f0, G.f1, G.f2, ?_, fun h => (by have h2 : d 6 = true := h; rw [h6] at h2; cases h2), G.f4, G.o7, G.f5, G.o8, fun _ h e => (by obtain ⟨bq, h1, h2, h3⟩ := F.f4 h; rw [h1] at e; have h4 := heap_lt h3; simp only [Value.pointer.injEq, Option.some.injEq, Addr.mk.injEq] at e; omega), fun _ h e => (by obtain ⟨bq, h1, h2, h3⟩ := F.f5 h; rw [h1] at e; have h4 := heap_lt h3; simp only [Value.pointer.injEq, Option.some.injEq, Addr.mk.injEq] at e; omega), G.n4_5⟩
  intro _
  have e : upd d 3 6 = false := h6
  rw [e]
  exact ⟨_, rfl, F.same.size, World.alloc_heap_new w _⟩
theorem mor4F.s6 (F : mor4F W1 p av cap bx d x58 x59 x60 x9 x10 x11 w) (h3 : d 3 = true) {bq : Nat} (hb : W1.heap.size ≤ bq) (hx : x9 = .pointer (some ⟨bq, 0, none⟩)) (hh : w.heap[bq]? = some (.cells #[.slice none 0 0, .int .i64 0, .int .i64 0, .int .i64 0, .int .i64 0] 26 (0, 0))) : mor4F W1 p av cap bx (upd d 6) x58 x59 x60 x9 x10 x11 (((((w.setCell ⟨bq, 0, none⟩ (.slice av p.cards.length cap)).setCell ⟨bq, 1, none⟩ (.int .i64 p.llo)).setCell ⟨bq, 2, none⟩ (.int .i64 p.lhi)).setCell ⟨bq, 3, none⟩ (.int .i64 p.olo)).setCell ⟨bq, 4, none⟩ (.int .i64 p.ohi)) := by
  refine ⟨(((((F.same).setCell (p := ⟨bq, 0, none⟩) hb (.slice av p.cards.length cap)).setCell (p := ⟨bq, 1, none⟩) hb (.int .i64 p.llo)).setCell (p := ⟨bq, 2, none⟩) hb (.int .i64 p.lhi)).setCell (p := ⟨bq, 3, none⟩) hb (.int .i64 p.olo)).setCell (p := ⟨bq, 4, none⟩) hb (.int .i64 p.ohi), F.f0, F.f1, F.f2, ?_, fun _ => h3, fun h => (by obtain ⟨bz, g1, g2, g3⟩ := F.f4 h; have hne : bz ≠ bq := fun e => F.n3_4 h3 h (by rw [hx, g1, e]); exact ⟨bz, g1, g2, by refine (Below.heap_setCell _ _ _ _ hne).trans ?_; refine (Below.heap_setCell _ _ _ _ hne).trans ?_; refine (Below.heap_setCell _ _ _ _ hne).trans ?_; refine (Below.heap_setCell _ _ _ _ hne).trans ?_; refine (Below.heap_setCell _ _ _ _ hne).trans ?_; exact g3⟩), F.o7, fun h => (by obtain ⟨bz, g1, g2, g3⟩ := F.f5 h; have hne : bz ≠ bq := fun e => F.n3_5 h3 h (by rw [hx, g1, e]); exact ⟨bz, g1, g2, by refine (Below.heap_setCell _ _ _ _ hne).trans ?_; refine (Below.heap_setCell _ _ _ _ hne).trans ?_; refine (Below.heap_setCell _ _ _ _ hne).trans ?_; refine (Below.heap_setCell _ _ _ _ hne).trans ?_; refine (Below.heap_setCell _ _ _ _ hne).trans ?_; exact g3⟩), F.o8, F.n3_4, F.n3_5, F.n4_5⟩
  intro _
  have e : upd d 6 6 = true := rfl
  rw [e]
  exact ⟨bq, hx, hb, (heap_setCell_at (k := 4) (heap_setCell_at (k := 3) (heap_setCell_at (k := 2) (heap_setCell_at (k := 1) (heap_setCell_at (k := 0) hh (.slice av p.cards.length cap)) (.int .i64 p.llo)) (.int .i64 p.lhi)) (.int .i64 p.olo)) (.int .i64 p.ohi))⟩
theorem mor4F.s4 (F : mor4F W1 p av cap bx d x58 x59 x60 x9 x10 x11 w) (h7 : d 7 = false) : mor4F W1 p av cap bx (upd d 4) x58 x59 x60 x9 (.pointer (some ⟨w.heap.size, 0, none⟩)) x11 (w.alloc (.cells #[.slice none 0 0, .int .i64 0, .int .i64 0, .int .i64 0, .int .i64 0] 26)) := by
  have G := F.below ((Below.refl _ w).alloc (Nat.le_refl _) (.cells #[.slice none 0 0, .int .i64 0, .int .i64 0, .int .i64 0, .int .i64 0] 26))
  refine ⟨G.same, G.f0, G.f1, G.f2, G.f3, G.o6, ?_, fun h => (by have h2 : d 7 = true := h; rw [h7] at h2; cases h2), G.f5, G.o8, fun h _ e => (by obtain ⟨bq, h1, h2, h3⟩ := F.f3 h; rw [h1] at e; have h4 := heap_lt h3; simp only [Value.pointer.injEq, Option.some.injEq, Addr.mk.injEq] at e; omega), G.n3_5, fun _ h e => (by obtain ⟨bq, h1, h2, h3⟩ := F.f5 h; rw [h1] at e; have h4 := heap_lt h3; simp only [Value.pointer.injEq, Option.some.injEq, Addr.mk.injEq] at e; omega)⟩
  intro _
  have e : upd d 4 7 = false := h7
  rw [e]
  exact ⟨_, rfl, F.same.size, World.alloc_heap_new w _⟩
theorem mor4F.s7 (F : mor4F W1 p av cap bx d x58 x59 x60 x9 x10 x11 w) (h4 : d 4 = true) {bq : Nat} (hb : W1.heap.size ≤ bq) (hx : x10 = .pointer (some ⟨bq, 0, none⟩)) (hh : w.heap[bq]? = some (.cells #[.slice none 0 0, .int .i64 0, .int .i64 0, .int .i64 0, .int .i64 0] 26 (0, 0))) : mor4F W1 p av cap bx (upd d 7) x58 x59 x60 x9 x10 x11 (((((w.setCell ⟨bq, 0, none⟩ (.slice av p.cards.length cap)).setCell ⟨bq, 1, none⟩ (.int .i64 p.llo)).setCell ⟨bq, 2, none⟩ (.int .i64 p.lhi)).setCell ⟨bq, 3, none⟩ (.int .i64 p.olo)).setCell ⟨bq, 4, none⟩ (.int .i64 p.ohi)) := by
  refine ⟨(((((F.same).setCell (p := ⟨bq, 0, none⟩) hb (.slice av p.cards.length cap)).setCell (p := ⟨bq, 1, none⟩) hb (.int .i64 p.llo)).setCell (p := ⟨bq, 2, none⟩) hb (.int .i64 p.lhi)).setCell (p := ⟨bq, 3, none⟩) hb (.int .i64 p.olo)).setCell (p := ⟨bq, 4, none⟩) hb (.int .i64 p.ohi), F.f0, F.f1, F.f2, fun h => (by obtain ⟨bz, g1, g2, g3⟩ := F.f3 h; have hne : bz ≠ bq := fun e => F.n3_4 h h4 (by rw [hx, g1, e]); exact ⟨bz, g1, g2, by refine (Below.heap_setCell _ _ _ _ hne).trans ?_; refine (Below.heap_setCell _ _ _ _ hne).trans ?_; refine (Below.heap_setCell _ _ _ _ hne).trans ?_; refine (Below.heap_setCell _ _ _ _ hne).trans ?_; refine (Below.heap_setCell _ _ _ _ hne).trans ?_; exact g3⟩), F.o6, ?_, fun _ => h4, fun h => (by obtain ⟨bz, g1, g2, g3⟩ := F.f5 h; have hne : bz ≠ bq := fun e => F.n4_5 h4 h (by rw [hx, g1, e]); exact ⟨bz, g1, g2, by refine (Below.heap_setCell _ _ _ _ hne).trans ?_; refine (Below.heap_setCell _ _ _ _ hne).trans ?_; refine (Below.heap_setCell _ _ _ _ hne).trans ?_; refine (Below.heap_setCell _ _ _ _ hne).trans ?_; refine (Below.heap_setCell _ _ _ _ hne).trans ?_; exact g3⟩), F.o8, F.n3_4, F.n3_5, F.n4_5⟩
  intro _
  have e : upd d 7 7 = true := rfl
  rw [e]
  exact ⟨bq, hx, hb, (heap_setCell_at (k := 4) (heap_setCell_at (k := 3) (heap_setCell_at (k := 2) (heap_setCell_at (k := 1) (heap_setCell_at (k := 0) hh (.slice av p.cards.length cap)) (.int .i64 p.llo)) (.int .i64 p.lhi)) (.int .i64 p.olo)) (.int .i64 p.ohi))⟩
theorem mor4F.s5 (F : mor4F W1 p av cap bx d x58 x59 x60 x9 x10 x11 w) (h8 : d 8 = false) : mor4F W1 p av cap bx (upd d 5) x58 x59 x60 x9 x10 (.pointer (some ⟨w.heap.size, 0, none⟩)) (w.alloc (.cells #[.slice none 0 0, .int .i64 0, .int .i64 0, .int .i64 0, .int .i64 0] 26)) := by
  have G := F.below ((Below.refl _ w).alloc (Nat.le_refl _) (.cells #[.slice none 0 0, .int .i64 0, .int .i64 0, .int .i64 0, .int .i64 0] 26))
  refine ⟨G.same, G.f0, G.f1, G.f2, G.f3, G.o6, G.f4, G.o7, ?_, fun h => (by have h2 : d 8 = true := h; rw [h8] at h2; cases h2), G.n3_4, fun h _ e => (by obtain ⟨bq, h1, h2, h3⟩ := F.f3 h; rw [h1] at e; have h4 := heap_lt h3; simp only [Value.pointer.injEq, Option.some.injEq, Addr.mk.injEq] at e; omega), fun h _ e => (by obtain ⟨bq, h1, h2, h3⟩ := F.f4 h; rw [h1] at e; have h4 := heap_lt h3; simp only [Value.pointer.injEq, Option.some.injEq, Addr.mk.injEq] at e; omega)⟩
  intro _
  have e : upd d 5 8 = false := h8
  rw [e]
  exact ⟨_, rfl, F.same.size, World.alloc_heap_new w _⟩
theorem mor4F.s8 (F : mor4F W1 p av cap bx d x58 x59 x60 x9 x10 x11 w) (h5 : d 5 = true) {bq : Nat} (hb : W1.heap.size ≤ bq) (hx : x11 = .pointer (some ⟨bq, 0, none⟩)) (hh : w.heap[bq]? = some (.cells #[.slice none 0 0, .int .i64 0, .int .i64 0, .int .i64 0, .int .i64 0] 26 (0, 0))) : mor4F W1 p av cap bx (upd d 8) x58 x59 x60 x9 x10 x11 (((((w.setCell ⟨bq, 0, none⟩ (.slice av p.cards.length cap)).setCell ⟨bq, 1, none⟩ (.int .i64 p.llo)).setCell ⟨bq, 2, none⟩ (.int .i64 p.lhi)).setCell ⟨bq, 3, none⟩ (.int .i64 p.olo)).setCell ⟨bq, 4, none⟩ (.int .i64 p.ohi)) := by
  refine ⟨(((((F.same).setCell (p := ⟨bq, 0, none⟩) hb (.slice av p.cards.length cap)).setCell (p := ⟨bq, 1, none⟩) hb (.int .i64 p.llo)).setCell (p := ⟨bq, 2, none⟩) hb (.int .i64 p.lhi)).setCell (p := ⟨bq, 3, none⟩) hb (.int .i64 p.olo)).setCell (p := ⟨bq, 4, none⟩) hb (.int .i64 p.ohi), F.f0, F.f1, F.f2, fun h => (by obtain ⟨bz, g1, g2, g3⟩ := F.f3 h; have hne : bz ≠ bq := fun e => F.n3_5 h h5 (by rw [hx, g1, e]); exact ⟨bz, g1, g2, by refine (Below.heap_setCell _ _ _ _ hne).trans ?_; refine (Below.heap_setCell _ _ _ _ hne).trans ?_; refine (Below.heap_setCell _ _ _ _ hne).trans ?_; refine (Below.heap_setCell _ _ _ _ hne).trans ?_; refine (Below.heap_setCell _ _ _ _ hne).trans ?_; exact g3⟩), F.o6, fun h => (by obtain ⟨bz, g1, g2, g3⟩ := F.f4 h; have hne : bz ≠ bq := fun e => F.n4_5 h h5 (by rw [hx, g1, e]); exact ⟨bz, g1, g2, by refine (Below.heap_setCell _ _ _ _ hne).trans ?_; refine (Below.heap_setCell _ _ _ _ hne).trans ?_; refine (Below.heap_setCell _ _ _ _ hne).trans ?_; refine (Below.heap_setCell _ _ _ _ hne).trans ?_; refine (Below.heap_setCell _ _ _ _ hne).trans ?_; exact g3⟩), F.o7, ?_, fun _ => h5, F.n3_4, F.n3_5, F.n4_5⟩
  intro _
  have e : upd d 8 8 = true := rfl
  rw [e]
  exact ⟨bq, hx, hb, (heap_setCell_at (k := 4) (heap_setCell_at (k := 3) (heap_setCell_at (k := 2) (heap_setCell_at (k := 1) (heap_setCell_at (k := 0) hh (.slice av p.cards.length cap)) (.int .i64 p.llo)) (.int .i64 p.lhi)) (.int .i64 p.olo)) (.int .i64 p.ohi))⟩
end
noncomputable def mor4C : Code := (Try.f7.body.bind (regionAt 4)).getD .skip
set_option maxRecDepth 100000 in
set_option maxHeartbeats 4000000 in
theorem mor4 {W1 : World} {p : Prs} {av : Option Addr} {cap : Nat} {bx : Nat} {Q : Exit → Act → World → Prop} (hq : W1.heap[bx]? = some (.cells (p.cells av cap) 26 (0, 0)))
    {s0 s1 s2 s4 s5 s6 s7 s8 s9 s10 s11 s12 s13 s14 s15 s16 s17 s18 s19 s20 s21 s22 s23 s24 s25 s26 s27 s28 s29 s30 s31 s32 s33 s34 s35 s36 s37 s38 s39 s40 s41 s42 s43 s44 s45 s46 s47 s48 s49 s50 s51 s52 s53 s54 s55 s56 s57 s58 s59 s60 s61 s62 s63 s64 s65 s66 s67 s68 s69 s70 s71 s72 s73 s74 s75 s76 s77 s78 s79 s80 s81 s82 s83 s84 s85 s86 s87 s88 s89 s90 s91 s92 s93 s94 s95 s96 s97 s98 s99 s100 s101 s102 s103 s104 s105 s106 s107 s108 s109 s110 s111 s112 s113 s114 s115 s116 s117 s118 s119 s120 s121 s122 s123 s124 s125 s126 s127 s128 s129 s130 s131 s132 s133 s134 s135 s136 s137 s138 s139 s140 s141 s142 s143 s144 s145 s146 s147 s148 s149 s150 s151 s152 s153 s154 s155 s156 s157 s158 s159 s160 s161 s162 s163 s164 s165 s166 s167 s168 s169 s170 s171 s172 s173 s174 s175 s176 s177 s178 s179 s180 s181 s182 s183 s184 s185 s186 s187 s188 s189 s190 s191 s192 s193 s194 s195 s196 s197 s198 s199 s200 s201 s202 s203 s204 s205 s206 s207 s208 s209 s210 s211 s212 s213 s214 s215 s216 s217 s218 s219 s220 s221 s222 s223 s224 s225 s226 s227 s228 s229 s230 s231 s232 s233 s234 s235 s236 s237 s238 s239 s240 s241 s242 s243 s244 s245 s246 s247 s248 s249 s250 s251 s252 s253 s254 s255 s256 s257 s258 s259 s260 s261 s262 s263 s264 s265 s266 s267 s268 s269 s270 s271 s272 s273 s274 s275 s276 s277 s278 s279 s280 s281 s282 s283 s284 s285 s286 s287 s288 s289 s290 s291 s292 s293 s294 s295 s296 s297 s298 s299 s300 s301 s302 s303 s304 s305 s306 s307 s308 s309 : Value} {dd : List Deferred}
    (hQ : ∀ (x58 x59 x60 x9 x10 x11 : Value) (w' : World), Below W1.heap.size W1 w' → x58 = p.v av cap → x59 = p.v av cap → x60 = p.v av cap → (∃ bq : Nat, x9 = .pointer (some ⟨bq, 0, none⟩) ∧ W1.heap.size ≤ bq ∧ w'.heap[bq]? = some (.cells (p.cells av cap) 26 (0, 0))) → (∃ bq : Nat, x10 = .pointer (some ⟨bq, 0, none⟩) ∧ W1.heap.size ≤ bq ∧ w'.heap[bq]? = some (.cells (p.cells av cap) 26 (0, 0))) → (∃ bq : Nat, x11 = .pointer (some ⟨bq, 0, none⟩) ∧ W1.heap.size ≤ bq ∧ w'.heap[bq]? = some (.cells (p.cells av cap) 26 (0, 0))) → x9 ≠ x10 → x9 ≠ x11 → x10 ≠ x11 → Q .normal { tmps := #[s0, s1, s2, .pointer (some ⟨bx, 0, none⟩), s4, s5, s6, s7, s8, x9, x10, x11, s12, s13, s14, s15, s16, s17, s18, s19, s20, s21, s22, s23, s24, s25, s26, s27, s28, s29, s30, s31, s32, s33, s34, s35, s36, s37, s38, s39, s40, s41, s42, s43, s44, s45, s46, s47, s48, s49, s50, s51, s52, s53, s54, s55, s56, s57, x58, x59, x60, s61, s62, s63, s64, s65, s66, s67, s68, s69, s70, s71, s72, s73, s74, s75, s76, s77, s78, s79, s80, s81, s82, s83, s84, s85, s86, s87, s88, s89, s90, s91, s92, s93, s94, s95, s96, s97, s98, s99, s100, s101, s102, s103, s104, s105, s106, s107, s108, s109, s110, s111, s112, s113, s114, s115, s116, s117, s118, s119, s120, s121, s122, s123, s124, s125, s126, s127, s128, s129, s130, s131, s132, s133, s134, s135, s136, s137, s138, s139, s140, s141, s142, s143, s144, s145, s146, s147, s148, s149, s150, s151, s152, s153, s154, s155, s156, s157, s158, s159, s160, s161, s162, s163, s164, s165, s166, s167, s168, s169, s170, s171, s172, s173, s174, s175, s176, s177, s178, s179, s180, s181, s182, s183, s184, s185, s186, s187, s188, s189, s190, s191, s192, s193, s194, s195, s196, s197, s198, s199, s200, s201, s202, s203, s204, s205, s206, s207, s208, s209, s210, s211, s212, s213, s214, s215, s216, s217, s218, s219, s220, s221, s222, s223, s224, s225, s226, s227, s228, s229, s230, s231, s232, s233, s234, s235, s236, s237, s238, s239, s240, s241, s242, s243, s244, s245, s246, s247, s248, s249, s250, s251, s252, s253, s254, s255, s256, s257, s258, s259, s260, s261, s262, s263, s264, s265, s266, s267, s268, s269, s270, s271, s272, s273, s274, s275, s276, s277, s278, s279, s280, s281, s282, s283, s284, s285, s286, s287, s288, s289, s290, s291, s292, s293, s294, s295, s296, s297, s298, s299, s300, s301, s302, s303, s304, s305, s306, s307, s308, s309], defers := dd } w') :
    Code.wp Try.prog mor4C Q { tmps := #[s0, s1, s2, .pointer (some ⟨bx, 0, none⟩), s4, s5, s6, s7, s8, s9, s10, s11, s12, s13, s14, s15, s16, s17, s18, s19, s20, s21, s22, s23, s24, s25, s26, s27, s28, s29, s30, s31, s32, s33, s34, s35, s36, s37, s38, s39, s40, s41, s42, s43, s44, s45, s46, s47, s48, s49, s50, s51, s52, s53, s54, s55, s56, s57, s58, s59, s60, s61, s62, s63, s64, s65, s66, s67, s68, s69, s70, s71, s72, s73, s74, s75, s76, s77, s78, s79, s80, s81, s82, s83, s84, s85, s86, s87, s88, s89, s90, s91, s92, s93, s94, s95, s96, s97, s98, s99, s100, s101, s102, s103, s104, s105, s106, s107, s108, s109, s110, s111, s112, s113, s114, s115, s116, s117, s118, s119, s120, s121, s122, s123, s124, s125, s126, s127, s128, s129, s130, s131, s132, s133, s134, s135, s136, s137, s138, s139, s140, s141, s142, s143, s144, s145, s146, s147, s148, s149, s150, s151, s152, s153, s154, s155, s156, s157, s158, s159, s160, s161, s162, s163, s164, s165, s166, s167, s168, s169, s170, s171, s172, s173, s174, s175, s176, s177, s178, s179, s180, s181, s182, s183, s184, s185, s186, s187, s188, s189, s190, s191, s192, s193, s194, s195, s196, s197, s198, s199, s200, s201, s202, s203, s204, s205, s206, s207, s208, s209, s210, s211, s212, s213, s214, s215, s216, s217, s218, s219, s220, s221, s222, s223, s224, s225, s226, s227, s228, s229, s230, s231, s232, s233, s234, s235, s236, s237, s238, s239, s240, s241, s242, s243, s244, s245, s246, s247, s248, s249, s250, s251, s252, s253, s254, s255, s256, s257, s258, s259, s260, s261, s262, s263, s264, s265, s266, s267, s268, s269, s270, s271, s272, s273, s274, s275, s276, s277, s278, s279, s280, s281, s282, s283, s284, s285, s286, s287, s288, s289, s290, s291, s292, s293, s294, s295, s296, s297, s298, s299, s300, s301, s302, s303, s304, s305, s306, s307, s308, s309], defers := dd } W1 := by
  have HQ := Lib.hid hQ
  clear hQ
  conv => arg 2; whnf
  refine wp_region_inv' mixed (by kernel_rfl) (fun d_ a_ w' => ∃ x58 x59 x60 x9 x10 x11, a_ = { tmps := #[s0, s1, s2, .pointer (some ⟨bx, 0, none⟩), s4, s5, s6, s7, s8, x9, x10, x11, s12, s13, s14, s15, s16, s17, s18, s19, s20, s21, s22, s23, s24, s25, s26, s27, s28, s29, s30, s31, s32, s33, s34, s35, s36, s37, s38, s39, s40, s41, s42, s43, s44, s45, s46, s47, s48, s49, s50, s51, s52, s53, s54, s55, s56, s57, x58, x59, x60, s61, s62, s63, s64, s65, s66, s67, s68, s69, s70, s71, s72, s73, s74, s75, s76, s77, s78, s79, s80, s81, s82, s83, s84, s85, s86, s87, s88, s89, s90, s91, s92, s93, s94, s95, s96, s97, s98, s99, s100, s101, s102, s103, s104, s105, s106, s107, s108, s109, s110, s111, s112, s113, s114, s115, s116, s117, s118, s119, s120, s121, s122, s123, s124, s125, s126, s127, s128, s129, s130, s131, s132, s133, s134, s135, s136, s137, s138, s139, s140, s141, s142, s143, s144, s145, s146, s147, s148, s149, s150, s151, s152, s153, s154, s155, s156, s157, s158, s159, s160, s161, s162, s163, s164, s165, s166, s167, s168, s169, s170, s171, s172, s173, s174, s175, s176, s177, s178, s179, s180, s181, s182, s183, s184, s185, s186, s187, s188, s189, s190, s191, s192, s193, s194, s195, s196, s197, s198, s199, s200, s201, s202, s203, s204, s205, s206, s207, s208, s209, s210, s211, s212, s213, s214, s215, s216, s217, s218, s219, s220, s221, s222, s223, s224, s225, s226, s227, s228, s229, s230, s231, s232, s233, s234, s235, s236, s237, s238, s239, s240, s241, s242, s243, s244, s245, s246, s247, s248, s249, s250, s251, s252, s253, s254, s255, s256, s257, s258, s259, s260, s261, s262, s263, s264, s265, s266, s267, s268, s269, s270, s271, s272, s273, s274, s275, s276, s277, s278, s279, s280, s281, s282, s283, s284, s285, s286, s287, s288, s289, s290, s291, s292, s293, s294, s295, s296, s297, s298, s299, s300, s301, s302, s303, s304, s305, s306, s307, s308, s309], defers := dd } ∧ mor4F W1 p av cap bx d_ x58 x59 x60 x9 x10 x11 w') ?_ ?_ ?_
  · refine ⟨s58, s59, s60, s9, s10, s11, rfl, (Below.refl _ W1).drew, ?_, ?_, ?_, ?_, ?_, ?_, ?_, ?_, ?_, ?_, ?_, ?_⟩ <;> (intro h; cases h)
  · refine ⟨?_, ?_, ?_, ?_, ?_, ?_, ?_, ?_, ?_, trivial⟩
    all_goals
      rintro d_ a_ w1 K hd_ hdep ⟨x58, x59, x60, x9, x10, x11, rfl, F⟩ HK
      simp [Region.binds] at hdep
      have hb1 := F.same
    · obtain ⟨k0, k1, k2, k3, k4⟩ := prs_cells ((F.same.block _ (heap_lt hq)).trans hq)
      have HF := Lib.hid F.s0
      clear F
      skip
      go_simp
      exact HK.out _ _ ⟨_, _, _, _, _, _, rfl, HF.out⟩
    · obtain ⟨k0, k1, k2, k3, k4⟩ := prs_cells ((F.same.block _ (heap_lt hq)).trans hq)
      have HF := Lib.hid F.s1
      clear F
      skip
      go_simp
      exact HK.out _ _ ⟨_, _, _, _, _, _, rfl, HF.out⟩
    · obtain ⟨k0, k1, k2, k3, k4⟩ := prs_cells ((F.same.block _ (heap_lt hq)).trans hq)
      have HF := Lib.hid F.s2
      clear F
      skip
      go_simp
      exact HK.out _ _ ⟨_, _, _, _, _, _, rfl, HF.out⟩
    · have n6 : d_ 6 = false := by
        cases e : d_ 6 with
        | false => rfl
        | true => have h2 := F.o6 e; exact absurd (show d_ 3 = false from hd_) (by rw [h2]; simp)
      have HF := Lib.hid (F.s3 n6)
      clear F hb1
      go_simp
      exact HK.out _ _ ⟨_, _, _, _, _, _, rfl, HF.out⟩
    · have n7 : d_ 7 = false := by
        cases e : d_ 7 with
        | false => rfl
        | true => have h2 := F.o7 e; exact absurd (show d_ 4 = false from hd_) (by rw [h2]; simp)
      have HF := Lib.hid (F.s4 n7)
      clear F hb1
      go_simp
      exact HK.out _ _ ⟨_, _, _, _, _, _, rfl, HF.out⟩
    · have n8 : d_ 8 = false := by
        cases e : d_ 8 with
        | false => rfl
        | true => have h2 := F.o8 e; exact absurd (show d_ 5 = false from hd_) (by rw [h2]; simp)
      have HF := Lib.hid (F.s5 n8)
      clear F hb1
      go_simp
      exact HK.out _ _ ⟨_, _, _, _, _, _, rfl, HF.out⟩
    · obtain rfl := F.f0 (by simp [hdep])
      have ha3 : d_ 3 = true := by simp [hdep]
      obtain ⟨bq, hx, hWb, hh⟩ := F.f3 ha3
      have hds : d_ 6 = false := hd_
      rw [hds] at hh
      have hh' : w1.heap[bq]? = some (.cells #[.slice none 0 0, .int .i64 0, .int .i64 0, .int .i64 0, .int .i64 0] 26 (0, 0)) := hh
      have z0 : ∀ k, w1.frozen? ⟨bq, k, none⟩ = false := fun k => frozen_of_heap hh'
      have zc0 : ∃ v, w1.cell? ⟨bq, 0, none⟩ = some v := ⟨_, by rw [cell_of_heap hh']; rfl⟩
      obtain ⟨vc0, zc0⟩ := zc0
      have zc1 : ∃ v, w1.cell? ⟨bq, 1, none⟩ = some v := ⟨_, by rw [cell_of_heap hh']; rfl⟩
      obtain ⟨vc1, zc1⟩ := zc1
      have zc2 : ∃ v, w1.cell? ⟨bq, 2, none⟩ = some v := ⟨_, by rw [cell_of_heap hh']; rfl⟩
      obtain ⟨vc2, zc2⟩ := zc2
      have zc3 : ∃ v, w1.cell? ⟨bq, 3, none⟩ = some v := ⟨_, by rw [cell_of_heap hh']; rfl⟩
      obtain ⟨vc3, zc3⟩ := zc3
      have zc4 : ∃ v, w1.cell? ⟨bq, 4, none⟩ = some v := ⟨_, by rw [cell_of_heap hh']; rfl⟩
      obtain ⟨vc4, zc4⟩ := zc4
      have HF := Lib.hid (F.s6 ha3 hWb hx hh')
      clear F hh hh' hb1
      subst hx
      go_simp
      exact HK.out _ _ ⟨_, _, _, _, _, _, rfl, HF.out⟩
    · obtain rfl := F.f1 (by simp [hdep])
      have ha4 : d_ 4 = true := by simp [hdep]
      obtain ⟨bq, hx, hWb, hh⟩ := F.f4 ha4
      have hds : d_ 7 = false := hd_
      rw [hds] at hh
      have hh' : w1.heap[bq]? = some (.cells #[.slice none 0 0, .int .i64 0, .int .i64 0, .int .i64 0, .int .i64 0] 26 (0, 0)) := hh
      have z0 : ∀ k, w1.frozen? ⟨bq, k, none⟩ = false := fun k => frozen_of_heap hh'
      have zc0 : ∃ v, w1.cell? ⟨bq, 0, none⟩ = some v := ⟨_, by rw [cell_of_heap hh']; rfl⟩
      obtain ⟨vc0, zc0⟩ := zc0
      have zc1 : ∃ v, w1.cell? ⟨bq, 1, none⟩ = some v := ⟨_, by rw [cell_of_heap hh']; rfl⟩
      obtain ⟨vc1, zc1⟩ := zc1
      have zc2 : ∃ v, w1.cell? ⟨bq, 2, none⟩ = some v := ⟨_, by rw [cell_of_heap hh']; rfl⟩
      obtain ⟨vc2, zc2⟩ := zc2
      have zc3 : ∃ v, w1.cell? ⟨bq, 3, none⟩ = some v := ⟨_, by rw [cell_of_heap hh']; rfl⟩
      obtain ⟨vc3, zc3⟩ := zc3
      have zc4 : ∃ v, w1.cell? ⟨bq, 4, none⟩ = some v := ⟨_, by rw [cell_of_heap hh']; rfl⟩
      obtain ⟨vc4, zc4⟩ := zc4
      have HF := Lib.hid (F.s7 ha4 hWb hx hh')
      clear F hh hh' hb1
      subst hx
      go_simp
      exact HK.out _ _ ⟨_, _, _, _, _, _, rfl, HF.out⟩
    · obtain rfl := F.f2 (by simp [hdep])
      have ha5 : d_ 5 = true := by simp [hdep]
      obtain ⟨bq, hx, hWb, hh⟩ := F.f5 ha5
      have hds : d_ 8 = false := hd_
      rw [hds] at hh
      have hh' : w1.heap[bq]? = some (.cells #[.slice none 0 0, .int .i64 0, .int .i64 0, .int .i64 0, .int .i64 0] 26 (0, 0)) := hh
      have z0 : ∀ k, w1.frozen? ⟨bq, k, none⟩ = false := fun k => frozen_of_heap hh'
      have zc0 : ∃ v, w1.cell? ⟨bq, 0, none⟩ = some v := ⟨_, by rw [cell_of_heap hh']; rfl⟩
      obtain ⟨vc0, zc0⟩ := zc0
      have zc1 : ∃ v, w1.cell? ⟨bq, 1, none⟩ = some v := ⟨_, by rw [cell_of_heap hh']; rfl⟩
      obtain ⟨vc1, zc1⟩ := zc1
      have zc2 : ∃ v, w1.cell? ⟨bq, 2, none⟩ = some v := ⟨_, by rw [cell_of_heap hh']; rfl⟩
      obtain ⟨vc2, zc2⟩ := zc2
      have zc3 : ∃ v, w1.cell? ⟨bq, 3, none⟩ = some v := ⟨_, by rw [cell_of_heap hh']; rfl⟩
      obtain ⟨vc3, zc3⟩ := zc3
      have zc4 : ∃ v, w1.cell? ⟨bq, 4, none⟩ = some v := ⟨_, by rw [cell_of_heap hh']; rfl⟩
      obtain ⟨vc4, zc4⟩ := zc4
      have HF := Lib.hid (F.s8 ha5 hWb hx hh')
      clear F hh hh' hb1
      subst hx
      go_simp
      exact HK.out _ _ ⟨_, _, _, _, _, _, rfl, HF.out⟩
  · rintro d_ a_ w1 hall ⟨x58, x59, x60, x9, x10, x11, rfl, F⟩
    have hall' : ∀ k, k < 9 → d_ k = true := hall
    have E3 := F.f3 (hall' 3 (by decide))
    rw [hall' 6 (by decide)] at E3
    have E4 := F.f4 (hall' 4 (by decide))
    rw [hall' 7 (by decide)] at E4
    have E5 := F.f5 (hall' 5 (by decide))
    rw [hall' 8 (by decide)] at E5
    exact HQ.out _ _ _ _ _ _ w1 F.same (F.f0 (hall' 0 (by decide))) (F.f1 (hall' 1 (by decide))) (F.f2 (hall' 2 (by decide))) E3 E4 E5 (F.n3_4 (hall' 3 (by decide)) (hall' 4 (by decide))) (F.n3_5 (hall' 3 (by decide)) (hall' 5 (by decide))) (F.n4_5 (hall' 4 (by decide)) (hall' 5 (by decide)))

structure mor5F (bx : Nat) (b9 : Nat) (b10 : Nat) (av : Option Addr) (n : Nat) (cap : Nat) (S0 : Bool → Nat → World → Prop) (S1 : Bool → Nat → Nat → World → Prop) (S2 : Bool → Nat → Nat → Nat × Nat → World → Prop) (S3 : Bool → Nat → Nat → Nat × Nat → Nat × Nat → World → Prop) (S4 : Bool → Nat → Nat → Nat × Nat → Nat × Nat → World → Prop) (S5 : Bool → Nat → Nat → Nat × Nat → Nat × Nat → World → Prop) (d : Nat → Bool) (x61 x62 x63 x64 x65 x66 x67 x68 x69 x70 : Value) (ms : Nat) (m1 : Nat) (r1 : Nat × Nat) (r2 : Nat × Nat) (w : World) : Prop where
  q2 : d 2 = true → d 1 = true
  q3 : d 3 = true → d 0 = true ∧ d 2 = true
  q6 : d 6 = true → d 5 = true
  q7 : d 7 = true → d 3 = true ∧ d 4 = true ∧ d 6 = true
  q8 : d 8 = true → d 0 = true ∧ d 1 = true ∧ d 2 = true ∧ d 3 = true
  q9 : d 9 = true → d 0 = true ∧ d 1 = true ∧ d 2 = true ∧ d 3 = true ∧ d 7 = true ∧ d 8 = true
  q10 : d 10 = true → d 0 = true ∧ d 1 = true ∧ d 2 = true ∧ d 3 = true ∧ d 4 = true ∧ d 5 = true ∧ d 6 = true ∧ d 7 = true ∧ d 8 = true ∧ d 9 = true
  q11 : d 11 = true → d 0 = true ∧ d 1 = true ∧ d 2 = true ∧ d 3 = true ∧ d 4 = true ∧ d 5 = true ∧ d 6 = true ∧ d 7 = true ∧ d 8 = true ∧ d 9 = true ∧ d 10 = true
  f0 : d 0 = true → x61 = .slice (some ⟨m1, 0, none⟩) 0 0
  f1 : d 1 = true → x62 = .pointer (some ⟨bx, 0, none⟩)
  f2 : d 2 = true → x63 = .slice av n cap
  f3 : d 3 = true → x64 = .slice (some ⟨r1.1, 0, none⟩) n r1.2
  f4 : d 4 = true → x65 = .slice (some ⟨ms, 0, none⟩) 0 0
  f5 : d 5 = true → x66 = .pointer (some ⟨bx, 0, none⟩)
  f6 : d 6 = true → x67 = .slice av n cap
  f7 : d 7 = true → x68 = .slice (some ⟨r2.1, 0, none⟩) n r2.2
  f8 : d 8 = true → x69 = .pointer (some ⟨b9, 0, none⟩)
  f10 : d 10 = true → x70 = .pointer (some ⟨b10, 0, none⟩)
  st0 : d 0 = false → S0 (d 4) ms w
  st1 : d 0 = true → d 3 = false → S1 (d 4) ms m1 w
  st2 : d 3 = true → d 7 = false → S2 (d 4) ms m1 r1 w
  st3 : d 7 = true → d 9 = false → S3 (d 4) ms m1 r1 r2 w
  st4 : d 9 = true → d 11 = false → S4 (d 4) ms m1 r1 r2 w
  st5 : d 11 = true → S5 (d 4) ms m1 r1 r2 w
  mz : d 4 = false → ms = 0
noncomputable def mor5C : Code := (Try.f7.body.bind (regionAt 5)).getD .skip
set_option maxRecDepth 100000 in
set_option maxHeartbeats 4000000 in
theorem mor5 {bx : Nat} {b9 : Nat} {b10 : Nat} {av : Option Addr} {n : Nat} {cap : Nat} {S0 : Bool → Nat → World → Prop} {S1 : Bool → Nat → Nat → World → Prop} {S2 : Bool → Nat → Nat → Nat × Nat → World → Prop} {S3 : Bool → Nat → Nat → Nat × Nat → Nat × Nat → World → Prop} {S4 : Bool → Nat → Nat → Nat × Nat → Nat × Nat → World → Prop} {S5 : Bool → Nat → Nat → Nat × Nat → Nat × Nat → World → Prop} {Q : Exit → Act → World → Prop} {W1 : World} (h0 : S0 false 0 W1.drew)
    (kc0 : Hid (∀ (fs : Bool) (ms : Nat) (w : World), S0 fs ms w → S1 fs ms w.heap.size (w.alloc (.cells #[] 54))))
    (kl2 : Hid (∀ (fs : Bool) (ms : Nat) (m1 : Nat) (w : World), (S0 fs ms w ∨ S1 fs ms m1 w) → w.cell? ⟨bx, 0, none⟩ = some (.slice av n cap)))
    (kc3 : Hid (∀ (fs : Bool) (ms : Nat) (m1 : Nat) (w : World), S1 fs ms m1 w → ∃ (r1 : Nat × Nat) (w' : World), (Builtin.append_ #[22, 22] 22 #[.slice (some ⟨m1, 0, none⟩) 0 0, .slice av n cap]).run Try.prog w = .ok (.slice (some ⟨r1.1, 0, none⟩) n r1.2) w' ∧ S2 fs ms m1 r1 w'))
    (ks0 : Hid (∀ (w : World), S0 false 0 w → S0 true w.heap.size (w.alloc (.cells #[] 54))))
    (ks1 : Hid (∀ (m1 : Nat) (w : World), S1 false 0 m1 w → S1 true w.heap.size m1 (w.alloc (.cells #[] 54))))
    (ks2 : Hid (∀ (m1 : Nat) (r1 : Nat × Nat) (w : World), S2 false 0 m1 r1 w → S2 true w.heap.size m1 r1 (w.alloc (.cells #[] 54))))
    (kl6 : Hid (∀ (fs : Bool) (ms : Nat) (m1 : Nat) (r1 : Nat × Nat) (w : World), (S0 fs ms w ∨ S1 fs ms m1 w ∨ S2 fs ms m1 r1 w) → w.cell? ⟨bx, 0, none⟩ = some (.slice av n cap)))
    (kc7 : Hid (∀ (ms : Nat) (m1 : Nat) (r1 : Nat × Nat) (w : World), S2 true ms m1 r1 w → ∃ (r2 : Nat × Nat) (w' : World), (Builtin.append_ #[22, 22] 22 #[.slice (some ⟨ms, 0, none⟩) 0 0, .slice av n cap]).run Try.prog w = .ok (.slice (some ⟨r2.1, 0, none⟩) n r2.2) w' ∧ S3 true ms m1 r1 r2 w'))
    (kc9 : Hid (∀ (ms : Nat) (m1 : Nat) (r1 : Nat × Nat) (r2 : Nat × Nat) (w : World), S3 true ms m1 r1 r2 w → (∃ u, w.cell? ⟨b9, 0, none⟩ = some u) ∧ w.frozen? ⟨b9, 0, none⟩ = false ∧ S4 true ms m1 r1 r2 (w.setCell ⟨b9, 0, none⟩ (.slice (some ⟨r1.1, 0, none⟩) n r1.2))))
    (kc11 : Hid (∀ (ms : Nat) (m1 : Nat) (r1 : Nat × Nat) (r2 : Nat × Nat) (w : World), S4 true ms m1 r1 r2 w → (∃ u, w.cell? ⟨b10, 0, none⟩ = some u) ∧ w.frozen? ⟨b10, 0, none⟩ = false ∧ S5 true ms m1 r1 r2 (w.setCell ⟨b10, 0, none⟩ (.slice (some ⟨r2.1, 0, none⟩) n r2.2))))
    {s0 s1 s2 s4 s5 s6 s7 s8 s11 s12 s13 s14 s15 s16 s17 s18 s19 s20 s21 s22 s23 s24 s25 s26 s27 s28 s29 s30 s31 s32 s33 s34 s35 s36 s37 s38 s39 s40 s41 s42 s43 s44 s45 s46 s47 s48 s49 s50 s51 s52 s53 s54 s55 s56 s57 s58 s59 s60 s61 s62 s63 s64 s65 s66 s67 s68 s69 s70 s71 s72 s73 s74 s75 s76 s77 s78 s79 s80 s81 s82 s83 s84 s85 s86 s87 s88 s89 s90 s91 s92 s93 s94 s95 s96 s97 s98 s99 s100 s101 s102 s103 s104 s105 s106 s107 s108 s109 s110 s111 s112 s113 s114 s115 s116 s117 s118 s119 s120 s121 s122 s123 s124 s125 s126 s127 s128 s129 s130 s131 s132 s133 s134 s135 s136 s137 s138 s139 s140 s141 s142 s143 s144 s145 s146 s147 s148 s149 s150 s151 s152 s153 s154 s155 s156 s157 s158 s159 s160 s161 s162 s163 s164 s165 s166 s167 s168 s169 s170 s171 s172 s173 s174 s175 s176 s177 s178 s179 s180 s181 s182 s183 s184 s185 s186 s187 s188 s189 s190 s191 s192 s193 s194 s195 s196 s197 s198 s199 s200 s201 s202 s203 s204 s205 s206 s207 s208 s209 s210 s211 s212 s213 s214 s215 s216 s217 s218 s219 s220 s221 s222 s223 s224 s225 s226 s227 s228 s229 s230 s231 s232 s233 s234 s235 s236 s237 s238 s239 s240 s241 s242 s243 s244 s245 s246 s247 s248 s249 s250 s251 s252 s253 s254 s255 s256 s257 s258 s259 s260 s261 s262 s263 s264 s265 s266 s267 s268 s269 s270 s271 s272 s273 s274 s275 s276 s277 s278 s279 s280 s281 s282 s283 s284 s285 s286 s287 s288 s289 s290 s291 s292 s293 s294 s295 s296 s297 s298 s299 s300 s301 s302 s303 s304 s305 s306 s307 s308 s309 : Value} {dd : List Deferred}
    (hQ : ∀ (ms : Nat) (m1 : Nat) (r1 : Nat × Nat) (r2 : Nat × Nat) (w' : World), S5 true ms m1 r1 r2 w' → Q .normal { tmps := #[s0, s1, s2, .pointer (some ⟨bx, 0, none⟩), s4, s5, s6, s7, s8, .pointer (some ⟨b9, 0, none⟩), .pointer (some ⟨b10, 0, none⟩), s11, s12, s13, s14, s15, s16, s17, s18, s19, s20, s21, s22, s23, s24, s25, s26, s27, s28, s29, s30, s31, s32, s33, s34, s35, s36, s37, s38, s39, s40, s41, s42, s43, s44, s45, s46, s47, s48, s49, s50, s51, s52, s53, s54, s55, s56, s57, s58, s59, s60, .slice (some ⟨m1, 0, none⟩) 0 0, .pointer (some ⟨bx, 0, none⟩), .slice av n cap, .slice (some ⟨r1.1, 0, none⟩) n r1.2, .slice (some ⟨ms, 0, none⟩) 0 0, .pointer (some ⟨bx, 0, none⟩), .slice av n cap, .slice (some ⟨r2.1, 0, none⟩) n r2.2, .pointer (some ⟨b9, 0, none⟩), .pointer (some ⟨b10, 0, none⟩), s71, s72, s73, s74, s75, s76, s77, s78, s79, s80, s81, s82, s83, s84, s85, s86, s87, s88, s89, s90, s91, s92, s93, s94, s95, s96, s97, s98, s99, s100, s101, s102, s103, s104, s105, s106, s107, s108, s109, s110, s111, s112, s113, s114, s115, s116, s117, s118, s119, s120, s121, s122, s123, s124, s125, s126, s127, s128, s129, s130, s131, s132, s133, s134, s135, s136, s137, s138, s139, s140, s141, s142, s143, s144, s145, s146, s147, s148, s149, s150, s151, s152, s153, s154, s155, s156, s157, s158, s159, s160, s161, s162, s163, s164, s165, s166, s167, s168, s169, s170, s171, s172, s173, s174, s175, s176, s177, s178, s179, s180, s181, s182, s183, s184, s185, s186, s187, s188, s189, s190, s191, s192, s193, s194, s195, s196, s197, s198, s199, s200, s201, s202, s203, s204, s205, s206, s207, s208, s209, s210, s211, s212, s213, s214, s215, s216, s217, s218, s219, s220, s221, s222, s223, s224, s225, s226, s227, s228, s229, s230, s231, s232, s233, s234, s235, s236, s237, s238, s239, s240, s241, s242, s243, s244, s245, s246, s247, s248, s249, s250, s251, s252, s253, s254, s255, s256, s257, s258, s259, s260, s261, s262, s263, s264, s265, s266, s267, s268, s269, s270, s271, s272, s273, s274, s275, s276, s277, s278, s279, s280, s281, s282, s283, s284, s285, s286, s287, s288, s289, s290, s291, s292, s293, s294, s295, s296, s297, s298, s299, s300, s301, s302, s303, s304, s305, s306, s307, s308, s309], defers := dd } w') :
    Code.wpIn (wideAt none) 0 Try.prog mor5C Q { tmps := #[s0, s1, s2, .pointer (some ⟨bx, 0, none⟩), s4, s5, s6, s7, s8, .pointer (some ⟨b9, 0, none⟩), .pointer (some ⟨b10, 0, none⟩), s11, s12, s13, s14, s15, s16, s17, s18, s19, s20, s21, s22, s23, s24, s25, s26, s27, s28, s29, s30, s31, s32, s33, s34, s35, s36, s37, s38, s39, s40, s41, s42, s43, s44, s45, s46, s47, s48, s49, s50, s51, s52, s53, s54, s55, s56, s57, s58, s59, s60, s61, s62, s63, s64, s65, s66, s67, s68, s69, s70, s71, s72, s73, s74, s75, s76, s77, s78, s79, s80, s81, s82, s83, s84, s85, s86, s87, s88, s89, s90, s91, s92, s93, s94, s95, s96, s97, s98, s99, s100, s101, s102, s103, s104, s105, s106, s107, s108, s109, s110, s111, s112, s113, s114, s115, s116, s117, s118, s119, s120, s121, s122, s123, s124, s125, s126, s127, s128, s129, s130, s131, s132, s133, s134, s135, s136, s137, s138, s139, s140, s141, s142, s143, s144, s145, s146, s147, s148, s149, s150, s151, s152, s153, s154, s155, s156, s157, s158, s159, s160, s161, s162, s163, s164, s165, s166, s167, s168, s169, s170, s171, s172, s173, s174, s175, s176, s177, s178, s179, s180, s181, s182, s183, s184, s185, s186, s187, s188, s189, s190, s191, s192, s193, s194, s195, s196, s197, s198, s199, s200, s201, s202, s203, s204, s205, s206, s207, s208, s209, s210, s211, s212, s213, s214, s215, s216, s217, s218, s219, s220, s221, s222, s223, s224, s225, s226, s227, s228, s229, s230, s231, s232, s233, s234, s235, s236, s237, s238, s239, s240, s241, s242, s243, s244, s245, s246, s247, s248, s249, s250, s251, s252, s253, s254, s255, s256, s257, s258, s259, s260, s261, s262, s263, s264, s265, s266, s267, s268, s269, s270, s271, s272, s273, s274, s275, s276, s277, s278, s279, s280, s281, s282, s283, s284, s285, s286, s287, s288, s289, s290, s291, s292, s293, s294, s295, s296, s297, s298, s299, s300, s301, s302, s303, s304, s305, s306, s307, s308, s309], defers := dd } W1 := by
  have HQ := Lib.hid hQ
  clear hQ
  conv => arg 4; whnf
  refine wpIn_region_invG mixed (by kernel_rfl) (fun d_ a_ w' => ∃ (x61 : Value) (x62 : Value) (x63 : Value) (x64 : Value) (x65 : Value) (x66 : Value) (x67 : Value) (x68 : Value) (x69 : Value) (x70 : Value) (ms : Nat) (m1 : Nat) (r1 : Nat × Nat) (r2 : Nat × Nat), a_ = { tmps := #[s0, s1, s2, .pointer (some ⟨bx, 0, none⟩), s4, s5, s6, s7, s8, .pointer (some ⟨b9, 0, none⟩), .pointer (some ⟨b10, 0, none⟩), s11, s12, s13, s14, s15, s16, s17, s18, s19, s20, s21, s22, s23, s24, s25, s26, s27, s28, s29, s30, s31, s32, s33, s34, s35, s36, s37, s38, s39, s40, s41, s42, s43, s44, s45, s46, s47, s48, s49, s50, s51, s52, s53, s54, s55, s56, s57, s58, s59, s60, x61, x62, x63, x64, x65, x66, x67, x68, x69, x70, s71, s72, s73, s74, s75, s76, s77, s78, s79, s80, s81, s82, s83, s84, s85, s86, s87, s88, s89, s90, s91, s92, s93, s94, s95, s96, s97, s98, s99, s100, s101, s102, s103, s104, s105, s106, s107, s108, s109, s110, s111, s112, s113, s114, s115, s116, s117, s118, s119, s120, s121, s122, s123, s124, s125, s126, s127, s128, s129, s130, s131, s132, s133, s134, s135, s136, s137, s138, s139, s140, s141, s142, s143, s144, s145, s146, s147, s148, s149, s150, s151, s152, s153, s154, s155, s156, s157, s158, s159, s160, s161, s162, s163, s164, s165, s166, s167, s168, s169, s170, s171, s172, s173, s174, s175, s176, s177, s178, s179, s180, s181, s182, s183, s184, s185, s186, s187, s188, s189, s190, s191, s192, s193, s194, s195, s196, s197, s198, s199, s200, s201, s202, s203, s204, s205, s206, s207, s208, s209, s210, s211, s212, s213, s214, s215, s216, s217, s218, s219, s220, s221, s222, s223, s224, s225, s226, s227, s228, s229, s230, s231, s232, s233, s234, s235, s236, s237, s238, s239, s240, s241, s242, s243, s244, s245, s246, s247, s248, s249, s250, s251, s252, s253, s254, s255, s256, s257, s258, s259, s260, s261, s262, s263, s264, s265, s266, s267, s268, s269, s270, s271, s272, s273, s274, s275, s276, s277, s278, s279, s280, s281, s282, s283, s284, s285, s286, s287, s288, s289, s290, s291, s292, s293, s294, s295, s296, s297, s298, s299, s300, s301, s302, s303, s304, s305, s306, s307, s308, s309], defers := dd } ∧ mor5F bx b9 b10 av n cap S0 S1 S2 S3 S4 S5 d_ x61 x62 x63 x64 x65 x66 x67 x68 x69 x70 ms m1 r1 r2 w') ?_ ?_ ?_
  · refine ⟨s61, s62, s63, s64, s65, s66, s67, s68, s69, s70, 0, 0, default, default, rfl, ?_⟩
    constructor <;> first | rfl | (intro _; rfl) | (intro h; cases h; done) | (intro _; exact h0) | exact h0
  · refine ⟨?_, ?_, ?_, ?_, ?_, ?_, ?_, ?_, ?_, ?_, ?_, ?_, trivial⟩
    all_goals
      rintro d_ a_ w1 K hd_ hdep ⟨x61, x62, x63, x64, x65, x66, x67, x68, x69, x70, ms, m1, r1, r2, rfl, F⟩ HK
      simp [Region.binds] at hdep
    · have hS := F.st0  hd_
      have hres := kc0.out (d_ 4) ms w1 hS
      have HF : Hid (mor5F bx b9 b10 av n cap S0 S1 S2 S3 S4 S5 (upd d_ 0) ((.slice (some ⟨w1.heap.size, 0, none⟩) 0 0)) x62 x63 x64 x65 x66 x67 x68 x69 x70 ms w1.heap.size r1 r2 (w1.alloc (.cells #[] 54))) := ⟨F.q2, fun h => ⟨rfl, (F.q3 h).2⟩, F.q6, F.q7, fun h => ⟨rfl, (F.q8 h).2.1, (F.q8 h).2.2.1, (F.q8 h).2.2.2⟩, fun h => ⟨rfl, (F.q9 h).2.1, (F.q9 h).2.2.1, (F.q9 h).2.2.2.1, (F.q9 h).2.2.2.2.1, (F.q9 h).2.2.2.2.2⟩, fun h => ⟨rfl, (F.q10 h).2.1, (F.q10 h).2.2.1, (F.q10 h).2.2.2.1, (F.q10 h).2.2.2.2.1, (F.q10 h).2.2.2.2.2.1, (F.q10 h).2.2.2.2.2.2.1, (F.q10 h).2.2.2.2.2.2.2.1, (F.q10 h).2.2.2.2.2.2.2.2.1, (F.q10 h).2.2.2.2.2.2.2.2.2⟩, fun h => ⟨rfl, (F.q11 h).2.1, (F.q11 h).2.2.1, (F.q11 h).2.2.2.1, (F.q11 h).2.2.2.2.1, (F.q11 h).2.2.2.2.2.1, (F.q11 h).2.2.2.2.2.2.1, (F.q11 h).2.2.2.2.2.2.2.1, (F.q11 h).2.2.2.2.2.2.2.2.1, (F.q11 h).2.2.2.2.2.2.2.2.2.1, (F.q11 h).2.2.2.2.2.2.2.2.2.2⟩, fun _ => rfl, F.f1, F.f2, F.f3, F.f4, F.f5, F.f6, F.f7, F.f8, F.f10, fun h => (by simp [upd] at h), fun _ _ => hres, fun h _ => (by have h2 : d_ 0 = true := (F.q3 h).1; rw [show d_ 0 = false from hd_] at h2; cases h2), fun h _ => (by have h2 : d_ 0 = true := (F.q3 (F.q7 h).1).1; rw [show d_ 0 = false from hd_] at h2; cases h2), fun h _ => (by have h2 : d_ 0 = true := (F.q9 h).1; rw [show d_ 0 = false from hd_] at h2; cases h2), fun h => (by have h2 : d_ 0 = true := (F.q11 h).1; rw [show d_ 0 = false from hd_] at h2; cases h2), F.mz⟩
      clear F hS hres
      go_simp
      exact HK.out _ _ ⟨_, _, _, _, _, _, _, _, _, _, _, _, _, _, rfl, HF.out⟩
    · have HF : Hid (mor5F bx b9 b10 av n cap S0 S1 S2 S3 S4 S5 (upd d_ 1) x61 (.pointer (some ⟨bx, 0, none⟩)) x63 x64 x65 x66 x67 x68 x69 x70 ms m1 r1 r2 w1) := ⟨fun h => rfl, F.q3, F.q6, F.q7, fun h => ⟨(F.q8 h).1, rfl, (F.q8 h).2.2.1, (F.q8 h).2.2.2⟩, fun h => ⟨(F.q9 h).1, rfl, (F.q9 h).2.2.1, (F.q9 h).2.2.2.1, (F.q9 h).2.2.2.2.1, (F.q9 h).2.2.2.2.2⟩, fun h => ⟨(F.q10 h).1, rfl, (F.q10 h).2.2.1, (F.q10 h).2.2.2.1, (F.q10 h).2.2.2.2.1, (F.q10 h).2.2.2.2.2.1, (F.q10 h).2.2.2.2.2.2.1, (F.q10 h).2.2.2.2.2.2.2.1, (F.q10 h).2.2.2.2.2.2.2.2.1, (F.q10 h).2.2.2.2.2.2.2.2.2⟩, fun h => ⟨(F.q11 h).1, rfl, (F.q11 h).2.2.1, (F.q11 h).2.2.2.1, (F.q11 h).2.2.2.2.1, (F.q11 h).2.2.2.2.2.1, (F.q11 h).2.2.2.2.2.2.1, (F.q11 h).2.2.2.2.2.2.2.1, (F.q11 h).2.2.2.2.2.2.2.2.1, (F.q11 h).2.2.2.2.2.2.2.2.2.1, (F.q11 h).2.2.2.2.2.2.2.2.2.2⟩, F.f0, fun _ => rfl, F.f2, F.f3, F.f4, F.f5, F.f6, F.f7, F.f8, F.f10, F.st0, F.st1, F.st2, F.st3, F.st4, F.st5, F.mz⟩
      clear F
      go_simp
      exact HK.out _ _ ⟨_, _, _, _, _, _, _, _, _, _, _, _, _, _, rfl, HF.out⟩
    · have hst : S0 (d_ 4) ms w1 ∨ S1 (d_ 4) ms m1 w1 := by
        cases e1 : d_ 0 with
        | false => exact .inl ((F.st0 e1))
        | true =>
          have n_ : d_ 3 = false := by
            cases e_ : d_ 3 with
            | false => rfl
            | true => have h2 := (F.q3 e_).2; rw [show d_ 2 = false from hd_] at h2; cases h2
          exact .inr ((F.st1 e1 n_))
      have kk := kl2.out (d_ 4) ms m1 w1 hst
      clear hst
      obtain rfl := F.f1 (by simp [hdep])
      have HF : Hid (mor5F bx b9 b10 av n cap S0 S1 S2 S3 S4 S5 (upd d_ 2) x61 (.pointer (some ⟨bx, 0, none⟩)) (.slice av n cap) x64 x65 x66 x67 x68 x69 x70 ms m1 r1 r2 w1) := ⟨fun _ => (show _ from (by simp [hdep] : d_ 1 = true)), fun h => ⟨(F.q3 h).1, rfl⟩, F.q6, F.q7, fun h => ⟨(F.q8 h).1, (F.q8 h).2.1, rfl, (F.q8 h).2.2.2⟩, fun h => ⟨(F.q9 h).1, (F.q9 h).2.1, rfl, (F.q9 h).2.2.2.1, (F.q9 h).2.2.2.2.1, (F.q9 h).2.2.2.2.2⟩, fun h => ⟨(F.q10 h).1, (F.q10 h).2.1, rfl, (F.q10 h).2.2.2.1, (F.q10 h).2.2.2.2.1, (F.q10 h).2.2.2.2.2.1, (F.q10 h).2.2.2.2.2.2.1, (F.q10 h).2.2.2.2.2.2.2.1, (F.q10 h).2.2.2.2.2.2.2.2.1, (F.q10 h).2.2.2.2.2.2.2.2.2⟩, fun h => ⟨(F.q11 h).1, (F.q11 h).2.1, rfl, (F.q11 h).2.2.2.1, (F.q11 h).2.2.2.2.1, (F.q11 h).2.2.2.2.2.1, (F.q11 h).2.2.2.2.2.2.1, (F.q11 h).2.2.2.2.2.2.2.1, (F.q11 h).2.2.2.2.2.2.2.2.1, (F.q11 h).2.2.2.2.2.2.2.2.2.1, (F.q11 h).2.2.2.2.2.2.2.2.2.2⟩, F.f0, F.f1, fun _ => rfl, F.f3, F.f4, F.f5, F.f6, F.f7, F.f8, F.f10, F.st0, F.st1, F.st2, F.st3, F.st4, F.st5, F.mz⟩
      clear F
      go_simp
      exact HK.out _ _ ⟨_, _, _, _, _, _, _, _, _, _, _, _, _, _, rfl, HF.out⟩
    · have hS := F.st1 (by simp [hdep] : d_ 0 = true) hd_
      obtain rfl := F.f0 (by simp [hdep])
      obtain rfl := F.f2 (by simp [hdep])
      obtain ⟨v_, w_, hr, hres⟩ := kc3.out (d_ 4) ms m1 w1 hS
      rw [if_pos (by rfl)]
      refine wpIn_append_run (.tmp 61) (.tmp 63) 22 rfl _ _ _ _ rfl rfl hr ?_
      exact HK.out _ _ ⟨_, _, _, _, _, _, _, _, _, _, ms, m1, v_, r2, rfl, ⟨F.q2, fun _ => ⟨(show _ from (by simp [hdep] : d_ 0 = true)), (show _ from (by simp [hdep] : d_ 2 = true))⟩, F.q6, fun h => ⟨rfl, (F.q7 h).2.1, (F.q7 h).2.2⟩, fun h => ⟨(F.q8 h).1, (F.q8 h).2.1, (F.q8 h).2.2.1, rfl⟩, fun h => ⟨(F.q9 h).1, (F.q9 h).2.1, (F.q9 h).2.2.1, rfl, (F.q9 h).2.2.2.2.1, (F.q9 h).2.2.2.2.2⟩, fun h => ⟨(F.q10 h).1, (F.q10 h).2.1, (F.q10 h).2.2.1, rfl, (F.q10 h).2.2.2.2.1, (F.q10 h).2.2.2.2.2.1, (F.q10 h).2.2.2.2.2.2.1, (F.q10 h).2.2.2.2.2.2.2.1, (F.q10 h).2.2.2.2.2.2.2.2.1, (F.q10 h).2.2.2.2.2.2.2.2.2⟩, fun h => ⟨(F.q11 h).1, (F.q11 h).2.1, (F.q11 h).2.2.1, rfl, (F.q11 h).2.2.2.2.1, (F.q11 h).2.2.2.2.2.1, (F.q11 h).2.2.2.2.2.2.1, (F.q11 h).2.2.2.2.2.2.2.1, (F.q11 h).2.2.2.2.2.2.2.2.1, (F.q11 h).2.2.2.2.2.2.2.2.2.1, (F.q11 h).2.2.2.2.2.2.2.2.2.2⟩, F.f0, F.f1, F.f2, fun _ => rfl, F.f4, F.f5, F.f6, F.f7, F.f8, F.f10, fun h => (by have h2 : d_ 0 = false := h; rw [(by simp [hdep] : d_ 0 = true)] at h2; cases h2), fun _ h => (by simp [upd] at h), fun _ _ => hres, fun h _ => (by have h2 : d_ 3 = true := (F.q7 h).1; rw [show d_ 3 = false from hd_] at h2; cases h2), fun h _ => (by have h2 : d_ 3 = true := (F.q9 h).2.2.2.1; rw [show d_ 3 = false from hd_] at h2; cases h2), fun h => (by have h2 : d_ 3 = true := (F.q11 h).2.2.2.1; rw [show d_ 3 = false from hd_] at h2; cases h2), F.mz⟩⟩
    · have HF : Hid (mor5F bx b9 b10 av n cap S0 S1 S2 S3 S4 S5 (upd d_ 4) x61 x62 x63 x64 (.slice (some ⟨w1.heap.size, 0, none⟩) 0 0) x66 x67 x68 x69 x70 w1.heap.size m1 r1 r2 (w1.alloc (.cells #[] 54))) := ⟨F.q2, F.q3, F.q6, fun h => ⟨(F.q7 h).1, rfl, (F.q7 h).2.2⟩, F.q8, F.q9, fun h => ⟨(F.q10 h).1, (F.q10 h).2.1, (F.q10 h).2.2.1, (F.q10 h).2.2.2.1, rfl, (F.q10 h).2.2.2.2.2.1, (F.q10 h).2.2.2.2.2.2.1, (F.q10 h).2.2.2.2.2.2.2.1, (F.q10 h).2.2.2.2.2.2.2.2.1, (F.q10 h).2.2.2.2.2.2.2.2.2⟩, fun h => ⟨(F.q11 h).1, (F.q11 h).2.1, (F.q11 h).2.2.1, (F.q11 h).2.2.2.1, rfl, (F.q11 h).2.2.2.2.2.1, (F.q11 h).2.2.2.2.2.2.1, (F.q11 h).2.2.2.2.2.2.2.1, (F.q11 h).2.2.2.2.2.2.2.2.1, (F.q11 h).2.2.2.2.2.2.2.2.2.1, (F.q11 h).2.2.2.2.2.2.2.2.2.2⟩, F.f0, F.f1, F.f2, F.f3, fun _ => rfl, F.f5, F.f6, F.f7, F.f8, F.f10, fun b => ks0.out w1 (by have h := F.st0 b; rw [show d_ 4 = false from hd_, F.mz hd_] at h; exact h), fun a b => ks1.out m1 w1 (by have h := F.st1 a b; rw [show d_ 4 = false from hd_, F.mz hd_] at h; exact h), fun a b => ks2.out m1 r1 w1 (by have h := F.st2 a b; rw [show d_ 4 = false from hd_, F.mz hd_] at h; exact h), fun a b => (by have h2 : d_ 4 = true := (F.q7 a).2.1; rw [show d_ 4 = false from hd_] at h2; cases h2), fun a b => (by have h2 : d_ 4 = true := (F.q7 (F.q9 a).2.2.2.2.1).2.1; rw [show d_ 4 = false from hd_] at h2; cases h2), fun a => (by have h2 : d_ 4 = true := (F.q11 a).2.2.2.2.1; rw [show d_ 4 = false from hd_] at h2; cases h2), fun h => (by simp [upd] at h)⟩
      clear F
      go_simp
      exact HK.out _ _ ⟨_, _, _, _, _, _, _, _, _, _, _, _, _, _, rfl, HF.out⟩
    · have HF : Hid (mor5F bx b9 b10 av n cap S0 S1 S2 S3 S4 S5 (upd d_ 5) x61 x62 x63 x64 x65 (.pointer (some ⟨bx, 0, none⟩)) x67 x68 x69 x70 ms m1 r1 r2 w1) := ⟨F.q2, F.q3, fun h => rfl, F.q7, F.q8, F.q9, fun h => ⟨(F.q10 h).1, (F.q10 h).2.1, (F.q10 h).2.2.1, (F.q10 h).2.2.2.1, (F.q10 h).2.2.2.2.1, rfl, (F.q10 h).2.2.2.2.2.2.1, (F.q10 h).2.2.2.2.2.2.2.1, (F.q10 h).2.2.2.2.2.2.2.2.1, (F.q10 h).2.2.2.2.2.2.2.2.2⟩, fun h => ⟨(F.q11 h).1, (F.q11 h).2.1, (F.q11 h).2.2.1, (F.q11 h).2.2.2.1, (F.q11 h).2.2.2.2.1, rfl, (F.q11 h).2.2.2.2.2.2.1, (F.q11 h).2.2.2.2.2.2.2.1, (F.q11 h).2.2.2.2.2.2.2.2.1, (F.q11 h).2.2.2.2.2.2.2.2.2.1, (F.q11 h).2.2.2.2.2.2.2.2.2.2⟩, F.f0, F.f1, F.f2, F.f3, F.f4, fun _ => rfl, F.f6, F.f7, F.f8, F.f10, F.st0, F.st1, F.st2, F.st3, F.st4, F.st5, F.mz⟩
      clear F
      go_simp
      exact HK.out _ _ ⟨_, _, _, _, _, _, _, _, _, _, _, _, _, _, rfl, HF.out⟩
    · have hst : S0 (d_ 4) ms w1 ∨ S1 (d_ 4) ms m1 w1 ∨ S2 (d_ 4) ms m1 r1 w1 := by
        cases e1 : d_ 0 with
        | false => exact .inl ((F.st0 e1))
        | true =>
          cases e2 : d_ 3 with
          | false => exact .inr (.inl ((F.st1 e1 e2)))
          | true =>
            have n_ : d_ 7 = false := by
              cases e_ : d_ 7 with
              | false => rfl
              | true => have h2 := (F.q7 e_).2.2; rw [show d_ 6 = false from hd_] at h2; cases h2
            exact .inr (.inr ((F.st2 e2 n_)))
      have kk := kl6.out (d_ 4) ms m1 r1 w1 hst
      clear hst
      obtain rfl := F.f5 (by simp [hdep])
      have HF : Hid (mor5F bx b9 b10 av n cap S0 S1 S2 S3 S4 S5 (upd d_ 6) x61 x62 x63 x64 x65 (.pointer (some ⟨bx, 0, none⟩)) (.slice av n cap) x68 x69 x70 ms m1 r1 r2 w1) := ⟨F.q2, F.q3, fun _ => (show _ from (by simp [hdep] : d_ 5 = true)), fun h => ⟨(F.q7 h).1, (F.q7 h).2.1, rfl⟩, F.q8, F.q9, fun h => ⟨(F.q10 h).1, (F.q10 h).2.1, (F.q10 h).2.2.1, (F.q10 h).2.2.2.1, (F.q10 h).2.2.2.2.1, (F.q10 h).2.2.2.2.2.1, rfl, (F.q10 h).2.2.2.2.2.2.2.1, (F.q10 h).2.2.2.2.2.2.2.2.1, (F.q10 h).2.2.2.2.2.2.2.2.2⟩, fun h => ⟨(F.q11 h).1, (F.q11 h).2.1, (F.q11 h).2.2.1, (F.q11 h).2.2.2.1, (F.q11 h).2.2.2.2.1, (F.q11 h).2.2.2.2.2.1, rfl, (F.q11 h).2.2.2.2.2.2.2.1, (F.q11 h).2.2.2.2.2.2.2.2.1, (F.q11 h).2.2.2.2.2.2.2.2.2.1, (F.q11 h).2.2.2.2.2.2.2.2.2.2⟩, F.f0, F.f1, F.f2, F.f3, F.f4, F.f5, fun _ => rfl, F.f7, F.f8, F.f10, F.st0, F.st1, F.st2, F.st3, F.st4, F.st5, F.mz⟩
      clear F
      go_simp
      exact HK.out _ _ ⟨_, _, _, _, _, _, _, _, _, _, _, _, _, _, rfl, HF.out⟩
    · have hS := F.st2 (by simp [hdep] : d_ 3 = true) hd_
      rw [show d_ 4 = true from (by simp [hdep] : d_ 4 = true)] at hS
      obtain rfl := F.f4 (by simp [hdep])
      obtain rfl := F.f6 (by simp [hdep])
      obtain ⟨v_, w_, hr, hres⟩ := kc7.out ms m1 r1 w1 hS
      rw [if_pos (by rfl)]
      refine wpIn_append_run (.tmp 65) (.tmp 67) 22 rfl _ _ _ _ rfl rfl hr ?_
      exact HK.out _ _ ⟨_, _, _, _, _, _, _, _, _, _, ms, m1, r1, v_, rfl, ⟨F.q2, F.q3, F.q6, fun _ => ⟨(show _ from (by simp [hdep] : d_ 3 = true)), (show _ from (by simp [hdep] : d_ 4 = true)), (show _ from (by simp [hdep] : d_ 6 = true))⟩, F.q8, fun h => ⟨(F.q9 h).1, (F.q9 h).2.1, (F.q9 h).2.2.1, (F.q9 h).2.2.2.1, rfl, (F.q9 h).2.2.2.2.2⟩, fun h => ⟨(F.q10 h).1, (F.q10 h).2.1, (F.q10 h).2.2.1, (F.q10 h).2.2.2.1, (F.q10 h).2.2.2.2.1, (F.q10 h).2.2.2.2.2.1, (F.q10 h).2.2.2.2.2.2.1, rfl, (F.q10 h).2.2.2.2.2.2.2.2.1, (F.q10 h).2.2.2.2.2.2.2.2.2⟩, fun h => ⟨(F.q11 h).1, (F.q11 h).2.1, (F.q11 h).2.2.1, (F.q11 h).2.2.2.1, (F.q11 h).2.2.2.2.1, (F.q11 h).2.2.2.2.2.1, (F.q11 h).2.2.2.2.2.2.1, rfl, (F.q11 h).2.2.2.2.2.2.2.2.1, (F.q11 h).2.2.2.2.2.2.2.2.2.1, (F.q11 h).2.2.2.2.2.2.2.2.2.2⟩, F.f0, F.f1, F.f2, F.f3, F.f4, F.f5, F.f6, fun _ => rfl, F.f8, F.f10, fun h => (by have h2 : d_ 0 = false := h; rw [(F.q3 (by simp [hdep] : d_ 3 = true)).1] at h2; cases h2), fun _ h => (by have h2 : d_ 3 = false := h; rw [(by simp [hdep] : d_ 3 = true)] at h2; cases h2), fun _ h => (by simp [upd] at h), fun _ _ => (by rw [show upd d_ 7 4 = true from (by simp [hdep] : d_ 4 = true)]; exact hres), fun h _ => (by have h2 : d_ 7 = true := (F.q9 h).2.2.2.2.1; rw [show d_ 7 = false from hd_] at h2; cases h2), fun h => (by have h2 : d_ 7 = true := (F.q11 h).2.2.2.2.2.2.2.1; rw [show d_ 7 = false from hd_] at h2; cases h2), F.mz⟩⟩
    · have HF : Hid (mor5F bx b9 b10 av n cap S0 S1 S2 S3 S4 S5 (upd d_ 8) x61 x62 x63 x64 x65 x66 x67 x68 (.pointer (some ⟨b9, 0, none⟩)) x70 ms m1 r1 r2 w1) := ⟨F.q2, F.q3, F.q6, F.q7, fun _ => ⟨(show _ from (by simp [hdep] : d_ 0 = true)), (show _ from (by simp [hdep] : d_ 1 = true)), (show _ from (by simp [hdep] : d_ 2 = true)), (show _ from (by simp [hdep] : d_ 3 = true))⟩, fun h => ⟨(F.q9 h).1, (F.q9 h).2.1, (F.q9 h).2.2.1, (F.q9 h).2.2.2.1, (F.q9 h).2.2.2.2.1, rfl⟩, fun h => ⟨(F.q10 h).1, (F.q10 h).2.1, (F.q10 h).2.2.1, (F.q10 h).2.2.2.1, (F.q10 h).2.2.2.2.1, (F.q10 h).2.2.2.2.2.1, (F.q10 h).2.2.2.2.2.2.1, (F.q10 h).2.2.2.2.2.2.2.1, rfl, (F.q10 h).2.2.2.2.2.2.2.2.2⟩, fun h => ⟨(F.q11 h).1, (F.q11 h).2.1, (F.q11 h).2.2.1, (F.q11 h).2.2.2.1, (F.q11 h).2.2.2.2.1, (F.q11 h).2.2.2.2.2.1, (F.q11 h).2.2.2.2.2.2.1, (F.q11 h).2.2.2.2.2.2.2.1, rfl, (F.q11 h).2.2.2.2.2.2.2.2.2.1, (F.q11 h).2.2.2.2.2.2.2.2.2.2⟩, F.f0, F.f1, F.f2, F.f3, F.f4, F.f5, F.f6, F.f7, fun _ => rfl, F.f10, F.st0, F.st1, F.st2, F.st3, F.st4, F.st5, F.mz⟩
      clear F
      go_simp
      exact HK.out _ _ ⟨_, _, _, _, _, _, _, _, _, _, _, _, _, _, rfl, HF.out⟩
    · have hS := F.st3 (by simp [hdep] : d_ 7 = true) hd_
      rw [show d_ 4 = true from (F.q7 (by simp [hdep] : d_ 7 = true)).2.1] at hS
      obtain rfl := F.f3 (by simp [hdep])
      obtain rfl := F.f8 (by simp [hdep])
      obtain ⟨⟨ku0, kcell0⟩, kfr0, hres⟩ := kc9.out ms m1 r1 r2 w1 hS
      have HF : Hid (mor5F bx b9 b10 av n cap S0 S1 S2 S3 S4 S5 (upd d_ 9) x61 x62 x63 (.slice (some ⟨r1.1, 0, none⟩) n r1.2) x65 x66 x67 x68 (.pointer (some ⟨b9, 0, none⟩)) x70 ms m1 r1 r2 (w1.setCell ⟨b9, 0, none⟩ (.slice (some ⟨r1.1, 0, none⟩) n r1.2))) := ⟨F.q2, F.q3, F.q6, F.q7, F.q8, fun _ => ⟨(show _ from (by simp [hdep] : d_ 0 = true)), (show _ from (by simp [hdep] : d_ 1 = true)), (show _ from (by simp [hdep] : d_ 2 = true)), (show _ from (by simp [hdep] : d_ 3 = true)), (show _ from (by simp [hdep] : d_ 7 = true)), (show _ from (by simp [hdep] : d_ 8 = true))⟩, fun h => ⟨(F.q10 h).1, (F.q10 h).2.1, (F.q10 h).2.2.1, (F.q10 h).2.2.2.1, (F.q10 h).2.2.2.2.1, (F.q10 h).2.2.2.2.2.1, (F.q10 h).2.2.2.2.2.2.1, (F.q10 h).2.2.2.2.2.2.2.1, (F.q10 h).2.2.2.2.2.2.2.2.1, rfl⟩, fun h => ⟨(F.q11 h).1, (F.q11 h).2.1, (F.q11 h).2.2.1, (F.q11 h).2.2.2.1, (F.q11 h).2.2.2.2.1, (F.q11 h).2.2.2.2.2.1, (F.q11 h).2.2.2.2.2.2.1, (F.q11 h).2.2.2.2.2.2.2.1, (F.q11 h).2.2.2.2.2.2.2.2.1, rfl, (F.q11 h).2.2.2.2.2.2.2.2.2.2⟩, F.f0, F.f1, F.f2, F.f3, F.f4, F.f5, F.f6, F.f7, F.f8, F.f10, fun h => (by have h2 : d_ 0 = false := h; rw [(by simp [hdep] : d_ 0 = true)] at h2; cases h2), fun _ h => (by have h2 : d_ 3 = false := h; rw [(by simp [hdep] : d_ 3 = true)] at h2; cases h2), fun _ h => (by have h2 : d_ 7 = false := h; rw [(by simp [hdep] : d_ 7 = true)] at h2; cases h2), fun _ h => (by simp [upd] at h), fun _ _ => (by rw [show upd d_ 9 4 = true from (F.q7 (by simp [hdep] : d_ 7 = true)).2.1]; exact hres), fun h => (by have h2 : d_ 9 = true := (F.q11 h).2.2.2.2.2.2.2.2.2.1; rw [show d_ 9 = false from hd_] at h2; cases h2), F.mz⟩
      clear F hS hres
      go_simp
      exact HK.out _ _ ⟨_, _, _, _, _, _, _, _, _, _, _, _, _, _, rfl, HF.out⟩
    · have HF : Hid (mor5F bx b9 b10 av n cap S0 S1 S2 S3 S4 S5 (upd d_ 10) x61 x62 x63 x64 x65 x66 x67 x68 x69 (.pointer (some ⟨b10, 0, none⟩)) ms m1 r1 r2 w1) := ⟨F.q2, F.q3, F.q6, F.q7, F.q8, F.q9, fun _ => ⟨(show _ from (by simp [hdep] : d_ 0 = true)), (show _ from (by simp [hdep] : d_ 1 = true)), (show _ from (by simp [hdep] : d_ 2 = true)), (show _ from (by simp [hdep] : d_ 3 = true)), (show _ from (by simp [hdep] : d_ 4 = true)), (show _ from (by simp [hdep] : d_ 5 = true)), (show _ from (by simp [hdep] : d_ 6 = true)), (show _ from (by simp [hdep] : d_ 7 = true)), (show _ from (by simp [hdep] : d_ 8 = true)), (show _ from (by simp [hdep] : d_ 9 = true))⟩, fun h => ⟨(F.q11 h).1, (F.q11 h).2.1, (F.q11 h).2.2.1, (F.q11 h).2.2.2.1, (F.q11 h).2.2.2.2.1, (F.q11 h).2.2.2.2.2.1, (F.q11 h).2.2.2.2.2.2.1, (F.q11 h).2.2.2.2.2.2.2.1, (F.q11 h).2.2.2.2.2.2.2.2.1, (F.q11 h).2.2.2.2.2.2.2.2.2.1, rfl⟩, F.f0, F.f1, F.f2, F.f3, F.f4, F.f5, F.f6, F.f7, F.f8, fun _ => rfl, F.st0, F.st1, F.st2, F.st3, F.st4, F.st5, F.mz⟩
      clear F
      go_simp
      exact HK.out _ _ ⟨_, _, _, _, _, _, _, _, _, _, _, _, _, _, rfl, HF.out⟩
    · have hS := F.st4 (by simp [hdep] : d_ 9 = true) hd_
      rw [show d_ 4 = true from (by simp [hdep] : d_ 4 = true)] at hS
      obtain rfl := F.f7 (by simp [hdep])
      obtain rfl := F.f10 (by simp [hdep])
      obtain ⟨⟨ku0, kcell0⟩, kfr0, hres⟩ := kc11.out ms m1 r1 r2 w1 hS
      have HF : Hid (mor5F bx b9 b10 av n cap S0 S1 S2 S3 S4 S5 (upd d_ 11) x61 x62 x63 x64 x65 x66 x67 (.slice (some ⟨r2.1, 0, none⟩) n r2.2) x69 (.pointer (some ⟨b10, 0, none⟩)) ms m1 r1 r2 (w1.setCell ⟨b10, 0, none⟩ (.slice (some ⟨r2.1, 0, none⟩) n r2.2))) := ⟨F.q2, F.q3, F.q6, F.q7, F.q8, F.q9, F.q10, fun _ => ⟨(show _ from (by simp [hdep] : d_ 0 = true)), (show _ from (by simp [hdep] : d_ 1 = true)), (show _ from (by simp [hdep] : d_ 2 = true)), (show _ from (by simp [hdep] : d_ 3 = true)), (show _ from (by simp [hdep] : d_ 4 = true)), (show _ from (by simp [hdep] : d_ 5 = true)), (show _ from (by simp [hdep] : d_ 6 = true)), (show _ from (by simp [hdep] : d_ 7 = true)), (show _ from (by simp [hdep] : d_ 8 = true)), (show _ from (by simp [hdep] : d_ 9 = true)), (show _ from (by simp [hdep] : d_ 10 = true))⟩, F.f0, F.f1, F.f2, F.f3, F.f4, F.f5, F.f6, F.f7, F.f8, F.f10, fun h => (by have h2 : d_ 0 = false := h; rw [(by simp [hdep] : d_ 0 = true)] at h2; cases h2), fun _ h => (by have h2 : d_ 3 = false := h; rw [(by simp [hdep] : d_ 3 = true)] at h2; cases h2), fun _ h => (by have h2 : d_ 7 = false := h; rw [(by simp [hdep] : d_ 7 = true)] at h2; cases h2), fun _ h => (by have h2 : d_ 9 = false := h; rw [(by simp [hdep] : d_ 9 = true)] at h2; cases h2), fun _ h => (by simp [upd] at h), fun _ => (by rw [show upd d_ 11 4 = true from (by simp [hdep] : d_ 4 = true)]; exact hres), F.mz⟩
      clear F hS hres
      go_simp
      exact HK.out _ _ ⟨_, _, _, _, _, _, _, _, _, _, _, _, _, _, rfl, HF.out⟩
  · rintro d_ a_ w1 hall ⟨x61, x62, x63, x64, x65, x66, x67, x68, x69, x70, ms, m1, r1, r2, rfl, F⟩
    have hall' : ∀ k, k < 12 → d_ k = true := hall
    obtain rfl := F.f0 (hall' 0 (by decide))
    obtain rfl := F.f1 (hall' 1 (by decide))
    obtain rfl := F.f2 (hall' 2 (by decide))
    obtain rfl := F.f3 (hall' 3 (by decide))
    obtain rfl := F.f4 (hall' 4 (by decide))
    obtain rfl := F.f5 (hall' 5 (by decide))
    obtain rfl := F.f6 (hall' 6 (by decide))
    obtain rfl := F.f7 (hall' 7 (by decide))
    obtain rfl := F.f8 (hall' 8 (by decide))
    obtain rfl := F.f10 (hall' 10 (by decide))
    have hst := F.st5 (hall' 11 (by decide))
    rw [show d_ 4 = true from hall' 4 (by decide)] at hst
    exact HQ.out ms m1 r1 r2 w1 hst
/-- What a slot holds: the value, once it is done. -/
def pk (b : Bool) (v s : Value) : Value := if b then v else s
theorem pk_of {b : Bool} (h : b = true) (v s : Value) : pk b v s = v := by rw [h]; rfl
noncomputable def mor16C : Code := (Try.f7.body.bind (regionAt 16)).getD .skip
set_option maxRecDepth 100000 in
set_option maxHeartbeats 8000000 in
theorem mor16 {bx b11 : Nat} {by_ l0 l1 o0 o1 d2 d3 x y : Int} {R : Bool → Bool → World → Prop} {Q : Exit → Act → World → Prop} {W1 : World} (hw : IntKind.i64.wrap by_ = by_) (h2 : by_.tmod 2 = d2) (h3 : by_.tmod 3 = d3) (ha : IntKind.i64.wrap (l0 + d2) = l0 + d2) (hb : IntKind.i64.wrap (o1 - d3) = o1 - d3) (hx : min l1 (l0 + d2) = x) (hy : max o0 (o1 - d3) = y) (h0 : R false false W1.drew)
    (kl2 : Hid (∀ (f0 : Bool) (f1 : Bool) (w : World), R f0 f1 w → w.cell? ⟨bx, 2, none⟩ = some (.int .i64 l1)))
    (kl5 : Hid (∀ (f0 : Bool) (f1 : Bool) (w : World), R f0 f1 w → w.cell? ⟨bx, 1, none⟩ = some (.int .i64 l0)))
    (kl13 : Hid (∀ (f0 : Bool) (f1 : Bool) (w : World), R f0 f1 w → w.cell? ⟨bx, 2, none⟩ = some (.int .i64 l1)))
    (kc14 : Hid (∀ (f0 : Bool) (f1 : Bool) (w : World), R f0 f1 w → Calls Try.prog 31 #[.int .i64 x, .int .i64 l1] w fun e w' => e = .returned (.agg #[.int .i64 x, .int .i64 l1]) ∧ R f0 f1 w'))
    (kl17 : Hid (∀ (f0 : Bool) (f1 : Bool) (w : World), R f0 f1 w → w.cell? ⟨bx, 3, none⟩ = some (.int .i64 o0)))
    (kl20 : Hid (∀ (f0 : Bool) (f1 : Bool) (w : World), R f0 f1 w → w.cell? ⟨bx, 3, none⟩ = some (.int .i64 o0)))
    (kl23 : Hid (∀ (f0 : Bool) (f1 : Bool) (w : World), R f0 f1 w → w.cell? ⟨bx, 4, none⟩ = some (.int .i64 o1)))
    (kc29 : Hid (∀ (f0 : Bool) (f1 : Bool) (w : World), R f0 f1 w → Calls Try.prog 31 #[.int .i64 o0, .int .i64 y] w fun e w' => e = .returned (.agg #[.int .i64 o0, .int .i64 y]) ∧ R f0 f1 w'))
    (ks31 : Hid (∀ (f1 : Bool) (w : World), R false f1 w → (∃ u, w.cell? ⟨b11, 1, none⟩ = some u) ∧ w.frozen? ⟨b11, 1, none⟩ = false ∧ (∃ u, w.cell? ⟨b11, 2, none⟩ = some u) ∧ w.frozen? ⟨b11, 2, none⟩ = false ∧ R true f1 ((w.setCell ⟨b11, 1, none⟩ (.int .i64 x)).setCell ⟨b11, 2, none⟩ (.int .i64 l1))))
    (ks33 : Hid (∀ (f0 : Bool) (w : World), R f0 false w → (∃ u, w.cell? ⟨b11, 3, none⟩ = some u) ∧ w.frozen? ⟨b11, 3, none⟩ = false ∧ (∃ u, w.cell? ⟨b11, 4, none⟩ = some u) ∧ w.frozen? ⟨b11, 4, none⟩ = false ∧ R f0 true ((w.setCell ⟨b11, 3, none⟩ (.int .i64 o0)).setCell ⟨b11, 4, none⟩ (.int .i64 y))))
    {s0 s1 s4 s5 s6 s7 s8 s9 s10 s12 s13 s14 s15 s16 s17 s18 s19 s20 s21 s22 s23 s24 s25 s26 s27 s28 s29 s30 s31 s32 s33 s34 s35 s36 s37 s38 s39 s40 s41 s42 s43 s44 s45 s46 s47 s48 s49 s50 s51 s52 s53 s54 s55 s56 s57 s58 s59 s60 s61 s62 s63 s64 s65 s66 s67 s68 s69 s70 s71 s72 s73 s74 s75 s76 s77 s78 s79 s80 s81 s82 s83 s84 s85 s86 s87 s88 s89 s90 s91 s92 s93 s94 s95 s96 s97 s98 s99 s100 s101 s102 s103 s104 s105 s106 s107 s108 s109 s110 s111 s112 s113 s114 s115 s116 s117 s118 s119 s120 s121 s122 s123 s124 s125 s126 s127 s128 s129 s130 s131 s132 s133 s134 s135 s136 s137 s138 s139 s140 s141 s142 s143 s144 s145 s146 s147 s148 s149 s150 s151 s152 s153 s154 s155 s156 s157 s158 s159 s160 s161 s162 s163 s164 s165 s166 s167 s168 s169 s170 s171 s172 s173 s174 s175 s176 s177 s178 s179 s180 s181 s182 s183 s184 s185 s186 s187 s188 s189 s190 s191 s192 s193 s194 s195 s196 s197 s198 s199 s200 s201 s202 s203 s204 s205 s206 s207 s208 s209 s210 s211 s212 s213 s214 s215 s216 s217 s218 s219 s220 s221 s222 s223 s224 s225 s226 s227 s228 s229 s230 s231 s232 s233 s234 s235 s236 s237 s238 s239 s240 s241 s242 s243 s244 s245 s246 s247 s248 s249 s250 s251 s252 s253 s254 s255 s256 s257 s258 s259 s260 s261 s262 s263 s264 s265 s266 s267 s268 s269 s270 s271 s272 s273 s274 s275 s276 s277 s278 s279 s280 s281 s282 s283 s284 s285 s286 s287 s288 s289 s290 s291 s292 s293 s294 s295 s296 s297 s298 s299 s300 s301 s302 s303 s304 s305 s306 s307 s308 s309 : Value} {dd : List Deferred}
    (hQ : ∀ w' : World, R true true w' → Q .normal { tmps := #[s0,s1,.int .u8 by_,.pointer (some ⟨bx, 0, none⟩),s4,s5,s6,s7,s8,s9,s10,.pointer (some ⟨b11, 0, none⟩),s12,s13,s14,s15,s16,s17,s18,s19,s20,s21,s22,s23,s24,s25,s26,s27,s28,s29,s30,s31,s32,s33,s34,s35,s36,s37,s38,s39,s40,s41,s42,s43,s44,s45,s46,s47,s48,s49,s50,s51,s52,s53,s54,s55,s56,s57,s58,s59,s60,s61,s62,s63,s64,s65,s66,s67,s68,s69,s70,s71,s72,s73,s74,s75,s76,s77,s78,s79,s80,s81,s82,s83,s84,s85,s86,s87,s88,s89,s90,s91,s92,s93,s94,s95,s96,s97,s98,s99,s100,s101,s102,s103,s104,s105,s106,s107,s108,s109,s110,s111,s112,s113,s114,s115,s116,s117,s118,s119,s120,s121,s122,s123,s124,s125,s126,s127,s128,s129,s130,s131,s132,s133,s134,s135,s136,s137,s138,s139,s140,s141,s142,s143,s144,s145,s146,s147,s148,s149,s150,s151,s152,s153,.pointer (some ⟨bx, 1, none⟩),.pointer (some ⟨bx, 2, none⟩),.int .i64 l1,.pointer (some ⟨bx, 1, none⟩),.pointer (some ⟨bx, 1, none⟩),.int .i64 l0,.int .u8 by_,.int .i64 by_,.int .i64 d2,.int .i64 (l0 + d2),.int .i64 x,.pointer (some ⟨bx, 1, none⟩),.pointer (some ⟨bx, 2, none⟩),.int .i64 l1,.agg #[.int .i64 x, .int .i64 l1],.pointer (some ⟨bx, 3, none⟩),.pointer (some ⟨bx, 3, none⟩),.int .i64 o0,.pointer (some ⟨bx, 3, none⟩),.pointer (some ⟨bx, 3, none⟩),.int .i64 o0,.pointer (some ⟨bx, 3, none⟩),.pointer (some ⟨bx, 4, none⟩),.int .i64 o1,.int .u8 by_,.int .i64 by_,.int .i64 d3,.int .i64 (o1 - d3),.int .i64 y,.agg #[.int .i64 o0, .int .i64 y],.pointer (some ⟨b11, 1, none⟩),.pointer (some ⟨b11, 3, none⟩),s186,s187,s188,s189,s190,s191,s192,s193,s194,s195,s196,s197,s198,s199,s200,s201,s202,s203,s204,s205,s206,s207,s208,s209,s210,s211,s212,s213,s214,s215,s216,s217,s218,s219,s220,s221,s222,s223,s224,s225,s226,s227,s228,s229,s230,s231,s232,s233,s234,s235,s236,s237,s238,s239,s240,s241,s242,s243,s244,s245,s246,s247,s248,s249,s250,s251,s252,s253,s254,s255,s256,s257,s258,s259,s260,s261,s262,s263,s264,s265,s266,s267,s268,s269,s270,s271,s272,s273,s274,s275,s276,s277,s278,s279,s280,s281,s282,s283,s284,s285,s286,s287,s288,s289,s290,s291,s292,s293,s294,s295,s296,s297,s298,s299,s300,s301,s302,s303,s304,s305,s306,s307,s308,s309],defers := dd } w') :
    Code.wpIn (wideAt none) 0 Try.prog mor16C Q { tmps := #[s0,s1,.int .u8 by_,.pointer (some ⟨bx, 0, none⟩),s4,s5,s6,s7,s8,s9,s10,.pointer (some ⟨b11, 0, none⟩),s12,s13,s14,s15,s16,s17,s18,s19,s20,s21,s22,s23,s24,s25,s26,s27,s28,s29,s30,s31,s32,s33,s34,s35,s36,s37,s38,s39,s40,s41,s42,s43,s44,s45,s46,s47,s48,s49,s50,s51,s52,s53,s54,s55,s56,s57,s58,s59,s60,s61,s62,s63,s64,s65,s66,s67,s68,s69,s70,s71,s72,s73,s74,s75,s76,s77,s78,s79,s80,s81,s82,s83,s84,s85,s86,s87,s88,s89,s90,s91,s92,s93,s94,s95,s96,s97,s98,s99,s100,s101,s102,s103,s104,s105,s106,s107,s108,s109,s110,s111,s112,s113,s114,s115,s116,s117,s118,s119,s120,s121,s122,s123,s124,s125,s126,s127,s128,s129,s130,s131,s132,s133,s134,s135,s136,s137,s138,s139,s140,s141,s142,s143,s144,s145,s146,s147,s148,s149,s150,s151,s152,s153,s154,s155,s156,s157,s158,s159,s160,s161,s162,s163,s164,s165,s166,s167,s168,s169,s170,s171,s172,s173,s174,s175,s176,s177,s178,s179,s180,s181,s182,s183,s184,s185,s186,s187,s188,s189,s190,s191,s192,s193,s194,s195,s196,s197,s198,s199,s200,s201,s202,s203,s204,s205,s206,s207,s208,s209,s210,s211,s212,s213,s214,s215,s216,s217,s218,s219,s220,s221,s222,s223,s224,s225,s226,s227,s228,s229,s230,s231,s232,s233,s234,s235,s236,s237,s238,s239,s240,s241,s242,s243,s244,s245,s246,s247,s248,s249,s250,s251,s252,s253,s254,s255,s256,s257,s258,s259,s260,s261,s262,s263,s264,s265,s266,s267,s268,s269,s270,s271,s272,s273,s274,s275,s276,s277,s278,s279,s280,s281,s282,s283,s284,s285,s286,s287,s288,s289,s290,s291,s292,s293,s294,s295,s296,s297,s298,s299,s300,s301,s302,s303,s304,s305,s306,s307,s308,s309],defers := dd } W1 := by
  have HQ := Lib.hid hQ
  clear hQ
  conv => arg 4; whnf
  refine wpIn_region_invG mixed (by kernel_rfl) (fun d_ a_ w' => a_ = { tmps := #[s0,s1,.int .u8 by_,.pointer (some ⟨bx, 0, none⟩),s4,s5,s6,s7,s8,s9,s10,.pointer (some ⟨b11, 0, none⟩),s12,s13,s14,s15,s16,s17,s18,s19,s20,s21,s22,s23,s24,s25,s26,s27,s28,s29,s30,s31,s32,s33,s34,s35,s36,s37,s38,s39,s40,s41,s42,s43,s44,s45,s46,s47,s48,s49,s50,s51,s52,s53,s54,s55,s56,s57,s58,s59,s60,s61,s62,s63,s64,s65,s66,s67,s68,s69,s70,s71,s72,s73,s74,s75,s76,s77,s78,s79,s80,s81,s82,s83,s84,s85,s86,s87,s88,s89,s90,s91,s92,s93,s94,s95,s96,s97,s98,s99,s100,s101,s102,s103,s104,s105,s106,s107,s108,s109,s110,s111,s112,s113,s114,s115,s116,s117,s118,s119,s120,s121,s122,s123,s124,s125,s126,s127,s128,s129,s130,s131,s132,s133,s134,s135,s136,s137,s138,s139,s140,s141,s142,s143,s144,s145,s146,s147,s148,s149,s150,s151,s152,s153,pk (d_ 0) (.pointer (some ⟨bx, 1, none⟩)) s154,pk (d_ 1) (.pointer (some ⟨bx, 2, none⟩)) s155,pk (d_ 2) (.int .i64 l1) s156,pk (d_ 3) (.pointer (some ⟨bx, 1, none⟩)) s157,pk (d_ 4) (.pointer (some ⟨bx, 1, none⟩)) s158,pk (d_ 5) (.int .i64 l0) s159,pk (d_ 6) (.int .u8 by_) s160,pk (d_ 7) (.int .i64 by_) s161,pk (d_ 8) (.int .i64 d2) s162,pk (d_ 9) (.int .i64 (l0 + d2)) s163,pk (d_ 10) (.int .i64 x) s164,pk (d_ 11) (.pointer (some ⟨bx, 1, none⟩)) s165,pk (d_ 12) (.pointer (some ⟨bx, 2, none⟩)) s166,pk (d_ 13) (.int .i64 l1) s167,pk (d_ 14) (.agg #[.int .i64 x, .int .i64 l1]) s168,pk (d_ 15) (.pointer (some ⟨bx, 3, none⟩)) s169,pk (d_ 16) (.pointer (some ⟨bx, 3, none⟩)) s170,pk (d_ 17) (.int .i64 o0) s171,pk (d_ 18) (.pointer (some ⟨bx, 3, none⟩)) s172,pk (d_ 19) (.pointer (some ⟨bx, 3, none⟩)) s173,pk (d_ 20) (.int .i64 o0) s174,pk (d_ 21) (.pointer (some ⟨bx, 3, none⟩)) s175,pk (d_ 22) (.pointer (some ⟨bx, 4, none⟩)) s176,pk (d_ 23) (.int .i64 o1) s177,pk (d_ 24) (.int .u8 by_) s178,pk (d_ 25) (.int .i64 by_) s179,pk (d_ 26) (.int .i64 d3) s180,pk (d_ 27) (.int .i64 (o1 - d3)) s181,pk (d_ 28) (.int .i64 y) s182,pk (d_ 29) (.agg #[.int .i64 o0, .int .i64 y]) s183,pk (d_ 30) (.pointer (some ⟨b11, 1, none⟩)) s184,pk (d_ 32) (.pointer (some ⟨b11, 3, none⟩)) s185,s186,s187,s188,s189,s190,s191,s192,s193,s194,s195,s196,s197,s198,s199,s200,s201,s202,s203,s204,s205,s206,s207,s208,s209,s210,s211,s212,s213,s214,s215,s216,s217,s218,s219,s220,s221,s222,s223,s224,s225,s226,s227,s228,s229,s230,s231,s232,s233,s234,s235,s236,s237,s238,s239,s240,s241,s242,s243,s244,s245,s246,s247,s248,s249,s250,s251,s252,s253,s254,s255,s256,s257,s258,s259,s260,s261,s262,s263,s264,s265,s266,s267,s268,s269,s270,s271,s272,s273,s274,s275,s276,s277,s278,s279,s280,s281,s282,s283,s284,s285,s286,s287,s288,s289,s290,s291,s292,s293,s294,s295,s296,s297,s298,s299,s300,s301,s302,s303,s304,s305,s306,s307,s308,s309],defers := dd } ∧ R (d_ 31) (d_ 33) w') ?_ ?_ ?_
  · exact ⟨rfl, h0⟩
  · refine ⟨?_,?_,?_,?_,?_,?_,?_,?_,?_,?_,?_,?_,?_,?_,?_,?_,?_,?_,?_,?_,?_,?_,?_,?_,?_,?_,?_,?_,?_,?_,?_,?_,?_,?_, trivial⟩
    all_goals
      rintro d_ a_ w1 K hd_ hdep ⟨rfl, F⟩ HK
      simp [Region.binds] at hdep
    · have HF := Lib.hid F
      clear F
      go_simp
      refine HK.out _ _ ⟨?_, HF.out⟩
      all_goals rfl
    · have q0 : d_ 0 = true := by simp [hdep]
      rw [pk_of q0]
      have HF := Lib.hid F
      clear F
      go_simp
      refine HK.out _ _ ⟨?_, HF.out⟩
      rw [pk_of (show upd d_ 1 0 = true from q0)]
      all_goals rfl
    · have q1 : d_ 1 = true := by simp [hdep]
      have kk := kl2.out _ _ w1 F
      rw [pk_of q1]
      have HF := Lib.hid F
      clear F
      go_simp
      refine HK.out _ _ ⟨?_, HF.out⟩
      rw [pk_of (show upd d_ 2 1 = true from q1)]
      all_goals rfl
    · have HF := Lib.hid F
      clear F
      go_simp
      refine HK.out _ _ ⟨?_, HF.out⟩
      all_goals rfl
    · have q3 : d_ 3 = true := by simp [hdep]
      rw [pk_of q3]
      have HF := Lib.hid F
      clear F
      go_simp
      refine HK.out _ _ ⟨?_, HF.out⟩
      rw [pk_of (show upd d_ 4 3 = true from q3)]
      all_goals rfl
    · have q4 : d_ 4 = true := by simp [hdep]
      have kk := kl5.out _ _ w1 F
      rw [pk_of q4]
      have HF := Lib.hid F
      clear F
      go_simp
      refine HK.out _ _ ⟨?_, HF.out⟩
      rw [pk_of (show upd d_ 5 4 = true from q4)]
      all_goals rfl
    · have HF := Lib.hid F
      clear F
      go_simp
      refine HK.out _ _ ⟨?_, HF.out⟩
      all_goals rfl
    · have q6 : d_ 6 = true := by simp [hdep]
      have hw0 := hw
      rw [pk_of q6]
      have HF := Lib.hid F
      clear F
      go_simp
      refine HK.out _ _ ⟨?_, HF.out⟩
      rw [pk_of (show upd d_ 7 6 = true from q6)]
      all_goals rfl
    · have q7 : d_ 7 = true := by simp [hdep]
      have hd2 := h2
      rw [pk_of q7]
      have HF := Lib.hid F
      clear F
      go_simp
      refine HK.out _ _ ⟨?_, HF.out⟩
      rw [pk_of (show upd d_ 8 7 = true from q7)]
      all_goals rfl
    · have q5 : d_ 5 = true := by simp [hdep]
      have q8 : d_ 8 = true := by simp [hdep]
      have ha2 := ha
      rw [pk_of q5, pk_of q8]
      have HF := Lib.hid F
      clear F
      go_simp
      refine HK.out _ _ ⟨?_, HF.out⟩
      rw [pk_of (show upd d_ 9 5 = true from q5), pk_of (show upd d_ 9 8 = true from q8)]
      all_goals rfl
    · have q2 : d_ 2 = true := by simp [hdep]
      have q9 : d_ 9 = true := by simp [hdep]
      have hx2 := hx
      rw [pk_of q2, pk_of q9]
      have HF := Lib.hid F
      clear F
      go_simp
      refine HK.out _ _ ⟨?_, HF.out⟩
      rw [pk_of (show upd d_ 10 2 = true from q2), pk_of (show upd d_ 10 9 = true from q9)]
      all_goals rfl
    · have HF := Lib.hid F
      clear F
      go_simp
      refine HK.out _ _ ⟨?_, HF.out⟩
      all_goals rfl
    · have q11 : d_ 11 = true := by simp [hdep]
      rw [pk_of q11]
      have HF := Lib.hid F
      clear F
      go_simp
      refine HK.out _ _ ⟨?_, HF.out⟩
      rw [pk_of (show upd d_ 12 11 = true from q11)]
      all_goals rfl
    · have q12 : d_ 12 = true := by simp [hdep]
      have kk := kl13.out _ _ w1 F
      rw [pk_of q12]
      have HF := Lib.hid F
      clear F
      go_simp
      refine HK.out _ _ ⟨?_, HF.out⟩
      rw [pk_of (show upd d_ 13 12 = true from q12)]
      all_goals rfl
    · have q10 : d_ 10 = true := by simp [hdep]
      have q13 : d_ 13 = true := by simp [hdep]
      rw [pk_of q10, pk_of q13]
      have hc := kc14.out _ _ w1 F
      clear F
      go_simp
      refine ⟨trivial, rfl, wideAt_calls (hc.mono ?_)⟩
      rintro e w5 ⟨rfl, hR⟩
      refine HK.out _ _ ⟨?_, hR⟩
      rw [pk_of (show upd d_ 14 10 = true from q10), pk_of (show upd d_ 14 13 = true from q13)]
      all_goals rfl
    · have HF := Lib.hid F
      clear F
      go_simp
      refine HK.out _ _ ⟨?_, HF.out⟩
      all_goals rfl
    · have q15 : d_ 15 = true := by simp [hdep]
      rw [pk_of q15]
      have HF := Lib.hid F
      clear F
      go_simp
      refine HK.out _ _ ⟨?_, HF.out⟩
      rw [pk_of (show upd d_ 16 15 = true from q15)]
      all_goals rfl
    · have q16 : d_ 16 = true := by simp [hdep]
      have kk := kl17.out _ _ w1 F
      rw [pk_of q16]
      have HF := Lib.hid F
      clear F
      go_simp
      refine HK.out _ _ ⟨?_, HF.out⟩
      rw [pk_of (show upd d_ 17 16 = true from q16)]
      all_goals rfl
    · have HF := Lib.hid F
      clear F
      go_simp
      refine HK.out _ _ ⟨?_, HF.out⟩
      all_goals rfl
    · have q18 : d_ 18 = true := by simp [hdep]
      rw [pk_of q18]
      have HF := Lib.hid F
      clear F
      go_simp
      refine HK.out _ _ ⟨?_, HF.out⟩
      rw [pk_of (show upd d_ 19 18 = true from q18)]
      all_goals rfl
    · have q19 : d_ 19 = true := by simp [hdep]
      have kk := kl20.out _ _ w1 F
      rw [pk_of q19]
      have HF := Lib.hid F
      clear F
      go_simp
      refine HK.out _ _ ⟨?_, HF.out⟩
      rw [pk_of (show upd d_ 20 19 = true from q19)]
      all_goals rfl
    · have HF := Lib.hid F
      clear F
      go_simp
      refine HK.out _ _ ⟨?_, HF.out⟩
      all_goals rfl
    · have q21 : d_ 21 = true := by simp [hdep]
      rw [pk_of q21]
      have HF := Lib.hid F
      clear F
      go_simp
      refine HK.out _ _ ⟨?_, HF.out⟩
      rw [pk_of (show upd d_ 22 21 = true from q21)]
      all_goals rfl
    · have q22 : d_ 22 = true := by simp [hdep]
      have kk := kl23.out _ _ w1 F
      rw [pk_of q22]
      have HF := Lib.hid F
      clear F
      go_simp
      refine HK.out _ _ ⟨?_, HF.out⟩
      rw [pk_of (show upd d_ 23 22 = true from q22)]
      all_goals rfl
    · have HF := Lib.hid F
      clear F
      go_simp
      refine HK.out _ _ ⟨?_, HF.out⟩
      all_goals rfl
    · have q24 : d_ 24 = true := by simp [hdep]
      have hw0 := hw
      rw [pk_of q24]
      have HF := Lib.hid F
      clear F
      go_simp
      refine HK.out _ _ ⟨?_, HF.out⟩
      rw [pk_of (show upd d_ 25 24 = true from q24)]
      all_goals rfl
    · have q25 : d_ 25 = true := by simp [hdep]
      have hd3 := h3
      rw [pk_of q25]
      have HF := Lib.hid F
      clear F
      go_simp
      refine HK.out _ _ ⟨?_, HF.out⟩
      rw [pk_of (show upd d_ 26 25 = true from q25)]
      all_goals rfl
    · have q23 : d_ 23 = true := by simp [hdep]
      have q26 : d_ 26 = true := by simp [hdep]
      have hb2 := hb
      rw [pk_of q23, pk_of q26]
      have HF := Lib.hid F
      clear F
      go_simp
      refine HK.out _ _ ⟨?_, HF.out⟩
      rw [pk_of (show upd d_ 27 23 = true from q23), pk_of (show upd d_ 27 26 = true from q26)]
      all_goals rfl
    · have q20 : d_ 20 = true := by simp [hdep]
      have q27 : d_ 27 = true := by simp [hdep]
      have hy2 := hy
      rw [pk_of q20, pk_of q27]
      have HF := Lib.hid F
      clear F
      go_simp
      refine HK.out _ _ ⟨?_, HF.out⟩
      rw [pk_of (show upd d_ 28 20 = true from q20), pk_of (show upd d_ 28 27 = true from q27)]
      all_goals rfl
    · have q14 : d_ 14 = true := by simp [hdep]
      have q17 : d_ 17 = true := by simp [hdep]
      have q28 : d_ 28 = true := by simp [hdep]
      rw [pk_of q14, pk_of q17, pk_of q28]
      have hc := kc29.out _ _ w1 F
      clear F
      go_simp
      refine ⟨trivial, rfl, wideAt_calls (hc.mono ?_)⟩
      rintro e w5 ⟨rfl, hR⟩
      refine HK.out _ _ ⟨?_, hR⟩
      rw [pk_of (show upd d_ 29 14 = true from q14), pk_of (show upd d_ 29 17 = true from q17), pk_of (show upd d_ 29 28 = true from q28)]
      all_goals rfl
    · have q0 : d_ 0 = true := by simp [hdep]
      have q1 : d_ 1 = true := by simp [hdep]
      have q2 : d_ 2 = true := by simp [hdep]
      have q3 : d_ 3 = true := by simp [hdep]
      have q4 : d_ 4 = true := by simp [hdep]
      have q5 : d_ 5 = true := by simp [hdep]
      have q6 : d_ 6 = true := by simp [hdep]
      have q7 : d_ 7 = true := by simp [hdep]
      have q8 : d_ 8 = true := by simp [hdep]
      have q9 : d_ 9 = true := by simp [hdep]
      have q10 : d_ 10 = true := by simp [hdep]
      have q11 : d_ 11 = true := by simp [hdep]
      have q12 : d_ 12 = true := by simp [hdep]
      have q13 : d_ 13 = true := by simp [hdep]
      have q14 : d_ 14 = true := by simp [hdep]
      rw [pk_of q0, pk_of q1, pk_of q2, pk_of q3, pk_of q4, pk_of q5, pk_of q6, pk_of q7, pk_of q8, pk_of q9, pk_of q10, pk_of q11, pk_of q12, pk_of q13, pk_of q14]
      have HF := Lib.hid F
      clear F
      go_simp
      refine HK.out _ _ ⟨?_, HF.out⟩
      rw [pk_of (show upd d_ 30 0 = true from q0), pk_of (show upd d_ 30 1 = true from q1), pk_of (show upd d_ 30 2 = true from q2), pk_of (show upd d_ 30 3 = true from q3), pk_of (show upd d_ 30 4 = true from q4), pk_of (show upd d_ 30 5 = true from q5), pk_of (show upd d_ 30 6 = true from q6), pk_of (show upd d_ 30 7 = true from q7), pk_of (show upd d_ 30 8 = true from q8), pk_of (show upd d_ 30 9 = true from q9), pk_of (show upd d_ 30 10 = true from q10), pk_of (show upd d_ 30 11 = true from q11), pk_of (show upd d_ 30 12 = true from q12), pk_of (show upd d_ 30 13 = true from q13), pk_of (show upd d_ 30 14 = true from q14)]
      all_goals rfl
    · have q0 : d_ 0 = true := by simp [hdep]
      have q1 : d_ 1 = true := by simp [hdep]
      have q2 : d_ 2 = true := by simp [hdep]
      have q3 : d_ 3 = true := by simp [hdep]
      have q4 : d_ 4 = true := by simp [hdep]
      have q5 : d_ 5 = true := by simp [hdep]
      have q6 : d_ 6 = true := by simp [hdep]
      have q7 : d_ 7 = true := by simp [hdep]
      have q8 : d_ 8 = true := by simp [hdep]
      have q9 : d_ 9 = true := by simp [hdep]
      have q10 : d_ 10 = true := by simp [hdep]
      have q11 : d_ 11 = true := by simp [hdep]
      have q12 : d_ 12 = true := by simp [hdep]
      have q13 : d_ 13 = true := by simp [hdep]
      have q14 : d_ 14 = true := by simp [hdep]
      have q29 : d_ 29 = true := by simp [hdep]
      have q30 : d_ 30 = true := by simp [hdep]
      rw [pk_of q0, pk_of q1, pk_of q2, pk_of q3, pk_of q4, pk_of q5, pk_of q6, pk_of q7, pk_of q8, pk_of q9, pk_of q10, pk_of q11, pk_of q12, pk_of q13, pk_of q14, pk_of q29, pk_of q30]
      have hds : d_ 31 = false := hd_
      rw [hds] at F
      obtain ⟨⟨u0, c0⟩, z0, ⟨u1, c1⟩, z1, hR⟩ := ks31.out _ w1 F
      have HF := Lib.hid hR
      clear F hR
      go_simp
      refine HK.out _ _ ⟨?_, HF.out⟩
      rw [pk_of (show upd d_ 31 0 = true from q0), pk_of (show upd d_ 31 1 = true from q1), pk_of (show upd d_ 31 2 = true from q2), pk_of (show upd d_ 31 3 = true from q3), pk_of (show upd d_ 31 4 = true from q4), pk_of (show upd d_ 31 5 = true from q5), pk_of (show upd d_ 31 6 = true from q6), pk_of (show upd d_ 31 7 = true from q7), pk_of (show upd d_ 31 8 = true from q8), pk_of (show upd d_ 31 9 = true from q9), pk_of (show upd d_ 31 10 = true from q10), pk_of (show upd d_ 31 11 = true from q11), pk_of (show upd d_ 31 12 = true from q12), pk_of (show upd d_ 31 13 = true from q13), pk_of (show upd d_ 31 14 = true from q14), pk_of (show upd d_ 31 29 = true from q29), pk_of (show upd d_ 31 30 = true from q30)]
      all_goals rfl
    · have q0 : d_ 0 = true := by simp [hdep]
      have q1 : d_ 1 = true := by simp [hdep]
      have q2 : d_ 2 = true := by simp [hdep]
      have q3 : d_ 3 = true := by simp [hdep]
      have q4 : d_ 4 = true := by simp [hdep]
      have q5 : d_ 5 = true := by simp [hdep]
      have q6 : d_ 6 = true := by simp [hdep]
      have q7 : d_ 7 = true := by simp [hdep]
      have q8 : d_ 8 = true := by simp [hdep]
      have q9 : d_ 9 = true := by simp [hdep]
      have q10 : d_ 10 = true := by simp [hdep]
      have q11 : d_ 11 = true := by simp [hdep]
      have q12 : d_ 12 = true := by simp [hdep]
      have q13 : d_ 13 = true := by simp [hdep]
      have q14 : d_ 14 = true := by simp [hdep]
      have q15 : d_ 15 = true := by simp [hdep]
      have q16 : d_ 16 = true := by simp [hdep]
      have q17 : d_ 17 = true := by simp [hdep]
      have q18 : d_ 18 = true := by simp [hdep]
      have q19 : d_ 19 = true := by simp [hdep]
      have q20 : d_ 20 = true := by simp [hdep]
      have q21 : d_ 21 = true := by simp [hdep]
      have q22 : d_ 22 = true := by simp [hdep]
      have q23 : d_ 23 = true := by simp [hdep]
      have q24 : d_ 24 = true := by simp [hdep]
      have q25 : d_ 25 = true := by simp [hdep]
      have q26 : d_ 26 = true := by simp [hdep]
      have q27 : d_ 27 = true := by simp [hdep]
      have q28 : d_ 28 = true := by simp [hdep]
      have q29 : d_ 29 = true := by simp [hdep]
      have q30 : d_ 30 = true := by simp [hdep]
      rw [pk_of q0, pk_of q1, pk_of q2, pk_of q3, pk_of q4, pk_of q5, pk_of q6, pk_of q7, pk_of q8, pk_of q9, pk_of q10, pk_of q11, pk_of q12, pk_of q13, pk_of q14, pk_of q15, pk_of q16, pk_of q17, pk_of q18, pk_of q19, pk_of q20, pk_of q21, pk_of q22, pk_of q23, pk_of q24, pk_of q25, pk_of q26, pk_of q27, pk_of q28, pk_of q29, pk_of q30]
      have HF := Lib.hid F
      clear F
      go_simp
      refine HK.out _ _ ⟨?_, HF.out⟩
      rw [pk_of (show upd d_ 32 0 = true from q0), pk_of (show upd d_ 32 1 = true from q1), pk_of (show upd d_ 32 2 = true from q2), pk_of (show upd d_ 32 3 = true from q3), pk_of (show upd d_ 32 4 = true from q4), pk_of (show upd d_ 32 5 = true from q5), pk_of (show upd d_ 32 6 = true from q6), pk_of (show upd d_ 32 7 = true from q7), pk_of (show upd d_ 32 8 = true from q8), pk_of (show upd d_ 32 9 = true from q9), pk_of (show upd d_ 32 10 = true from q10), pk_of (show upd d_ 32 11 = true from q11), pk_of (show upd d_ 32 12 = true from q12), pk_of (show upd d_ 32 13 = true from q13), pk_of (show upd d_ 32 14 = true from q14), pk_of (show upd d_ 32 15 = true from q15), pk_of (show upd d_ 32 16 = true from q16), pk_of (show upd d_ 32 17 = true from q17), pk_of (show upd d_ 32 18 = true from q18), pk_of (show upd d_ 32 19 = true from q19), pk_of (show upd d_ 32 20 = true from q20), pk_of (show upd d_ 32 21 = true from q21), pk_of (show upd d_ 32 22 = true from q22), pk_of (show upd d_ 32 23 = true from q23), pk_of (show upd d_ 32 24 = true from q24), pk_of (show upd d_ 32 25 = true from q25), pk_of (show upd d_ 32 26 = true from q26), pk_of (show upd d_ 32 27 = true from q27), pk_of (show upd d_ 32 28 = true from q28), pk_of (show upd d_ 32 29 = true from q29), pk_of (show upd d_ 32 30 = true from q30)]
      all_goals rfl
    · have q0 : d_ 0 = true := by simp [hdep]
      have q1 : d_ 1 = true := by simp [hdep]
      have q2 : d_ 2 = true := by simp [hdep]
      have q3 : d_ 3 = true := by simp [hdep]
      have q4 : d_ 4 = true := by simp [hdep]
      have q5 : d_ 5 = true := by simp [hdep]
      have q6 : d_ 6 = true := by simp [hdep]
      have q7 : d_ 7 = true := by simp [hdep]
      have q8 : d_ 8 = true := by simp [hdep]
      have q9 : d_ 9 = true := by simp [hdep]
      have q10 : d_ 10 = true := by simp [hdep]
      have q11 : d_ 11 = true := by simp [hdep]
      have q12 : d_ 12 = true := by simp [hdep]
      have q13 : d_ 13 = true := by simp [hdep]
      have q14 : d_ 14 = true := by simp [hdep]
      have q15 : d_ 15 = true := by simp [hdep]
      have q16 : d_ 16 = true := by simp [hdep]
      have q17 : d_ 17 = true := by simp [hdep]
      have q18 : d_ 18 = true := by simp [hdep]
      have q19 : d_ 19 = true := by simp [hdep]
      have q20 : d_ 20 = true := by simp [hdep]
      have q21 : d_ 21 = true := by simp [hdep]
      have q22 : d_ 22 = true := by simp [hdep]
      have q23 : d_ 23 = true := by simp [hdep]
      have q24 : d_ 24 = true := by simp [hdep]
      have q25 : d_ 25 = true := by simp [hdep]
      have q26 : d_ 26 = true := by simp [hdep]
      have q27 : d_ 27 = true := by simp [hdep]
      have q28 : d_ 28 = true := by simp [hdep]
      have q29 : d_ 29 = true := by simp [hdep]
      have q30 : d_ 30 = true := by simp [hdep]
      have q32 : d_ 32 = true := by simp [hdep]
      rw [pk_of q0, pk_of q1, pk_of q2, pk_of q3, pk_of q4, pk_of q5, pk_of q6, pk_of q7, pk_of q8, pk_of q9, pk_of q10, pk_of q11, pk_of q12, pk_of q13, pk_of q14, pk_of q15, pk_of q16, pk_of q17, pk_of q18, pk_of q19, pk_of q20, pk_of q21, pk_of q22, pk_of q23, pk_of q24, pk_of q25, pk_of q26, pk_of q27, pk_of q28, pk_of q29, pk_of q30, pk_of q32]
      have hds : d_ 33 = false := hd_
      rw [hds] at F
      obtain ⟨⟨u0, c0⟩, z0, ⟨u1, c1⟩, z1, hR⟩ := ks33.out _ w1 F
      have HF := Lib.hid hR
      clear F hR
      go_simp
      refine HK.out _ _ ⟨?_, HF.out⟩
      rw [pk_of (show upd d_ 33 0 = true from q0), pk_of (show upd d_ 33 1 = true from q1), pk_of (show upd d_ 33 2 = true from q2), pk_of (show upd d_ 33 3 = true from q3), pk_of (show upd d_ 33 4 = true from q4), pk_of (show upd d_ 33 5 = true from q5), pk_of (show upd d_ 33 6 = true from q6), pk_of (show upd d_ 33 7 = true from q7), pk_of (show upd d_ 33 8 = true from q8), pk_of (show upd d_ 33 9 = true from q9), pk_of (show upd d_ 33 10 = true from q10), pk_of (show upd d_ 33 11 = true from q11), pk_of (show upd d_ 33 12 = true from q12), pk_of (show upd d_ 33 13 = true from q13), pk_of (show upd d_ 33 14 = true from q14), pk_of (show upd d_ 33 15 = true from q15), pk_of (show upd d_ 33 16 = true from q16), pk_of (show upd d_ 33 17 = true from q17), pk_of (show upd d_ 33 18 = true from q18), pk_of (show upd d_ 33 19 = true from q19), pk_of (show upd d_ 33 20 = true from q20), pk_of (show upd d_ 33 21 = true from q21), pk_of (show upd d_ 33 22 = true from q22), pk_of (show upd d_ 33 23 = true from q23), pk_of (show upd d_ 33 24 = true from q24), pk_of (show upd d_ 33 25 = true from q25), pk_of (show upd d_ 33 26 = true from q26), pk_of (show upd d_ 33 27 = true from q27), pk_of (show upd d_ 33 28 = true from q28), pk_of (show upd d_ 33 29 = true from q29), pk_of (show upd d_ 33 30 = true from q30), pk_of (show upd d_ 33 32 = true from q32)]
      all_goals rfl
  · rintro d_ a_ w1 hall ⟨rfl, F⟩
    have hall' : ∀ k, k < 34 → d_ k = true := hall
    rw [hall' 31 (by decide), hall' 33 (by decide)] at F
    have HF := Lib.hid F
    clear F
    rw [pk_of (hall' 0 (by decide)), pk_of (hall' 1 (by decide)), pk_of (hall' 2 (by decide)), pk_of (hall' 3 (by decide)), pk_of (hall' 4 (by decide)), pk_of (hall' 5 (by decide)), pk_of (hall' 6 (by decide)), pk_of (hall' 7 (by decide)), pk_of (hall' 8 (by decide)), pk_of (hall' 9 (by decide)), pk_of (hall' 10 (by decide)), pk_of (hall' 11 (by decide)), pk_of (hall' 12 (by decide)), pk_of (hall' 13 (by decide)), pk_of (hall' 14 (by decide)), pk_of (hall' 15 (by decide)), pk_of (hall' 16 (by decide)), pk_of (hall' 17 (by decide)), pk_of (hall' 18 (by decide)), pk_of (hall' 19 (by decide)), pk_of (hall' 20 (by decide)), pk_of (hall' 21 (by decide)), pk_of (hall' 22 (by decide)), pk_of (hall' 23 (by decide)), pk_of (hall' 24 (by decide)), pk_of (hall' 25 (by decide)), pk_of (hall' 26 (by decide)), pk_of (hall' 27 (by decide)), pk_of (hall' 28 (by decide)), pk_of (hall' 29 (by decide)), pk_of (hall' 30 (by decide)), pk_of (hall' 32 (by decide))]
    exact HQ.out w1 HF.out

end Go.Proofs.Ytnfhlbmapfoifaa
