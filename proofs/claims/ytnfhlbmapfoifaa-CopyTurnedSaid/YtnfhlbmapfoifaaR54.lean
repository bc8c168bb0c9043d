/- CopyTurned: its drawn regions; wide. CopyTurned: wide; a print is put at its number. -/
import Derived.Test.YtnfhlbmapfoifaaR51
namespace Go.Proofs.Ytnfhlbmapfoifaa
open Go.RowKit
set_option linter.unusedVariables false
set_option linter.unusedSimpArgs false

structure wid1F (W1 : World) (p : Prs) (b o : Nat) (cap : Nat) (bx : Nat) (i j : Nat) (d : Nat → Bool) (x9 x10 x11 x12 x13 x14 x15 x16 x17 x18 x7 x8 : Value) (w : World) : Prop where
  same : Below W1.heap.size W1 w
  f0 : d 0 = true → x9 = .pointer (some ⟨bx, 0, none⟩)
  f1 : d 1 = true → x10 = .slice (some ⟨b, o, none⟩) p.cards.length cap
  f2 : d 2 = true → x11 = .int .i64 (i : Int)
  f3 : d 3 = true → x12 = .pointer (some ⟨b, o + i * 5, none⟩)
  f4 : d 4 = true → x13 = .agg (gp p.cards i).arr
  f5 : d 5 = true → x14 = .pointer (some ⟨bx, 0, none⟩)
  f6 : d 6 = true → x15 = .slice (some ⟨b, o, none⟩) p.cards.length cap
  f7 : d 7 = true → x16 = .int .i64 (j : Int)
  f8 : d 8 = true → x17 = .pointer (some ⟨b, o + j * 5, none⟩)
  f9 : d 9 = true → x18 = .agg (gp p.cards j).arr
  f10 : d 10 = true → ∃ bq : Nat, x7 = .pointer (some ⟨bq, 0, none⟩) ∧ W1.heap.size ≤ bq ∧ w.heap[bq]? = some (.cells (if d 12 then (gp p.cards i).arr else #[.int .i64 0, .int .i64 0, .int .i64 0, .int .i64 0, .int .i64 0]) 54 (0, 0))
  o12 : d 12 = true → d 10 = true
  f11 : d 11 = true → ∃ bq : Nat, x8 = .pointer (some ⟨bq, 0, none⟩) ∧ W1.heap.size ≤ bq ∧ w.heap[bq]? = some (.cells (if d 13 then (gp p.cards j).arr else #[.int .i64 0, .int .i64 0, .int .i64 0, .int .i64 0, .int .i64 0]) 54 (0, 0))
  o13 : d 13 = true → d 11 = true
  n10_11 : d 10 = true → d 11 = true → x7 ≠ x8
section
variable {W1 : World} {p : Prs} {b o : Nat} {cap : Nat} {bx : Nat} {i j : Nat} {d : Nat → Bool} {x9 x10 x11 x12 x13 x14 x15 x16 x17 x18 x7 x8 : Value} {w w' : World}
theorem wid1F.s0 (F : wid1F W1 p b o cap bx i j d x9 x10 x11 x12 x13 x14 x15 x16 x17 x18 x7 x8 w) : wid1F W1 p b o cap bx i j (upd d 0) (.pointer (some ⟨bx, 0, none⟩)) x10 x11 x12 x13 x14 x15 x16 x17 x18 x7 x8 w := ⟨F.same, fun _ => rfl, F.f1, F.f2, F.f3, F.f4, F.f5, F.f6, F.f7, F.f8, F.f9, F.f10, F.o12, F.f11, F.o13, F.n10_11⟩
theorem wid1F.s1 (F : wid1F W1 p b o cap bx i j d x9 x10 x11 x12 x13 x14 x15 x16 x17 x18 x7 x8 w) : wid1F W1 p b o cap bx i j (upd d 1) x9 (.slice (some ⟨b, o, none⟩) p.cards.length cap) x11 x12 x13 x14 x15 x16 x17 x18 x7 x8 w := ⟨F.same, F.f0, fun _ => rfl, F.f2, F.f3, F.f4, F.f5, F.f6, F.f7, F.f8, F.f9, F.f10, F.o12, F.f11, F.o13, F.n10_11⟩
theorem wid1F.s2 (F : wid1F W1 p b o cap bx i j d x9 x10 x11 x12 x13 x14 x15 x16 x17 x18 x7 x8 w) : wid1F W1 p b o cap bx i j (upd d 2) x9 x10 (.int .i64 (i : Int)) x12 x13 x14 x15 x16 x17 x18 x7 x8 w := ⟨F.same, F.f0, F.f1, fun _ => rfl, F.f3, F.f4, F.f5, F.f6, F.f7, F.f8, F.f9, F.f10, F.o12, F.f11, F.o13, F.n10_11⟩
theorem wid1F.s3 (F : wid1F W1 p b o cap bx i j d x9 x10 x11 x12 x13 x14 x15 x16 x17 x18 x7 x8 w) : wid1F W1 p b o cap bx i j (upd d 3) x9 x10 x11 (.pointer (some ⟨b, o + i * 5, none⟩)) x13 x14 x15 x16 x17 x18 x7 x8 w := ⟨F.same, F.f0, F.f1, F.f2, fun _ => rfl, F.f4, F.f5, F.f6, F.f7, F.f8, F.f9, F.f10, F.o12, F.f11, F.o13, F.n10_11⟩
theorem wid1F.s4 (F : wid1F W1 p b o cap bx i j d x9 x10 x11 x12 x13 x14 x15 x16 x17 x18 x7 x8 w) : wid1F W1 p b o cap bx i j (upd d 4) x9 x10 x11 x12 (.agg (gp p.cards i).arr) x14 x15 x16 x17 x18 x7 x8 w := ⟨F.same, F.f0, F.f1, F.f2, F.f3, fun _ => rfl, F.f5, F.f6, F.f7, F.f8, F.f9, F.f10, F.o12, F.f11, F.o13, F.n10_11⟩
theorem wid1F.s5 (F : wid1F W1 p b o cap bx i j d x9 x10 x11 x12 x13 x14 x15 x16 x17 x18 x7 x8 w) : wid1F W1 p b o cap bx i j (upd d 5) x9 x10 x11 x12 x13 (.pointer (some ⟨bx, 0, none⟩)) x15 x16 x17 x18 x7 x8 w := ⟨F.same, F.f0, F.f1, F.f2, F.f3, F.f4, fun _ => rfl, F.f6, F.f7, F.f8, F.f9, F.f10, F.o12, F.f11, F.o13, F.n10_11⟩
theorem wid1F.s6 (F : wid1F W1 p b o cap bx i j d x9 x10 x11 x12 x13 x14 x15 x16 x17 x18 x7 x8 w) : wid1F W1 p b o cap bx i j (upd d 6) x9 x10 x11 x12 x13 x14 (.slice (some ⟨b, o, none⟩) p.cards.length cap) x16 x17 x18 x7 x8 w := ⟨F.same, F.f0, F.f1, F.f2, F.f3, F.f4, F.f5, fun _ => rfl, F.f7, F.f8, F.f9, F.f10, F.o12, F.f11, F.o13, F.n10_11⟩
theorem wid1F.s7 (F : wid1F W1 p b o cap bx i j d x9 x10 x11 x12 x13 x14 x15 x16 x17 x18 x7 x8 w) : wid1F W1 p b o cap bx i j (upd d 7) x9 x10 x11 x12 x13 x14 x15 (.int .i64 (j : Int)) x17 x18 x7 x8 w := ⟨F.same, F.f0, F.f1, F.f2, F.f3, F.f4, F.f5, F.f6, fun _ => rfl, F.f8, F.f9, F.f10, F.o12, F.f11, F.o13, F.n10_11⟩
theorem wid1F.s8 (F : wid1F W1 p b o cap bx i j d x9 x10 x11 x12 x13 x14 x15 x16 x17 x18 x7 x8 w) : wid1F W1 p b o cap bx i j (upd d 8) x9 x10 x11 x12 x13 x14 x15 x16 (.pointer (some ⟨b, o + j * 5, none⟩)) x18 x7 x8 w := ⟨F.same, F.f0, F.f1, F.f2, F.f3, F.f4, F.f5, F.f6, F.f7, fun _ => rfl, F.f9, F.f10, F.o12, F.f11, F.o13, F.n10_11⟩
theorem wid1F.s9 (F : wid1F W1 p b o cap bx i j d x9 x10 x11 x12 x13 x14 x15 x16 x17 x18 x7 x8 w) : wid1F W1 p b o cap bx i j (upd d 9) x9 x10 x11 x12 x13 x14 x15 x16 x17 (.agg (gp p.cards j).arr) x7 x8 w := ⟨F.same, F.f0, F.f1, F.f2, F.f3, F.f4, F.f5, F.f6, F.f7, F.f8, fun _ => rfl, F.f10, F.o12, F.f11, F.o13, F.n10_11⟩
theorem wid1F.below (F : wid1F W1 p b o cap bx i j d x9 x10 x11 x12 x13 x14 x15 x16 x17 x18 x7 x8 w) (hb : Below w.heap.size w w') : wid1F W1 p b o cap bx i j d x9 x10 x11 x12 x13 x14 x15 x16 x17 x18 x7 x8 w' := by
  refine ⟨F.same.trans (hb.mono F.same.size), F.f0, F.f1, F.f2, F.f3, F.f4, F.f5, F.f6, F.f7, F.f8, F.f9, ?_, F.o12, ?_, F.o13, F.n10_11⟩
  · intro h
    obtain ⟨bq, h1, h2, h3⟩ := F.f10 h
    exact ⟨bq, h1, h2, (hb.block _ (heap_lt h3)).trans h3⟩
  · intro h
    obtain ⟨bq, h1, h2, h3⟩ := F.f11 h
    exact ⟨bq, h1, h2, (hb.block _ (heap_lt h3)).trans h3⟩
theorem wid1F.s10 (F : wid1F W1 p b o cap bx i j d x9 x10 x11 x12 x13 x14 x15 x16 x17 x18 x7 x8 w) (h12 : d 12 = false) : wid1F W1 p b o cap bx i j (upd d 10) x9 x10 x11 x12 x13 x14 x15 x16 x17 x18 (.pointer (some ⟨w.heap.size, 0, none⟩)) x8 (w.alloc (.cells #[.int .i64 0, .int .i64 0, .int .i64 0, .int .i64 0, .int .i64 0] 54)) := by
  have G := F.below ((Below.refl _ w).alloc (Nat.le_refl _) (.cells #[.int .i64 0, .int .i64 0, .int .i64 0, .int .i64 0, .int .i64 0] 54))
  refine ⟨G.same, G.f0, G.f1, G.f2, G.f3, G.f4, G.f5, G.f6, G.f7, G.f8, G.f9, ?_, fun h => (by have h2 : d 12 = true := h; rw [h12] at h2; cases h2), G.f11, G.o13, fun _ h e => (by obtain ⟨bq, h1, h2, h3⟩ := F.f11 h; rw [h1] at e; have h4 := heap_lt h3; simp only [Value.pointer.injEq, Option.some.injEq, Addr.mk.injEq] at e; omega)⟩
  intro _
  have e : upd d 10 12 = false := h12
  rw [e]
  exact ⟨_, rfl, F.same.size, World.alloc_heap_new w _⟩
theorem wid1F.s12 (F : wid1F W1 p b o cap bx i j d x9 x10 x11 x12 x13 x14 x15 x16 x17 x18 x7 x8 w) (h10 : d 10 = true) {bq : Nat} (hb : W1.heap.size ≤ bq) (hx : x7 = .pointer (some ⟨bq, 0, none⟩)) (hh : w.heap[bq]? = some (.cells #[.int .i64 0, .int .i64 0, .int .i64 0, .int .i64 0, .int .i64 0] 54 (0, 0))) : wid1F W1 p b o cap bx i j (upd d 12) x9 x10 x11 x12 x13 x14 x15 x16 x17 x18 x7 x8 (((((w.setCell ⟨bq, 0, none⟩ (.int .i64 (gp p.cards i).slo)).setCell ⟨bq, 1, none⟩ (.int .i64 (gp p.cards i).shi)).setCell ⟨bq, 2, none⟩ (.int .i64 (gp p.cards i).wlo)).setCell ⟨bq, 3, none⟩ (.int .i64 (gp p.cards i).whi)).setCell ⟨bq, 4, none⟩ (.int .i64 (gp p.cards i).marks)) := by
  refine ⟨(((((F.same).setCell (p := ⟨bq, 0, none⟩) hb (.int .i64 (gp p.cards i).slo)).setCell (p := ⟨bq, 1, none⟩) hb (.int .i64 (gp p.cards i).shi)).setCell (p := ⟨bq, 2, none⟩) hb (.int .i64 (gp p.cards i).wlo)).setCell (p := ⟨bq, 3, none⟩) hb (.int .i64 (gp p.cards i).whi)).setCell (p := ⟨bq, 4, none⟩) hb (.int .i64 (gp p.cards i).marks), F.f0, F.f1, F.f2, F.f3, F.f4, F.f5, F.f6, F.f7, F.f8, F.f9, ?_, fun _ => h10, fun h => (by obtain ⟨bz, g1, g2, g3⟩ := F.f11 h; have hne : bz ≠ bq := fun e => F.n10_11 h10 h (by rw [hx, g1, e]); exact ⟨bz, g1, g2, by refine (Below.heap_setCell _ _ _ _ hne).trans ?_; refine (Below.heap_setCell _ _ _ _ hne).trans ?_; refine (Below.heap_setCell _ _ _ _ hne).trans ?_; refine (Below.heap_setCell _ _ _ _ hne).trans ?_; refine (Below.heap_setCell _ _ _ _ hne).trans ?_; exact g3⟩), F.o13, F.n10_11⟩
  intro _
  have e : upd d 12 12 = true := rfl
  rw [e]
  exact ⟨bq, hx, hb, (heap_setCell_at (k := 4) (heap_setCell_at (k := 3) (heap_setCell_at (k := 2) (heap_setCell_at (k := 1) (heap_setCell_at (k := 0) hh (.int .i64 (gp p.cards i).slo)) (.int .i64 (gp p.cards i).shi)) (.int .i64 (gp p.cards i).wlo)) (.int .i64 (gp p.cards i).whi)) (.int .i64 (gp p.cards i).marks))⟩
theorem wid1F.s11 (F : wid1F W1 p b o cap bx i j d x9 x10 x11 x12 x13 x14 x15 x16 x17 x18 x7 x8 w) (h13 : d 13 = false) : wid1F W1 p b o cap bx i j (upd d 11) x9 x10 x11 x12 x13 x14 x15 x16 x17 x18 x7 (.pointer (some ⟨w.heap.size, 0, none⟩)) (w.alloc (.cells #[.int .i64 0, .int .i64 0, .int .i64 0, .int .i64 0, .int .i64 0] 54)) := by
  have G := F.below ((Below.refl _ w).alloc (Nat.le_refl _) (.cells #[.int .i64 0, .int .i64 0, .int .i64 0, .int .i64 0, .int .i64 0] 54))
  refine ⟨G.same, G.f0, G.f1, G.f2, G.f3, G.f4, G.f5, G.f6, G.f7, G.f8, G.f9, G.f10, G.o12, ?_, fun h => (by have h2 : d 13 = true := h; rw [h13] at h2; cases h2), fun h _ e => (by obtain ⟨bq, h1, h2, h3⟩ := F.f10 h; rw [h1] at e; have h4 := heap_lt h3; simp only [Value.pointer.injEq, Option.some.injEq, Addr.mk.injEq] at e; omega)⟩
  intro _
  have e : upd d 11 13 = false := h13
  rw [e]
  exact ⟨_, rfl, F.same.size, World.alloc_heap_new w _⟩
theorem wid1F.s13 (F : wid1F W1 p b o cap bx i j d x9 x10 x11 x12 x13 x14 x15 x16 x17 x18 x7 x8 w) (h11 : d 11 = true) {bq : Nat} (hb : W1.heap.size ≤ bq) (hx : x8 = .pointer (some ⟨bq, 0, none⟩)) (hh : w.heap[bq]? = some (.cells #[.int .i64 0, .int .i64 0, .int .i64 0, .int .i64 0, .int .i64 0] 54 (0, 0))) : wid1F W1 p b o cap bx i j (upd d 13) x9 x10 x11 x12 x13 x14 x15 x16 x17 x18 x7 x8 (((((w.setCell ⟨bq, 0, none⟩ (.int .i64 (gp p.cards j).slo)).setCell ⟨bq, 1, none⟩ (.int .i64 (gp p.cards j).shi)).setCell ⟨bq, 2, none⟩ (.int .i64 (gp p.cards j).wlo)).setCell ⟨bq, 3, none⟩ (.int .i64 (gp p.cards j).whi)).setCell ⟨bq, 4, none⟩ (.int .i64 (gp p.cards j).marks)) := by
  refine ⟨(((((F.same).setCell (p := ⟨bq, 0, none⟩) hb (.int .i64 (gp p.cards j).slo)).setCell (p := ⟨bq, 1, none⟩) hb (.int .i64 (gp p.cards j).shi)).setCell (p := ⟨bq, 2, none⟩) hb (.int .i64 (gp p.cards j).wlo)).setCell (p := ⟨bq, 3, none⟩) hb (.int .i64 (gp p.cards j).whi)).setCell (p := ⟨bq, 4, none⟩) hb (.int .i64 (gp p.cards j).marks), F.f0, F.f1, F.f2, F.f3, F.f4, F.f5, F.f6, F.f7, F.f8, F.f9, fun h => (by obtain ⟨bz, g1, g2, g3⟩ := F.f10 h; have hne : bz ≠ bq := fun e => F.n10_11 h h11 (by rw [hx, g1, e]); exact ⟨bz, g1, g2, by refine (Below.heap_setCell _ _ _ _ hne).trans ?_; refine (Below.heap_setCell _ _ _ _ hne).trans ?_; refine (Below.heap_setCell _ _ _ _ hne).trans ?_; refine (Below.heap_setCell _ _ _ _ hne).trans ?_; refine (Below.heap_setCell _ _ _ _ hne).trans ?_; exact g3⟩), F.o12, ?_, fun _ => h11, F.n10_11⟩
  intro _
  have e : upd d 13 13 = true := rfl
  rw [e]
  exact ⟨bq, hx, hb, (heap_setCell_at (k := 4) (heap_setCell_at (k := 3) (heap_setCell_at (k := 2) (heap_setCell_at (k := 1) (heap_setCell_at (k := 0) hh (.int .i64 (gp p.cards j).slo)) (.int .i64 (gp p.cards j).shi)) (.int .i64 (gp p.cards j).wlo)) (.int .i64 (gp p.cards j).whi)) (.int .i64 (gp p.cards j).marks))⟩
end
noncomputable def wid1C : Code := (Try.f47.body.bind (regionAt 1)).getD .skip
set_option maxRecDepth 100000 in
set_option maxHeartbeats 4000000 in
theorem wid1 {W1 : World} {p : Prs} {b o : Nat} {cap : Nat} {bx : Nat} {i j : Nat} {Q : Exit → Act → World → Prop} (hq : W1.heap[bx]? = some (.cells (p.cells (some ⟨b, o, none⟩) cap) 26 (0, 0))) (hp : IsPrts W1 (some ⟨b, o, none⟩) p.cards) (hi : i < p.cards.length) (hj : j < p.cards.length)
    {s0 s4 s5 s6 s7 s8 s9 s10 s11 s12 s13 s14 s15 s16 s17 s18 s19 s20 s21 s22 s23 s24 s25 s26 s27 s28 s29 s30 s31 s32 s33 s34 s35 s36 s37 s38 s39 s40 s41 s42 s43 s44 s45 s46 s47 s48 s49 s50 s51 s52 s53 s54 s55 s56 s57 s58 s59 s60 s61 s62 s63 s64 s65 s66 s67 s68 : Value} {dd : List Deferred}
    (hQ : ∀ (x9 x10 x11 x12 x13 x14 x15 x16 x17 x18 x7 x8 : Value) (w' : World), Below W1.heap.size W1 w' → x9 = .pointer (some ⟨bx, 0, none⟩) → x10 = .slice (some ⟨b, o, none⟩) p.cards.length cap → x11 = .int .i64 (i : Int) → x12 = .pointer (some ⟨b, o + i * 5, none⟩) → x13 = .agg (gp p.cards i).arr → x14 = .pointer (some ⟨bx, 0, none⟩) → x15 = .slice (some ⟨b, o, none⟩) p.cards.length cap → x16 = .int .i64 (j : Int) → x17 = .pointer (some ⟨b, o + j * 5, none⟩) → x18 = .agg (gp p.cards j).arr → (∃ bq : Nat, x7 = .pointer (some ⟨bq, 0, none⟩) ∧ W1.heap.size ≤ bq ∧ w'.heap[bq]? = some (.cells (gp p.cards i).arr 54 (0, 0))) → (∃ bq : Nat, x8 = .pointer (some ⟨bq, 0, none⟩) ∧ W1.heap.size ≤ bq ∧ w'.heap[bq]? = some (.cells (gp p.cards j).arr 54 (0, 0))) → x7 ≠ x8 → Q .normal { tmps := #[s0, .int .i64 (i : Int), .int .i64 (j : Int), .pointer (some ⟨bx, 0, none⟩), s4, s5, s6, x7, x8, x9, x10, x11, x12, x13, x14, x15, x16, x17, x18, s19, s20, s21, s22, s23, s24, s25, s26, s27, s28, s29, s30, s31, s32, s33, s34, s35, s36, s37, s38, s39, s40, s41, s42, s43, s44, s45, s46, s47, s48, s49, s50, s51, s52, s53, s54, s55, s56, s57, s58, s59, s60, s61, s62, s63, s64, s65, s66, s67, s68], defers := dd } w') :
    Code.wp Try.prog wid1C Q { tmps := #[s0, .int .i64 (i : Int), .int .i64 (j : Int), .pointer (some ⟨bx, 0, none⟩), s4, s5, s6, s7, s8, s9, s10, s11, s12, s13, s14, s15, s16, s17, s18, s19, s20, s21, s22, s23, s24, s25, s26, s27, s28, s29, s30, s31, s32, s33, s34, s35, s36, s37, s38, s39, s40, s41, s42, s43, s44, s45, s46, s47, s48, s49, s50, s51, s52, s53, s54, s55, s56, s57, s58, s59, s60, s61, s62, s63, s64, s65, s66, s67, s68], defers := dd } W1 := by
  have HQ := Lib.hid hQ
  clear hQ
  conv => arg 2; whnf
  refine wp_region_inv' mixed (by kernel_rfl) (fun d_ a_ w' => ∃ x9 x10 x11 x12 x13 x14 x15 x16 x17 x18 x7 x8, a_ = { tmps := #[s0, .int .i64 (i : Int), .int .i64 (j : Int), .pointer (some ⟨bx, 0, none⟩), s4, s5, s6, x7, x8, x9, x10, x11, x12, x13, x14, x15, x16, x17, x18, s19, s20, s21, s22, s23, s24, s25, s26, s27, s28, s29, s30, s31, s32, s33, s34, s35, s36, s37, s38, s39, s40, s41, s42, s43, s44, s45, s46, s47, s48, s49, s50, s51, s52, s53, s54, s55, s56, s57, s58, s59, s60, s61, s62, s63, s64, s65, s66, s67, s68], defers := dd } ∧ wid1F W1 p b o cap bx i j d_ x9 x10 x11 x12 x13 x14 x15 x16 x17 x18 x7 x8 w') ?_ ?_ ?_
  · refine ⟨s9, s10, s11, s12, s13, s14, s15, s16, s17, s18, s7, s8, rfl, (Below.refl _ W1).drew, ?_, ?_, ?_, ?_, ?_, ?_, ?_, ?_, ?_, ?_, ?_, ?_, ?_, ?_, ?_⟩ <;> (intro h; cases h)
  · refine ⟨?_, ?_, ?_, ?_, ?_, ?_, ?_, ?_, ?_, ?_, ?_, ?_, ?_, ?_, trivial⟩
    all_goals
      rintro d_ a_ w1 K hd_ hdep ⟨x9, x10, x11, x12, x13, x14, x15, x16, x17, x18, x7, x8, rfl, F⟩ HK
      simp [Region.binds] at hdep
      have hb1 := F.same
    · have HF := Lib.hid F.s0
      clear F
      clear hb1
      go_simp
      exact HK.out _ _ ⟨_, _, _, _, _, _, _, _, _, _, _, _, rfl, HF.out⟩
    · obtain rfl := F.f0 (by simp [hdep])
      obtain ⟨k0, k1, k2, k3, k4⟩ := prs_cells ((F.same.block _ (heap_lt hq)).trans hq)
      have HF := Lib.hid F.s1
      clear F
      clear hb1
      go_simp
      exact HK.out _ _ ⟨_, _, _, _, _, _, _, _, _, _, _, _, rfl, HF.out⟩
    · have HF := Lib.hid F.s2
      clear F
      clear hb1
      go_simp
      exact HK.out _ _ ⟨_, _, _, _, _, _, _, _, _, _, _, _, rfl, HF.out⟩
    · obtain rfl := F.f1 (by simp [hdep])
      obtain rfl := F.f2 (by simp [hdep])
      have hi2 := hi
      have HF := Lib.hid F.s3
      clear F
      clear hb1
      go_simp
      exact HK.out _ _ ⟨_, _, _, _, _, _, _, _, _, _, _, _, rfl, HF.out⟩
    · obtain rfl := F.f3 (by simp [hdep])
      obtain ⟨_, _, e_, c0, c1, c2, c3, c4⟩ := (hp.mono F.same) i hi
      cases e_
      have HF := Lib.hid F.s4
      clear F
      clear hb1
      go_simp
      exact HK.out _ _ ⟨_, _, _, _, _, _, _, _, _, _, _, _, rfl, HF.out⟩
    · have HF := Lib.hid F.s5
      clear F
      clear hb1
      go_simp
      exact HK.out _ _ ⟨_, _, _, _, _, _, _, _, _, _, _, _, rfl, HF.out⟩
    · obtain rfl := F.f5 (by simp [hdep])
      obtain ⟨k0, k1, k2, k3, k4⟩ := prs_cells ((F.same.block _ (heap_lt hq)).trans hq)
      have HF := Lib.hid F.s6
      clear F
      clear hb1
      go_simp
      exact HK.out _ _ ⟨_, _, _, _, _, _, _, _, _, _, _, _, rfl, HF.out⟩
    · have HF := Lib.hid F.s7
      clear F
      clear hb1
      go_simp
      exact HK.out _ _ ⟨_, _, _, _, _, _, _, _, _, _, _, _, rfl, HF.out⟩
    · obtain rfl := F.f6 (by simp [hdep])
      obtain rfl := F.f7 (by simp [hdep])
      have hj2 := hj
      have HF := Lib.hid F.s8
      clear F
      clear hb1
      go_simp
      exact HK.out _ _ ⟨_, _, _, _, _, _, _, _, _, _, _, _, rfl, HF.out⟩
    · obtain rfl := F.f8 (by simp [hdep])
      obtain ⟨_, _, e_, c0, c1, c2, c3, c4⟩ := (hp.mono F.same) j hj
      cases e_
      have HF := Lib.hid F.s9
      clear F
      clear hb1
      go_simp
      exact HK.out _ _ ⟨_, _, _, _, _, _, _, _, _, _, _, _, rfl, HF.out⟩
    · have n12 : d_ 12 = false := by
        cases e : d_ 12 with
        | false => rfl
        | true => have h2 := F.o12 e; exact absurd (show d_ 10 = false from hd_) (by rw [h2]; simp)
      have HF := Lib.hid (F.s10 n12)
      clear F hb1
      go_simp
      exact HK.out _ _ ⟨_, _, _, _, _, _, _, _, _, _, _, _, rfl, HF.out⟩
    · have n13 : d_ 13 = false := by
        cases e : d_ 13 with
        | false => rfl
        | true => have h2 := F.o13 e; exact absurd (show d_ 11 = false from hd_) (by rw [h2]; simp)
      have HF := Lib.hid (F.s11 n13)
      clear F hb1
      go_simp
      exact HK.out _ _ ⟨_, _, _, _, _, _, _, _, _, _, _, _, rfl, HF.out⟩
    · obtain rfl := F.f4 (by simp [hdep])
      have ha10 : d_ 10 = true := by simp [hdep]
      obtain ⟨bq, hx, hWb, hh⟩ := F.f10 ha10
      have hds : d_ 12 = false := hd_
      rw [hds] at hh
      have hh' : w1.heap[bq]? = some (.cells #[.int .i64 0, .int .i64 0, .int .i64 0, .int .i64 0, .int .i64 0] 54 (0, 0)) := hh
      have z0 : ∀ k, w1.frozen? ⟨bq, k, none⟩ = false := fun k => frozen_of_heap hh'
      have zc0 : ∃ v, w1.cell? ⟨bq, 0, none⟩ = some v := ⟨_, by rw [cell_of_heap hh']; rfl⟩
      obtain ⟨vc0, zc0⟩ := zc0
      have zc1 : ∃ v, w1.cell? ⟨bq, 1, none⟩ = some v := ⟨_, by rw [cell_of_heap hh']; rfl⟩
      obtain ⟨vc1, zc1⟩ := zc1
      have zc2 : ∃ v, w1.cell? ⟨bq, 2, none⟩ = some v := ⟨_, by rw [cell_of_heap hh']; rfl⟩
      obtain ⟨vc2, zc2⟩ := zc2
      have zc3 : ∃ v, w1.cell? ⟨bq, 3, none⟩ = some v := ⟨_, by rw [cell_of_heap hh']; rfl⟩
      obtain ⟨vc3, zc3⟩ := zc3
      have zc4 : ∃ v, w1.cell? ⟨bq, 4, none⟩ = some v := ⟨_, by rw [cell_of_heap hh']; rfl⟩
      obtain ⟨vc4, zc4⟩ := zc4
      have HF := Lib.hid (F.s12 ha10 hWb hx hh')
      clear F hh hh' hb1
      subst hx
      go_simp
      exact HK.out _ _ ⟨_, _, _, _, _, _, _, _, _, _, _, _, rfl, HF.out⟩
    · obtain rfl := F.f9 (by simp [hdep])
      have ha11 : d_ 11 = true := by simp [hdep]
      obtain ⟨bq, hx, hWb, hh⟩ := F.f11 ha11
      have hds : d_ 13 = false := hd_
      rw [hds] at hh
      have hh' : w1.heap[bq]? = some (.cells #[.int .i64 0, .int .i64 0, .int .i64 0, .int .i64 0, .int .i64 0] 54 (0, 0)) := hh
      have z0 : ∀ k, w1.frozen? ⟨bq, k, none⟩ = false := fun k => frozen_of_heap hh'
      have zc0 : ∃ v, w1.cell? ⟨bq, 0, none⟩ = some v := ⟨_, by rw [cell_of_heap hh']; rfl⟩
      obtain ⟨vc0, zc0⟩ := zc0
      have zc1 : ∃ v, w1.cell? ⟨bq, 1, none⟩ = some v := ⟨_, by rw [cell_of_heap hh']; rfl⟩
      obtain ⟨vc1, zc1⟩ := zc1
      have zc2 : ∃ v, w1.cell? ⟨bq, 2, none⟩ = some v := ⟨_, by rw [cell_of_heap hh']; rfl⟩
      obtain ⟨vc2, zc2⟩ := zc2
      have zc3 : ∃ v, w1.cell? ⟨bq, 3, none⟩ = some v := ⟨_, by rw [cell_of_heap hh']; rfl⟩
      obtain ⟨vc3, zc3⟩ := zc3
      have zc4 : ∃ v, w1.cell? ⟨bq, 4, none⟩ = some v := ⟨_, by rw [cell_of_heap hh']; rfl⟩
      obtain ⟨vc4, zc4⟩ := zc4
      have HF := Lib.hid (F.s13 ha11 hWb hx hh')
      clear F hh hh' hb1
      subst hx
      go_simp
      exact HK.out _ _ ⟨_, _, _, _, _, _, _, _, _, _, _, _, rfl, HF.out⟩
  · rintro d_ a_ w1 hall ⟨x9, x10, x11, x12, x13, x14, x15, x16, x17, x18, x7, x8, rfl, F⟩
    have hall' : ∀ k, k < 14 → d_ k = true := hall
    have E10 := F.f10 (hall' 10 (by decide))
    rw [hall' 12 (by decide)] at E10
    have E11 := F.f11 (hall' 11 (by decide))
    rw [hall' 13 (by decide)] at E11
    exact HQ.out _ _ _ _ _ _ _ _ _ _ _ _ w1 F.same (F.f0 (hall' 0 (by decide))) (F.f1 (hall' 1 (by decide))) (F.f2 (hall' 2 (by decide))) (F.f3 (hall' 3 (by decide))) (F.f4 (hall' 4 (by decide))) (F.f5 (hall' 5 (by decide))) (F.f6 (hall' 6 (by decide))) (F.f7 (hall' 7 (by decide))) (F.f8 (hall' 8 (by decide))) (F.f9 (hall' 9 (by decide))) E10 E11 (F.n10_11 (hall' 10 (by decide)) (hall' 11 (by decide)))

end Go.Proofs.Ytnfhlbmapfoifaa

namespace Go.Proofs.Ytnfhlbmapfoifaa
open Go.RowKit
set_option linter.unusedVariables false
set_option linter.unusedSimpArgs false

theorem gp_ok5 {p : Prs} (hv : p.valid = true) {i : Nat} (h : i < p.cards.length) : (gp p.cards i).ok = true := by
  obtain ⟨_, h2, _⟩ := valid_parts hv
  exact h2 i h
theorem ok_parts5 {c : Prt} (h : c.ok = true) : (0 ≤ c.slo ∧ c.slo ≤ c.shi ∧ c.shi ≤ 16384) ∧ (0 ≤ c.wlo ∧ c.wlo ≤ c.whi ∧ c.whi ≤ 16384) ∧ 0 ≤ c.marks ∧ c.marks ≤ 1023 := by
  simpa [Prt.ok, spanOk, inR, and_assoc] using h
/-- What a slot holds: the value, once it is done. -/
def pk (b : Bool) (v s : Value) : Value := if b then v else s
theorem pk_of {b : Bool} (h : b = true) (v s : Value) : pk b v s = v := by rw [h]; rfl
set_option maxRecDepth 100000 in
set_option maxHeartbeats 4000000 in
theorem wide47 {p : Prs} {a : Option Addr} {cap i j : Nat} {w : World} (ha : IsPrts w a p.cards) (hv : p.valid = true) (hi : i < p.cards.length) (hj : j < p.cards.length) (W : Wide p i j) :
    Calls Try.prog 47 #[p.v a cap, .int .i64 (i : Int), .int .i64 (j : Int)] w fun e w' => e = .returned (.bool true) ∧ Below w.heap.size w w' := by
  obtain ⟨b, o, rfl, _⟩ := ha i hi
  have hb0 : Below w.heap.size w (w.alloc (.cells (p.cells (some ⟨b, o, none⟩) cap) 26)) := (Below.refl _ w).alloc (Nat.le_refl _) _
  have q0 := World.alloc_heap_new w (.cells (p.cells (some ⟨b, o, none⟩) cap) 26)
  have HW := Lib.hid (And.intro hb0 (And.intro q0 (ha.mono hb0)))
  have HV := Lib.hid (And.intro hv W)
  clear hb0 q0 ha hv W
  go_enter Try.func47, Try.ntmps47
  refine wp_seq_hid ?_
  intro K0 HK0
  go_wp2_with fail
  refine HK0.out _ _ ?_
  clear HK0 K0
  refine wp_seq_hid ?_
  intro K1 HK1
  revert HW
  generalize w.alloc (.cells (p.cells (some ⟨b, o, none⟩) cap) 26) = w1
  intro HW
  go_upto_region 1 with fail
  refine wid1 (p := p) (b := b) (o := o) (cap := cap) (bx := w.heap.size) (i := i) (j := j) HW.out.2.1 HW.out.2.2 hi hj ?_
  rintro x9 x10 x11 x12 x13 x14 x15 x16 x17 x18 x7 x8 w2 hb - - - - - - - - - - ⟨b7, rfl, l7, q7⟩ ⟨b8, rfl, l8, q8⟩ n78
  have H2 := Lib.hid (HW.out.1.trans (hb.mono HW.out.1.size))
  obtain ⟨k0, k1, k2, k3, k4⟩ := prs_cells ((hb.block _ (heap_lt HW.out.2.1)).trans HW.out.2.1)
  obtain ⟨a0, a1, a2, a3, a4⟩ := prt_cells q7
  obtain ⟨d0, d1, d2, d3, d4⟩ := prt_cells q8
  obtain ⟨s1, s2, s3⟩ := ok_parts5 (gp_ok5 HV.out.1 hi)
  obtain ⟨t1, t2, t3⟩ := ok_parts5 (gp_ok5 HV.out.1 hj)
  have W1 := HV.out.2.s1
  have W2 := HV.out.2.s2
  have W3 := HV.out.2.w1
  have W4 := HV.out.2.w2
  clear hb q7 q8 l7 l8 n78 k0 k2 k4
  revert a0 a1 a2 a3 d0 d1 d2 d3 s1 s2 t1 t2 W1 W2 W3 W4
  generalize (gp p.cards i).slo = A0
  generalize (gp p.cards i).shi = A1
  generalize (gp p.cards i).wlo = A2
  generalize (gp p.cards i).whi = A3
  generalize (gp p.cards j).slo = B0
  generalize (gp p.cards j).shi = B1
  generalize (gp p.cards j).wlo = B2
  generalize (gp p.cards j).whi = B3
  intro a0 a1 a2 a3 d0 d1 d2 d3 s1 s2 t1 t2 W1 W2 W3 W4
  have y1 : IntKind.i64.wrap (A1 - B0) = A1 - B0 := IntWalk.i64_in _ (by omega)
  have y2 : IntKind.i64.wrap (B1 - A0) = B1 - A0 := IntWalk.i64_in _ (by omega)
  have y3 : IntKind.i64.wrap (A3 - B2) = A3 - B2 := IntWalk.i64_in _ (by omega)
  have y4 : IntKind.i64.wrap (B3 - A2) = B3 - A2 := IntWalk.i64_in _ (by omega)
  have z1 : decide (p.llo ≤ A1 - B0) = true := by simpa using W1
  have z2 : decide (p.llo ≤ B1 - A0) = true := by simpa using W2
  have z3 : decide (p.olo ≤ A3 - B2) = true := by simpa using W3
  have z4 : decide (p.olo ≤ B3 - A2) = true := by simpa using W4
  refine HK1.out _ _ ?_
  clear HK1 K1 s3 t3
  go_wp2_with fail
  go_ret
  exact ⟨rfl, H2.out⟩
noncomputable def tup10C : Code := (Try.f12.body.bind (regionAt 10)).getD .skip
set_option maxRecDepth 100000 in
set_option maxHeartbeats 8000000 in
theorem tup10 {b7 b9 b3 bn k n m g : Nat} {c : Prt} {R : Bool → World → Prop} {Q : Exit → Act → World → Prop} {W1 : World} (hmn : m < n) (h0 : R false W1.drew)
    (kl1 : Hid (∀ (f0 : Bool) (w : World), R f0 w → w.cell? ⟨b7, 0, none⟩ = some (.slice (some ⟨g, 0, none⟩) n n)))
    (kc4 : Hid (∀ (f0 : Bool) (w : World), R f0 w → Calls Try.prog 46 #[.int .i64 (k : Int), .pointer (some ⟨b3, 0, none⟩), .pointer (some ⟨bn, 0, none⟩)] w fun e w' => e = .returned (.int .i64 (m : Int)) ∧ R f0 w'))
    (kl5 : Hid (∀ (f0 : Bool) (w : World), R f0 w → w.cell? ⟨b9, 0, none⟩ = some (.int .i64 c.slo) ∧ w.cell? ⟨b9, 1, none⟩ = some (.int .i64 c.shi) ∧ w.cell? ⟨b9, 2, none⟩ = some (.int .i64 c.wlo) ∧ w.cell? ⟨b9, 3, none⟩ = some (.int .i64 c.whi) ∧ w.cell? ⟨b9, 4, none⟩ = some (.int .i64 c.marks)))
    (ks7 : Hid (∀ (w : World), R false w → (∃ u, w.cell? ⟨g, m * 5, none⟩ = some u) ∧ w.frozen? ⟨g, m * 5, none⟩ = false ∧ (∃ u, w.cell? ⟨g, m * 5 + 1, none⟩ = some u) ∧ w.frozen? ⟨g, m * 5 + 1, none⟩ = false ∧ (∃ u, w.cell? ⟨g, m * 5 + 2, none⟩ = some u) ∧ w.frozen? ⟨g, m * 5 + 2, none⟩ = false ∧ (∃ u, w.cell? ⟨g, m * 5 + 3, none⟩ = some u) ∧ w.frozen? ⟨g, m * 5 + 3, none⟩ = false ∧ (∃ u, w.cell? ⟨g, m * 5 + 4, none⟩ = some u) ∧ w.frozen? ⟨g, m * 5 + 4, none⟩ = false ∧ R true (((((w.setCell ⟨g, m * 5, none⟩ (.int .i64 c.slo)).setCell ⟨g, m * 5 + 1, none⟩ (.int .i64 c.shi)).setCell ⟨g, m * 5 + 2, none⟩ (.int .i64 c.wlo)).setCell ⟨g, m * 5 + 3, none⟩ (.int .i64 c.whi)).setCell ⟨g, m * 5 + 4, none⟩ (.int .i64 c.marks))))
    {s0 s1 s2 s3 s4 s5 s10 s11 s12 s13 s14 s15 s16 s17 s18 s19 s20 s21 s22 s23 s24 s25 s26 s27 s28 s29 s30 s31 s32 s33 s34 s35 s36 s37 s38 s39 s40 s41 s42 s43 s44 s45 s46 s47 s48 s49 s50 s51 s52 s53 s54 s55 s56 s57 s58 s59 s60 s61 s62 s63 s64 s65 s66 s67 s68 s69 s70 s71 s72 s73 s74 s75 s76 s77 s78 s79 s80 s81 s82 s83 s84 s85 s86 s87 s88 s89 s90 s91 s92 s93 s94 s95 s96 s97 s98 s99 s100 s101 s102 s103 s104 s105 s106 s107 s108 s109 s110 s111 s112 s113 s114 s115 s116 s117 s118 s119 s120 s121 s122 s123 s124 s125 s126 s127 s128 s129 s130 s131 s132 s133 s134 s135 s136 s137 s138 s139 s140 s141 s142 s143 s144 s145 s146 s147 s148 s149 s150 s151 s152 s153 s154 s155 s156 s157 s158 s159 s160 s161 s162 s163 s164 s165 s166 s167 s168 s169 s170 s171 s172 s173 s174 s175 s176 s177 s178 s179 s180 s181 s182 s183 s184 s185 s186 s187 s188 s189 s190 s191 s192 s193 s194 s195 s196 s197 s198 s199 s200 s201 s202 s203 s204 s205 s206 s207 s208 s209 s210 s211 s212 s213 s214 s215 s216 s217 s218 s219 s220 s221 s222 s223 s224 s225 s226 s227 s228 s229 s230 s231 s232 s233 s234 s235 s236 s237 s238 s239 s240 s241 s242 s243 s244 s245 s246 s247 s248 s249 s250 s251 s252 s253 s254 s255 s256 s257 s258 s259 s260 s261 s262 s263 s264 s265 s266 s267 s268 s269 s270 s271 s272 s273 s274 s275 s276 s277 s278 s279 s280 s281 s282 s283 s284 s285 s286 s287 s288 s289 s290 s291 s292 s293 s294 s295 s296 s297 s298 s299 s300 s301 s302 s303 s304 s305 s306 s307 s308 s309 s310 s311 : Value} {dd : List Deferred}
    (hQ : ∀ w' : World, R true w' → Q .normal { tmps := #[s0,s1,s2,s3,s4,s5,.func (.func 46) #[] #[.pointer (some ⟨b3, 0, none⟩), .pointer (some ⟨bn, 0, none⟩)],.pointer (some ⟨b7, 0, none⟩),.int .i64 (k : Int),.pointer (some ⟨b9, 0, none⟩),s10,s11,s12,s13,s14,s15,s16,s17,s18,s19,s20,s21,s22,s23,s24,s25,s26,s27,s28,s29,s30,s31,s32,s33,s34,s35,s36,s37,s38,s39,s40,s41,s42,s43,s44,s45,s46,s47,s48,s49,s50,s51,s52,s53,s54,s55,s56,s57,s58,s59,s60,s61,s62,s63,s64,s65,s66,s67,s68,s69,s70,s71,s72,s73,s74,.pointer (some ⟨b7, 0, none⟩),.slice (some ⟨g, 0, none⟩) n n,.func (.func 46) #[] #[.pointer (some ⟨b3, 0, none⟩), .pointer (some ⟨bn, 0, none⟩)],.int .i64 (k : Int),.int .i64 (m : Int),.agg #[.int .i64 c.slo, .int .i64 c.shi, .int .i64 c.wlo, .int .i64 c.whi, .int .i64 c.marks],.pointer (some ⟨g, m * 5, none⟩),s82,s83,s84,s85,s86,s87,s88,s89,s90,s91,s92,s93,s94,s95,s96,s97,s98,s99,s100,s101,s102,s103,s104,s105,s106,s107,s108,s109,s110,s111,s112,s113,s114,s115,s116,s117,s118,s119,s120,s121,s122,s123,s124,s125,s126,s127,s128,s129,s130,s131,s132,s133,s134,s135,s136,s137,s138,s139,s140,s141,s142,s143,s144,s145,s146,s147,s148,s149,s150,s151,s152,s153,s154,s155,s156,s157,s158,s159,s160,s161,s162,s163,s164,s165,s166,s167,s168,s169,s170,s171,s172,s173,s174,s175,s176,s177,s178,s179,s180,s181,s182,s183,s184,s185,s186,s187,s188,s189,s190,s191,s192,s193,s194,s195,s196,s197,s198,s199,s200,s201,s202,s203,s204,s205,s206,s207,s208,s209,s210,s211,s212,s213,s214,s215,s216,s217,s218,s219,s220,s221,s222,s223,s224,s225,s226,s227,s228,s229,s230,s231,s232,s233,s234,s235,s236,s237,s238,s239,s240,s241,s242,s243,s244,s245,s246,s247,s248,s249,s250,s251,s252,s253,s254,s255,s256,s257,s258,s259,s260,s261,s262,s263,s264,s265,s266,s267,s268,s269,s270,s271,s272,s273,s274,s275,s276,s277,s278,s279,s280,s281,s282,s283,s284,s285,s286,s287,s288,s289,s290,s291,s292,s293,s294,s295,s296,s297,s298,s299,s300,s301,s302,s303,s304,s305,s306,s307,s308,s309,s310,s311],defers := dd } w') :
    Code.wpIn (wideAt none) 0 Try.prog tup10C Q { tmps := #[s0,s1,s2,s3,s4,s5,.func (.func 46) #[] #[.pointer (some ⟨b3, 0, none⟩), .pointer (some ⟨bn, 0, none⟩)],.pointer (some ⟨b7, 0, none⟩),.int .i64 (k : Int),.pointer (some ⟨b9, 0, none⟩),s10,s11,s12,s13,s14,s15,s16,s17,s18,s19,s20,s21,s22,s23,s24,s25,s26,s27,s28,s29,s30,s31,s32,s33,s34,s35,s36,s37,s38,s39,s40,s41,s42,s43,s44,s45,s46,s47,s48,s49,s50,s51,s52,s53,s54,s55,s56,s57,s58,s59,s60,s61,s62,s63,s64,s65,s66,s67,s68,s69,s70,s71,s72,s73,s74,s75,s76,s77,s78,s79,s80,s81,s82,s83,s84,s85,s86,s87,s88,s89,s90,s91,s92,s93,s94,s95,s96,s97,s98,s99,s100,s101,s102,s103,s104,s105,s106,s107,s108,s109,s110,s111,s112,s113,s114,s115,s116,s117,s118,s119,s120,s121,s122,s123,s124,s125,s126,s127,s128,s129,s130,s131,s132,s133,s134,s135,s136,s137,s138,s139,s140,s141,s142,s143,s144,s145,s146,s147,s148,s149,s150,s151,s152,s153,s154,s155,s156,s157,s158,s159,s160,s161,s162,s163,s164,s165,s166,s167,s168,s169,s170,s171,s172,s173,s174,s175,s176,s177,s178,s179,s180,s181,s182,s183,s184,s185,s186,s187,s188,s189,s190,s191,s192,s193,s194,s195,s196,s197,s198,s199,s200,s201,s202,s203,s204,s205,s206,s207,s208,s209,s210,s211,s212,s213,s214,s215,s216,s217,s218,s219,s220,s221,s222,s223,s224,s225,s226,s227,s228,s229,s230,s231,s232,s233,s234,s235,s236,s237,s238,s239,s240,s241,s242,s243,s244,s245,s246,s247,s248,s249,s250,s251,s252,s253,s254,s255,s256,s257,s258,s259,s260,s261,s262,s263,s264,s265,s266,s267,s268,s269,s270,s271,s272,s273,s274,s275,s276,s277,s278,s279,s280,s281,s282,s283,s284,s285,s286,s287,s288,s289,s290,s291,s292,s293,s294,s295,s296,s297,s298,s299,s300,s301,s302,s303,s304,s305,s306,s307,s308,s309,s310,s311],defers := dd } W1 := by
  have HQ := Lib.hid hQ
  clear hQ
  conv => arg 4; whnf
  refine wpIn_region_invG mixed (by kernel_rfl) (fun d_ a_ w' => a_ = { tmps := #[s0,s1,s2,s3,s4,s5,.func (.func 46) #[] #[.pointer (some ⟨b3, 0, none⟩), .pointer (some ⟨bn, 0, none⟩)],.pointer (some ⟨b7, 0, none⟩),.int .i64 (k : Int),.pointer (some ⟨b9, 0, none⟩),s10,s11,s12,s13,s14,s15,s16,s17,s18,s19,s20,s21,s22,s23,s24,s25,s26,s27,s28,s29,s30,s31,s32,s33,s34,s35,s36,s37,s38,s39,s40,s41,s42,s43,s44,s45,s46,s47,s48,s49,s50,s51,s52,s53,s54,s55,s56,s57,s58,s59,s60,s61,s62,s63,s64,s65,s66,s67,s68,s69,s70,s71,s72,s73,s74,pk (d_ 0) (.pointer (some ⟨b7, 0, none⟩)) s75,pk (d_ 1) (.slice (some ⟨g, 0, none⟩) n n) s76,pk (d_ 2) (.func (.func 46) #[] #[.pointer (some ⟨b3, 0, none⟩), .pointer (some ⟨bn, 0, none⟩)]) s77,pk (d_ 3) (.int .i64 (k : Int)) s78,pk (d_ 4) (.int .i64 (m : Int)) s79,pk (d_ 5) (.agg #[.int .i64 c.slo, .int .i64 c.shi, .int .i64 c.wlo, .int .i64 c.whi, .int .i64 c.marks]) s80,pk (d_ 6) (.pointer (some ⟨g, m * 5, none⟩)) s81,s82,s83,s84,s85,s86,s87,s88,s89,s90,s91,s92,s93,s94,s95,s96,s97,s98,s99,s100,s101,s102,s103,s104,s105,s106,s107,s108,s109,s110,s111,s112,s113,s114,s115,s116,s117,s118,s119,s120,s121,s122,s123,s124,s125,s126,s127,s128,s129,s130,s131,s132,s133,s134,s135,s136,s137,s138,s139,s140,s141,s142,s143,s144,s145,s146,s147,s148,s149,s150,s151,s152,s153,s154,s155,s156,s157,s158,s159,s160,s161,s162,s163,s164,s165,s166,s167,s168,s169,s170,s171,s172,s173,s174,s175,s176,s177,s178,s179,s180,s181,s182,s183,s184,s185,s186,s187,s188,s189,s190,s191,s192,s193,s194,s195,s196,s197,s198,s199,s200,s201,s202,s203,s204,s205,s206,s207,s208,s209,s210,s211,s212,s213,s214,s215,s216,s217,s218,s219,s220,s221,s222,s223,s224,s225,s226,s227,s228,s229,s230,s231,s232,s233,s234,s235,s236,s237,s238,s239,s240,s241,s242,s243,s244,s245,s246,s247,s248,s249,s250,s251,s252,s253,s254,s255,s256,s257,s258,s259,s260,s261,s262,s263,s264,s265,s266,s267,s268,s269,s270,s271,s272,s273,s274,s275,s276,s277,s278,s279,s280,s281,s282,s283,s284,s285,s286,s287,s288,s289,s290,s291,s292,s293,s294,s295,s296,s297,s298,s299,s300,s301,s302,s303,s304,s305,s306,s307,s308,s309,s310,s311],defers := dd } ∧ R (d_ 7) w') ?_ ?_ ?_
  · exact ⟨rfl, h0⟩
  · refine ⟨?_,?_,?_,?_,?_,?_,?_,?_, trivial⟩
    all_goals
      rintro d_ a_ w1 K hd_ hdep ⟨rfl, F⟩ HK
      simp [Region.binds] at hdep
    · have HF := Lib.hid F
      clear F
      go_simp
      refine HK.out _ _ ⟨?_, HF.out⟩
      all_goals rfl
    · have q0 : d_ 0 = true := by simp [hdep]
      have kk := kl1.out _ w1 F
      rw [pk_of q0]
      have HF := Lib.hid F
      clear F
      go_simp
      refine HK.out _ _ ⟨?_, HF.out⟩
      rw [pk_of (show upd d_ 1 0 = true from q0)]
      all_goals rfl
    · have HF := Lib.hid F
      clear F
      go_simp
      refine HK.out _ _ ⟨?_, HF.out⟩
      all_goals rfl
    · have HF := Lib.hid F
      clear F
      go_simp
      refine HK.out _ _ ⟨?_, HF.out⟩
      all_goals rfl
    · have q2 : d_ 2 = true := by simp [hdep]
      have q3 : d_ 3 = true := by simp [hdep]
      rw [pk_of q2, pk_of q3]
      have hc := kc4.out _ w1 F
      clear F
      go_simp
      refine ⟨trivial, rfl, wideAt_calls (hc.mono ?_)⟩
      rintro e w5 ⟨rfl, hR⟩
      refine HK.out _ _ ⟨?_, hR⟩
      rw [pk_of (show upd d_ 4 2 = true from q2), pk_of (show upd d_ 4 3 = true from q3)]
      all_goals rfl
    · have kk := kl5.out _ w1 F
      obtain ⟨kk0, kk1, kk2, kk3, kk4⟩ := kk
      have HF := Lib.hid F
      clear F
      go_simp
      refine HK.out _ _ ⟨?_, HF.out⟩
      all_goals rfl
    · have q0 : d_ 0 = true := by simp [hdep]
      have q1 : d_ 1 = true := by simp [hdep]
      have q2 : d_ 2 = true := by simp [hdep]
      have q3 : d_ 3 = true := by simp [hdep]
      have q4 : d_ 4 = true := by simp [hdep]
      have q5 : d_ 5 = true := by simp [hdep]
      have hmn2 : m < n := hmn
      rw [pk_of q0, pk_of q1, pk_of q2, pk_of q3, pk_of q4, pk_of q5]
      have HF := Lib.hid F
      clear F
      go_simp
      refine HK.out _ _ ⟨?_, HF.out⟩
      rw [pk_of (show upd d_ 6 0 = true from q0), pk_of (show upd d_ 6 1 = true from q1), pk_of (show upd d_ 6 2 = true from q2), pk_of (show upd d_ 6 3 = true from q3), pk_of (show upd d_ 6 4 = true from q4), pk_of (show upd d_ 6 5 = true from q5)]
      all_goals rfl
    · have q0 : d_ 0 = true := by simp [hdep]
      have q1 : d_ 1 = true := by simp [hdep]
      have q2 : d_ 2 = true := by simp [hdep]
      have q3 : d_ 3 = true := by simp [hdep]
      have q4 : d_ 4 = true := by simp [hdep]
      have q5 : d_ 5 = true := by simp [hdep]
      have q6 : d_ 6 = true := by simp [hdep]
      rw [pk_of q0, pk_of q1, pk_of q2, pk_of q3, pk_of q4, pk_of q5, pk_of q6]
      have hds : d_ 7 = false := hd_
      rw [hds] at F
      obtain ⟨⟨u0, c0⟩, z0, ⟨u1, c1⟩, z1, ⟨u2, c2⟩, z2, ⟨u3, c3⟩, z3, ⟨u4, c4⟩, z4, hR⟩ := ks7.out  w1 F
      have HF := Lib.hid hR
      clear F hR
      go_simp
      refine HK.out _ _ ⟨?_, HF.out⟩
      rw [pk_of (show upd d_ 7 0 = true from q0), pk_of (show upd d_ 7 1 = true from q1), pk_of (show upd d_ 7 2 = true from q2), pk_of (show upd d_ 7 3 = true from q3), pk_of (show upd d_ 7 4 = true from q4), pk_of (show upd d_ 7 5 = true from q5), pk_of (show upd d_ 7 6 = true from q6)]
      all_goals rfl
  · rintro d_ a_ w1 hall ⟨rfl, F⟩
    have hall' : ∀ k, k < 8 → d_ k = true := hall
    rw [hall' 7 (by decide)] at F
    have HF := Lib.hid F
    clear F
    rw [pk_of (hall' 0 (by decide)), pk_of (hall' 1 (by decide)), pk_of (hall' 2 (by decide)), pk_of (hall' 3 (by decide)), pk_of (hall' 4 (by decide)), pk_of (hall' 5 (by decide)), pk_of (hall' 6 (by decide))]
    exact HQ.out w1 HF.out
end Go.Proofs.Ytnfhlbmapfoifaa

