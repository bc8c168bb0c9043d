/- The reference's truths: lists of truths in memory; a truth with one loan more. The reference's small functions: powers, sets, which card lies in a slot, how many were put back wrong. The reference's truths: all of them, in its order. The reference's truths: all of them, in its order. The reference's truths: all of them, in its order; All. -/
import Derived.Test.YtlhobddaojdnoaaBase8
import Derived.Test.YtlhobddaojdnoaaR3
import Derived.Test.YtlhobddaojdnoaaL3
import Derived.Test.YtlhobddaojdnoaaL10
import Derived.Deep.RegionHeld3
namespace Go.Proofs.Ytlhobddaojdnoaa
open Go.RowKit

theorem infoI : (Try.prog.info? 3).map (fun i => (i.zero, i.size, i.bytes)) = some (some (.int .i64 0), 1, 8) := by kernel_rfl
theorem infoB : (Try.prog.info? 4).map (fun i => (i.zero, i.size, i.bytes)) = some (some (.bool false), 1, 1) := by kernel_rfl
theorem infoT : (Try.prog.info? 56).map (fun i => (i.zero, i.size, i.bytes)) = some (some (.agg #[.slice none 0 0, .slice none 0 0]), 2, 48) := by kernel_rfl

/-- A slice's array holds these bools. -/
def IsBools (w : World) (a : Option Addr) (l : List Bool) : Prop :=
  ∀ i, i < l.length → ∃ b off, a = some ⟨b, off, none⟩ ∧ w.cell? ⟨b, off + i, none⟩ = some (.bool (gb l i))
theorem IsBools.mono {w w' : World} {a : Option Addr} {l : List Bool} (h : IsBools w a l) (hb : Below w.heap.size w w') : IsBools w' a l := fun i hi => by
  obtain ⟨b, off, ha, hc⟩ := h i hi
  exact ⟨b, off, ha, cell_stays hb hc⟩
theorem ints_of_news {w : World} {a : Option Addr} {l : List Int} (h : IsInts w a l) (hn : l.length ≠ 0) :
    ∃ ad, a = some ad ∧ ∀ j u, (l.map (Value.int .i64))[j]? = some u → w.cell? (ad.add j) = some u := by
  obtain ⟨b, off, rfl, _⟩ := h 0 (by omega)
  refine ⟨_, rfl, fun j u hj => ?_⟩
  have hlt := (List.getElem?_eq_some_iff.1 hj).1
  rw [List.length_map] at hlt
  obtain ⟨b', off', he, h0⟩ := h j hlt
  cases he
  have e : ((⟨b, off, none⟩ : Addr).add j) = ⟨b, off + j, none⟩ := by unfold Addr.add; split <;> simp_all
  rw [e, h0]
  rw [List.getElem?_map, List.getElem?_eq_getElem hlt] at hj
  simpa [gi, List.getElem?_eq_getElem hlt] using hj
theorem bools_of_news {w : World} {a : Option Addr} {l : List Bool} (h : IsBools w a l) (hn : l.length ≠ 0) :
    ∃ ad, a = some ad ∧ ∀ j u, (l.map Value.bool)[j]? = some u → w.cell? (ad.add j) = some u := by
  obtain ⟨b, off, rfl, _⟩ := h 0 (by omega)
  refine ⟨_, rfl, fun j u hj => ?_⟩
  have hlt := (List.getElem?_eq_some_iff.1 hj).1
  rw [List.length_map] at hlt
  obtain ⟨b', off', he, h0⟩ := h j hlt
  cases he
  have e : ((⟨b, off, none⟩ : Addr).add j) = ⟨b, off + j, none⟩ := by unfold Addr.add; split <;> simp_all
  rw [e, h0]
  rw [List.getElem?_map, List.getElem?_eq_getElem hlt] at hj
  simpa [gb, List.getElem?_eq_getElem hlt] using hj
theorem wp_append_run {P : Program} {w : World} {o : Oper} {a : Act} {K : Act → World → Prop} {Q : Exit → Act → World → Prop} (s x : Operand) (t : TypeId)
    (ho : o.op = .call { callee := .builtin .append, args := #[s, x], argTypes := #[t, t] }) (v xv v' : Value) (w' : World) (hs : a.eval s = v) (hx : a.eval x = xv)
    (hr : (Builtin.append_ #[t, t] o.type #[v, xv]).run P w = .ok v' w') (h : K (a.put o.dst v') w') : o.wp P a w K Q := by
  unfold Oper.wp execOp
  simp only [ho, resolve, invoke, builtin, Sem.run_bind, Sem.run_pure, Result.andThen_ok, List.map_toArray, List.map_cons, List.map_nil, hs, hx, hr]
  exact h
/-- Rows of unlike types lie in unlike blocks. -/
theorem own_apart {w : World} {B B' : Nat} {e e' : TypeId} {s s' n n' : Nat} {v v' : Value} {xs ys : List Value} (h : w.ownsRow B e s v n xs) (h' : w.ownsRow B' e' s' v' n' ys) (he : e ≠ e') : v.ownBlock = none ∨ v.ownBlock ≠ v'.ownBlock := by
  rcases h.2 with ⟨rfl, _⟩ | ⟨g, cap, cur, rfl, _, hg, _⟩
  · exact .inl rfl
  · right
    rcases h'.2 with ⟨rfl, _⟩ | ⟨g', cap', cur', rfl, _, hg', _⟩
    · simp [Value.ownBlock]
    · intro hc
      simp only [Value.ownBlock, Option.some.injEq] at hc
      subst hc
      rw [hg] at hg'
      simp only [Option.some.injEq, Obj.cells.injEq] at hg'
      exact he hg'.2.1
theorem own_block_ne {w : World} {B : Nat} {e t : TypeId} {s n : Nat} {v : Value} {xs : List Value} {g : Nat} {c : Array Value} (h : w.ownsRow B e s v n xs) (hg : w.heap[g]? = some (.cells c t (0, 0))) (he : e ≠ t) : some g ≠ v.ownBlock := by
  rcases h.2 with ⟨rfl, _⟩ | ⟨g', cap, cur, rfl, _, hg', _⟩
  · simp [Value.ownBlock]
  · intro hc
    simp only [Value.ownBlock, Option.some.injEq] at hc
    subst hc
    rw [hg] at hg'
    simp only [Option.some.injEq, Obj.cells.injEq] at hg'
    exact he hg'.2.1.symm

/-- What is known in the midst of 'with'. -/
structure WithF (W : World) (at_ : List Int) (bs : List Bool) (b : Bool) (va vb : Value) (p : Value) (d : Nat → Bool) (x9 x10 x11 x12 x13 x14 x15 x16 x17 x18 x19 x20 x21 : Value) (w : World) : Prop where
  same : Below W.heap.size W w
  o10 : d 10 = true → d 7 = true
  o11 : d 11 = true → d 3 = true ∧ d 10 = true
  o13 : d 13 = true → d 12 = true ∧ d 11 = true
  f0 : d 0 = true → d 3 = false → w.ownsRow W.heap.size 3 1 x10 0 []
  f1 : d 1 = true → ∃ g, p = .pointer (some ⟨g, 0, none⟩) ∧ x11 = .pointer (some ⟨g, 0, none⟩)
  f2 : d 2 = true → x12 = va
  f3 : d 3 = true → w.ownsRow W.heap.size 3 1 x13 at_.length (at_.map (Value.int .i64))
  f4 : d 4 = true → d 7 = false → w.ownsRow W.heap.size 4 1 x14 0 []
  f5 : d 5 = true → ∃ g, p = .pointer (some ⟨g, 0, none⟩) ∧ x15 = .pointer (some ⟨g, 1, none⟩)
  f6 : d 6 = true → x16 = vb
  f7 : d 7 = true → d 10 = false → w.ownsRow W.heap.size 4 1 x17 bs.length (bs.map Value.bool)
  f8 : d 8 = true → x18 = .bool b
  f9 : d 9 = true → d 10 = false → ∃ g, x19 = .slice (some ⟨g, 0, none⟩) 1 1 ∧ w.heap[g]? = some (.cells #[.bool b] 4 (0, 0)) ∧ (d 4 = true → d 7 = false → x14.ownBlock ≠ some g) ∧ (d 7 = true → x17.ownBlock ≠ some g)
  f10 : d 10 = true → w.ownsRow W.heap.size 4 1 x20 (bs.length + 1) (bs.map Value.bool ++ [.bool b])
  f11 : d 11 = true → x21 = .agg #[x13, x20]
  f12 : d 12 = true → ∃ g, x9 = .pointer (some ⟨g, 0, none⟩) ∧ w.heap[g]? = some (.cells (if d 13 then #[x13, x20] else #[.slice none 0 0, .slice none 0 0]) 56 (0, 0)) ∧ W.heap.size ≤ g
def WithI (W : World) (at_ : List Int) (bs : List Bool) (b : Bool) (va vb : Value) (t0 t1 t2 p8 : Value) (p : Value) (d : Nat → Bool) (a : Act) (w : World) : Prop :=
  ∃ x9 x10 x11 x12 x13 x14 x15 x16 x17 x18 x19 x20 x21, a = { tmps := #[t0, t1, t2, .bool b, p, undef, undef, undef, p8, x9, x10, x11, x12, x13, x14, x15, x16, x17, x18, x19, x20, x21, undef, undef, undef, undef, undef, undef, undef, undef], defers := [] } ∧
    WithF W at_ bs b va vb p d x9 x10 x11 x12 x13 x14 x15 x16 x17 x18 x19 x20 x21 w

theorem below_row {w : World} {B : Nat} {e : TypeId} {s n : Nat} {v : Value} {xs : List Value} (h : w.ownsRow B e s v n xs) : ∀ k, v.ownBlock = some k → B ≤ k := fun k hk => (h.lt k hk).1
theorem heap_lt {w : World} {g : Nat} {o : Obj} (h : w.heap[g]? = some o) : g < w.heap.size := (Array.getElem?_eq_some_iff.1 h).1
section
variable {W : World} {at_ : List Int} {bs : List Bool} {b : Bool} {va vb p : Value} {d : Nat → Bool} {x9 x10 x11 x12 x13 x14 x15 x16 x17 x18 x19 x20 x21 : Value} {w w' : World} {g : Nat}
/-- A new block. -/
theorem WithF.alloc (F : WithF W at_ bs b va vb p d x9 x10 x11 x12 x13 x14 x15 x16 x17 x18 x19 x20 x21 w) (o : Obj) : WithF W at_ bs b va vb p d x9 x10 x11 x12 x13 x14 x15 x16 x17 x18 x19 x20 x21 (w.alloc o) := by
  refine ⟨F.same.alloc F.same.size _, F.o10, F.o11, F.o13, fun h1 h2 => (F.f0 h1 h2).alloc _, F.f1, F.f2, fun h => (F.f3 h).alloc _, fun h1 h2 => (F.f4 h1 h2).alloc _, F.f5, F.f6, fun h1 h2 => (F.f7 h1 h2).alloc _, F.f8, fun h1 h2 => ?_, fun h => (F.f10 h).alloc _, F.f11, fun h => ?_⟩
  · obtain ⟨g, h3, h4, h5⟩ := F.f9 h1 h2
    exact ⟨g, h3, (Below.heap_alloc _ _ _ (heap_lt h4)).trans h4, h5⟩
  · obtain ⟨g, h3, h4, h5⟩ := F.f12 h
    exact ⟨g, h3, (Below.heap_alloc _ _ _ (heap_lt h4)).trans h4, h5⟩
theorem WithF.s0 (F : WithF W at_ bs b va vb p d x9 x10 x11 x12 x13 x14 x15 x16 x17 x18 x19 x20 x21 w) :
    WithF W at_ bs b va vb p (upd d 0) x9 (.slice (some ⟨w.heap.size, 0, none⟩) 0 0) x11 x12 x13 x14 x15 x16 x17 x18 x19 x20 x21 (w.alloc (.cells #[] 3)) := by
  have G := F.alloc (.cells #[] 3)
  refine ⟨G.same, G.o10, G.o11, G.o13, fun _ _ => ?_, G.f1, G.f2, G.f3, G.f4, G.f5, G.f6, G.f7, G.f8, G.f9, G.f10, G.f11, G.f12⟩
  exact World.ownsRow_made w #[] 0 F.same.size (by simp [maxLen]) (by simp)
theorem WithF.s1 (F : WithF W at_ bs b va vb (.pointer (some ⟨g, 0, none⟩)) d x9 x10 x11 x12 x13 x14 x15 x16 x17 x18 x19 x20 x21 w) :
    WithF W at_ bs b va vb (.pointer (some ⟨g, 0, none⟩)) (upd d 1) x9 x10 (.pointer (some ⟨g, 0, none⟩)) x12 x13 x14 x15 x16 x17 x18 x19 x20 x21 w :=
  ⟨F.same, F.o10, F.o11, F.o13, F.f0, fun _ => ⟨g, rfl, rfl⟩, F.f2, F.f3, F.f4, F.f5, F.f6, F.f7, F.f8, F.f9, F.f10, F.f11, F.f12⟩
theorem WithF.s2 (F : WithF W at_ bs b va vb p d x9 x10 x11 x12 x13 x14 x15 x16 x17 x18 x19 x20 x21 w) :
    WithF W at_ bs b va vb p (upd d 2) x9 x10 x11 va x13 x14 x15 x16 x17 x18 x19 x20 x21 w :=
  ⟨F.same, F.o10, F.o11, F.o13, F.f0, F.f1, fun _ => rfl, F.f3, F.f4, F.f5, F.f6, F.f7, F.f8, F.f9, F.f10, F.f11, F.f12⟩
theorem WithF.s3 (F : WithF W at_ bs b va vb p d x9 x10 x11 x12 x13 x14 x15 x16 x17 x18 x19 x20 x21 w) (hx : w.ownsRow W.heap.size 3 1 x10 0 []) {v : Value} (hn : w'.ownsRow W.heap.size 3 1 v at_.length (at_.map (Value.int .i64))) (hg : w.grownBy w' x10.ownBlock) (h11 : d 11 = false) (h12 : d 13 = false) :
    WithF W at_ bs b va vb p (upd d 3) x9 x10 x11 x12 v x14 x15 x16 x17 x18 x19 x20 x21 w' := by
  refine ⟨F.same.grown hg F.same.size (below_row hx), F.o10, fun h => (by have h' : d 11 = true := h; rw [h11] at h'; cases h'), F.o13, fun _ h => by simp [upd] at h, F.f1, F.f2, fun _ => hn, fun h1 h2 => ?_, F.f5, F.f6, fun h1 h2 => ?_, F.f8, fun h1 h2 => ?_, fun h => ?_, fun h => ?_, fun h => ?_⟩
  · exact (F.f4 h1 h2).kept hg (own_apart (F.f4 h1 h2) hx (by decide))
  · exact (F.f7 h1 h2).kept hg (own_apart (F.f7 h1 h2) hx (by decide))
  · obtain ⟨g, h3, h4, h5⟩ := F.f9 h1 h2
    exact ⟨g, h3, (hg.block g (heap_lt h4) (own_block_ne hx h4 (by decide))).trans h4, h5⟩
  · exact (F.f10 h).kept hg (own_apart (F.f10 h) hx (by decide))
  · have h' : d 11 = true := h
    rw [h11] at h'; cases h'
  · obtain ⟨g, h3, h4, h5⟩ := F.f12 h
    refine ⟨g, h3, (hg.block g (heap_lt h4) (own_block_ne hx h4 (by decide))).trans (h4.trans ?_), h5⟩
    have e : upd d 3 13 = false := h12
    rw [e, h12]
    rfl
theorem WithF.s4 (F : WithF W at_ bs b va vb p d x9 x10 x11 x12 x13 x14 x15 x16 x17 x18 x19 x20 x21 w) :
    WithF W at_ bs b va vb p (upd d 4) x9 x10 x11 x12 x13 (.slice (some ⟨w.heap.size, 0, none⟩) 0 0) x15 x16 x17 x18 x19 x20 x21 (w.alloc (.cells #[] 4)) := by
  have G := F.alloc (.cells #[] 4)
  refine ⟨G.same, G.o10, G.o11, G.o13, G.f0, G.f1, G.f2, G.f3, fun _ _ => ?_, G.f5, G.f6, G.f7, G.f8, fun h1 h2 => ?_, G.f10, G.f11, G.f12⟩
  · exact World.ownsRow_made w #[] 0 F.same.size (by simp [maxLen]) (by simp)
  · obtain ⟨g, h3, h4, h5, h6⟩ := F.f9 h1 h2
    have := heap_lt h4
    exact ⟨g, h3, (Below.heap_alloc _ _ _ this).trans h4, fun _ _ => by simp [Value.ownBlock]; omega, h6⟩
theorem WithF.s5 (F : WithF W at_ bs b va vb (.pointer (some ⟨g, 0, none⟩)) d x9 x10 x11 x12 x13 x14 x15 x16 x17 x18 x19 x20 x21 w) :
    WithF W at_ bs b va vb (.pointer (some ⟨g, 0, none⟩)) (upd d 5) x9 x10 x11 x12 x13 x14 (.pointer (some ⟨g, 1, none⟩)) x16 x17 x18 x19 x20 x21 w :=
  ⟨F.same, F.o10, F.o11, F.o13, F.f0, F.f1, F.f2, F.f3, F.f4, fun _ => ⟨g, rfl, rfl⟩, F.f6, F.f7, F.f8, F.f9, F.f10, F.f11, F.f12⟩
theorem WithF.s6 (F : WithF W at_ bs b va vb p d x9 x10 x11 x12 x13 x14 x15 x16 x17 x18 x19 x20 x21 w) :
    WithF W at_ bs b va vb p (upd d 6) x9 x10 x11 x12 x13 x14 x15 vb x17 x18 x19 x20 x21 w :=
  ⟨F.same, F.o10, F.o11, F.o13, F.f0, F.f1, F.f2, F.f3, F.f4, F.f5, fun _ => rfl, F.f7, F.f8, F.f9, F.f10, F.f11, F.f12⟩
theorem WithF.s7 (F : WithF W at_ bs b va vb p d x9 x10 x11 x12 x13 x14 x15 x16 x17 x18 x19 x20 x21 w) (hd7 : d 7 = false) (hd4 : d 4 = true) (hx : w.ownsRow W.heap.size 4 1 x14 0 []) {v : Value} (hn : w'.ownsRow W.heap.size 4 1 v bs.length (bs.map Value.bool)) (hg : w.grownBy w' x14.ownBlock)
    (hv : v.ownBlock = x14.ownBlock ∨ v.ownBlock = some w.heap.size) :
    WithF W at_ bs b va vb p (upd d 7) x9 x10 x11 x12 x13 x14 x15 x16 v x18 x19 x20 x21 w' := by
  have n10 : d 10 = false := by
    cases h : d 10 with
    | false => rfl
    | true => have := F.o10 h; rw [hd7] at this; cases this
  refine ⟨F.same.grown hg F.same.size (below_row hx), fun _ => rfl, F.o11, F.o13, fun h1 h2 => ?_, F.f1, F.f2, fun h => ?_, fun _ h => by simp [upd] at h, F.f5, F.f6, fun _ _ => hn, F.f8, fun h1 h2 => ?_, fun h => ?_, F.f11, fun h => ?_⟩
  · exact (F.f0 h1 h2).kept hg (own_apart (F.f0 h1 h2) hx (by decide))
  · exact (F.f3 h).kept hg (own_apart (F.f3 h) hx (by decide))
  · obtain ⟨g, h3, h4, h5, h6⟩ := F.f9 h1 h2
    have hne := h5 hd4 hd7
    have hlt := heap_lt h4
    refine ⟨g, h3, (hg.block g hlt (fun e => hne e.symm)).trans h4, fun _ h => by simp [upd] at h, fun _ => ?_⟩
    rcases hv with hv | hv
    · rw [hv]; exact hne
    · rw [hv]; simp; omega
  · have h' : d 10 = true := h
    rw [n10] at h'; cases h'
  · obtain ⟨g, h3, h4, h5⟩ := F.f12 h
    exact ⟨g, h3, (hg.block g (heap_lt h4) (own_block_ne hx h4 (by decide))).trans h4, h5⟩
theorem WithF.s8 (F : WithF W at_ bs b va vb p d x9 x10 x11 x12 x13 x14 x15 x16 x17 x18 x19 x20 x21 w) :
    WithF W at_ bs b va vb p (upd d 8) x9 x10 x11 x12 x13 x14 x15 x16 x17 (.bool b) x19 x20 x21 w :=
  ⟨F.same, F.o10, F.o11, F.o13, F.f0, F.f1, F.f2, F.f3, F.f4, F.f5, F.f6, F.f7, fun _ => rfl, F.f9, F.f10, F.f11, F.f12⟩
theorem WithF.s9 (F : WithF W at_ bs b va vb p d x9 x10 x11 x12 x13 x14 x15 x16 x17 x18 x19 x20 x21 w) :
    WithF W at_ bs b va vb p (upd d 9) x9 x10 x11 x12 x13 x14 x15 x16 x17 x18 (.slice (some ⟨w.heap.size, 0, none⟩) 1 1) x20 x21 (w.alloc (.cells #[.bool b] 4)) := by
  have G := F.alloc (.cells #[.bool b] 4)
  refine ⟨G.same, G.o10, G.o11, G.o13, G.f0, G.f1, G.f2, G.f3, G.f4, G.f5, G.f6, G.f7, G.f8, fun _ h2 => ?_, G.f10, G.f11, G.f12⟩
  refine ⟨w.heap.size, rfl, World.alloc_heap_new w _, fun h3 h4 => ?_, fun h3 => ?_⟩
  · intro e
    have := ((F.f4 h3 h4).lt _ e).2
    omega
  · intro e
    have := ((F.f7 h3 h2).lt _ e).2
    omega
theorem WithF.s10 (F : WithF W at_ bs b va vb p d x9 x10 x11 x12 x13 x14 x15 x16 x17 x18 x19 x20 x21 w) (hd7 : d 7 = true) (hx : w.ownsRow W.heap.size 4 1 x17 bs.length (bs.map Value.bool)) {v : Value} (hn : w'.ownsRow W.heap.size 4 1 v (bs.length + 1) (bs.map Value.bool ++ [.bool b])) (hg : w.grownBy w' x17.ownBlock) (h11 : d 11 = false) (h12 : d 13 = false) :
    WithF W at_ bs b va vb p (upd d 10) x9 x10 x11 x12 x13 x14 x15 x16 x17 x18 x19 v x21 w' := by
  refine ⟨F.same.grown hg F.same.size (below_row hx), fun _ => hd7, fun h => (by have h' : d 11 = true := h; rw [h11] at h'; cases h'), F.o13, fun h1 h2 => ?_, F.f1, F.f2, fun h => ?_, fun _ h => ?_, F.f5, F.f6, fun _ h => by simp [upd] at h, F.f8, fun _ h => by simp [upd] at h, fun _ => hn, fun h => ?_, fun h => ?_⟩
  · exact (F.f0 h1 h2).kept hg (own_apart (F.f0 h1 h2) hx (by decide))
  · exact (F.f3 h).kept hg (own_apart (F.f3 h) hx (by decide))
  · have h' : d 7 = false := h
    rw [hd7] at h'; cases h'
  · have h' : d 11 = true := h
    rw [h11] at h'; cases h'
  · obtain ⟨g, h3, h4, h5⟩ := F.f12 h
    refine ⟨g, h3, (hg.block g (heap_lt h4) (own_block_ne hx h4 (by decide))).trans (h4.trans ?_), h5⟩
    have e : upd d 10 13 = false := h12
    rw [e, h12]
    rfl
theorem WithF.s11 (F : WithF W at_ bs b va vb p d x9 x10 x11 x12 x13 x14 x15 x16 x17 x18 x19 x20 x21 w) (h3 : d 3 = true) (h10 : d 10 = true) :
    WithF W at_ bs b va vb p (upd d 11) x9 x10 x11 x12 x13 x14 x15 x16 x17 x18 x19 x20 (.agg #[x13, x20]) w :=
  ⟨F.same, F.o10, fun _ => ⟨h3, h10⟩, fun h => ⟨(F.o13 h).1, rfl⟩, F.f0, F.f1, F.f2, F.f3, F.f4, F.f5, F.f6, F.f7, F.f8, F.f9, F.f10, fun _ => rfl, F.f12⟩
theorem WithF.s12 (F : WithF W at_ bs b va vb p d x9 x10 x11 x12 x13 x14 x15 x16 x17 x18 x19 x20 x21 w) (h13 : d 13 = false) :
    WithF W at_ bs b va vb p (upd d 12) (.pointer (some ⟨w.heap.size, 0, none⟩)) x10 x11 x12 x13 x14 x15 x16 x17 x18 x19 x20 x21 (w.alloc (.cells #[.slice none 0 0, .slice none 0 0] 56)) := by
  have G := F.alloc (.cells #[.slice none 0 0, .slice none 0 0] 56)
  refine ⟨G.same, G.o10, G.o11, fun h => ⟨rfl, (G.o13 h).2⟩, G.f0, G.f1, G.f2, G.f3, G.f4, G.f5, G.f6, G.f7, G.f8, G.f9, G.f10, G.f11, fun _ => ⟨w.heap.size, rfl, ?_, F.same.size⟩⟩
  have e : upd d 12 13 = false := h13
  rw [e]
  exact World.alloc_heap_new w _
theorem WithF.not11 (F : WithF W at_ bs b va vb p d x9 x10 x11 x12 x13 x14 x15 x16 x17 x18 x19 x20 x21 w) (h : d 3 = false ∨ d 10 = false) : d 11 = false ∧ d 13 = false := by
  have h11 : d 11 = false := by
    cases e : d 11 with
    | false => rfl
    | true => have := F.o11 e; rcases h with h | h <;> simp_all
  refine ⟨h11, ?_⟩
  cases e : d 13 with
  | false => rfl
  | true => have := F.o13 e; simp_all
theorem WithF.s13 (F : WithF W at_ bs b va vb p d (.pointer (some ⟨g, 0, none⟩)) x10 x11 x12 x13 x14 x15 x16 x17 x18 x19 x20 x21 w) (h12 : d 12 = true) (h11 : d 11 = true) (hg : w.heap[g]? = some (.cells #[.slice none 0 0, .slice none 0 0] 56 (0, 0))) (hW : W.heap.size ≤ g)
    (hd : ∀ k, k < 13 → d k = true) : WithF W at_ bs b va vb p (upd d 13) (.pointer (some ⟨g, 0, none⟩)) x10 x11 x12 x13 x14 x15 x16 x17 x18 x19 x20 x21 ((w.setCell ⟨g, 0, none⟩ x13).setCell ⟨g, 1, none⟩ x20) := by
  have h1 : w.grownBy ((w.setCell ⟨g, 0, none⟩ x13).setCell ⟨g, 1, none⟩ x20) (some g) := ⟨rfl, rfl, rfl, by simp [World.setCell], fun k hk hne => by
    rw [Below.heap_setCell _ _ _ _ (fun e => hne (by rw [e])), Below.heap_setCell _ _ _ _ (fun e => hne (by rw [e]))]⟩
  have a3 := F.f3 (hd 3 (by decide))
  have a10 := F.f10 (hd 10 (by decide))
  have n3 := own_block_ne a3 hg (by decide)
  have n10 := own_block_ne a10 hg (by decide)
  refine ⟨(F.same.setCell hW _).setCell hW _, F.o10, F.o11, fun _ => ⟨h12, h11⟩, fun _ h => ?_, F.f1, F.f2, fun _ => a3.kept h1 (.inr (Ne.symm n3)), fun _ h => ?_, F.f5, F.f6, fun _ h => ?_, F.f8, fun _ h => ?_, fun _ => a10.kept h1 (.inr (Ne.symm n10)), F.f11, fun _ => ⟨g, rfl, ?_, hW⟩⟩
  · have h' : d 3 = false := h
    rw [hd 3 (by decide)] at h'; cases h'
  · have h' : d 7 = false := h
    rw [hd 7 (by decide)] at h'; cases h'
  · have h' : d 10 = false := h
    rw [hd 10 (by decide)] at h'; cases h'
  · have h' : d 10 = false := h
    rw [hd 10 (by decide)] at h'; cases h'
  · rw [heap_setCell_at (heap_setCell_at hg _) _]
    simp [upd]
end
theorem res_c56 {fn : Func} {p : Tmp} (h : fn.results = #[.cell p 56]) (tmps : Array Value) {w : World} {b : Nat} {u v : Value} (hp : tmps.getD p undef = .pointer (some ⟨b, 0, none⟩))
    (h0 : w.cell? ⟨b, 0, none⟩ = some u) (h1 : w.cell? ⟨b, 1, none⟩ = some v) : (results fn tmps).run Try.prog w = .ok (.agg #[u, v]) w := by
  have hp' : tmps[p]?.getD undef = .pointer (some ⟨b, 0, none⟩) := by simpa using hp
  simp [results, h, hp', h0, h1, go_sem]
theorem own_base {w : World} {B B' : Nat} {e : TypeId} {s n : Nat} {v : Value} {xs : List Value} (h : w.ownsRow B e s v n xs) (hB : B' ≤ B) : w.ownsRow B' e s v n xs := by
  refine ⟨h.1, ?_⟩
  rcases h.2 with h2 | ⟨g, cap, cur, hv, hg, r⟩
  · exact .inl h2
  · exact .inr ⟨g, cap, cur, hv, Nat.le_trans hB hg, r⟩
theorem map_set_int (l : List Int) (j : Nat) (v : Int) : (l.map (Value.int .i64)).set j (.int .i64 v) = (l.set j v).map (Value.int .i64) := by rw [List.map_set]
theorem one_ints (l : List Int) : ∀ u ∈ l.map (Value.int .i64), u.oneCell' = true := by
  intro u hu
  obtain ⟨x, _, rfl⟩ := List.mem_map.1 hu
  rfl
theorem one_bools (l : List Bool) : ∀ u ∈ l.map Value.bool, u.oneCell' = true := by
  intro u hu
  obtain ⟨x, _, rfl⟩ := List.mem_map.1 hu
  rfl
theorem below_in {w W w1 : World} {o o' : Obj} (h : W = (w.alloc o).alloc o') (hb : Below W.heap.size W w1) : Below w.heap.size w w1 := by
  subst h
  exact (((Below.refl _ w).alloc (Nat.le_refl _) _).alloc (by simp) _).trans (hb.mono (by simp; omega))
theorem cell_in {w W w1 : World} {c : Array Value} {t : TypeId} {o' : Obj} (h : W = (w.alloc (.cells c t)).alloc o') (hb : Below W.heap.size W w1) (k : Nat) : w1.cell? ⟨w.heap.size, k, none⟩ = c[k]? := by
  have h1 := heap_alloc2_0 w (.cells c t) o'
  rw [← h] at h1
  have := (hb.block w.heap.size (by rw [h]; simp; omega)).trans h1
  exact cell_of_heap this
/-- What 'with' comes to. -/
def WithPost (w : World) (x : List Int × List Bool) (k v : Int) (b : Bool) (e : Ending) (w' : World) : Prop :=
  ∃ va vb, e = .returned (.agg #[va, vb]) ∧ w'.ownsRow w.heap.size 3 1 va x.1.length ((if k = -1 then x.1 else x.1.set k.toNat v).map (Value.int .i64)) ∧
    w'.ownsRow w.heap.size 4 1 vb (x.2.length + 1) ((x.2 ++ [b]).map Value.bool) ∧ Below w.heap.size w w'
set_option maxRecDepth 100000 in
set_option maxHeartbeats 2000000 in
theorem with_any {w : World} {x : List Int × List Bool} {aa ab : Option Addr} {ca cb : Nat} (hi : IsInts w aa x.1) (hb : IsBools w ab x.2) (hl : x.1.length ≤ 5) (hm : x.2.length ≤ 100) (k : Int) (v : Int) (b : Bool) (hk : k = -1 ∨ (0 ≤ k ∧ k < x.1.length)) :
    Calls Try.prog 88 #[.agg #[.slice aa x.1.length ca, .slice ab x.2.length cb], .int .i64 k, .int .i64 v, .bool b] w (WithPost w x k v b) := by
  obtain ⟨i0, hi0, hz0, hz1, hz2⟩ := info_parts infoI
  obtain ⟨j0, hj0, hy0, hy1, hy2⟩ := info_parts infoB
  go_enter Try.func88, Try.ntmps88
  go_wp2
  obtain ⟨W, hW⟩ : ∃ W : World, W = ((w.alloc (.cells #[.slice aa x.1.length ca, .slice ab x.2.length cb] 56)).alloc (.cells #[.slice none 0 0, .slice none 0 0] 56)) := ⟨_, rfl⟩
  rw [← hW]
  have HW := Lib.hid hW
  clear hW
  refine wp_region_inv mixed (by kernel_rfl) (WithI W x.1 x.2 b (.slice aa x.1.length ca) (.slice ab x.2.length cb) (.agg #[.slice aa x.1.length ca, .slice ab x.2.length cb]) (.int .i64 k) (.int .i64 v) (.pointer (some ⟨w.heap.size + 1, 0, none⟩)) (.pointer (some ⟨w.heap.size, 0, none⟩))) ?_ ?_ ?_
  · exact ⟨undef, undef, undef, undef, undef, undef, undef, undef, undef, undef, undef, undef, undef, rfl, by constructor <;> first | exact (Below.refl _ W).drew | (intro h; cases h)⟩
  · refine ⟨?_, ?_, ?_, ?_, ?_, ?_, ?_, ?_, ?_, ?_, ?_, ?_, ?_, ?_, trivial⟩
    all_goals
      rintro d a w1 K hd hdep ⟨x9, x10, x11, x12, x13, x14, x15, x16, x17, x18, x19, x20, x21, rfl, F⟩ HK
      simp [Region.binds] at hdep
    · go_simp
      exact HK.out _ _ ⟨_, _, _, _, _, _, _, _, _, _, _, _, _, rfl, F.s0⟩
    · go_simp
      exact HK.out _ _ ⟨_, _, _, _, _, _, _, _, _, _, _, _, _, rfl, F.s1⟩
    · obtain ⟨g, h1, rfl⟩ := F.f1 hdep
      cases h1
      have hc : w1.cell? ⟨w.heap.size, 0, none⟩ = some (.slice aa x.1.length ca) := cell_in HW.out F.same 0
      go_simp
      exact HK.out _ _ ⟨_, _, _, _, _, _, _, _, _, _, _, _, _, rfl, F.s2⟩
    · obtain rfl := F.f2 hdep.2
      have own := F.f0 hdep.1 hd
      obtain ⟨n1, n2⟩ := F.not11 (.inl hd)
      obtain ⟨v', w', hr, hn, hg, _⟩ := append_rows_at (P := Try.prog) W.heap.size 22 22 3 i0 _ 1 8 Try.underlying22 hi0 hz0 hz1 hz2 rfl (by decide) _ _ _ own aa x.1.length ca (x.1.map (Value.int .i64))
        (by simp) (ints_of_news (hi.mono (below_in HW.out F.same))) (one_ints _) (by simp [maxLen]; omega) (by omega) F.same.size
      refine wp_append_run (.tmp 10) (.tmp 12) 22 rfl _ _ _ _ rfl rfl hr ?_
      exact HK.out _ _ ⟨_, _, _, _, _, _, _, _, _, _, _, _, _, rfl, F.s3 own (by simpa using hn) hg n1 n2⟩
    · go_simp
      exact HK.out _ _ ⟨_, _, _, _, _, _, _, _, _, _, _, _, _, rfl, F.s4⟩
    · go_simp
      exact HK.out _ _ ⟨_, _, _, _, _, _, _, _, _, _, _, _, _, rfl, F.s5⟩
    · obtain ⟨g, h1, rfl⟩ := F.f5 hdep
      cases h1
      have hc : w1.cell? ⟨w.heap.size, 1, none⟩ = some (.slice ab x.2.length cb) := cell_in HW.out F.same 1
      go_simp
      exact HK.out _ _ ⟨_, _, _, _, _, _, _, _, _, _, _, _, _, rfl, F.s6⟩
    · obtain rfl := F.f6 hdep.2.1
      have own := F.f4 hdep.1 hd
      obtain ⟨v', w', hr, hn, hg, hv⟩ := append_rows_at (P := Try.prog) W.heap.size 54 54 4 j0 _ 1 1 Try.underlying54 hj0 hy0 hy1 hy2 rfl (by decide) _ _ _ own ab x.2.length cb (x.2.map Value.bool)
        (by simp) (bools_of_news (hb.mono (below_in HW.out F.same))) (one_bools _) (by simp [maxLen]; omega) (by omega) F.same.size
      refine wp_append_run (.tmp 14) (.tmp 16) 54 rfl _ _ _ _ rfl rfl hr ?_
      exact HK.out _ _ ⟨_, _, _, _, _, _, _, _, _, _, _, _, _, rfl, F.s7 hd hdep.1 own (by simpa using hn) hg hv⟩
    · go_simp
      exact HK.out _ _ ⟨_, _, _, _, _, _, _, _, _, _, _, _, _, rfl, F.s8⟩
    · obtain rfl := F.f8 hdep
      go_simp
      exact HK.out _ _ ⟨_, _, _, _, _, _, _, _, _, _, _, _, _, rfl, F.s9⟩
    · obtain ⟨g, rfl, hg9, _⟩ := F.f9 hdep.2.1 hd
      have own := F.f7 hdep.1 hd
      obtain ⟨n1, n2⟩ := F.not11 (.inr hd)
      obtain ⟨v', w', hr, hn, hg, _⟩ := append_rows_at (P := Try.prog) W.heap.size 54 54 4 j0 _ 1 1 Try.underlying54 hj0 hy0 hy1 hy2 rfl (by decide) _ _ _ own (some ⟨g, 0, none⟩) 1 1 [.bool b]
        rfl (fun _ => ⟨_, rfl, fun j u hj => by
          cases j with
          | zero =>
            simp only [List.getElem?_cons_zero, Option.some.injEq] at hj
            subst hj
            show w1.cell? ⟨g, 0, none⟩ = _
            rw [cell_of_heap hg9]; rfl
          | succ j => simp at hj⟩) (by simp; rfl) (by simp [maxLen]; omega) (by omega) F.same.size
      refine wp_append_run (.tmp 17) (.tmp 19) 54 rfl _ _ _ _ rfl rfl hr ?_
      exact HK.out _ _ ⟨_, _, _, _, _, _, _, _, _, _, _, _, _, rfl, F.s10 hdep.1 own hn hg n1 n2⟩
    · obtain ⟨a3, c3, e3, _⟩ := own_slice (F.f3 hdep.1)
      obtain ⟨a10, c10, e10, _⟩ := own_slice (F.f10 hdep.2)
      have S := F.s11 hdep.1 hdep.2
      subst e3 e10
      have HS := Lib.hid S
      clear S F
      go_simp
      exact HK.out _ _ ⟨_, _, _, _, _, _, _, _, _, _, _, _, _, rfl, HS.out⟩
    · have h13 : d 13 = false := by
        cases e : d 13 with
        | false => rfl
        | true => have := (F.o13 e).1; rw [hd] at this; cases this
      go_simp
      exact HK.out _ _ ⟨_, _, _, _, _, _, _, _, _, _, _, _, _, rfl, F.s12 h13⟩
    · have hall : ∀ k, k < 13 → d k = true := fun k hk => by
        have : k = 0 ∨ k = 1 ∨ k = 2 ∨ k = 3 ∨ k = 4 ∨ k = 5 ∨ k = 6 ∨ k = 7 ∨ k = 8 ∨ k = 9 ∨ k = 10 ∨ k = 11 ∨ k = 12 := by omega
        rcases this with rfl | rfl | rfl | rfl | rfl | rfl | rfl | rfl | rfl | rfl | rfl | rfl | rfl <;> simp [hdep]
      obtain ⟨g, rfl, hgh, hWg⟩ := F.f12 (hall 12 (by decide))
      obtain rfl := F.f11 (hall 11 (by decide))
      rw [hd] at hgh
      have hgh' : w1.heap[g]? = some (.cells #[.slice none 0 0, .slice none 0 0] 56 (0, 0)) := hgh
      have c0 : w1.cell? ⟨g, 0, none⟩ = some (.slice none 0 0) := by rw [cell_of_heap hgh']; rfl
      have c1 : w1.cell? ⟨g, 1, none⟩ = some (.slice none 0 0) := by rw [cell_of_heap hgh']; rfl
      have fr0 : w1.frozen? ⟨g, 0, none⟩ = false := frozen_of_heap hgh'
      have fr1 : w1.frozen? ⟨g, 1, none⟩ = false := frozen_of_heap hgh'
      have S := F.s13 (hall 12 (by decide)) (hall 11 (by decide)) hgh' hWg hall
      obtain ⟨a3, k3, e3, _⟩ := own_slice (F.f3 (hall 3 (by decide)))
      obtain ⟨a10, k10, e10, _⟩ := own_slice (F.f10 (hall 10 (by decide)))
      subst e3 e10
      have HS := Lib.hid S
      clear S hgh hgh' hall hdep F
      go_simp
      exact HK.out _ _ ⟨_, _, _, _, _, _, _, _, _, _, _, _, _, rfl, HS.out⟩
  · rintro d a w1 hall ⟨x9, x10, x11, x12, x13, x14, x15, x16, x17, x18, x19, x20, x21, rfl, F⟩
    have hall' : ∀ k, k < 14 → d k = true := hall
    obtain ⟨g, rfl, hg, hWg⟩ := F.f12 (hall' 12 (by decide))
    rw [hall' 13 (by decide)] at hg
    have hgh : w1.heap[g]? = some (.cells #[x13, x20] 56 (0, 0)) := hg
    have o3 := F.f3 (hall' 3 (by decide))
    have o10 := F.f10 (hall' 10 (by decide))
    have hsame := F.same
    obtain ⟨a3, k3, rfl, _⟩ := own_slice o3
    obtain ⟨a10, k10, rfl, _⟩ := own_slice o10
    clear F hall hall' hg
    have hWz : W.heap.size = w.heap.size + 2 := by rw [HW.out]; simp
    have h8 : w1.heap[w.heap.size + 1]? = some (.cells #[.slice none 0 0, .slice none 0 0] 56 (0, 0)) := (hsame.block _ (by omega)).trans (by
      rw [HW.out]
      have := World.alloc_heap_new (w.alloc (.cells #[.slice aa x.1.length ca, .slice ab x.2.length cb] 56)) (.cells #[.slice none 0 0, .slice none 0 0] 56)
      rwa [World.size_alloc] at this)
    have hb0 : Below w.heap.size w w1 := below_in HW.out hsame
    have o10' : w1.ownsRow W.heap.size 4 1 (Value.slice a10 (x.2.length + 1) k10) (x.2.length + 1) ((x.2 ++ [b]).map Value.bool) := by simpa using o10
    have hlt8 : w.heap.size + 1 < w1.heap.size := heap_lt h8
    have HWz := Lib.hid hWz
    have HG := Lib.hid hWg
    have hne : g ≠ w.heap.size + 1 := by omega
    have p0 : w1.cell? ⟨w.heap.size + 1, 0, none⟩ = some (.slice none 0 0) := by rw [cell_of_heap h8]; rfl
    have p1 : w1.cell? ⟨w.heap.size + 1, 1, none⟩ = some (.slice none 0 0) := by rw [cell_of_heap h8]; rfl
    have q0 : w1.cell? ⟨g, 0, none⟩ = some (Value.slice a3 x.1.length k3) := by rw [cell_of_heap hgh]; rfl
    have q1 : w1.cell? ⟨g, 1, none⟩ = some (Value.slice a10 (x.2.length + 1) k10) := by rw [cell_of_heap hgh]; rfl
    have r0 : ∀ k, w1.frozen? ⟨w.heap.size + 1, k, none⟩ = false := fun k => frozen_of_heap h8
    have HO3 := Lib.hid o3
    have HO10 := Lib.hid o10'
    have HB0 := Lib.hid hb0
    have HH8 := Lib.hid h8
    have HGH := Lib.hid hgh
    clear hWz hWg o3 o10 o10' hb0 hsame h8 hgh hi hb hi0 hz0 hz1 hz2 hj0 hy0 hy1 hy2
    by_cases hk1 : k = -1
    · subst hk1
      clear hk
      go_wp2
      refine bodyPost_ret (res_c56 (b := w.heap.size + 1) (u := .slice a3 x.1.length k3) (v := .slice a10 (x.2.length + 1) k10) rfl _ rfl ?_ ?_) rfl ⟨_, _, rfl, ?_, ?_, ?_⟩
      · go_simp
      · go_simp
      · rw [if_pos rfl]
        have := HWz.out
        exact own_base (ownsRow_setCell_below (ownsRow_setCell_below HO3.out (a := ⟨w.heap.size + 1, 0, none⟩) (by simp only []; omega) _) (a := ⟨w.heap.size + 1, 1, none⟩) (by simp only []; omega) _) (by omega)
      · have := HWz.out
        exact own_base (ownsRow_setCell_below (ownsRow_setCell_below HO10.out (a := ⟨w.heap.size + 1, 0, none⟩) (by simp only []; omega) _) (a := ⟨w.heap.size + 1, 1, none⟩) (by simp only []; omega) _) (by omega)
      · exact (HB0.out.setCell (p := ⟨w.heap.size + 1, 0, none⟩) (by simp only []; omega) _).setCell (p := ⟨w.heap.size + 1, 1, none⟩) (by simp only []; omega) _
    · obtain ⟨j, rfl⟩ : ∃ j : Nat, k = j := ⟨k.toNat, by omega⟩
      have hj : j < x.1.length := by omega
      have hkb : ((j : Int) == -1) = false := by simp
      have HK1 := Lib.hid hk1
      clear hk hk1
      obtain ⟨g3, cap3, e3, b3, lt3, n3, _, hcells⟩ := own_cell HO3.out (by omega)
      simp only [Value.slice.injEq, true_and] at e3
      obtain ⟨rfl, rfl⟩ := e3
      have hst := HO3.out.stored j (.int .i64 v)
      have hcj : w1.cell? ⟨g3, j, none⟩ = some (.int .i64 (gi x.1 j)) := hcells j _ (by simp [gi, hj])
      have hfj : w1.frozen? ⟨g3, j, none⟩ = false := HO3.out.frozenAt j
      have hne3 : g3 ≠ g := fun e => own_block_ne HO3.out HGH.out (by decide) (by rw [e]; rfl)
      have hne38 : g3 ≠ w.heap.size + 1 := by have := HWz.out; omega
      have HST := Lib.hid hst
      have H3 := Lib.hid b3
      clear hst hcells n3 b3 lt3
      go_wp2
      refine bodyPost_ret (res_c56 (b := w.heap.size + 1) (u := .slice (some ⟨g3, 0, none⟩) x.1.length k3) (v := .slice a10 (x.2.length + 1) k10) rfl _ rfl ?_ ?_) rfl ⟨_, _, rfl, ?_, ?_, ?_⟩
      · go_simp
      · go_simp
      · rw [if_neg HK1.out, Int.toNat_natCast, ← map_set_int]
        have := HWz.out
        exact own_base (ownsRow_setCell_below (ownsRow_setCell_below HST.out.1 (a := ⟨w.heap.size + 1, 0, none⟩) (by simp only []; omega) _) (a := ⟨w.heap.size + 1, 1, none⟩) (by simp only []; omega) _) (by omega)
      · have := HWz.out
        have o := HO10.out.kept HST.out.2 (own_apart HO10.out HO3.out (by decide))
        exact own_base (ownsRow_setCell_below (ownsRow_setCell_below o (a := ⟨w.heap.size + 1, 0, none⟩) (by simp only []; omega) _) (a := ⟨w.heap.size + 1, 1, none⟩) (by simp only []; omega) _) (by omega)
      · have := HWz.out
        have := H3.out
        exact ((HB0.out.setCell (p := ⟨g3, j, none⟩) (by simp only []; omega) _).setCell (p := ⟨w.heap.size + 1, 0, none⟩) (by simp only []; omega) _).setCell (p := ⟨w.heap.size + 1, 1, none⟩) (by simp only []; omega) _
end Go.Proofs.Ytlhobddaojdnoaa

namespace Go.Proofs.Ytlhobddaojdnoaa
open Go.RowKit

set_option maxHeartbeats 400000 in
theorem power_any (n : Nat) (hn : n ≤ 20) (w : World) : Calls Try.prog 85 #[.int .i64 n] w fun e w' => e = .returned (.int .i64 ((2 ^ n : Nat) : Int)) ∧ w = w' := by
  go_enter Try.func85, Try.ntmps85
  go_wp2
  go_loop [3, 4] (fun o i => ∃ (k : Nat) (z : Nat), k ≤ n ∧ i = .int .i64 k ∧ o = .int .i64 z ∧ Hid (z = 2 ^ k) ∧ z ≤ 1048576) (fun _ i => n - (intOf i).toNat)
  case atStart => exact ⟨0, 1, by omega, rfl, rfl, rfl, by omega⟩
  case round =>
    obtain ⟨k, z, hk, rfl, rfl, HZ, hz⟩ := hrel
    by_cases hlt : k < n
    · go_wp2
      go_round
      case rel =>
        refine ⟨k + 1, 2 * z, by omega, by go_num, by go_num, ?_, ?_⟩
        · have := HZ.out
          unfold Hid
          rw [this, Nat.pow_succ]; omega
        · have h1 := HZ.out
          have h2 : 2 ^ (k + 1) ≤ 2 ^ 20 := Nat.pow_le_pow_right (by decide) (by omega)
          rw [Nat.pow_succ] at h2
          omega
      case measure => simp [intOf]; omega
    · obtain rfl : k = n := by omega
      go_wp2
      go_ret
      exact ⟨ret_int (by rw [HZ.out]; first | rfl | simp), rfl⟩
theorem set_with (s k : Nat) : (if s / 2 ^ k % 2 = 1 then s else s + 2 ^ k) = s ||| 2 ^ k := by
  have hb : s.testBit k = decide (s / 2 ^ k % 2 = 1) := Nat.testBit_eq_decide_div_mod_eq
  by_cases h : s / 2 ^ k % 2 = 1
  · rw [if_pos h]
    apply Nat.eq_of_testBit_eq
    intro i
    rw [Nat.testBit_or, Nat.testBit_two_pow]
    by_cases hi : k = i
    · subst hi; rw [hb]; simp [h]
    · simp [hi]
  · rw [if_neg h]
    have h0 : s / 2 ^ k % 2 = 0 := by omega
    apply Nat.eq_of_testBit_eq
    intro i
    rw [Nat.testBit_or, Nat.testBit_two_pow, Nat.testBit_eq_decide_div_mod_eq, Nat.testBit_eq_decide_div_mod_eq]
    have e1 : s = 2 ^ k * (s / 2 ^ k) + s % 2 ^ k := (Nat.div_add_mod s (2 ^ k)).symm
    have hr : s % 2 ^ k < 2 ^ k := Nat.mod_lt _ (Nat.pos_of_ne_zero (by simp))
    by_cases hi : k = i
    · subst hi
      have : (s + 2 ^ k) / 2 ^ k = s / 2 ^ k + 1 := by
        rw [Nat.add_div_right _ (Nat.pos_of_ne_zero (by simp))]
      rw [this]
      simp only [decide_true, Bool.or_true, decide_eq_true_eq]
      omega
    · simp only [hi, decide_false, Bool.or_false]
      congr 1
      rcases Nat.lt_or_gt_of_ne hi with hlt | hgt
      · obtain ⟨d, rfl⟩ : ∃ d, i = k + 1 + d := ⟨i - k - 1, by omega⟩
        have p : 2 ^ (k + 1 + d) = 2 ^ k * 2 * 2 ^ d := by rw [Nat.pow_add, Nat.pow_succ]
        rw [p, ← Nat.div_div_eq_div_mul, ← Nat.div_div_eq_div_mul, ← Nat.div_div_eq_div_mul, ← Nat.div_div_eq_div_mul, Nat.add_div_right _ (Nat.pos_of_ne_zero (by simp))]
        have : (s / 2 ^ k + 1) / 2 = s / 2 ^ k / 2 := by omega
        rw [this]
      · obtain ⟨d, rfl⟩ : ∃ d, k = i + 1 + d := ⟨k - i - 1, by omega⟩
        have p : 2 ^ (i + 1 + d) = 2 ^ i * (2 * 2 ^ d) := by rw [Nat.pow_add, Nat.pow_succ, Nat.mul_assoc]
        rw [p, Nat.add_mul_div_left _ _ (Nat.pos_of_ne_zero (by simp))]
        have : (s / 2 ^ i + 2 * 2 ^ d) % 2 = s / 2 ^ i % 2 := by omega
        rw [this]
/-- 'with': a set with a number. -/
theorem setWith_any (s k : Nat) (hs : s ≤ 1048576) (hk : k ≤ 20) (w : World) : Calls Try.prog 57 #[.int .i64 s, .int .i64 k] w fun e w' => e = .returned (.int .i64 ((s ||| 2 ^ k : Nat) : Int)) ∧ w = w' := by
  have hw := set_with s k
  obtain ⟨z, hz⟩ : ∃ z : Nat, 2 ^ k = z := ⟨_, rfl⟩
  have hp := fun w' => power_any k hk w'
  have hz0 : 0 < z := by rw [← hz]; exact Nat.pos_of_ne_zero (by simp)
  have hz1 : z ≤ 1048576 := by rw [← hz]; exact Nat.pow_le_pow_right (n := 2) (by decide) hk
  rw [hz] at hw hp
  rw [hz]
  have hd : ((s : Int) / (z : Int)) = ((s / z : Nat) : Int) := by simp
  obtain ⟨q, hq⟩ : ∃ q : Nat, s / z = q := ⟨_, rfl⟩
  rw [hq] at hw hd
  have HQ := Lib.hid hq
  have HP := Lib.hid hp
  have HZ := Lib.hid hz
  have hq1 : q ≤ 1048576 := by rw [← hq]; exact Nat.le_trans (Nat.div_le_self _ _) hs
  clear hq hp hz
  by_cases h : q % 2 = 1
  · rw [if_pos h] at hw
    have HW := Lib.hid hw
    have hb : ((q : Int) % 2 == 1) = true := by simp; omega
    clear hw h
    go_enter Try.func57, Try.ntmps57
    go_wp2_with (go_at_call 85; refine (HP.out _).mono ?_; rintro e w' ⟨rfl, rfl⟩)
    go_ret
    exact ⟨ret_int (by rw [← HW.out]), rfl⟩
  · rw [if_neg h] at hw
    have HW := Lib.hid hw
    have hb : ((q : Int) % 2 == 1) = false := by simp; omega
    clear hw h
    go_enter Try.func57, Try.ntmps57
    go_wp2_with (go_at_call 85; refine (HP.out _).mono ?_; rintro e w' ⟨rfl, rfl⟩)
    go_ret
    exact ⟨ret_int (by rw [← HW.out]; simp), rfl⟩

/-- A truth that lies in memory: two slices. -/
structure IsTruth (w : World) (x : List Int × List Bool) (u v : Value) : Prop where
  at_ : ∃ a cap, u = .slice a x.1.length cap ∧ IsInts w a x.1
  wr : ∃ a cap, v = .slice a x.2.length cap ∧ IsBools w a x.2
theorem IsTruth.mono {w w' : World} {x : List Int × List Bool} {u v : Value} (h : IsTruth w x u v) (hb : Below w.heap.size w w') : IsTruth w' x u v := by
  obtain ⟨a, cap, h1, h2⟩ := h.at_
  obtain ⟨a', cap', h3, h4⟩ := h.wr
  exact ⟨⟨a, cap, h1, h2.mono hb⟩, ⟨a', cap', h3, h4.mono hb⟩⟩
set_option maxHeartbeats 400000 in
theorem rlies_any {x : List Int × List Bool} {u v : Value} {w : World} (h : IsTruth w x u v) (hl : x.1.length ≤ 5) (slot : Int) :
    Calls Try.prog 41 #[.agg #[u, v], .int .i64 slot] w fun e w' => e = .returned (.int .i64 (lies x.1 slot)) ∧ Below w.heap.size w w' := by
  obtain ⟨a, cap, rfl, hi⟩ := h.at_
  obtain ⟨a', cap', rfl, _⟩ := h.wr
  clear h
  have hb : Below w.heap.size w (w.alloc (.cells #[.slice a x.1.length cap, .slice a' x.2.length cap'] 56)) := (Below.refl _ w).alloc (Nat.le_refl _) _
  have hi' := Lib.hid (hi.mono hb)
  have HB := Lib.hid hb
  clear hi hb
  go_enter Try.func41, Try.ntmps41
  go_wp2
  go_loop [5] (fun i => ∃ k : Nat, k ≤ x.1.length ∧ i = .int .i64 k ∧ Hid (lies x.1 slot = liesFrom (x.1.drop k) slot k)) (fun i => x.1.length - (intOf i).toNat)
  case atStart => exact ⟨0, by omega, rfl, rfl⟩
  case round =>
    obtain ⟨k, hk, rfl, HL⟩ := hrel
    by_cases hlt : k < x.1.length
    · obtain ⟨b, off, hah, hcell⟩ := hi'.out k hlt
      subst hah
      by_cases he : gi x.1 k = slot
      · have hbt : (gi x.1 k == slot) = true := by simpa using he
        have HE := Lib.hid he
        clear he
        go_wp2
        go_ret
        exact ⟨ret_int (by rw [HL.out, liesFrom_hit hlt HE.out]), HB.out⟩
      · have hbt : (gi x.1 k == slot) = false := by simpa using he
        have HE := Lib.hid he
        clear he
        go_wp2
        go_round
        case rel => exact ⟨k + 1, by omega, by go_num, by rw [Hid, HL.out, liesFrom_miss hlt HE.out]⟩
        case measure => simp [intOf]; omega
    · go_wp2
      go_ret
      exact ⟨ret_int (by rw [HL.out, List.drop_of_length_le (by omega)]; rfl), HB.out⟩
theorem wrongs_take {bs : List Bool} {k : Nat} (hk : k < bs.length) : wrongs (bs.take (k + 1)) = wrongs (bs.take k) + if gb bs k then 1 else 0 := by
  rw [List.take_succ_eq_append_getElem hk, wrongs_snoc]
  have : gb bs k = bs[k] := by simp [gb, hk]
  rw [this]
theorem wrongs_take_le (bs : List Bool) (k : Nat) : wrongs (bs.take k) ≤ bs.length := Nat.le_trans (wrongs_le _) (by rw [List.length_take]; omega)
set_option maxHeartbeats 400000 in
theorem rwrongs_any {x : List Int × List Bool} {u v : Value} {w : World} (h : IsTruth w x u v) (hl : x.2.length ≤ 100) :
    Calls Try.prog 87 #[.agg #[u, v]] w fun e w' => e = .returned (.int .i64 (wrongs x.2)) ∧ Below w.heap.size w w' := by
  obtain ⟨a, cap, rfl, _⟩ := h.at_
  obtain ⟨a', cap', rfl, hi⟩ := h.wr
  clear h
  have hb : Below w.heap.size w (w.alloc (.cells #[.slice a x.1.length cap, .slice a' x.2.length cap'] 56)) := (Below.refl _ w).alloc (Nat.le_refl _) _
  have hi' := Lib.hid (hi.mono hb)
  have HB := Lib.hid hb
  clear hi hb
  go_enter Try.func87, Try.ntmps87
  go_wp2
  go_loop [3, 4] (fun n i => ∃ (k z : Nat), k ≤ x.2.length ∧ i = .int .i64 k ∧ n = .int .i64 z ∧ Hid (z = wrongs (x.2.take k)) ∧ z ≤ 100) (fun _ i => x.2.length - (intOf i).toNat)
  case atStart => exact ⟨0, 0, by omega, rfl, rfl, by simp [Hid, wrongs], by omega⟩
  case round =>
    obtain ⟨k, z, hk, rfl, rfl, HZ, hz⟩ := hrel
    by_cases hlt : k < x.2.length
    · obtain ⟨b, off, hah, hcell⟩ := hi'.out k hlt
      subst hah
      have HT := Lib.hid (wrongs_take hlt)
      have hz1 : wrongs (x.2.take (k + 1)) ≤ 100 := Nat.le_trans (wrongs_take_le _ _) hl
      cases he : gb x.2 k
      · rw [he] at hcell HT
        go_wp2
        go_round
        case rel => exact ⟨k + 1, z, by omega, by go_num, by go_num, by rw [Hid, HT.out, HZ.out]; simp, hz⟩
        case measure => simp [intOf]; omega
      · rw [he] at hcell HT
        go_wp2
        go_round
        case rel => exact ⟨k + 1, z + 1, by omega, by go_num, by go_num, by rw [Hid, HT.out, HZ.out]; simp, by have := HT.out; have := HZ.out; simp at *; omega⟩
        case measure => simp [intOf]; omega
    · obtain rfl : k = x.2.length := by omega
      go_wp2
      go_ret
      exact ⟨ret_int (by rw [HZ.out, List.take_length]), HB.out⟩
end Go.Proofs.Ytlhobddaojdnoaa

namespace Go.Proofs.Ytlhobddaojdnoaa
open Go.RowKit

/-- A truth of the call's own. -/
def OwnT (w : World) (B : Nat) (x : List Int × List Bool) (p : Value × Value) : Prop :=
  w.ownsRow B 3 1 p.1 x.1.length (x.1.map (Value.int .i64)) ∧ w.ownsRow B 4 1 p.2 x.2.length (x.2.map Value.bool)
theorem OwnT.kept {w w' : World} {B : Nat} {x : List Int × List Bool} {p : Value × Value} (h : OwnT w B x p) {B' n s : Nat} {v : Value} {xs : List Value} (ho : w.ownsRow B' 56 s v n xs) (hg : w.grownBy w' v.ownBlock) : OwnT w' B x p :=
  ⟨h.1.kept hg (own_apart h.1 ho (by decide)), h.2.kept hg (own_apart h.2 ho (by decide))⟩
theorem OwnT.below {w w' : World} {B : Nat} {x : List Int × List Bool} {p : Value × Value} (h : OwnT w B x p) (hb : Below w.heap.size w w') : OwnT w' B x p := ⟨own_below h.1 hb, own_below h.2 hb⟩
theorem own_ints {w : World} {B n : Nat} {v : Value} {l : List Int} (h : w.ownsRow B 3 1 v n (l.map (Value.int .i64))) (hn : n = l.length) : ∃ a cap, v = .slice a l.length cap ∧ IsInts w a l := by
  subst hn
  obtain ⟨a, cap, rfl, _⟩ := own_slice h
  refine ⟨a, cap, rfl, fun i hi => ?_⟩
  obtain ⟨g, cap', he, _, _, _, _, hc⟩ := own_cell h (by omega)
  simp only [Value.slice.injEq, true_and] at he
  obtain ⟨rfl, rfl⟩ := he
  refine ⟨g, 0, rfl, ?_⟩
  rw [Nat.zero_add]
  exact hc i _ (by simp [gi, hi])
theorem own_bools {w : World} {B n : Nat} {v : Value} {l : List Bool} (h : w.ownsRow B 4 1 v n (l.map Value.bool)) (hn : n = l.length) : ∃ a cap, v = .slice a l.length cap ∧ IsBools w a l := by
  subst hn
  obtain ⟨a, cap, rfl, _⟩ := own_slice h
  refine ⟨a, cap, rfl, fun i hi => ?_⟩
  obtain ⟨g, cap', he, _, _, _, _, hc⟩ := own_cell h (by omega)
  simp only [Value.slice.injEq, true_and] at he
  obtain ⟨rfl, rfl⟩ := he
  refine ⟨g, 0, rfl, ?_⟩
  rw [Nat.zero_add]
  exact hc i _ (by simp [gb, hi])
theorem OwnT.is {w : World} {B : Nat} {x : List Int × List Bool} {p : Value × Value} (h : OwnT w B x p) : IsTruth w x p.1 p.2 := ⟨own_ints h.1 rfl, own_bools h.2 rfl⟩

/-- A slice of the call's own that holds truths of the call's own. -/
def Outs (w : World) (B : Nat) (v : Value) (L : List (List Int × List Bool)) : Prop :=
  ∃ vs : List (Value × Value), vs.length = L.length ∧ w.ownsRow B 56 2 v L.length (vs.flatMap fun p => [p.1, p.2]) ∧ ∀ (i : Nat) (x : List Int × List Bool) (p : Value × Value), L[i]? = some x → vs[i]? = some p → OwnT w B x p
theorem Outs.nil (w : World) (B : Nat) : Outs w B (.slice none 0 0) [] := ⟨([] : List (Value × Value)), rfl, World.ownsRow_nil w B 56 2, fun i x p hx hp => by simp at hp⟩
theorem Outs.below {w w' : World} {B : Nat} {v : Value} {L : List (List Int × List Bool)} (h : Outs w B v L) (hb : Below w.heap.size w w') : Outs w' B v L := by
  obtain ⟨vs, h1, h2, h3⟩ := h
  exact ⟨vs, h1, own_below h2 hb, fun i x p hx hp => (h3 i x p hx hp).below hb⟩
theorem Outs.lt {w : World} {B : Nat} {v : Value} {L : List (List Int × List Bool)} (h : Outs w B v L) : ∀ k, v.ownBlock = some k → B ≤ k ∧ k < w.heap.size := by
  obtain ⟨vs, h1, h2, h3⟩ := h
  exact h2.lt
theorem Outs.slice {w : World} {B : Nat} {v : Value} {L : List (List Int × List Bool)} (h : Outs w B v L) : ∃ a cap, v = .slice a L.length cap ∧ L.length ≤ cap ∧ cap ≤ maxLen := by
  obtain ⟨vs, h1, h2, h3⟩ := h
  exact own_slice h2
/-- One truth more. -/
theorem Outs.push {w : World} {B : Nat} {v : Value} {L : List (List Int × List Bool)} (h : Outs w B v L) {x : List Int × List Bool} {p : Value × Value} (hp : OwnT w B x p) (hL : L.length ≤ 4000) (hB : B ≤ w.heap.size) (ty : TypeId) :
    ∃ v' w', (Builtin.append_ #[51, 51] ty #[v, .slice (some ⟨w.heap.size, 0, none⟩) 1 1]).run Try.prog (w.alloc (.cells #[p.1, p.2] 56)) = .ok v' w' ∧ Outs w' B v' (L ++ [x]) ∧ (w.alloc (.cells #[p.1, p.2] 56)).grownBy w' v.ownBlock ∧
      (v'.ownBlock = v.ownBlock ∨ v'.ownBlock = some (w.heap.size + 1)) := by
  obtain ⟨vs, h1, h2, h3⟩ := h
  obtain ⟨i0, hi0, hz0, hz1, hz2⟩ := info_parts infoT
  have hA := h2.alloc (.cells #[p.1, p.2] 56)
  obtain ⟨a1, c1, e1, _⟩ := own_slice hp.1
  obtain ⟨a2, c2, e2, _⟩ := own_slice hp.2
  obtain ⟨v', w', hr, hn, hg, hv⟩ := append_rows_at (P := Try.prog) B 51 ty 56 i0 _ 2 48 Try.underlying51 hi0 hz0 hz1 hz2 rfl (by decide) _ _ _ hA (some ⟨w.heap.size, 0, none⟩) 1 1 [p.1, p.2]
    rfl (fun _ => ⟨_, rfl, fun j u hj => by
      have hh := World.alloc_heap_new w (.cells #[p.1, p.2] 56)
      have e : ((⟨w.heap.size, 0, none⟩ : Addr).add j) = ⟨w.heap.size, j, none⟩ := by unfold Addr.add; split <;> simp_all
      rw [e, cell_of_heap hh]
      simpa using hj⟩) (fun u hu => by
      simp only [List.mem_cons, List.not_mem_nil, or_false] at hu
      rcases hu with rfl | rfl
      · rw [e1]; rfl
      · rw [e2]; rfl) (by simp [maxLen]; omega) (by omega) (by simp; omega)
  refine ⟨v', w', hr, ⟨vs ++ [p], by simp [h1], ?_, fun i y q hy hq => ?_⟩, hg, by simpa using hv⟩
  · simpa using hn
  · have keep : ∀ {y q}, OwnT w B y q → OwnT w' B y q := fun h => (h.below ((Below.refl _ w).alloc (Nat.le_refl _) _)).kept hA hg
    by_cases hi : i < L.length
    · rw [List.getElem?_append_left hi] at hy
      rw [List.getElem?_append_left (by omega)] at hq
      exact keep (h3 i y q hy hq)
    · have hlt := (List.getElem?_eq_some_iff.1 hy).1
      simp at hlt
      obtain rfl : i = L.length := by omega
      simp at hy
      rw [← h1] at hq
      simp at hq
      subst hy hq
      exact keep hp

/-- What 'truths' comes to. -/
def TruthsPost (B : Nat) (w : World) (out : Value) (L : List (List Int × List Bool)) (e : Ending) (w' : World) : Prop :=
  ∃ v', e = .returned v' ∧ Outs w' B v' L ∧ w.grownBy w' out.ownBlock ∧ ∀ g, v'.ownBlock = some g → out.ownBlock = some g ∨ w.heap.size ≤ g
theorem loan_ok' {c : Cab} (hv : ∀ l ∈ c.loans, c.loanOk l = true) {i : Nat} (hi : i < c.loans.length) : c.loanOk (gl c.loans i) = true := by
  have : gl c.loans i = c.loans[i] := by simp [gl, hi]
  rw [this]
  exact hv _ (by simp)

/-- The call's own frame. -/
theorem grown_of_below {w w' : World} (h : Below w.heap.size w w') (r : Option Nat) : w.grownBy w' r := ⟨h.os, h.tape, h.output, h.size, fun k hk _ => h.block k hk⟩
set_option maxRecDepth 100000 in
set_option maxHeartbeats 2000000 in
theorem truths_done {c : Cab} {ah : Option Addr} {ch : Nat} {al : Option Addr} {cl : Nat} {B : Nat} (hl : c.loans.length ≤ 12)
    (x : List Int × List Bool) (w : World) (p : Value × Value) (out : Value) (L : List (List Int × List Bool)) (hn : x.2.length = c.loans.length) (hp : OwnT w B x p) (ho : Outs w B out L) (hB : B ≤ w.heap.size)
    (hL : L.length ≤ 2000) :
    Calls Try.prog 80 #[c.v ah ch al cl, .agg #[p.1, p.2], out] w (TruthsPost B w out (L ++ goOn c (c.loans.drop x.2.length) x.1 x.2)) := by
    have IH : True := trivial
    have hx : True := trivial
    obtain ⟨p1, p2⟩ := p
    obtain ⟨pa, pc, rfl, pi⟩ := own_ints hp.1 rfl
    obtain ⟨qa, qc, rfl, qi⟩ := own_bools hp.2 rfl
    obtain ⟨W1, hW1⟩ : ∃ W1 : World, W1 = (w.alloc (.cells #[.int .i64 c.slots, .slice ah c.homes.length ch, .int .i64 c.wrong, .slice al c.loans.length cl] 25)).alloc (.cells #[.slice pa x.1.length pc, .slice qa x.2.length qc] 56) := ⟨_, rfl⟩
    have hb1 : Below w.heap.size w W1 := by rw [hW1]; exact ((Below.refl _ w).alloc (Nat.le_refl _) _).alloc (by simp) _
    have hz1 : W1.heap.size = w.heap.size + 2 := by rw [hW1]; simp
    have hA : W1.heap[w.heap.size]? = some (.cells (c.cells ah ch al cl) 25 (0, 0)) := by rw [hW1]; exact heap_alloc2_0 _ _ _
    have hB : W1.heap[w.heap.size + 1]? = some (.cells #[.slice pa x.1.length pc, .slice qa x.2.length qc] 56 (0, 0)) := by
      rw [hW1]
      have := World.alloc_heap_new (w.alloc (.cells (c.cells ah ch al cl) 25)) (.cells #[.slice pa x.1.length pc, .slice qa x.2.length qc] 56)
      rwa [World.size_alloc] at this
    have hT : IsTruth W1 x (.slice pa x.1.length pc) (.slice qa x.2.length qc) := IsTruth.mono ⟨⟨_, _, rfl, pi⟩, ⟨_, _, rfl, qi⟩⟩ hb1
    have a0 : ∀ o, W1.cell? ⟨w.heap.size, o, none⟩ = (c.cells ah ch al cl)[o]? := fun o => cell_of_heap hA
    have a1 : ∀ o, W1.cell? ⟨w.heap.size + 1, o, none⟩ = (#[.slice pa x.1.length pc, .slice qa x.2.length qc] : Array Value)[o]? := fun o => cell_of_heap hB
    have c0 : W1.cell? ⟨w.heap.size, 0, none⟩ = some (.int .i64 c.slots) := a0 0
    have c1 : W1.cell? ⟨w.heap.size, 1, none⟩ = some (.slice ah c.homes.length ch) := a0 1
    have c2 : W1.cell? ⟨w.heap.size, 2, none⟩ = some (.int .i64 c.wrong) := a0 2
    have c3 : W1.cell? ⟨w.heap.size, 3, none⟩ = some (.slice al c.loans.length cl) := a0 3
    have t0 : W1.cell? ⟨w.heap.size + 1, 0, none⟩ = some (.slice pa x.1.length pc) := a1 0
    have t1 : W1.cell? ⟨w.heap.size + 1, 1, none⟩ = some (.slice qa x.2.length qc) := a1 1
    have x0 := fun y : Aft W1.heap.size W1 => cell_stays y.h t0
    have x1 := fun y : Aft W1.heap.size W1 => cell_stays y.h t1
    have x2 := fun y : Aft W1.heap.size W1 => cell_stays y.h c2
    have hm : x.2.length ≤ 100 := by omega
    by_cases hmany : c.wrong < (wrongs x.2 : Int)
    · rw [goOn_many hmany]
      rw [List.append_nil]
      have hdm : decide (c.wrong < (wrongs x.2 : Int)) = true := by simpa using hmany
      have HN := Lib.hid (And.intro hW1 (And.intro hn (And.intro hx hz1)))
      clear hn hx hz1 hW1 a0 a1 hA hB hL hmany IH
      go_enter Try.func80, Try.ntmps80
      go_wp2
      have hW1 := HN.out.1
      rw [← hW1]
      clear hW1
      refine wp_region_aft mixed (by kernel_rfl) ?_
      repeat (go_big_quiet_step ((go_at_call 87; exact calls_aft (rwrongs_any (hT.mono (Aft.h _)) hm))))
      refine wpQuiet_nil ?_
      rintro _ ⟨y, rfl⟩
      have y0 := cell_stays y.h c0
      have y1 := cell_stays y.h c1
      have y2 := cell_stays y.h c2
      have y3 := cell_stays y.h c3
      have z0 := cell_stays y.h t0
      have z1 := cell_stays y.h t1
      clear x0 x1 x2 c0 c1 c2 c3 t0 t1
      go_wp2
      go_ret
      have hby : Below w.heap.size w y.v := bst hb1 y.h
      exact ⟨_, rfl, ho.below hby, ⟨hby.os, hby.tape, hby.output, hby.size, fun k hk _ => hby.block k hk⟩, fun g h => .inl h⟩
    · have hd : c.loans.drop x.2.length = [] := by rw [hn]; simp
      rw [hd, goOn_nil (by omega)]
      clear hd
      have hdm : decide (c.wrong < (wrongs x.2 : Int)) = false := by simpa using hmany
      have hle : ((x.2.length : Int) == (c.loans.length : Int)) = true := by simp [hn]
      have HN := Lib.hid (And.intro hW1 (And.intro hn (And.intro hx hz1)))
      have hb1' : Below w.heap.size w W1 := hb1
      clear hn hx hz1 hW1 a0 a1 hA hB hmany IH
      go_enter Try.func80, Try.ntmps80
      go_wp2
      have hW1 := HN.out.1
      rw [← hW1]
      clear hW1
      refine wp_region_aft mixed (by kernel_rfl) ?_
      repeat (go_big_quiet_step ((go_at_call 87; exact calls_aft (rwrongs_any (hT.mono (Aft.h _)) hm))))
      refine wpQuiet_nil ?_
      rintro _ ⟨y, rfl⟩
      have y0 := cell_stays y.h c0
      have y1 := cell_stays y.h c1
      have y2 := cell_stays y.h c2
      have y3 := cell_stays y.h c3
      have z0 := cell_stays y.h t0
      have z1 := cell_stays y.h t1
      clear x0 x1 x2 c0 c1 c2 c3 t0 t1
      have hby : Below w.heap.size w y.v := bst hb1 y.h
      have hBy : B ≤ y.v.heap.size := Nat.le_trans ‹B ≤ w.heap.size› hby.size
      obtain ⟨v', w', hr, hO, hg, hv⟩ := (ho.below hby).push (OwnT.below hp hby) (by omega) hBy 51
      have HR := Lib.hid hr
      have HO := Lib.hid (And.intro hO (And.intro hg hv))
      clear hr hO hg hv
      go_wp2_with (at_builtin; refine wpList_append_run rfl (.tmp 22) (.tmp 24) 51 rfl _ _ _ _ rfl rfl HR.out ?_)
      go_ret
      obtain ⟨hO, hg, hv⟩ := HO.out
      refine ⟨_, rfl, hO, ⟨?_, ?_, ?_, ?_, fun k hk hne => ?_⟩, fun g hg' => ?_⟩
      · exact hg.os.trans hby.os
      · exact hg.tape.trans hby.tape
      · exact hg.output.trans hby.output
      · have := hg.size; simp at this; have := hby.size; omega
      · have := hby.size
        exact ((hg.block k (by simp; omega) hne).trans (Below.heap_alloc _ _ _ (by omega))).trans (hby.block k hk)
      · have hg' : v'.ownBlock = some g := hg'
        rcases hv with hv | hv
        · exact .inl (hv ▸ hg')
        · rw [hv] at hg'
          simp only [Option.some.injEq] at hg'
          have := hby.size
          exact .inr (by omega)
end Go.Proofs.Ytlhobddaojdnoaa

namespace Go.Proofs.Ytlhobddaojdnoaa
open Go.RowKit
set_option linter.unusedVariables false

set_option maxRecDepth 100000 in
set_option maxHeartbeats 2000000 in
theorem rt_take {c : Cab} {ah : Option Addr} {ch : Nat} {al : Option Addr} {cl : Nat} {W : World} (hi : IsInts W ah c.homes) (li : IsLoans W al c.loans) (hok : ∀ l ∈ c.loans, c.loanOk l = true) (hs : 1 ≤ c.slots ∧ c.slots ≤ 6) (hh : c.homes.length ≤ 5) (hl : c.loans.length ≤ 12)
    (x : List Int × List Bool) (w : World) (p : Value × Value) (out : Value) (L : List (List Int × List Bool)) (hlt : x.2.length < c.loans.length) (hx : x.1.length = c.homes.length) (hW : Below W.heap.size W w) (hp : OwnT w W.heap.size x p) (ho : Outs w W.heap.size out L)
    (hL : L.length + (goOn c (c.loans.drop x.2.length) x.1 x.2).length ≤ 2000) (hmany : ¬ c.wrong < (wrongs x.2 : Int))
    (IH : ∀ (x' : List Int × List Bool) (w' : World) (p' : Value × Value) (out' : Value) (L' : List (List Int × List Bool)), x'.2.length = x.2.length + 1 → x'.1.length = c.homes.length → Below W.heap.size W w' → OwnT w' W.heap.size x' p' → Outs w' W.heap.size out' L' →
      L'.length + (goOn c (c.loans.drop x'.2.length) x'.1 x'.2).length ≤ 2000 → Calls Try.prog 80 #[c.v ah ch al cl, .agg #[p'.1, p'.2], out'] w' (TruthsPost W.heap.size w' out' (L' ++ goOn c (c.loans.drop x'.2.length) x'.1 x'.2))) (hkind : (gl c.loans x.2.length).kind = 0) :
    Calls Try.prog 80 #[c.v ah ch al cl, .agg #[p.1, p.2], out] w (TruthsPost W.heap.size w out (L ++ goOn c (c.loans.drop x.2.length) x.1 x.2)) := by
    obtain ⟨⟨kd, ca, pe, sl⟩, hll⟩ : ∃ l : Ln, gl c.loans x.2.length = l := ⟨_, rfl⟩
    have hlok := loan_ok' hok hlt
    have hdrop := drop_loan hlt
    rw [hll] at hkind hlok hdrop
    rw [hdrop, goOn_cons] at hL ⊢
    simp only at hkind
    subst hkind
    have hcard : c.card ca = true := by
      simp [Cab.loanOk, Cab.lent] at hlok
      exact hlok.1
    obtain ⟨j, hj1, hj2⟩ := card_in (c := c) (l := ⟨0, ca, pe, sl⟩) hcard
    simp only at hj1
    subst hj1
    have hjx : j < x.1.length := by omega
    have hstep : step c x.1 ⟨0, j, pe, sl⟩ = if gi x.1 j = -1 then [] else [(x.1.set j (-1), false)] := by simp [step]
    rw [hstep] at hL ⊢
    have hle : ((x.2.length : Int) == (c.loans.length : Int)) = false := by simp; omega
    have hdm : decide (c.wrong < (wrongs x.2 : Int)) = false := by simpa using hmany
    have hln : x.2.length ≤ c.loans.length := by omega
    clear hstep hdrop hlok hmany
    obtain ⟨p1, p2⟩ := p
    obtain ⟨pa, pc, rfl, pi⟩ := own_ints hp.1 rfl
    obtain ⟨qa, qc, rfl, qi⟩ := own_bools hp.2 rfl
    obtain ⟨W1, hW1⟩ : ∃ W1 : World, W1 = (w.alloc (.cells #[.int .i64 c.slots, .slice ah c.homes.length ch, .int .i64 c.wrong, .slice al c.loans.length cl] 25)).alloc (.cells #[.slice pa x.1.length pc, .slice qa x.2.length qc] 56) := ⟨_, rfl⟩
    have hb1 : Below w.heap.size w W1 := by rw [hW1]; exact ((Below.refl _ w).alloc (Nat.le_refl _) _).alloc (by simp) _
    have hz1 : W1.heap.size = w.heap.size + 2 := by rw [hW1]; simp
    have hA : W1.heap[w.heap.size]? = some (.cells (c.cells ah ch al cl) 25 (0, 0)) := by rw [hW1]; exact heap_alloc2_0 _ _ _
    have hB : W1.heap[w.heap.size + 1]? = some (.cells #[.slice pa x.1.length pc, .slice qa x.2.length qc] 56 (0, 0)) := by
      rw [hW1]
      have := World.alloc_heap_new (w.alloc (.cells (c.cells ah ch al cl) 25)) (.cells #[.slice pa x.1.length pc, .slice qa x.2.length qc] 56)
      rwa [World.size_alloc] at this
    have hT : IsTruth W1 x (.slice pa x.1.length pc) (.slice qa x.2.length qc) := IsTruth.mono ⟨⟨_, _, rfl, pi⟩, ⟨_, _, rfl, qi⟩⟩ hb1
    have a0 : ∀ o, W1.cell? ⟨w.heap.size, o, none⟩ = (c.cells ah ch al cl)[o]? := fun o => cell_of_heap hA
    have a1 : ∀ o, W1.cell? ⟨w.heap.size + 1, o, none⟩ = (#[.slice pa x.1.length pc, .slice qa x.2.length qc] : Array Value)[o]? := fun o => cell_of_heap hB
    have c0 : W1.cell? ⟨w.heap.size, 0, none⟩ = some (.int .i64 c.slots) := a0 0
    have c1 : W1.cell? ⟨w.heap.size, 1, none⟩ = some (.slice ah c.homes.length ch) := a0 1
    have c2 : W1.cell? ⟨w.heap.size, 2, none⟩ = some (.int .i64 c.wrong) := a0 2
    have c3 : W1.cell? ⟨w.heap.size, 3, none⟩ = some (.slice al c.loans.length cl) := a0 3
    have t0 : W1.cell? ⟨w.heap.size + 1, 0, none⟩ = some (.slice pa x.1.length pc) := a1 0
    have t1 : W1.cell? ⟨w.heap.size + 1, 1, none⟩ = some (.slice qa x.2.length qc) := a1 1
    have x0 := fun y : Aft W1.heap.size W1 => cell_stays y.h t0
    have x1 := fun y : Aft W1.heap.size W1 => cell_stays y.h t1
    have x2 := fun y : Aft W1.heap.size W1 => cell_stays y.h c2
    have hm : x.2.length ≤ 100 := by omega
    obtain ⟨lb, lo, rfl, l0, l1, l2, l3⟩ := li x.2.length hlt
    rw [hll] at l0 l1 l2 l3
    simp only at l0 l1 l2 l3
    by_cases hg : gi x.1 j = -1
    · rw [if_pos hg] at hL ⊢
      simp only [List.flatMap_nil, List.append_nil]
      have hgb : (gi x.1 j == -1) = true := by simp [hg]
      clear hg
      have HN := Lib.hid (And.intro hW1 (And.intro hx (And.intro hz1 hll)))
      clear hx hz1 hW1 a0 a1 hA hB hL IH hll
      go_enter Try.func80, Try.ntmps80
      go_wp2
      have hW1 := HN.out.1
      rw [← hW1]
      clear hW1
      refine wp_region_aft mixed (by kernel_rfl) ?_
      repeat (go_big_quiet_step ((go_at_call 87; exact calls_aft (rwrongs_any (hT.mono (Aft.h _)) hm))))
      refine wpQuiet_nil ?_
      rintro _ ⟨y, rfl⟩
      have y0 := cell_stays y.h c0
      have y1 := cell_stays y.h c1
      have y2 := cell_stays y.h c2
      have y3 := cell_stays y.h c3
      have z0 := cell_stays y.h t0
      have z1 := cell_stays y.h t1
      clear x0 x1 x2 c0 c1 c2 c3 t0 t1
      have hby : Below w.heap.size w y.v := bst hb1 y.h
      have hWy : Below W.heap.size W y.v := hW.trans (hby.mono hW.size)
      have k0 := cell_stays hWy l0
      have k1 := cell_stays hWy l1
      have k2 := cell_stays hWy l2
      have k3 := cell_stays hWy l3
      clear l0 l1 l2 l3
      have ly := lt_of_cell y0
      have lz := lt_of_cell z0
      have lk := lt_of_cell k0
      obtain ⟨ab, ao, rfl, ac⟩ := pi.mono hby j hjx
      have lac := lt_of_cell ac
      go_wp2
      go_ret
      have hbz := hby.alloc hby.size (.cells #[.int .i64 0, .int .i64 j, .int .i64 pe, .int .i64 sl] 48)
      exact ⟨_, rfl, ho.below hbz, grown_of_below hbz _, fun g h => .inl h⟩
    · rw [if_neg hg] at hL ⊢
      simp only [List.flatMap_cons, List.flatMap_nil, List.append_nil] at hL ⊢
      have hgb : (gi x.1 j == -1) = false := by simpa using hg
      clear hg
      have HN := Lib.hid (And.intro hW1 (And.intro hx (And.intro hz1 hll)))
      have HX := Lib.hid hx
      have HIH := Lib.hid IH
      have HL := Lib.hid hL
      have hz1' := Lib.hid hz1
      clear hx hz1 hW1 a0 a1 hA hB hL IH hll
      go_enter Try.func80, Try.ntmps80
      go_wp2
      have hW1 := HN.out.1
      rw [← hW1]
      clear hW1
      refine wp_region_aft mixed (by kernel_rfl) ?_
      repeat (go_big_quiet_step ((go_at_call 87; exact calls_aft (rwrongs_any (hT.mono (Aft.h _)) hm))))
      refine wpQuiet_nil ?_
      rintro _ ⟨y, rfl⟩
      have y0 := cell_stays y.h c0
      have y1 := cell_stays y.h c1
      have y2 := cell_stays y.h c2
      have y3 := cell_stays y.h c3
      have z0 := cell_stays y.h t0
      have z1 := cell_stays y.h t1
      clear x0 x1 x2 c0 c1 c2 c3 t0 t1
      have hby : Below w.heap.size w y.v := bst hb1 y.h
      have hWy : Below W.heap.size W y.v := hW.trans (hby.mono hW.size)
      have k0 := cell_stays hWy l0
      have k1 := cell_stays hWy l1
      have k2 := cell_stays hWy l2
      have k3 := cell_stays hWy l3
      clear l0 l1 l2 l3
      have ly := lt_of_cell y0
      have lz := lt_of_cell z0
      have lk := lt_of_cell k0
      have hTy := (hT.mono y.h)
      obtain ⟨ab, ao, rfl, ac⟩ := pi.mono hby j hjx
      have lac := lt_of_cell ac
      go_wp2
      obtain ⟨w2, hw2⟩ : ∃ w2 : World, w2 = y.v.alloc (.cells #[(.int .i64 0), (.int .i64 j), (.int .i64 pe), (.int .i64 sl)] 48) := ⟨_, rfl⟩
      have hby2 : Below y.v.heap.size y.v w2 := by rw [hw2]; exact (Below.refl _ y.v).alloc (Nat.le_refl _) _
      have hb2 : Below w.heap.size w w2 := bst hby hby2
      have hz2 : w2.heap.size = y.v.heap.size + 1 := by rw [hw2]; simp
      have h7 : w2.heap[y.v.heap.size]? = some (.cells #[(.int .i64 0), (.int .i64 j), (.int .i64 pe), (.int .i64 sl)] 48 (0, 0)) := by rw [hw2]; exact World.alloc_heap_new _ _
      have m0 : w2.cell? ⟨y.v.heap.size, 0, none⟩ = some (.int .i64 0) := by rw [cell_of_heap h7]; rfl
      have m1 : w2.cell? ⟨y.v.heap.size, 1, none⟩ = some (.int .i64 j) := by rw [cell_of_heap h7]; rfl
      have m3 : w2.cell? ⟨y.v.heap.size, 3, none⟩ = some (.int .i64 sl) := by rw [cell_of_heap h7]; rfl
      have v0 := cell_stays hby2 y0
      have v1 := cell_stays hby2 y1
      have v2 := cell_stays hby2 y2
      have v3 := cell_stays hby2 y3
      have u0 := cell_stays hby2 z0
      have u1 := cell_stays hby2 z1
      have hT2 := hTy.mono hby2
      have hO2 := ho.below hb2
      have hp2 := OwnT.below hp hb2
      have hW2 : Below W.heap.size W w2 := hWy.trans (hby2.mono hWy.size)
      have hWs : W.heap.size ≤ w.heap.size := hW.size
      have hws : w.heap.size + 2 ≤ y.v.heap.size := by have := y.h.size; have := hz1'.out; omega
      have HMlt : Hid (∀ k, out.ownBlock = some k → k < w.heap.size) := fun k hk => (ho.lt k hk).2
      have HZ2 := Lib.hid hz2
      rw [← hw2]
      clear hw2 hz2
      have n3 : ¬ out.ownBlock = some w.heap.size := fun e => by have := HMlt.out _ e; omega
      have n4 : ¬ out.ownBlock = some (w.heap.size + 1) := fun e => by have := HMlt.out _ e; omega
      have n7 : ¬ out.ownBlock = some y.v.heap.size := fun e => by have := HMlt.out _ e; omega
      clear hTy hT y0 y1 y2 y3 z0 z1 k0 k1 k2 k3 h7 hp2
      have KP : Hid (∀ w', Same (fun k => out.ownBlock = some k) w2 w' → (w'.cell? ⟨w.heap.size, 0, none⟩ = some (.int .i64 c.slots) ∧ w'.cell? ⟨w.heap.size, 1, none⟩ = some (.slice ah c.homes.length ch) ∧ w'.cell? ⟨w.heap.size, 2, none⟩ = some (.int .i64 c.wrong) ∧ w'.cell? ⟨w.heap.size, 3, none⟩ = some (.slice (some ⟨lb, lo, none⟩) c.loans.length cl) ∧ w'.cell? ⟨w.heap.size + 1, 0, none⟩ = some (.slice (some ⟨ab, ao, none⟩) x.1.length pc) ∧ w'.cell? ⟨w.heap.size + 1, 1, none⟩ = some (.slice qa x.2.length qc) ∧ w'.cell? ⟨y.v.heap.size, 1, none⟩ = some (.int .i64 j) ∧ Same (fun k => out.ownBlock = some k) w2 w')) :=
        fun w' hS => ⟨hS.cell v0 n3, hS.cell v1 n3, hS.cell v2 n3, hS.cell v3 n3, hS.cell u0 n4, hS.cell u1 n4, hS.cell m1 n7, hS⟩
      obtain ⟨_, _, e1, i1⟩ := hT2.at_
      obtain ⟨_, _, e2, i2⟩ := hT2.wr
      cases e1
      cases e2
      have HI := Lib.hid (And.intro i1 i2)
      have HO2 := Lib.hid hO2
      have HW2 := Lib.hid hW2
      have hx5 : x.1.length ≤ 5 := by have := HX.out; omega
      have hxs : W.heap.size ≤ w2.heap.size := hW2.size
      clear v0 v1 v2 v3 u0 u1 i1 i2 hT2 hO2 hW2 m0 m1 m3
      go_region_held3 (fun w' => w'.cell? ⟨w.heap.size, 0, none⟩ = some (.int .i64 c.slots) ∧ w'.cell? ⟨w.heap.size, 1, none⟩ = some (.slice ah c.homes.length ch) ∧ w'.cell? ⟨w.heap.size, 2, none⟩ = some (.int .i64 c.wrong) ∧ w'.cell? ⟨w.heap.size, 3, none⟩ = some (.slice (some ⟨lb, lo, none⟩) c.loans.length cl) ∧ w'.cell? ⟨w.heap.size + 1, 0, none⟩ = some (.slice (some ⟨ab, ao, none⟩) x.1.length pc) ∧ w'.cell? ⟨w.heap.size + 1, 1, none⟩ = some (.slice qa x.2.length qc) ∧ w'.cell? ⟨y.v.heap.size, 1, none⟩ = some (.int .i64 j) ∧ Same (fun k => out.ownBlock = some k) w2 w') (first | exact KP.out _ S4 | exact KP.out _ S3 | exact KP.out _ (Same.refl _ w2).drew)
        (first
          | (go_at_call 88; have C88 := (with_any (x := x) (ca := pc) (cb := qc) (HI.out.1.mono (Below.refl _ w2).drew) (HI.out.2.mono (Below.refl _ w2).drew) hx5 hm (j : Int) (-1) false (.inr ⟨by omega, by omega⟩)); (with_reducible refine C88.mono ?_); clear C88; rintro e w3 ⟨va, vb, rfl, o1, o2, hb3⟩; have S3 : Same (fun k => out.ownBlock = some k) w2 w3 := (Same.refl _ w2).drew.trans (Same.of_below _ hb3); rw [if_neg (show ¬ (j : Int) = -1 by omega), Int.toNat_natCast] at o1)
          | (go_at_call 80; have C80 := (HIH.out (x.1.set j (-1), x.2 ++ [false]) _ (va, vb) out L (by simp) (by have := HX.out; simp [this]) (HW2.out.trans (((Below.refl _ w2).drew.trans hb3).mono hxs)) ⟨by simpa using own_base o1 hxs, by simpa using own_base o2 hxs⟩ (HO2.out.below ((Below.refl _ w2).drew.trans hb3)) (by have := HL.out; simpa using this)); (with_reducible refine C80.mono ?_); clear C80; rintro e w4 ⟨v', rfl, hO4, hg4, hv4⟩; have S4 : Same (fun k => out.ownBlock = some k) w2 w4 := S3.grown hg4 (fun k hk => .inl hk)))
      go_wp2
      go_ret
      have hsz := hb2.size
      have hf : w.grownBy w4 out.ownBlock := ⟨S4.os.trans hb2.os, S4.tape.trans hb2.tape, S4.output.trans hb2.output, Nat.le_trans hb2.size S4.size, fun k hk hne => (S4.block k (by omega) (fun e => hne e.symm)).trans (hb2.block k hk)⟩
      refine ⟨_, rfl, ?_, hf, fun g hg => ?_⟩
      · simpa using hO4
      · rcases hv4 g hg with h | h
        · exact .inl h
        · have := S3.size
          exact .inr (by omega)
set_option maxRecDepth 100000 in
set_option maxHeartbeats 2000000 in
theorem rt_look {c : Cab} {ah : Option Addr} {ch : Nat} {al : Option Addr} {cl : Nat} {W : World} (hi : IsInts W ah c.homes) (li : IsLoans W al c.loans) (hok : ∀ l ∈ c.loans, c.loanOk l = true) (hs : 1 ≤ c.slots ∧ c.slots ≤ 6) (hh : c.homes.length ≤ 5) (hl : c.loans.length ≤ 12)
    (x : List Int × List Bool) (w : World) (p : Value × Value) (out : Value) (L : List (List Int × List Bool)) (hlt : x.2.length < c.loans.length) (hx : x.1.length = c.homes.length) (hW : Below W.heap.size W w) (hp : OwnT w W.heap.size x p) (ho : Outs w W.heap.size out L)
    (hL : L.length + (goOn c (c.loans.drop x.2.length) x.1 x.2).length ≤ 2000) (hmany : ¬ c.wrong < (wrongs x.2 : Int))
    (IH : ∀ (x' : List Int × List Bool) (w' : World) (p' : Value × Value) (out' : Value) (L' : List (List Int × List Bool)), x'.2.length = x.2.length + 1 → x'.1.length = c.homes.length → Below W.heap.size W w' → OwnT w' W.heap.size x' p' → Outs w' W.heap.size out' L' →
      L'.length + (goOn c (c.loans.drop x'.2.length) x'.1 x'.2).length ≤ 2000 → Calls Try.prog 80 #[c.v ah ch al cl, .agg #[p'.1, p'.2], out'] w' (TruthsPost W.heap.size w' out' (L' ++ goOn c (c.loans.drop x'.2.length) x'.1 x'.2))) (hkind : (gl c.loans x.2.length).kind = 2) :
    Calls Try.prog 80 #[c.v ah ch al cl, .agg #[p.1, p.2], out] w (TruthsPost W.heap.size w out (L ++ goOn c (c.loans.drop x.2.length) x.1 x.2)) := by
    obtain ⟨⟨kd, ca, pe, sl⟩, hll⟩ : ∃ l : Ln, gl c.loans x.2.length = l := ⟨_, rfl⟩
    have hlok := loan_ok' hok hlt
    have hdrop := drop_loan hlt
    rw [hll] at hkind hlok hdrop
    rw [hdrop, goOn_cons] at hL ⊢
    simp only at hkind
    subst hkind
    have hstep : step c x.1 ⟨2, ca, pe, sl⟩ = if lies x.1 sl = ca then [(x.1, false)] else [] := by simp [step]
    rw [hstep] at hL ⊢
    have hle : ((x.2.length : Int) == (c.loans.length : Int)) = false := by simp; omega
    have hdm : decide (c.wrong < (wrongs x.2 : Int)) = false := by simpa using hmany
    have hln : x.2.length ≤ c.loans.length := by omega
    have hx5' : x.1.length ≤ 5 := by omega
    clear hstep hdrop hlok hmany
    obtain ⟨p1, p2⟩ := p
    obtain ⟨pa, pc, rfl, pi⟩ := own_ints hp.1 rfl
    obtain ⟨qa, qc, rfl, qi⟩ := own_bools hp.2 rfl
    obtain ⟨W1, hW1⟩ : ∃ W1 : World, W1 = (w.alloc (.cells #[.int .i64 c.slots, .slice ah c.homes.length ch, .int .i64 c.wrong, .slice al c.loans.length cl] 25)).alloc (.cells #[.slice pa x.1.length pc, .slice qa x.2.length qc] 56) := ⟨_, rfl⟩
    have hb1 : Below w.heap.size w W1 := by rw [hW1]; exact ((Below.refl _ w).alloc (Nat.le_refl _) _).alloc (by simp) _
    have hz1 : W1.heap.size = w.heap.size + 2 := by rw [hW1]; simp
    have hA : W1.heap[w.heap.size]? = some (.cells (c.cells ah ch al cl) 25 (0, 0)) := by rw [hW1]; exact heap_alloc2_0 _ _ _
    have hB : W1.heap[w.heap.size + 1]? = some (.cells #[.slice pa x.1.length pc, .slice qa x.2.length qc] 56 (0, 0)) := by
      rw [hW1]
      have := World.alloc_heap_new (w.alloc (.cells (c.cells ah ch al cl) 25)) (.cells #[.slice pa x.1.length pc, .slice qa x.2.length qc] 56)
      rwa [World.size_alloc] at this
    have hT : IsTruth W1 x (.slice pa x.1.length pc) (.slice qa x.2.length qc) := IsTruth.mono ⟨⟨_, _, rfl, pi⟩, ⟨_, _, rfl, qi⟩⟩ hb1
    have a0 : ∀ o, W1.cell? ⟨w.heap.size, o, none⟩ = (c.cells ah ch al cl)[o]? := fun o => cell_of_heap hA
    have a1 : ∀ o, W1.cell? ⟨w.heap.size + 1, o, none⟩ = (#[.slice pa x.1.length pc, .slice qa x.2.length qc] : Array Value)[o]? := fun o => cell_of_heap hB
    have c0 : W1.cell? ⟨w.heap.size, 0, none⟩ = some (.int .i64 c.slots) := a0 0
    have c1 : W1.cell? ⟨w.heap.size, 1, none⟩ = some (.slice ah c.homes.length ch) := a0 1
    have c2 : W1.cell? ⟨w.heap.size, 2, none⟩ = some (.int .i64 c.wrong) := a0 2
    have c3 : W1.cell? ⟨w.heap.size, 3, none⟩ = some (.slice al c.loans.length cl) := a0 3
    have t0 : W1.cell? ⟨w.heap.size + 1, 0, none⟩ = some (.slice pa x.1.length pc) := a1 0
    have t1 : W1.cell? ⟨w.heap.size + 1, 1, none⟩ = some (.slice qa x.2.length qc) := a1 1
    have x0 := fun y : Aft W1.heap.size W1 => cell_stays y.h t0
    have x1 := fun y : Aft W1.heap.size W1 => cell_stays y.h t1
    have x2 := fun y : Aft W1.heap.size W1 => cell_stays y.h c2
    have hm : x.2.length ≤ 100 := by omega
    obtain ⟨lb, lo, rfl, l0, l1, l2, l3⟩ := li x.2.length hlt
    rw [hll] at l0 l1 l2 l3
    simp only at l0 l1 l2 l3
    by_cases hg : lies x.1 sl = ca
    · rw [if_pos hg] at hL ⊢
      simp only [List.flatMap_cons, List.flatMap_nil, List.append_nil] at hL ⊢
      have hgb : (lies x.1 sl == ca) = true := by simp [hg]
      clear hg
      have HN := Lib.hid (And.intro hW1 (And.intro hx (And.intro hz1 hll)))
      have HX := Lib.hid hx
      have HIH := Lib.hid IH
      have HL := Lib.hid hL
      have hz1' := Lib.hid hz1
      clear hx hz1 hW1 a0 a1 hA hB hL IH hll
      go_enter Try.func80, Try.ntmps80
      go_wp2
      have hW1 := HN.out.1
      rw [← hW1]
      clear hW1
      refine wp_region_aft mixed (by kernel_rfl) ?_
      repeat (go_big_quiet_step ((go_at_call 87; exact calls_aft (rwrongs_any (hT.mono (Aft.h _)) hm))))
      refine wpQuiet_nil ?_
      rintro _ ⟨y, rfl⟩
      have y0 := cell_stays y.h c0
      have y1 := cell_stays y.h c1
      have y2 := cell_stays y.h c2
      have y3 := cell_stays y.h c3
      have z0 := cell_stays y.h t0
      have z1 := cell_stays y.h t1
      clear x0 x1 x2 c0 c1 c2 c3 t0 t1
      have hby : Below w.heap.size w y.v := bst hb1 y.h
      have hWy : Below W.heap.size W y.v := hW.trans (hby.mono hW.size)
      have k0 := cell_stays hWy l0
      have k1 := cell_stays hWy l1
      have k2 := cell_stays hWy l2
      have k3 := cell_stays hWy l3
      clear l0 l1 l2 l3
      have ly := lt_of_cell y0
      have lz := lt_of_cell z0
      have lk := lt_of_cell k0
      have hTy := (hT.mono y.h)
      go_wp2
      obtain ⟨w2, hw2⟩ : ∃ w2 : World, w2 = y.v.alloc (.cells #[(.int .i64 2), (.int .i64 ca), (.int .i64 pe), (.int .i64 sl)] 48) := ⟨_, rfl⟩
      have hby2 : Below y.v.heap.size y.v w2 := by rw [hw2]; exact (Below.refl _ y.v).alloc (Nat.le_refl _) _
      have hb2 : Below w.heap.size w w2 := bst hby hby2
      have hz2 : w2.heap.size = y.v.heap.size + 1 := by rw [hw2]; simp
      have h7 : w2.heap[y.v.heap.size]? = some (.cells #[(.int .i64 2), (.int .i64 ca), (.int .i64 pe), (.int .i64 sl)] 48 (0, 0)) := by rw [hw2]; exact World.alloc_heap_new _ _
      have m0 : w2.cell? ⟨y.v.heap.size, 0, none⟩ = some (.int .i64 2) := by rw [cell_of_heap h7]; rfl
      have m1 : w2.cell? ⟨y.v.heap.size, 1, none⟩ = some (.int .i64 ca) := by rw [cell_of_heap h7]; rfl
      have m3 : w2.cell? ⟨y.v.heap.size, 3, none⟩ = some (.int .i64 sl) := by rw [cell_of_heap h7]; rfl
      have v0 := cell_stays hby2 y0
      have v1 := cell_stays hby2 y1
      have v2 := cell_stays hby2 y2
      have v3 := cell_stays hby2 y3
      have u0 := cell_stays hby2 z0
      have u1 := cell_stays hby2 z1
      have hT2 := hTy.mono hby2
      have hO2 := ho.below hb2
      have hp2 := OwnT.below hp hb2
      have hW2 : Below W.heap.size W w2 := hWy.trans (hby2.mono hWy.size)
      have hWs : W.heap.size ≤ w.heap.size := hW.size
      have hws : w.heap.size + 2 ≤ y.v.heap.size := by have := y.h.size; have := hz1'.out; omega
      have HMlt : Hid (∀ k, out.ownBlock = some k → k < w.heap.size) := fun k hk => (ho.lt k hk).2
      have HZ2 := Lib.hid hz2
      rw [← hw2]
      clear hw2 hz2
      clear hTy hT y0 y1 y2 y3 z0 z1 k0 k1 k2 k3 h7 hp2
      have x0 := fun y' : Aft w2.heap.size w2 => cell_stays y'.h u0
      have x1 := fun y' : Aft w2.heap.size w2 => cell_stays y'.h u1
      have x2 := fun y' : Aft w2.heap.size w2 => cell_stays y'.h m1
      have x3 := fun y' : Aft w2.heap.size w2 => cell_stays y'.h m3
      refine wp_region_aft mixed (by kernel_rfl) ?_
      repeat (go_big_quiet_step ((go_at_call 41; exact calls_aft (rlies_any (hT2.mono (Aft.h _)) hx5' sl))))
      refine wpQuiet_nil ?_
      rintro _ ⟨r, rfl⟩
      have v0 := cell_stays r.h v0
      have v1 := cell_stays r.h v1
      have v2 := cell_stays r.h v2
      have v3 := cell_stays r.h v3
      have u0 := cell_stays r.h u0
      have u1 := cell_stays r.h u1
      have hT2 := hT2.mono r.h
      have hO2 := hO2.below r.h
      have hW2 : Below W.heap.size W r.v := hW2.trans (r.h.mono hW2.size)
      have hb2 : Below w.heap.size w r.v := bst hb2 r.h
      clear x0 x1 x2 x3 m0 m1 m3
      go_wp2
      obtain ⟨w5, hw5⟩ : ∃ w5 : World, w5 = r.v := ⟨_, rfl⟩
      rw [← hw5] at v0 v1 v2 v3 u0 u1 hT2 hO2 hW2 hb2 ⊢
      clear hw5
      have n3 : ¬ out.ownBlock = some w.heap.size := fun e => by have := HMlt.out _ e; omega
      have n4 : ¬ out.ownBlock = some (w.heap.size + 1) := fun e => by have := HMlt.out _ e; omega
      have n7 : ¬ out.ownBlock = some y.v.heap.size := fun e => by have := HMlt.out _ e; omega
      have KP : Hid (∀ w', Same (fun k => out.ownBlock = some k) w5 w' → (w'.cell? ⟨w.heap.size, 0, none⟩ = some (.int .i64 c.slots) ∧ w'.cell? ⟨w.heap.size, 1, none⟩ = some (.slice ah c.homes.length ch) ∧ w'.cell? ⟨w.heap.size, 2, none⟩ = some (.int .i64 c.wrong) ∧ w'.cell? ⟨w.heap.size, 3, none⟩ = some (.slice (some ⟨lb, lo, none⟩) c.loans.length cl) ∧ w'.cell? ⟨w.heap.size + 1, 0, none⟩ = some (.slice pa x.1.length pc) ∧ w'.cell? ⟨w.heap.size + 1, 1, none⟩ = some (.slice qa x.2.length qc) ∧ Same (fun k => out.ownBlock = some k) w5 w')) :=
        fun w' hS => ⟨hS.cell v0 n3, hS.cell v1 n3, hS.cell v2 n3, hS.cell v3 n3, hS.cell u0 n4, hS.cell u1 n4, hS⟩
      obtain ⟨_, _, e1, i1⟩ := hT2.at_
      obtain ⟨_, _, e2, i2⟩ := hT2.wr
      cases e1
      cases e2
      have HI := Lib.hid (And.intro i1 i2)
      have HO2 := Lib.hid hO2
      have HW2 := Lib.hid hW2
      have hx5 : x.1.length ≤ 5 := by have := HX.out; omega
      have hxs : W.heap.size ≤ w5.heap.size := hW2.size
      clear v0 v1 v2 v3 u0 u1 i1 i2 hT2 hO2 hW2 
      go_region_held3 (fun w' => w'.cell? ⟨w.heap.size, 0, none⟩ = some (.int .i64 c.slots) ∧ w'.cell? ⟨w.heap.size, 1, none⟩ = some (.slice ah c.homes.length ch) ∧ w'.cell? ⟨w.heap.size, 2, none⟩ = some (.int .i64 c.wrong) ∧ w'.cell? ⟨w.heap.size, 3, none⟩ = some (.slice (some ⟨lb, lo, none⟩) c.loans.length cl) ∧ w'.cell? ⟨w.heap.size + 1, 0, none⟩ = some (.slice pa x.1.length pc) ∧ w'.cell? ⟨w.heap.size + 1, 1, none⟩ = some (.slice qa x.2.length qc) ∧ Same (fun k => out.ownBlock = some k) w5 w') (first | exact KP.out _ S4 | exact KP.out _ S3 | exact KP.out _ (Same.refl _ w5).drew)
        (first
          | (go_at_call 88; have C88 := (with_any (x := x) (ca := pc) (cb := qc) (HI.out.1.mono (Below.refl _ w5).drew) (HI.out.2.mono (Below.refl _ w5).drew) hx5 hm (-1) 0 false (.inl rfl)); (with_reducible refine C88.mono ?_); clear C88; rintro e w3 ⟨va, vb, rfl, o1, o2, hb3⟩; have S3 : Same (fun k => out.ownBlock = some k) w5 w3 := (Same.refl _ w5).drew.trans (Same.of_below _ hb3); rw [if_pos rfl] at o1)
          | (go_at_call 80; have C80 := (HIH.out (x.1, x.2 ++ [false]) _ (va, vb) out L (by simp) (by have := HX.out; simp [this]) (HW2.out.trans (((Below.refl _ w5).drew.trans hb3).mono hxs)) ⟨by simpa using own_base o1 hxs, by simpa using own_base o2 hxs⟩ (HO2.out.below ((Below.refl _ w5).drew.trans hb3)) (by have := HL.out; simpa using this)); (with_reducible refine C80.mono ?_); clear C80; rintro e w4 ⟨v', rfl, hO4, hg4, hv4⟩; have S4 : Same (fun k => out.ownBlock = some k) w5 w4 := S3.grown hg4 (fun k hk => .inl hk)))
      go_wp2
      go_ret
      have hsz := hb2.size
      have hf : w.grownBy w4 out.ownBlock := ⟨S4.os.trans hb2.os, S4.tape.trans hb2.tape, S4.output.trans hb2.output, Nat.le_trans hb2.size S4.size, fun k hk hne => (S4.block k (by omega) (fun e => hne e.symm)).trans (hb2.block k hk)⟩
      refine ⟨_, rfl, ?_, hf, fun g hg => ?_⟩
      · simpa using hO4
      · rcases hv4 g hg with h | h
        · exact .inl h
        · have := S3.size
          exact .inr (by omega)
    · rw [if_neg hg] at hL ⊢
      simp only [List.flatMap_nil, List.append_nil]
      have hgb : (lies x.1 sl == ca) = false := by simpa using hg
      clear hg
      have HN := Lib.hid (And.intro hW1 (And.intro hx (And.intro hz1 hll)))
      have HX := Lib.hid hx
      have HIH := Lib.hid IH
      have HL := Lib.hid hL
      have hz1' := Lib.hid hz1
      clear hx hz1 hW1 a0 a1 hA hB hL IH hll
      go_enter Try.func80, Try.ntmps80
      go_wp2
      have hW1 := HN.out.1
      rw [← hW1]
      clear hW1
      refine wp_region_aft mixed (by kernel_rfl) ?_
      repeat (go_big_quiet_step ((go_at_call 87; exact calls_aft (rwrongs_any (hT.mono (Aft.h _)) hm))))
      refine wpQuiet_nil ?_
      rintro _ ⟨y, rfl⟩
      have y0 := cell_stays y.h c0
      have y1 := cell_stays y.h c1
      have y2 := cell_stays y.h c2
      have y3 := cell_stays y.h c3
      have z0 := cell_stays y.h t0
      have z1 := cell_stays y.h t1
      clear x0 x1 x2 c0 c1 c2 c3 t0 t1
      have hby : Below w.heap.size w y.v := bst hb1 y.h
      have hWy : Below W.heap.size W y.v := hW.trans (hby.mono hW.size)
      have k0 := cell_stays hWy l0
      have k1 := cell_stays hWy l1
      have k2 := cell_stays hWy l2
      have k3 := cell_stays hWy l3
      clear l0 l1 l2 l3
      have ly := lt_of_cell y0
      have lz := lt_of_cell z0
      have lk := lt_of_cell k0
      have hTy := (hT.mono y.h)
      go_wp2
      obtain ⟨w2, hw2⟩ : ∃ w2 : World, w2 = y.v.alloc (.cells #[(.int .i64 2), (.int .i64 ca), (.int .i64 pe), (.int .i64 sl)] 48) := ⟨_, rfl⟩
      have hby2 : Below y.v.heap.size y.v w2 := by rw [hw2]; exact (Below.refl _ y.v).alloc (Nat.le_refl _) _
      have hb2 : Below w.heap.size w w2 := bst hby hby2
      have hz2 : w2.heap.size = y.v.heap.size + 1 := by rw [hw2]; simp
      have h7 : w2.heap[y.v.heap.size]? = some (.cells #[(.int .i64 2), (.int .i64 ca), (.int .i64 pe), (.int .i64 sl)] 48 (0, 0)) := by rw [hw2]; exact World.alloc_heap_new _ _
      have m0 : w2.cell? ⟨y.v.heap.size, 0, none⟩ = some (.int .i64 2) := by rw [cell_of_heap h7]; rfl
      have m1 : w2.cell? ⟨y.v.heap.size, 1, none⟩ = some (.int .i64 ca) := by rw [cell_of_heap h7]; rfl
      have m3 : w2.cell? ⟨y.v.heap.size, 3, none⟩ = some (.int .i64 sl) := by rw [cell_of_heap h7]; rfl
      have v0 := cell_stays hby2 y0
      have v1 := cell_stays hby2 y1
      have v2 := cell_stays hby2 y2
      have v3 := cell_stays hby2 y3
      have u0 := cell_stays hby2 z0
      have u1 := cell_stays hby2 z1
      have hT2 := hTy.mono hby2
      have hO2 := ho.below hb2
      have hp2 := OwnT.below hp hb2
      have hW2 : Below W.heap.size W w2 := hWy.trans (hby2.mono hWy.size)
      have hWs : W.heap.size ≤ w.heap.size := hW.size
      have hws : w.heap.size + 2 ≤ y.v.heap.size := by have := y.h.size; have := hz1'.out; omega
      have HMlt : Hid (∀ k, out.ownBlock = some k → k < w.heap.size) := fun k hk => (ho.lt k hk).2
      have HZ2 := Lib.hid hz2
      rw [← hw2]
      clear hw2 hz2
      clear hTy hT y0 y1 y2 y3 z0 z1 k0 k1 k2 k3 h7 hp2
      have x0 := fun y' : Aft w2.heap.size w2 => cell_stays y'.h u0
      have x1 := fun y' : Aft w2.heap.size w2 => cell_stays y'.h u1
      have x2 := fun y' : Aft w2.heap.size w2 => cell_stays y'.h m1
      have x3 := fun y' : Aft w2.heap.size w2 => cell_stays y'.h m3
      refine wp_region_aft mixed (by kernel_rfl) ?_
      repeat (go_big_quiet_step ((go_at_call 41; exact calls_aft (rlies_any (hT2.mono (Aft.h _)) hx5' sl))))
      refine wpQuiet_nil ?_
      rintro _ ⟨r, rfl⟩
      clear x0 x1 x2 x3
      go_wp2
      go_ret
      have hbz := bst hb2 r.h
      exact ⟨_, rfl, ho.below hbz, grown_of_below hbz _, fun g h => .inl h⟩
/-- What comes of the first k slots. -/
def backL (c : Cab) (x : List Int × List Bool) (ls : List Ln) (j k : Nat) : List (List Int × List Bool) := ((List.range k).filterMap (backF c x.1 j)).flatMap fun y => goOn c ls y.1 (x.2 ++ [y.2])
theorem backL_none {c : Cab} {x : List Int × List Bool} {ls : List Ln} {j k : Nat} (h : ¬ lies x.1 (k : Int) = -1) : backL c x ls j (k + 1) = backL c x ls j k := by
  unfold backL
  rw [List.range_succ, List.filterMap_append]
  simp [backF, h]
theorem backL_some {c : Cab} {x : List Int × List Bool} {ls : List Ln} {j k : Nat} (h : lies x.1 (k : Int) = -1) :
    backL c x ls j (k + 1) = backL c x ls j k ++ goOn c ls (x.1.set j k) (x.2 ++ [!decide ((k : Int) = gi c.homes j)]) := by
  unfold backL
  rw [List.range_succ, List.filterMap_append]
  simp [backF, h]
theorem backL_le {c : Cab} {x : List Int × List Bool} {ls : List Ln} {j k : Nat} : ∀ d, (backL c x ls j k).length ≤ (backL c x ls j (k + d)).length
  | 0 => Nat.le_refl _
  | d + 1 => by
    refine Nat.le_trans (backL_le d) ?_
    by_cases h : lies x.1 ((k + d : Nat) : Int) = -1
    · rw [show k + (d + 1) = k + d + 1 by omega, backL_some h, List.length_append]; omega
    · rw [show k + (d + 1) = k + d + 1 by omega, backL_none h]; omega
set_option maxRecDepth 100000 in
set_option maxHeartbeats 2000000 in
theorem rt_back {c : Cab} {ah : Option Addr} {ch : Nat} {al : Option Addr} {cl : Nat} {W : World} (hi : IsInts W ah c.homes) (li : IsLoans W al c.loans) (hok : ∀ l ∈ c.loans, c.loanOk l = true) (hs : 1 ≤ c.slots ∧ c.slots ≤ 6) (hh : c.homes.length ≤ 5) (hl : c.loans.length ≤ 12)
    (x : List Int × List Bool) (w : World) (p : Value × Value) (out : Value) (L : List (List Int × List Bool)) (hlt : x.2.length < c.loans.length) (hx : x.1.length = c.homes.length) (hW : Below W.heap.size W w) (hp : OwnT w W.heap.size x p) (ho : Outs w W.heap.size out L)
    (hL : L.length + (goOn c (c.loans.drop x.2.length) x.1 x.2).length ≤ 2000) (hmany : ¬ c.wrong < (wrongs x.2 : Int))
    (IH : ∀ (x' : List Int × List Bool) (w' : World) (p' : Value × Value) (out' : Value) (L' : List (List Int × List Bool)), x'.2.length = x.2.length + 1 → x'.1.length = c.homes.length → Below W.heap.size W w' → OwnT w' W.heap.size x' p' → Outs w' W.heap.size out' L' →
      L'.length + (goOn c (c.loans.drop x'.2.length) x'.1 x'.2).length ≤ 2000 → Calls Try.prog 80 #[c.v ah ch al cl, .agg #[p'.1, p'.2], out'] w' (TruthsPost W.heap.size w' out' (L' ++ goOn c (c.loans.drop x'.2.length) x'.1 x'.2))) (hkind : (gl c.loans x.2.length).kind = 1) :
    Calls Try.prog 80 #[c.v ah ch al cl, .agg #[p.1, p.2], out] w (TruthsPost W.heap.size w out (L ++ goOn c (c.loans.drop x.2.length) x.1 x.2)) := by
    obtain ⟨⟨kd, ca, pe, sl⟩, hll⟩ : ∃ l : Ln, gl c.loans x.2.length = l := ⟨_, rfl⟩
    have hlok := loan_ok' hok hlt
    have hdrop := drop_loan hlt
    rw [hll] at hkind hlok hdrop
    rw [hdrop, goOn_cons] at hL ⊢
    simp only at hkind
    subst hkind
    have hcard : c.card ca = true := by
      simp [Cab.loanOk, Cab.lent] at hlok
      exact hlok.1
    obtain ⟨j, hj1, hj2⟩ := card_in (c := c) (l := ⟨0, ca, pe, sl⟩) hcard
    simp only at hj1
    subst hj1
    have hjx : j < x.1.length := by omega
    have hle : ((x.2.length : Int) == (c.loans.length : Int)) = false := by simp; omega
    have hdm : decide (c.wrong < (wrongs x.2 : Int)) = false := by simpa using hmany
    have hln : x.2.length ≤ c.loans.length := by omega
    obtain ⟨p1, p2⟩ := p
    obtain ⟨pa, pc, rfl, pi⟩ := own_ints hp.1 rfl
    obtain ⟨qa, qc, rfl, qi⟩ := own_bools hp.2 rfl
    obtain ⟨W1, hW1⟩ : ∃ W1 : World, W1 = (w.alloc (.cells #[.int .i64 c.slots, .slice ah c.homes.length ch, .int .i64 c.wrong, .slice al c.loans.length cl] 25)).alloc (.cells #[.slice pa x.1.length pc, .slice qa x.2.length qc] 56) := ⟨_, rfl⟩
    have hb1 : Below w.heap.size w W1 := by rw [hW1]; exact ((Below.refl _ w).alloc (Nat.le_refl _) _).alloc (by simp) _
    have hz1 : W1.heap.size = w.heap.size + 2 := by rw [hW1]; simp
    have hA : W1.heap[w.heap.size]? = some (.cells (c.cells ah ch al cl) 25 (0, 0)) := by rw [hW1]; exact heap_alloc2_0 _ _ _
    have hB : W1.heap[w.heap.size + 1]? = some (.cells #[.slice pa x.1.length pc, .slice qa x.2.length qc] 56 (0, 0)) := by
      rw [hW1]
      have := World.alloc_heap_new (w.alloc (.cells (c.cells ah ch al cl) 25)) (.cells #[.slice pa x.1.length pc, .slice qa x.2.length qc] 56)
      rwa [World.size_alloc] at this
    have hT : IsTruth W1 x (.slice pa x.1.length pc) (.slice qa x.2.length qc) := IsTruth.mono ⟨⟨_, _, rfl, pi⟩, ⟨_, _, rfl, qi⟩⟩ hb1
    have a0 : ∀ o, W1.cell? ⟨w.heap.size, o, none⟩ = (c.cells ah ch al cl)[o]? := fun o => cell_of_heap hA
    have a1 : ∀ o, W1.cell? ⟨w.heap.size + 1, o, none⟩ = (#[.slice pa x.1.length pc, .slice qa x.2.length qc] : Array Value)[o]? := fun o => cell_of_heap hB
    have c0 : W1.cell? ⟨w.heap.size, 0, none⟩ = some (.int .i64 c.slots) := a0 0
    have c1 : W1.cell? ⟨w.heap.size, 1, none⟩ = some (.slice ah c.homes.length ch) := a0 1
    have c2 : W1.cell? ⟨w.heap.size, 2, none⟩ = some (.int .i64 c.wrong) := a0 2
    have c3 : W1.cell? ⟨w.heap.size, 3, none⟩ = some (.slice al c.loans.length cl) := a0 3
    have t0 : W1.cell? ⟨w.heap.size + 1, 0, none⟩ = some (.slice pa x.1.length pc) := a1 0
    have t1 : W1.cell? ⟨w.heap.size + 1, 1, none⟩ = some (.slice qa x.2.length qc) := a1 1
    have x0 := fun y : Aft W1.heap.size W1 => cell_stays y.h t0
    have x1 := fun y : Aft W1.heap.size W1 => cell_stays y.h t1
    have x2 := fun y : Aft W1.heap.size W1 => cell_stays y.h c2
    have hm : x.2.length ≤ 100 := by omega
    obtain ⟨lb, lo, rfl, l0, l1, l2, l3⟩ := li x.2.length hlt
    rw [hll] at l0 l1 l2 l3
    simp only at l0 l1 l2 l3
    by_cases hg : gi x.1 j = -1
    · have hstep : step c x.1 ⟨1, j, pe, sl⟩ = (List.range c.slots.toNat).filterMap (backF c x.1 j) := step_back c x.1 j pe sl hg
      rw [hstep] at hL ⊢
      have hgb : (gi x.1 j == -1) = true := by simp [hg]
      obtain ⟨ls, hls⟩ : ∃ ls, c.loans.drop (x.2.length + 1) = ls := ⟨_, rfl⟩
      obtain ⟨S, hS⟩ : ∃ S : Nat, c.slots = S := ⟨c.slots.toNat, by omega⟩
      have hLL : L.length + (backL c x ls j S).length ≤ 2000 := by rw [hls, hS] at hL; exact hL
      have HLS := Lib.hid hls
      have HS := Lib.hid hS
      have hS6 : S ≤ 6 := by omega
      have HG := Lib.hid hgb
      have HLL := Lib.hid hLL
      obtain ⟨xb, xo, rfl, hcell⟩ := hi.at hj2
      have hhj := hcell j hj2
      clear hg hstep hls hS hlok hdrop hmany hLL
      have HN := Lib.hid (And.intro hW1 (And.intro hx (And.intro hz1 hll)))
      have HX := Lib.hid hx
      have HIH := Lib.hid IH
      have HL := Lib.hid hL
      have hz1' := Lib.hid hz1
      clear hx hz1 hW1 a0 a1 hA hB hL IH hll
      go_enter Try.func80, Try.ntmps80
      go_wp2
      have hW1 := HN.out.1
      rw [← hW1]
      clear hW1
      refine wp_region_aft mixed (by kernel_rfl) ?_
      repeat (go_big_quiet_step ((go_at_call 87; exact calls_aft (rwrongs_any (hT.mono (Aft.h _)) hm))))
      refine wpQuiet_nil ?_
      rintro _ ⟨y, rfl⟩
      have y0 := cell_stays y.h c0
      have y1 := cell_stays y.h c1
      have y2 := cell_stays y.h c2
      have y3 := cell_stays y.h c3
      have z0 := cell_stays y.h t0
      have z1 := cell_stays y.h t1
      clear x0 x1 x2 c0 c1 c2 c3 t0 t1
      have hby : Below w.heap.size w y.v := bst hb1 y.h
      have hWy : Below W.heap.size W y.v := hW.trans (hby.mono hW.size)
      have k0 := cell_stays hWy l0
      have k1 := cell_stays hWy l1
      have k2 := cell_stays hWy l2
      have k3 := cell_stays hWy l3
      clear l0 l1 l2 l3
      have ly := lt_of_cell y0
      have lz := lt_of_cell z0
      have lk := lt_of_cell k0
      have hTy := (hT.mono y.h)
      obtain ⟨ab, ao, rfl, ac⟩ := pi.mono hby j hjx
      have lac := lt_of_cell ac
      go_wp2
      obtain ⟨w2, hw2⟩ : ∃ w2 : World, w2 = y.v.alloc (.cells #[(.int .i64 1), (.int .i64 j), (.int .i64 pe), (.int .i64 sl)] 48) := ⟨_, rfl⟩
      have hby2 : Below y.v.heap.size y.v w2 := by rw [hw2]; exact (Below.refl _ y.v).alloc (Nat.le_refl _) _
      have hb2 : Below w.heap.size w w2 := bst hby hby2
      have hz2 : w2.heap.size = y.v.heap.size + 1 := by rw [hw2]; simp
      have h7 : w2.heap[y.v.heap.size]? = some (.cells #[(.int .i64 1), (.int .i64 j), (.int .i64 pe), (.int .i64 sl)] 48 (0, 0)) := by rw [hw2]; exact World.alloc_heap_new _ _
      have m0 : w2.cell? ⟨y.v.heap.size, 0, none⟩ = some (.int .i64 1) := by rw [cell_of_heap h7]; rfl
      have m1 : w2.cell? ⟨y.v.heap.size, 1, none⟩ = some (.int .i64 j) := by rw [cell_of_heap h7]; rfl
      have m3 : w2.cell? ⟨y.v.heap.size, 3, none⟩ = some (.int .i64 sl) := by rw [cell_of_heap h7]; rfl
      have v0 := cell_stays hby2 y0
      have v1 := cell_stays hby2 y1
      have v2 := cell_stays hby2 y2
      have v3 := cell_stays hby2 y3
      have u0 := cell_stays hby2 z0
      have u1 := cell_stays hby2 z1
      have hT2 := hTy.mono hby2
      have hO2 := ho.below hb2
      have hp2 := OwnT.below hp hb2
      have hW2 : Below W.heap.size W w2 := hWy.trans (hby2.mono hWy.size)
      have hWs : W.heap.size ≤ w.heap.size := hW.size
      have hws : w.heap.size + 2 ≤ y.v.heap.size := by have := y.h.size; have := hz1'.out; omega
      have HMlt : Hid (∀ k, out.ownBlock = some k → k < w.heap.size) := fun k hk => (ho.lt k hk).2
      have HZ2 := Lib.hid hz2
      rw [← hw2]
      clear hw2 hz2
      have ac2 := cell_stays hby2 ac
      have hom2 := cell_stays hW2 hhj
      have lho := lt_of_cell hhj
      have lab : W.heap.size ≤ ab := by
        obtain ⟨g, cap', he, hg1, _⟩ := own_cell hp.1 (by omega)
        simp only [Value.slice.injEq, Option.some.injEq, Addr.mk.injEq, and_true, true_and] at he
        omega
      clear hTy hT y0 y1 y2 y3 z0 z1 k0 k1 k2 k3 h7
      have hrow : ∃ n xs, w2.ownsRow W.heap.size 56 2 out n xs := by
        obtain ⟨vs, h1, h2, h3⟩ := hO2
        exact ⟨_, _, h2⟩
      have n3 : ¬ out.ownBlock = some w.heap.size := fun e => by have := HMlt.out _ e; omega
      have n4 : ¬ out.ownBlock = some (w.heap.size + 1) := fun e => by have := HMlt.out _ e; omega
      have n7 : ¬ out.ownBlock = some y.v.heap.size := fun e => by have := HMlt.out _ e; omega
      have nab : ¬ out.ownBlock = some ab := fun e => by
        obtain ⟨n, xs, h⟩ := hrow
        rcases own_apart hp2.1 h (by decide) with h | h
        · simp [Value.ownBlock] at h
        · exact h (by rw [e]; rfl)
      have nxb : ¬ out.ownBlock = some xb := fun e => by have := (ho.lt _ e).1; omega
      have hx5' : x.1.length ≤ 5 := by have := HX.out; omega
      have HM := Lib.hid (And.intro v0 (And.intro v1 (And.intro v2 (And.intro v3 (And.intro u0 (And.intro u1 (And.intro m1 (And.intro ac2 (And.intro hom2 (And.intro hrow (And.intro hp2 (And.intro n3 (And.intro n4 (And.intro n7 (And.intro nab nxb)))))))))))))))
      have HO2 := Lib.hid hO2
      have HW2 := Lib.hid hW2
      have HB2 := Lib.hid hb2
      have HWS := Lib.hid (And.intro hWs hws)
      clear v0 v1 v2 v3 u0 u1 m0 m1 m3 ac2 hom2 hrow hp2 n3 n4 n7 nab nxb hT2 hO2 hW2 hb2 ac hhj hcell hi li hby2 hby hWy hb1 ho hp hWs hws hle hdm hlt hW hgb
      go_loopw [2, 8] (fun o i wr => ∃ (k : Nat) (ou : Value), ou = o ∧ (k : Int) ≤ c.slots ∧ i = .int .i64 k ∧ Hid (Outs wr W.heap.size ou (L ++ backL c x ls j k) ∧ Same (fun g => out.ownBlock = some g) w2 wr ∧ ∀ g, ou.ownBlock = some g → out.ownBlock = some g ∨ w2.heap.size ≤ g)) (fun _ i _ => c.slots.toNat - (intOf i).toNat)
      case atStart => exact ⟨0, out, rfl, by omega, rfl, by simpa [backL] using HO2.out, Same.refl _ _, fun g h => .inl h⟩
      case round =>
        obtain ⟨k, ou, rfl, hk, rfl, HR⟩ := hrel
        obtain ⟨v0, v1, v2, v3, u0, u1, m1, ac2, hom2, hrow, hp2, n3, n4, n7, nab, nxb⟩ := HM.out
        obtain ⟨hOr, hSr, hfr⟩ := HR.out
        have hgr : w2.grownBy wr out.ownBlock := ⟨hSr.os, hSr.tape, hSr.output, hSr.size, fun k hk hne => hSr.block k hk (fun e => hne e.symm)⟩
        have hpr : OwnT wr W.heap.size x (Value.slice (some ⟨ab, ao, none⟩) x.1.length pc, Value.slice qa x.2.length qc) := by
          obtain ⟨n, xs, h⟩ := hrow
          exact OwnT.kept hp2 h hgr
        have hTr := hpr.is
        have v0 := hSr.cell v0 n3
        have v1 := hSr.cell v1 n3
        have v2 := hSr.cell v2 n3
        have v3 := hSr.cell v3 n3
        have u0 := hSr.cell u0 n4
        have u1 := hSr.cell u1 n4
        have m1 := hSr.cell m1 n7
        have ac2 := hSr.cell ac2 nab
        have hom2 := hSr.cell hom2 nxb
        have hszr : w2.heap.size ≤ wr.heap.size := hSr.size
        have HWr : Hid (Below W.heap.size W wr) := HW2.out.trans (hSr.below HW2.out.size (fun q hq e => by
          obtain ⟨n, xs, h⟩ := hrow
          have := (h.lt _ e).1
          omega))
        have m3' : ¬ ou.ownBlock = some w.heap.size := fun e => by
          rcases hfr _ e with h | h
          · exact n3 h
          · have := HWS.out.2; have := HZ2.out; omega
        have m4' : ¬ ou.ownBlock = some (w.heap.size + 1) := fun e => by
          rcases hfr _ e with h | h
          · exact n4 h
          · have := HWS.out.2; have := HZ2.out; omega
        have m7' : ¬ ou.ownBlock = some y.v.heap.size := fun e => by
          rcases hfr _ e with h | h
          · exact n7 h
          · have := HZ2.out; omega
        have mxb : ¬ ou.ownBlock = some xb := fun e => by
          rcases hfr _ e with h | h
          · exact nxb h
          · have := HWS.out; have := HZ2.out; omega
        clear hrow hp2 n3 n4 n7 nab nxb hgr hpr
        by_cases hkl : (k : Int) < c.slots
        · have HKL := Lib.hid hkl
          have hgb : (gi x.1 j == -1) = true := HG.out
          have hTd := hTr.mono (Below.refl _ wr)
          by_cases hli : lies x.1 (k : Int) = -1
          · have hlb : (lies x.1 (k : Int) == -1) = true := by simp [hli]
            have HBS := Lib.hid (@backL_some c x ls j k hli)
            have hcount : (backL c x ls j (k + 1)).length ≤ (backL c x ls j S).length := by
              have := @backL_le c x ls j (k + 1) (S - (k + 1))
              have hS' := HS.out
              rw [show k + 1 + (S - (k + 1)) = S by omega] at this
              exact this
            clear hli
            by_cases he : (k : Int) = gi c.homes j
            · have hbe : ((k : Int) == gi c.homes j) = true := by simp [he]
              have hbn : ((k : Int) != gi c.homes j) = false := by simp [he]
              have HLk : Hid ((L ++ backL c x ls j k).length + (goOn c ls (x.1.set j k) (x.2 ++ [false])).length ≤ 2000) := by
                have h1 := HBS.out
                have hb : (!decide ((k : Int) = gi c.homes j)) = false := by simp [he]
                rw [hb] at h1
                rw [h1, List.length_append] at hcount
                have := HLL.out
                rw [Hid, List.length_append]
                omega
              have HB1 : Hid (backL c x ls j (k + 1) = backL c x ls j k ++ goOn c ls (x.1.set j k) (x.2 ++ [false])) := by
                have hb : (!decide ((k : Int) = gi c.homes j)) = false := by simp [he]
                have h1 := HBS.out
                rw [hb] at h1
                exact h1
              clear hcount he
              go_wp2_with fail
              refine (rlies_any hTr hx5' (k : Int)).mono ?_
              rintro e w6 ⟨rfl, hb6⟩
              have v0 := cell_stays hb6 v0
              have v1 := cell_stays hb6 v1
              have v2 := cell_stays hb6 v2
              have v3 := cell_stays hb6 v3
              have u0 := cell_stays hb6 u0
              have u1 := cell_stays hb6 u1
              have m1 := cell_stays hb6 m1
              have hom2 := cell_stays hb6 hom2
              have hT2 := hTr.mono hb6
              have hO2 := hOr.below hb6
              have hW2 : Below W.heap.size W w6 := HWr.out.trans (hb6.mono HWr.out.size)
              have n3 := m3'
              have n4 := m4'
              have n7 := m7'
              go_wp2_with fail
              have KP : Hid (∀ w', Same (fun k => ou.ownBlock = some k) w6 w' → (w'.cell? ⟨w.heap.size, 0, none⟩ = some (.int .i64 c.slots) ∧ w'.cell? ⟨w.heap.size, 1, none⟩ = some (.slice (some ⟨xb, xo, none⟩) c.homes.length ch) ∧ w'.cell? ⟨w.heap.size, 2, none⟩ = some (.int .i64 c.wrong) ∧ w'.cell? ⟨w.heap.size, 3, none⟩ = some (.slice (some ⟨lb, lo, none⟩) c.loans.length cl) ∧ w'.cell? ⟨w.heap.size + 1, 0, none⟩ = some (.slice (some ⟨ab, ao, none⟩) x.1.length pc) ∧ w'.cell? ⟨w.heap.size + 1, 1, none⟩ = some (.slice qa x.2.length qc) ∧ w'.cell? ⟨y.v.heap.size, 1, none⟩ = some (.int .i64 j) ∧ w'.cell? ⟨xb, xo + j, none⟩ = some (.int .i64 (gi c.homes j)) ∧ Same (fun k => ou.ownBlock = some k) w6 w')) :=
                fun w' hS => ⟨hS.cell v0 n3, hS.cell v1 n3, hS.cell v2 n3, hS.cell v3 n3, hS.cell u0 n4, hS.cell u1 n4, hS.cell m1 n7, hS.cell hom2 mxb, hS⟩
              obtain ⟨_, _, e1, i1⟩ := hT2.at_
              obtain ⟨_, _, e2, i2⟩ := hT2.wr
              cases e1
              cases e2
              have HI := Lib.hid (And.intro i1 i2)
              have HO2 := Lib.hid hO2
              have HW2 := Lib.hid hW2
              have hx5 : x.1.length ≤ 5 := by have := HX.out; omega
              have hxs : W.heap.size ≤ w6.heap.size := hW2.size
              clear v0 v1 v2 v3 u0 u1 i1 i2 hT2 hO2 hW2 m1 hom2
              go_region_held3 (fun w' => w'.cell? ⟨w.heap.size, 0, none⟩ = some (.int .i64 c.slots) ∧ w'.cell? ⟨w.heap.size, 1, none⟩ = some (.slice (some ⟨xb, xo, none⟩) c.homes.length ch) ∧ w'.cell? ⟨w.heap.size, 2, none⟩ = some (.int .i64 c.wrong) ∧ w'.cell? ⟨w.heap.size, 3, none⟩ = some (.slice (some ⟨lb, lo, none⟩) c.loans.length cl) ∧ w'.cell? ⟨w.heap.size + 1, 0, none⟩ = some (.slice (some ⟨ab, ao, none⟩) x.1.length pc) ∧ w'.cell? ⟨w.heap.size + 1, 1, none⟩ = some (.slice qa x.2.length qc) ∧ w'.cell? ⟨y.v.heap.size, 1, none⟩ = some (.int .i64 j) ∧ w'.cell? ⟨xb, xo + j, none⟩ = some (.int .i64 (gi c.homes j)) ∧ Same (fun k => ou.ownBlock = some k) w6 w') (first | exact KP.out _ S4 | exact KP.out _ S3 | exact KP.out _ (Same.refl _ w6).drew)
                (first
                  | (go_at_call 88; have C88 := (with_any (x := x) (ca := pc) (cb := qc) (HI.out.1.mono (Below.refl _ w6).drew) (HI.out.2.mono (Below.refl _ w6).drew) hx5 hm (j : Int) (k : Int) false (.inr ⟨by omega, by omega⟩)); (with_reducible refine C88.mono ?_); clear C88; rintro e w3 ⟨va, vb, rfl, o1, o2, hb3⟩; have S3 : Same (fun k => ou.ownBlock = some k) w6 w3 := (Same.refl _ w6).drew.trans (Same.of_below _ hb3); rw [if_neg (show ¬ (j : Int) = -1 by omega), Int.toNat_natCast] at o1)
                  | (go_at_call 80; have C80 := (HIH.out (x.1.set j (k : Int), x.2 ++ [false]) _ (va, vb) ou (L ++ backL c x ls j k) (by simp) (by have := HX.out; simp [this]) (HW2.out.trans (((Below.refl _ w6).drew.trans hb3).mono hxs)) ⟨by simpa using own_base o1 hxs, by simpa using own_base o2 hxs⟩ (HO2.out.below ((Below.refl _ w6).drew.trans hb3)) (by have := HLk.out; simp only [List.length_append, List.length_cons, List.length_nil, Nat.zero_add, HLS.out] at this ⊢; omega)); (with_reducible refine C80.mono ?_); clear C80; rintro e w4 ⟨v', rfl, hO4, hg4, hv4⟩; have S4 : Same (fun k => ou.ownBlock = some k) w6 w4 := S3.grown hg4 (fun k hk => .inl hk)))
              go_wp2_with fail
              go_roundw
              case rel =>
                refine ⟨k + 1, _, rfl, by have := HKL.out; omega, by go_num, ?_, ?_, ?_⟩
                · rw [HB1.out, ← List.append_assoc]
                  have := hO4
                  simp only [List.length_append, List.length_cons, List.length_nil, Nat.zero_add, HLS.out] at this
                  exact this
                · have hfr := HR.out.2.2
                  have A := HR.out.2.1.trans (Same.of_below (fun g => out.ownBlock = some g) hb6)
                  exact ⟨S4.os.trans A.os, S4.tape.trans A.tape, S4.output.trans A.output, Nat.le_trans A.size S4.size, fun q hq hn => (S4.block q (Nat.lt_of_lt_of_le hq A.size) (fun e => by
                    rcases hfr q e with h | h
                    · exact hn h
                    · omega)).trans (A.block q hq hn)⟩
                · intro g hg
                  rcases hv4 g hg with h | h
                  · exact HR.out.2.2 g h
                  · have := S3.size
                    have := hb6.size
                    exact .inr (by omega)
              case measure => have := HKL.out; simp [intOf]; omega
            · have hbe : ((k : Int) == gi c.homes j) = false := by simp [he]
              have hbn : ((k : Int) != gi c.homes j) = true := by simp [he]
              have HLk : Hid ((L ++ backL c x ls j k).length + (goOn c ls (x.1.set j k) (x.2 ++ [true])).length ≤ 2000) := by
                have h1 := HBS.out
                have hb : (!decide ((k : Int) = gi c.homes j)) = true := by simp [he]
                rw [hb] at h1
                rw [h1, List.length_append] at hcount
                have := HLL.out
                rw [Hid, List.length_append]
                omega
              have HB1 : Hid (backL c x ls j (k + 1) = backL c x ls j k ++ goOn c ls (x.1.set j k) (x.2 ++ [true])) := by
                have hb : (!decide ((k : Int) = gi c.homes j)) = true := by simp [he]
                have h1 := HBS.out
                rw [hb] at h1
                exact h1
              clear hcount he
              go_wp2_with fail
              refine (rlies_any hTr hx5' (k : Int)).mono ?_
              rintro e w6 ⟨rfl, hb6⟩
              have v0 := cell_stays hb6 v0
              have v1 := cell_stays hb6 v1
              have v2 := cell_stays hb6 v2
              have v3 := cell_stays hb6 v3
              have u0 := cell_stays hb6 u0
              have u1 := cell_stays hb6 u1
              have m1 := cell_stays hb6 m1
              have hom2 := cell_stays hb6 hom2
              have hT2 := hTr.mono hb6
              have hO2 := hOr.below hb6
              have hW2 : Below W.heap.size W w6 := HWr.out.trans (hb6.mono HWr.out.size)
              have n3 := m3'
              have n4 := m4'
              have n7 := m7'
              go_wp2_with fail
              have KP : Hid (∀ w', Same (fun k => ou.ownBlock = some k) w6 w' → (w'.cell? ⟨w.heap.size, 0, none⟩ = some (.int .i64 c.slots) ∧ w'.cell? ⟨w.heap.size, 1, none⟩ = some (.slice (some ⟨xb, xo, none⟩) c.homes.length ch) ∧ w'.cell? ⟨w.heap.size, 2, none⟩ = some (.int .i64 c.wrong) ∧ w'.cell? ⟨w.heap.size, 3, none⟩ = some (.slice (some ⟨lb, lo, none⟩) c.loans.length cl) ∧ w'.cell? ⟨w.heap.size + 1, 0, none⟩ = some (.slice (some ⟨ab, ao, none⟩) x.1.length pc) ∧ w'.cell? ⟨w.heap.size + 1, 1, none⟩ = some (.slice qa x.2.length qc) ∧ w'.cell? ⟨y.v.heap.size, 1, none⟩ = some (.int .i64 j) ∧ w'.cell? ⟨xb, xo + j, none⟩ = some (.int .i64 (gi c.homes j)) ∧ Same (fun k => ou.ownBlock = some k) w6 w')) :=
                fun w' hS => ⟨hS.cell v0 n3, hS.cell v1 n3, hS.cell v2 n3, hS.cell v3 n3, hS.cell u0 n4, hS.cell u1 n4, hS.cell m1 n7, hS.cell hom2 mxb, hS⟩
              obtain ⟨_, _, e1, i1⟩ := hT2.at_
              obtain ⟨_, _, e2, i2⟩ := hT2.wr
              cases e1
              cases e2
              have HI := Lib.hid (And.intro i1 i2)
              have HO2 := Lib.hid hO2
              have HW2 := Lib.hid hW2
              have hx5 : x.1.length ≤ 5 := by have := HX.out; omega
              have hxs : W.heap.size ≤ w6.heap.size := hW2.size
              clear v0 v1 v2 v3 u0 u1 i1 i2 hT2 hO2 hW2 m1 hom2
              go_region_held3 (fun w' => w'.cell? ⟨w.heap.size, 0, none⟩ = some (.int .i64 c.slots) ∧ w'.cell? ⟨w.heap.size, 1, none⟩ = some (.slice (some ⟨xb, xo, none⟩) c.homes.length ch) ∧ w'.cell? ⟨w.heap.size, 2, none⟩ = some (.int .i64 c.wrong) ∧ w'.cell? ⟨w.heap.size, 3, none⟩ = some (.slice (some ⟨lb, lo, none⟩) c.loans.length cl) ∧ w'.cell? ⟨w.heap.size + 1, 0, none⟩ = some (.slice (some ⟨ab, ao, none⟩) x.1.length pc) ∧ w'.cell? ⟨w.heap.size + 1, 1, none⟩ = some (.slice qa x.2.length qc) ∧ w'.cell? ⟨y.v.heap.size, 1, none⟩ = some (.int .i64 j) ∧ w'.cell? ⟨xb, xo + j, none⟩ = some (.int .i64 (gi c.homes j)) ∧ Same (fun k => ou.ownBlock = some k) w6 w') (first | exact KP.out _ S4 | exact KP.out _ S3 | exact KP.out _ (Same.refl _ w6).drew)
                (first
                  | (go_at_call 88; have C88 := (with_any (x := x) (ca := pc) (cb := qc) (HI.out.1.mono (Below.refl _ w6).drew) (HI.out.2.mono (Below.refl _ w6).drew) hx5 hm (j : Int) (k : Int) true (.inr ⟨by omega, by omega⟩)); (with_reducible refine C88.mono ?_); clear C88; rintro e w3 ⟨va, vb, rfl, o1, o2, hb3⟩; have S3 : Same (fun k => ou.ownBlock = some k) w6 w3 := (Same.refl _ w6).drew.trans (Same.of_below _ hb3); rw [if_neg (show ¬ (j : Int) = -1 by omega), Int.toNat_natCast] at o1)
                  | (go_at_call 80; have C80 := (HIH.out (x.1.set j (k : Int), x.2 ++ [true]) _ (va, vb) ou (L ++ backL c x ls j k) (by simp) (by have := HX.out; simp [this]) (HW2.out.trans (((Below.refl _ w6).drew.trans hb3).mono hxs)) ⟨by simpa using own_base o1 hxs, by simpa using own_base o2 hxs⟩ (HO2.out.below ((Below.refl _ w6).drew.trans hb3)) (by have := HLk.out; simp only [List.length_append, List.length_cons, List.length_nil, Nat.zero_add, HLS.out] at this ⊢; omega)); (with_reducible refine C80.mono ?_); clear C80; rintro e w4 ⟨v', rfl, hO4, hg4, hv4⟩; have S4 : Same (fun k => ou.ownBlock = some k) w6 w4 := S3.grown hg4 (fun k hk => .inl hk)))
              go_wp2_with fail
              go_roundw
              case rel =>
                refine ⟨k + 1, _, rfl, by have := HKL.out; omega, by go_num, ?_, ?_, ?_⟩
                · rw [HB1.out, ← List.append_assoc]
                  have := hO4
                  simp only [List.length_append, List.length_cons, List.length_nil, Nat.zero_add, HLS.out] at this
                  exact this
                · have hfr := HR.out.2.2
                  have A := HR.out.2.1.trans (Same.of_below (fun g => out.ownBlock = some g) hb6)
                  exact ⟨S4.os.trans A.os, S4.tape.trans A.tape, S4.output.trans A.output, Nat.le_trans A.size S4.size, fun q hq hn => (S4.block q (Nat.lt_of_lt_of_le hq A.size) (fun e => by
                    rcases hfr q e with h | h
                    · exact hn h
                    · omega)).trans (A.block q hq hn)⟩
                · intro g hg
                  rcases hv4 g hg with h | h
                  · exact HR.out.2.2 g h
                  · have := S3.size
                    have := hb6.size
                    exact .inr (by omega)
              case measure => have := HKL.out; simp [intOf]; omega
          · have hlb : (lies x.1 (k : Int) == -1) = false := by simpa using hli
            have HBN := Lib.hid (@backL_none c x ls j k hli)
            clear hli
            go_wp2_with fail
            refine (rlies_any hTr hx5' (k : Int)).mono ?_
            rintro e w6 ⟨rfl, hb6⟩
            go_wp2_with fail
            go_roundw
            case rel =>
              refine ⟨k + 1, _, rfl, by have := HKL.out; omega, by go_num, ?_, ?_, HR.out.2.2⟩
              · rw [HBN.out]; exact HR.out.1.below hb6
              · exact HR.out.2.1.trans (Same.of_below _ hb6)
            case measure => have := HKL.out; simp [intOf]; omega
        · have HKE := Lib.hid hkl
          have hkl' : c.slots ≤ (k : Int) := by omega
          clear hkl
          go_wp2_with fail
          go_ret
          have hb2 := HB2.out
          obtain ⟨hOr, hSr, hfr⟩ := HR.out
          have hsz := hb2.size
          refine ⟨_, rfl, ?_, ⟨hSr.os.trans hb2.os, hSr.tape.trans hb2.tape, hSr.output.trans hb2.output, Nat.le_trans hb2.size hSr.size, fun q hq hne => (hSr.block q (by omega) (fun e => hne e.symm)).trans (hb2.block q hq)⟩, fun g hg => ?_⟩
          · show Outs _ _ _ (L ++ backL c x (c.loans.drop (x.2.length + 1)) j c.slots.toNat)
            rw [HLS.out, show c.slots.toNat = k by omega]
            exact hOr
          · rcases hfr g hg with h | h
            · exact .inl h
            · exact .inr (by omega)
    · have hstep : step c x.1 ⟨1, j, pe, sl⟩ = [] := by simp [step, hg]
      rw [hstep] at hL ⊢
      simp only [List.flatMap_nil, List.append_nil]
      have hgb : (gi x.1 j == -1) = false := by simpa using hg
      clear hg hstep hlok hdrop hmany
      have HN := Lib.hid (And.intro hW1 (And.intro hx (And.intro hz1 hll)))
      clear hx hz1 hW1 a0 a1 hA hB hL IH hll
      go_enter Try.func80, Try.ntmps80
      go_wp2
      have hW1 := HN.out.1
      rw [← hW1]
      clear hW1
      refine wp_region_aft mixed (by kernel_rfl) ?_
      repeat (go_big_quiet_step ((go_at_call 87; exact calls_aft (rwrongs_any (hT.mono (Aft.h _)) hm))))
      refine wpQuiet_nil ?_
      rintro _ ⟨y, rfl⟩
      have y0 := cell_stays y.h c0
      have y1 := cell_stays y.h c1
      have y2 := cell_stays y.h c2
      have y3 := cell_stays y.h c3
      have z0 := cell_stays y.h t0
      have z1 := cell_stays y.h t1
      clear x0 x1 x2 c0 c1 c2 c3 t0 t1
      have hby : Below w.heap.size w y.v := bst hb1 y.h
      have hWy : Below W.heap.size W y.v := hW.trans (hby.mono hW.size)
      have k0 := cell_stays hWy l0
      have k1 := cell_stays hWy l1
      have k2 := cell_stays hWy l2
      have k3 := cell_stays hWy l3
      clear l0 l1 l2 l3
      have ly := lt_of_cell y0
      have lz := lt_of_cell z0
      have lk := lt_of_cell k0
      obtain ⟨ab, ao, rfl, ac⟩ := pi.mono hby j hjx
      have lac := lt_of_cell ac
      go_wp2
      go_loop [2, 8] (fun o i => out = o ∧ i = .int .i64 0) (fun _ _ => 0)
      case atStart => exact ⟨rfl, rfl⟩
      case round =>
        obtain ⟨rfl, rfl⟩ := hrel
        go_wp2
        go_ret
        have hbz := hby.alloc hby.size (.cells #[.int .i64 1, .int .i64 j, .int .i64 pe, .int .i64 sl] 48)
        exact ⟨_, rfl, ho.below hbz, grown_of_below hbz _, fun g h => .inl h⟩
end Go.Proofs.Ytlhobddaojdnoaa

namespace Go.Proofs.Ytlhobddaojdnoaa
open Go.RowKit
set_option linter.unusedVariables false

set_option maxRecDepth 100000 in
set_option maxHeartbeats 2000000 in
theorem truths_many {c : Cab} {ah : Option Addr} {ch : Nat} {al : Option Addr} {cl : Nat} {B : Nat}
    (x : List Int × List Bool) (w : World) (p : Value × Value) (out : Value) (L : List (List Int × List Bool)) (hn : x.2.length ≤ 12) (hp : OwnT w B x p) (ho : Outs w B out L) (hmany : c.wrong < (wrongs x.2 : Int)) :
    Calls Try.prog 80 #[c.v ah ch al cl, .agg #[p.1, p.2], out] w (TruthsPost B w out (L ++ goOn c (c.loans.drop x.2.length) x.1 x.2)) := by
    have IH : True := trivial
    have hx : True := trivial
    have hL : True := trivial
    obtain ⟨p1, p2⟩ := p
    obtain ⟨pa, pc, rfl, pi⟩ := own_ints hp.1 rfl
    obtain ⟨qa, qc, rfl, qi⟩ := own_bools hp.2 rfl
    obtain ⟨W1, hW1⟩ : ∃ W1 : World, W1 = (w.alloc (.cells #[.int .i64 c.slots, .slice ah c.homes.length ch, .int .i64 c.wrong, .slice al c.loans.length cl] 25)).alloc (.cells #[.slice pa x.1.length pc, .slice qa x.2.length qc] 56) := ⟨_, rfl⟩
    have hb1 : Below w.heap.size w W1 := by rw [hW1]; exact ((Below.refl _ w).alloc (Nat.le_refl _) _).alloc (by simp) _
    have hz1 : W1.heap.size = w.heap.size + 2 := by rw [hW1]; simp
    have hA : W1.heap[w.heap.size]? = some (.cells (c.cells ah ch al cl) 25 (0, 0)) := by rw [hW1]; exact heap_alloc2_0 _ _ _
    have hB : W1.heap[w.heap.size + 1]? = some (.cells #[.slice pa x.1.length pc, .slice qa x.2.length qc] 56 (0, 0)) := by
      rw [hW1]
      have := World.alloc_heap_new (w.alloc (.cells (c.cells ah ch al cl) 25)) (.cells #[.slice pa x.1.length pc, .slice qa x.2.length qc] 56)
      rwa [World.size_alloc] at this
    have hT : IsTruth W1 x (.slice pa x.1.length pc) (.slice qa x.2.length qc) := IsTruth.mono ⟨⟨_, _, rfl, pi⟩, ⟨_, _, rfl, qi⟩⟩ hb1
    have a0 : ∀ o, W1.cell? ⟨w.heap.size, o, none⟩ = (c.cells ah ch al cl)[o]? := fun o => cell_of_heap hA
    have a1 : ∀ o, W1.cell? ⟨w.heap.size + 1, o, none⟩ = (#[.slice pa x.1.length pc, .slice qa x.2.length qc] : Array Value)[o]? := fun o => cell_of_heap hB
    have c0 : W1.cell? ⟨w.heap.size, 0, none⟩ = some (.int .i64 c.slots) := a0 0
    have c1 : W1.cell? ⟨w.heap.size, 1, none⟩ = some (.slice ah c.homes.length ch) := a0 1
    have c2 : W1.cell? ⟨w.heap.size, 2, none⟩ = some (.int .i64 c.wrong) := a0 2
    have c3 : W1.cell? ⟨w.heap.size, 3, none⟩ = some (.slice al c.loans.length cl) := a0 3
    have t0 : W1.cell? ⟨w.heap.size + 1, 0, none⟩ = some (.slice pa x.1.length pc) := a1 0
    have t1 : W1.cell? ⟨w.heap.size + 1, 1, none⟩ = some (.slice qa x.2.length qc) := a1 1
    have x0 := fun y : Aft W1.heap.size W1 => cell_stays y.h t0
    have x1 := fun y : Aft W1.heap.size W1 => cell_stays y.h t1
    have x2 := fun y : Aft W1.heap.size W1 => cell_stays y.h c2
    have hm : x.2.length ≤ 100 := by omega
    rw [goOn_many hmany]
    rw [List.append_nil]
    have hdm : decide (c.wrong < (wrongs x.2 : Int)) = true := by simpa using hmany
    have HN := Lib.hid (And.intro hW1 (And.intro hn (And.intro hx hz1)))
    clear hn hx hz1 hW1 a0 a1 hA hB hL hmany IH
    go_enter Try.func80, Try.ntmps80
    go_wp2
    have hW1 := HN.out.1
    rw [← hW1]
    clear hW1
    refine wp_region_aft mixed (by kernel_rfl) ?_
    repeat (go_big_quiet_step ((go_at_call 87; exact calls_aft (rwrongs_any (hT.mono (Aft.h _)) hm))))
    refine wpQuiet_nil ?_
    rintro _ ⟨y, rfl⟩
    have y0 := cell_stays y.h c0
    have y1 := cell_stays y.h c1
    have y2 := cell_stays y.h c2
    have y3 := cell_stays y.h c3
    have z0 := cell_stays y.h t0
    have z1 := cell_stays y.h t1
    clear x0 x1 x2 c0 c1 c2 c3 t0 t1
    go_wp2
    go_ret
    have hby : Below w.heap.size w y.v := bst hb1 y.h
    exact ⟨_, rfl, ho.below hby, ⟨hby.os, hby.tape, hby.output, hby.size, fun k hk _ => hby.block k hk⟩, fun g h => .inl h⟩

theorem truths_any {c : Cab} {ah : Option Addr} {ch : Nat} {al : Option Addr} {cl : Nat} {W : World} (hi : IsInts W ah c.homes) (li : IsLoans W al c.loans) (hok : ∀ l ∈ c.loans, c.loanOk l = true) (hs : 1 ≤ c.slots ∧ c.slots ≤ 6) (hh : c.homes.length ≤ 5) (hl : c.loans.length ≤ 12) :
    ∀ (n : Nat) (x : List Int × List Bool) (w : World) (p : Value × Value) (out : Value) (L : List (List Int × List Bool)), x.2.length + n = c.loans.length → x.1.length = c.homes.length → Below W.heap.size W w → OwnT w W.heap.size x p → Outs w W.heap.size out L →
      L.length + (goOn c (c.loans.drop x.2.length) x.1 x.2).length ≤ 2000 →
      Calls Try.prog 80 #[c.v ah ch al cl, .agg #[p.1, p.2], out] w (TruthsPost W.heap.size w out (L ++ goOn c (c.loans.drop x.2.length) x.1 x.2)) := by
  intro n
  induction n with
  | zero =>
    intro x w p out L hn hx hW hp ho hL
    exact truths_done hl x w p out L (by omega) hp ho hW.size (by omega)
  | succ n ih =>
    intro x w p out L hn hx hW hp ho hL
    by_cases hmany : c.wrong < (wrongs x.2 : Int)
    · exact truths_many x w p out L (by omega) hp ho hmany
    · have IH := fun (x' : List Int × List Bool) (w' : World) (p' : Value × Value) (out' : Value) (L' : List (List Int × List Bool)) (h1 : x'.2.length = x.2.length + 1) => ih x' w' p' out' L' (by omega)
      have hlt : x.2.length < c.loans.length := by omega
      have hk : (gl c.loans x.2.length).kind = 0 ∨ (gl c.loans x.2.length).kind = 1 ∨ (gl c.loans x.2.length).kind = 2 := by
        have := loan_ok' hok hlt
        unfold Cab.loanOk at this
        split at this
        · exact .inl (by assumption)
        · split at this
          · exact .inr (.inl (by assumption))
          · split at this
            · exact .inr (.inr (by assumption))
            · cases this
      rcases hk with hk | hk | hk
      · exact rt_take hi li hok hs hh hl x w p out L hlt hx hW hp ho hL hmany IH hk
      · exact rt_back hi li hok hs hh hl x w p out L hlt hx hW hp ho hL hmany IH hk
      · exact rt_look hi li hok hs hh hl x w p out L hlt hx hW hp ho hL hmany IH hk

theorem step_append_run {P : Program} {ops : Array Oper} {w : World} {o : Oper} {a : Act} {K : Act → World → Prop} {Q : Exit → Act → World → Prop} {E : Prop} (hg : o.guard = none) (s x : Operand) (t : TypeId)
    (ho : o.op = .call { callee := .builtin .append, args := #[s, x], argTypes := #[t, t] }) (v xv v' : Value) (w' : World) (hs : a.eval s = v) (hx : a.eval x = xv)
    (hr : (Builtin.append_ #[t, t] o.type #[v, xv]).run P w = .ok v' w') (h : K (a.put o.dst v') w') : if Region.wanted o (yielded ops a.tmps) = true then Oper.wp P o a w K Q else E := by
  have hw : Region.wanted o (yielded ops a.tmps) = true := by simp [Region.wanted, hg]
  rw [if_pos hw]
  exact wp_append_run s x t ho v xv v' w' hs hx hr h
/-- What 'All' comes to: all truths, in the document's order, in memory of the call's own. -/
def AllPost (c : Cab) (w : World) (e : Ending) (w' : World) : Prop := ∃ v, e = .returned v ∧ Outs w' w.heap.size v (truths c) ∧ Below w.heap.size w w'
set_option maxRecDepth 100000 in
set_option maxHeartbeats 2000000 in
theorem allR_any {c : Cab} {ah : Option Addr} {ch : Nat} {al : Option Addr} {cl : Nat} {w : World} (hi : IsInts w ah c.homes) (li : IsLoans w al c.loans) (hok : ∀ l ∈ c.loans, c.loanOk l = true) (hs : 1 ≤ c.slots ∧ c.slots ≤ 6) (hh : c.homes.length ≤ 5) (hl : c.loans.length ≤ 12) (hb : backN c.loans ≤ 4) :
    Calls Try.prog 39 #[c.v ah ch al cl] w (AllPost c w) := by
  obtain ⟨W1, hW1⟩ : ∃ W1 : World, W1 = w.alloc (.cells #[.int .i64 c.slots, .slice ah c.homes.length ch, .int .i64 c.wrong, .slice al c.loans.length cl] 25) := ⟨_, rfl⟩
  have hb1 : Below w.heap.size w W1 := by rw [hW1]; exact (Below.refl _ w).alloc (Nat.le_refl _) _
  have hA : W1.heap[w.heap.size]? = some (.cells (c.cells ah ch al cl) 25 (0, 0)) := by rw [hW1]; exact World.alloc_heap_new _ _
  have hz1 : W1.heap.size = w.heap.size + 1 := by rw [hW1]; simp
  have a0 : ∀ o, W1.cell? ⟨w.heap.size, o, none⟩ = (c.cells ah ch al cl)[o]? := fun o => cell_of_heap hA
  have c0 : W1.cell? ⟨w.heap.size, 0, none⟩ = some (.int .i64 c.slots) := a0 0
  have c1 : W1.cell? ⟨w.heap.size, 1, none⟩ = some (.slice ah c.homes.length ch) := a0 1
  have c2 : W1.cell? ⟨w.heap.size, 2, none⟩ = some (.int .i64 c.wrong) := a0 2
  have c3 : W1.cell? ⟨w.heap.size, 3, none⟩ = some (.slice al c.loans.length cl) := a0 3
  obtain ⟨i0, hi0, hz0, hz1', hz2⟩ := info_parts infoI
  have hcount := truths_count hs.2 hb
  have HT := Lib.hid (truths_any (hi.mono hb1) (li.mono hb1) hok hs hh hl (ah := ah) (ch := ch) (cl := cl) c.loans.length (c.homes, []) )
  have HC := Lib.hid hcount
  have HI := Lib.hid (And.intro (hi.mono hb1) hb1)
  have HP : Hid (i0.zero = some (.int .i64 0) ∧ i0.size = 1 ∧ i0.bytes = 8 ∧ Try.prog.info? 3 = some i0) := ⟨hz0, hz1', hz2, hi0⟩
  have HW := Lib.hid (And.intro hW1 hz1)
  have HA := Lib.hid hA
  clear hW1 hb1 hA hz1 a0 hi0 hz0 hz1' hz2 hcount hi li hok
  have KP : Hid (∀ w', Below W1.heap.size W1 w' → (w'.cell? ⟨w.heap.size, 0, none⟩ = some (.int .i64 c.slots) ∧ w'.cell? ⟨w.heap.size, 1, none⟩ = some (.slice ah c.homes.length ch) ∧ w'.cell? ⟨w.heap.size, 2, none⟩ = some (.int .i64 c.wrong) ∧ w'.cell? ⟨w.heap.size, 3, none⟩ = some (.slice al c.loans.length cl) ∧ Below W1.heap.size W1 w')) :=
    fun w' h => ⟨cell_stays h c0, cell_stays h c1, cell_stays h c2, cell_stays h c3, h⟩
  clear c0 c1 c2 c3
  go_enter Try.func39, Try.ntmps39
  go_wp2
  have hW1 := HW.out.1
  rw [← hW1]
  clear hW1
  go_region_held3 (fun w' => w'.cell? ⟨w.heap.size, 0, none⟩ = some (.int .i64 c.slots) ∧ w'.cell? ⟨w.heap.size, 1, none⟩ = some (.slice ah c.homes.length ch) ∧ w'.cell? ⟨w.heap.size, 2, none⟩ = some (.int .i64 c.wrong) ∧ w'.cell? ⟨w.heap.size, 3, none⟩ = some (.slice al c.loans.length cl) ∧ Below W1.heap.size W1 w')
    (first | exact KP.out _ S4 | exact KP.out _ S3 | exact KP.out _ ((Below.refl _ W1).drew.alloc (Nat.le_refl _) _) | exact KP.out _ (Below.refl _ W1).drew)
    (first
      | (obtain ⟨v3, w3, hr3, O3, hg3⟩ := append_rows (P := Try.prog) (w := W1.drew.alloc (.cells #[] 3)) W1.heap.size 22 22 3 i0 _ 1 8 Try.underlying22 HP.out.2.2.2 HP.out.1 HP.out.2.1 HP.out.2.2.1 rfl (by decide) (.slice (some ⟨W1.heap.size, 0, none⟩) 0 0) 0 [] (World.ownsRow_made W1.drew #[] 0 (Nat.le_refl _) (by simp [maxLen]) (by simp)) ah c.homes.length ch (c.homes.map (Value.int .i64)) (by simp) (ints_of_news (HI.out.1.mono ((Below.refl _ W1).drew.alloc (Nat.le_refl _) _))) (one_ints _) (by simp [maxLen]; omega) (by omega) (by simp); rw [Nat.zero_add, List.nil_append] at O3; obtain ⟨a3, k3, e3, _⟩ := own_slice O3; subst e3; refine step_append_run rfl (.tmp 4) (.tmp 6) 22 rfl _ _ _ _ (by rfl) (by rfl) hr3 ?_; have S3 : Below W1.heap.size W1 w3 := ((Below.refl _ W1).drew.alloc (Nat.le_refl _) _).grown hg3 (by simp) (fun k hk => by simp [Value.ownBlock] at hk; subst hk; exact Nat.le_refl _); skip)
      | (go_at_call 80; have C80 := HT.out w3 (_, .slice none 0 0) (.slice none 0 0) [] (by simp) (by first | trivial | rfl) S3 ⟨O3, World.ownsRow_nil _ _ _ _⟩ (Outs.nil _ _) (by have := HC.out; simp [goOn_all]; omega); (with_reducible refine C80.mono ?_); clear C80; rintro e w4 ⟨v', rfl, hO4, hg4, hv4⟩; have S4 : Below W1.heap.size W1 w4 := S3.grown hg4 S3.size (fun k hk => by simp [Value.ownBlock] at hk)))
  go_wp2
  go_ret
  have hb := HI.out.2
  have hz := HW.out.2
  refine ⟨_, rfl, ?_, hb.trans (S4.mono (by omega))⟩
  have h : Outs w4 W1.heap.size v' (truths c) := by
    have := hO4
    simp [goOn_all] at this
    exact this
  obtain ⟨vs, h1, h2, h3⟩ := h
  exact ⟨vs, h1, own_base h2 (by omega), fun i x p hx hp => ⟨own_base (h3 i x p hx hp).1 (by omega), own_base (h3 i x p hx hp).2 (by omega)⟩⟩
end Go.Proofs.Ytlhobddaojdnoaa

