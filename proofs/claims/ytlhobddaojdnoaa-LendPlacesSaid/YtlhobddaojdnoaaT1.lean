/- The reference's truths: lists of truths in memory; a truth with one loan more. -/
import Derived.Test.YtlhobddaojdnoaaBase8
import Derived.Test.YtlhobddaojdnoaaR3
import Derived.Test.YtlhobddaojdnoaaL3
namespace Go.Proofs.Ytlhobddaojdnoaa
open Go.RowKit

theorem infoI : (Try.prog.info? 3).map (fun i => (i.zero, i.size, i.bytes)) = some (some (.int .i64 0), 1, 8) := by kernel_rfl
theorem infoB : (Try.prog.info? 4).map (fun i => (i.zero, i.size, i.bytes)) = some (some (.bool false), 1, 1) := by kernel_rfl
theorem infoT : (Try.prog.info? 56).map (fun i => (i.zero, i.size, i.bytes)) = some (some (.agg #[.slice none 0 0, .slice none 0 0]), 2, 48) := by kernel_rfl

/-- A slice's array holds these bools. -/
def IsBools (w : World) (a : Option Addr) (l : List Bool) : Prop :=
  ∀ i, i < l.length → ∃ b off, a = some ⟨b, off, none⟩ ∧ w.cell? ⟨b, off + i, none⟩ = some (.bool (gb l i))
theorem IsBools.mono {w w' : World} {a : Option Addr} {l : List Bool} (h : IsBools w a l) (hb : Below w.heap.size w w') : IsBools w' a l := fun i hi => by
  obtain ⟨b, off, ha, hc⟩ := h i hi
  exact ⟨b, off, ha, cell_stays hb hc⟩
theorem ints_of_news {w : World} {a : Option Addr} {l : List Int} (h : IsInts w a l) (hn : l.length ≠ 0) :
    ∃ ad, a = some ad ∧ ∀ j u, (l.map (Value.int .i64))[j]? = some u → w.cell? (ad.add j) = some u := by
  obtain ⟨b, off, rfl, _⟩ := h 0 (by omega)
  refine ⟨_, rfl, fun j u hj => ?_⟩
  have hlt := (List.getElem?_eq_some_iff.1 hj).1
  rw [List.length_map] at hlt
  obtain ⟨b', off', he, h0⟩ := h j hlt
  cases he
  have e : ((⟨b, off, none⟩ : Addr).add j) = ⟨b, off + j, none⟩ := by unfold Addr.add; split <;> simp_all
  rw [e, h0]
  rw [List.getElem?_map, List.getElem?_eq_getElem hlt] at hj
  simpa [gi, List.getElem?_eq_getElem hlt] using hj
theorem bools_of_news {w : World} {a : Option Addr} {l : List Bool} (h : IsBools w a l) (hn : l.length ≠ 0) :
    ∃ ad, a = some ad ∧ ∀ j u, (l.map Value.bool)[j]? = some u → w.cell? (ad.add j) = some u := by
  obtain ⟨b, off, rfl, _⟩ := h 0 (by omega)
  refine ⟨_, rfl, fun j u hj => ?_⟩
  have hlt := (List.getElem?_eq_some_iff.1 hj).1
  rw [List.length_map] at hlt
  obtain ⟨b', off', he, h0⟩ := h j hlt
  cases he
  have e : ((⟨b, off, none⟩ : Addr).add j) = ⟨b, off + j, none⟩ := by unfold Addr.add; split <;> simp_all
  rw [e, h0]
  rw [List.getElem?_map, List.getElem?_eq_getElem hlt] at hj
  simpa [gb, List.getElem?_eq_getElem hlt] using hj
theorem wp_append_run {P : Program} {w : World} {o : Oper} {a : Act} {K : Act → World → Prop} {Q : Exit → Act → World → Prop} (s x : Operand) (t : TypeId)
    (ho : o.op = .call { callee := .builtin .append, args := #[s, x], argTypes := #[t, t] }) (v xv v' : Value) (w' : World) (hs : a.eval s = v) (hx : a.eval x = xv)
    (hr : (Builtin.append_ #[t, t] o.type #[v, xv]).run P w = .ok v' w') (h : K (a.put o.dst v') w') : o.wp P a w K Q := by
  unfold Oper.wp execOp
  simp only [ho, resolve, invoke, builtin, Sem.run_bind, Sem.run_pure, Result.andThen_ok, List.map_toArray, List.map_cons, List.map_nil, hs, hx, hr]
  exact h
/-- Rows of unlike types lie in unlike blocks. -/
theorem own_apart {w : World} {B B' : Nat} {e e' : TypeId} {s s' n n' : Nat} {v v' : Value} {xs ys : List Value} (h : w.ownsRow B e s v n xs) (h' : w.ownsRow B' e' s' v' n' ys) (he : e ≠ e') : v.ownBlock = none ∨ v.ownBlock ≠ v'.ownBlock := by
  rcases h.2 with ⟨rfl, _⟩ | ⟨g, cap, cur, rfl, _, hg, _⟩
  · exact .inl rfl
  · right
    rcases h'.2 with ⟨rfl, _⟩ | ⟨g', cap', cur', rfl, _, hg', _⟩
    · simp [Value.ownBlock]
    · intro hc
      simp only [Value.ownBlock, Option.some.injEq] at hc
      subst hc
      rw [hg] at hg'
      simp only [Option.some.injEq, Obj.cells.injEq] at hg'
      exact he hg'.2.1
theorem own_block_ne {w : World} {B : Nat} {e t : TypeId} {s n : Nat} {v : Value} {xs : List Value} {g : Nat} {c : Array Value} (h : w.ownsRow B e s v n xs) (hg : w.heap[g]? = some (.cells c t (0, 0))) (he : e ≠ t) : some g ≠ v.ownBlock := by
  rcases h.2 with ⟨rfl, _⟩ | ⟨g', cap, cur, rfl, _, hg', _⟩
  · simp [Value.ownBlock]
  · intro hc
    simp only [Value.ownBlock, Option.some.injEq] at hc
    subst hc
    rw [hg] at hg'
    simp only [Option.some.injEq, Obj.cells.injEq] at hg'
    exact he hg'.2.1.symm

/-- What is known in the midst of 'with'. -/
structure WithF (W : World) (at_ : List Int) (bs : List Bool) (b : Bool) (va vb : Value) (p : Value) (d : Nat → Bool) (x9 x10 x11 x12 x13 x14 x15 x16 x17 x18 x19 x20 x21 : Value) (w : World) : Prop where
  same : Below W.heap.size W w
  o10 : d 10 = true → d 7 = true
  o11 : d 11 = true → d 3 = true ∧ d 10 = true
  o13 : d 13 = true → d 12 = true ∧ d 11 = true
  f0 : d 0 = true → d 3 = false → w.ownsRow W.heap.size 3 1 x10 0 []
  f1 : d 1 = true → ∃ g, p = .pointer (some ⟨g, 0, none⟩) ∧ x11 = .pointer (some ⟨g, 0, none⟩)
  f2 : d 2 = true → x12 = va
  f3 : d 3 = true → w.ownsRow W.heap.size 3 1 x13 at_.length (at_.map (Value.int .i64))
  f4 : d 4 = true → d 7 = false → w.ownsRow W.heap.size 4 1 x14 0 []
  f5 : d 5 = true → ∃ g, p = .pointer (some ⟨g, 0, none⟩) ∧ x15 = .pointer (some ⟨g, 1, none⟩)
  f6 : d 6 = true → x16 = vb
  f7 : d 7 = true → d 10 = false → w.ownsRow W.heap.size 4 1 x17 bs.length (bs.map Value.bool)
  f8 : d 8 = true → x18 = .bool b
  f9 : d 9 = true → d 10 = false → ∃ g, x19 = .slice (some ⟨g, 0, none⟩) 1 1 ∧ w.heap[g]? = some (.cells #[.bool b] 4 (0, 0)) ∧ (d 4 = true → d 7 = false → x14.ownBlock ≠ some g) ∧ (d 7 = true → x17.ownBlock ≠ some g)
  f10 : d 10 = true → w.ownsRow W.heap.size 4 1 x20 (bs.length + 1) (bs.map Value.bool ++ [.bool b])
  f11 : d 11 = true → x21 = .agg #[x13, x20]
  f12 : d 12 = true → ∃ g, x9 = .pointer (some ⟨g, 0, none⟩) ∧ w.heap[g]? = some (.cells (if d 13 then #[x13, x20] else #[.slice none 0 0, .slice none 0 0]) 56 (0, 0)) ∧ W.heap.size ≤ g
def WithI (W : World) (at_ : List Int) (bs : List Bool) (b : Bool) (va vb : Value) (t0 t1 t2 p8 : Value) (p : Value) (d : Nat → Bool) (a : Act) (w : World) : Prop :=
  ∃ x9 x10 x11 x12 x13 x14 x15 x16 x17 x18 x19 x20 x21, a = { tmps := #[t0, t1, t2, .bool b, p, undef, undef, undef, p8, x9, x10, x11, x12, x13, x14, x15, x16, x17, x18, x19, x20, x21, undef, undef, undef, undef, undef, undef, undef, undef], defers := [] } ∧
    WithF W at_ bs b va vb p d x9 x10 x11 x12 x13 x14 x15 x16 x17 x18 x19 x20 x21 w

theorem below_row {w : World} {B : Nat} {e : TypeId} {s n : Nat} {v : Value} {xs : List Value} (h : w.ownsRow B e s v n xs) : ∀ k, v.ownBlock = some k → B ≤ k := fun k hk => (h.lt k hk).1
theorem heap_lt {w : World} {g : Nat} {o : Obj} (h : w.heap[g]? = some o) : g < w.heap.size := (Array.getElem?_eq_some_iff.1 h).1
section
variable {W : World} {at_ : List Int} {bs : List Bool} {b : Bool} {va vb p : Value} {d : Nat → Bool} {x9 x10 x11 x12 x13 x14 x15 x16 x17 x18 x19 x20 x21 : Value} {w w' : World} {g : Nat}
/-- A new block. -/
theorem WithF.alloc (F : WithF W at_ bs b va vb p d x9 x10 x11 x12 x13 x14 x15 x16 x17 x18 x19 x20 x21 w) (o : Obj) : WithF W at_ bs b va vb p d x9 x10 x11 x12 x13 x14 x15 x16 x17 x18 x19 x20 x21 (w.alloc o) := by
  refine ⟨F.same.alloc F.same.size _, F.o10, F.o11, F.o13, fun h1 h2 => (F.f0 h1 h2).alloc _, F.f1, F.f2, fun h => (F.f3 h).alloc _, fun h1 h2 => (F.f4 h1 h2).alloc _, F.f5, F.f6, fun h1 h2 => (F.f7 h1 h2).alloc _, F.f8, fun h1 h2 => ?_, fun h => (F.f10 h).alloc _, F.f11, fun h => ?_⟩
  · obtain ⟨g, h3, h4, h5⟩ := F.f9 h1 h2
    exact ⟨g, h3, (Below.heap_alloc _ _ _ (heap_lt h4)).trans h4, h5⟩
  · obtain ⟨g, h3, h4, h5⟩ := F.f12 h
    exact ⟨g, h3, (Below.heap_alloc _ _ _ (heap_lt h4)).trans h4, h5⟩
theorem WithF.s0 (F : WithF W at_ bs b va vb p d x9 x10 x11 x12 x13 x14 x15 x16 x17 x18 x19 x20 x21 w) :
    WithF W at_ bs b va vb p (upd d 0) x9 (.slice (some ⟨w.heap.size, 0, none⟩) 0 0) x11 x12 x13 x14 x15 x16 x17 x18 x19 x20 x21 (w.alloc (.cells #[] 3)) := by
  have G := F.alloc (.cells #[] 3)
  refine ⟨G.same, G.o10, G.o11, G.o13, fun _ _ => ?_, G.f1, G.f2, G.f3, G.f4, G.f5, G.f6, G.f7, G.f8, G.f9, G.f10, G.f11, G.f12⟩
  exact World.ownsRow_made w #[] 0 F.same.size (by simp [maxLen]) (by simp)
theorem WithF.s1 (F : WithF W at_ bs b va vb (.pointer (some ⟨g, 0, none⟩)) d x9 x10 x11 x12 x13 x14 x15 x16 x17 x18 x19 x20 x21 w) :
    WithF W at_ bs b va vb (.pointer (some ⟨g, 0, none⟩)) (upd d 1) x9 x10 (.pointer (some ⟨g, 0, none⟩)) x12 x13 x14 x15 x16 x17 x18 x19 x20 x21 w :=
  ⟨F.same, F.o10, F.o11, F.o13, F.f0, fun _ => ⟨g, rfl, rfl⟩, F.f2, F.f3, F.f4, F.f5, F.f6, F.f7, F.f8, F.f9, F.f10, F.f11, F.f12⟩
theorem WithF.s2 (F : WithF W at_ bs b va vb p d x9 x10 x11 x12 x13 x14 x15 x16 x17 x18 x19 x20 x21 w) :
    WithF W at_ bs b va vb p (upd d 2) x9 x10 x11 va x13 x14 x15 x16 x17 x18 x19 x20 x21 w :=
  ⟨F.same, F.o10, F.o11, F.o13, F.f0, F.f1, fun _ => rfl, F.f3, F.f4, F.f5, F.f6, F.f7, F.f8, F.f9, F.f10, F.f11, F.f12⟩
theorem WithF.s3 (F : WithF W at_ bs b va vb p d x9 x10 x11 x12 x13 x14 x15 x16 x17 x18 x19 x20 x21 w) (hx : w.ownsRow W.heap.size 3 1 x10 0 []) {v : Value} (hn : w'.ownsRow W.heap.size 3 1 v at_.length (at_.map (Value.int .i64))) (hg : w.grownBy w' x10.ownBlock) (h11 : d 11 = false) (h12 : d 13 = false) :
    WithF W at_ bs b va vb p (upd d 3) x9 x10 x11 x12 v x14 x15 x16 x17 x18 x19 x20 x21 w' := by
  refine ⟨F.same.grown hg F.same.size (below_row hx), F.o10, fun h => (by have h' : d 11 = true := h; rw [h11] at h'; cases h'), F.o13, fun _ h => by simp [upd] at h, F.f1, F.f2, fun _ => hn, fun h1 h2 => ?_, F.f5, F.f6, fun h1 h2 => ?_, F.f8, fun h1 h2 => ?_, fun h => ?_, fun h => ?_, fun h => ?_⟩
  · exact (F.f4 h1 h2).kept hg (own_apart (F.f4 h1 h2) hx (by decide))
  · exact (F.f7 h1 h2).kept hg (own_apart (F.f7 h1 h2) hx (by decide))
  · obtain ⟨g, h3, h4, h5⟩ := F.f9 h1 h2
    exact ⟨g, h3, (hg.block g (heap_lt h4) (own_block_ne hx h4 (by decide))).trans h4, h5⟩
  · exact (F.f10 h).kept hg (own_apart (F.f10 h) hx (by decide))
  · have h' : d 11 = true := h
    rw [h11] at h'; cases h'
  · obtain ⟨g, h3, h4, h5⟩ := F.f12 h
    refine ⟨g, h3, (hg.block g (heap_lt h4) (own_block_ne hx h4 (by decide))).trans (h4.trans ?_), h5⟩
    have e : upd d 3 13 = false := h12
    rw [e, h12]
    rfl
theorem WithF.s4 (F : WithF W at_ bs b va vb p d x9 x10 x11 x12 x13 x14 x15 x16 x17 x18 x19 x20 x21 w) :
    WithF W at_ bs b va vb p (upd d 4) x9 x10 x11 x12 x13 (.slice (some ⟨w.heap.size, 0, none⟩) 0 0) x15 x16 x17 x18 x19 x20 x21 (w.alloc (.cells #[] 4)) := by
  have G := F.alloc (.cells #[] 4)
  refine ⟨G.same, G.o10, G.o11, G.o13, G.f0, G.f1, G.f2, G.f3, fun _ _ => ?_, G.f5, G.f6, G.f7, G.f8, fun h1 h2 => ?_, G.f10, G.f11, G.f12⟩
  · exact World.ownsRow_made w #[] 0 F.same.size (by simp [maxLen]) (by simp)
  · obtain ⟨g, h3, h4, h5, h6⟩ := F.f9 h1 h2
    have := heap_lt h4
    exact ⟨g, h3, (Below.heap_alloc _ _ _ this).trans h4, fun _ _ => by simp [Value.ownBlock]; omega, h6⟩
theorem WithF.s5 (F : WithF W at_ bs b va vb (.pointer (some ⟨g, 0, none⟩)) d x9 x10 x11 x12 x13 x14 x15 x16 x17 x18 x19 x20 x21 w) :
    WithF W at_ bs b va vb (.pointer (some ⟨g, 0, none⟩)) (upd d 5) x9 x10 x11 x12 x13 x14 (.pointer (some ⟨g, 1, none⟩)) x16 x17 x18 x19 x20 x21 w :=
  ⟨F.same, F.o10, F.o11, F.o13, F.f0, F.f1, F.f2, F.f3, F.f4, fun _ => ⟨g, rfl, rfl⟩, F.f6, F.f7, F.f8, F.f9, F.f10, F.f11, F.f12⟩
theorem WithF.s6 (F : WithF W at_ bs b va vb p d x9 x10 x11 x12 x13 x14 x15 x16 x17 x18 x19 x20 x21 w) :
    WithF W at_ bs b va vb p (upd d 6) x9 x10 x11 x12 x13 x14 x15 vb x17 x18 x19 x20 x21 w :=
  ⟨F.same, F.o10, F.o11, F.o13, F.f0, F.f1, F.f2, F.f3, F.f4, F.f5, fun _ => rfl, F.f7, F.f8, F.f9, F.f10, F.f11, F.f12⟩
theorem WithF.s7 (F : WithF W at_ bs b va vb p d x9 x10 x11 x12 x13 x14 x15 x16 x17 x18 x19 x20 x21 w) (hd7 : d 7 = false) (hd4 : d 4 = true) (hx : w.ownsRow W.heap.size 4 1 x14 0 []) {v : Value} (hn : w'.ownsRow W.heap.size 4 1 v bs.length (bs.map Value.bool)) (hg : w.grownBy w' x14.ownBlock)
    (hv : v.ownBlock = x14.ownBlock ∨ v.ownBlock = some w.heap.size) :
    WithF W at_ bs b va vb p (upd d 7) x9 x10 x11 x12 x13 x14 x15 x16 v x18 x19 x20 x21 w' := by
  have n10 : d 10 = false := by
    cases h : d 10 with
    | false => rfl
    | true => have := F.o10 h; rw [hd7] at this; cases this
  refine ⟨F.same.grown hg F.same.size (below_row hx), fun _ => rfl, F.o11, F.o13, fun h1 h2 => ?_, F.f1, F.f2, fun h => ?_, fun _ h => by simp [upd] at h, F.f5, F.f6, fun _ _ => hn, F.f8, fun h1 h2 => ?_, fun h => ?_, F.f11, fun h => ?_⟩
  · exact (F.f0 h1 h2).kept hg (own_apart (F.f0 h1 h2) hx (by decide))
  · exact (F.f3 h).kept hg (own_apart (F.f3 h) hx (by decide))
  · obtain ⟨g, h3, h4, h5, h6⟩ := F.f9 h1 h2
    have hne := h5 hd4 hd7
    have hlt := heap_lt h4
    refine ⟨g, h3, (hg.block g hlt (fun e => hne e.symm)).trans h4, fun _ h => by simp [upd] at h, fun _ => ?_⟩
    rcases hv with hv | hv
    · rw [hv]; exact hne
    · rw [hv]; simp; omega
  · have h' : d 10 = true := h
    rw [n10] at h'; cases h'
  · obtain ⟨g, h3, h4, h5⟩ := F.f12 h
    exact ⟨g, h3, (hg.block g (heap_lt h4) (own_block_ne hx h4 (by decide))).trans h4, h5⟩
theorem WithF.s8 (F : WithF W at_ bs b va vb p d x9 x10 x11 x12 x13 x14 x15 x16 x17 x18 x19 x20 x21 w) :
    WithF W at_ bs b va vb p (upd d 8) x9 x10 x11 x12 x13 x14 x15 x16 x17 (.bool b) x19 x20 x21 w :=
  ⟨F.same, F.o10, F.o11, F.o13, F.f0, F.f1, F.f2, F.f3, F.f4, F.f5, F.f6, F.f7, fun _ => rfl, F.f9, F.f10, F.f11, F.f12⟩
theorem WithF.s9 (F : WithF W at_ bs b va vb p d x9 x10 x11 x12 x13 x14 x15 x16 x17 x18 x19 x20 x21 w) :
    WithF W at_ bs b va vb p (upd d 9) x9 x10 x11 x12 x13 x14 x15 x16 x17 x18 (.slice (some ⟨w.heap.size, 0, none⟩) 1 1) x20 x21 (w.alloc (.cells #[.bool b] 4)) := by
  have G := F.alloc (.cells #[.bool b] 4)
  refine ⟨G.same, G.o10, G.o11, G.o13, G.f0, G.f1, G.f2, G.f3, G.f4, G.f5, G.f6, G.f7, G.f8, fun _ h2 => ?_, G.f10, G.f11, G.f12⟩
  refine ⟨w.heap.size, rfl, World.alloc_heap_new w _, fun h3 h4 => ?_, fun h3 => ?_⟩
  · intro e
    have := ((F.f4 h3 h4).lt _ e).2
    omega
  · intro e
    have := ((F.f7 h3 h2).lt _ e).2
    omega
theorem WithF.s10 (F : WithF W at_ bs b va vb p d x9 x10 x11 x12 x13 x14 x15 x16 x17 x18 x19 x20 x21 w) (hd7 : d 7 = true) (hx : w.ownsRow W.heap.size 4 1 x17 bs.length (bs.map Value.bool)) {v : Value} (hn : w'.ownsRow W.heap.size 4 1 v (bs.length + 1) (bs.map Value.bool ++ [.bool b])) (hg : w.grownBy w' x17.ownBlock) (h11 : d 11 = false) (h12 : d 13 = false) :
    WithF W at_ bs b va vb p (upd d 10) x9 x10 x11 x12 x13 x14 x15 x16 x17 x18 x19 v x21 w' := by
  refine ⟨F.same.grown hg F.same.size (below_row hx), fun _ => hd7, fun h => (by have h' : d 11 = true := h; rw [h11] at h'; cases h'), F.o13, fun h1 h2 => ?_, F.f1, F.f2, fun h => ?_, fun _ h => ?_, F.f5, F.f6, fun _ h => by simp [upd] at h, F.f8, fun _ h => by simp [upd] at h, fun _ => hn, fun h => ?_, fun h => ?_⟩
  · exact (F.f0 h1 h2).kept hg (own_apart (F.f0 h1 h2) hx (by decide))
  · exact (F.f3 h).kept hg (own_apart (F.f3 h) hx (by decide))
  · have h' : d 7 = false := h
    rw [hd7] at h'; cases h'
  · have h' : d 11 = true := h
    rw [h11] at h'; cases h'
  · obtain ⟨g, h3, h4, h5⟩ := F.f12 h
    refine ⟨g, h3, (hg.block g (heap_lt h4) (own_block_ne hx h4 (by decide))).trans (h4.trans ?_), h5⟩
    have e : upd d 10 13 = false := h12
    rw [e, h12]
    rfl
theorem WithF.s11 (F : WithF W at_ bs b va vb p d x9 x10 x11 x12 x13 x14 x15 x16 x17 x18 x19 x20 x21 w) (h3 : d 3 = true) (h10 : d 10 = true) :
    WithF W at_ bs b va vb p (upd d 11) x9 x10 x11 x12 x13 x14 x15 x16 x17 x18 x19 x20 (.agg #[x13, x20]) w :=
  ⟨F.same, F.o10, fun _ => ⟨h3, h10⟩, fun h => ⟨(F.o13 h).1, rfl⟩, F.f0, F.f1, F.f2, F.f3, F.f4, F.f5, F.f6, F.f7, F.f8, F.f9, F.f10, fun _ => rfl, F.f12⟩
theorem WithF.s12 (F : WithF W at_ bs b va vb p d x9 x10 x11 x12 x13 x14 x15 x16 x17 x18 x19 x20 x21 w) (h13 : d 13 = false) :
    WithF W at_ bs b va vb p (upd d 12) (.pointer (some ⟨w.heap.size, 0, none⟩)) x10 x11 x12 x13 x14 x15 x16 x17 x18 x19 x20 x21 (w.alloc (.cells #[.slice none 0 0, .slice none 0 0] 56)) := by
  have G := F.alloc (.cells #[.slice none 0 0, .slice none 0 0] 56)
  refine ⟨G.same, G.o10, G.o11, fun h => ⟨rfl, (G.o13 h).2⟩, G.f0, G.f1, G.f2, G.f3, G.f4, G.f5, G.f6, G.f7, G.f8, G.f9, G.f10, G.f11, fun _ => ⟨w.heap.size, rfl, ?_, F.same.size⟩⟩
  have e : upd d 12 13 = false := h13
  rw [e]
  exact World.alloc_heap_new w _
theorem WithF.not11 (F : WithF W at_ bs b va vb p d x9 x10 x11 x12 x13 x14 x15 x16 x17 x18 x19 x20 x21 w) (h : d 3 = false ∨ d 10 = false) : d 11 = false ∧ d 13 = false := by
  have h11 : d 11 = false := by
    cases e : d 11 with
    | false => rfl
    | true => have := F.o11 e; rcases h with h | h <;> simp_all
  refine ⟨h11, ?_⟩
  cases e : d 13 with
  | false => rfl
  | true => have := F.o13 e; simp_all
theorem WithF.s13 (F : WithF W at_ bs b va vb p d (.pointer (some ⟨g, 0, none⟩)) x10 x11 x12 x13 x14 x15 x16 x17 x18 x19 x20 x21 w) (h12 : d 12 = true) (h11 : d 11 = true) (hg : w.heap[g]? = some (.cells #[.slice none 0 0, .slice none 0 0] 56 (0, 0))) (hW : W.heap.size ≤ g)
    (hd : ∀ k, k < 13 → d k = true) : WithF W at_ bs b va vb p (upd d 13) (.pointer (some ⟨g, 0, none⟩)) x10 x11 x12 x13 x14 x15 x16 x17 x18 x19 x20 x21 ((w.setCell ⟨g, 0, none⟩ x13).setCell ⟨g, 1, none⟩ x20) := by
  have h1 : w.grownBy ((w.setCell ⟨g, 0, none⟩ x13).setCell ⟨g, 1, none⟩ x20) (some g) := ⟨rfl, rfl, rfl, by simp [World.setCell], fun k hk hne => by
    rw [Below.heap_setCell _ _ _ _ (fun e => hne (by rw [e])), Below.heap_setCell _ _ _ _ (fun e => hne (by rw [e]))]⟩
  have a3 := F.f3 (hd 3 (by decide))
  have a10 := F.f10 (hd 10 (by decide))
  have n3 := own_block_ne a3 hg (by decide)
  have n10 := own_block_ne a10 hg (by decide)
  refine ⟨(F.same.setCell hW _).setCell hW _, F.o10, F.o11, fun _ => ⟨h12, h11⟩, fun _ h => ?_, F.f1, F.f2, fun _ => a3.kept h1 (.inr (Ne.symm n3)), fun _ h => ?_, F.f5, F.f6, fun _ h => ?_, F.f8, fun _ h => ?_, fun _ => a10.kept h1 (.inr (Ne.symm n10)), F.f11, fun _ => ⟨g, rfl, ?_, hW⟩⟩
  · have h' : d 3 = false := h
    rw [hd 3 (by decide)] at h'; cases h'
  · have h' : d 7 = false := h
    rw [hd 7 (by decide)] at h'; cases h'
  · have h' : d 10 = false := h
    rw [hd 10 (by decide)] at h'; cases h'
  · have h' : d 10 = false := h
    rw [hd 10 (by decide)] at h'; cases h'
  · rw [heap_setCell_at (heap_setCell_at hg _) _]
    simp [upd]
end
theorem res_c56 {fn : Func} {p : Tmp} (h : fn.results = #[.cell p 56]) (tmps : Array Value) {w : World} {b : Nat} {u v : Value} (hp : tmps.getD p undef = .pointer (some ⟨b, 0, none⟩))
    (h0 : w.cell? ⟨b, 0, none⟩ = some u) (h1 : w.cell? ⟨b, 1, none⟩ = some v) : (results fn tmps).run Try.prog w = .ok (.agg #[u, v]) w := by
  have hp' : tmps[p]?.getD undef = .pointer (some ⟨b, 0, none⟩) := by simpa using hp
  simp [results, h, hp', h0, h1, go_sem]
theorem own_base {w : World} {B B' : Nat} {e : TypeId} {s n : Nat} {v : Value} {xs : List Value} (h : w.ownsRow B e s v n xs) (hB : B' ≤ B) : w.ownsRow B' e s v n xs := by
  refine ⟨h.1, ?_⟩
  rcases h.2 with h2 | ⟨g, cap, cur, hv, hg, r⟩
  · exact .inl h2
  · exact .inr ⟨g, cap, cur, hv, Nat.le_trans hB hg, r⟩
theorem map_set_int (l : List Int) (j : Nat) (v : Int) : (l.map (Value.int .i64)).set j (.int .i64 v) = (l.set j v).map (Value.int .i64) := by rw [List.map_set]
theorem one_ints (l : List Int) : ∀ u ∈ l.map (Value.int .i64), u.oneCell' = true := by
  intro u hu
  obtain ⟨x, _, rfl⟩ := List.mem_map.1 hu
  rfl
theorem one_bools (l : List Bool) : ∀ u ∈ l.map Value.bool, u.oneCell' = true := by
  intro u hu
  obtain ⟨x, _, rfl⟩ := List.mem_map.1 hu
  rfl
theorem below_in {w W w1 : World} {o o' : Obj} (h : W = (w.alloc o).alloc o') (hb : Below W.heap.size W w1) : Below w.heap.size w w1 := by
  subst h
  exact (((Below.refl _ w).alloc (Nat.le_refl _) _).alloc (by simp) _).trans (hb.mono (by simp; omega))
theorem cell_in {w W w1 : World} {c : Array Value} {t : TypeId} {o' : Obj} (h : W = (w.alloc (.cells c t)).alloc o') (hb : Below W.heap.size W w1) (k : Nat) : w1.cell? ⟨w.heap.size, k, none⟩ = c[k]? := by
  have h1 := heap_alloc2_0 w (.cells c t) o'
  rw [← h] at h1
  have := (hb.block w.heap.size (by rw [h]; simp; omega)).trans h1
  exact cell_of_heap this
/-- What 'with' comes to. -/
def WithPost (w : World) (x : List Int × List Bool) (k v : Int) (b : Bool) (e : Ending) (w' : World) : Prop :=
  ∃ va vb, e = .returned (.agg #[va, vb]) ∧ w'.ownsRow w.heap.size 3 1 va x.1.length ((if k = -1 then x.1 else x.1.set k.toNat v).map (Value.int .i64)) ∧
    w'.ownsRow w.heap.size 4 1 vb (x.2.length + 1) ((x.2 ++ [b]).map Value.bool) ∧ Below w.heap.size w w'
set_option maxRecDepth 100000 in
set_option maxHeartbeats 2000000 in
theorem with_any {w : World} {x : List Int × List Bool} {aa ab : Option Addr} {ca cb : Nat} (hi : IsInts w aa x.1) (hb : IsBools w ab x.2) (hl : x.1.length ≤ 5) (hm : x.2.length ≤ 100) (k : Int) (v : Int) (b : Bool) (hk : k = -1 ∨ (0 ≤ k ∧ k < x.1.length)) :
    Calls Try.prog 88 #[.agg #[.slice aa x.1.length ca, .slice ab x.2.length cb], .int .i64 k, .int .i64 v, .bool b] w (WithPost w x k v b) := by
  obtain ⟨i0, hi0, hz0, hz1, hz2⟩ := info_parts infoI
  obtain ⟨j0, hj0, hy0, hy1, hy2⟩ := info_parts infoB
  go_enter Try.func88, Try.ntmps88
  go_wp2
  obtain ⟨W, hW⟩ : ∃ W : World, W = ((w.alloc (.cells #[.slice aa x.1.length ca, .slice ab x.2.length cb] 56)).alloc (.cells #[.slice none 0 0, .slice none 0 0] 56)) := ⟨_, rfl⟩
  rw [← hW]
  have HW := Lib.hid hW
  clear hW
  refine wp_region_inv mixed (by kernel_rfl) (WithI W x.1 x.2 b (.slice aa x.1.length ca) (.slice ab x.2.length cb) (.agg #[.slice aa x.1.length ca, .slice ab x.2.length cb]) (.int .i64 k) (.int .i64 v) (.pointer (some ⟨w.heap.size + 1, 0, none⟩)) (.pointer (some ⟨w.heap.size, 0, none⟩))) ?_ ?_ ?_
  · exact ⟨undef, undef, undef, undef, undef, undef, undef, undef, undef, undef, undef, undef, undef, rfl, by constructor <;> first | exact (Below.refl _ W).drew | (intro h; cases h)⟩
  · refine ⟨?_, ?_, ?_, ?_, ?_, ?_, ?_, ?_, ?_, ?_, ?_, ?_, ?_, ?_, trivial⟩
    all_goals
      rintro d a w1 K hd hdep ⟨x9, x10, x11, x12, x13, x14, x15, x16, x17, x18, x19, x20, x21, rfl, F⟩ HK
      simp [Region.binds] at hdep
    · go_simp
      exact HK.out _ _ ⟨_, _, _, _, _, _, _, _, _, _, _, _, _, rfl, F.s0⟩
    · go_simp
      exact HK.out _ _ ⟨_, _, _, _, _, _, _, _, _, _, _, _, _, rfl, F.s1⟩
    · obtain ⟨g, h1, rfl⟩ := F.f1 hdep
      cases h1
      have hc : w1.cell? ⟨w.heap.size, 0, none⟩ = some (.slice aa x.1.length ca) := cell_in HW.out F.same 0
      go_simp
      exact HK.out _ _ ⟨_, _, _, _, _, _, _, _, _, _, _, _, _, rfl, F.s2⟩
    · obtain rfl := F.f2 hdep.2
      have own := F.f0 hdep.1 hd
      obtain ⟨n1, n2⟩ := F.not11 (.inl hd)
      obtain ⟨v', w', hr, hn, hg, _⟩ := append_rows_at (P := Try.prog) W.heap.size 22 22 3 i0 _ 1 8 Try.underlying22 hi0 hz0 hz1 hz2 rfl (by decide) _ _ _ own aa x.1.length ca (x.1.map (Value.int .i64))
        (by simp) (ints_of_news (hi.mono (below_in HW.out F.same))) (one_ints _) (by simp [maxLen]; omega) (by omega) F.same.size
      refine wp_append_run (.tmp 10) (.tmp 12) 22 rfl _ _ _ _ rfl rfl hr ?_
      exact HK.out _ _ ⟨_, _, _, _, _, _, _, _, _, _, _, _, _, rfl, F.s3 own (by simpa using hn) hg n1 n2⟩
    · go_simp
      exact HK.out _ _ ⟨_, _, _, _, _, _, _, _, _, _, _, _, _, rfl, F.s4⟩
    · go_simp
      exact HK.out _ _ ⟨_, _, _, _, _, _, _, _, _, _, _, _, _, rfl, F.s5⟩
    · obtain ⟨g, h1, rfl⟩ := F.f5 hdep
      cases h1
      have hc : w1.cell? ⟨w.heap.size, 1, none⟩ = some (.slice ab x.2.length cb) := cell_in HW.out F.same 1
      go_simp
      exact HK.out _ _ ⟨_, _, _, _, _, _, _, _, _, _, _, _, _, rfl, F.s6⟩
    · obtain rfl := F.f6 hdep.2.1
      have own := F.f4 hdep.1 hd
      obtain ⟨v', w', hr, hn, hg, hv⟩ := append_rows_at (P := Try.prog) W.heap.size 54 54 4 j0 _ 1 1 Try.underlying54 hj0 hy0 hy1 hy2 rfl (by decide) _ _ _ own ab x.2.length cb (x.2.map Value.bool)
        (by simp) (bools_of_news (hb.mono (below_in HW.out F.same))) (one_bools _) (by simp [maxLen]; omega) (by omega) F.same.size
      refine wp_append_run (.tmp 14) (.tmp 16) 54 rfl _ _ _ _ rfl rfl hr ?_
      exact HK.out _ _ ⟨_, _, _, _, _, _, _, _, _, _, _, _, _, rfl, F.s7 hd hdep.1 own (by simpa using hn) hg hv⟩
    · go_simp
      exact HK.out _ _ ⟨_, _, _, _, _, _, _, _, _, _, _, _, _, rfl, F.s8⟩
    · obtain rfl := F.f8 hdep
      go_simp
      exact HK.out _ _ ⟨_, _, _, _, _, _, _, _, _, _, _, _, _, rfl, F.s9⟩
    · obtain ⟨g, rfl, hg9, _⟩ := F.f9 hdep.2.1 hd
      have own := F.f7 hdep.1 hd
      obtain ⟨n1, n2⟩ := F.not11 (.inr hd)
      obtain ⟨v', w', hr, hn, hg, _⟩ := append_rows_at (P := Try.prog) W.heap.size 54 54 4 j0 _ 1 1 Try.underlying54 hj0 hy0 hy1 hy2 rfl (by decide) _ _ _ own (some ⟨g, 0, none⟩) 1 1 [.bool b]
        rfl (fun _ => ⟨_, rfl, fun j u hj => by
          cases j with
          | zero =>
            simp only [List.getElem?_cons_zero, Option.some.injEq] at hj
            subst hj
            show w1.cell? ⟨g, 0, none⟩ = _
            rw [cell_of_heap hg9]; rfl
          | succ j => simp at hj⟩) (by simp; rfl) (by simp [maxLen]; omega) (by omega) F.same.size
      refine wp_append_run (.tmp 17) (.tmp 19) 54 rfl _ _ _ _ rfl rfl hr ?_
      exact HK.out _ _ ⟨_, _, _, _, _, _, _, _, _, _, _, _, _, rfl, F.s10 hdep.1 own hn hg n1 n2⟩
    · obtain ⟨a3, c3, e3, _⟩ := own_slice (F.f3 hdep.1)
      obtain ⟨a10, c10, e10, _⟩ := own_slice (F.f10 hdep.2)
      have S := F.s11 hdep.1 hdep.2
      subst e3 e10
      have HS := Lib.hid S
      clear S F
      go_simp
      exact HK.out _ _ ⟨_, _, _, _, _, _, _, _, _, _, _, _, _, rfl, HS.out⟩
    · have h13 : d 13 = false := by
        cases e : d 13 with
        | false => rfl
        | true => have := (F.o13 e).1; rw [hd] at this; cases this
      go_simp
      exact HK.out _ _ ⟨_, _, _, _, _, _, _, _, _, _, _, _, _, rfl, F.s12 h13⟩
    · have hall : ∀ k, k < 13 → d k = true := fun k hk => by
        have : k = 0 ∨ k = 1 ∨ k = 2 ∨ k = 3 ∨ k = 4 ∨ k = 5 ∨ k = 6 ∨ k = 7 ∨ k = 8 ∨ k = 9 ∨ k = 10 ∨ k = 11 ∨ k = 12 := by omega
        rcases this with rfl | rfl | rfl | rfl | rfl | rfl | rfl | rfl | rfl | rfl | rfl | rfl | rfl <;> simp [hdep]
      obtain ⟨g, rfl, hgh, hWg⟩ := F.f12 (hall 12 (by decide))
      obtain rfl := F.f11 (hall 11 (by decide))
      rw [hd] at hgh
      have hgh' : w1.heap[g]? = some (.cells #[.slice none 0 0, .slice none 0 0] 56 (0, 0)) := hgh
      have c0 : w1.cell? ⟨g, 0, none⟩ = some (.slice none 0 0) := by rw [cell_of_heap hgh']; rfl
      have c1 : w1.cell? ⟨g, 1, none⟩ = some (.slice none 0 0) := by rw [cell_of_heap hgh']; rfl
      have fr0 : w1.frozen? ⟨g, 0, none⟩ = false := frozen_of_heap hgh'
      have fr1 : w1.frozen? ⟨g, 1, none⟩ = false := frozen_of_heap hgh'
      have S := F.s13 (hall 12 (by decide)) (hall 11 (by decide)) hgh' hWg hall
      obtain ⟨a3, k3, e3, _⟩ := own_slice (F.f3 (hall 3 (by decide)))
      obtain ⟨a10, k10, e10, _⟩ := own_slice (F.f10 (hall 10 (by decide)))
      subst e3 e10
      have HS := Lib.hid S
      clear S hgh hgh' hall hdep F
      go_simp
      exact HK.out _ _ ⟨_, _, _, _, _, _, _, _, _, _, _, _, _, rfl, HS.out⟩
  · rintro d a w1 hall ⟨x9, x10, x11, x12, x13, x14, x15, x16, x17, x18, x19, x20, x21, rfl, F⟩
    have hall' : ∀ k, k < 14 → d k = true := hall
    obtain ⟨g, rfl, hg, hWg⟩ := F.f12 (hall' 12 (by decide))
    rw [hall' 13 (by decide)] at hg
    have hgh : w1.heap[g]? = some (.cells #[x13, x20] 56 (0, 0)) := hg
    have o3 := F.f3 (hall' 3 (by decide))
    have o10 := F.f10 (hall' 10 (by decide))
    have hsame := F.same
    obtain ⟨a3, k3, rfl, _⟩ := own_slice o3
    obtain ⟨a10, k10, rfl, _⟩ := own_slice o10
    clear F hall hall' hg
    have hWz : W.heap.size = w.heap.size + 2 := by rw [HW.out]; simp
    have h8 : w1.heap[w.heap.size + 1]? = some (.cells #[.slice none 0 0, .slice none 0 0] 56 (0, 0)) := (hsame.block _ (by omega)).trans (by
      rw [HW.out]
      have := World.alloc_heap_new (w.alloc (.cells #[.slice aa x.1.length ca, .slice ab x.2.length cb] 56)) (.cells #[.slice none 0 0, .slice none 0 0] 56)
      rwa [World.size_alloc] at this)
    have hb0 : Below w.heap.size w w1 := below_in HW.out hsame
    have o10' : w1.ownsRow W.heap.size 4 1 (Value.slice a10 (x.2.length + 1) k10) (x.2.length + 1) ((x.2 ++ [b]).map Value.bool) := by simpa using o10
    have hlt8 : w.heap.size + 1 < w1.heap.size := heap_lt h8
    have HWz := Lib.hid hWz
    have HG := Lib.hid hWg
    have hne : g ≠ w.heap.size + 1 := by omega
    have p0 : w1.cell? ⟨w.heap.size + 1, 0, none⟩ = some (.slice none 0 0) := by rw [cell_of_heap h8]; rfl
    have p1 : w1.cell? ⟨w.heap.size + 1, 1, none⟩ = some (.slice none 0 0) := by rw [cell_of_heap h8]; rfl
    have q0 : w1.cell? ⟨g, 0, none⟩ = some (Value.slice a3 x.1.length k3) := by rw [cell_of_heap hgh]; rfl
    have q1 : w1.cell? ⟨g, 1, none⟩ = some (Value.slice a10 (x.2.length + 1) k10) := by rw [cell_of_heap hgh]; rfl
    have r0 : ∀ k, w1.frozen? ⟨w.heap.size + 1, k, none⟩ = false := fun k => frozen_of_heap h8
    have HO3 := Lib.hid o3
    have HO10 := Lib.hid o10'
    have HB0 := Lib.hid hb0
    have HH8 := Lib.hid h8
    have HGH := Lib.hid hgh
    clear hWz hWg o3 o10 o10' hb0 hsame h8 hgh hi hb hi0 hz0 hz1 hz2 hj0 hy0 hy1 hy2
    by_cases hk1 : k = -1
    · subst hk1
      clear hk
      go_wp2
      refine bodyPost_ret (res_c56 (b := w.heap.size + 1) (u := .slice a3 x.1.length k3) (v := .slice a10 (x.2.length + 1) k10) rfl _ rfl ?_ ?_) rfl ⟨_, _, rfl, ?_, ?_, ?_⟩
      · go_simp
      · go_simp
      · rw [if_pos rfl]
        have := HWz.out
        exact own_base (ownsRow_setCell_below (ownsRow_setCell_below HO3.out (a := ⟨w.heap.size + 1, 0, none⟩) (by simp only []; omega) _) (a := ⟨w.heap.size + 1, 1, none⟩) (by simp only []; omega) _) (by omega)
      · have := HWz.out
        exact own_base (ownsRow_setCell_below (ownsRow_setCell_below HO10.out (a := ⟨w.heap.size + 1, 0, none⟩) (by simp only []; omega) _) (a := ⟨w.heap.size + 1, 1, none⟩) (by simp only []; omega) _) (by omega)
      · exact (HB0.out.setCell (p := ⟨w.heap.size + 1, 0, none⟩) (by simp only []; omega) _).setCell (p := ⟨w.heap.size + 1, 1, none⟩) (by simp only []; omega) _
    · obtain ⟨j, rfl⟩ : ∃ j : Nat, k = j := ⟨k.toNat, by omega⟩
      have hj : j < x.1.length := by omega
      have hkb : ((j : Int) == -1) = false := by simp
      have HK1 := Lib.hid hk1
      clear hk hk1
      obtain ⟨g3, cap3, e3, b3, lt3, n3, _, hcells⟩ := own_cell HO3.out (by omega)
      simp only [Value.slice.injEq, true_and] at e3
      obtain ⟨rfl, rfl⟩ := e3
      have hst := HO3.out.stored j (.int .i64 v)
      have hcj : w1.cell? ⟨g3, j, none⟩ = some (.int .i64 (gi x.1 j)) := hcells j _ (by simp [gi, hj])
      have hfj : w1.frozen? ⟨g3, j, none⟩ = false := HO3.out.frozenAt j
      have hne3 : g3 ≠ g := fun e => own_block_ne HO3.out HGH.out (by decide) (by rw [e]; rfl)
      have hne38 : g3 ≠ w.heap.size + 1 := by have := HWz.out; omega
      have HST := Lib.hid hst
      have H3 := Lib.hid b3
      clear hst hcells n3 b3 lt3
      go_wp2
      refine bodyPost_ret (res_c56 (b := w.heap.size + 1) (u := .slice (some ⟨g3, 0, none⟩) x.1.length k3) (v := .slice a10 (x.2.length + 1) k10) rfl _ rfl ?_ ?_) rfl ⟨_, _, rfl, ?_, ?_, ?_⟩
      · go_simp
      · go_simp
      · rw [if_neg HK1.out, Int.toNat_natCast, ← map_set_int]
        have := HWz.out
        exact own_base (ownsRow_setCell_below (ownsRow_setCell_below HST.out.1 (a := ⟨w.heap.size + 1, 0, none⟩) (by simp only []; omega) _) (a := ⟨w.heap.size + 1, 1, none⟩) (by simp only []; omega) _) (by omega)
      · have := HWz.out
        have o := HO10.out.kept HST.out.2 (own_apart HO10.out HO3.out (by decide))
        exact own_base (ownsRow_setCell_below (ownsRow_setCell_below o (a := ⟨w.heap.size + 1, 0, none⟩) (by simp only []; omega) _) (a := ⟨w.heap.size + 1, 1, none⟩) (by simp only []; omega) _) (by omega)
      · have := HWz.out
        have := H3.out
        exact ((HB0.out.setCell (p := ⟨g3, j, none⟩) (by simp only []; omega) _).setCell (p := ⟨w.heap.size + 1, 0, none⟩) (by simp only []; omega) _).setCell (p := ⟨w.heap.size + 1, 1, none⟩) (by simp only []; omega) _
end Go.Proofs.Ytlhobddaojdnoaa
