/- Times: what is gathered. -/
import Derived.Test.YtphefhpmbahagaaT15
import Derived.Maps.AppendAt
namespace Go.Proofs.Ytphefhpmbahagaa
open Go.RowKit
set_option linter.unusedVariables false
set_option linter.unusedSimpArgs false

theorem wpListIn_append_run {P : Program} {l n : Nat} {w : World} {ops : Array Oper} {rest : List Oper} {o : Oper} {a : Act} {Q : Exit → Act → World → Prop} (hgd : o.guard = none) (s x : Operand) (t : TypeId)
    (ho : o.op = .call { callee := .builtin .append, args := #[s, x], argTypes := #[t, t] }) (v xv v' : Value) (w' : World) (hs : a.eval s = v) (hx : a.eval x = xv)
    (hr : (Builtin.append_ #[t, t] o.type #[v, xv]).run P w = .ok v' w') (h : wpListIn (Fence.wide.inRound l) n P ops Q rest (a.put o.dst v') w') : wpListIn (Fence.wide.inRound l) n P ops Q (o :: rest) a w := by
  unfold wpListIn
  rw [if_pos (by simp [Region.wanted, hgd])]
  refine ⟨fun _ _ => trivial, ?_⟩
  have e : o.semAt (Fence.wide.inRound l).round a.eval = execOp a.eval o := Oper.semAt_some _ _ _ (fun c hc => by rw [ho] at hc; cases hc)
  rw [e]
  unfold execOp
  simp only [ho, resolve, invoke, builtin, Sem.run_bind, Sem.run_pure, Result.andThen_ok, List.map_toArray, List.map_cons, List.map_nil, hs, hx, hr]
  exact h
theorem infoSp : (Try.prog.info? 33).map (fun i => (i.zero, i.size, i.bytes)) = some (some (.agg #[.int .i64 0, .int .i64 0]), 2, 16) := by kernel_rfl
theorem info_parts2 {t : TypeId} {z : Value} {n m : Nat} (h : (Try.prog.info? t).map (fun i => (i.zero, i.size, i.bytes)) = some (some z, n, m)) : ∃ i, Try.prog.info? t = some i ∧ i.zero = some z ∧ i.size = n ∧ i.bytes = m := by
  cases hi : Try.prog.info? t with
  | none => rw [hi] at h; cases h
  | some i => rw [hi] at h; simp at h; exact ⟨i, rfl, h.1, h.2.1, h.2.2⟩
/-- The minutes of steps, as cells. -/
def minV (l : List (Int × Int × Int)) : List Value := l.flatMap fun x => [.int .i64 x.2.1, .int .i64 x.2.2]
theorem minV_add (l : List (Int × Int × Int)) (x : Int × Int × Int) : minV (l ++ [x]) = minV l ++ [.int .i64 x.2.1, .int .i64 x.2.2] := by simp [minV]
theorem minV_at : ∀ {l : List (Int × Int × Int)} {i : Nat} {x : Int × Int × Int}, l[i]? = some x → (minV l)[i * 2]? = some (.int .i64 x.2.1) ∧ (minV l)[i * 2 + 1]? = some (.int .i64 x.2.2)
  | [], i, x, h => by simp at h
  | y :: r, 0, x, h => by simp at h; subst h; simp [minV]
  | y :: r, i + 1, x, h => by
    have := minV_at (l := r) (i := i) (x := x) (by simpa using h)
    have e : minV (y :: r) = .int .i64 y.2.1 :: .int .i64 y.2.2 :: minV r := by simp [minV]
    rw [e, show (i + 1) * 2 = i * 2 + 2 by omega]
    simpa using this
/-- Times. -/
def Tr.times (t : Tr) (o : List Int) : List Spn := (t.steps (-1) (t.dawn, t.dawn) o).map fun x => ⟨x.2.1, x.2.2⟩
theorem own_spans {w : World} {B : Nat} {a : Option Addr} {cap n : Nat} {l : List (Int × Int × Int)} (h : w.ownsRow B 33 2 (.slice a n cap) n (minV l)) (hn : n = l.length) : IsSpns w a (l.map fun x => ⟨x.2.1, x.2.2⟩) := fun i hi => by
  have hi : i < l.length := by simpa using hi
  obtain ⟨x, hx⟩ : ∃ x, l[i]? = some x := ⟨l[i], by simp [hi]⟩
  obtain ⟨g, c, e, _, _, _, _, hc⟩ := own_cell h (by omega)
  cases e
  have hg : gs (l.map fun x => (⟨x.2.1, x.2.2⟩ : Spn)) i = ⟨x.2.1, x.2.2⟩ := by simp [gs, hx]
  rw [hg]
  refine ⟨g, 0, rfl, ?_, ?_⟩
  · rw [Nat.zero_add]; exact hc _ _ (minV_at hx).1
  · rw [Nat.zero_add]; exact hc _ _ (minV_at hx).2
structure TimI (w0 : World) (t : Tr) (o : List Int) (b nb L i : Nat) (A : World) (C : Nat → Prop) : Prop where
  below : Below w0.heap.size w0 A
  row : ∃ v, A.heap[b + 2]? = some (.cells #[v] 22 (0, 0)) ∧ A.ownsRow L 33 2 v i (minV ((t.steps (-1) (t.dawn, t.dawn) o).take i)) ∧ ∀ g, v.ownBlock = some g → C g
  sum : A.heap[b + 3]? = some (.cells #[.int .i64 0, .int .i64 0] 33 (0, 0))
  err : A.heap[b + 4]? = some (.cells #[.int .i64 0] 29 (0, 0))
  mine : ∀ k, k < L → k ≠ nb → C k
theorem TimI.stable {w0 : World} {t : Tr} {o : List Int} {b nb L i lb : Nat} {A B : World} {C : Nat → Prop} (h : TimI w0 t o b nb L i A C) (hs : Same (fun k => ¬ C k ∨ k = lb) A B) (hw : w0.heap.size ≤ b) (hn : b + 4 < nb) (hl : nb < lb) (hl2 : lb < L) : TimI w0 t o b nb L i B C := by
  obtain ⟨h1, ⟨v, h2, h3, h4⟩, h5, h6, h7⟩ := h
  have hb : ∀ k, k < nb → ¬ (¬ C k ∨ k = lb) := fun k hk e => e.elim (fun e => e (h7 k (by omega) (by omega))) (fun e => by omega)
  exact ⟨h1.trans (hs.below h1.size (fun k hk => hb k (by omega))), ⟨v, (hs.block _ (heap_lt h2) (hb _ (by omega))).trans h2, own_blocks h3 (fun g hg => hs.block g (h3.lt g hg).2 (fun e => e.elim (fun e => e (h4 g hg)) (fun e => by have := (h3.lt g hg).1; omega))), h4⟩,
    (hs.block _ (heap_lt h5) (hb _ (by omega))).trans h5, (hs.block _ (heap_lt h6) (hb _ (by omega))).trans h6, h7⟩
theorem TimI.more {w0 : World} {t : Tr} {o : List Int} {b nb L i lb : Nat} {V : World} {C : Nat → Prop} {x px py : Int} (h : TimI w0 t o b nb L i V C) (hx : (t.steps (-1) (t.dawn, t.dawn) o)[i]? = some (x, px, py)) (hi : i ≤ 1000000) (hw : w0.heap.size ≤ b) (hn : b + 4 < nb) (hl : nb < lb) (hl2 : lb < L) (hLV : L ≤ V.heap.size) :
    ∃ v v' w', V.cell? ⟨b + 2, 0, none⟩ = some v ∧ (∃ a c, v = .slice a i c) ∧ (Builtin.append_ #[22, 22] 22 #[v, .slice (some ⟨V.heap.size, 0, none⟩) 1 1]).run Try.prog (V.alloc (.cells #[.int .i64 px, .int .i64 py] 33)) = .ok v' w' ∧ (∃ a c, v' = .slice a (i + 1) c) ∧
      (∃ u, w'.cell? ⟨b + 2, 0, none⟩ = some u) ∧ w'.frozen? ⟨b + 2, 0, none⟩ = false ∧ Same (fun k => C k ∧ (k < L → k = b + 2)) V (w'.setCell ⟨b + 2, 0, none⟩ v') ∧ (w'.setCell ⟨b + 2, 0, none⟩ v').heap[lb]? = V.heap[lb]? ∧
      TimI w0 t o b nb L (i + 1) (w'.setCell ⟨b + 2, 0, none⟩ v') (fun k => (C k ∨ V.heap.size ≤ k) ∧ k < (w'.setCell ⟨b + 2, 0, none⟩ v').heap.size) := by
  obtain ⟨i0, hi0, hz0, hz1, hz2⟩ := info_parts2 infoSp
  obtain ⟨h1, ⟨v, h3, h4, h6⟩, h7, h8, h9⟩ := h
  have hV1 := World.alloc_heap_new V (.cells #[.int .i64 px, .int .i64 py] 33)
  obtain ⟨v', w', hr, hn', hg, _, hor⟩ := run_append_own_at (P := Try.prog) (w := V.alloc (.cells #[.int .i64 px, .int .i64 py] 33)) L 22 22 33 i0 _ 2 16 Try.underlying22 hi0 hz0 hz1 hz2 rfl (by decide) v i _ (own_blocks h4 (fun g hg => Below.heap_alloc _ _ _ (h4.lt g hg).2)) ⟨V.heap.size, 0, none⟩ 1 1 [.int .i64 px, .int .i64 py] rfl
    (fun j u hj => by
      have e : (⟨V.heap.size, 0, none⟩ : Addr).add j = ⟨V.heap.size, 0 + j, none⟩ := add_none _ _ _
      match j with
      | 0 => simp at hj; subst hj; rw [e, cell_of_heap hV1]; rfl
      | 1 => simp at hj; subst hj; rw [e, cell_of_heap hV1]; rfl
      | j + 2 => simp at hj)
    (by intro u hu; simp at hu; rcases hu with rfl | rfl <;> rfl) (by simp [maxLen]; omega) (by omega) (by simp; omega)
  have hrow : ∀ k, v.ownBlock = some k → L ≤ k ∧ k < V.heap.size := fun k hk => h4.lt k hk
  have hVw : V.heap.size < w'.heap.size := by have := hg.size; simp at this; omega
  have hk1 : ∀ k, k < V.heap.size → v.ownBlock ≠ some k → w'.heap[k]? = V.heap[k]? := fun k hk hne => (hg.block k (by simp; omega) (fun e => hne e.symm)).trans (Below.heap_alloc _ _ _ hk)
  have hno : ∀ k, k < L → v.ownBlock ≠ some k := fun k hk e => by have := (hrow _ e).1; omega
  have htb' := (hk1 _ (heap_lt h3) (hno _ (by omega))).trans h3
  have hk2 : ∀ k, k < L → k ≠ b + 2 → (w'.setCell ⟨b + 2, 0, none⟩ v').heap[k]? = V.heap[k]? := fun k hk hkt => (Below.heap_setCell _ _ _ _ hkt).trans (hk1 k (by omega) (hno k hk))
  have hrow' : ∀ k, v'.ownBlock = some k → L ≤ k ∧ k < w'.heap.size := fun k hk => hn'.lt k hk
  refine ⟨v, v', w', by rw [cell_of_heap h3]; rfl, ?_, hr, ?_, ⟨_, by rw [cell_of_heap htb']; rfl⟩, frozen_of_heap htb', ?_, hk2 lb hl2 (by omega), ?_⟩
  · obtain ⟨a, c, e, _⟩ := own_slice h4; exact ⟨a, c, e⟩
  · obtain ⟨a, c, e, _⟩ := own_slice hn'; exact ⟨a, c, e⟩
  · have hs : Same (fun k => C k ∧ (k < L → k = b + 2)) V w' :=
      ((Same.refl _ V).alloc _).grown hg (fun k hk => .inl ⟨h6 k hk, fun h => by have := (hrow k hk).1; omega⟩)
    exact hs.setCell (.inl ⟨h9 _ (by show b + 2 < L; omega) (by show b + 2 ≠ nb; omega), fun _ => rfl⟩) _
  · have hb : Below w0.heap.size w0 w' := ((h1.alloc h1.size _)).grown hg (by simp; have := h1.size; omega) (fun k hk => by have := (hrow k hk).1; omega)
    refine ⟨hb.setCell (by show w0.heap.size ≤ b + 2; omega) _, ⟨v', heap_setCell_at htb' _, ?_, ?_⟩, (hk2 _ (by omega) (by omega)).trans h7, (hk2 _ (by omega) (by omega)).trans h8, fun k hk hne => ⟨.inl (h9 k hk hne), by simp; omega⟩⟩
    · rw [List.take_add_one, hx]
      show World.ownsRow _ _ _ _ _ _ (minV (_ ++ [(x, px, py)]))
      rw [minV_add]
      exact own_blocks hn' (fun g hg' => Below.heap_setCell _ _ _ _ (fun e => by have e' : g = b + 2 := e; have := (hrow' g hg').1; omega))
    · intro g hg'
      refine ⟨?_, by have := (hrow' g hg').2; simp; omega⟩
      rcases hor with e | e
      · rw [e] at hg'
        exact .inl (h6 g hg')
      · rw [e] at hg'
        cases hg'
        exact .inr (by simp)
end Go.Proofs.Ytphefhpmbahagaa
