/- All ways, one after the other: the iterator. All ways, collected. How many ways. The way with the fewest originals. Whether these are cards. Where a number is in a list; the way of an order. All orders: what holds while they are gathered. All orders: two drawn regions: an order that is whole; one card more. -/
import Derived.Test.YtnfhlbmapfoifaaC3
namespace Go.Proofs.Ytnfhlbmapfoifaa
open Go.RowKit
set_option linter.unusedVariables false
theorem ways_any {w : World} {bp : Nat} : Calls Try.prog 53 #[.pointer (some ⟨bp, 0, none⟩)] w fun e w' => e = .returned (.func (.func 97) #[] #[.pointer (some ⟨w.heap.size, 0, none⟩)]) ∧ w' = w.alloc (.cells #[.pointer (some ⟨bp, 0, none⟩)] 79) := by
  have hmf : ∀ (fn : Fn) (first cap : Array Value) (w : World), (Instr.makeFunc fn first cap).run Try.prog w = .ok (.func fn first cap) w := fun _ _ _ _ => rfl
  go_enter Try.func53, Try.ntmps53
  go_wp2
  go_ret
  exact ⟨rfl, rfl⟩
set_option maxRecDepth 100000 in
set_option maxHeartbeats 2000000 in
theorem ways_iter {p : Prs} {a : Option Addr} {cap bp g pb : Nat} {W : World} {M : Nat → Prop} (hv : p.valid = true)
    (hpile : ∀ A, Same M W A → A.heap[pb]? = some (.cells #[.pointer (some ⟨bp, 0, none⟩)] 79 (0, 0)) ∧ PileP A bp p a cap g) :
    IterC Try.prog 97 #[.pointer (some ⟨pb, 0, none⟩)] (waysL p).length (WayOk p W.heap.size) M W := by
  intro l J Jx hJ hJx hY h0
  have hmf : ∀ (fn : Fn) (first cap : Array Value) (w : World), (Instr.makeFunc fn first cap).run Try.prog w = .ok (.func fn first cap) w := fun _ _ _ _ => rfl
  have H : OnH p a cap bp g pb l W M J Jx := ⟨hv, hpile, hJ, hY⟩
  obtain ⟨W1, hW1⟩ : ∃ W1 : World, W1 = (W.alloc (.cells #[.func (.yield l) #[] #[]] 109)).alloc (.cells #[selfV pb W.heap.size (W.heap.size + 1)] 109) := ⟨_, rfl⟩
  have hb1 : Below W.heap.size W W1 := by rw [hW1]; exact ((Below.refl _ W).alloc (Nat.le_refl _) _).alloc (by simp) _
  have q0 : W1.heap[W.heap.size]? = some (.cells #[.func (.yield l) #[] #[]] 109 (0, 0)) := by rw [hW1]; exact (Below.heap_alloc _ _ _ (by simp)).trans (World.alloc_heap_new W _)
  have q1 : W1.heap[W.heap.size + 1]? = some (.cells #[selfV pb W.heap.size (W.heap.size + 1)] 109 (0, 0)) := by
    rw [hW1]
    have := World.alloc_heap_new (W.alloc (.cells #[.func (.yield l) #[] #[]] 109)) (.cells #[selfV pb W.heap.size (W.heap.size + 1)] 109)
    rwa [World.size_alloc] at this
  have hz1 := hb1.size
  have hC : OnC W M l pb W1 (fun k => k < W.heap.size) := ⟨Same.of_below _ hb1, q0, q1, fun h => by omega, fun h => by omega, fun k hk => hk, fun k hk => by omega⟩
  have hj : J 0 W1 (fun k => k < W.heap.size) := hJ _ _ _ _ h0 ⟨hb1.os, hb1.tape, hb1.output, hb1.size, fun k hk hn => hb1.block k (by omega)⟩
  have hcall := callsIn_wide.1 (on_any H p.cards.length [] 0 W1 (fun k => k < W.heap.size) (.slice none 0 0) (by simp) (fun x hx => by cases hx) (fun j x hx => by rw [Nat.zero_add]; exact hx) hC (World.ownsRow_nil W1 _ _ _) (fun g hg => by cases hg) hj)
  rw [Nat.zero_add] at hcall
  have HC := Lib.hid hcall
  have HW1 := Lib.hid hW1
  clear hcall hj hC q0 q1 hb1 hW1 H hY h0 hJ hJx hpile hv hz1
  refine callsIn_wide.2 ?_
  go_enter Try.func97, Try.ntmps97
  go_wp2_with fail
  have hW1 := HW1.out
  rw [← hW1]
  clear hW1
  refine HC.out.mono ?_
  rintro e W' ⟨r, rfl, h1, h2⟩
  have HR := Lib.hid (And.intro h1 h2)
  clear h1 h2
  go_wp2_with fail
  go_end0
  refine ⟨⟨_, rfl⟩, ?_⟩
  cases r with
  | true =>
    obtain ⟨C', _, h, _⟩ := HR.out.1 rfl
    exact ⟨C', .inl h⟩
  | false =>
    obtain ⟨C', i, hi, h⟩ := HR.out.2 rfl
    exact ⟨C', .inr ⟨i, hi, h⟩⟩
end Go.Proofs.Ytnfhlbmapfoifaa
namespace Go.Proofs.Ytnfhlbmapfoifaa
open Go.RowKit
set_option linter.unusedVariables false
theorem wpListIn_append_run {P : Program} {l n : Nat} {w : World} {ops : Array Oper} {rest : List Oper} {o : Oper} {a : Act} {Q : Exit → Act → World → Prop} (hgd : o.guard = none) (s x : Operand) (t : TypeId)
    (ho : o.op = .call { callee := .builtin .append, args := #[s, x], argTypes := #[t, t] }) (v xv v' : Value) (w' : World) (hs : a.eval s = v) (hx : a.eval x = xv)
    (hr : (Builtin.append_ #[t, t] o.type #[v, xv]).run P w = .ok v' w') (h : wpListIn (Fence.wide.inRound l) n P ops Q rest (a.put o.dst v') w') : wpListIn (Fence.wide.inRound l) n P ops Q (o :: rest) a w := by
  unfold wpListIn
  rw [if_pos (by simp [Region.wanted, hgd])]
  refine ⟨fun _ _ => trivial, ?_⟩
  have e : o.semAt (Fence.wide.inRound l).round a.eval = execOp a.eval o := Oper.semAt_some _ _ _ (fun c hc => by rw [ho] at hc; cases hc)
  rw [e]
  unfold execOp
  simp only [ho, resolve, invoke, builtin, Sem.run_bind, Sem.run_pure, Result.andThen_ok, List.map_toArray, List.map_cons, List.map_nil, hs, hx, hr]
  exact h
theorem infoS : (Try.prog.info? 76).map (fun i => (i.zero, i.size, i.bytes)) = some (some (.slice none 0 0), 1, 24) := by kernel_rfl
/-- Slices that each own a list. -/
def RowsOf (w : World) (B : Nat) (vs : List Value) (l : List (List Int)) : Prop := vs.length = l.length ∧ ∀ (i : Nat) (x : List Int), l[i]? = some x → ∃ vc, vs[i]? = some vc ∧ w.ownsRow B 3 1 vc x.length (x.map (Value.int .i64))
/-- What has been collected. -/
structure ColI (p : Prs) (w0 : World) (B1 tb i : Nat) (A : World) (C : Nat → Prop) : Prop where
  below : Below w0.heap.size w0 A
  ctb : C tb
  ex : ∃ (v : Value) (vs : List Value), A.heap[tb]? = some (.cells #[v] 74 (0, 0)) ∧ A.ownsRow B1 76 1 v i vs ∧ RowsOf A B1 vs ((waysL p).take i) ∧ (∀ g, v.ownBlock = some g → C g) ∧ ∀ vc ∈ vs, ∀ g, vc.ownBlock = some g → C g
theorem own_blocks {w w' : World} {B : Nat} {e : TypeId} {s n : Nat} {v : Value} {xs : List Value} (h : w.ownsRow B e s v n xs) (hk : ∀ g, v.ownBlock = some g → w'.heap[g]? = w.heap[g]?) : w'.ownsRow B e s v n xs := by
  obtain ⟨h1, h2⟩ := h
  refine ⟨h1, ?_⟩
  rcases h2 with h2 | ⟨g, cap, cur, rfl, hg, hh, r⟩
  · exact .inl h2
  · exact .inr ⟨g, cap, cur, rfl, hg, (hk g rfl).trans hh, r⟩
/-- Marks that are taken lie elsewhere. -/
theorem own_still {w w' : World} {B n0 : Nat} {e : TypeId} {s n : Nat} {v : Value} {xs : List Value} (h : w.ownsRow B e s v n xs) (hs : Same (fun k => n0 ≤ k ∧ w.heap[k]? = some (.deferred (some []))) w w') : w'.ownsRow B e s v n xs := by
  refine own_blocks h (fun g hg => hs.block g (h.lt g hg).2 (fun hd => ?_))
  rcases h.2 with ⟨rfl, _⟩ | ⟨g', cap, cur, rfl, _, hh, _⟩
  · cases hg
  · simp only [Value.ownBlock, Option.some.injEq] at hg
    subst hg
    rw [hh] at hd
    cases hd.2
theorem RowsOf.blocks {w w' : World} {B : Nat} {vs : List Value} {l : List (List Int)} (h : RowsOf w B vs l) (hk : ∀ vc ∈ vs, ∀ g, vc.ownBlock = some g → w'.heap[g]? = w.heap[g]?) : RowsOf w' B vs l :=
  ⟨h.1, fun i x hx => by
    obtain ⟨vc, h1, h2⟩ := h.2 i x hx
    exact ⟨vc, h1, own_blocks h2 (hk vc (List.mem_of_getElem? h1))⟩⟩
theorem rows_lt {w : World} {B : Nat} {vs : List Value} {l : List (List Int)} (h : RowsOf w B vs l) {vc : Value} (hv : vc ∈ vs) {g : Nat} (hg : vc.ownBlock = some g) : B ≤ g ∧ g < w.heap.size := by
  obtain ⟨i, hi, rfl⟩ := List.getElem_of_mem hv
  have hi' : i < l.length := by rw [← h.1]; exact hi
  obtain ⟨vc', h1, h2⟩ := h.2 i _ (List.getElem?_eq_getElem hi')
  rw [List.getElem?_eq_getElem hi] at h1
  cases h1
  exact h2.lt g hg
/-- Stays while others' blocks are written, and the loop's own. -/
theorem ColI.stable {p : Prs} {w0 : World} {B1 tb i lb : Nat} {A B : World} {C : Nat → Prop} (h : ColI p w0 B1 tb i A C) (hs : Same (fun k => ¬ C k ∨ k = lb) A B) (hl1 : lb < B1) (hl2 : lb ≠ tb) (hl3 : w0.heap.size ≤ lb) (hC : ∀ k, k < B1 → C k) (hB : w0.heap.size ≤ B1) : ColI p w0 B1 tb i B C := by
  obtain ⟨h1, h2, v, vs, h3, h4, h5, h6, h7⟩ := h
  refine ⟨h1.trans (hs.below h1.size (fun k hk e => ?_)), h2, v, vs, (hs.block tb (heap_lt h3) (fun e => ?_)).trans h3, own_blocks h4 (fun g hg => hs.block g (h4.lt g hg).2 (fun e => ?_)), h5.blocks (fun vc hvc g hg => hs.block g (rows_lt h5 hvc hg).2 (fun e => ?_)), h6, h7⟩
  · rcases e with e | e
    · exact e (hC k (by omega))
    · omega
  · rcases e with e | e
    · exact e h2
    · exact hl2 e.symm
  · rcases e with e | e
    · exact e (h6 g hg)
    · have := (h4.lt g hg).1; omega
  · rcases e with e | e
    · exact e (h7 vc hvc g hg)
    · have := (rows_lt h5 hvc hg).1; omega
theorem own_apart {w : World} {B B' : Nat} {e e' : TypeId} {s s' n n' : Nat} {v v' : Value} {xs ys : List Value} (h : w.ownsRow B e s v n xs) (h' : w.ownsRow B' e' s' v' n' ys) (he : e ≠ e') : ∀ g, v.ownBlock = some g → v'.ownBlock ≠ some g := by
  intro g hg hg'
  rcases h.2 with ⟨rfl, _⟩ | ⟨g1, cap, cur, rfl, _, hh, _⟩
  · cases hg
  · rcases h'.2 with ⟨rfl, _⟩ | ⟨g2, cap', cur', rfl, _, hh', _⟩
    · cases hg'
    · simp only [Value.ownBlock, Option.some.injEq] at hg hg'
      subst hg hg'
      rw [hh] at hh'
      simp only [Option.some.injEq, Obj.cells.injEq] at hh'
      exact he hh'.2.1
/-- One way more is collected. -/
theorem ColI.more {p : Prs} {w0 : World} {B1 tb i lb : Nat} {V : World} {C : Nat → Prop} {x : List Int} {vc : Value} (h : ColI p w0 B1 tb i V C) (hx : (waysL p)[i]? = some x) (hvc : V.ownsRow B1 3 1 vc x.length (x.map (Value.int .i64))) (hi : i ≤ 1000000) (htb : tb < B1) (hl1 : lb < B1) (hl2 : lb ≠ tb) (hw0 : w0.heap.size ≤ tb) (hB1 : B1 ≤ V.heap.size) (hlbV : lb < V.heap.size) :
    ∃ v v' w', V.cell? ⟨tb, 0, none⟩ = some v ∧ (∃ a c, v = .slice a i c) ∧ (Builtin.append_ #[74, 74] 74 #[v, .slice (some ⟨V.heap.size, 0, none⟩) 1 1]).run Try.prog (V.alloc (.cells #[vc] 76)) = .ok v' w' ∧ (∃ a c, v' = .slice a (i + 1) c) ∧ (∃ u, w'.cell? ⟨tb, 0, none⟩ = some u) ∧ w'.frozen? ⟨tb, 0, none⟩ = false ∧
      Same (fun k => C k ∧ (k < B1 → k = tb)) V (w'.setCell ⟨tb, 0, none⟩ v') ∧ (w'.setCell ⟨tb, 0, none⟩ v').heap[lb]? = V.heap[lb]? ∧
      ColI p w0 B1 tb (i + 1) (w'.setCell ⟨tb, 0, none⟩ v') (fun k => (C k ∨ vc.ownBlock = some k ∨ V.heap.size ≤ k) ∧ k < (w'.setCell ⟨tb, 0, none⟩ v').heap.size) := by
  obtain ⟨i0, hi0, hz0, hz1, hz2⟩ := info_parts infoS
  obtain ⟨h1, h2, v, vs, h3, h4, h5, h6, h7⟩ := h
  have hone : vc.oneCell' = true := by
    rcases hvc.2 with ⟨rfl, _⟩ | ⟨g, cap, cur, rfl, _⟩ <;> rfl
  have hV1 := World.alloc_heap_new V (.cells #[vc] 76)
  obtain ⟨v', w', hr, hn, hg, hor, _⟩ := append_keep (P := Try.prog) (w := V.alloc (.cells #[vc] 76)) B1 74 74 76 i0 _ 24 Try.underlying74 hi0 hz0 hz1 hz2 rfl v i vs (own_blocks h4 (fun g hg => Below.heap_alloc _ _ _ (h4.lt g hg).2)) ⟨V.heap.size, 0, none⟩ vc (by rw [cell_of_heap hV1]; rfl) hone (by simp [maxLen]; omega) (by omega) (by simp; omega)
  have hrow : ∀ k, v.ownBlock = some k → B1 ≤ k ∧ k < V.heap.size := fun k hk => h4.lt k hk
  have hVw : V.heap.size < w'.heap.size := by have := hg.size; simp at this; omega
  have htbV := heap_lt h3
  have hk1 : ∀ k, k < V.heap.size → v.ownBlock ≠ some k → w'.heap[k]? = V.heap[k]? := fun k hk hne => (hg.block k (by simp; omega) (fun e => hne e.symm)).trans (Below.heap_alloc _ _ _ hk)
  have htbn : v.ownBlock ≠ some tb := fun e => by have := (hrow _ e).1; omega
  have hlbn : v.ownBlock ≠ some lb := fun e => by have := (hrow _ e).1; omega
  have htb' := (hk1 tb htbV htbn).trans h3
  have hk2 : ∀ k, k < V.heap.size → v.ownBlock ≠ some k → k ≠ tb → (w'.setCell ⟨tb, 0, none⟩ v').heap[k]? = V.heap[k]? := fun k hk hne hkt => (Below.heap_setCell _ _ _ _ hkt).trans (hk1 k hk hne)
  have hrow' : ∀ k, v'.ownBlock = some k → B1 ≤ k ∧ k < w'.heap.size := fun k hk => hn.lt k hk
  refine ⟨v, v', w', by rw [cell_of_heap h3]; rfl, ?_, hr, ?_, ⟨_, by rw [cell_of_heap htb']; rfl⟩, frozen_of_heap htb', ?_, hk2 lb hlbV hlbn hl2, ?_⟩
  · obtain ⟨a, c, e, _⟩ := own_slice h4; exact ⟨a, c, e⟩
  · obtain ⟨a, c, e, _⟩ := own_slice hn; exact ⟨a, c, e⟩
  · have hs : Same (fun k => C k ∧ (k < B1 → k = tb)) V w' := by
      have hg' : Same (fun k => C k ∧ (k < B1 → k = tb)) V (V.alloc (.cells #[vc] 76)) := (Same.refl _ V).alloc _
      exact hg'.grown hg (fun k hk => .inl ⟨h6 k hk, fun h => by have := (hrow k hk).1; omega⟩)
    exact hs.setCell (.inl ⟨h2, fun _ => rfl⟩) _
  · have hb0 : Below w0.heap.size w0 (w'.setCell ⟨tb, 0, none⟩ v') := by
      have hb : Below w0.heap.size w0 w' := ((h1.alloc (by omega) (.cells #[vc] 76))).grown hg (by simp; omega) (fun k hk => by have := (hrow k hk).1; omega)
      exact hb.setCell (by show w0.heap.size ≤ tb; omega) _
    refine ⟨hb0, ⟨.inl h2, by simp; omega⟩, v', vs ++ [vc], heap_setCell_at htb' _, ?_, ?_, ?_, ?_⟩
    · exact own_blocks hn (fun g hg' => Below.heap_setCell _ _ _ _ (fun e => by have e' : g = tb := e; have := (hrow' g hg').1; omega))
    · rw [List.take_succ_eq_append_getElem (List.getElem?_eq_some_iff.1 hx).1, (List.getElem?_eq_some_iff.1 hx).2]
      have hl5 : vs.length = i := by have := h5.1; rw [this, List.length_take]; have := (List.getElem?_eq_some_iff.1 hx).1; omega
      refine ⟨by simp [h5.1], fun j y hy => ?_⟩
      rcases Nat.lt_trichotomy j vs.length with hj | hj | hj
      · rw [List.getElem?_append_left (by rw [← h5.1]; exact hj)] at hy
        obtain ⟨c', hc1, hc2⟩ := h5.2 j y hy
        refine ⟨c', by rw [List.getElem?_append_left hj]; exact hc1, own_blocks hc2 (fun g hg' => hk2 g (hc2.lt g hg').2 (own_apart hc2 h4 (by decide) g hg') (fun e => by have := (hc2.lt g hg').1; omega))⟩
      · have hj2 : j = ((waysL p).take i).length := by rw [← h5.1]; exact hj
        rw [hj2, List.getElem?_append_right (Nat.le_refl _)] at hy
        simp at hy
        subst hy
        refine ⟨vc, by rw [hj]; simp, own_blocks hvc (fun g hg' => hk2 g (hvc.lt g hg').2 (own_apart hvc h4 (by decide) g hg') (fun e => by have := (hvc.lt g hg').1; omega))⟩
      · rw [List.getElem?_eq_none (by simp [← h5.1]; omega)] at hy
        cases hy
    · intro g hg'
      have hsz : (w'.setCell ⟨tb, 0, none⟩ v').heap.size = w'.heap.size := by simp
      refine ⟨?_, by have := (hrow' g hg').2; omega⟩
      rcases hor with e | e
      · rw [e] at hg'
        exact .inl (h6 g hg')
      · rw [e] at hg'
        cases hg'
        exact .inr (.inr (by simp))
    · intro c' hc' g hg'
      rcases List.mem_append.1 hc' with hc' | hc'
      · refine ⟨.inl (h7 c' hc' g hg'), by have := (rows_lt h5 hc' hg').2; simp; omega⟩
      · rw [List.mem_singleton.1 hc'] at hg'
        exact ⟨.inr (.inl hg'), by have := (hvc.lt g hg').2; simp; omega⟩
attribute [local go_sem] Oper.semAt_some
set_option maxRecDepth 100000 in
set_option maxHeartbeats 4000000 in
theorem appendSeq_any {p : Prs} {a : Option Addr} {cap bp g pb : Nat} {w : World} (hv : p.valid = true) (hpb : w.heap[pb]? = some (.cells #[.pointer (some ⟨bp, 0, none⟩)] 79 (0, 0))) (hP : PileP w bp p a cap g) (hN : (waysL p).length ≤ 1000000) :
    Calls Try.prog 90 #[.slice none 0 0, .func (.func 97) #[] #[.pointer (some ⟨pb, 0, none⟩)]] w fun e w' => ∃ v vs, e = .returned v ∧ w'.ownsRow w.heap.size 76 1 v (waysL p).length vs ∧ RowsOf w' w.heap.size vs (waysL p) ∧ Below w.heap.size w w' := by
  obtain ⟨W1, hW1⟩ : ∃ W1 : World, W1 = w.alloc (.cells #[.slice none 0 0] 74) := ⟨_, rfl⟩
  have hb1 : Below w.heap.size w W1 := by rw [hW1]; exact (Below.refl _ w).alloc (Nat.le_refl _) _
  have q0 : W1.heap[w.heap.size]? = some (.cells #[.slice none 0 0] 74 (0, 0)) := by rw [hW1]; exact World.alloc_heap_new w _
  have hz1 : W1.heap.size = w.heap.size + 1 := by rw [hW1]; simp
  have HPP : Hid (∀ V, Below w.heap.size w V → V.heap[pb]? = some (.cells #[.pointer (some ⟨bp, 0, none⟩)] 79 (0, 0)) ∧ PileP V bp p a cap g) := fun V hb => ⟨(hb.block _ (heap_lt hpb)).trans hpb, hP.mono hb⟩
  have HV := Lib.hid (And.intro hv (And.intro hb1 (And.intro q0 hN)))
  have HW1 := Lib.hid hW1
  have HZ1 := Lib.hid hz1
  clear hW1 hb1 q0 hpb hP hv hz1 hN
  refine calls_of_wp_marks Try.func90 rfl ?_
  simp only [Try.ntmps90, List.size_toArray, List.length_cons, List.length_nil, Nat.reduceAdd, Nat.reduceSub, Array.replicate_succ, Array.replicate_zero, List.push_toArray, List.append_toArray, List.nil_append, List.cons_append]
  go_wp2_with fail
  have hW1 := HW1.out
  rw [← hW1]
  clear hW1
  have hz1 := HZ1.out
  refine wp_rangeFuncC (gf := 97) (lb := #[.pointer (some ⟨pb, 0, none⟩)]) rfl (fun args w => by simp [callFunc, Try.func97, Try.f97, go_sem]) (waysL p).length (WayOk p (W1.heap.size + 2)) (fun q => q = w.heap.size ∨ q = W1.heap.size + 1) ?hps (by omega) (by omega) ?hit
    (fun i A C => ColI p w (W1.heap.size + 2) w.heap.size i A C ∧ ∀ k, k < W1.heap.size + 2 → C k) (fun _ _ _ _ => False) ?hI ?hIx ?h0 ?hround ?hdone ?hstop
  case hps =>
    rintro i v A K ⟨x, vc, _, rfl, _⟩
    rfl
  case hit =>
    intro W hb hsz
    rw [← hsz]
    refine ways_iter HV.out.1 (fun A hA => HPP.out A ?_)
    have hbW : Below w.heap.size w W := HV.out.2.1.trans (hb.mono (by omega))
    refine hbW.trans (hA.below (by have := hbW.size; omega) (fun k hk e => ?_))
    rcases e with e | e <;> omega
  case hI =>
    intro i A B C h hs
    exact ⟨h.1.stable hs (by omega) (by omega) (by omega) h.2 (by omega), h.2⟩
  case hIx =>
    intro c i A B C h _
    exact h
  case h0 =>
    intro W hb hsz
    refine ⟨⟨HV.out.2.1.trans (hb.mono (by omega)), by omega, _, [], (hb.block _ (by omega)).trans HV.out.2.2.1, World.ownsRow_nil W _ _ _, ⟨rfl, fun i x hx => by simp at hx⟩, (fun g hg => by cases hg), (fun c hc => by cases hc)⟩, fun k hk => hk⟩
  case hround =>
    rintro i v W C K hiN ⟨x, vc, hx, rfl, hvc, rfl⟩ hKC hC ⟨hcol, hC0⟩ hlt
    obtain ⟨av, cv, rfl, _⟩ := own_slice hvc
    clear hC0
    have HH := Lib.hid (And.intro hx (And.intro hvc (And.intro hKC (And.intro hC (And.intro hcol (And.intro hlt hiN))))))
    clear hx hvc hKC hC hcol hlt hiN
    clear hz1
    gi_wp2_with fail
    refine fun V2 hS2 hsz2 => ?_
    have hz1 := HZ1.out
    obtain ⟨hx, hvc, hKC, hC, hcol, hlt, hiN⟩ := HH.out
    have hN := HV.out.2.2.2
    have hcol2 := hcol.stable (hS2.mono (fun _ _ e => .inr e)) (by omega) (by omega) (by omega) hC (by omega)
    have hvc2 : V2.ownsRow (W1.heap.size + 2) 3 1 (.slice av x.length cv) x.length (x.map (Value.int .i64)) := own_blocks hvc (fun g hg => hS2.block g (hvc.lt g hg).2 (by have := (hvc.lt g hg).1; omega))
    obtain ⟨v, v', w', m1, ⟨a1, c1, rfl⟩, m3, ⟨a2, c2, rfl⟩, ⟨u, m4⟩, m5, m6, m7, m8⟩ := hcol2.more hx hvc2 (by omega) (by omega) (by omega : W1.heap.size + 1 < W1.heap.size + 2) (by omega) (Nat.le_refl _) (by omega) (by omega)
    have HM := Lib.hid (And.intro m3 (And.intro m6 (And.intro m7 m8)))
    have HH3 : Hid (W1.heap.size + 2 ≤ V2.heap.size) := Lib.hid (by omega)
    have HH2 := Lib.hid (And.intro hS2 (And.intro hsz2 (And.intro hC hKC)))
    clear hx hvc hKC hC hcol hlt hiN hN hcol2 hvc2 m3 m6 m7 m8 hS2 hsz2 HH hz1
    gi_wp2_with (refine wpListIn_append_run rfl (.tmp 8) (.tmp 10) 74 rfl _ _ _ _ rfl rfl HM.out.1 ?_)
    obtain ⟨hS2, hsz2, hC, hKC⟩ := HH2.out
    refine ⟨HM.out.2.1.mono (fun k _ e => ⟨e.1, fun h => .inl (e.2 h)⟩), HM.out.2.2.1, _, fun k hk => ⟨.inl (hC k hk), ?_⟩, fun k hk => hk.2, fun k hk => hk.1, HM.out.2.2.2, fun k hk => ⟨.inl (hC k hk), ?_⟩⟩ <;>
    · have := HM.out.2.1.size
      have := HH3.out
      omega
  case hdone =>
    rintro W C ⟨⟨h1, h2, v, vs, h3, h4, h5, h6, h7⟩, hC⟩ hdef
    have hc : W.cell? ⟨w.heap.size, 0, none⟩ = some v := by rw [cell_of_heap h3]; rfl
    have HF := Lib.hid (And.intro h1 (And.intro h3 (And.intro h4 (And.intro h5 hdef))))
    clear h1 h2 h3 h4 h5 h6 h7 hdef hz1
    go_wp2_with fail
    obtain ⟨h1, h3, h4, h5, hdef⟩ := HF.out
    have hz1 := HZ1.out
    refine leaves_marks (n := w.heap.size) [W1.heap.size] W (by simp) (fun k hk => ?_) (fun W' hs hsz => ⟨results_tmp rfl _ _ _, v, vs, rfl, ?_, ?_, ?_⟩)
    · rw [List.mem_singleton] at hk
      subst hk
      exact ⟨by omega, hdef⟩
    · exact own_base (own_still h4 hs) (by omega)
    · exact ⟨by rw [h5.1, List.take_length], fun i x hx => by
        obtain ⟨vc, e1, e2⟩ := h5.2 i x (by rw [List.take_length]; exact hx)
        exact ⟨vc, e1, own_base (own_still e2 hs) (by omega)⟩⟩
    · exact h1.trans (hs.below h1.size (fun k hk e => by have := e.1; omega))
  case hstop =>
    intro c i W C _ h
    exact h.elim
end Go.Proofs.Ytnfhlbmapfoifaa
namespace Go.Proofs.Ytnfhlbmapfoifaa
open Go.RowKit
set_option linter.unusedVariables false
theorem leaves_ok {fn : Func} {tmps : Array Value} {R : Ending → World → Prop} {f : Nat} {pe : Value} {w : World} (hok : CallsD Try.prog f #[pe] .returning w fun e u' w' => e = .returned (.tuple #[]) ∧ u' = .returning ∧ w = w')
    (hcf : ∀ args w, (callFunc f args).run Try.prog w = .ok (.enter f args) w) {v : Value} (hv : (results fn tmps).run Try.prog w = .ok v w) (hR : R (.returned v) w) :
    Leaves Try.prog fn tmps R [{ target := .fn (.func f) #[pe], args := #[] }] .returning w := by
  refine ⟨by simp, _, _, f, #[pe], rfl, ?_, ?_⟩
  · simp [invoke, go_sem, hcf]
  · refine CallsD.mono hok ?_
    rintro e u' w' ⟨rfl, rfl, rfl⟩
    exact ⟨v, hv, hR⟩
theorem leaves_no {fn : Func} {tmps : Array Value} {R : Ending → World → Prop} {f : Nat} {pe : Value} {w w' : World} {c c' : List PanicEntry}
    (hno : CallsD Try.prog f #[pe] (.panicking c) w fun e u' w'' => e = .returned (.tuple #[]) ∧ u' = .panicking c' ∧ w'' = w') (hs : settle (.panicking c') = .returning)
    (hcf : ∀ args w, (callFunc f args).run Try.prog w = .ok (.enter f args) w) {v : Value} (hv : (results fn tmps).run Try.prog w' = .ok v w') (hR : R (.returned v) w') :
    Leaves Try.prog fn tmps R [{ target := .fn (.func f) #[pe], args := #[] }] (.panicking c) w := by
  refine ⟨by simp, _, _, f, #[pe], rfl, ?_, ?_⟩
  · simp [invoke, go_sem, hcf]
  · refine CallsD.mono hno ?_
    rintro e u' w'' ⟨rfl, rfl, rfl⟩
    simp only [hs]
    exact ⟨v, hv, hR⟩
theorem res_cc {fn : Func} {p u : Tmp} (h : fn.results = #[.cell p 3, .cell u 29]) (tmps : Array Value) {w : World} {a b : Nat} {x y : Value} (hp : tmps.getD p undef = .pointer (some ⟨a, 0, none⟩)) (hu : tmps.getD u undef = .pointer (some ⟨b, 0, none⟩))
    (hx : w.cell? ⟨a, 0, none⟩ = some x) (hy : w.cell? ⟨b, 0, none⟩ = some y) :
    (results fn tmps).run Try.prog w = .ok (.tuple #[x, y]) w := by
  have hp' : tmps[p]?.getD undef = .pointer (some ⟨a, 0, none⟩) := by simpa using hp
  have hu' : tmps[u]?.getD undef = .pointer (some ⟨b, 0, none⟩) := by simpa using hu
  simp [results, h, hp', hu', hx, hy, go_sem]
theorem res_ccc {fn : Func} {p q u : Tmp} (h : fn.results = #[.cell p 3, .cell q 4, .cell u 29]) (tmps : Array Value) {w : World} {a b c : Nat} {x y z : Value} (hp : tmps.getD p undef = .pointer (some ⟨a, 0, none⟩)) (hq : tmps.getD q undef = .pointer (some ⟨c, 0, none⟩)) (hu : tmps.getD u undef = .pointer (some ⟨b, 0, none⟩))
    (hx : w.cell? ⟨a, 0, none⟩ = some x) (hz : w.cell? ⟨c, 0, none⟩ = some z) (hy : w.cell? ⟨b, 0, none⟩ = some y) :
    (results fn tmps).run Try.prog w = .ok (.tuple #[x, z, y]) w := by
  have hp' : tmps[p]?.getD undef = .pointer (some ⟨a, 0, none⟩) := by simpa using hp
  have hq' : tmps[q]?.getD undef = .pointer (some ⟨c, 0, none⟩) := by simpa using hq
  have hu' : tmps[u]?.getD undef = .pointer (some ⟨b, 0, none⟩) := by simpa using hu
  simp [results, h, hp', hq', hu', hx, hy, hz, go_sem]
theorem res_tc {fn : Func} {p u : Tmp} (h : fn.results = #[.tmp p, .cell u 29]) (tmps : Array Value) {w : World} {b : Nat} {x : Value} (hu : tmps.getD u undef = .pointer (some ⟨b, 0, none⟩)) (hc : w.cell? ⟨b, 0, none⟩ = some x) :
    (results fn tmps).run Try.prog w = .ok (.tuple #[tmps.getD p undef, x]) w := by
  have hu' : tmps[u]?.getD undef = .pointer (some ⟨b, 0, none⟩) := by simpa using hu
  simp [results, h, hu', hc, go_sem]
theorem res_ttc {fn : Func} {p q u : Tmp} (h : fn.results = #[.tmp p, .tmp q, .cell u 29]) (tmps : Array Value) {w : World} {b : Nat} {x : Value} (hu : tmps.getD u undef = .pointer (some ⟨b, 0, none⟩)) (hc : w.cell? ⟨b, 0, none⟩ = some x) :
    (results fn tmps).run Try.prog w = .ok (.tuple #[tmps.getD p undef, tmps.getD q undef, x]) w := by
  have hu' : tmps[u]?.getD undef = .pointer (some ⟨b, 0, none⟩) := by simpa using hu
  simp [results, h, hu', hc, go_sem]
theorem collect_any {p : Prs} {a : Option Addr} {cap bp g pb : Nat} {w : World} (hv : p.valid = true) (hpb : w.heap[pb]? = some (.cells #[.pointer (some ⟨bp, 0, none⟩)] 79 (0, 0))) (hP : PileP w bp p a cap g) (hN : (waysL p).length ≤ 1000000) :
    Calls Try.prog 50 #[.func (.func 97) #[] #[.pointer (some ⟨pb, 0, none⟩)]] w fun e w' => ∃ v vs, e = .returned v ∧ w'.ownsRow w.heap.size 76 1 v (waysL p).length vs ∧ RowsOf w' w.heap.size vs (waysL p) ∧ Below w.heap.size w w' := by
  go_enter Try.func50, Try.ntmps50
  go_wp2_with fail
  refine (appendSeq_any hv hpb hP hN).mono ?_
  rintro e w' ⟨v, vs, rfl, h⟩
  have H := Lib.hid h
  clear h
  go_wp2_with fail
  go_ret
  exact ⟨_, vs, rfl, H.out⟩
theorem flat_len {α β : Type} (f : α → List β) (B : Nat) : ∀ l : List α, (∀ x ∈ l, (f x).length ≤ B) → (l.flatMap f).length ≤ l.length * B
  | [], _ => by simp
  | x :: l, h => by
    have h1 := h x (by simp)
    have h2 := flat_len f B l (fun y hy => h y (by simp [hy]))
    simp only [List.flatMap_cons, List.length_append, List.length_cons, Nat.succ_mul]
    omega
theorem onW_len {p : Prs} (hn : p.cards.length ≤ 5) : ∀ (d : Nat) (pre : List Int), (onW p d pre).length ≤ 6 ^ d
  | 0, pre => by
    rw [onW_zero]
    split <;> simp
  | d + 1, pre => by
    rw [onW_succ]
    have h1 := flat_len (onF p d pre) (6 ^ d) (froms p.cards.length) (fun x _ => by
      unfold onF
      split
      · simp
      · exact onW_len hn d _)
    have h2 : (froms p.cards.length).length ≤ 6 := by simp [froms]; omega
    have h3 := Nat.mul_le_mul_right (6 ^ d) h2
    rw [Nat.pow_succ]
    omega
theorem ways_len {p : Prs} (hv : p.valid = true) : (waysL p).length ≤ 1000000 := by
  have hn : p.cards.length ≤ 5 := by
    unfold Prs.valid at hv
    simp at hv
    exact hv.1.1.1
  have h1 := onW_len hn p.cards.length []
  have h2 := Nat.pow_le_pow_right (n := 6) (by decide) hn
  unfold waysL
  have : (6 ^ 5 : Nat) = 7776 := by decide
  omega
/-- What has been counted. -/
structure CntI (w0 : World) (cb eb i : Nat) (A : World) (C : Nat → Prop) : Prop where
  below : Below w0.heap.size w0 A
  hcb : C cb
  heb : C eb
  cnt : A.heap[cb]? = some (.cells #[.int .i64 (i : Int)] 3 (0, 0))
  err : A.heap[eb]? = some (.cells #[.int .i64 0] 29 (0, 0))
theorem CntI.stable {w0 : World} {cb eb i lb : Nat} {A B : World} {C : Nat → Prop} (h : CntI w0 cb eb i A C) (hs : Same (fun k => ¬ C k ∨ k = lb) A B) (h1 : lb ≠ cb) (h2 : lb ≠ eb) (h3 : w0.heap.size ≤ lb) (hC : ∀ k, k < w0.heap.size → C k) : CntI w0 cb eb i B C := by
  obtain ⟨k1, k2, k3, k4, k5⟩ := h
  refine ⟨k1.trans (hs.below k1.size (fun k hk e => ?_)), k2, k3, (hs.block cb (heap_lt k4) (fun e => ?_)).trans k4, (hs.block eb (heap_lt k5) (fun e => ?_)).trans k5⟩
  · rcases e with e | e
    · exact e (hC k hk)
    · omega
  · rcases e with e | e
    · exact e k2
    · exact h1 e.symm
  · rcases e with e | e
    · exact e k3
    · exact h2 e.symm
attribute [local go_sem] Oper.semAt_some
set_option maxRecDepth 100000 in
set_option maxHeartbeats 4000000 in
theorem waysC_any {p : Prs} {a : Option Addr} {cap : Nat} {w : World} (ha : IsPrts w a p.cards) (hn : p.cards.length ≤ 16) :
    Calls Try.prog 32 #[p.v a cap] w fun e w' => e = .returned (.tuple #[.int .i64 (waysE p).1, .int .i64 (waysE p).2]) ∧ Below w.heap.size w w' := by
  have hmf : ∀ (fn : Fn) (first cap : Array Value) (w : World), (Instr.makeFunc fn first cap).run Try.prog w = .ok (.func fn first cap) w := fun _ _ _ _ => rfl
  refine calls_of_wp_x Try.func32 rfl ?_
  simp only [Try.ntmps32, List.size_toArray, List.length_cons, List.length_nil, Nat.reduceAdd, Nat.reduceSub, Array.replicate_succ, Array.replicate_zero, List.push_toArray, List.append_toArray, List.nil_append, List.cons_append]
  go_wp2_with fail
  obtain ⟨W1, hW1⟩ : ∃ W1 : World, W1 = ((w.alloc (.cells (p.cells a cap) 26)).alloc (.cells #[.int .i64 0] 3)).alloc (.cells #[.int .i64 0] 29) := ⟨_, rfl⟩
  have hb1 : Below w.heap.size w W1 := by rw [hW1]; exact (((Below.refl _ w).alloc (Nat.le_refl _) _).alloc (by simp) _).alloc (by simp; omega) _
  have hz1 : W1.heap.size = w.heap.size + 3 := by rw [hW1]; simp
  have q1 : W1.heap[w.heap.size + 1]? = some (.cells #[.int .i64 0] 3 (0, 0)) := by
    rw [hW1]
    have := World.alloc_heap_new (w.alloc (.cells (p.cells a cap) 26)) (.cells #[.int .i64 0] 3)
    rw [World.size_alloc] at this
    exact (Below.heap_alloc _ _ _ (by simp)).trans this
  have q2 : W1.heap[w.heap.size + 2]? = some (.cells #[.int .i64 0] 29 (0, 0)) := by
    rw [hW1]
    have := World.alloc_heap_new ((w.alloc (.cells (p.cells a cap) 26)).alloc (.cells #[.int .i64 0] 3)) (.cells #[.int .i64 0] 29)
    rw [World.size_alloc, World.size_alloc] at this
    exact this
  have ha1 := ha.mono hb1
  rw [← hW1]
  have HA := Lib.hid ha
  clear hW1 ha
  cases hv : p.valid with
  | false =>
    have hE : openE p true = 1 := by unfold openE; rw [hv]; rfl
    refine (open_no ha1 hn true (by rw [hE]; decide)).mono ?_
    rintro e w2 ⟨rfl, hb2⟩
    have he2 := (hb2.block (w.heap.size + 2) (by omega)).trans q2
    have hk2 := (hb2.block (w.heap.size + 1) (by omega)).trans q1
    have hc2 : w2.cell? ⟨w.heap.size + 2, 0, none⟩ = some (.int .i64 0) := by rw [cell_of_heap he2]; rfl
    have hb3 : Below w.heap.size w ((w2.alloc (.cells #[.int .i64 (openE p true)] 115)).setCell ⟨w.heap.size + 2, 0, none⟩ (.int .i64 (openE p true))) := by
      have h2 := hb1.trans (hb2.mono (by omega))
      exact (h2.alloc h2.size _).setCell (by simp) _
    have hcell := World.cell?_setCell_same (w2.alloc (.cells #[.int .i64 (openE p true)] 115)) ⟨w.heap.size + 2, 0, none⟩ (.int .i64 (openE p true)) (cell_stays ((Below.refl _ w2).alloc (Nat.le_refl _) _) hc2)
    have hk3 : ((w2.alloc (.cells #[.int .i64 (openE p true)] 115)).setCell ⟨w.heap.size + 2, 0, none⟩ (.int .i64 (openE p true))).heap[w.heap.size + 1]? = some (.cells #[.int .i64 0] 3 (0, 0)) :=
      (Below.heap_setCell _ _ _ _ (by simp)).trans ((Below.heap_alloc _ _ _ (heap_lt hk2)).trans hk2)
    refine ⟨[], _, rfl, leaves_no (recov79_no (openE p true) hc2 (frozen_of_heap he2)) rfl cf79 (res_cc rfl _ rfl rfl (x := .int .i64 0) (by rw [cell_of_heap hk3]; rfl) hcell) ⟨?_, hb3⟩⟩
    unfold waysE
    rw [hE]
    rfl
  | true =>
    refine (open_yes ha1 hn hv).mono ?_
    rintro e w2 ⟨bp, g, rfl, hbp, hP, hb2⟩
    have hz2 : w.heap.size + 3 ≤ w2.heap.size := by have := hb2.size; omega
    have q1' := (hb2.block (w.heap.size + 1) (by omega)).trans q1
    have q2' := (hb2.block (w.heap.size + 2) (by omega)).trans q2
    have hB2 := hb1.trans (hb2.mono (by omega))
    clear hb1 hz1 q1 q2 ha1 hb2 hbp
    go_wp2_with fail
    refine ways_any.mono ?_
    rintro e w3 ⟨rfl, rfl⟩
    have hb3 : Below w2.heap.size w2 (w2.alloc (.cells #[.pointer (some ⟨bp, 0, none⟩)] 79)) := (Below.refl _ _).alloc (Nat.le_refl _) _
    have q3 := World.alloc_heap_new w2 (.cells #[.pointer (some ⟨bp, 0, none⟩)] 79)
    have hP3 := hP.mono hb3
    have hz3 : (w2.alloc (.cells #[.pointer (some ⟨bp, 0, none⟩)] 79)).heap.size = w2.heap.size + 1 := by simp
    have hB3 := hB2.trans (hb3.mono (by omega))
    have q1 := (hb3.block (w.heap.size + 1) (by omega)).trans q1'
    have q2 := (hb3.block (w.heap.size + 2) (by omega)).trans q2'
    have hpb : w2.heap.size < w2.heap.size + 1 := by omega
    revert hb3 q3 hP3 hz3 hB3 q1 q2
    generalize (w2.alloc (.cells #[.pointer (some ⟨bp, 0, none⟩)] 79)) = w3
    intro hb3 q3 hP3 hz3 hB3 q1 q2
    have HP := Lib.hid (And.intro hP3 (And.intro q3 (And.intro hB3 (And.intro q1 q2))))
    have HZ := Lib.hid (And.intro hz2 hz3)
    have HV := Lib.hid hv
    clear hP hb3 q3 hP3 hB3 q1 q2 q1' q2' hB2 hz2 hz3 hv hpb
    go_wp2_with fail
    obtain ⟨hz2, hz3⟩ := HZ.out
    refine wp_rangeFuncC (gf := 97) (lb := #[.pointer (some ⟨w2.heap.size, 0, none⟩)]) rfl (fun args w => by simp [callFunc, Try.func97, Try.f97, go_sem]) (waysL p).length (WayOk p (w3.heap.size + 2)) (fun q => q = w.heap.size + 1 ∨ q = w3.heap.size + 1) ?hps (by omega) (by omega) ?hit
      (fun i A C => CntI w (w.heap.size + 1) (w.heap.size + 2) i A C ∧ ∀ k, k < w3.heap.size + 2 → C k) (fun _ _ _ _ => False) ?hI ?hIx ?h0 ?hround ?hdone ?hstop
    case hps =>
      rintro i v A K ⟨x, vc, _, rfl, _⟩
      rfl
    case hit =>
      intro W hb hsz
      rw [← hsz]
      obtain ⟨hP3, q3, hB3, q1, _⟩ := HP.out
      refine ways_iter (a := a) (cap := cap) (bp := bp) (g := g) HV.out (fun A hA => ?_)
      have hbA : ∀ k, k < w3.heap.size → k ≠ w.heap.size + 1 → A.heap[k]? = w3.heap[k]? := fun k hk hne => (hA.block k (by omega) (by rintro (e | e) <;> omega)).trans (hb.block k hk)
      have hBA : Below w.heap.size w A := (hB3.trans (hb.mono (by omega))).trans (hA.below (by omega) (fun k hk e => by rcases e with e | e <;> omega))
      refine ⟨(hbA _ (by omega) (by omega)).trans q3, (hbA _ (heap_lt hP3.pile) ?_).trans hP3.pile, (hbA _ (heap_lt hP3.loss) ?_).trans hP3.loss, HA.out.mono hBA⟩
      · rintro rfl
        have := hP3.pile
        rw [q1] at this
        simp at this
      · rintro rfl
        have := hP3.loss
        rw [q1] at this
        simp at this
    case hI =>
      intro i A B C h hs
      exact ⟨h.1.stable hs (by omega) (by omega) (by omega) (fun k hk => h.2 k (by omega)), h.2⟩
    case hIx =>
      intro c i A B C h _
      exact h
    case h0 =>
      intro W hb hsz
      obtain ⟨hP3, q3, hB3, q1, q2⟩ := HP.out
      exact ⟨⟨hB3.trans (hb.mono (by omega)), by omega, by omega, (hb.block _ (by omega)).trans q1, (hb.block _ (by omega)).trans q2⟩, fun k hk => hk⟩
    case hround =>
      rintro i v W C K hiN ⟨x, vc, hx, rfl, hvc, rfl⟩ hKC hC ⟨hcnt, hC0⟩ hlt
      obtain ⟨av, cv, rfl, _⟩ := own_slice hvc
      have HH := Lib.hid (And.intro hC (And.intro hcnt (And.intro hlt hiN)))
      clear hx hvc hKC hC hcnt hlt hiN hC0 hz2 hz3
      gi_wp2_with fail
      refine ⟨trivial, fun V2 hS2 hsz2 => ?_⟩
      obtain ⟨hC, hcnt, hlt, hiN⟩ := HH.out
      obtain ⟨hz2, hz3⟩ := HZ.out
      have hcnt2 := hcnt.stable (hS2.mono (fun _ _ e => .inr e)) (by omega) (by omega) (by omega) (fun k hk => hC k (by omega))
      obtain ⟨k1, k2, k3, k4, k5⟩ := hcnt2
      have c4 : V2.cell? ⟨w.heap.size + 1, 0, none⟩ = some (.int .i64 (i : Int)) := by rw [cell_of_heap k4]; rfl
      have f4 : V2.frozen? ⟨w.heap.size + 1, 0, none⟩ = false := frozen_of_heap k4
      have hN := ways_len HV.out
      have hi2 : (i : Int) ≤ 1000000 := by omega
      have HH2 := Lib.hid (And.intro hC (And.intro k1 (And.intro k4 (And.intro k5 (And.intro hlt hsz2)))))
      clear hC hcnt hlt hiN hz2 hz3 k1 k2 k3 k4 k5 hN hS2 hsz2 HH
      gi_wp2_with fail
      obtain ⟨hC, k1, k4, k5, hlt, hsz2⟩ := HH2.out
      obtain ⟨hz2, hz3⟩ := HZ.out
      have hsz : (V2.setCell ⟨w.heap.size + 1, 0, none⟩ (.int .i64 ((i : Int) + 1))).heap.size = V2.heap.size := by simp
      refine ⟨(Same.refl _ V2).setCell (show mayC (fun q => q = w.heap.size + 1 ∨ q = w3.heap.size + 1) (w3.heap.size + 2) C (w.heap.size + 1) ∨ _ from .inl ⟨hC _ (by omega), fun _ => .inl rfl⟩) _, Below.heap_setCell _ _ _ _ (by show w3.heap.size + 1 ≠ w.heap.size + 1; omega), fun k => C k ∧ k < V2.heap.size, fun k hk => ⟨hC k hk, by omega⟩, fun k hk => by rw [hsz]; exact hk.2, fun k hk => .inl hk.1, ⟨k1.setCell (by show w.heap.size ≤ w.heap.size + 1; omega) _, ⟨hC _ (by omega), by omega⟩, ⟨hC _ (by omega), by omega⟩, ?_, (Below.heap_setCell _ _ _ _ (by show w.heap.size + 2 ≠ w.heap.size + 1; omega)).trans k5⟩, fun k hk => ⟨hC k hk, by omega⟩⟩
      exact heap_setCell_at k4 _
    case hdone =>
      rintro W C ⟨⟨h1, h2, h3, h4, h5⟩, hC⟩ hdef
      have c4 : W.cell? ⟨w.heap.size + 1, 0, none⟩ = some (.int .i64 ((waysL p).length : Int)) := by rw [cell_of_heap h4]; rfl
      have f4 : W.frozen? ⟨w.heap.size + 1, 0, none⟩ = false := frozen_of_heap h4
      have c5 : W.cell? ⟨w.heap.size + 2, 0, none⟩ = some (.int .i64 0) := by rw [cell_of_heap h5]; rfl
      have f5 : W.frozen? ⟨w.heap.size + 2, 0, none⟩ = false := frozen_of_heap h5
      have HF := Lib.hid (And.intro h1 (And.intro h4 (And.intro h5 hdef)))
      clear h1 h2 h3 h4 h5 hdef hz2 hz3
      go_wp2_with fail
      obtain ⟨h1, h4, h5, hdef⟩ := HF.out
      obtain ⟨hz2, hz3⟩ := HZ.out
      have e1 := heap_setCell_at (k := 0) h4 (.int .i64 ((waysL p).length : Int))
      have e2 : (W.setCell ⟨w.heap.size + 1, 0, none⟩ (.int .i64 ((waysL p).length : Int))).heap[w.heap.size + 2]? = _ := (Below.heap_setCell _ _ _ _ (by show w.heap.size + 2 ≠ w.heap.size + 1; omega)).trans h5
      have e3 := heap_setCell_at (k := 0) e2 (.int .i64 0)
      have e4 : ((W.setCell ⟨w.heap.size + 1, 0, none⟩ (.int .i64 ((waysL p).length : Int))).setCell ⟨w.heap.size + 2, 0, none⟩ (.int .i64 0)).heap[w.heap.size + 1]? = _ := (Below.heap_setCell _ _ _ _ (by show w.heap.size + 1 ≠ w.heap.size + 2; omega)).trans e1
      have e5 : ((W.setCell ⟨w.heap.size + 1, 0, none⟩ (.int .i64 ((waysL p).length : Int))).setCell ⟨w.heap.size + 2, 0, none⟩ (.int .i64 0)).heap[w3.heap.size]? = some (.deferred (some [])) :=
        (Below.heap_setCell _ _ _ _ (by show w3.heap.size ≠ w.heap.size + 2; omega)).trans ((Below.heap_setCell _ _ _ _ (by show w3.heap.size ≠ w.heap.size + 1; omega)).trans hdef)
      have hBW : Below w.heap.size w ((W.setCell ⟨w.heap.size + 1, 0, none⟩ (.int .i64 ((waysL p).length : Int))).setCell ⟨w.heap.size + 2, 0, none⟩ (.int .i64 0)) := (h1.setCell (by show w.heap.size ≤ w.heap.size + 1; omega) _).setCell (by show w.heap.size ≤ w.heap.size + 2; omega) _
      revert e3 e4 e5 hBW
      generalize ((W.setCell ⟨w.heap.size + 1, 0, none⟩ (.int .i64 ((waysL p).length : Int))).setCell ⟨w.heap.size + 2, 0, none⟩ (.int .i64 0)) = X
      intro e3 e4 e5 hBW
      have hput : Below w.heap.size w (X.putObj w3.heap.size (.deferred none)) :=
        (((Same.of_below (fun q => w.heap.size ≤ q) hBW).putObj (.inl (by omega)) _).below (Nat.le_refl _) (fun q hq h => by omega))
      have g3 : (X.putObj w3.heap.size (.deferred none)).heap[w.heap.size + 2]? = _ := (World.putObj_heap_other (by omega)).trans e3
      have g4 : (X.putObj w3.heap.size (.deferred none)).heap[w.heap.size + 1]? = _ := (World.putObj_heap_other (by omega)).trans e4
      refine ⟨[w3.heap.size], _, rfl, by simp, _, run_takeDeferred e5, leaves_ok (recov79_ok _ _) cf79 (res_cc rfl _ rfl rfl (x := .int .i64 ((waysL p).length : Int)) (y := .int .i64 0) (by rw [cell_of_heap g4]; rfl) (by rw [cell_of_heap g3]; rfl)) ⟨?_, hput⟩⟩
      unfold waysE openE
      rw [HV.out]
      rfl
    case hstop =>
      intro c i W C _ h
      exact h.elim
end Go.Proofs.Ytnfhlbmapfoifaa
namespace Go.Proofs.Ytnfhlbmapfoifaa
open Go.RowKit
set_option linter.unusedVariables false
/-- A slice that holds a way. -/
def RowV (w : World) (x : List Int × Value) : Prop := ∃ av cv, x.2 = .slice av x.1.length cv ∧ IsInts w av x.1
/-- A slice of ways that can be read. -/
def IsRows (w : World) (a : Option Addr) (l : List (List Int × Value)) : Prop :=
  ∀ i, i < l.length → ∃ b off, a = some ⟨b, off, none⟩ ∧ w.cell? ⟨b, off + i, none⟩ = some (l.getD i ([], undef)).2 ∧ RowV w (l.getD i ([], undef))
theorem RowV.mono {w w' : World} {x : List Int × Value} (h : RowV w x) (hb : Below w.heap.size w w') : RowV w' x := by
  obtain ⟨av, cv, h1, h2⟩ := h
  exact ⟨av, cv, h1, h2.mono hb⟩
theorem rows_read {w : World} {B n : Nat} {v : Value} {vs : List Value} {l : List (List Int)} (h : w.ownsRow B 76 1 v n vs) (hr : RowsOf w B vs l) (hn : l.length = n) : ∃ a cap, v = .slice a n cap ∧ n ≤ cap ∧ ∃ L : List (List Int × Value), L.map Prod.fst = l ∧ L.length = n ∧ IsRows w a L := by
  obtain ⟨a, cap, rfl, hcap, _⟩ := own_slice h
  have hlen := hr.1
  have hL : (l.zip vs).length = n := by rw [List.length_zip]; omega
  refine ⟨a, cap, rfl, hcap, l.zip vs, ?_, hL, fun i hi => ?_⟩
  · exact List.map_fst_zip (by omega)
  · have hi' : i < l.length := by omega
    obtain ⟨vc, h1, h2⟩ := hr.2 i _ (List.getElem?_eq_getElem hi')
    obtain ⟨g, c, e, _, _, _, _, hc⟩ := own_cell h (by omega)
    cases e
    obtain ⟨av, cv, rfl, _⟩ := own_slice h2
    have hv : i < vs.length := by omega
    have e1 : (l.zip vs).getD i ([], undef) = (l[i], .slice av l[i].length cv) := by
      rw [List.getElem?_eq_getElem hv] at h1
      have h1' := Option.some.inj h1
      simp [List.getElem?_eq_getElem hi, h1']
    rw [e1]
    refine ⟨g, 0, rfl, ?_, av, cv, rfl, own_ints h2⟩
    rw [Nat.zero_add]
    exact hc i _ h1
theorem IsRows.mono {w w' : World} {a : Option Addr} {l : List (List Int × Value)} (h : IsRows w a l) (hb : Below w.heap.size w w') : IsRows w' a l := fun i hi => by
  obtain ⟨b, off, h1, h2, h3⟩ := h i hi
  exact ⟨b, off, h1, cell_stays hb h2, h3.mono hb⟩
theorem IsRows.tail {w : World} {b off : Nat} {x : List Int × Value} {l : List (List Int × Value)} (h : IsRows w (some ⟨b, off, none⟩) (x :: l)) : IsRows w (some ⟨b, off + 1, none⟩) l := fun i hi => by
  obtain ⟨b', off', h1, h2, h3⟩ := h (i + 1) (by simp; omega)
  cases h1
  have e : (x :: l).getD (i + 1) ([], undef) = l.getD i ([], undef) := by simp
  rw [e] at h2 h3
  exact ⟨b, off + 1, rfl, by rw [show off + 1 + i = off + (i + 1) by omega]; exact h2, h3⟩
theorem take_snocL {l : List (List Int × Value)} {k : Nat} (h : k < l.length) : l.take (k + 1) = l.take k ++ [l.getD k ([], undef)] := by
  rw [List.take_succ_eq_append_getElem h]; simp [h]
/-- The one with the fewest originals, the first such. -/
def leastP (f : List Int × Value) (l : List (List Int × Value)) : List Int × Value := l.foldl (fun f x => if origN x.1 < origN f.1 then x else f) f
theorem leastP_snoc (f : List Int × Value) (l : List (List Int × Value)) (x : List Int × Value) : leastP f (l ++ [x]) = if origN x.1 < origN (leastP f l).1 then x else leastP f l := by
  unfold leastP; rw [List.foldl_append]; rfl
theorem leastP_fst : ∀ (l : List (List Int × Value)) (f : List Int × Value), (leastP f l).1 = leastW f.1 (l.map Prod.fst)
  | [], f => rfl
  | y :: l, f => by
    have h1 : leastP f (y :: l) = leastP (if origN y.1 < origN f.1 then y else f) l := rfl
    have h2 : leastW f.1 ((y :: l).map Prod.fst) = leastW (if origN y.1 < origN f.1 then y.1 else f.1) (l.map Prod.fst) := rfl
    rw [h1, h2, leastP_fst l]
    split <;> rfl
theorem leastP_all {Q : List Int × Value → Prop} : ∀ (l : List (List Int × Value)) (f : List Int × Value), Q f → (∀ x ∈ l, Q x) → Q (leastP f l)
  | [], f, hf, _ => hf
  | y :: l, f, hf, hl => by
    have h1 : leastP f (y :: l) = leastP (if origN y.1 < origN f.1 then y else f) l := rfl
    rw [h1]
    refine leastP_all l _ ?_ (fun x hx => hl x (by simp [hx]))
    split
    · exact hl y (by simp)
    · exact hf
set_option maxHeartbeats 1000000 in
theorem least_any {n : Nat} {f : List Int × Value} {l : List (List Int × Value)} (hn : n ≤ 16) (hf : f.1.length = n) (hl : ∀ x ∈ l, x.1.length = n) {a : Option Addr} {cap : Nat} {w : World} (haf : RowV w f) (ha : IsRows w a l) (hN : l.length ≤ 1000000) :
    Calls Try.prog 54 #[.func (.func 55) #[] #[], f.2, .slice a l.length cap] w fun e w' => e = .returned (leastP f l).2 ∧ w = w' := by
  go_enter Try.func54, Try.ntmps54
  go_wp2_with fail
  go_loop [1, 11] (fun r i => ∃ (k : Nat) (b : List Int × Value), k ≤ l.length ∧ i = .int .i64 k ∧ r = b.2 ∧ RowV w b ∧ b.1.length = n ∧ Hid (b = leastP f (l.take k))) (fun _ i => l.length - (intOf i).toNat)
  case atStart => exact ⟨0, f, by omega, rfl, rfl, haf, hf, rfl⟩
  case round =>
    obtain ⟨k, ⟨b, vb⟩, hk, rfl, hr, ⟨av, cv, hvb, hb⟩, hbn, HB⟩ := hrel
    simp only at hr hvb hb hbn
    subst hvb
    subst hr
    by_cases hlt : k < l.length
    · obtain ⟨bb, off, rfl, hc, ax, cx, hvx, hx⟩ := ha k hlt
      have hxn : (l.getD k ([], undef)).1.length = n := by
        have : l.getD k ([], undef) = l[k] := by simp [hlt]
        rw [this]; exact hl _ (List.getElem_mem hlt)
      have HS : Hid (leastP f (l.take (k + 1)) = if origN (l.getD k ([], undef)).1 < origN b then l.getD k ([], undef) else (b, .slice av b.length cv)) := by rw [Hid, take_snocL hlt, leastP_snoc, ← HB.out]
      revert hc hx hxn HS hvx
      generalize l.getD k ([], undef) = x
      obtain ⟨x, vx⟩ := x
      intro hc hvx hx hxn HS
      simp only at hvx hc hx hxn
      subst hvx
      have HO := Lib.hid (And.intro hx (And.intro hxn (And.intro hb hbn)))
      clear hx hxn hb hbn
      go_wp2_with fail
      refine (originals_any (by have := HO.out; omega) HO.out.1).mono ?_
      rintro e w' ⟨rfl, rfl⟩
      go_wp2_with fail
      refine (originals_any (by have := HO.out; omega) HO.out.2.2.1).mono ?_
      rintro e w' ⟨rfl, rfl⟩
      by_cases h1 : origN x < origN b
      · have h2 : (origN x : Int) < (origN b : Int) := by omega
        have H1 := Lib.hid h1
        clear h1
        go_wp2_with fail
        go_round
        case rel => exact ⟨k + 1, (x, .slice ax x.length cx), by omega, by go_num, rfl, ⟨_, _, rfl, HO.out.1⟩, HO.out.2.1, by rw [Hid, HS.out, if_pos H1.out]⟩
        case measure => simp [intOf]; omega
      · have h2 : ¬ (origN x : Int) < (origN b : Int) := by omega
        have H1 := Lib.hid h1
        clear h1
        go_wp2_with fail
        go_round
        case rel => exact ⟨k + 1, (b, .slice av b.length cv), by omega, by go_num, rfl, ⟨_, _, rfl, HO.out.2.2.1⟩, HO.out.2.2.2, by rw [Hid, HS.out, if_neg H1.out]⟩
        case measure => simp [intOf]; omega
    · obtain rfl : k = l.length := by omega
      rw [Hid, List.take_length] at HB
      have HB2 := Lib.hid HB
      clear hb HB hbn
      go_wp2_with fail
      go_ret
      rw [← HB2.out]
      exact ⟨rfl, rfl⟩
end Go.Proofs.Ytnfhlbmapfoifaa
namespace Go.Proofs.Ytnfhlbmapfoifaa
open Go.RowKit
set_option linter.unusedVariables false
set_option maxHeartbeats 1000000 in
theorem card95 {p : Prs} {a : Option Addr} {cap bq : Nat} {w : World} (hn : p.cards.length ≤ 16) (n : Int) (hc : w.cell? ⟨bq, 0, none⟩ = some (.slice a p.cards.length cap)) :
    Calls Try.prog 95 #[.int .i64 n, .pointer (some ⟨bq, 0, none⟩)] w fun e w' => e = .returned (.bool (!p.card n)) ∧ w = w' := by
  have HC : Hid (p.card n = inR n 0 ((p.cards.length : Int) - 1)) := rfl
  go_enter Try.func95, Try.ntmps95
  go_wp2_with fail
  refine (within_any _ _ _ _).mono ?_
  rintro e w' ⟨rfl, rfl⟩
  cases h : inR n 0 ((p.cards.length : Int) - 1)
  all_goals
    have H := Lib.hid h
    clear h
    go_wp2_with fail
    go_ret
    rw [HC.out, H.out]
    exact ⟨rfl, rfl⟩
/-- Where one is that is no card. -/
def IdxOk (p : Prs) (l : List Int) (r : Int) : Prop := (l.all p.card = true → r = -1) ∧ (l.all p.card = false → 0 ≤ r)
set_option maxHeartbeats 1000000 in
theorem index117 {p : Prs} {a : Option Addr} {cap bq : Nat} {l : List Int} {al : Option Addr} {cl : Nat} {w : World} (hn : p.cards.length ≤ 16) (hl : l.length ≤ 1000) (ha : IsInts w al l) (hc : w.cell? ⟨bq, 0, none⟩ = some (.slice a p.cards.length cap)) :
    Calls Try.prog 117 #[.slice al l.length cl, .func (.func 95) #[] #[.pointer (some ⟨bq, 0, none⟩)]] w fun e w' => ∃ r : Int, e = .returned (.int .i64 r) ∧ IdxOk p l r ∧ w = w' := by
  have cf95 : ∀ (args : Array Value) (w : World), (callFunc 95 args).run Try.prog w = .ok (.enter 95 args) w := fun args w => by simp [callFunc, Try.func95, Try.f95, go_sem]
  go_enter Try.func117, Try.ntmps117
  go_wp2_with fail
  go_loop [8] (fun i => ∃ k : Nat, k ≤ l.length ∧ i = .int .i64 k ∧ Hid (∀ j, j < k → p.card (gi l j) = true)) (fun i => l.length - (intOf i).toNat)
  case atStart => exact ⟨0, by omega, rfl, fun j hj => by omega⟩
  case round =>
    obtain ⟨k, hk, rfl, HK⟩ := hrel
    by_cases hlt : k < l.length
    · obtain ⟨b, off, rfl, hc0⟩ := ha k hlt
      go_wp2_with fail
      refine (card95 hn _ hc).mono ?_
      rintro e w' ⟨rfl, rfl⟩
      cases h : p.card (gi l k)
      · have H := Lib.hid h
        clear h
        go_wp2_with fail
        go_ret
        refine ⟨_, rfl, ?_, rfl⟩
        unfold IdxOk
        have : l.all p.card = false := by
          rw [List.all_eq_false]
          refine ⟨l[k], List.getElem_mem hlt, ?_⟩
          have e : gi l k = l[k] := by simp [gi, hlt]
          rw [← e, H.out]
          simp
        rw [this]
        exact ⟨(fun h => by cases h), (fun _ => by omega)⟩
      · have H := Lib.hid h
        clear h
        go_wp2_with fail
        go_round
        case rel => exact ⟨k + 1, by omega, by go_num, fun j hj => by
          by_cases e : j = k
          · subst e; exact H.out
          · exact HK.out j (by omega)⟩
        case measure => simp [intOf]; omega
    · obtain rfl : k = l.length := by omega
      have HI : Hid (IdxOk p l (-1)) := by
        have : l.all p.card = true := by
          rw [List.all_eq_true]
          intro x hx
          obtain ⟨i, hi, rfl⟩ := List.getElem_of_mem hx
          have e : gi l i = l[i] := by simp [gi, hi]
          rw [← e]
          exact HK.out i hi
        rw [Hid]
        unfold IdxOk
        rw [this]
        exact ⟨(fun _ => rfl), (fun h => by cases h)⟩
      clear ha hlt hc HK hk
      go_wp2_with fail
      go_ret
      exact ⟨_, rfl, HI.out, rfl⟩
set_option maxHeartbeats 1000000 in
theorem contains94 {p : Prs} {a : Option Addr} {cap bq : Nat} {l : List Int} {al : Option Addr} {cl : Nat} {w : World} (hn : p.cards.length ≤ 16) (hl : l.length ≤ 1000) (ha : IsInts w al l) (hc : w.cell? ⟨bq, 0, none⟩ = some (.slice a p.cards.length cap)) :
    Calls Try.prog 94 #[.slice al l.length cl, .func (.func 95) #[] #[.pointer (some ⟨bq, 0, none⟩)]] w fun e w' => e = .returned (.bool (!l.all p.card)) ∧ w = w' := by
  go_enter Try.func94, Try.ntmps94
  go_wp2_with fail
  refine (index117 hn hl ha hc).mono ?_
  rintro e w' ⟨r, rfl, hr, rfl⟩
  cases h : l.all p.card
  all_goals
    have hr2 := hr
    unfold IdxOk at hr2
    rw [h] at hr2
    have H := Lib.hid h
    first | (have hr3 := hr2.2 rfl) | (have hr3 := hr2.1 rfl)
    clear h hr hr2
    try subst hr3
    go_wp2_with fail
    go_ret
    rw [H.out]
    exact ⟨rfl, rfl⟩
set_option maxHeartbeats 1000000 in
theorem isCard_any {p : Prs} {a : Option Addr} {cap : Nat} {l : List Int} {al : Option Addr} {cl : Nat} {w : World} (hn : p.cards.length ≤ 16) (hl : l.length ≤ 1000) (ha : IsInts w al l) :
    Calls Try.prog 52 #[p.v a cap, .slice al l.length cl] w fun e w' => e = .returned (.bool (l.all p.card)) ∧ Below w.heap.size w w' := by
  have hmf : ∀ (fn : Fn) (first cap : Array Value) (w : World), (Instr.makeFunc fn first cap).run Try.prog w = .ok (.func fn first cap) w := fun _ _ _ _ => rfl
  have hb1 : Below w.heap.size w (w.alloc (.cells (p.cells a cap) 26)) := (Below.refl _ w).alloc (Nat.le_refl _) _
  have q := World.alloc_heap_new w (.cells (p.cells a cap) 26)
  have HH := Lib.hid (And.intro hb1 (And.intro q (ha.mono hb1)))
  clear hb1 q ha
  go_enter Try.func52, Try.ntmps52
  go_wp2_with fail
  have hc : (w.alloc (.cells (p.cells a cap) 26)).cell? ⟨w.heap.size, 0, none⟩ = some (.slice a p.cards.length cap) := by rw [cell_of_heap HH.out.2.1]; rfl
  refine (contains94 hn hl HH.out.2.2 hc).mono ?_
  rintro e w' ⟨rfl, rfl⟩
  clear hc
  cases h : l.all p.card
  all_goals
    have H := Lib.hid h
    clear h
    go_wp2_with fail
    go_ret
    rw [H.out]
    exact ⟨rfl, HH.out.1⟩
end Go.Proofs.Ytnfhlbmapfoifaa
namespace Go.Proofs.Ytnfhlbmapfoifaa
open Go.RowKit
set_option linter.unusedVariables false
theorem indexFrom_cons_ne {x v : Int} {r : List Int} {k : Nat} (h : x ≠ v) : indexFrom (x :: r) v k = indexFrom r v (k + 1) := by
  show (if x = v then (k : Int) else indexFrom r v (k + 1)) = _
  rw [if_neg h]
theorem indexFrom_drop {l : List Int} {v : Int} : ∀ (k : Nat), k ≤ l.length → (∀ j, j < k → gi l j ≠ v) → indexL l v = indexFrom (l.drop k) v k
  | 0, _, _ => rfl
  | k + 1, hk, h => by
    rw [indexFrom_drop k (by omega) (fun j hj => h j (by omega))]
    have hlt : k < l.length := by omega
    rw [List.drop_eq_getElem_cons hlt]
    refine indexFrom_cons_ne ?_
    have := h k (by omega)
    simpa [gi, hlt] using this
theorem indexL_hit {l : List Int} {v : Int} {k : Nat} (hk : k < l.length) (h : ∀ j, j < k → gi l j ≠ v) (hv : gi l k = v) : indexL l v = (k : Int) := by
  rw [indexFrom_drop k (by omega) h, List.drop_eq_getElem_cons hk]
  have : l[k] = v := by simpa [gi, hk] using hv
  show (if l[k] = v then (k : Int) else _) = _
  rw [if_pos this]
theorem indexL_miss {l : List Int} {v : Int} (h : ∀ j, j < l.length → gi l j ≠ v) : indexL l v = -1 := by
  rw [indexFrom_drop l.length (Nat.le_refl _) h, List.drop_length]; rfl
theorem indexL_rng (l : List Int) (v : Int) : -1 ≤ indexL l v ∧ indexL l v < l.length ∧ (0 ≤ indexL l v ↔ v ∈ l) := by
  by_cases h : v ∈ l
  · obtain ⟨i, hi, e⟩ := List.getElem_of_mem h
    have key : ∀ m, m ≤ l.length → (∀ j, j < m → gi l j ≠ v) ∨ ∃ k, k < l.length ∧ (∀ j, j < k → gi l j ≠ v) ∧ gi l k = v := by
      intro m
      induction m with
      | zero => intro _; exact .inl (fun j hj => by omega)
      | succ m ih =>
        intro hm
        rcases ih (by omega) with h1 | h1
        · by_cases h2 : gi l m = v
          · exact .inr ⟨m, by omega, h1, h2⟩
          · refine .inl (fun j hj => ?_)
            by_cases e : j = m
            · subst e; exact h2
            · exact h1 j (by omega)
        · exact .inr h1
    rcases key l.length (Nat.le_refl _) with h1 | ⟨k, hk, h1, h2⟩
    · exact (h1 i hi (by simpa [gi, hi] using e)).elim
    · rw [indexL_hit hk h1 h2]
      exact ⟨by omega, by omega, by constructor <;> intro _ <;> first | exact h | omega⟩
  · have : indexL l v = -1 := indexL_miss (fun j hj e => h (by
      have : l[j] = v := by simpa [gi, hj] using e
      rw [← this]; exact List.getElem_mem hj))
    rw [this]
    exact ⟨by omega, by omega, by constructor <;> intro h' <;> first | omega | exact (h h').elim⟩
set_option maxHeartbeats 1000000 in
theorem index_any {l : List Int} {v : Int} (hl : l.length ≤ 1000) {a : Option Addr} {cap : Nat} {w : World} (ha : IsInts w a l) :
    Calls Try.prog 107 #[.slice a l.length cap, .int .i64 v] w fun e w' => e = .returned (.int .i64 (indexL l v)) ∧ w = w' := by
  go_enter Try.func107, Try.ntmps107
  go_wp2
  go_loop [8] (fun i => ∃ k : Nat, k ≤ l.length ∧ i = .int .i64 k ∧ Hid (∀ j, j < k → gi l j ≠ v)) (fun i => l.length - (intOf i).toNat)
  case atStart => exact ⟨0, by omega, rfl, fun j hj => by omega⟩
  case round =>
    obtain ⟨k, hk, rfl, HK⟩ := hrel
    by_cases hlt : k < l.length
    · obtain ⟨b, off, rfl, hc⟩ := ha k hlt
      by_cases h1 : gi l k = v
      · have H1 := Lib.hid h1
        have hb : (v == gi l k) = true := by simp [h1]
        have HI := Lib.hid (indexL_hit hlt HK.out h1)
        clear h1
        go_wp2
        go_ret
        exact ⟨ret_int HI.out.symm, rfl⟩
      · have H1 := Lib.hid h1
        have hb : (v == gi l k) = false := by simpa using fun e => h1 e.symm
        clear h1
        go_wp2
        go_round
        case rel => exact ⟨k + 1, by omega, by go_num, fun j hj => by
          by_cases e : j = k
          · subst e; exact H1.out
          · exact HK.out j (by omega)⟩
        case measure => simp [intOf]; omega
    · obtain rfl : k = l.length := by omega
      have HI := Lib.hid (indexL_miss HK.out)
      go_wp2
      go_ret
      exact ⟨ret_int HI.out.symm, rfl⟩
set_option maxHeartbeats 1000000 in
theorem has104_any {l : List Int} {v : Int} (hl : l.length ≤ 1000) {a : Option Addr} {cap : Nat} {w : World} (ha : IsInts w a l) :
    Calls Try.prog 104 #[.slice a l.length cap, .int .i64 v] w fun e w' => e = .returned (.bool (decide (v ∈ l))) ∧ w = w' := by
  have hr := (indexL_rng l v).2.2
  have HR := Lib.hid hr
  clear hr
  go_enter Try.func104, Try.ntmps104
  go_wp2_with fail
  refine (index_any hl ha).mono ?_
  rintro e w' ⟨rfl, rfl⟩
  by_cases h : v ∈ l
  · have h2 := HR.out.2 h
    have HH := Lib.hid h
    clear h
    go_wp2_with fail
    go_ret
    exact ⟨ret_bool (by simp [HH.out]), rfl⟩
  · have h2 : ¬ 0 ≤ indexL l v := fun e => h (HR.out.1 e)
    have HH := Lib.hid (And.intro h h2)
    clear h
    go_wp2_with fail
    go_ret
    exact ⟨ret_bool (by have := HH.out.2; simp [HH.out.1]; omega), rfl⟩
def lastF (last : Int) : List Int → Int
  | [] => last
  | x :: r => lastF x r
theorem chainF_snoc (x : Int) : ∀ (l : List Int) (w : List Int) (last : Int), chainF w last (l ++ [x]) = (chainF w last l).set x.toNat (lastF last l)
  | [], w, last => rfl
  | y :: r, w, last => chainF_snoc x r _ _
theorem lastF_snoc (x : Int) : ∀ (l : List Int) (last : Int), lastF last (l ++ [x]) = x
  | [], last => rfl
  | y :: r, last => lastF_snoc x r _
theorem chainF_len : ∀ (l : List Int) (w : List Int) (last : Int), (chainF w last l).length = w.length
  | [], w, last => rfl
  | y :: r, w, last => by
    show (chainF (w.set y.toNat last) y r).length = _
    rw [chainF_len r]; simp
theorem chainL_len (o : List Int) : (chainL o).length = o.length := by unfold chainL; rw [chainF_len]; simp
abbrev intArr (l : List Int) : Array Value := (l.map (Value.int .i64)).toArray
theorem intArr_set (l : List Int) (k : Nat) (x : Int) : (intArr l).setIfInBounds k (.int .i64 x) = intArr (l.set k x) := by simp [intArr, List.map_set]
theorem made_ints (n : Nat) : madeCells #[.int .i64 0] n = intArr (List.replicate n 0) := by
  apply Array.ext
  · simp [madeCells, intArr]
  · intro i h1 h2
    simp [madeCells, intArr, Nat.mod_one]
set_option maxRecDepth 100000 in
set_option maxHeartbeats 2000000 in
theorem chain_any {o : List Int} (hn : o.length ≤ 16) (ho : ∀ x ∈ o, 0 ≤ x ∧ x < o.length) {a : Option Addr} {cap : Nat} {w : World} (ha : IsInts w a o) :
    Calls Try.prog 102 #[.slice a o.length cap] w fun e w' => ∃ v', e = .returned v' ∧ w'.ownsRow w.heap.size 3 1 v' o.length ((chainL o).map (Value.int .i64)) ∧ Below w.heap.size w w' := by
  obtain ⟨i0, hi0, hi1, hi2, hi3⟩ := info_parts infoI
  have hmk : ∀ w, (Instr.makeSlice 76 (.int .i64 (o.length : Int)) (.int .i64 (o.length : Int))).run Try.prog w = .ok (.slice (some ⟨w.heap.size, 0, none⟩) o.length o.length) (w.alloc (.cells (intArr (List.replicate o.length 0)) 3)) := by
    intro w
    have h := run_make (P := Try.prog) (w := w) 76 3 i0 _ Try.underlying76 hi0 hi1 .i64 .i64 (o.length : Int) (o.length : Int) (by omega) (by omega) (by rw [hi3]; omega) (by omega)
    rw [← made_ints]
    simpa [hi2, Value.cells] using h
  have hb1 : Below w.heap.size w (w.alloc (.cells (intArr (List.replicate o.length 0)) 3)) := (Below.refl _ w).alloc (Nat.le_refl _) _
  have q1 := World.alloc_heap_new w (.cells (intArr (List.replicate o.length 0)) 3)
  have HW := Lib.hid (And.intro hb1 q1)
  have HO := Lib.hid ho
  have HA := Lib.hid ha
  clear hb1 q1 hi0 hi1 hi2 hi3 ho ha
  go_enter Try.func102, Try.ntmps102
  go_wp2_with fail
  go_loopw [4, 12] (fun r i wr => ∃ k : Nat, k ≤ o.length ∧ i = .int .i64 k ∧ r = .int .i64 (lastF (-1) (o.take k)) ∧ Below w.heap.size w wr ∧ Hid (wr.heap[w.heap.size]? = some (.cells (intArr (chainF (List.replicate o.length 0) (-1) (o.take k))) 3 (0, 0)))) (fun _ i _ => o.length - (intOf i).toNat)
  case atStart => exact ⟨0, by omega, rfl, rfl, HW.out.1, HW.out.2⟩
  case round =>
    obtain ⟨k, hk, rfl, rfl, hB, HC⟩ := hrel
    by_cases hlt : k < o.length
    · obtain ⟨b, off, rfl, hc⟩ := HA.out k hlt
      have hc' := cell_stays hB hc
      have hx := HO.out _ (List.getElem_mem hlt)
      have e1 : gi o k = o[k] := by simp [gi, hlt]
      rw [e1] at hc'
      obtain ⟨m, hm⟩ := Int.eq_ofNat_of_zero_le hx.1
      have e2 : o.take (k + 1) = o.take k ++ [(m : Int)] := by rw [List.take_succ_eq_append_getElem hlt, hm]
      rw [hm] at hc' hx
      have hml : m < o.length := by omega
      have hl1 : m < (chainF (List.replicate o.length 0) (-1) (o.take k)).length := by rw [chainF_len]; simpa using hml
      have HS : Hid (chainF (List.replicate o.length 0) (-1) (o.take (k + 1)) = (chainF (List.replicate o.length 0) (-1) (o.take k)).set m (lastF (-1) (o.take k))) := by rw [Hid, e2, chainF_snoc]; rfl
      have HT : Hid (lastF (-1) (o.take (k + 1)) = (m : Int)) := by rw [Hid, e2, lastF_snoc]
      have ca : ∃ u, wr.cell? ⟨w.heap.size, m, none⟩ = some u := by
        rw [cell_of_heap HC.out]
        exact ⟨_, by simp [intArr, hl1]; rfl⟩
      obtain ⟨u, ca⟩ := ca
      have fa : wr.frozen? ⟨w.heap.size, m, none⟩ = false := frozen_of_heap HC.out
      have HB := Lib.hid hB
      have HM := Lib.hid (And.intro hm (And.intro e1 e2))
      clear hc hx e1 e2 hm hB hl1
      go_wp2_with fail
      go_roundw
      case rel => exact ⟨k + 1, by omega, by go_num, by rw [HT.out], HB.out.setCell (Nat.le_refl _) _, by rw [Hid, HS.out, ← intArr_set]; exact heap_setCell_at HC.out _⟩
      case measure => simp [intOf]; omega
    · obtain rfl : k = o.length := by omega
      rw [List.take_length] at HC
      have HB := Lib.hid hB
      clear hB
      go_wp2_with fail
      go_ret
      refine ⟨_, rfl, ⟨?_, .inr ⟨w.heap.size, o.length, _, rfl, Nat.le_refl _, HC.out, Nat.le_refl _, by simp [maxLen]; omega, ?_, ?_⟩⟩, HB.out⟩
      · simp [chainL_len]
      · simp [intArr, chainF_len]
      · have : (chainL o).length = o.length := chainL_len o
        rw [Nat.mul_one]
        show List.take o.length ((chainL o).map (Value.int .i64)) = _
        rw [List.take_of_length_le (by simp; omega)]
end Go.Proofs.Ytnfhlbmapfoifaa
namespace Go.Proofs.Ytnfhlbmapfoifaa
open Go.RowKit
set_option linter.unusedVariables false
abbrev selfO (pb lb ob : Nat) : Value := .func (.func 101) #[] #[.pointer (some ⟨pb, 0, none⟩), .pointer (some ⟨lb, 0, none⟩), .pointer (some ⟨ob, 0, none⟩)]
/-- What has been gathered. C: the blocks that are held. -/
structure OrC (W0 : World) (lb : Nat) (acc : List (List Int)) (A : World) (C : Nat → Prop) : Prop where
  same : Same (fun k => k = lb) W0 A
  lt : lb < W0.heap.size
  ex : ∃ (v : Value) (vs : List Value), A.heap[lb]? = some (.cells #[v] 32 (0, 0)) ∧ A.ownsRow W0.heap.size 42 1 v acc.length vs ∧ RowsOf A W0.heap.size vs acc ∧ (∀ g, v.ownBlock = some g → C g) ∧ ∀ vc ∈ vs, ∀ g, vc.ownBlock = some g → C g
  bd : ∀ k, C k → W0.heap.size ≤ k ∧ k < A.heap.size
theorem OrC.below {W0 : World} {lb : Nat} {acc : List (List Int)} {A B : World} {C : Nat → Prop} (h : OrC W0 lb acc A C) (hb : Below A.heap.size A B) : OrC W0 lb acc B C := by
  obtain ⟨h1, h0, ⟨v, vs, h2, h3, h4, h5, h6⟩, h7⟩ := h
  exact ⟨h1.trans (Same.of_below _ hb), h0, ⟨v, vs, (hb.block _ (heap_lt h2)).trans h2, own_below h3 hb, h4.blocks (fun vc hvc g hg => hb.block _ (rows_lt h4 hvc hg).2), h5, h6⟩, fun k hk => ⟨(h7 k hk).1, Nat.lt_of_lt_of_le (h7 k hk).2 hb.size⟩⟩
/-- How a call that goes on from some cards ends. -/
def OrPost (W0 : World) (lb : Nat) (acc : List (List Int)) (A : World) (C : Nat → Prop) (k : Nat) (A' : World) : Prop :=
  ∃ C' : Nat → Prop, OrC W0 lb acc A' C' ∧ A.heap.size ≤ A'.heap.size ∧ ∀ b, W0.heap.size ≤ b → b < A.heap.size → ¬ C b → ¬ C' b ∧ KeptTo 3 k A A' b
theorem infoO : (Try.prog.info? 42).map (fun i => (i.zero, i.size, i.bytes)) = some (some (.slice none 0 0), 1, 24) := by kernel_rfl
/-- One order more. -/
theorem OrC.more {W0 : World} {lb : Nat} {acc : List (List Int)} {A V : World} {C : Nat → Prop} {x : List Int} {vc : Value} (h : OrC W0 lb acc A C) (hb : Below A.heap.size A V) (hvc : V.ownsRow A.heap.size 3 1 vc x.length (x.map (Value.int .i64))) (hi : acc.length ≤ 1000000) (k : Nat) {v : Value} (hv : A.cell? ⟨lb, 0, none⟩ = some v) :
    ∃ v' w', (Builtin.append_ #[32, 32] 32 #[v, .slice (some ⟨V.heap.size, 0, none⟩) 1 1]).run Try.prog (V.alloc (.cells #[vc] 42)) = .ok v' w' ∧ (∃ a c, v' = .slice a (acc.length + 1) c) ∧ (∃ u, w'.cell? ⟨lb, 0, none⟩ = some u) ∧ w'.frozen? ⟨lb, 0, none⟩ = false ∧
      OrPost W0 lb (acc ++ [x]) A C k (w'.setCell ⟨lb, 0, none⟩ v') := by
  obtain ⟨i0, hi0, hz0, hz1, hz2⟩ := info_parts infoO
  have hC := h.below hb
  obtain ⟨s1, hlt, ⟨v0, vs, h3, h4, h5, h6, h7⟩, hbd⟩ := hC
  have hA := h.ex
  obtain ⟨u0, us, hA3, _⟩ := hA
  rw [cell_of_heap hA3] at hv
  cases hv
  have hVA := (hb.block _ (heap_lt hA3)).trans hA3
  rw [h3] at hVA
  cases hVA
  have hone : vc.oneCell' = true := by
    rcases hvc.2 with ⟨rfl, _⟩ | ⟨g, cap, cur, rfl, _⟩ <;> rfl
  have hV1 := World.alloc_heap_new V (.cells #[vc] 42)
  have hW0 : W0.heap.size ≤ A.heap.size := h.same.size
  have hAV := hb.size
  obtain ⟨v', w', hr, hn, hg, hor, _⟩ := append_keep (P := Try.prog) (w := V.alloc (.cells #[vc] 42)) W0.heap.size 32 32 42 i0 _ 24 Try.underlying32 hi0 hz0 hz1 hz2 rfl v0 acc.length vs (own_blocks h4 (fun g hg => Below.heap_alloc _ _ _ (h4.lt g hg).2)) ⟨V.heap.size, 0, none⟩ vc (by rw [cell_of_heap hV1]; rfl) hone (by simp [maxLen]; omega) (by omega) (by simp; omega)
  have hrow : ∀ k, v0.ownBlock = some k → W0.heap.size ≤ k ∧ k < V.heap.size := fun k hk => h4.lt k hk
  have hVw : V.heap.size < w'.heap.size := by have := hg.size; simp at this; omega
  have hk1 : ∀ k, k < V.heap.size → v0.ownBlock ≠ some k → w'.heap[k]? = V.heap[k]? := fun k hk hne => (hg.block k (by simp; omega) (fun e => hne e.symm)).trans (Below.heap_alloc _ _ _ hk)
  have hlbn : v0.ownBlock ≠ some lb := fun e => by have := (hrow _ e).1; omega
  have hlb' := (hk1 lb (heap_lt h3) hlbn).trans h3
  have hk2 : ∀ k, k < V.heap.size → v0.ownBlock ≠ some k → k ≠ lb → (w'.setCell ⟨lb, 0, none⟩ v').heap[k]? = V.heap[k]? := fun k hk hne hkt => (Below.heap_setCell _ _ _ _ hkt).trans (hk1 k hk hne)
  have hrow' : ∀ k, v'.ownBlock = some k → W0.heap.size ≤ k ∧ k < w'.heap.size := fun k hk => hn.lt k hk
  have hvclt : ∀ g, vc.ownBlock = some g → A.heap.size ≤ g ∧ g < V.heap.size := fun g hg => hvc.lt g hg
  have hsl : ∃ a c, v' = .slice a (acc.length + 1) c := by obtain ⟨a, c, e, _⟩ := own_slice hn; exact ⟨a, c, e⟩
  refine ⟨v', w', hr, hsl, ⟨_, by rw [cell_of_heap hlb']; rfl⟩, frozen_of_heap hlb', fun k => C k ∨ A.heap.size ≤ k ∧ k < w'.heap.size, ⟨?_, hlt, ⟨v', vs ++ [vc], heap_setCell_at hlb' _, ?_, ?_, ?_, ?_⟩, ?_⟩, by simp; omega, ?_⟩
  · have hs : Same (fun k => k = lb) W0 w' := by
      have hg' : Same (fun k => k = lb) W0 (V.alloc (.cells #[vc] 42)) := s1.alloc _
      exact hg'.grown hg (fun k hk => .inr (hrow k hk).1)
    exact hs.setCell (.inl rfl) _
  · rw [List.length_append]
    exact own_blocks hn (fun g hg' => Below.heap_setCell _ _ _ _ (fun e => by have e' : g = lb := e; have := (hrow' g hg').1; omega))
  · refine ⟨by simp [h5.1], fun j y hy => ?_⟩
    rcases Nat.lt_trichotomy j vs.length with hj | hj | hj
    · rw [List.getElem?_append_left (by rw [← h5.1]; exact hj)] at hy
      obtain ⟨c', hc1, hc2⟩ := h5.2 j y hy
      exact ⟨c', by rw [List.getElem?_append_left hj]; exact hc1, own_blocks hc2 (fun g hg' => hk2 g (hc2.lt g hg').2 (own_apart hc2 h4 (by decide) g hg') (fun e => by have := (hc2.lt g hg').1; omega))⟩
    · have hj2 : j = acc.length := by rw [← h5.1]; exact hj
      rw [hj2, List.getElem?_append_right (Nat.le_refl _)] at hy
      simp at hy
      subst hy
      refine ⟨vc, by rw [hj]; simp, own_blocks (own_base hvc hW0) (fun g hg' => hk2 g (hvc.lt g hg').2 (own_apart hvc h4 (by decide) g hg') (fun e => by have := (hvc.lt g hg').1; omega))⟩
    · rw [List.getElem?_eq_none (by simp [← h5.1]; omega)] at hy
      cases hy
  · intro g hg'
    have hlg := (hrow' g hg').2
    rcases hor with e | e
    · rw [e] at hg'
      exact .inl (h6 g hg')
    · rw [e] at hg'
      cases hg'
      exact .inr ⟨by simp; omega, hlg⟩
  · intro c' hc' g hg'
    rcases List.mem_append.1 hc' with hc' | hc'
    · exact .inl (h7 c' hc' g hg')
    · rw [List.mem_singleton.1 hc'] at hg'
      have := hvclt g hg'
      exact .inr ⟨this.1, by omega⟩
  · intro k hk
    simp
    rcases hk with hk | hk
    · have := hbd k hk; omega
    · omega
  · intro b hb0 hb' hn'
    refine ⟨fun hk => ?_, ?_⟩
    · rcases hk with hk | hk
      · exact hn' hk
      · omega
    · refine KeptTo.of_eq ((hk2 b (by omega) (fun e => hn' (h6 b e)) (by omega)).trans (hb.block b hb'))
end Go.Proofs.Ytnfhlbmapfoifaa
namespace Go.Proofs.Ytnfhlbmapfoifaa
open Go.RowKit
set_option linter.unusedVariables false
structure orAppF (av : Option Addr) (k : Nat) (cv : Nat) (lb : Nat) (vl : Value) (n : Nat) (S0 : World → Prop) (S1 : Option Addr × Nat → World → Prop) (S2 : Option Addr × Nat → Value → World → Prop) (S3 : Option Addr × Nat → Value → Option Addr × Nat → World → Prop) (S4 : Option Addr × Nat → Value → Option Addr × Nat → World → Prop) (d : Nat → Bool) (x19 x20 x21 x22 x23 : Value) (rc : Option Addr × Nat) (r2 : Option Addr × Nat) (w : World) : Prop where
  q2 : d 2 = true → d 1 = true
  q3 : d 3 = true → d 2 = true
  q4 : d 4 = true → d 0 = true ∧ d 2 = true ∧ d 3 = true
  q5 : d 5 = true → d 0 = true ∧ d 1 = true ∧ d 2 = true ∧ d 3 = true ∧ d 4 = true
  f0 : d 0 = true → x19 = vl
  f1 : d 1 = true → x20 = .slice av k cv
  f2 : d 2 = true → x21 = .slice rc.1 k rc.2
  f4 : d 4 = true → x23 = .slice r2.1 (n + 1) r2.2
  st0 : d 2 = false → S0 w
  st1 : d 2 = true → d 3 = false → S1 rc w
  st2 : d 3 = true → d 4 = false → S2 rc x22 w
  st3 : d 4 = true → d 5 = false → S3 rc x22 r2 w
  st4 : d 5 = true → S4 rc x22 r2 w
noncomputable def orAppC : Code := (Try.f101.body.bind (regionAt 2)).getD .skip
set_option maxRecDepth 100000 in
set_option maxHeartbeats 4000000 in
theorem orApp {av : Option Addr} {k : Nat} {cv : Nat} {lb : Nat} {vl : Value} {n : Nat} {S0 : World → Prop} {S1 : Option Addr × Nat → World → Prop} {S2 : Option Addr × Nat → Value → World → Prop} {S3 : Option Addr × Nat → Value → Option Addr × Nat → World → Prop} {S4 : Option Addr × Nat → Value → Option Addr × Nat → World → Prop} {Q : Exit → Act → World → Prop} {W1 : World} (h0 : S0 W1.drew)
    (kl0 : Hid (∀ (rc : Option Addr × Nat) (x22 : Value) (w : World), (S0 w ∨ S1 rc w ∨ S2 rc x22 w) → w.cell? ⟨lb, 0, none⟩ = some (vl)))
    (kc2 : Hid (∀ (w : World), S0 w → Calls Try.prog 103 #[.slice av k cv] w fun e w' => ∃ rc : Option Addr × Nat, e = .returned (.slice rc.1 k rc.2) ∧ S1 rc w'))
    (kc3 : Hid (∀ (rc : Option Addr × Nat) (w : World), S1 rc w → S2 rc (.slice (some ⟨w.heap.size, 0, none⟩) 1 1) (w.alloc (.cells #[.slice rc.1 k rc.2] 42))))
    (kc4 : Hid (∀ (rc : Option Addr × Nat) (x22 : Value) (w : World), S2 rc x22 w → ∃ (r2 : Option Addr × Nat) (w' : World), (Builtin.append_ #[32, 32] 32 #[vl, x22]).run Try.prog w = .ok (.slice r2.1 (n + 1) r2.2) w' ∧ S3 rc x22 r2 w'))
    (kc5 : Hid (∀ (rc : Option Addr × Nat) (x22 : Value) (r2 : Option Addr × Nat) (w : World), S3 rc x22 r2 w → (∃ u, w.cell? ⟨lb, 0, none⟩ = some u) ∧ w.frozen? ⟨lb, 0, none⟩ = false ∧ S4 rc x22 r2 (w.setCell ⟨lb, 0, none⟩ (.slice r2.1 (n + 1) r2.2))))
    {s1 s3 s4 s5 s6 s7 s8 s9 s10 s11 s12 s13 s14 s15 s16 s17 s18 s19 s20 s21 s22 s23 s24 s25 s26 s27 s28 s29 s30 s31 s32 s33 s34 s35 s36 s37 s38 s39 s40 s41 s42 s43 : Value} {dd : List Deferred}
    (hQ : ∀ (rc : Option Addr × Nat) (x22 : Value) (r2 : Option Addr × Nat) (w' : World), S4 rc x22 r2 w' → Q .normal { tmps := #[.slice av k cv, s1, .pointer (some ⟨lb, 0, none⟩), s3, s4, s5, s6, s7, s8, s9, s10, s11, s12, s13, s14, s15, s16, s17, s18, vl, .slice av k cv, .slice rc.1 k rc.2, x22, .slice r2.1 (n + 1) r2.2, s24, s25, s26, s27, s28, s29, s30, s31, s32, s33, s34, s35, s36, s37, s38, s39, s40, s41, s42, s43], defers := dd } w') :
    Code.wpIn (wideAt none) 0 Try.prog orAppC Q { tmps := #[.slice av k cv, s1, .pointer (some ⟨lb, 0, none⟩), s3, s4, s5, s6, s7, s8, s9, s10, s11, s12, s13, s14, s15, s16, s17, s18, s19, s20, s21, s22, s23, s24, s25, s26, s27, s28, s29, s30, s31, s32, s33, s34, s35, s36, s37, s38, s39, s40, s41, s42, s43], defers := dd } W1 := by
  have HQ := Lib.hid hQ
  clear hQ
  conv => arg 4; whnf
  refine wpIn_region_invG mixed (by kernel_rfl) (fun d_ a_ w' => ∃ (x19 : Value) (x20 : Value) (x21 : Value) (x22 : Value) (x23 : Value) (rc : Option Addr × Nat) (r2 : Option Addr × Nat), a_ = { tmps := #[.slice av k cv, s1, .pointer (some ⟨lb, 0, none⟩), s3, s4, s5, s6, s7, s8, s9, s10, s11, s12, s13, s14, s15, s16, s17, s18, x19, x20, x21, x22, x23, s24, s25, s26, s27, s28, s29, s30, s31, s32, s33, s34, s35, s36, s37, s38, s39, s40, s41, s42, s43], defers := dd } ∧ orAppF av k cv lb vl n S0 S1 S2 S3 S4 d_ x19 x20 x21 x22 x23 rc r2 w') ?_ ?_ ?_
  · refine ⟨s19, s20, s21, s22, s23, default, default, rfl, ?_⟩
    constructor <;> first | rfl | (intro h; cases h; done) | (intro _; exact h0) | exact h0
  · refine ⟨?_, ?_, ?_, ?_, ?_, ?_, trivial⟩
    all_goals
      rintro d_ a_ w1 K hd_ hdep ⟨x19, x20, x21, x22, x23, rc, r2, rfl, F⟩ HK
      simp [Region.binds] at hdep
    · have hst : S0 w1 ∨ S1 rc w1 ∨ S2 rc x22 w1 := by
        cases e1 : d_ 2 with
        | false => exact .inl ((F.st0 e1))
        | true =>
          cases e2 : d_ 3 with
          | false => exact .inr (.inl ((F.st1 e1 e2)))
          | true =>
            have n_ : d_ 4 = false := by
              cases e_ : d_ 4 with
              | false => rfl
              | true => have h2 := (F.q4 e_).1; rw [show d_ 0 = false from hd_] at h2; cases h2
            exact .inr (.inr ((F.st2 e2 n_)))
      have kk := kl0.out rc x22 w1 hst
      clear hst
      have HF : Hid (orAppF av k cv lb vl n S0 S1 S2 S3 S4 (upd d_ 0) (vl) x20 x21 x22 x23 rc r2 w1) := ⟨F.q2, F.q3, fun h => ⟨rfl, (F.q4 h).2.1, (F.q4 h).2.2⟩, fun h => ⟨rfl, (F.q5 h).2.1, (F.q5 h).2.2.1, (F.q5 h).2.2.2.1, (F.q5 h).2.2.2.2⟩, fun _ => rfl, F.f1, F.f2, F.f4, F.st0, F.st1, F.st2, F.st3, F.st4⟩
      clear F
      go_simp
      exact HK.out _ _ ⟨_, _, _, _, _, _, _, rfl, HF.out⟩
    · have HF : Hid (orAppF av k cv lb vl n S0 S1 S2 S3 S4 (upd d_ 1) x19 (.slice av k cv) x21 x22 x23 rc r2 w1) := ⟨fun h => rfl, F.q3, F.q4, fun h => ⟨(F.q5 h).1, rfl, (F.q5 h).2.2.1, (F.q5 h).2.2.2.1, (F.q5 h).2.2.2.2⟩, F.f0, fun _ => rfl, F.f2, F.f4, F.st0, F.st1, F.st2, F.st3, F.st4⟩
      clear F
      go_simp
      exact HK.out _ _ ⟨_, _, _, _, _, _, _, rfl, HF.out⟩
    · have hS := F.st0  hd_
      obtain rfl := F.f1 (by simp [hdep])
      have hc := kc2.out w1 hS
      have HF := Lib.hid F
      clear F
      go_simp
      refine ⟨trivial, rfl, wideAt_calls (hc.mono ?_)⟩
      rintro e w5 ⟨v_, rfl, hres⟩
      exact HK.out _ _ ⟨_, _, _, _, _, _, _, rfl, ⟨fun _ => (show _ from (by simp [hdep] : d_ 1 = true)), fun h => rfl, fun h => ⟨(HF.out.q4 h).1, rfl, (HF.out.q4 h).2.2⟩, fun h => ⟨(HF.out.q5 h).1, (HF.out.q5 h).2.1, rfl, (HF.out.q5 h).2.2.2.1, (HF.out.q5 h).2.2.2.2⟩, HF.out.f0, HF.out.f1, fun _ => rfl, HF.out.f4, fun h => (by simp [upd] at h), fun _ _ => hres, fun h _ => (by have h2 : d_ 2 = true := (HF.out.q3 h); rw [show d_ 2 = false from hd_] at h2; cases h2), fun h _ => (by have h2 : d_ 2 = true := (HF.out.q4 h).2.1; rw [show d_ 2 = false from hd_] at h2; cases h2), fun h => (by have h2 : d_ 2 = true := (HF.out.q5 h).2.2.1; rw [show d_ 2 = false from hd_] at h2; cases h2)⟩⟩
    · have hS := F.st1 (by simp [hdep] : d_ 2 = true) hd_
      obtain rfl := F.f2 (by simp [hdep])
      have hres := kc3.out rc w1 hS
      have HF : Hid (orAppF av k cv lb vl n S0 S1 S2 S3 S4 (upd d_ 3) x19 x20 (.slice rc.1 k rc.2) ((.slice (some ⟨w1.heap.size, 0, none⟩) 1 1)) x23 rc r2 (w1.alloc (.cells #[.slice rc.1 k rc.2] 42))) := ⟨F.q2, fun _ => (show _ from (by simp [hdep] : d_ 2 = true)), fun h => ⟨(F.q4 h).1, (F.q4 h).2.1, rfl⟩, fun h => ⟨(F.q5 h).1, (F.q5 h).2.1, (F.q5 h).2.2.1, rfl, (F.q5 h).2.2.2.2⟩, F.f0, F.f1, F.f2, F.f4, fun h => (by have h2 : d_ 2 = false := h; rw [(by simp [hdep] : d_ 2 = true)] at h2; cases h2), fun _ h => (by simp [upd] at h), fun _ _ => hres, fun h _ => (by have h2 : d_ 3 = true := (F.q4 h).2.2; rw [show d_ 3 = false from hd_] at h2; cases h2), fun h => (by have h2 : d_ 3 = true := (F.q5 h).2.2.2.1; rw [show d_ 3 = false from hd_] at h2; cases h2)⟩
      clear F hS hres
      go_simp
      exact HK.out _ _ ⟨_, _, _, _, _, _, _, rfl, HF.out⟩
    · have hS := F.st2 (by simp [hdep] : d_ 3 = true) hd_
      obtain rfl := F.f0 (by simp [hdep])
      obtain ⟨v_, w_, hr, hres⟩ := kc4.out rc x22 w1 hS
      rw [if_pos (by rfl)]
      refine wpIn_append_run (.tmp 19) (.tmp 22) 32 rfl _ _ _ _ rfl rfl hr ?_
      exact HK.out _ _ ⟨_, _, _, _, _, _, _, rfl, ⟨F.q2, F.q3, fun _ => ⟨(show _ from (by simp [hdep] : d_ 0 = true)), (show _ from (by simp [hdep] : d_ 2 = true)), (show _ from (by simp [hdep] : d_ 3 = true))⟩, fun h => ⟨(F.q5 h).1, (F.q5 h).2.1, (F.q5 h).2.2.1, (F.q5 h).2.2.2.1, rfl⟩, F.f0, F.f1, F.f2, fun _ => rfl, fun h => (by have h2 : d_ 2 = false := h; rw [(by simp [hdep] : d_ 2 = true)] at h2; cases h2), fun _ h => (by have h2 : d_ 3 = false := h; rw [(by simp [hdep] : d_ 3 = true)] at h2; cases h2), fun _ h => (by simp [upd] at h), fun _ _ => hres, fun h => (by have h2 : d_ 4 = true := (F.q5 h).2.2.2.2; rw [show d_ 4 = false from hd_] at h2; cases h2)⟩⟩
    · have hS := F.st3 (by simp [hdep] : d_ 4 = true) hd_
      obtain rfl := F.f4 (by simp [hdep])
      obtain ⟨⟨u0, kcell0⟩, kfr0, hres⟩ := kc5.out rc x22 r2 w1 hS
      have HF : Hid (orAppF av k cv lb vl n S0 S1 S2 S3 S4 (upd d_ 5) x19 x20 x21 x22 (.slice r2.1 (n + 1) r2.2) rc r2 (w1.setCell ⟨lb, 0, none⟩ (.slice r2.1 (n + 1) r2.2))) := ⟨F.q2, F.q3, F.q4, fun _ => ⟨(show _ from (by simp [hdep] : d_ 0 = true)), (show _ from (by simp [hdep] : d_ 1 = true)), (show _ from (by simp [hdep] : d_ 2 = true)), (show _ from (by simp [hdep] : d_ 3 = true)), (show _ from (by simp [hdep] : d_ 4 = true))⟩, F.f0, F.f1, F.f2, F.f4, fun h => (by have h2 : d_ 2 = false := h; rw [(by simp [hdep] : d_ 2 = true)] at h2; cases h2), fun _ h => (by have h2 : d_ 3 = false := h; rw [(by simp [hdep] : d_ 3 = true)] at h2; cases h2), fun _ h => (by have h2 : d_ 4 = false := h; rw [(by simp [hdep] : d_ 4 = true)] at h2; cases h2), fun _ h => (by simp [upd] at h), fun _ => hres⟩
      clear F hS hres
      go_simp
      exact HK.out _ _ ⟨_, _, _, _, _, _, _, rfl, HF.out⟩
  · rintro d_ a_ w1 hall ⟨x19, x20, x21, x22, x23, rc, r2, rfl, F⟩
    have hall' : ∀ k, k < 6 → d_ k = true := hall
    obtain rfl := F.f0 (hall' 0 (by decide))
    obtain rfl := F.f1 (hall' 1 (by decide))
    obtain rfl := F.f2 (hall' 2 (by decide))
    obtain rfl := F.f4 (hall' 4 (by decide))
    exact HQ.out rc x22 r2 w1 (F.st4 (hall' 5 (by decide)))
structure orMoreF (av : Option Addr) (k : Nat) (cv : Nat) (pb : Nat) (lb : Nat) (ob : Nat) (f : Int) (S0 : World → Prop) (S1 : Value → World → Prop) (S2 : Value → Value → World → Prop) (S3 : Value → Value → Value → World → Prop) (d : Nat → Bool) (x37 x38 x39 x40 x41 x42 : Value) (w : World) : Prop where
  q3 : d 3 = true → d 2 = true
  q4 : d 4 = true → d 1 = true ∧ d 3 = true
  q5 : d 5 = true → d 0 = true ∧ d 4 = true
  f0 : d 0 = true → x37 = .func (.func 101) #[] #[.pointer (some ⟨pb, 0, none⟩), .pointer (some ⟨lb, 0, none⟩), .pointer (some ⟨ob, 0, none⟩)]
  f1 : d 1 = true → x38 = .slice av k cv
  f2 : d 2 = true → x39 = .int .i64 f
  st0 : d 3 = false → S0 w
  st1 : d 3 = true → d 4 = false → S1 x40 w
  st2 : d 4 = true → d 5 = false → S2 x40 x41 w
  st3 : d 5 = true → S3 x40 x41 x42 w
noncomputable def orMoreC : Code := (Try.f101.body.bind (regionAt 7)).getD .skip
set_option maxRecDepth 100000 in
set_option maxHeartbeats 4000000 in
theorem orMore {av : Option Addr} {k : Nat} {cv : Nat} {pb : Nat} {lb : Nat} {ob : Nat} {f : Int} {S0 : World → Prop} {S1 : Value → World → Prop} {S2 : Value → Value → World → Prop} {S3 : Value → Value → Value → World → Prop} {Q : Exit → Act → World → Prop} {W1 : World} (h0 : S0 W1.drew)
    (kl0 : Hid (∀ (x40 : Value) (x41 : Value) (w : World), (S0 w ∨ S1 x40 w ∨ S2 x40 x41 w) → w.cell? ⟨ob, 0, none⟩ = some (.func (.func 101) #[] #[.pointer (some ⟨pb, 0, none⟩), .pointer (some ⟨lb, 0, none⟩), .pointer (some ⟨ob, 0, none⟩)])))
    (kc3 : Hid (∀ (w : World), S0 w → S1 (.slice (some ⟨w.heap.size, 0, none⟩) 1 1) (w.alloc (.cells #[.int .i64 f] 3))))
    (kc4 : Hid (∀ (x40 : Value) (w : World), S1 x40 w → ∃ (x41 : Value) (w' : World), (Builtin.append_ #[42, 42] 42 #[.slice av k cv, x40]).run Try.prog w = .ok (x41) w' ∧ S2 x40 x41 w'))
    (kc5 : Hid (∀ (x40 : Value) (x41 : Value) (w : World), S2 x40 x41 w → Calls Try.prog 101 #[x41, .pointer (some ⟨pb, 0, none⟩), .pointer (some ⟨lb, 0, none⟩), .pointer (some ⟨ob, 0, none⟩)] w fun e w' => ∃ x42 : Value, e = .returned (x42) ∧ S3 x40 x41 x42 w'))
    {s1 s2 s4 s6 s7 s8 s9 s10 s11 s12 s13 s14 s15 s16 s17 s18 s19 s20 s21 s22 s23 s24 s25 s26 s27 s28 s29 s30 s31 s32 s33 s34 s35 s36 s37 s38 s39 s40 s41 s42 s43 : Value} {dd : List Deferred}
    (hQ : ∀ (x40 : Value) (x41 : Value) (x42 : Value) (w' : World), S3 x40 x41 x42 w' → Q .normal { tmps := #[.slice av k cv, s1, s2, .pointer (some ⟨ob, 0, none⟩), s4, .int .i64 f, s6, s7, s8, s9, s10, s11, s12, s13, s14, s15, s16, s17, s18, s19, s20, s21, s22, s23, s24, s25, s26, s27, s28, s29, s30, s31, s32, s33, s34, s35, s36, .func (.func 101) #[] #[.pointer (some ⟨pb, 0, none⟩), .pointer (some ⟨lb, 0, none⟩), .pointer (some ⟨ob, 0, none⟩)], .slice av k cv, .int .i64 f, x40, x41, x42, s43], defers := dd } w') :
    Code.wpIn (wideAt none) 0 Try.prog orMoreC Q { tmps := #[.slice av k cv, s1, s2, .pointer (some ⟨ob, 0, none⟩), s4, .int .i64 f, s6, s7, s8, s9, s10, s11, s12, s13, s14, s15, s16, s17, s18, s19, s20, s21, s22, s23, s24, s25, s26, s27, s28, s29, s30, s31, s32, s33, s34, s35, s36, s37, s38, s39, s40, s41, s42, s43], defers := dd } W1 := by
  have HQ := Lib.hid hQ
  clear hQ
  conv => arg 4; whnf
  refine wpIn_region_invG mixed (by kernel_rfl) (fun d_ a_ w' => ∃ (x37 : Value) (x38 : Value) (x39 : Value) (x40 : Value) (x41 : Value) (x42 : Value), a_ = { tmps := #[.slice av k cv, s1, s2, .pointer (some ⟨ob, 0, none⟩), s4, .int .i64 f, s6, s7, s8, s9, s10, s11, s12, s13, s14, s15, s16, s17, s18, s19, s20, s21, s22, s23, s24, s25, s26, s27, s28, s29, s30, s31, s32, s33, s34, s35, s36, x37, x38, x39, x40, x41, x42, s43], defers := dd } ∧ orMoreF av k cv pb lb ob f S0 S1 S2 S3 d_ x37 x38 x39 x40 x41 x42 w') ?_ ?_ ?_
  · refine ⟨s37, s38, s39, s40, s41, s42, rfl, ?_⟩
    constructor <;> first | rfl | (intro h; cases h; done) | (intro _; exact h0) | exact h0
  · refine ⟨?_, ?_, ?_, ?_, ?_, ?_, trivial⟩
    all_goals
      rintro d_ a_ w1 K hd_ hdep ⟨x37, x38, x39, x40, x41, x42, rfl, F⟩ HK
      simp [Region.binds] at hdep
    · have hst : S0 w1 ∨ S1 x40 w1 ∨ S2 x40 x41 w1 := by
        cases e1 : d_ 3 with
        | false => exact .inl ((F.st0 e1))
        | true =>
          cases e2 : d_ 4 with
          | false => exact .inr (.inl ((F.st1 e1 e2)))
          | true =>
            have n_ : d_ 5 = false := by
              cases e_ : d_ 5 with
              | false => rfl
              | true => have h2 := (F.q5 e_).1; rw [show d_ 0 = false from hd_] at h2; cases h2
            exact .inr (.inr ((F.st2 e2 n_)))
      have kk := kl0.out x40 x41 w1 hst
      clear hst
      have HF : Hid (orMoreF av k cv pb lb ob f S0 S1 S2 S3 (upd d_ 0) (.func (.func 101) #[] #[.pointer (some ⟨pb, 0, none⟩), .pointer (some ⟨lb, 0, none⟩), .pointer (some ⟨ob, 0, none⟩)]) x38 x39 x40 x41 x42 w1) := ⟨F.q3, F.q4, fun h => ⟨rfl, (F.q5 h).2⟩, fun _ => rfl, F.f1, F.f2, F.st0, F.st1, F.st2, F.st3⟩
      clear F
      go_simp
      exact HK.out _ _ ⟨_, _, _, _, _, _, rfl, HF.out⟩
    · have HF : Hid (orMoreF av k cv pb lb ob f S0 S1 S2 S3 (upd d_ 1) x37 (.slice av k cv) x39 x40 x41 x42 w1) := ⟨F.q3, fun h => ⟨rfl, (F.q4 h).2⟩, F.q5, F.f0, fun _ => rfl, F.f2, F.st0, F.st1, F.st2, F.st3⟩
      clear F
      go_simp
      exact HK.out _ _ ⟨_, _, _, _, _, _, rfl, HF.out⟩
    · have HF : Hid (orMoreF av k cv pb lb ob f S0 S1 S2 S3 (upd d_ 2) x37 x38 (.int .i64 f) x40 x41 x42 w1) := ⟨fun h => rfl, F.q4, F.q5, F.f0, F.f1, fun _ => rfl, F.st0, F.st1, F.st2, F.st3⟩
      clear F
      go_simp
      exact HK.out _ _ ⟨_, _, _, _, _, _, rfl, HF.out⟩
    · have hS := F.st0  hd_
      obtain rfl := F.f2 (by simp [hdep])
      have hres := kc3.out w1 hS
      have HF : Hid (orMoreF av k cv pb lb ob f S0 S1 S2 S3 (upd d_ 3) x37 x38 (.int .i64 f) ((.slice (some ⟨w1.heap.size, 0, none⟩) 1 1)) x41 x42 (w1.alloc (.cells #[.int .i64 f] 3))) := ⟨fun _ => (show _ from (by simp [hdep] : d_ 2 = true)), fun h => ⟨(F.q4 h).1, rfl⟩, F.q5, F.f0, F.f1, F.f2, fun h => (by simp [upd] at h), fun _ _ => hres, fun h _ => (by have h2 : d_ 3 = true := (F.q4 h).2; rw [show d_ 3 = false from hd_] at h2; cases h2), fun h => (by have h2 : d_ 3 = true := (F.q4 (F.q5 h).2).2; rw [show d_ 3 = false from hd_] at h2; cases h2)⟩
      clear F hS hres
      go_simp
      exact HK.out _ _ ⟨_, _, _, _, _, _, rfl, HF.out⟩
    · have hS := F.st1 (by simp [hdep] : d_ 3 = true) hd_
      obtain rfl := F.f1 (by simp [hdep])
      obtain ⟨v_, w_, hr, hres⟩ := kc4.out x40 w1 hS
      rw [if_pos (by rfl)]
      refine wpIn_append_run (.tmp 38) (.tmp 40) 42 rfl _ _ _ _ rfl rfl hr ?_
      exact HK.out _ _ ⟨_, _, _, _, _, _, rfl, ⟨F.q3, fun _ => ⟨(show _ from (by simp [hdep] : d_ 1 = true)), (show _ from (by simp [hdep] : d_ 3 = true))⟩, fun h => ⟨(F.q5 h).1, rfl⟩, F.f0, F.f1, F.f2, fun h => (by have h2 : d_ 3 = false := h; rw [(by simp [hdep] : d_ 3 = true)] at h2; cases h2), fun _ h => (by simp [upd] at h), fun _ _ => hres, fun h => (by have h2 : d_ 4 = true := (F.q5 h).2; rw [show d_ 4 = false from hd_] at h2; cases h2)⟩⟩
    · have hS := F.st2 (by simp [hdep] : d_ 4 = true) hd_
      obtain rfl := F.f0 (by simp [hdep])
      have hc := kc5.out x40 x41 w1 hS
      have HF := Lib.hid F
      clear F
      go_simp
      refine ⟨trivial, rfl, wideAt_calls (hc.mono ?_)⟩
      rintro e w5 ⟨v_, rfl, hres⟩
      exact HK.out _ _ ⟨_, _, _, _, _, _, rfl, ⟨HF.out.q3, HF.out.q4, fun _ => ⟨(show _ from (by simp [hdep] : d_ 0 = true)), (show _ from (by simp [hdep] : d_ 4 = true))⟩, HF.out.f0, HF.out.f1, HF.out.f2, fun h => (by have h2 : d_ 3 = false := h; rw [(HF.out.q4 (by simp [hdep] : d_ 4 = true)).2] at h2; cases h2), fun _ h => (by have h2 : d_ 4 = false := h; rw [(by simp [hdep] : d_ 4 = true)] at h2; cases h2), fun _ h => (by simp [upd] at h), fun _ => hres⟩⟩
  · rintro d_ a_ w1 hall ⟨x37, x38, x39, x40, x41, x42, rfl, F⟩
    have hall' : ∀ k, k < 6 → d_ k = true := hall
    obtain rfl := F.f0 (hall' 0 (by decide))
    obtain rfl := F.f1 (hall' 1 (by decide))
    obtain rfl := F.f2 (hall' 2 (by decide))
    exact HQ.out x40 x41 x42 w1 (F.st3 (hall' 5 (by decide)))
end Go.Proofs.Ytnfhlbmapfoifaa
