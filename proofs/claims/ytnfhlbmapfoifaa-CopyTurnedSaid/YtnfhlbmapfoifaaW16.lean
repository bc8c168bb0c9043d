/- All ways, one after the other: the iterator. All ways, collected. -/
import Derived.Test.YtnfhlbmapfoifaaW13
import Derived.Laws.EntriesVeiled
import Derived.Test.YtnfhlbmapfoifaaBase
import Derived.BigRegionIn
import Derived.BigGuardIn
namespace Go.Proofs.Ytnfhlbmapfoifaa
open Go.RowKit
set_option linter.unusedVariables false

theorem ways_any {w : World} {bp : Nat} : Calls Try.prog 53 #[.pointer (some ⟨bp, 0, none⟩)] w fun e w' => e = .returned (.func (.func 97) #[] #[.pointer (some ⟨w.heap.size, 0, none⟩)]) ∧ w' = w.alloc (.cells #[.pointer (some ⟨bp, 0, none⟩)] 79) := by
  have hmf : ∀ (fn : Fn) (first cap : Array Value) (w : World), (Instr.makeFunc fn first cap).run Try.prog w = .ok (.func fn first cap) w := fun _ _ _ _ => rfl
  go_enter Try.func53, Try.ntmps53
  go_wp2
  go_ret
  exact ⟨rfl, rfl⟩
set_option maxRecDepth 100000 in
set_option maxHeartbeats 2000000 in
theorem ways_iter {p : Prs} {a : Option Addr} {cap bp g pb : Nat} {W : World} {M : Nat → Prop} (hv : p.valid = true)
    (hpile : ∀ A, Same M W A → A.heap[pb]? = some (.cells #[.pointer (some ⟨bp, 0, none⟩)] 79 (0, 0)) ∧ PileP A bp p a cap g) :
    IterC Try.prog 97 #[.pointer (some ⟨pb, 0, none⟩)] (waysL p).length (WayOk p W.heap.size) M W := by
  intro l J Jx hJ hJx hY h0
  have hmf : ∀ (fn : Fn) (first cap : Array Value) (w : World), (Instr.makeFunc fn first cap).run Try.prog w = .ok (.func fn first cap) w := fun _ _ _ _ => rfl
  have H : OnH p a cap bp g pb l W M J Jx := ⟨hv, hpile, hJ, hY⟩
  obtain ⟨W1, hW1⟩ : ∃ W1 : World, W1 = (W.alloc (.cells #[.func (.yield l) #[] #[]] 109)).alloc (.cells #[selfV pb W.heap.size (W.heap.size + 1)] 109) := ⟨_, rfl⟩
  have hb1 : Below W.heap.size W W1 := by rw [hW1]; exact ((Below.refl _ W).alloc (Nat.le_refl _) _).alloc (by simp) _
  have q0 : W1.heap[W.heap.size]? = some (.cells #[.func (.yield l) #[] #[]] 109 (0, 0)) := by rw [hW1]; exact (Below.heap_alloc _ _ _ (by simp)).trans (World.alloc_heap_new W _)
  have q1 : W1.heap[W.heap.size + 1]? = some (.cells #[selfV pb W.heap.size (W.heap.size + 1)] 109 (0, 0)) := by
    rw [hW1]
    have := World.alloc_heap_new (W.alloc (.cells #[.func (.yield l) #[] #[]] 109)) (.cells #[selfV pb W.heap.size (W.heap.size + 1)] 109)
    rwa [World.size_alloc] at this
  have hz1 := hb1.size
  have hC : OnC W M l pb W1 (fun k => k < W.heap.size) := ⟨Same.of_below _ hb1, q0, q1, fun h => by omega, fun h => by omega, fun k hk => hk, fun k hk => by omega⟩
  have hj : J 0 W1 (fun k => k < W.heap.size) := hJ _ _ _ _ h0 ⟨hb1.os, hb1.tape, hb1.output, hb1.size, fun k hk hn => hb1.block k (by omega)⟩
  have hcall := callsIn_wide.1 (on_any H p.cards.length [] 0 W1 (fun k => k < W.heap.size) (.slice none 0 0) (by simp) (fun x hx => by cases hx) (fun j x hx => by rw [Nat.zero_add]; exact hx) hC (World.ownsRow_nil W1 _ _ _) (fun g hg => by cases hg) hj)
  rw [Nat.zero_add] at hcall
  have HC := Lib.hid hcall
  have HW1 := Lib.hid hW1
  clear hcall hj hC q0 q1 hb1 hW1 H hY h0 hJ hJx hpile hv hz1
  refine callsIn_wide.2 ?_
  go_enter Try.func97, Try.ntmps97
  go_wp2_with fail
  have hW1 := HW1.out
  rw [← hW1]
  clear hW1
  refine HC.out.mono ?_
  rintro e W' ⟨r, rfl, h1, h2⟩
  have HR := Lib.hid (And.intro h1 h2)
  clear h1 h2
  go_wp2_with fail
  go_end0
  refine ⟨⟨_, rfl⟩, ?_⟩
  cases r with
  | true =>
    obtain ⟨C', _, h, _⟩ := HR.out.1 rfl
    exact ⟨C', .inl h⟩
  | false =>
    obtain ⟨C', i, hi, h⟩ := HR.out.2 rfl
    exact ⟨C', .inr ⟨i, hi, h⟩⟩
end Go.Proofs.Ytnfhlbmapfoifaa

namespace Go.Proofs.Ytnfhlbmapfoifaa
open Go.RowKit
set_option linter.unusedVariables false

theorem wpListIn_append_run {P : Program} {l n : Nat} {w : World} {ops : Array Oper} {rest : List Oper} {o : Oper} {a : Act} {Q : Exit → Act → World → Prop} (hgd : o.guard = none) (s x : Operand) (t : TypeId)
    (ho : o.op = .call { callee := .builtin .append, args := #[s, x], argTypes := #[t, t] }) (v xv v' : Value) (w' : World) (hs : a.eval s = v) (hx : a.eval x = xv)
    (hr : (Builtin.append_ #[t, t] o.type #[v, xv]).run P w = .ok v' w') (h : wpListIn (Fence.wide.inRound l) n P ops Q rest (a.put o.dst v') w') : wpListIn (Fence.wide.inRound l) n P ops Q (o :: rest) a w := by
  unfold wpListIn
  rw [if_pos (by simp [Region.wanted, hgd])]
  refine ⟨fun _ _ => trivial, ?_⟩
  have e : o.semAt (Fence.wide.inRound l).round a.eval = execOp a.eval o := Oper.semAt_some _ _ _ (fun c hc => by rw [ho] at hc; cases hc)
  rw [e]
  unfold execOp
  simp only [ho, resolve, invoke, builtin, Sem.run_bind, Sem.run_pure, Result.andThen_ok, List.map_toArray, List.map_cons, List.map_nil, hs, hx, hr]
  exact h
theorem infoS : (Try.prog.info? 76).map (fun i => (i.zero, i.size, i.bytes)) = some (some (.slice none 0 0), 1, 24) := by kernel_rfl
/-- Slices that each own a list. -/
def RowsOf (w : World) (B : Nat) (vs : List Value) (l : List (List Int)) : Prop := vs.length = l.length ∧ ∀ (i : Nat) (x : List Int), l[i]? = some x → ∃ vc, vs[i]? = some vc ∧ w.ownsRow B 3 1 vc x.length (x.map (Value.int .i64))
/-- What has been collected. -/
structure ColI (p : Prs) (w0 : World) (B1 tb i : Nat) (A : World) (C : Nat → Prop) : Prop where
  below : Below w0.heap.size w0 A
  ctb : C tb
  ex : ∃ (v : Value) (vs : List Value), A.heap[tb]? = some (.cells #[v] 74 (0, 0)) ∧ A.ownsRow B1 76 1 v i vs ∧ RowsOf A B1 vs ((waysL p).take i) ∧ (∀ g, v.ownBlock = some g → C g) ∧ ∀ vc ∈ vs, ∀ g, vc.ownBlock = some g → C g
theorem own_blocks {w w' : World} {B : Nat} {e : TypeId} {s n : Nat} {v : Value} {xs : List Value} (h : w.ownsRow B e s v n xs) (hk : ∀ g, v.ownBlock = some g → w'.heap[g]? = w.heap[g]?) : w'.ownsRow B e s v n xs := by
  obtain ⟨h1, h2⟩ := h
  refine ⟨h1, ?_⟩
  rcases h2 with h2 | ⟨g, cap, cur, rfl, hg, hh, r⟩
  · exact .inl h2
  · exact .inr ⟨g, cap, cur, rfl, hg, (hk g rfl).trans hh, r⟩
/-- Marks that are taken lie elsewhere. -/
theorem own_still {w w' : World} {B n0 : Nat} {e : TypeId} {s n : Nat} {v : Value} {xs : List Value} (h : w.ownsRow B e s v n xs) (hs : Same (fun k => n0 ≤ k ∧ w.heap[k]? = some (.deferred (some []))) w w') : w'.ownsRow B e s v n xs := by
  refine own_blocks h (fun g hg => hs.block g (h.lt g hg).2 (fun hd => ?_))
  rcases h.2 with ⟨rfl, _⟩ | ⟨g', cap, cur, rfl, _, hh, _⟩
  · cases hg
  · simp only [Value.ownBlock, Option.some.injEq] at hg
    subst hg
    rw [hh] at hd
    cases hd.2
theorem RowsOf.blocks {w w' : World} {B : Nat} {vs : List Value} {l : List (List Int)} (h : RowsOf w B vs l) (hk : ∀ vc ∈ vs, ∀ g, vc.ownBlock = some g → w'.heap[g]? = w.heap[g]?) : RowsOf w' B vs l :=
  ⟨h.1, fun i x hx => by
    obtain ⟨vc, h1, h2⟩ := h.2 i x hx
    exact ⟨vc, h1, own_blocks h2 (hk vc (List.mem_of_getElem? h1))⟩⟩
theorem rows_lt {w : World} {B : Nat} {vs : List Value} {l : List (List Int)} (h : RowsOf w B vs l) {vc : Value} (hv : vc ∈ vs) {g : Nat} (hg : vc.ownBlock = some g) : B ≤ g ∧ g < w.heap.size := by
  obtain ⟨i, hi, rfl⟩ := List.getElem_of_mem hv
  have hi' : i < l.length := by rw [← h.1]; exact hi
  obtain ⟨vc', h1, h2⟩ := h.2 i _ (List.getElem?_eq_getElem hi')
  rw [List.getElem?_eq_getElem hi] at h1
  cases h1
  exact h2.lt g hg
/-- Stays while others' blocks are written, and the loop's own. -/
theorem ColI.stable {p : Prs} {w0 : World} {B1 tb i lb : Nat} {A B : World} {C : Nat → Prop} (h : ColI p w0 B1 tb i A C) (hs : Same (fun k => ¬ C k ∨ k = lb) A B) (hl1 : lb < B1) (hl2 : lb ≠ tb) (hl3 : w0.heap.size ≤ lb) (hC : ∀ k, k < B1 → C k) (hB : w0.heap.size ≤ B1) : ColI p w0 B1 tb i B C := by
  obtain ⟨h1, h2, v, vs, h3, h4, h5, h6, h7⟩ := h
  refine ⟨h1.trans (hs.below h1.size (fun k hk e => ?_)), h2, v, vs, (hs.block tb (heap_lt h3) (fun e => ?_)).trans h3, own_blocks h4 (fun g hg => hs.block g (h4.lt g hg).2 (fun e => ?_)), h5.blocks (fun vc hvc g hg => hs.block g (rows_lt h5 hvc hg).2 (fun e => ?_)), h6, h7⟩
  · rcases e with e | e
    · exact e (hC k (by omega))
    · omega
  · rcases e with e | e
    · exact e h2
    · exact hl2 e.symm
  · rcases e with e | e
    · exact e (h6 g hg)
    · have := (h4.lt g hg).1; omega
  · rcases e with e | e
    · exact e (h7 vc hvc g hg)
    · have := (rows_lt h5 hvc hg).1; omega
theorem own_apart {w : World} {B B' : Nat} {e e' : TypeId} {s s' n n' : Nat} {v v' : Value} {xs ys : List Value} (h : w.ownsRow B e s v n xs) (h' : w.ownsRow B' e' s' v' n' ys) (he : e ≠ e') : ∀ g, v.ownBlock = some g → v'.ownBlock ≠ some g := by
  intro g hg hg'
  rcases h.2 with ⟨rfl, _⟩ | ⟨g1, cap, cur, rfl, _, hh, _⟩
  · cases hg
  · rcases h'.2 with ⟨rfl, _⟩ | ⟨g2, cap', cur', rfl, _, hh', _⟩
    · cases hg'
    · simp only [Value.ownBlock, Option.some.injEq] at hg hg'
      subst hg hg'
      rw [hh] at hh'
      simp only [Option.some.injEq, Obj.cells.injEq] at hh'
      exact he hh'.2.1
/-- One way more is collected. -/
theorem ColI.more {p : Prs} {w0 : World} {B1 tb i lb : Nat} {V : World} {C : Nat → Prop} {x : List Int} {vc : Value} (h : ColI p w0 B1 tb i V C) (hx : (waysL p)[i]? = some x) (hvc : V.ownsRow B1 3 1 vc x.length (x.map (Value.int .i64))) (hi : i ≤ 1000000) (htb : tb < B1) (hl1 : lb < B1) (hl2 : lb ≠ tb) (hw0 : w0.heap.size ≤ tb) (hB1 : B1 ≤ V.heap.size) (hlbV : lb < V.heap.size) :
    ∃ v v' w', V.cell? ⟨tb, 0, none⟩ = some v ∧ (∃ a c, v = .slice a i c) ∧ (Builtin.append_ #[74, 74] 74 #[v, .slice (some ⟨V.heap.size, 0, none⟩) 1 1]).run Try.prog (V.alloc (.cells #[vc] 76)) = .ok v' w' ∧ (∃ a c, v' = .slice a (i + 1) c) ∧ (∃ u, w'.cell? ⟨tb, 0, none⟩ = some u) ∧ w'.frozen? ⟨tb, 0, none⟩ = false ∧
      Same (fun k => C k ∧ (k < B1 → k = tb)) V (w'.setCell ⟨tb, 0, none⟩ v') ∧ (w'.setCell ⟨tb, 0, none⟩ v').heap[lb]? = V.heap[lb]? ∧
      ColI p w0 B1 tb (i + 1) (w'.setCell ⟨tb, 0, none⟩ v') (fun k => (C k ∨ vc.ownBlock = some k ∨ V.heap.size ≤ k) ∧ k < (w'.setCell ⟨tb, 0, none⟩ v').heap.size) := by
  obtain ⟨i0, hi0, hz0, hz1, hz2⟩ := info_parts infoS
  obtain ⟨h1, h2, v, vs, h3, h4, h5, h6, h7⟩ := h
  have hone : vc.oneCell' = true := by
    rcases hvc.2 with ⟨rfl, _⟩ | ⟨g, cap, cur, rfl, _⟩ <;> rfl
  have hV1 := World.alloc_heap_new V (.cells #[vc] 76)
  obtain ⟨v', w', hr, hn, hg, hor, _⟩ := append_keep (P := Try.prog) (w := V.alloc (.cells #[vc] 76)) B1 74 74 76 i0 _ 24 Try.underlying74 hi0 hz0 hz1 hz2 rfl v i vs (own_blocks h4 (fun g hg => Below.heap_alloc _ _ _ (h4.lt g hg).2)) ⟨V.heap.size, 0, none⟩ vc (by rw [cell_of_heap hV1]; rfl) hone (by simp [maxLen]; omega) (by omega) (by simp; omega)
  have hrow : ∀ k, v.ownBlock = some k → B1 ≤ k ∧ k < V.heap.size := fun k hk => h4.lt k hk
  have hVw : V.heap.size < w'.heap.size := by have := hg.size; simp at this; omega
  have htbV := heap_lt h3
  have hk1 : ∀ k, k < V.heap.size → v.ownBlock ≠ some k → w'.heap[k]? = V.heap[k]? := fun k hk hne => (hg.block k (by simp; omega) (fun e => hne e.symm)).trans (Below.heap_alloc _ _ _ hk)
  have htbn : v.ownBlock ≠ some tb := fun e => by have := (hrow _ e).1; omega
  have hlbn : v.ownBlock ≠ some lb := fun e => by have := (hrow _ e).1; omega
  have htb' := (hk1 tb htbV htbn).trans h3
  have hk2 : ∀ k, k < V.heap.size → v.ownBlock ≠ some k → k ≠ tb → (w'.setCell ⟨tb, 0, none⟩ v').heap[k]? = V.heap[k]? := fun k hk hne hkt => (Below.heap_setCell _ _ _ _ hkt).trans (hk1 k hk hne)
  have hrow' : ∀ k, v'.ownBlock = some k → B1 ≤ k ∧ k < w'.heap.size := fun k hk => hn.lt k hk
  refine ⟨v, v', w', by rw [cell_of_heap h3]; rfl, ?_, hr, ?_, ⟨_, by rw [cell_of_heap htb']; rfl⟩, frozen_of_heap htb', ?_, hk2 lb hlbV hlbn hl2, ?_⟩
  · obtain ⟨a, c, e, _⟩ := own_slice h4; exact ⟨a, c, e⟩
  · obtain ⟨a, c, e, _⟩ := own_slice hn; exact ⟨a, c, e⟩
  · have hs : Same (fun k => C k ∧ (k < B1 → k = tb)) V w' := by
      have hg' : Same (fun k => C k ∧ (k < B1 → k = tb)) V (V.alloc (.cells #[vc] 76)) := (Same.refl _ V).alloc _
      exact hg'.grown hg (fun k hk => .inl ⟨h6 k hk, fun h => by have := (hrow k hk).1; omega⟩)
    exact hs.setCell (.inl ⟨h2, fun _ => rfl⟩) _
  · have hb0 : Below w0.heap.size w0 (w'.setCell ⟨tb, 0, none⟩ v') := by
      have hb : Below w0.heap.size w0 w' := ((h1.alloc (by omega) (.cells #[vc] 76))).grown hg (by simp; omega) (fun k hk => by have := (hrow k hk).1; omega)
      exact hb.setCell (by show w0.heap.size ≤ tb; omega) _
    refine ⟨hb0, ⟨.inl h2, by simp; omega⟩, v', vs ++ [vc], heap_setCell_at htb' _, ?_, ?_, ?_, ?_⟩
    · exact own_blocks hn (fun g hg' => Below.heap_setCell _ _ _ _ (fun e => by have e' : g = tb := e; have := (hrow' g hg').1; omega))
    · rw [List.take_succ_eq_append_getElem (List.getElem?_eq_some_iff.1 hx).1, (List.getElem?_eq_some_iff.1 hx).2]
      have hl5 : vs.length = i := by have := h5.1; rw [this, List.length_take]; have := (List.getElem?_eq_some_iff.1 hx).1; omega
      refine ⟨by simp [h5.1], fun j y hy => ?_⟩
      rcases Nat.lt_trichotomy j vs.length with hj | hj | hj
      · rw [List.getElem?_append_left (by rw [← h5.1]; exact hj)] at hy
        obtain ⟨c', hc1, hc2⟩ := h5.2 j y hy
        refine ⟨c', by rw [List.getElem?_append_left hj]; exact hc1, own_blocks hc2 (fun g hg' => hk2 g (hc2.lt g hg').2 (own_apart hc2 h4 (by decide) g hg') (fun e => by have := (hc2.lt g hg').1; omega))⟩
      · have hj2 : j = ((waysL p).take i).length := by rw [← h5.1]; exact hj
        rw [hj2, List.getElem?_append_right (Nat.le_refl _)] at hy
        simp at hy
        subst hy
        refine ⟨vc, by rw [hj]; simp, own_blocks hvc (fun g hg' => hk2 g (hvc.lt g hg').2 (own_apart hvc h4 (by decide) g hg') (fun e => by have := (hvc.lt g hg').1; omega))⟩
      · rw [List.getElem?_eq_none (by simp [← h5.1]; omega)] at hy
        cases hy
    · intro g hg'
      have hsz : (w'.setCell ⟨tb, 0, none⟩ v').heap.size = w'.heap.size := by simp
      refine ⟨?_, by have := (hrow' g hg').2; omega⟩
      rcases hor with e | e
      · rw [e] at hg'
        exact .inl (h6 g hg')
      · rw [e] at hg'
        cases hg'
        exact .inr (.inr (by simp))
    · intro c' hc' g hg'
      rcases List.mem_append.1 hc' with hc' | hc'
      · refine ⟨.inl (h7 c' hc' g hg'), by have := (rows_lt h5 hc' hg').2; simp; omega⟩
      · rw [List.mem_singleton.1 hc'] at hg'
        exact ⟨.inr (.inl hg'), by have := (hvc.lt g hg').2; simp; omega⟩
attribute [local go_sem] Oper.semAt_some
set_option maxRecDepth 100000 in
set_option maxHeartbeats 4000000 in
theorem appendSeq_any {p : Prs} {a : Option Addr} {cap bp g pb : Nat} {w : World} (hv : p.valid = true) (hpb : w.heap[pb]? = some (.cells #[.pointer (some ⟨bp, 0, none⟩)] 79 (0, 0))) (hP : PileP w bp p a cap g) (hN : (waysL p).length ≤ 1000000) :
    Calls Try.prog 90 #[.slice none 0 0, .func (.func 97) #[] #[.pointer (some ⟨pb, 0, none⟩)]] w fun e w' => ∃ v vs, e = .returned v ∧ w'.ownsRow w.heap.size 76 1 v (waysL p).length vs ∧ RowsOf w' w.heap.size vs (waysL p) ∧ Below w.heap.size w w' := by
  obtain ⟨W1, hW1⟩ : ∃ W1 : World, W1 = w.alloc (.cells #[.slice none 0 0] 74) := ⟨_, rfl⟩
  have hb1 : Below w.heap.size w W1 := by rw [hW1]; exact (Below.refl _ w).alloc (Nat.le_refl _) _
  have q0 : W1.heap[w.heap.size]? = some (.cells #[.slice none 0 0] 74 (0, 0)) := by rw [hW1]; exact World.alloc_heap_new w _
  have hz1 : W1.heap.size = w.heap.size + 1 := by rw [hW1]; simp
  have HPP : Hid (∀ V, Below w.heap.size w V → V.heap[pb]? = some (.cells #[.pointer (some ⟨bp, 0, none⟩)] 79 (0, 0)) ∧ PileP V bp p a cap g) := fun V hb => ⟨(hb.block _ (heap_lt hpb)).trans hpb, hP.mono hb⟩
  have HV := Lib.hid (And.intro hv (And.intro hb1 (And.intro q0 hN)))
  have HW1 := Lib.hid hW1
  have HZ1 := Lib.hid hz1
  clear hW1 hb1 q0 hpb hP hv hz1 hN
  refine calls_of_wp_marks Try.func90 rfl ?_
  simp only [Try.ntmps90, List.size_toArray, List.length_cons, List.length_nil, Nat.reduceAdd, Nat.reduceSub, Array.replicate_succ, Array.replicate_zero, List.push_toArray, List.append_toArray, List.nil_append, List.cons_append]
  go_wp2_with fail
  have hW1 := HW1.out
  rw [← hW1]
  clear hW1
  have hz1 := HZ1.out
  refine wp_rangeFuncC (gf := 97) (lb := #[.pointer (some ⟨pb, 0, none⟩)]) rfl (fun args w => by simp [callFunc, Try.func97, Try.f97, go_sem]) (waysL p).length (WayOk p (W1.heap.size + 2)) (fun q => q = w.heap.size ∨ q = W1.heap.size + 1) ?hps (by omega) (by omega) ?hit
    (fun i A C => ColI p w (W1.heap.size + 2) w.heap.size i A C ∧ ∀ k, k < W1.heap.size + 2 → C k) (fun _ _ _ _ => False) ?hI ?hIx ?h0 ?hround ?hdone ?hstop
  case hps =>
    rintro i v A K ⟨x, vc, _, rfl, _⟩
    rfl
  case hit =>
    intro W hb hsz
    rw [← hsz]
    refine ways_iter HV.out.1 (fun A hA => HPP.out A ?_)
    have hbW : Below w.heap.size w W := HV.out.2.1.trans (hb.mono (by omega))
    refine hbW.trans (hA.below (by have := hbW.size; omega) (fun k hk e => ?_))
    rcases e with e | e <;> omega
  case hI =>
    intro i A B C h hs
    exact ⟨h.1.stable hs (by omega) (by omega) (by omega) h.2 (by omega), h.2⟩
  case hIx =>
    intro c i A B C h _
    exact h
  case h0 =>
    intro W hb hsz
    refine ⟨⟨HV.out.2.1.trans (hb.mono (by omega)), by omega, _, [], (hb.block _ (by omega)).trans HV.out.2.2.1, World.ownsRow_nil W _ _ _, ⟨rfl, fun i x hx => by simp at hx⟩, (fun g hg => by cases hg), (fun c hc => by cases hc)⟩, fun k hk => hk⟩
  case hround =>
    rintro i v W C K hiN ⟨x, vc, hx, rfl, hvc, rfl⟩ hKC hC ⟨hcol, hC0⟩ hlt
    obtain ⟨av, cv, rfl, _⟩ := own_slice hvc
    clear hC0
    have HH := Lib.hid (And.intro hx (And.intro hvc (And.intro hKC (And.intro hC (And.intro hcol (And.intro hlt hiN))))))
    clear hx hvc hKC hC hcol hlt hiN
    clear hz1
    gi_wp2_with fail
    refine fun V2 hS2 hsz2 => ?_
    have hz1 := HZ1.out
    obtain ⟨hx, hvc, hKC, hC, hcol, hlt, hiN⟩ := HH.out
    have hN := HV.out.2.2.2
    have hcol2 := hcol.stable (hS2.mono (fun _ _ e => .inr e)) (by omega) (by omega) (by omega) hC (by omega)
    have hvc2 : V2.ownsRow (W1.heap.size + 2) 3 1 (.slice av x.length cv) x.length (x.map (Value.int .i64)) := own_blocks hvc (fun g hg => hS2.block g (hvc.lt g hg).2 (by have := (hvc.lt g hg).1; omega))
    obtain ⟨v, v', w', m1, ⟨a1, c1, rfl⟩, m3, ⟨a2, c2, rfl⟩, ⟨u, m4⟩, m5, m6, m7, m8⟩ := hcol2.more hx hvc2 (by omega) (by omega) (by omega : W1.heap.size + 1 < W1.heap.size + 2) (by omega) (Nat.le_refl _) (by omega) (by omega)
    have HM := Lib.hid (And.intro m3 (And.intro m6 (And.intro m7 m8)))
    have HH3 : Hid (W1.heap.size + 2 ≤ V2.heap.size) := Lib.hid (by omega)
    have HH2 := Lib.hid (And.intro hS2 (And.intro hsz2 (And.intro hC hKC)))
    clear hx hvc hKC hC hcol hlt hiN hN hcol2 hvc2 m3 m6 m7 m8 hS2 hsz2 HH hz1
    gi_wp2_with (refine wpListIn_append_run rfl (.tmp 8) (.tmp 10) 74 rfl _ _ _ _ rfl rfl HM.out.1 ?_)
    obtain ⟨hS2, hsz2, hC, hKC⟩ := HH2.out
    refine ⟨HM.out.2.1.mono (fun k _ e => ⟨e.1, fun h => .inl (e.2 h)⟩), HM.out.2.2.1, _, fun k hk => ⟨.inl (hC k hk), ?_⟩, fun k hk => hk.2, fun k hk => hk.1, HM.out.2.2.2, fun k hk => ⟨.inl (hC k hk), ?_⟩⟩ <;>
    · have := HM.out.2.1.size
      have := HH3.out
      omega
  case hdone =>
    rintro W C ⟨⟨h1, h2, v, vs, h3, h4, h5, h6, h7⟩, hC⟩ hdef
    have hc : W.cell? ⟨w.heap.size, 0, none⟩ = some v := by rw [cell_of_heap h3]; rfl
    have HF := Lib.hid (And.intro h1 (And.intro h3 (And.intro h4 (And.intro h5 hdef))))
    clear h1 h2 h3 h4 h5 h6 h7 hdef hz1
    go_wp2_with fail
    obtain ⟨h1, h3, h4, h5, hdef⟩ := HF.out
    have hz1 := HZ1.out
    refine leaves_marks (n := w.heap.size) [W1.heap.size] W (by simp) (fun k hk => ?_) (fun W' hs hsz => ⟨results_tmp rfl _ _ _, v, vs, rfl, ?_, ?_, ?_⟩)
    · rw [List.mem_singleton] at hk
      subst hk
      exact ⟨by omega, hdef⟩
    · exact own_base (own_still h4 hs) (by omega)
    · exact ⟨by rw [h5.1, List.take_length], fun i x hx => by
        obtain ⟨vc, e1, e2⟩ := h5.2 i x (by rw [List.take_length]; exact hx)
        exact ⟨vc, e1, own_base (own_still e2 hs) (by omega)⟩⟩
    · exact h1.trans (hs.below h1.size (fun k hk e => by have := e.1; omega))
  case hstop =>
    intro c i W C _ h
    exact h.elim
end Go.Proofs.Ytnfhlbmapfoifaa

