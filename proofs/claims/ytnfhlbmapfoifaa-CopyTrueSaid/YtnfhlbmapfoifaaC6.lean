/- Parents. -/
import Derived.Test.YtnfhlbmapfoifaaC5
namespace Go.Proofs.Ytnfhlbmapfoifaa
open Go.RowKit
set_option linter.unusedVariables false
theorem heap5 (w : World) (a b c d e : Obj) : let W := ((((w.alloc a).alloc b).alloc c).alloc d).alloc e
    W.heap[w.heap.size]? = some a ∧ W.heap[w.heap.size + 1]? = some b ∧ W.heap[w.heap.size + 2]? = some c ∧ W.heap[w.heap.size + 3]? = some d ∧ W.heap[w.heap.size + 4]? = some e ∧ W.heap.size = w.heap.size + 5 ∧ Below w.heap.size w W := by
  have q0 := World.alloc_heap_new w a
  have q1 := World.alloc_heap_new (w.alloc a) b
  have q2 := World.alloc_heap_new ((w.alloc a).alloc b) c
  have q3 := World.alloc_heap_new (((w.alloc a).alloc b).alloc c) d
  have q4 := World.alloc_heap_new ((((w.alloc a).alloc b).alloc c).alloc d) e
  simp only [World.size_alloc] at q1 q2 q3 q4
  refine ⟨?_, ?_, ?_, ?_, q4, by simp, ((((Below.refl _ w).alloc (Nat.le_refl _) _).alloc (by simp) _).alloc (by simp; omega) _).alloc (by simp; omega) _ |>.alloc (by simp; omega) _⟩
  · rw [Below.heap_alloc _ _ _ (by simp; omega), Below.heap_alloc _ _ _ (by simp; omega), Below.heap_alloc _ _ _ (by simp; omega), Below.heap_alloc _ _ _ (by simp)]; exact q0
  · rw [Below.heap_alloc _ _ _ (by simp <;> omega), Below.heap_alloc _ _ _ (by simp <;> omega), Below.heap_alloc _ _ _ (by simp)]; exact q1
  · rw [Below.heap_alloc _ _ _ (by simp <;> omega), Below.heap_alloc _ _ _ (by simp)]; exact q2
  · rw [Below.heap_alloc _ _ _ (by simp)]; exact q3
theorem ints_one {w : World} (x : Int) {g : Nat} (h : w.heap[g]? = some (.cells #[.int .i64 x] 3 (0, 0))) : IsInts w (some ⟨g, 0, none⟩) [x] := fun i hi => by
  obtain rfl : i = 0 := by simp at hi; omega
  exact ⟨g, 0, rfl, by rw [cell_of_heap h]; rfl⟩
set_option maxRecDepth 100000 in
set_option maxHeartbeats 4000000 in
theorem parents_no {p : Prs} {a : Option Addr} {cap : Nat} {w : World} (ha : IsPrts w a p.cards) (hn : p.cards.length ≤ 16) (card : Int) (hE : openE p (p.card card) ≠ 0) :
    Calls Try.prog 33 #[p.v a cap, .int .i64 card] w fun e w' => e = .returned (.tuple #[.int .i64 0, .bool false, .int .i64 (openE p (p.card card))]) ∧ Below w.heap.size w w' := by
  have hmf : ∀ (fn : Fn) (first cap : Array Value) (w : World), (Instr.makeFunc fn first cap).run Try.prog w = .ok (.func fn first cap) w := fun _ _ _ _ => rfl
  have HC := Lib.hid cf80
  have HE := Lib.hid hE
  clear hE
  refine calls_of_wp_x Try.func33 rfl ?_
  simp only [Try.ntmps33, List.size_toArray, List.length_cons, List.length_nil, Nat.reduceAdd, Nat.reduceSub, Array.replicate_succ, Array.replicate_zero, List.push_toArray, List.append_toArray, List.nil_append, List.cons_append]
  go_wp2_with fail
  obtain ⟨q0, q1, q2, q3, q4, hz, hb⟩ := heap5 w (.cells (p.cells a cap) 26) (.cells #[.int .i64 card] 3) (.cells #[.int .i64 0] 3) (.cells #[.bool false] 4) (.cells #[.int .i64 0] 29)
  revert q0 q1 q2 q3 q4 hz hb
  generalize (((((w.alloc (.cells (p.cells a cap) 26)).alloc (.cells #[.int .i64 card] 3)).alloc (.cells #[.int .i64 0] 3)).alloc (.cells #[.bool false] 4)).alloc (.cells #[.int .i64 0] 29)) = W1
  intro q0 q1 q2 q3 q4 hz hb
  have ha1 := ha.mono hb
  have kp := prs_cells q0
  refine wpIn_wide.1 (par2n (p := p) (a := a) (cap := cap) (card := card) (er := openE p (p.card card)) (S0 := fun w' => Below W1.heap.size W1 w') (S1 := fun xs w' => ∃ V, Below W1.heap.size W1 V ∧ w' = V.alloc (.cells #[.int .i64 card] 3) ∧ xs = .slice (some ⟨V.heap.size, 0, none⟩) 1 1)
    (S2 := fun _ b w' => b = p.card card ∧ Below W1.heap.size W1 w') (S3 := fun _ _ w' => Below W1.heap.size W1 w') ?h0 ?l0 ?l1 ?l2 ?c3 ?c4 ?c5 ?hQ)
  case h0 => exact (Below.refl _ W1).drew
  case l0 =>
    intro xs b w' h
    have hb' : Below W1.heap.size W1 w' := by
      rcases h with h | ⟨V, h, rfl, _⟩ | h
      · exact h
      · exact h.alloc h.size _
      · exact h.2
    obtain ⟨k0, k1, k2, k3, k4⟩ := kp
    exact ⟨cell_stays hb' k0, cell_stays hb' k1, cell_stays hb' k2, cell_stays hb' k3, cell_stays hb' k4⟩
  case l1 =>
    intro xs w' h
    have hb' : Below W1.heap.size W1 w' := by
      rcases h with h | ⟨V, h, rfl, _⟩
      · exact h
      · exact h.alloc h.size _
    obtain ⟨k0, k1, k2, k3, k4⟩ := kp
    exact ⟨cell_stays hb' k0, cell_stays hb' k1, cell_stays hb' k2, cell_stays hb' k3, cell_stays hb' k4⟩
  case l2 => exact fun w' h => by rw [cell_of_heap ((h.block _ (heap_lt q1)).trans q1)]; rfl
  case c3 => exact fun w' h => ⟨w', h, rfl, rfl⟩
  case c4 =>
    rintro xs w' ⟨V, h, rfl, rfl⟩
    have hb' := h.alloc h.size (.cells #[.int .i64 card] 3)
    refine (isCard_any (p := p) (a := a) (cap := cap) (l := [card]) (cl := 1) hn (by simp) (ints_one card (World.alloc_heap_new V _))).mono ?_
    rintro e w3 ⟨rfl, hb3⟩
    exact ⟨_, rfl, by simp, hb'.trans (hb3.mono hb'.size)⟩
  case c5 =>
    rintro xs b w' ⟨rfl, h⟩
    refine (open_no (ha1.mono h) hn _ HE.out).mono ?_
    rintro e w3 ⟨rfl, hb3⟩
    exact ⟨rfl, h.trans (hb3.mono h.size)⟩
  case hQ =>
    intro _ _ _ _ _ _ _ _ w2 hb2
    have he2 := (hb2.block (w.heap.size + 4) (by omega)).trans q4
    have hc2 : w2.cell? ⟨w.heap.size + 4, 0, none⟩ = some (.int .i64 0) := by rw [cell_of_heap he2]; rfl
    have hB2 : Below w.heap.size w w2 := hb.trans (hb2.mono hb.size)
    have hz2 := hb2.size
    have hb3 : Below w.heap.size w ((w2.alloc (.cells #[.int .i64 (openE p (p.card card))] 115)).setCell ⟨w.heap.size + 4, 0, none⟩ (.int .i64 (openE p (p.card card)))) :=
      (hB2.alloc hB2.size _).setCell (by simp) _
    have hcell := World.cell?_setCell_same (w2.alloc (.cells #[.int .i64 (openE p (p.card card))] 115)) ⟨w.heap.size + 4, 0, none⟩ (.int .i64 (openE p (p.card card))) (cell_stays ((Below.refl _ w2).alloc (Nat.le_refl _) _) hc2)
    have hkk : ∀ k, k < w2.heap.size → k ≠ w.heap.size + 4 → ((w2.alloc (.cells #[.int .i64 (openE p (p.card card))] 115)).setCell ⟨w.heap.size + 4, 0, none⟩ (.int .i64 (openE p (p.card card)))).heap[k]? = w2.heap[k]? := fun k hk hne => (Below.heap_setCell _ _ _ _ hne).trans (Below.heap_alloc _ _ _ hk)
    have g2 := (hkk (w.heap.size + 2) (by omega) (by omega)).trans ((hb2.block (w.heap.size + 2) (by omega)).trans q2)
    have g3 := (hkk (w.heap.size + 3) (by omega) (by omega)).trans ((hb2.block (w.heap.size + 3) (by omega)).trans q3)
    exact ⟨[], _, rfl, leaves_no (recov80_no (openE p (p.card card)) hc2 (frozen_of_heap he2)) rfl HC.out (res_ccc rfl _ rfl rfl rfl (x := .int .i64 0) (z := .bool false) (by rw [cell_of_heap g2]; rfl) (by rw [cell_of_heap g3]; rfl) hcell) ⟨rfl, hb3⟩⟩
theorem card_nat {p : Prs} {card : Int} (h : p.card card = true) : ∃ k : Nat, card = k ∧ k < p.cards.length := by
  unfold Prs.card inR at h
  simp at h
  exact ⟨card.toNat, by omega, by omega⟩
theorem par_end {w3 V2 V : World} {bs bo s s' b : Nat} {o o' : Bool} {C K : Nat → Prop} {v : Value} (hcnt : ParI w3 bs bo s o V2) (hB : Below V2.heap.size V2 V) (hsz : V.heap.size = V2.heap.size) (hC : ∀ k, k < w3.heap.size + 2 → C k) (hbs : bs < w3.heap.size) (hbo : bo < w3.heap.size) (hb : b = bs ∨ b = bo) (hlt : w3.heap.size + 1 < V2.heap.size)
    (h1 : (V.setCell ⟨b, 0, none⟩ v).heap[bs]? = some (.cells #[.int .i64 (s' : Int)] 3 (0, 0))) (h2 : (V.setCell ⟨b, 0, none⟩ v).heap[bo]? = some (.cells #[.bool o'] 4 (0, 0))) :
    Same (mayC (fun q => q = bs ∨ q = bo ∨ q = w3.heap.size + 1) (w3.heap.size + 2) C) V2 (V.setCell ⟨b, 0, none⟩ v) ∧ (V.setCell ⟨b, 0, none⟩ v).heap[w3.heap.size + 1]? = V2.heap[w3.heap.size + 1]? ∧
      ∃ C' : Nat → Prop, (∀ k, k < w3.heap.size + 2 → C' k) ∧ (∀ k, C' k → k < (V.setCell ⟨b, 0, none⟩ v).heap.size) ∧ (∀ k, C' k → C k ∨ K k ∨ V2.heap.size ≤ k) ∧ (ParI w3 bs bo s' o' (V.setCell ⟨b, 0, none⟩ v) ∧ ∀ k, k < w3.heap.size + 2 → C' k) := by
  have hbl : b < w3.heap.size := by rcases hb with rfl | rfl <;> assumption
  refine ⟨(Same.of_below _ hB).setCell (.inl ⟨hC b (by omega), fun _ => by rcases hb with e | e <;> simp [e]⟩) _, (Below.heap_setCell _ _ _ _ (by show w3.heap.size + 1 ≠ b; omega)).trans (hB.block _ hlt), fun k => C k ∧ k < V2.heap.size, fun k hk => ⟨hC k hk, by omega⟩, fun k hk => by simp; omega, fun k hk => .inl hk.1, ⟨?_, h1, h2⟩, fun k hk => ⟨hC k hk, by omega⟩⟩
  exact (hcnt.same.trans (Same.of_below _ hB)).setCell (.inl hb) _
attribute [local go_sem] Oper.semAt_some
set_option maxRecDepth 100000 in
set_option maxHeartbeats 8000000 in
theorem parents_yes {p : Prs} {a : Option Addr} {cap : Nat} {w : World} (ha : IsPrts w a p.cards) (hn : p.cards.length ≤ 16) (hv : p.valid = true) {card : Nat} (hc : card < p.cards.length) :
    Calls Try.prog 33 #[p.v a cap, .int .i64 card] w fun e w' => e = .returned (.tuple #[.int .i64 (parS (parL p card (waysL p).length)), .bool (parO (parL p card (waysL p).length)), .int .i64 0]) ∧ Below w.heap.size w w' := by
  have hmf : ∀ (fn : Fn) (first cap : Array Value) (w : World), (Instr.makeFunc fn first cap).run Try.prog w = .ok (.func fn first cap) w := fun _ _ _ _ => rfl
  have HC := Lib.hid cf80
  have HV := Lib.hid hv
  have hn5 := (valid_parts hv).1
  have HCA : Hid (p.card (card : Int) = true) := by rw [Hid]; unfold Prs.card inR; simp; omega
  clear hv
  refine calls_of_wp_x Try.func33 rfl ?_
  simp only [Try.ntmps33, List.size_toArray, List.length_cons, List.length_nil, Nat.reduceAdd, Nat.reduceSub, Array.replicate_succ, Array.replicate_zero, List.push_toArray, List.append_toArray, List.nil_append, List.cons_append]
  go_wp2_with fail
  obtain ⟨q0, q1, q2, q3, q4, hz, hb⟩ := heap5 w (.cells (p.cells a cap) 26) (.cells #[.int .i64 (card : Int)] 3) (.cells #[.int .i64 0] 3) (.cells #[.bool false] 4) (.cells #[.int .i64 0] 29)
  revert q0 q1 q2 q3 q4 hz hb
  generalize (((((w.alloc (.cells (p.cells a cap) 26)).alloc (.cells #[.int .i64 (card : Int)] 3)).alloc (.cells #[.int .i64 0] 3)).alloc (.cells #[.bool false] 4)).alloc (.cells #[.int .i64 0] 29)) = W1
  intro q0 q1 q2 q3 q4 hz hb
  have ha1 := ha.mono hb
  have kp := prs_cells q0
  refine wpIn_wide.1 (par2 (p := p) (a := a) (cap := cap) (card := (card : Int)) (S0 := fun w' => Below W1.heap.size W1 w') (S1 := fun xs w' => ∃ V, Below W1.heap.size W1 V ∧ w' = V.alloc (.cells #[.int .i64 (card : Int)] 3) ∧ xs = .slice (some ⟨V.heap.size, 0, none⟩) 1 1)
    (S2 := fun _ b w' => b = true ∧ Below W1.heap.size W1 w') (S3 := fun _ _ bp w' => ∃ g, PileP w' bp p a cap g ∧ Below W1.heap.size W1 w') (S4 := fun _ _ bp pb w' => ∃ g, PileP w' bp p a cap g ∧ w'.heap[pb]? = some (.cells #[.pointer (some ⟨bp, 0, none⟩)] 79 (0, 0)) ∧ W1.heap.size ≤ pb ∧ Below W1.heap.size W1 w') ?h0 ?l0 ?l1 ?l2 ?c3 ?c4 ?c5 ?c6 ?hQ)
  case h0 => exact (Below.refl _ W1).drew
  case l0 =>
    intro xs b w' h
    have hb' : Below W1.heap.size W1 w' := by
      rcases h with h | ⟨V, h, rfl, _⟩ | h
      · exact h
      · exact h.alloc h.size _
      · exact h.2
    obtain ⟨k0, k1, k2, k3, k4⟩ := kp
    exact ⟨cell_stays hb' k0, cell_stays hb' k1, cell_stays hb' k2, cell_stays hb' k3, cell_stays hb' k4⟩
  case l1 =>
    intro xs w' h
    have hb' : Below W1.heap.size W1 w' := by
      rcases h with h | ⟨V, h, rfl, _⟩
      · exact h
      · exact h.alloc h.size _
    obtain ⟨k0, k1, k2, k3, k4⟩ := kp
    exact ⟨cell_stays hb' k0, cell_stays hb' k1, cell_stays hb' k2, cell_stays hb' k3, cell_stays hb' k4⟩
  case l2 => exact fun w' h => by rw [cell_of_heap ((h.block _ (heap_lt q1)).trans q1)]; rfl
  case c3 => exact fun w' h => ⟨w', h, rfl, rfl⟩
  case c4 =>
    rintro xs w' ⟨V, h, rfl, rfl⟩
    have hb' := h.alloc h.size (.cells #[.int .i64 (card : Int)] 3)
    refine (isCard_any (p := p) (a := a) (cap := cap) (l := [(card : Int)]) (cl := 1) hn (by simp) (ints_one _ (World.alloc_heap_new V _))).mono ?_
    rintro e w3 ⟨rfl, hb3⟩
    exact ⟨_, rfl, by simp [HCA.out], hb'.trans (hb3.mono hb'.size)⟩
  case c5 =>
    rintro xs b w' ⟨rfl, h⟩
    refine (open_yes (ha1.mono h) hn HV.out).mono ?_
    rintro e w3 ⟨bp, g, rfl, _, hP, hb3⟩
    exact ⟨bp, rfl, g, hP, h.trans (hb3.mono h.size)⟩
  case c6 =>
    rintro xs b bp w' ⟨g, hP, h⟩
    refine ways_any.mono ?_
    rintro e w3 ⟨rfl, rfl⟩
    have hb3 : Below w'.heap.size w' (w'.alloc (.cells #[.pointer (some ⟨bp, 0, none⟩)] 79)) := (Below.refl _ _).alloc (Nat.le_refl _) _
    exact ⟨_, rfl, g, hP.mono hb3, World.alloc_heap_new _ _, h.size, h.trans (hb3.mono h.size)⟩
  case hQ =>
    rintro xs b bp pb w3 ⟨g, hP3, hpb, hpbz, hB3⟩
    have hpbl := heap_lt hpb
    have hz3 := hB3.size
    have hBw : Below w.heap.size w w3 := hb.trans (hB3.mono hb.size)
    have r1 := (hB3.block (w.heap.size + 1) (by omega)).trans q1
    have r2 := (hB3.block (w.heap.size + 2) (by omega)).trans q2
    have r3 := (hB3.block (w.heap.size + 3) (by omega)).trans q3
    have r4 := (hB3.block (w.heap.size + 4) (by omega)).trans q4
    have HA := Lib.hid ha
    have HP := Lib.hid (And.intro hP3 (And.intro hpb (And.intro hBw (And.intro r1 (And.intro r2 (And.intro r3 r4))))))
    have HZ : Hid (w.heap.size + 5 ≤ w3.heap.size ∧ w.heap.size + 5 ≤ pb ∧ pb < w3.heap.size) := ⟨by omega, by omega, hpbl⟩
    clear hP3 hpb hBw r1 r2 r3 r4 q0 q1 q2 q3 q4 hz hb ha1 kp hpbz hB3 hpbl hz3 ha
    clear W1
    go_wp2_with fail
    obtain ⟨hz3, hpbz, hpbl⟩ := HZ.out
    refine wp_rangeFuncC (gf := 97) (lb := #[.pointer (some ⟨pb, 0, none⟩)]) rfl (fun args w => by simp [callFunc, Try.func97, Try.f97, go_sem]) (waysL p).length (WayOk p (w3.heap.size + 2)) (fun q => q = w.heap.size + 2 ∨ q = w.heap.size + 3 ∨ q = w3.heap.size + 1) ?hps (by omega) (by omega) ?hit
      (fun i A C => ParI w3 (w.heap.size + 2) (w.heap.size + 3) (parS (parL p card i)) (parO (parL p card i)) A ∧ ∀ k, k < w3.heap.size + 2 → C k) (fun _ _ _ _ => False) ?hI ?hIx ?hh0 ?hround ?hdone ?hstop
    case hps =>
      rintro i v A K ⟨x, vc, _, rfl, _⟩
      rfl
    case hit =>
      intro W hb hsz
      rw [← hsz]
      obtain ⟨hP3, hpb, hBw, r1, r2, r3, r4⟩ := HP.out
      refine ways_iter (a := a) (cap := cap) (bp := bp) (g := g) HV.out (fun A hA => ?_)
      have hbA : ∀ k, k < w3.heap.size → k ≠ w.heap.size + 2 → k ≠ w.heap.size + 3 → A.heap[k]? = w3.heap[k]? := fun k hk hne hne2 => (hA.block k (by omega) (by rintro (e | e | e) <;> omega)).trans (hb.block k hk)
      have hBA : Below w.heap.size w A := (hBw.trans (hb.mono (by omega))).trans (hA.below (by omega) (fun k hk e => by rcases e with e | e | e <;> omega))
      refine ⟨(hbA _ (by omega) (by omega) (by omega)).trans hpb, (hbA _ (heap_lt hP3.pile) ?_ ?_).trans hP3.pile, (hbA _ (heap_lt hP3.loss) ?_ ?_).trans hP3.loss, HA.out.mono hBA⟩
      · rintro rfl
        have := hP3.pile
        rw [r2] at this
        simp at this
      · rintro rfl
        have := hP3.pile
        rw [r3] at this
        simp at this
      · rintro rfl
        have := hP3.loss
        rw [r2] at this
        simp at this
      · rintro rfl
        have := hP3.loss
        rw [r3] at this
        simp at this
    case hI =>
      intro i A B C h hs
      exact ⟨h.1.stable hs (by omega) (by omega) (by omega) (fun k hk => h.2 k (by omega)), h.2⟩
    case hIx =>
      intro c i A B C h _
      exact h
    case hh0 =>
      intro W hb hsz
      obtain ⟨hP3, hpb, hBw, r1, r2, r3, r4⟩ := HP.out
      exact ⟨⟨Same.of_below _ hb, (hb.block _ (by omega)).trans r2, (hb.block _ (by omega)).trans r3⟩, fun k hk => hk⟩
    case hround =>
      rintro i v W C K hiN ⟨x, vc, hx, rfl, hvc, rfl⟩ hKC hC ⟨hcnt, hC0⟩ hlt
      have hxl := (ways_all (List.mem_of_getElem? hx)).1
      obtain ⟨gv, cv, rfl, hgv, hgl, _, _, hcells⟩ := own_cell hvc (by omega)
      have hkx : card < x.length := by omega
      have hcv : W.cell? ⟨gv, card, none⟩ = some (.int .i64 (gi x card)) := hcells card _ (by simp [gi, hkx])
      have hyr := ways_rng (List.mem_of_getElem? hx) _ (List.getElem_mem hkx)
      have e1 : gi x card = x[card] := by simp [gi, hkx]
      rw [← e1] at hyr
      have HH := Lib.hid (And.intro hC (And.intro hcnt (And.intro hlt (And.intro hcv (And.intro hgv (And.intro hgl hx))))))
      clear hx hvc hKC hC hcnt hlt hiN hC0 hz3 hpbz hpbl hcells hcv hgv hgl e1 hxl
      gi_wp2_with fail
      refine ⟨trivial, fun V2 hS2 hsz2 => ?_⟩
      obtain ⟨hC, hcnt, hlt, hcv, hgv, hgl, hx⟩ := HH.out
      obtain ⟨hP3, hpb, hBw, r1, r2, r3, r4⟩ := HP.out
      obtain ⟨hz3, hpbz, hpbl⟩ := HZ.out
      have hcnt2 := hcnt.stable (C := C) (lb := w3.heap.size + 1) (hS2.mono (fun _ _ e => .inr e)) (by omega) (by omega) (by omega) (fun k hk => hC k (by omega))
      have kc : V2.cell? ⟨w.heap.size + 1, 0, none⟩ = some (.int .i64 (card : Int)) := by rw [cell_of_heap ((hcnt2.same.block _ (by omega) (by omega)).trans r1)]; rfl
      have kx : V2.cell? ⟨gv, card, none⟩ = some (.int .i64 (gi x card)) := by
        have := hS2.block gv hgl (by omega)
        rw [← hcv]; simp [World.cell?, this]
      have ks : V2.cell? ⟨w.heap.size + 2, 0, none⟩ = some (.int .i64 (parS (parL p card i) : Nat)) := by rw [cell_of_heap hcnt2.cs]; rfl
      have ko : V2.cell? ⟨w.heap.size + 3, 0, none⟩ = some (.bool (parO (parL p card i))) := by rw [cell_of_heap hcnt2.co]; rfl
      have fo : V2.frozen? ⟨w.heap.size + 3, 0, none⟩ = false := frozen_of_heap hcnt2.co
      have HN : Hid (parL p card (i + 1) = parL p card i ++ [gi x card]) := parL_succ hx
      have HSL : Hid (parS (parL p card i) < 2 ^ 62) := Nat.lt_trans (parS_lt (parL_lt HV.out hc)) (by decide)
      have HH2 := Lib.hid (And.intro hC (And.intro hcnt2 (And.intro hlt hsz2)))
      have hxc : (card : Int) < (x.length : Int) := by omega
      clear hC hcnt hlt hcv hgv hgl hx hP3 hpb hBw r1 r2 r3 r4 hz3 hpbz hpbl hcnt2 hS2 hsz2 HH
      by_cases hf1 : gi x card = -1
      · have hb1 : (gi x card == -1) = true := by simp [hf1]
        have HF1 := Lib.hid hf1
        clear hf1 ks
        gi_wp2_with fail
        obtain ⟨hC, hcnt2, hlt, hsz2⟩ := HH2.out
        obtain ⟨hz3, hpbz, hpbl⟩ := HZ.out
        refine par_end (o' := parO (parL p card (i + 1))) (s' := parS (parL p card (i + 1))) hcnt2 (Below.refl _ _) rfl hC (by omega) (by omega) (.inr rfl) (by omega) ?_ ?_
        · rw [HN.out, parS_snoc, if_pos HF1.out]
          exact (Below.heap_setCell _ _ _ _ (by show w.heap.size + 2 ≠ w.heap.size + 3; omega)).trans hcnt2.cs
        · rw [HN.out, parO_snoc, HF1.out]
          simpa using heap_setCell_at (k := 0) hcnt2.co (.bool true)
      · have hb1 : (gi x card == -1) = false := by simpa using hf1
        obtain ⟨f, hf⟩ := Int.eq_ofNat_of_zero_le (show 0 ≤ gi x card by omega)
        have hf5 : f ≤ 5 := by omega
        have HF1 := Lib.hid (And.intro hf1 hf)
        rw [hf] at hb1 kx
        have HSS := Lib.hid ks
        clear hf1 hf ks hyr
        gi_wp2_with fail
        refine par7 (bs := w.heap.size + 2) (f := f) (z := 2 ^ f) (s := parS (parL p card i)) (S0 := fun w' => Below V2.heap.size V2 w' ∧ w'.heap.size = V2.heap.size) (S1 := fun w' => ∃ V, (Below V2.heap.size V2 V ∧ V.heap.size = V2.heap.size) ∧ w' = V.setCell ⟨w.heap.size + 2, 0, none⟩ (.int .i64 (parS (parL p card i) ||| 2 ^ f : Nat))) hf5 (two_wrap hf5) (or_i64 _ _ HSL.out (Nat.pow_lt_pow_right (by decide) (by omega))) ?a0 ?a1 ?a2 ?a3
        case a0 => exact ⟨(Below.refl _ _).drew, rfl⟩
        case a1 => exact fun w' h => cell_stays h.1 HSS.out
        case a2 =>
          intro w' h
          obtain ⟨hC, hcnt2, hlt, hsz2⟩ := HH2.out
          exact ⟨⟨_, cell_stays h.1 HSS.out⟩, frozen_of_heap ((h.1.block _ (heap_lt hcnt2.cs)).trans hcnt2.cs), w', h, rfl⟩
        case a3 =>
          rintro w' ⟨V, ⟨hBV, hVz⟩, rfl⟩
          have HBV := Lib.hid (And.intro hBV hVz)
          clear hBV hVz
          gi_wp2_with fail
          obtain ⟨hC, hcnt2, hlt, hsz2⟩ := HH2.out
          obtain ⟨hz3, hpbz, hpbl⟩ := HZ.out
          refine par_end (o' := parO (parL p card (i + 1))) (s' := parS (parL p card (i + 1))) hcnt2 HBV.out.1 HBV.out.2 hC (by omega) (by omega) (.inl rfl) (by omega) ?_ ?_
          · rw [HN.out, parS_snoc, if_neg HF1.out.1, HF1.out.2, Int.toNat_natCast]
            exact heap_setCell_at (k := 0) ((HBV.out.1.block _ (heap_lt hcnt2.cs)).trans hcnt2.cs) _
          · rw [HN.out, parO_snoc]
            have : decide (gi x card = -1) = false := by simpa using HF1.out.1
            rw [this, Bool.or_false]
            exact (Below.heap_setCell _ _ _ _ (by show w.heap.size + 3 ≠ w.heap.size + 2; omega)).trans ((HBV.out.1.block _ (heap_lt hcnt2.co)).trans hcnt2.co)
    case hdone =>
      rintro W C ⟨hI, hC⟩ hdef
      have HI := Lib.hid (And.intro hI hdef)
      clear hI hdef hz3 hpbz hpbl
      go_wp2_with fail
      refine wpIn_wide.1 (par8 (bs := w.heap.size + 2) (bo := w.heap.size + 3) (be := w.heap.size + 4) (s := parS (parL p card (waysL p).length)) (o := parO (parL p card (waysL p).length))
        (S0 := fun w' => Below W.heap.size W w') (S1 := fun w' => Same (fun k => k = w.heap.size + 2) W w' ∧ w'.heap[w.heap.size + 2]? = some (.cells #[.int .i64 (parS (parL p card (waysL p).length) : Nat)] 3 (0, 0)))
        (S2 := fun w' => Same (fun k => k = w.heap.size + 2 ∨ k = w.heap.size + 3) W w' ∧ w'.heap[w.heap.size + 2]? = some (.cells #[.int .i64 (parS (parL p card (waysL p).length) : Nat)] 3 (0, 0)) ∧ w'.heap[w.heap.size + 3]? = some (.cells #[.bool (parO (parL p card (waysL p).length))] 4 (0, 0)))
        (S3 := fun w' => Same (fun k => k = w.heap.size + 2 ∨ k = w.heap.size + 3 ∨ k = w.heap.size + 4) W w' ∧ w'.heap[w.heap.size + 2]? = some (.cells #[.int .i64 (parS (parL p card (waysL p).length) : Nat)] 3 (0, 0)) ∧ w'.heap[w.heap.size + 3]? = some (.cells #[.bool (parO (parL p card (waysL p).length))] 4 (0, 0)) ∧ w'.heap[w.heap.size + 4]? = some (.cells #[.int .i64 0] 29 (0, 0))) ?b0 ?b1 ?b2 ?b3 ?b4 ?b5 ?b6)
      case b0 => exact (Below.refl _ W).drew
      case b1 => exact fun w' h => by rw [cell_of_heap ((h.block _ (heap_lt HI.out.1.cs)).trans HI.out.1.cs)]; rfl
      case b2 =>
        intro w' h
        rcases h with h | h
        · rw [cell_of_heap ((h.block _ (heap_lt HI.out.1.co)).trans HI.out.1.co)]; rfl
        · rw [cell_of_heap ((h.1.block _ (heap_lt HI.out.1.co) (by omega)).trans HI.out.1.co)]; rfl
      case b3 =>
        intro w' h
        have e := (h.block _ (heap_lt HI.out.1.cs)).trans HI.out.1.cs
        exact ⟨⟨_, by rw [cell_of_heap e]; rfl⟩, frozen_of_heap e, (Same.of_below (fun k => k = w.heap.size + 2) h).setCell (p := ⟨w.heap.size + 2, 0, none⟩) (.inl rfl) _, heap_setCell_at (k := 0) e _⟩
      case b4 =>
        intro w' h
        have e := (h.1.block _ (heap_lt HI.out.1.co) (by omega)).trans HI.out.1.co
        exact ⟨⟨_, by rw [cell_of_heap e]; rfl⟩, frozen_of_heap e, (h.1.mono (fun _ _ e => .inl e)).setCell (.inl (.inr rfl)) _, (Below.heap_setCell _ _ _ _ (by show w.heap.size + 2 ≠ w.heap.size + 3; omega)).trans h.2, heap_setCell_at (k := 0) e _⟩
      case b5 =>
        intro w' h
        obtain ⟨hP3, hpb, hBw, r1, r2, r3, r4⟩ := HP.out
        obtain ⟨hz3, hpbz, hpbl⟩ := HZ.out
        have e0 := (HI.out.1.same.block (w.heap.size + 4) (by omega) (by omega)).trans r4
        have e := (h.1.block _ (heap_lt e0) (by omega)).trans e0
        exact ⟨⟨_, by rw [cell_of_heap e]; rfl⟩, frozen_of_heap e, (h.1.mono (fun _ _ e => by rcases e with e | e; exact .inl e; exact .inr (.inl e))).setCell (.inl (.inr (.inr rfl))) _, (Below.heap_setCell _ _ _ _ (by show w.heap.size + 2 ≠ w.heap.size + 4; omega)).trans h.2.1, (Below.heap_setCell _ _ _ _ (by show w.heap.size + 3 ≠ w.heap.size + 4; omega)).trans h.2.2, heap_setCell_at (k := 0) e _⟩
      case b6 =>
        rintro X ⟨hX, e2, e3, e4⟩
        have HX := Lib.hid (And.intro hX (And.intro e2 (And.intro e3 e4)))
        clear hX e2 e3 e4
        go_wp2_with fail
        obtain ⟨hX, e2, e3, e4⟩ := HX.out
        obtain ⟨hP3, hpb, hBw, r1, r2, r3, r4⟩ := HP.out
        obtain ⟨hz3, hpbz, hpbl⟩ := HZ.out
        have hWz := HI.out.1.same.size
        have hdl := heap_lt HI.out.2
        have e5 : X.heap[w3.heap.size]? = some (.deferred (some [])) := (hX.block _ hdl (by omega)).trans HI.out.2
        have hBX : Below w.heap.size w X := (hBw.trans (HI.out.1.same.below (by omega) (fun k hk e => by omega))).trans (hX.below (by omega) (fun k hk e => by omega))
        have hput : Below w.heap.size w (X.putObj w3.heap.size (.deferred none)) :=
          (((Same.of_below (fun q => w.heap.size ≤ q) hBX).putObj (.inl (by omega)) _).below (Nat.le_refl _) (fun q hq h => by omega))
        have g2 : (X.putObj w3.heap.size (.deferred none)).heap[w.heap.size + 2]? = _ := (World.putObj_heap_other (by omega)).trans e2
        have g3 : (X.putObj w3.heap.size (.deferred none)).heap[w.heap.size + 3]? = _ := (World.putObj_heap_other (by omega)).trans e3
        have g4 : (X.putObj w3.heap.size (.deferred none)).heap[w.heap.size + 4]? = _ := (World.putObj_heap_other (by omega)).trans e4
        exact ⟨[w3.heap.size], _, rfl, by simp, _, run_takeDeferred e5, leaves_ok (recov80_ok _ _) HC.out (res_ccc rfl _ rfl rfl rfl (x := .int .i64 (parS (parL p card (waysL p).length) : Nat)) (z := .bool (parO (parL p card (waysL p).length))) (y := .int .i64 0) (by rw [cell_of_heap g2]; rfl) (by rw [cell_of_heap g3]; rfl) (by rw [cell_of_heap g4]; rfl)) ⟨rfl, hput⟩⟩
    case hstop =>
      intro c i W C _ h
      exact h.elim
theorem parentsE_yes {p : Prs} (hv : p.valid = true) {card : Nat} (hc : card < p.cards.length) : parentsE p card = ((parS (parL p card (waysL p).length) : Int), parO (parL p card (waysL p).length), 0) := by
  have hcard : p.card (card : Int) = true := by unfold Prs.card inR; simp; omega
  have hE : openE p (p.card (card : Int)) = 0 := by unfold openE; rw [hv, hcard]; rfl
  unfold parentsE parL
  rw [hE, if_pos rfl, List.take_length]
  rfl
theorem parents_any {p : Prs} {a : Option Addr} {cap : Nat} {w : World} (ha : IsPrts w a p.cards) (hn : p.cards.length ≤ 16) (card : Int) :
    Calls Try.prog 33 #[p.v a cap, .int .i64 card] w fun e w' => e = .returned (.tuple #[.int .i64 (parentsE p card).1, .bool (parentsE p card).2.1, .int .i64 (parentsE p card).2.2]) ∧ Below w.heap.size w w' := by
  by_cases hE : openE p (p.card card) = 0
  · have hv : p.valid = true := by
      unfold openE at hE
      cases h : p.valid
      · rw [h] at hE; simp at hE
      · rfl
    have hc : p.card card = true := by
      unfold openE at hE
      cases h : p.card card
      · rw [hv, h] at hE; simp at hE
      · rfl
    obtain ⟨k, rfl, hk⟩ := card_nat hc
    rw [parentsE_yes hv hk]
    exact parents_yes ha hn hv hk
  · have : parentsE p card = (0, false, openE p (p.card card)) := by unfold parentsE; rw [if_neg hE]
    rw [this]
    exact parents_no ha hn card hE
end Go.Proofs.Ytnfhlbmapfoifaa
