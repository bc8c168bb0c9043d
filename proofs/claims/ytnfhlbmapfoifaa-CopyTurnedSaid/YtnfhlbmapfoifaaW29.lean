/- All orders. -/
import Derived.Test.YtnfhlbmapfoifaaW27
import Derived.Test.YtnfhlbmapfoifaaW18
namespace Go.Proofs.Ytnfhlbmapfoifaa
open Go.RowKit
set_option linter.unusedVariables false

theorem onO_len {p : Prs} (hn : p.cards.length ≤ 5) : ∀ (d : Nat) (pre : List Int), (onO p d pre).length ≤ 6 ^ d
  | 0, pre => by
    rw [onO_zero]
    split <;> simp
  | d + 1, pre => by
    rw [onO_succ]
    have h1 := flat_len (oF p d pre) (6 ^ d) (List.range p.cards.length) (fun x _ => by
      unfold oF
      split
      · simp
      · exact onO_len hn d _)
    have h2 : (List.range p.cards.length).length ≤ 6 := by simp; omega
    have h3 := Nat.mul_le_mul_right (6 ^ d) h2
    rw [Nat.pow_succ]
    omega
theorem orders_len {p : Prs} (hv : p.valid = true) : (ordersL p).length ≤ 1000000 := by
  have hn := (valid_parts hv).1
  have h1 := onO_len hn p.cards.length []
  have h2 := Nat.pow_le_pow_right (n := 6) (by decide) hn
  unfold ordersL
  have : (6 ^ 5 : Nat) = 7776 := by decide
  omega
/-- Lists that lie in memory of their own. -/
def RowsAt (w : World) (B : Nat) (v : Value) (l : List (List Int)) : Prop := ∃ vs, w.ownsRow B 42 1 v l.length vs ∧ RowsOf w B vs l
theorem RowsAt.below {w w' : World} {B : Nat} {v : Value} {l : List (List Int)} (h : RowsAt w B v l) (hb : Below w.heap.size w w') : RowsAt w' B v l := by
  obtain ⟨vs, h1, h2⟩ := h
  exact ⟨vs, own_below h1 hb, h2.blocks (fun vc hvc g hg => hb.block _ (rows_lt h2 hvc hg).2)⟩
theorem RowsAt.base {w : World} {B B' : Nat} {v : Value} {l : List (List Int)} (h : RowsAt w B v l) (hB : B' ≤ B) : RowsAt w B' v l := by
  obtain ⟨vs, h1, h2⟩ := h
  exact ⟨vs, own_base h1 hB, h2.1, fun i x hx => by
    obtain ⟨vc, e1, e2⟩ := h2.2 i x hx
    exact ⟨vc, e1, own_base e2 hB⟩⟩
theorem RowsAt.blocks {w w' : World} {B : Nat} {v : Value} {l : List (List Int)} (h : RowsAt w B v l) (hb : ∀ k, B ≤ k → w'.heap[k]? = w.heap[k]?) : RowsAt w' B v l := by
  obtain ⟨vs, h1, h2⟩ := h
  exact ⟨vs, own_blocks h1 (fun g hg => hb g (h1.lt g hg).1), h2.blocks (fun vc hvc g hg => hb g (rows_lt h2 hvc hg).1)⟩
theorem res_c32 {fn : Func} {p : Tmp} (h : fn.results = #[.cell p 32]) (tmps : Array Value) {w : World} {a : Nat} {x : Value} (hp : tmps.getD p undef = .pointer (some ⟨a, 0, none⟩)) (hx : w.cell? ⟨a, 0, none⟩ = some x) :
    (results fn tmps).run Try.prog w = .ok x w := by
  have hp' : tmps[p]?.getD undef = .pointer (some ⟨a, 0, none⟩) := by simpa using hp
  simp [results, h, hp', hx, go_sem]
theorem ordersE_no {p : Prs} (h : p.valid = false) : ordersE p = 1 := by unfold ordersE; rw [h]; rfl
theorem ordersE_none {p : Prs} (h : p.valid = true) (h2 : ordersL p = []) : ordersE p = 4 := by unfold ordersE; rw [h, h2]; rfl
theorem ordersE_ok {p : Prs} (h : p.valid = true) (h2 : ordersL p ≠ []) : ordersE p = 0 := by
  unfold ordersE
  rw [h]
  cases e : ordersL p with
  | nil => exact absurd e h2
  | cons x r => rfl
set_option maxRecDepth 100000 in
set_option maxHeartbeats 4000000 in
theorem orders63 {p : Prs} {a : Option Addr} {cap : Nat} {w : World} (ha : IsPrts w a p.cards) (hn : p.cards.length ≤ 16) :
    Calls Try.prog 63 #[p.v a cap] w fun e w' => ((ordersE p = 0 ∧ ∃ v, e = .returned v ∧ RowsAt w' w.heap.size v (ordersL p)) ∨ (ordersE p ≠ 0 ∧ e = .panicked [{ v := .iface 115 (.agg #[.int .i64 (ordersE p)]), recovered := false }])) ∧ Below w.heap.size w w' := by
  have hmf : ∀ (fn : Fn) (first cap : Array Value) (w : World), (Instr.makeFunc fn first cap).run Try.prog w = .ok (.func fn first cap) w := fun _ _ _ _ => rfl
  obtain ⟨W1, hW1⟩ : ∃ W1 : World, W1 = (w.alloc (.cells (p.cells a cap) 26)).alloc (.cells #[.slice none 0 0] 32) := ⟨_, rfl⟩
  have hb1 : Below w.heap.size w W1 := by rw [hW1]; exact ((Below.refl _ w).alloc (Nat.le_refl _) _).alloc (by simp) _
  have hz1 : W1.heap.size = w.heap.size + 2 := by rw [hW1]; simp
  have q1 : W1.heap[w.heap.size]? = some (.cells (p.cells a cap) 26 (0, 0)) := by
    rw [hW1]
    exact (Below.heap_alloc _ _ _ (by simp)).trans (World.alloc_heap_new w _)
  have q2 : W1.heap[w.heap.size + 1]? = some (.cells #[.slice none 0 0] 32 (0, 0)) := by
    rw [hW1]
    have := World.alloc_heap_new (w.alloc (.cells (p.cells a cap) 26)) (.cells #[.slice none 0 0] 32)
    rw [World.size_alloc] at this
    exact this
  have ha1 := ha.mono hb1
  have H1 := Lib.hid (And.intro hW1 (And.intro hb1 (And.intro hz1 (And.intro ha1 q2))))
  obtain ⟨k0, k1, k2, k3, k4⟩ := prs_cells q1
  have HA := Lib.hid ha
  clear hW1 hb1 hz1 q1 q2 ha ha1
  go_enter Try.func63, Try.ntmps63
  go_upto_region 1 with fail
  have hW1 := H1.out.1
  rw [← hW1]
  clear hW1
  cases hv : p.valid with
  | false =>
    have HE : Hid (ordersE p = 1) := ordersE_no hv
    have HO : Hid (openE p true = 1) := by unfold Hid openE; rw [hv]; rfl
    clear hv
    go_wp2_with fail
    refine (open_no H1.out.2.2.2.1 hn true (by rw [HO.out]; decide)).mono ?_
    rintro e w2 ⟨rfl, hb2⟩
    rw [HO.out]
    have HB2 := Lib.hid hb2
    clear hb2
    go_wp2_with fail
    rw [HE.out]
    exact ⟨rfl, .inr ⟨by decide, rfl⟩, bst H1.out.2.1 HB2.out (Nat.le_refl _)⟩
  | true =>
    have HV := Lib.hid hv
    clear hv
    go_wp2_with fail
    refine (open_yes H1.out.2.2.2.1 hn HV.out).mono ?_
    rintro e w2 ⟨bp, g, rfl, hbp, hP, hb2⟩
    clear k0 k1 k2 k3 k4
    have hz2 : w.heap.size + 2 ≤ w2.heap.size := by have := hb2.size; have := H1.out.2.2.1; omega
    have HP := Lib.hid (And.intro hP (And.intro hb2 hz2))
    clear hP hb2 hz2 hbp
    go_wp2_with fail
    obtain ⟨W2, hW2⟩ : ∃ W2 : World, W2 = ((w2.alloc (.cells #[.pointer (some ⟨bp, 0, none⟩)] 79)).alloc (.cells #[selfO w2.heap.size (w.heap.size + 1) (w2.heap.size + 1)] 127)) := ⟨_, rfl⟩
    have hb3 : Below w2.heap.size w2 W2 := by rw [hW2]; exact ((Below.refl _ w2).alloc (Nat.le_refl _) _).alloc (by simp) _
    have hz3 : W2.heap.size = w2.heap.size + 2 := by rw [hW2]; simp
    have q3 : W2.heap[w2.heap.size]? = some (.cells #[.pointer (some ⟨bp, 0, none⟩)] 79 (0, 0)) := by
      rw [hW2]
      exact (Below.heap_alloc _ _ _ (by simp)).trans (World.alloc_heap_new w2 _)
    have q4 : W2.heap[w2.heap.size + 1]? = some (.cells #[selfO w2.heap.size (w.heap.size + 1) (w2.heap.size + 1)] 127 (0, 0)) := by
      rw [hW2]
      have := World.alloc_heap_new (w2.alloc (.cells #[.pointer (some ⟨bp, 0, none⟩)] 79)) (.cells #[selfO w2.heap.size (w.heap.size + 1) (w2.heap.size + 1)] 127)
      rw [World.size_alloc] at this
      exact this
    rw [← hW2]
    clear hW2
    obtain ⟨_, hB1, hz1, ha1, q2⟩ := H1.out
    obtain ⟨hP, hb2, hz2⟩ := HP.out
    have hB3 : Below w.heap.size w W2 := bst (bst hB1 hb2 (Nat.le_refl _)) hb3 (Nat.le_refl _)
    have q2' : W2.heap[w.heap.size + 1]? = some (.cells #[.slice none 0 0] 32 (0, 0)) := (hb3.block _ (by omega)).trans ((hb2.block _ (by omega)).trans q2)
    have hP3 := hP.mono hb3
    have hH : OrH p a cap bp g w2.heap.size (w.heap.size + 1) (w2.heap.size + 1) W2 := by
      refine ⟨HV.out, fun A hA => ?_⟩
      have hBA : Below w.heap.size w A := hB3.trans (hA.below (by omega) (fun k hk e => by omega))
      have hk : ∀ k, k < W2.heap.size → k ≠ w.heap.size + 1 → A.heap[k]? = W2.heap[k]? := fun k hk hne => hA.block k hk hne
      refine ⟨(hk _ (by omega) (by omega)).trans q3, ⟨(hk _ (heap_lt hP3.pile) ?_).trans hP3.pile, (hk _ (heap_lt hP3.loss) ?_).trans hP3.loss, HA.out.mono hBA⟩, (hk _ (by omega) (by omega)).trans q4⟩
      · rintro rfl
        have := hP3.pile
        rw [q2'] at this
        simp at this
      · rintro rfl
        have := hP3.loss
        rw [q2'] at this
        simp at this
    have hC : OrC W2 (w.heap.size + 1) [] W2 (fun _ => False) := ⟨Same.refl _ _, by omega, ⟨_, [], q2', World.ownsRow_nil _ _ _ _, ⟨rfl, fun i x hx => by simp at hx⟩, (fun g hg => by cases hg), (fun c hc => by cases hc)⟩, fun k hk => hk.elim⟩
    have hlen := orders_len HV.out
    refine (or_any hH p.cards.length [] [] W2 (fun _ => False) (.slice none 0 0) (by simp) (fun x hx => by simp at hx) (by rw [List.length_nil, Nat.zero_add]; exact hlen) hC (World.ownsRow_nil _ _ _ _) (fun g hg => by cases hg)).mono ?_
    rintro e w3 ⟨rfl, C3, hC3, hsz3, _⟩
    rw [List.nil_append] at hC3
    change OrC W2 (w.heap.size + 1) (ordersL p) w3 C3 at hC3
    obtain ⟨hs3, hlt3, ⟨v, vs, h3, h4, h5, _, _⟩, _⟩ := hC3
    obtain ⟨ax, cx, rfl, hcx, _⟩ := own_slice h4
    have c3 : w3.cell? ⟨w.heap.size + 1, 0, none⟩ = some (.slice ax (ordersL p).length cx) := by rw [cell_of_heap h3]; rfl
    have f3 : w3.frozen? ⟨w.heap.size + 1, 0, none⟩ = false := frozen_of_heap h3
    have hB4 : Below w.heap.size w w3 := hB3.trans (hs3.below (by omega) (fun k hk e => by omega))
    have HR : Hid (RowsAt w3 W2.heap.size (.slice ax (ordersL p).length cx) (ordersL p)) := ⟨vs, h4, h5⟩
    have HF := Lib.hid (And.intro h3 (And.intro hB4 (And.intro hz3 (And.intro hz2 hlt3))))
    have HL := Lib.hid hlen
    clear hs3 hlt3 h3 h4 h5 hB4 hH hC hP3 q2' hB3 hP hb2 hz2 hB1 hz1 ha1 q2 q3 q4 hb3 hz3 hsz3 hlen hcx
    have hN0 : (0 : Int) ≤ (ordersL p).length := by omega
    by_cases h0 : ordersL p = []
    · have HE : Hid (ordersE p = 4) := ordersE_none HV.out h0
      have hn0 : ((ordersL p).length : Int) = 0 := by rw [h0]; rfl
      clear h0 hN0
      go_wp2_with fail
      refine (need_no _ _).mono ?_
      rintro e w' ⟨rfl, rfl⟩
      go_wp2_with fail
      rw [HE.out]
      exact ⟨rfl, .inr ⟨by decide, rfl⟩, HF.out.2.1⟩
    · have HE : Hid (ordersE p = 0) := ordersE_ok HV.out h0
      have hn0 : 0 < (ordersL p).length := List.length_pos_iff.2 h0
      clear h0 hN0
      go_wp2_with fail
      refine (need_yes _ _).mono ?_
      rintro e w' ⟨rfl, rfl⟩
      go_wp2_with fail
      obtain ⟨h3, hB4, hz3, hz2, hlt3⟩ := HF.out
      have e1 := heap_setCell_at (k := 0) h3 (.slice ax (ordersL p).length cx)
      refine bodyPost_ret (v := .slice ax (ordersL p).length cx) (res_c32 rfl _ rfl (by rw [cell_of_heap e1]; rfl)) rfl ⟨.inl ⟨HE.out, _, rfl, ?_⟩, hB4.setCell (by show w.heap.size ≤ w.heap.size + 1; omega) _⟩
      exact (HR.out.blocks (fun k hk => Below.heap_setCell _ _ _ _ (by show k ≠ w.heap.size + 1; omega))).base (by omega)
/-- What 'Orders' returns. -/
def OrdersOut (p : Prs) (B : Nat) (v : Value) (w : World) : Prop := (ordersE p = 0 → RowsAt w B v (ordersL p)) ∧ (ordersE p ≠ 0 → v = .slice none 0 0)
set_option maxRecDepth 100000 in
set_option maxHeartbeats 4000000 in
theorem orders17 {p : Prs} {a : Option Addr} {cap : Nat} {w : World} (ha : IsPrts w a p.cards) (hn : p.cards.length ≤ 16) :
    Calls Try.prog 17 #[p.v a cap] w fun e w' => ∃ v, e = .returned (.tuple #[v, .int .i64 (ordersE p)]) ∧ OrdersOut p w.heap.size v w' ∧ Below w.heap.size w w' := by
  have hmf : ∀ (fn : Fn) (first cap : Array Value) (w : World), (Instr.makeFunc fn first cap).run Try.prog w = .ok (.func fn first cap) w := fun _ _ _ _ => rfl
  have cf : ∀ (args : Array Value) (w : World), (callFunc 62 args).run Try.prog w = .ok (.enter 62 args) w := cf62
  have HC62 := Lib.hid cf
  clear cf
  refine calls_of_wp_x Try.func17 rfl ?_
  simp only [Try.ntmps17, List.size_toArray, List.length_cons, List.length_nil, Nat.reduceAdd, Nat.reduceSub, Array.replicate_succ, Array.replicate_zero, List.push_toArray, List.append_toArray, List.nil_append, List.cons_append]
  go_wp2_with fail
  obtain ⟨W1, hW1⟩ : ∃ W1 : World, W1 = (w.alloc (.cells (p.cells a cap) 26)).alloc (.cells #[.int .i64 0] 29) := ⟨_, rfl⟩
  have hb1 : Below w.heap.size w W1 := by rw [hW1]; exact ((Below.refl _ w).alloc (Nat.le_refl _) _).alloc (by simp) _
  have hz1 : W1.heap.size = w.heap.size + 2 := by rw [hW1]; simp
  have q2 : W1.heap[w.heap.size + 1]? = some (.cells #[.int .i64 0] 29 (0, 0)) := by
    rw [hW1]
    have := World.alloc_heap_new (w.alloc (.cells (p.cells a cap) 26)) (.cells #[.int .i64 0] 29)
    rw [World.size_alloc] at this
    exact this
  have ha1 := ha.mono hb1
  rw [← hW1]
  clear hW1 ha
  refine (orders63 ha1 hn).mono ?_
  rintro e w2 ⟨h2, hb2⟩
  have he2 := (hb2.block (w.heap.size + 1) (by omega)).trans q2
  have hc2 : w2.cell? ⟨w.heap.size + 1, 0, none⟩ = some (.int .i64 0) := by rw [cell_of_heap he2]; rfl
  have hf2 : w2.frozen? ⟨w.heap.size + 1, 0, none⟩ = false := frozen_of_heap he2
  have hB2 := hb1.trans (hb2.mono (by omega))
  have hz2 := hb2.size
  rcases h2 with ⟨hE, v, rfl, hR⟩ | ⟨hE, rfl⟩
  · obtain ⟨vs, hr1, hr2⟩ := hR
    obtain ⟨av, cv, rfl, _⟩ := own_slice hr1
    have HR : Hid (RowsAt w2 W1.heap.size (.slice av (ordersL p).length cv) (ordersL p)) := ⟨vs, hr1, hr2⟩
    have HF := Lib.hid (And.intro he2 (And.intro hB2 (And.intro hz1 (And.intro hz2 hE))))
    clear hr1 hr2 he2 hB2 hz1 hz2 hE hb2 q2 hb1 ha1
    go_wp2_with fail
    obtain ⟨he2, hB2, hz1, hz2, hE⟩ := HF.out
    have e1 := heap_setCell_at (k := 0) he2 (.int .i64 0)
    refine ⟨[], _, rfl, leaves_ok (recov62_ok _ _) HC62.out (res_tc rfl _ rfl (x := .int .i64 0) (by rw [cell_of_heap e1]; rfl)) ⟨.slice av (ordersL p).length cv, ?_, ⟨fun _ => ?_, fun h => (h hE).elim⟩, hB2.setCell (by show w.heap.size ≤ w.heap.size + 1; omega) _⟩⟩
    · rw [hE]; rfl
    · exact (HR.out.blocks (fun k hk => Below.heap_setCell _ _ _ _ (by show k ≠ w.heap.size + 1; omega))).base (by omega)
  · have hb3 : Below w.heap.size w ((w2.alloc (.cells #[.int .i64 (ordersE p)] 115)).setCell ⟨w.heap.size + 1, 0, none⟩ (.int .i64 (ordersE p))) :=
      (hB2.alloc hB2.size _).setCell (by simp) _
    have hcell := World.cell?_setCell_same (w2.alloc (.cells #[.int .i64 (ordersE p)] 115)) ⟨w.heap.size + 1, 0, none⟩ (.int .i64 (ordersE p)) (cell_stays ((Below.refl _ w2).alloc (Nat.le_refl _) _) hc2)
    exact ⟨[], _, rfl, leaves_no (recov62_no (ordersE p) hc2 hf2) rfl HC62.out (res_tc rfl _ rfl hcell) ⟨_, rfl, ⟨fun h => (hE h).elim, fun _ => rfl⟩, hb3⟩⟩
end Go.Proofs.Ytnfhlbmapfoifaa
