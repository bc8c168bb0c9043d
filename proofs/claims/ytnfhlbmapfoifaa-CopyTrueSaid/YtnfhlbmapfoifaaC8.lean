/- Fits, From: prints that are not valid, cards that are none. From. Which orders are left: one more, whether one is, how many. Which orders are left: one more; how many. -/
import Derived.Test.YtnfhlbmapfoifaaC7
namespace Go.Proofs.Ytnfhlbmapfoifaa
open Go.RowKit
set_option linter.unusedVariables false
theorem heap2 (w : World) (a b : Obj) : let W := (w.alloc a).alloc b
    W.heap[w.heap.size]? = some a ∧ W.heap[w.heap.size + 1]? = some b ∧ W.heap.size = w.heap.size + 2 ∧ Below w.heap.size w W := by
  have q0 := World.alloc_heap_new w a
  have q1 := World.alloc_heap_new (w.alloc a) b
  simp only [World.size_alloc] at q1
  exact ⟨(Below.heap_alloc _ _ _ (by simp)).trans q0, q1, by simp, ((Below.refl _ w).alloc (Nat.le_refl _) _).alloc (by simp) _⟩
theorem ints_two {w : World} (x y : Int) {g : Nat} (h : w.heap[g]? = some (.cells #[.int .i64 x, .int .i64 y] 3 (0, 0))) : IsInts w (some ⟨g, 0, none⟩) [x, y] := fun i hi => by
  have : i = 0 ∨ i = 1 := by simp at hi; omega
  rcases this with rfl | rfl
  · exact ⟨g, 0, rfl, by rw [cell_of_heap h]; rfl⟩
  · exact ⟨g, 0, rfl, by rw [cell_of_heap h]; rfl⟩
set_option maxRecDepth 100000 in
set_option maxHeartbeats 4000000 in
theorem fits_no {p : Prs} {a : Option Addr} {cap : Nat} {w : World} (ha : IsPrts w a p.cards) (hn : p.cards.length ≤ 16) (card frm : Int) (hE : openE p (p.card card && p.card frm && !decide (card = frm)) ≠ 0) :
    Calls Try.prog 34 #[p.v a cap, .int .i64 card, .int .i64 frm] w fun e w' => e = .returned (.tuple #[.bool false, .int .i64 (openE p (p.card card && p.card frm && !decide (card = frm)))]) ∧ Below w.heap.size w w' := by
  have hmf : ∀ (fn : Fn) (first cap : Array Value) (w : World), (Instr.makeFunc fn first cap).run Try.prog w = .ok (.func fn first cap) w := fun _ _ _ _ => rfl
  have HC := Lib.hid cf81
  have HE := Lib.hid hE
  clear hE
  refine calls_of_wp_x Try.func34 rfl ?_
  simp only [Try.ntmps34, List.size_toArray, List.length_cons, List.length_nil, Nat.reduceAdd, Nat.reduceSub, Array.replicate_succ, Array.replicate_zero, List.push_toArray, List.append_toArray, List.nil_append, List.cons_append]
  go_wp2_with fail
  obtain ⟨q0, q1, hz, hb⟩ := heap2 w (.cells (p.cells a cap) 26) (.cells #[.int .i64 0] 29)
  revert q0 q1 hz hb
  generalize ((w.alloc (.cells (p.cells a cap) 26)).alloc (.cells #[.int .i64 0] 29)) = W1
  intro q0 q1 hz hb
  have ha1 := ha.mono hb
  have kp := prs_cells q0
  have HR : ∀ (er : Int) (fr : Act) (w2 : World), er = openE p (p.card card && p.card frm && !decide (card = frm)) → Below W1.heap.size W1 w2 → fr.defers = [{ target := .fn (.func 81) #[.pointer (some ⟨w.heap.size + 1, 0, none⟩)], args := #[] }] → fr.tmps.getD 6 undef = .bool false → fr.tmps.getD 7 undef = .pointer (some ⟨w.heap.size + 1, 0, none⟩) →
      bodyPostX Try.prog Try.f34 (fun e w' => e = .returned (.tuple #[.bool false, .int .i64 (openE p (p.card card && p.card frm && !decide (card = frm)))]) ∧ Below w.heap.size w w') (.panic [{ v := .iface 115 (.agg #[.int .i64 er]), recovered := false }]) fr w2 := by
    rintro er ⟨tm, df⟩ w2 rfl hb2 rfl ht6 ht7
    have he2 := (hb2.block (w.heap.size + 1) (by omega)).trans q1
    have hc2 : w2.cell? ⟨w.heap.size + 1, 0, none⟩ = some (.int .i64 0) := by rw [cell_of_heap he2]; rfl
    have hB2 : Below w.heap.size w w2 := hb.trans (hb2.mono hb.size)
    have hz2 := hb2.size
    have hb3 : Below w.heap.size w ((w2.alloc (.cells #[.int .i64 (openE p (p.card card && p.card frm && !decide (card = frm)))] 115)).setCell ⟨w.heap.size + 1, 0, none⟩ (.int .i64 (openE p (p.card card && p.card frm && !decide (card = frm))))) :=
      (hB2.alloc hB2.size _).setCell (by simp) _
    have hcell := World.cell?_setCell_same (w2.alloc (.cells #[.int .i64 (openE p (p.card card && p.card frm && !decide (card = frm)))] 115)) ⟨w.heap.size + 1, 0, none⟩ (.int .i64 (openE p (p.card card && p.card frm && !decide (card = frm)))) (cell_stays ((Below.refl _ w2).alloc (Nat.le_refl _) _) hc2)
    refine ⟨[], _, rfl, leaves_no (recov81_no _ hc2 (frozen_of_heap he2)) rfl HC.out (res_tc rfl _ ht7 hcell) ⟨?_, hb3⟩⟩
    rw [ht6]
  have kp' : ∀ w', Below W1.heap.size W1 w' → w'.cell? ⟨w.heap.size, 0, none⟩ = some (.slice a p.cards.length cap) ∧ w'.cell? ⟨w.heap.size, 1, none⟩ = some (.int .i64 p.llo) ∧ w'.cell? ⟨w.heap.size, 2, none⟩ = some (.int .i64 p.lhi) ∧ w'.cell? ⟨w.heap.size, 3, none⟩ = some (.int .i64 p.olo) ∧ w'.cell? ⟨w.heap.size, 4, none⟩ = some (.int .i64 p.ohi) := fun w' hb' => by
    obtain ⟨k0, k1, k2, k3, k4⟩ := kp
    exact ⟨cell_stays hb' k0, cell_stays hb' k1, cell_stays hb' k2, cell_stays hb' k3, cell_stays hb' k4⟩
  have hcall : ∀ V, Below W1.heap.size W1 V → Calls Try.prog 52 #[p.v a cap, .slice (some ⟨V.heap.size, 0, none⟩) 2 2] (V.alloc (.cells #[.int .i64 card, .int .i64 frm] 3)) fun e w' => e = .returned (.bool (p.card card && p.card frm)) ∧ Below W1.heap.size W1 w' := fun V h => by
    have hb' := h.alloc h.size (.cells #[.int .i64 card, .int .i64 frm] 3)
    refine (isCard_any (p := p) (a := a) (cap := cap) (l := [card, frm]) (cl := 2) hn (by simp) (ints_two _ _ (World.alloc_heap_new V _))).mono ?_
    rintro e w3 ⟨rfl, hb3⟩
    exact ⟨by simp, hb'.trans (hb3.mono hb'.size)⟩
  cases hcc : (p.card card && p.card frm) with
  | false =>
    have hO : openE p (p.card card && p.card frm && !decide (card = frm)) = openE p false := by rw [hcc]; rfl
    refine wpIn_wide.1 (fitC (p := p) (a := a) (cap := cap) (card := card) (frm := frm) (q := false) (er := openE p false) (S0 := fun w' => Below W1.heap.size W1 w') (S1 := fun xs w' => ∃ V, Below W1.heap.size W1 V ∧ w' = V.alloc (.cells #[.int .i64 card, .int .i64 frm] 3) ∧ xs = .slice (some ⟨V.heap.size, 0, none⟩) 2 2)
      (S2 := fun _ _ w' => Below W1.heap.size W1 w') (S3 := fun _ _ w' => Below W1.heap.size W1 w') ?h0 ?l0 ?l1 ?c4 ?c5 ?c11 ?hQ)
    case h0 => exact (Below.refl _ W1).drew
    case l0 =>
      intro xs u w' h
      rcases h with h | ⟨V, h, rfl, _⟩ | h
      · exact kp' _ h
      · exact kp' _ (h.alloc h.size _)
      · exact kp' _ h
    case l1 =>
      intro xs w' h
      rcases h with h | ⟨V, h, rfl, _⟩
      · exact kp' _ h
      · exact kp' _ (h.alloc h.size _)
    case c4 => exact fun w' h => ⟨w', h, rfl, rfl⟩
    case c5 =>
      rintro xs w' ⟨V, h, rfl, rfl⟩
      refine (hcall V h).mono ?_
      rintro e w3 ⟨rfl, hb3⟩
      exact ⟨(), by rw [hcc], hb3⟩
    case c11 =>
      rintro xs u w' h
      refine (open_no (ha1.mono h) hn false (by rw [← hO]; exact HE.out)).mono ?_
      rintro e w3 ⟨rfl, hb3⟩
      exact ⟨rfl, h.trans (hb3.mono h.size)⟩
    case hQ =>
      intros
      exact HR _ _ _ hO.symm (by assumption) rfl rfl rfl
  | true =>
    have hO : openE p (p.card card && p.card frm && !decide (card = frm)) = openE p (card != frm) := by
      rw [hcc, Bool.true_and]
      congr 1
    refine wpIn_wide.1 (fitB (p := p) (a := a) (cap := cap) (card := card) (frm := frm) (q := (card != frm)) (er := openE p (card != frm)) (S0 := fun w' => Below W1.heap.size W1 w') (S1 := fun xs w' => ∃ V, Below W1.heap.size W1 V ∧ w' = V.alloc (.cells #[.int .i64 card, .int .i64 frm] 3) ∧ xs = .slice (some ⟨V.heap.size, 0, none⟩) 2 2)
      (S2 := fun _ _ w' => Below W1.heap.size W1 w') (S3 := fun _ _ w' => Below W1.heap.size W1 w') rfl ?h0 ?l0 ?l1 ?c4 ?c5 ?c11 ?hQ)
    case h0 => exact (Below.refl _ W1).drew
    case l0 =>
      intro xs u w' h
      rcases h with h | ⟨V, h, rfl, _⟩ | h
      · exact kp' _ h
      · exact kp' _ (h.alloc h.size _)
      · exact kp' _ h
    case l1 =>
      intro xs w' h
      rcases h with h | ⟨V, h, rfl, _⟩
      · exact kp' _ h
      · exact kp' _ (h.alloc h.size _)
    case c4 => exact fun w' h => ⟨w', h, rfl, rfl⟩
    case c5 =>
      rintro xs w' ⟨V, h, rfl, rfl⟩
      refine (hcall V h).mono ?_
      rintro e w3 ⟨rfl, hb3⟩
      exact ⟨(), by rw [hcc], hb3⟩
    case c11 =>
      rintro xs u w' h
      refine (open_no (ha1.mono h) hn (card != frm) (by rw [← hO]; exact HE.out)).mono ?_
      rintro e w3 ⟨rfl, hb3⟩
      exact ⟨rfl, h.trans (hb3.mono h.size)⟩
    case hQ =>
      intros
      exact HR _ _ _ hO.symm (by assumption) rfl rfl rfl
set_option maxRecDepth 100000 in
set_option maxHeartbeats 4000000 in
theorem from_no {p : Prs} {a : Option Addr} {cap : Nat} {w : World} (ha : IsPrts w a p.cards) (hn : p.cards.length ≤ 16) (card frm : Int) (hE : openE p (p.card card && p.card frm && !decide (card = frm)) ≠ 0) :
    Calls Try.prog 15 #[p.v a cap, .int .i64 card, .int .i64 frm] w fun e w' => e = .returned (.tuple #[.int .i64 0, .int .i64 (openE p (p.card card && p.card frm && !decide (card = frm)))]) ∧ Below w.heap.size w w' := by
  have hmf : ∀ (fn : Fn) (first cap : Array Value) (w : World), (Instr.makeFunc fn first cap).run Try.prog w = .ok (.func fn first cap) w := fun _ _ _ _ => rfl
  have HC := Lib.hid cf48
  have HE := Lib.hid hE
  clear hE
  refine calls_of_wp_x Try.func15 rfl ?_
  simp only [Try.ntmps15, List.size_toArray, List.length_cons, List.length_nil, Nat.reduceAdd, Nat.reduceSub, Array.replicate_succ, Array.replicate_zero, List.push_toArray, List.append_toArray, List.nil_append, List.cons_append]
  go_wp2_with fail
  obtain ⟨q0, q1, hz, hb⟩ := heap2 w (.cells (p.cells a cap) 26) (.cells #[.int .i64 0] 29)
  revert q0 q1 hz hb
  generalize ((w.alloc (.cells (p.cells a cap) 26)).alloc (.cells #[.int .i64 0] 29)) = W1
  intro q0 q1 hz hb
  have ha1 := ha.mono hb
  have kp := prs_cells q0
  have HR : ∀ (er : Int) (fr : Act) (w2 : World), er = openE p (p.card card && p.card frm && !decide (card = frm)) → Below W1.heap.size W1 w2 → fr.defers = [{ target := .fn (.func 48) #[.pointer (some ⟨w.heap.size + 1, 0, none⟩)], args := #[] }] → fr.tmps.getD 6 undef = .int .i64 0 → fr.tmps.getD 7 undef = .pointer (some ⟨w.heap.size + 1, 0, none⟩) →
      bodyPostX Try.prog Try.f15 (fun e w' => e = .returned (.tuple #[.int .i64 0, .int .i64 (openE p (p.card card && p.card frm && !decide (card = frm)))]) ∧ Below w.heap.size w w') (.panic [{ v := .iface 115 (.agg #[.int .i64 er]), recovered := false }]) fr w2 := by
    rintro er ⟨tm, df⟩ w2 rfl hb2 rfl ht6 ht7
    have he2 := (hb2.block (w.heap.size + 1) (by omega)).trans q1
    have hc2 : w2.cell? ⟨w.heap.size + 1, 0, none⟩ = some (.int .i64 0) := by rw [cell_of_heap he2]; rfl
    have hB2 : Below w.heap.size w w2 := hb.trans (hb2.mono hb.size)
    have hz2 := hb2.size
    have hb3 : Below w.heap.size w ((w2.alloc (.cells #[.int .i64 (openE p (p.card card && p.card frm && !decide (card = frm)))] 115)).setCell ⟨w.heap.size + 1, 0, none⟩ (.int .i64 (openE p (p.card card && p.card frm && !decide (card = frm))))) :=
      (hB2.alloc hB2.size _).setCell (by simp) _
    have hcell := World.cell?_setCell_same (w2.alloc (.cells #[.int .i64 (openE p (p.card card && p.card frm && !decide (card = frm)))] 115)) ⟨w.heap.size + 1, 0, none⟩ (.int .i64 (openE p (p.card card && p.card frm && !decide (card = frm)))) (cell_stays ((Below.refl _ w2).alloc (Nat.le_refl _) _) hc2)
    refine ⟨[], _, rfl, leaves_no (recov48_no _ hc2 (frozen_of_heap he2)) rfl HC.out (res_tc rfl _ ht7 hcell) ⟨?_, hb3⟩⟩
    rw [ht6]
  have kp' : ∀ w', Below W1.heap.size W1 w' → w'.cell? ⟨w.heap.size, 0, none⟩ = some (.slice a p.cards.length cap) ∧ w'.cell? ⟨w.heap.size, 1, none⟩ = some (.int .i64 p.llo) ∧ w'.cell? ⟨w.heap.size, 2, none⟩ = some (.int .i64 p.lhi) ∧ w'.cell? ⟨w.heap.size, 3, none⟩ = some (.int .i64 p.olo) ∧ w'.cell? ⟨w.heap.size, 4, none⟩ = some (.int .i64 p.ohi) := fun w' hb' => by
    obtain ⟨k0, k1, k2, k3, k4⟩ := kp
    exact ⟨cell_stays hb' k0, cell_stays hb' k1, cell_stays hb' k2, cell_stays hb' k3, cell_stays hb' k4⟩
  have hcall : ∀ V, Below W1.heap.size W1 V → Calls Try.prog 52 #[p.v a cap, .slice (some ⟨V.heap.size, 0, none⟩) 2 2] (V.alloc (.cells #[.int .i64 card, .int .i64 frm] 3)) fun e w' => e = .returned (.bool (p.card card && p.card frm)) ∧ Below W1.heap.size W1 w' := fun V h => by
    have hb' := h.alloc h.size (.cells #[.int .i64 card, .int .i64 frm] 3)
    refine (isCard_any (p := p) (a := a) (cap := cap) (l := [card, frm]) (cl := 2) hn (by simp) (ints_two _ _ (World.alloc_heap_new V _))).mono ?_
    rintro e w3 ⟨rfl, hb3⟩
    exact ⟨by simp, hb'.trans (hb3.mono hb'.size)⟩
  cases hcc : (p.card card && p.card frm) with
  | false =>
    have hO : openE p (p.card card && p.card frm && !decide (card = frm)) = openE p false := by rw [hcc]; rfl
    refine wpIn_wide.1 (froC (p := p) (a := a) (cap := cap) (card := card) (frm := frm) (q := false) (er := openE p false) (S0 := fun w' => Below W1.heap.size W1 w') (S1 := fun xs w' => ∃ V, Below W1.heap.size W1 V ∧ w' = V.alloc (.cells #[.int .i64 card, .int .i64 frm] 3) ∧ xs = .slice (some ⟨V.heap.size, 0, none⟩) 2 2)
      (S2 := fun _ _ w' => Below W1.heap.size W1 w') (S3 := fun _ _ w' => Below W1.heap.size W1 w') ?h0 ?l0 ?l1 ?c4 ?c5 ?c11 ?hQ)
    case h0 => exact (Below.refl _ W1).drew
    case l0 =>
      intro xs u w' h
      rcases h with h | ⟨V, h, rfl, _⟩ | h
      · exact kp' _ h
      · exact kp' _ (h.alloc h.size _)
      · exact kp' _ h
    case l1 =>
      intro xs w' h
      rcases h with h | ⟨V, h, rfl, _⟩
      · exact kp' _ h
      · exact kp' _ (h.alloc h.size _)
    case c4 => exact fun w' h => ⟨w', h, rfl, rfl⟩
    case c5 =>
      rintro xs w' ⟨V, h, rfl, rfl⟩
      refine (hcall V h).mono ?_
      rintro e w3 ⟨rfl, hb3⟩
      exact ⟨(), by rw [hcc], hb3⟩
    case c11 =>
      rintro xs u w' h
      refine (open_no (ha1.mono h) hn false (by rw [← hO]; exact HE.out)).mono ?_
      rintro e w3 ⟨rfl, hb3⟩
      exact ⟨rfl, h.trans (hb3.mono h.size)⟩
    case hQ =>
      intros
      exact HR _ _ _ hO.symm (by assumption) rfl rfl rfl
  | true =>
    have hO : openE p (p.card card && p.card frm && !decide (card = frm)) = openE p (card != frm) := by
      rw [hcc, Bool.true_and]
      congr 1
    refine wpIn_wide.1 (froB (p := p) (a := a) (cap := cap) (card := card) (frm := frm) (q := (card != frm)) (er := openE p (card != frm)) (S0 := fun w' => Below W1.heap.size W1 w') (S1 := fun xs w' => ∃ V, Below W1.heap.size W1 V ∧ w' = V.alloc (.cells #[.int .i64 card, .int .i64 frm] 3) ∧ xs = .slice (some ⟨V.heap.size, 0, none⟩) 2 2)
      (S2 := fun _ _ w' => Below W1.heap.size W1 w') (S3 := fun _ _ w' => Below W1.heap.size W1 w') rfl ?h0 ?l0 ?l1 ?c4 ?c5 ?c11 ?hQ)
    case h0 => exact (Below.refl _ W1).drew
    case l0 =>
      intro xs u w' h
      rcases h with h | ⟨V, h, rfl, _⟩ | h
      · exact kp' _ h
      · exact kp' _ (h.alloc h.size _)
      · exact kp' _ h
    case l1 =>
      intro xs w' h
      rcases h with h | ⟨V, h, rfl, _⟩
      · exact kp' _ h
      · exact kp' _ (h.alloc h.size _)
    case c4 => exact fun w' h => ⟨w', h, rfl, rfl⟩
    case c5 =>
      rintro xs w' ⟨V, h, rfl, rfl⟩
      refine (hcall V h).mono ?_
      rintro e w3 ⟨rfl, hb3⟩
      exact ⟨(), by rw [hcc], hb3⟩
    case c11 =>
      rintro xs u w' h
      refine (open_no (ha1.mono h) hn (card != frm) (by rw [← hO]; exact HE.out)).mono ?_
      rintro e w3 ⟨rfl, hb3⟩
      exact ⟨rfl, h.trans (hb3.mono h.size)⟩
    case hQ =>
      intros
      exact HR _ _ _ hO.symm (by assumption) rfl rfl rfl
theorem openE_parts {p : Prs} {b : Bool} (h : openE p b = 0) : p.valid = true ∧ b = true := by
  unfold openE at h
  cases hv : p.valid
  · rw [hv] at h; simp at h
  · cases b
    · rw [hv] at h; simp at h
    · exact ⟨rfl, rfl⟩
def bothP (p : Prs) (kc kf : Nat) : Prs := { p with cards := [gp p.cards kf, gp p.cards kc] }
theorem both_valid {p : Prs} (hv : p.valid = true) {kc kf : Nat} (hc : kc < p.cards.length) (hf : kf < p.cards.length) : (bothP p kc kf).valid = true := by
  unfold Prs.valid bothP at *
  simp only [Bool.and_eq_true, List.all_eq_true] at hv ⊢
  refine ⟨⟨⟨by simp, fun x hx => ?_⟩, hv.1.2⟩, hv.2⟩
  have h1 : gp p.cards kf ∈ p.cards := by simp [gp, hf]
  have h2 : gp p.cards kc ∈ p.cards := by simp [gp, hc]
  simp at hx
  rcases hx with rfl | rfl
  · exact hv.1.1.2 _ h1
  · exact hv.1.1.2 _ h2
abbrev twoArr (x y : Prt) : Array Value := #[.int .i64 x.slo, .int .i64 x.shi, .int .i64 x.wlo, .int .i64 x.whi, .int .i64 x.marks, .int .i64 y.slo, .int .i64 y.shi, .int .i64 y.wlo, .int .i64 y.whi, .int .i64 y.marks]
theorem prts_two {w : World} (x y : Prt) {g : Nat} (h : w.heap[g]? = some (.cells #[.int .i64 x.slo, .int .i64 x.shi, .int .i64 x.wlo, .int .i64 x.whi, .int .i64 x.marks, .int .i64 y.slo, .int .i64 y.shi, .int .i64 y.wlo, .int .i64 y.whi, .int .i64 y.marks] 54 (0, 0))) : IsPrts w (some ⟨g, 0, none⟩) [x, y] := fun i hi => by
  have : i = 0 ∨ i = 1 := by simp at hi; omega
  rcases this with rfl | rfl
  · exact ⟨g, 0, rfl, by rw [cell_of_heap h]; rfl, by rw [cell_of_heap h]; rfl, by rw [cell_of_heap h]; rfl, by rw [cell_of_heap h]; rfl, by rw [cell_of_heap h]; rfl⟩
  · exact ⟨g, 0, rfl, by rw [cell_of_heap h]; rfl, by rw [cell_of_heap h]; rfl, by rw [cell_of_heap h]; rfl, by rw [cell_of_heap h]; rfl, by rw [cell_of_heap h]; rfl⟩
set_option maxRecDepth 100000 in
set_option maxHeartbeats 4000000 in
theorem fits_yes {p : Prs} {a : Option Addr} {cap : Nat} {w : World} (ha : IsPrts w a p.cards) (hn : p.cards.length ≤ 16) (hv : p.valid = true) {kc kf : Nat} (hc : kc < p.cards.length) (hf : kf < p.cards.length) (hne : kc ≠ kf) :
    Calls Try.prog 34 #[p.v a cap, .int .i64 kc, .int .i64 kf] w fun e w' => e = .returned (.tuple #[.bool (isWayB (bothP p kc kf) [-1, 0]), .int .i64 0]) ∧ Below w.heap.size w w' := by
  have hmf : ∀ (fn : Fn) (first cap : Array Value) (w : World), (Instr.makeFunc fn first cap).run Try.prog w = .ok (.func fn first cap) w := fun _ _ _ _ => rfl
  have HC := Lib.hid cf81
  have HV := Lib.hid hv
  have hcc : p.card (kc : Int) = true ∧ p.card (kf : Int) = true := by unfold Prs.card inR; simp; omega
  have hq : ((kc : Int) != (kf : Int)) = true := by simp; omega
  have HQ1 := Lib.hid (And.intro hcc hq)
  clear hv hcc hq
  refine calls_of_wp_x Try.func34 rfl ?_
  simp only [Try.ntmps34, List.size_toArray, List.length_cons, List.length_nil, Nat.reduceAdd, Nat.reduceSub, Array.replicate_succ, Array.replicate_zero, List.push_toArray, List.append_toArray, List.nil_append, List.cons_append]
  go_wp2_with fail
  obtain ⟨q0, q1, hz, hb⟩ := heap2 w (.cells (p.cells a cap) 26) (.cells #[.int .i64 0] 29)
  revert q0 q1 hz hb
  generalize ((w.alloc (.cells (p.cells a cap) 26)).alloc (.cells #[.int .i64 0] 29)) = W1
  intro q0 q1 hz hb
  have ha1 := ha.mono hb
  have kp := prs_cells q0
  have kp' : ∀ w', Below W1.heap.size W1 w' → w'.cell? ⟨w.heap.size, 0, none⟩ = some (.slice a p.cards.length cap) ∧ w'.cell? ⟨w.heap.size, 1, none⟩ = some (.int .i64 p.llo) ∧ w'.cell? ⟨w.heap.size, 2, none⟩ = some (.int .i64 p.lhi) ∧ w'.cell? ⟨w.heap.size, 3, none⟩ = some (.int .i64 p.olo) ∧ w'.cell? ⟨w.heap.size, 4, none⟩ = some (.int .i64 p.ohi) := fun w' hb' => by
    obtain ⟨k0, k1, k2, k3, k4⟩ := kp
    exact ⟨cell_stays hb' k0, cell_stays hb' k1, cell_stays hb' k2, cell_stays hb' k3, cell_stays hb' k4⟩
  refine wpIn_wide.1 (fitA (p := p) (a := a) (cap := cap) (card := (kc : Int)) (frm := (kf : Int)) (q := true) (S0 := fun w' => Below W1.heap.size W1 w') (S1 := fun xs w' => ∃ V, Below W1.heap.size W1 V ∧ w' = V.alloc (.cells #[.int .i64 (kc : Int), .int .i64 (kf : Int)] 3) ∧ xs = .slice (some ⟨V.heap.size, 0, none⟩) 2 2)
    (S2 := fun _ _ w' => Below W1.heap.size W1 w') (S3 := fun _ _ _ w' => Below W1.heap.size W1 w') HQ1.out.2 ?h0 ?l0 ?l1 ?c4 ?c5 ?c11 ?hQ)
  case h0 => exact (Below.refl _ W1).drew
  case l0 =>
    intro xs u w' h
    rcases h with h | ⟨V, h, rfl, _⟩ | h
    · exact kp' _ h
    · exact kp' _ (h.alloc h.size _)
    · exact kp' _ h
  case l1 =>
    intro xs w' h
    rcases h with h | ⟨V, h, rfl, _⟩
    · exact kp' _ h
    · exact kp' _ (h.alloc h.size _)
  case c4 => exact fun w' h => ⟨w', h, rfl, rfl⟩
  case c5 =>
    rintro xs w' ⟨V, h, rfl, rfl⟩
    have hb' := h.alloc h.size (.cells #[.int .i64 (kc : Int), .int .i64 (kf : Int)] 3)
    refine (isCard_any (p := p) (a := a) (cap := cap) (l := [(kc : Int), (kf : Int)]) (cl := 2) hn (by simp) (ints_two _ _ (World.alloc_heap_new V _))).mono ?_
    rintro e w3 ⟨rfl, hb3⟩
    exact ⟨(), by simp [HQ1.out.1.1, HQ1.out.1.2], hb'.trans (hb3.mono hb'.size)⟩
  case c11 =>
    rintro xs u w' h
    refine (open_yes (ha1.mono h) hn HV.out).mono ?_
    rintro e w3 ⟨bp, g, rfl, _, hP, hb3⟩
    exact ⟨bp, rfl, h.trans (hb3.mono h.size)⟩
  case hQ =>
    intro xs u bp w3 hB3
    obtain ⟨k0, k1, k2, k3, k4⟩ := kp' w3 hB3
    obtain ⟨b, off, rfl, _⟩ := ha1 kc hc
    have HP := Lib.hid (And.intro ha1 (And.intro hB3 (And.intro q1 (And.intro hz hb))))
    have HKP := Lib.hid kp'
    clear ha1 hB3 q1 hz hb kp kp' q0 ha
    go_wp2_with fail
    clear k0 k1 k2 k3 k4
    have q5 := World.alloc_heap_new w3 (.cells (p.cells (some ⟨b, off, none⟩) cap) 26)
    have hz5 : (w3.alloc (.cells (p.cells (some ⟨b, off, none⟩) cap) 26)).heap.size = w3.heap.size + 1 := by simp
    have hb5 : Below W1.heap.size W1 (w3.alloc (.cells (p.cells (some ⟨b, off, none⟩) cap) 26)) := HP.out.2.1.alloc HP.out.2.1.size _
    revert q5 hz5 hb5
    generalize (w3.alloc (.cells (p.cells (some ⟨b, off, none⟩) cap) 26)) = V1
    intro q5 hz5 hb5
    obtain ⟨ha1, hB3, q1, hz, hb⟩ := HP.out
    have hW3 := hB3.size
    have cells : ∀ k, k < p.cards.length → ∀ w', Below V1.heap.size V1 w' → w'.cell? ⟨b, off + k * 5, none⟩ = some (.int .i64 (gp p.cards k).slo) ∧ w'.cell? ⟨b, off + k * 5 + 1, none⟩ = some (.int .i64 (gp p.cards k).shi) ∧ w'.cell? ⟨b, off + k * 5 + 2, none⟩ = some (.int .i64 (gp p.cards k).wlo) ∧ w'.cell? ⟨b, off + k * 5 + 3, none⟩ = some (.int .i64 (gp p.cards k).whi) ∧ w'.cell? ⟨b, off + k * 5 + 4, none⟩ = some (.int .i64 (gp p.cards k).marks) := by
      intro k hk w' h'
      obtain ⟨b2, off2, e, m0, m1, m2, m3, m4⟩ := ha1 k hk
      cases e
      have h2 := hb5.trans (h'.mono hb5.size)
      exact ⟨cell_stays h2 m0, cell_stays h2 m1, cell_stays h2 m2, cell_stays h2 m3, cell_stays h2 m4⟩
    have bxc : ∀ w', Below V1.heap.size V1 w' → w'.cell? ⟨w.heap.size, 0, none⟩ = some (.slice (some ⟨b, off, none⟩) p.cards.length cap) := fun w' h' => (HKP.out w' (hb5.trans (h'.mono hb5.size))).1
    refine wpIn_wide.1 (fit4 (p := p) (b := b) (off := off) (cap := cap) (bx := w.heap.size) (by_ := w3.heap.size) (kc := kc) (kf := kf) (S0 := fun w' => Below V1.heap.size V1 w')
      (S1 := fun rb w' => ∃ V, Below V1.heap.size V1 V ∧ w' = V.alloc (.cells (twoArr (gp p.cards kf) (gp p.cards kc)) 54) ∧ rb = V.heap.size)
      (S2 := fun rb w' => Below W1.heap.size W1 w' ∧ w'.heap[w3.heap.size]? = some (.cells ((bothP p kc kf).cells (some ⟨rb, 0, none⟩) 2) 26 (0, 0)) ∧ IsPrts w' (some ⟨rb, 0, none⟩) (bothP p kc kf).cards)
      hc hf hn ?d0 ?d1 ?d4 ?d6 ?d9 ?d10 ?d12 ?dQ)
    case d0 => exact (Below.refl _ V1).drew
    case d1 => exact fun w' h => bxc w' h
    case d4 => exact fun w' h => cells kf hf w' h
    case d6 => exact fun w' h => bxc w' h
    case d9 => exact fun w' h => cells kc hc w' h
    case d10 => exact fun w' h => ⟨w', h, rfl, rfl⟩
    case d12 =>
      rintro rb w' ⟨V, h, rfl, rfl⟩
      have hVz := h.size
      have e1 := (Below.heap_alloc V (.cells (twoArr (gp p.cards kf) (gp p.cards kc)) 54) w3.heap.size (by omega)).trans ((h.block _ (by omega)).trans q5)
      have e2 := World.alloc_heap_new V (.cells (twoArr (gp p.cards kf) (gp p.cards kc)) 54)
      have hB := (hb5.trans (h.mono hb5.size)).alloc (by have := hb5.size; omega) (.cells (twoArr (gp p.cards kf) (gp p.cards kc)) 54)
      refine ⟨⟨_, by rw [cell_of_heap e1]; rfl⟩, frozen_of_heap e1, hB.setCell hW3 _, heap_setCell_at (k := 0) e1 _, prts_two _ _ ((Below.heap_setCell _ _ _ _ ?_).trans e2)⟩
      show V.heap.size ≠ w3.heap.size
      omega
    case dQ =>
      rintro rb w6 ⟨hB6, q6, hI6⟩
      obtain ⟨c0, c1, c2, c3, c4⟩ := prs_cells q6
      have HB6 := Lib.hid (And.intro hB6 hI6)
      have HCV : Hid (∀ k, k < p.cards.length → True) := fun _ _ => trivial
      have HV2 := Lib.hid (both_valid HV.out hc hf)
      clear hB6 hI6 q6 ha1 hB3 q1 hz hb hW3 cells bxc q5 hz5 hb5
      go_wp2_with fail
      refine (open_yes (p := bothP p kc kf) (cap := 2) HB6.out.2 (by simp [bothP]) HV2.out).mono ?_
      rintro e w7 ⟨bp2, g2, rfl, _, hP7, hb7⟩
      have HP7 := Lib.hid (And.intro hP7 hb7)
      clear hP7 hb7 c0 c1 c2 c3 c4
      go_wp2_with fail
      have q8 := World.alloc_heap_new w7 (.cells #[.int .i64 (-1), .int .i64 0] 3)
      have hb8 : Below w7.heap.size w7 (w7.alloc (.cells #[.int .i64 (-1), .int .i64 0] 3)) := (Below.refl _ _).alloc (Nat.le_refl _) _
      refine (isWay_any (p := bothP p kc kf) (wl := [-1, 0]) (cw := 2) HV2.out ⟨rfl, by simp [bothP]⟩ (HP7.out.1.mono hb8) (ints_two (-1) 0 q8)).mono ?_
      rintro e w9 ⟨rfl, hb9⟩
      obtain ⟨ha1, hB3, q1, hz, hb⟩ := HP.out
      have hb10 : Below W1.heap.size W1 w9 := ((HB6.out.1.trans (HP7.out.2.mono HB6.out.1.size)).trans (hb8.mono (by have := HB6.out.1.size; have := HP7.out.2.size; omega))).trans (hb9.mono (by have := HB6.out.1.size; have := HP7.out.2.size; have := hb8.size; omega))
      have q9 := (hb10.block (w.heap.size + 1) (by omega)).trans q1
      have c9 : w9.cell? ⟨w.heap.size + 1, 0, none⟩ = some (.int .i64 0) := by rw [cell_of_heap q9]; rfl
      have f9 : w9.frozen? ⟨w.heap.size + 1, 0, none⟩ = false := frozen_of_heap q9
      have H9 := Lib.hid (And.intro q9 (And.intro (hb.trans (hb10.mono hb.size)) hz))
      clear hb10 q9 hb9 hb8 q8 ha1 hB3 q1 hz hb
      go_wp2_with fail
      have e9 := heap_setCell_at (k := 0) H9.out.1 (.int .i64 0)
      exact ⟨[], _, rfl, leaves_ok (recov81_ok _ _) HC.out (res_tc rfl _ rfl (x := .int .i64 0) (by rw [cell_of_heap e9]; rfl)) ⟨rfl, H9.out.2.1.setCell (by show w.heap.size ≤ w.heap.size + 1; omega) _⟩⟩
theorem fits_any {p : Prs} {a : Option Addr} {cap : Nat} {w : World} (ha : IsPrts w a p.cards) (hn : p.cards.length ≤ 16) (card frm : Int) :
    Calls Try.prog 34 #[p.v a cap, .int .i64 card, .int .i64 frm] w fun e w' => e = .returned (.tuple #[.bool (fitsE p card frm).1, .int .i64 (fitsE p card frm).2]) ∧ Below w.heap.size w w' := by
  by_cases hE : openE p (p.card card && p.card frm && !decide (card = frm)) = 0
  · obtain ⟨hv, hb⟩ := openE_parts hE
    simp at hb
    obtain ⟨⟨h1, h2⟩, h3⟩ := hb
    obtain ⟨kc, rfl, hkc⟩ := card_nat h1
    obtain ⟨kf, rfl, hkf⟩ := card_nat h2
    have : fitsE p kc kf = (isWayB (bothP p kc kf) [-1, 0], 0) := by unfold fitsE; rw [if_pos hE]; rfl
    rw [this]
    exact fits_yes ha hn hv hkc hkf (by omega)
  · have : fitsE p card frm = (false, openE p (p.card card && p.card frm && !decide (card = frm))) := by unfold fitsE; rw [if_neg hE]
    rw [this]
    exact fits_no ha hn card frm hE
end Go.Proofs.Ytnfhlbmapfoifaa
namespace Go.Proofs.Ytnfhlbmapfoifaa
open Go.RowKit
set_option linter.unusedVariables false
/-- Of the ways with the fewest originals: whether the card comes from the other one. -/
def fromL (few card frm : Nat) (l : List (List Int)) : List Bool := (l.filter fun w => decide (origN w = few)).map fun w => comesB w card frm
theorem fromL_snoc (few card frm : Nat) (l : List (List Int)) (x : List Int) : fromL few card frm (l ++ [x]) = fromL few card frm l ++ if origN x = few then [comesB x card frm] else [] := by
  unfold fromL
  rw [List.filter_append, List.map_append]
  by_cases h : origN x = few <;> simp [h]
theorem way_round {p : Prs} {x : List Int} (h : isWayB p x = true) : roundB x = false := by
  unfold isWayB at h
  simp at h
  exact h.1.1.2
theorem way_good {p : Prs} {x : List Int} (h : x ∈ waysL p) : GoodW p.cards.length x := ⟨(ways_all h).1, ways_rng h⟩
def fromR (l : List Bool) : Int := if l.all id then 2 else if l.any id then 1 else 0
set_option maxRecDepth 100000 in
set_option maxHeartbeats 8000000 in
theorem from_yes {p : Prs} {a : Option Addr} {cap : Nat} {w : World} (ha : IsPrts w a p.cards) (hn : p.cards.length ≤ 16) (hv : p.valid = true) {kc kf : Nat} (hc : kc < p.cards.length) (hf : kf < p.cards.length) (hne : kc ≠ kf) :
    Calls Try.prog 15 #[p.v a cap, .int .i64 kc, .int .i64 kf] w fun e w' => e = .returned (.tuple #[.int .i64 (fromR (fromL (origN (fewestW p)) kc kf (waysL p))), .int .i64 0]) ∧ Below w.heap.size w w' := by
  have hmf : ∀ (fn : Fn) (first cap : Array Value) (w : World), (Instr.makeFunc fn first cap).run Try.prog w = .ok (.func fn first cap) w := fun _ _ _ _ => rfl
  have HC := Lib.hid cf48
  have HV := Lib.hid hv
  have hcc : p.card (kc : Int) = true ∧ p.card (kf : Int) = true := by unfold Prs.card inR; simp; omega
  have hq : ((kc : Int) != (kf : Int)) = true := by simp; omega
  have HQ1 := Lib.hid (And.intro hcc hq)
  have hn5 := (valid_parts hv).1
  obtain ⟨n0, hn0⟩ : ∃ n0, (waysL p).length = n0 + 1 := by
    cases e : waysL p with
    | nil => exact absurd e (ways_ne hv)
    | cons x r => exact ⟨r.length, rfl⟩
  have HN := Lib.hid hn0
  have HNl := Lib.hid (ways_len hv)
  clear hv hcc hq hn0
  refine calls_of_wp_x Try.func15 rfl ?_
  simp only [Try.ntmps15, List.size_toArray, List.length_cons, List.length_nil, Nat.reduceAdd, Nat.reduceSub, Array.replicate_succ, Array.replicate_zero, List.push_toArray, List.append_toArray, List.nil_append, List.cons_append]
  go_wp2_with fail
  obtain ⟨q0, q1, hz, hb⟩ := heap2 w (.cells (p.cells a cap) 26) (.cells #[.int .i64 0] 29)
  revert q0 q1 hz hb
  generalize ((w.alloc (.cells (p.cells a cap) 26)).alloc (.cells #[.int .i64 0] 29)) = W1
  intro q0 q1 hz hb
  have ha1 := ha.mono hb
  have kp := prs_cells q0
  have kp' : ∀ w', Below W1.heap.size W1 w' → w'.cell? ⟨w.heap.size, 0, none⟩ = some (.slice a p.cards.length cap) ∧ w'.cell? ⟨w.heap.size, 1, none⟩ = some (.int .i64 p.llo) ∧ w'.cell? ⟨w.heap.size, 2, none⟩ = some (.int .i64 p.lhi) ∧ w'.cell? ⟨w.heap.size, 3, none⟩ = some (.int .i64 p.olo) ∧ w'.cell? ⟨w.heap.size, 4, none⟩ = some (.int .i64 p.ohi) := fun w' hb' => by
    obtain ⟨k0, k1, k2, k3, k4⟩ := kp
    exact ⟨cell_stays hb' k0, cell_stays hb' k1, cell_stays hb' k2, cell_stays hb' k3, cell_stays hb' k4⟩
  refine wpIn_wide.1 (froA (p := p) (a := a) (cap := cap) (card := (kc : Int)) (frm := (kf : Int)) (q := true) (n := n0 + 1) (S0 := fun w' => Below W1.heap.size W1 w') (S1 := fun xs w' => ∃ V, Below W1.heap.size W1 V ∧ w' = V.alloc (.cells #[.int .i64 (kc : Int), .int .i64 (kf : Int)] 3) ∧ xs = .slice (some ⟨V.heap.size, 0, none⟩) 2 2)
    (S2 := fun _ _ w' => Below W1.heap.size W1 w') (S3 := fun _ _ bp w' => ∃ g, PileP w' bp p a cap g ∧ Below W1.heap.size W1 w') (S4 := fun _ _ bp pb w' => ∃ g, PileP w' bp p a cap g ∧ w'.heap[pb]? = some (.cells #[.pointer (some ⟨bp, 0, none⟩)] 79 (0, 0)) ∧ Below W1.heap.size W1 w')
    (S5 := fun _ _ _ _ rs w' => (∃ L : List (List Int × Value), L.map Prod.fst = waysL p ∧ L.length = n0 + 1 ∧ IsRows w' rs.1 L) ∧ n0 + 1 ≤ rs.2 ∧ Below W1.heap.size W1 w') HQ1.out.2 ?h0 ?l0 ?l1 ?c4 ?c5 ?c11 ?c12 ?c13 ?hQ)
  case h0 => exact (Below.refl _ W1).drew
  case l0 =>
    intro xs u w' h
    rcases h with h | ⟨V, h, rfl, _⟩ | h
    · exact kp' _ h
    · exact kp' _ (h.alloc h.size _)
    · exact kp' _ h
  case l1 =>
    intro xs w' h
    rcases h with h | ⟨V, h, rfl, _⟩
    · exact kp' _ h
    · exact kp' _ (h.alloc h.size _)
  case c4 => exact fun w' h => ⟨w', h, rfl, rfl⟩
  case c5 =>
    rintro xs w' ⟨V, h, rfl, rfl⟩
    have hb' := h.alloc h.size (.cells #[.int .i64 (kc : Int), .int .i64 (kf : Int)] 3)
    refine (isCard_any (p := p) (a := a) (cap := cap) (l := [(kc : Int), (kf : Int)]) (cl := 2) hn (by simp) (ints_two _ _ (World.alloc_heap_new V _))).mono ?_
    rintro e w3 ⟨rfl, hb3⟩
    exact ⟨(), by simp [HQ1.out.1.1, HQ1.out.1.2], hb'.trans (hb3.mono hb'.size)⟩
  case c11 =>
    rintro xs u w' h
    refine (open_yes (ha1.mono h) hn HV.out).mono ?_
    rintro e w3 ⟨bp, g, rfl, _, hP, hb3⟩
    exact ⟨bp, rfl, g, hP, h.trans (hb3.mono h.size)⟩
  case c12 =>
    rintro xs u bp w' ⟨g, hP, h⟩
    refine ways_any.mono ?_
    rintro e w3 ⟨rfl, rfl⟩
    have hb3 : Below w'.heap.size w' (w'.alloc (.cells #[.pointer (some ⟨bp, 0, none⟩)] 79)) := (Below.refl _ _).alloc (Nat.le_refl _) _
    exact ⟨_, rfl, g, hP.mono hb3, World.alloc_heap_new _ _, h.trans (hb3.mono h.size)⟩
  case c13 =>
    rintro xs u bp pb w' ⟨g, hP, hpb, h⟩
    refine (collect_any HV.out hpb hP HNl.out).mono ?_
    rintro e w3 ⟨v, vs, rfl, h1, h2, hb3⟩
    obtain ⟨al, cl, rfl, hcl, L, hL1, hL2, hL3⟩ := rows_read h1 h2 rfl
    rw [HN.out] at hL2 hcl ⊢
    exact ⟨(al, cl), rfl, ⟨L, hL1, hL2, hL3⟩, hcl, h.trans (hb3.mono h.size)⟩
  case hQ =>
    rintro xs u bp pb ⟨al, cl⟩ w4 ⟨⟨L, hL1, hL2, hL3⟩, hcl, hB4⟩
    simp only at hL3 hcl ⊢
    obtain ⟨x0, L0, rfl⟩ : ∃ x0 L0, L = x0 :: L0 := by
      cases L with
      | nil => simp at hL2
      | cons x0 L0 => exact ⟨x0, L0, rfl⟩
    obtain ⟨b, off, rfl, k1, k2⟩ := hL3 0 (by simp)
    have k3 := hL3.tail
    have hall : ∀ x ∈ x0 :: L0, x.1 ∈ waysL p := fun x hx => by rw [← hL1]; exact List.mem_map_of_mem hx
    have hfew : (leastP x0 L0).1 = fewestW p := by rw [leastP_fst]; unfold fewestW; rw [← hL1]; rfl
    have hL0 : L0.length = n0 := by simpa using hL2
    obtain ⟨at_, hat⟩ : ∃ at_ : Option Addr, (if cl = 1 then some (⟨b, off, none⟩ : Addr) else some ⟨b, off + 1, none⟩) = at_ := ⟨_, rfl⟩
    have k3' : IsRows w4 at_ L0 := by
      by_cases hc1 : cl = 1
      · intro i hi
        omega
      · rw [if_neg hc1] at hat
        rw [← hat]; exact k3
    have hnl := HNl.out
    rw [HN.out] at hnl
    have HL : Hid (∀ V, Below w4.heap.size w4 V → Calls Try.prog 54 #[.func (.func 55) #[] #[], x0.2, .slice at_ n0 (cl - 1)] V fun e w' => e = .returned (leastP x0 L0).2 ∧ Below V.heap.size V w') := fun V hV => by
      rw [← hL0]
      exact (least_any (n := p.cards.length) (by omega) (ways_all (hall x0 (by simp))).1 (fun x hx => (ways_all (hall x (by simp [hx]))).1) (k2.mono hV) (k3'.mono hV) (by omega)).mono fun e w' h => ⟨h.1, by rw [← h.2]; exact Below.refl _ _⟩
    have hrow : RowV w4 (leastP x0 L0) := leastP_all (Q := RowV w4) L0 x0 k2 (fun x hx => by
      obtain ⟨i, hi, rfl⟩ := List.getElem_of_mem hx
      obtain ⟨_, _, _, _, k⟩ := k3 i hi
      have e : L0.getD i ([], undef) = L0[i] := by simp [hi]
      rw [e] at k
      exact k)
    obtain ⟨av, cv, hvx, hints⟩ := hrow
    rw [hfew] at hvx hints
    have hlen : (fewestW p).length ≤ 16 := by rw [← hfew, leastP_all (Q := fun x => x.1.length = p.cards.length) L0 x0 (ways_all (hall x0 (by simp))).1 (fun x hx => (ways_all (hall x (by simp [hx]))).1)]; omega
    have HB4 := Lib.hid (And.intro hB4 (And.intro hints (And.intro hlen (And.intro hvx (And.intro hat (And.intro k1 (And.intro hcl (And.intro hL3 (And.intro hall (And.intro hL1 (And.intro hL2 (And.intro ha1 (And.intro q1 (And.intro hz hb))))))))))))))
    clear k1 k2 k3 k3' hints hlen hvx hat hall hfew hnl hcl hL1 hL2 hL3 hL0 hB4 ha1 q1 hz hb kp kp' q0 ha
    go_wp2_with fail
    refine wpIn_wide.1 (fro3 (b := b) (off := off) (n := n0) (cap := cl) (vf := x0.2) (at_ := at_) (fw := origN (fewestW p)) (S0 := fun w' => Below w4.heap.size w4 w') (S1 := fun vx w' => vx = (leastP x0 L0).2 ∧ Below w4.heap.size w4 w') (S2 := fun _ _ w' => Below w4.heap.size w4 w') HB4.out.2.2.2.2.2.2.1 HB4.out.2.2.2.2.1 ?d0 ?d2 ?d5 ?d6 ?dQ)
    case d0 => exact (Below.refl _ _).drew
    case d2 => exact fun w' h => cell_stays h HB4.out.2.2.2.2.2.1
    case d5 =>
      intro w' h
      refine (HL.out w' h).mono ?_
      rintro e w5 ⟨rfl, hb5⟩
      exact ⟨_, rfl, rfl, h.trans (hb5.mono h.size)⟩
    case d6 =>
      rintro vx w' ⟨rfl, h⟩
      obtain ⟨_, hints, hlen, hvx, _⟩ := HB4.out
      rw [hvx]
      refine (originals_any hlen (hints.mono h)).mono ?_
      rintro e w5 ⟨rfl, rfl⟩
      exact ⟨(), rfl, h⟩
    case dQ =>
      intro vx u6 w5 hb5
      obtain ⟨hB4, hints, hlen, hvx, hat, k1, hcl, hL3, hall, hL1, hL2, ha1, q1, hz, hb⟩ := HB4.out
      have HR5 := Lib.hid (hL3.mono hb5)
      have hB5 : Below W1.heap.size W1 w5 := hB4.trans (hb5.mono hB4.size)
      have q5 := (hB5.block (w.heap.size + 1) (by omega)).trans q1
      have HH := Lib.hid (And.intro hall (And.intro hL1 (And.intro hL2 (And.intro q5 (hb.trans (hB5.mono hb.size))))))
      have hlw : w.heap.size + 1 < w5.heap.size := heap_lt q5
      have c5 : w5.cell? ⟨w.heap.size + 1, 0, none⟩ = some (.int .i64 0) := by rw [cell_of_heap q5]; rfl
      have f5 : w5.frozen? ⟨w.heap.size + 1, 0, none⟩ = false := frozen_of_heap q5
      have HC5 := Lib.hid (And.intro c5 f5)
      clear hB4 hints hlen hvx hat k1 hcl hL3 hall hL1 hL2 ha1 q1 hz hb hB5 q5 hb5 c5 f5 HB4 HL
      have hn0 : n0 + 1 ≤ 1000000 := by have := HNl.out; rw [HN.out] at this; exact this
      go_wp2_with fail
      go_loop [10, 11, 39] (fun s e i => ∃ (k : Nat) (s0 e0 : Bool), k ≤ n0 + 1 ∧ i = .int .i64 k ∧ s = .bool s0 ∧ e = .bool e0 ∧ Hid (s0 = (fromL (origN (fewestW p)) kc kf ((waysL p).take k)).any id ∧ e0 = (fromL (origN (fewestW p)) kc kf ((waysL p).take k)).all id)) (fun _ _ i => n0 + 1 - (intOf i).toNat)
      case atStart => exact ⟨0, false, true, by omega, rfl, rfl, rfl, rfl, rfl⟩
      case round =>
        obtain ⟨k, s0, e0, hk, rfl, rfl, rfl, HK⟩ := hrel
        by_cases hlt : k < n0 + 1
        · obtain ⟨hall, hL1, hL2, _⟩ := HH.out
          obtain ⟨b', off', e', hrc, ax, cx, hvx, hxi⟩ := HR5.out k (by omega)
          cases e'
          obtain ⟨y, hy⟩ : ∃ y, (x0 :: L0).getD k ([], undef) = y := ⟨_, rfl⟩
          have hkl : k < (x0 :: L0).length := by omega
          have hyk : (x0 :: L0)[k] = y := by rw [← hy, List.getD_eq_getElem?_getD, List.getElem?_eq_getElem hkl]; rfl
          have hym : y.1 ∈ waysL p := hall y (by rw [← hyk]; exact List.getElem_mem hkl)
          have hget : (waysL p)[k]? = some y.1 := by rw [← hL1, List.getElem?_map, List.getElem?_eq_getElem hkl, hyk]; rfl
          have hts : (waysL p).take (k + 1) = (waysL p).take k ++ [y.1] := by
            rw [List.take_succ_eq_append_getElem (List.getElem?_eq_some_iff.1 hget).1, (List.getElem?_eq_some_iff.1 hget).2]
          have HS : Hid (fromL (origN (fewestW p)) kc kf ((waysL p).take (k + 1)) = fromL (origN (fewestW p)) kc kf ((waysL p).take k) ++ if origN y.1 = origN (fewestW p) then [comesB y.1 kc kf] else []) := by rw [Hid, hts, fromL_snoc]
          rw [hy] at hrc hvx hxi
          obtain ⟨y1, y2⟩ := y
          simp only at hrc hvx hxi hym HS
          subst hvx
          have hyl := (ways_all hym).1
          have hyl16 : y1.length ≤ 16 := by omega
          have HY := Lib.hid (And.intro hym (And.intro hxi hyl))
          clear hall hL1 hL2 hy hyk hym hget hts hxi hkl hyl
          go_wp2_with fail
          refine (originals_any hyl16 HY.out.2.1).mono ?_
          rintro e w' ⟨rfl, rfl⟩
          by_cases ho : origN y1 = origN (fewestW p)
          · have hb1 : ((origN y1 : Int) == (origN (fewestW p) : Int)) = true := by simp [ho]
            have HO := Lib.hid ho
            clear ho
            go_wp2_with fail
            refine (comes_any (way_good HY.out.1) (by omega) (way_round (ways_all HY.out.1).2) hc hf HY.out.2.1).mono ?_
            rintro e w' ⟨rfl, rfl⟩
            obtain ⟨cm, hcm⟩ : ∃ cm, comesB y1 kc kf = cm := ⟨_, rfl⟩
            have HCM := Lib.hid hcm
            rw [hcm]
            clear hcm
            cases s0 <;> cases e0
            all_goals
              go_wp2_with fail
              go_round
              case rel =>
                refine ⟨k + 1, _, _, by omega, by go_num, rfl, rfl, ?_⟩
                rw [Hid, HS.out, if_pos HO.out, List.any_append, List.all_append, ← HK.out.1, ← HK.out.2, HCM.out]
                simp
              case measure => simp [intOf]; omega
          · have hb1 : ((origN y1 : Int) == (origN (fewestW p) : Int)) = false := by simp; omega
            have HO := Lib.hid ho
            clear ho
            go_wp2_with fail
            go_round
            case rel =>
              refine ⟨k + 1, s0, e0, by omega, by go_num, rfl, rfl, ?_⟩
              rw [Hid, HS.out, if_neg HO.out, List.append_nil]
              exact HK.out
            case measure => simp [intOf]; omega
        · obtain rfl : k = n0 + 1 := by omega
          have HK2 : Hid (s0 = (fromL (origN (fewestW p)) kc kf (waysL p)).any id ∧ e0 = (fromL (origN (fewestW p)) kc kf (waysL p)).all id) := by
            have h1 := HK.out
            have hle : (waysL p).length ≤ n0 + 1 := by rw [HN.out]; exact Nat.le_refl _
            rw [List.take_of_length_le hle] at h1
            exact h1
          obtain ⟨c5, f5⟩ := HC5.out
          cases e0
          · cases s0
            · have HF : Hid (fromR (fromL (origN (fewestW p)) kc kf (waysL p)) = 0) := by rw [Hid]; unfold fromR; rw [← HK2.out.1, ← HK2.out.2]; rfl
              clear HK HK2 hlt hk
              go_wp2_with fail
              obtain ⟨hall, hL1, hL2, q5, hBw⟩ := HH.out
              have e9 := heap_setCell_at (k := 0) q5 (.int .i64 0)
              exact ⟨[], _, rfl, leaves_ok (recov48_ok _ _) HC.out (res_tc rfl _ rfl (x := .int .i64 0) (by rw [cell_of_heap e9]; rfl)) ⟨by rw [HF.out]; rfl, hBw.setCell (by show w.heap.size ≤ w.heap.size + 1; omega) _⟩⟩
            · have HF : Hid (fromR (fromL (origN (fewestW p)) kc kf (waysL p)) = 1) := by rw [Hid]; unfold fromR; rw [← HK2.out.1, ← HK2.out.2]; rfl
              clear HK HK2 hlt hk
              go_wp2_with fail
              obtain ⟨hall, hL1, hL2, q5, hBw⟩ := HH.out
              have e9 := heap_setCell_at (k := 0) q5 (.int .i64 0)
              exact ⟨[], _, rfl, leaves_ok (recov48_ok _ _) HC.out (res_tc rfl _ rfl (x := .int .i64 0) (by rw [cell_of_heap e9]; rfl)) ⟨by rw [HF.out]; rfl, hBw.setCell (by show w.heap.size ≤ w.heap.size + 1; omega) _⟩⟩
          · have HF : Hid (fromR (fromL (origN (fewestW p)) kc kf (waysL p)) = 2) := by rw [Hid]; unfold fromR; rw [← HK2.out.2]; rfl
            clear HK HK2 hlt hk
            go_wp2_with fail
            obtain ⟨hall, hL1, hL2, q5, hBw⟩ := HH.out
            have e9 := heap_setCell_at (k := 0) q5 (.int .i64 0)
            exact ⟨[], _, rfl, leaves_ok (recov48_ok _ _) HC.out (res_tc rfl _ rfl (x := .int .i64 0) (by rw [cell_of_heap e9]; rfl)) ⟨by rw [HF.out]; rfl, hBw.setCell (by show w.heap.size ≤ w.heap.size + 1; omega) _⟩⟩
theorem from_any {p : Prs} {a : Option Addr} {cap : Nat} {w : World} (ha : IsPrts w a p.cards) (hn : p.cards.length ≤ 16) (card frm : Int) :
    Calls Try.prog 15 #[p.v a cap, .int .i64 card, .int .i64 frm] w fun e w' => e = .returned (.tuple #[.int .i64 (fromE p card frm).1, .int .i64 (fromE p card frm).2]) ∧ Below w.heap.size w w' := by
  by_cases hE : openE p (p.card card && p.card frm && !decide (card = frm)) = 0
  · obtain ⟨hv, hb⟩ := openE_parts hE
    simp at hb
    obtain ⟨⟨h1, h2⟩, h3⟩ := hb
    obtain ⟨kc, rfl, hkc⟩ := card_nat h1
    obtain ⟨kf, rfl, hkf⟩ := card_nat h2
    have : fromE p kc kf = (fromR (fromL (origN (fewestW p)) kc kf (waysL p)), 0) := by unfold fromE; rw [if_pos hE]; rfl
    rw [this]
    exact from_yes ha hn hv hkc hkf (by omega)
  · have : fromE p card frm = (0, openE p (p.card card && p.card frm && !decide (card = frm))) := by unfold fromE; rw [if_neg hE]
    rw [this]
    exact from_no ha hn card frm hE
end Go.Proofs.Ytnfhlbmapfoifaa
namespace Go.Proofs.Ytnfhlbmapfoifaa
open Go.RowKit
set_option linter.unusedVariables false
theorem two64 : (2 : Nat) ^ 64 = 18446744073709551616 := by decide
def loN (S : Nat) : Int := ((S % 18446744073709551616 : Nat) : Int)
def hiN (S : Nat) : Int := ((S / 18446744073709551616 : Nat) : Int)
abbrev leftA (S : Nat) : Array Value := #[.int .u64 (loN S), .int .u64 (hiN S)]
abbrev leftV (S : Nat) : Value := .agg (leftA S)
theorem and_u64 (a b : Nat) (ha : a < 2 ^ 64) (hb : b < 2 ^ 64) : bits .and .u64 (a : Int) (b : Int) = ((a &&& b : Nat) : Int) ∧ bits .or .u64 (a : Int) (b : Int) = ((a ||| b : Nat) : Int) :=
  bits_nat .u64 64 (by decide) (fun n h1 h2 => by rw [IntKind.wrap_u64]; omega) a b ha hb
theorem test_u64 (n k : Nat) (hn : n < 2 ^ 64) : (bits .and .u64 ((n : Int) / 2 ^ k) 1 == 1) = n.testBit k := by
  have h1 : ((n : Int) / 2 ^ k) = ((n / 2 ^ k : Nat) : Int) := by simp
  have h2 : n / 2 ^ k < 2 ^ 64 := Nat.lt_of_le_of_lt (Nat.div_le_self _ _) hn
  rw [h1]
  have := (and_u64 (n / 2 ^ k) 1 h2 (by decide)).1
  rw [show ((1 : Nat) : Int) = 1 from rfl] at this
  rw [this, Nat.and_one_is_mod, Nat.testBit_eq_decide_div_mod_eq]
  rw [Bool.eq_iff_iff]
  simp
  omega
set_option maxHeartbeats 1000000 in
theorem has_any {S n : Nat} (hn : n < 128) (hS : S < 2 ^ 128) (w : World) : Calls Try.prog 106 #[leftV S, .int .i64 n] w fun e w' => e = .returned (.bool (S.testBit n)) ∧ Below w.heap.size w w' := by
  have hlo : S % 2 ^ 64 < 2 ^ 64 := Nat.mod_lt _ (Nat.two_pow_pos _)
  have hhi : S / 2 ^ 64 < 2 ^ 64 := by rw [Nat.div_lt_iff_lt_mul (Nat.two_pow_pos _), ← Nat.pow_add]; exact hS
  by_cases h : n < 64
  · have hd : (n : Int) / 64 = 0 := by omega
    have hd2 : n / 64 = 0 := by omega
    have hm : (n : Int) % 64 = (n : Int) := by omega
    have ht := test_u64 (S % 2 ^ 64) n hlo
    have e1 : (S % 2 ^ 64).testBit n = S.testBit n := by rw [Nat.testBit_mod_two_pow]; simp [h]
    rw [two64] at ht e1
    obtain ⟨lo, hlo'⟩ : ∃ lo, S % 18446744073709551616 = lo := ⟨_, rfl⟩
    obtain ⟨hi, hhi'⟩ : ∃ hi, S / 18446744073709551616 = hi := ⟨_, rfl⟩
    rw [hlo'] at ht e1
    have HE := Lib.hid e1
    show Calls Try.prog 106 #[.agg #[.int .u64 ((S % 18446744073709551616 : Nat) : Int), .int .u64 ((S / 18446744073709551616 : Nat) : Int)], .int .i64 n] w _
    rw [hlo', hhi']
    clear hlo' hhi' e1 hlo hhi hS
    go_enter Try.func106, Try.ntmps106
    go_wp2_with fail
    go_ret
    exact ⟨ret_bool HE.out, (Below.refl _ w).alloc (Nat.le_refl _) _⟩
  · obtain ⟨m, rfl⟩ : ∃ m, n = 64 + m := ⟨n - 64, by omega⟩
    have hd : ((64 + m : Nat) : Int) / 64 = 1 := by omega
    have hd2 : (64 + m) / 64 = 1 := by omega
    have hm : ((64 + m : Nat) : Int) % 64 = (m : Int) := by omega
    have ht := test_u64 (S / 2 ^ 64) m hhi
    have e1 : (S / 2 ^ 64).testBit m = S.testBit (64 + m) := by rw [Nat.testBit_div_two_pow]; congr 1; omega
    rw [two64] at ht e1
    obtain ⟨lo, hlo'⟩ : ∃ lo, S % 18446744073709551616 = lo := ⟨_, rfl⟩
    obtain ⟨hi, hhi'⟩ : ∃ hi, S / 18446744073709551616 = hi := ⟨_, rfl⟩
    rw [hhi'] at ht e1
    have HE := Lib.hid e1
    show Calls Try.prog 106 #[.agg #[.int .u64 ((S % 18446744073709551616 : Nat) : Int), .int .u64 ((S / 18446744073709551616 : Nat) : Int)], .int .i64 _] w _
    rw [hlo', hhi']
    obtain ⟨nn, hnn⟩ : ∃ nn : Nat, 64 + m = nn := ⟨_, rfl⟩
    rw [hnn] at hd hd2 hm hn HE ⊢
    have hm64 : m < 64 := by omega
    clear hlo' hhi' e1 hlo hhi hS hnn h
    go_enter Try.func106, Try.ntmps106
    go_wp2_with fail
    go_ret
    exact ⟨ret_bool HE.out, (Below.refl _ w).alloc (Nat.le_refl _) _⟩
end Go.Proofs.Ytnfhlbmapfoifaa
namespace Go.Proofs.Ytnfhlbmapfoifaa
open Go.RowKit
set_option linter.unusedVariables false
structure wiLoF (bx : Nat) (n : Nat) (m : Nat) (lo : Nat) (z : Nat) (S0 : World → Prop) (S1 : World → Prop) (d : Nat → Bool) (x5 x6 x7 x8 x9 x10 x11 x12 x13 : Value) (w : World) : Prop where
  q1 : d 1 = true → d 0 = true
  q2 : d 2 = true → d 1 = true
  q3 : d 3 = true → d 2 = true
  q5 : d 5 = true → d 4 = true
  q6 : d 6 = true → d 5 = true
  q7 : d 7 = true → d 3 = true ∧ d 6 = true
  q8 : d 8 = true → d 0 = true ∧ d 1 = true ∧ d 2 = true ∧ d 3 = true ∧ d 4 = true ∧ d 5 = true ∧ d 6 = true ∧ d 7 = true
  q9 : d 9 = true → d 0 = true ∧ d 1 = true ∧ d 2 = true ∧ d 3 = true ∧ d 4 = true ∧ d 5 = true ∧ d 6 = true ∧ d 7 = true ∧ d 8 = true
  f0 : d 0 = true → x5 = .int .i64 n
  f1 : d 1 = true → x6 = .int .i64 0
  f2 : d 2 = true → x7 = .pointer (some ⟨bx, 0, none⟩)
  f3 : d 3 = true → x8 = .int .u64 lo
  f4 : d 4 = true → x9 = .int .i64 n
  f5 : d 5 = true → x10 = .int .i64 m
  f6 : d 6 = true → x11 = .int .u64 z
  f7 : d 7 = true → x12 = .int .u64 (lo ||| z : Nat)
  f8 : d 8 = true → x13 = .pointer (some ⟨bx, 0, none⟩)
  st0 : d 9 = false → S0 w
  st1 : d 9 = true → S1 w
noncomputable def wiLoC : Code := (Try.f105.body.bind (regionAt 1)).getD .skip
set_option maxRecDepth 100000 in
set_option maxHeartbeats 4000000 in
theorem wiLo {bx : Nat} {n : Nat} {m : Nat} {lo : Nat} {z : Nat} {S0 : World → Prop} {S1 : World → Prop} {Q : Exit → Act → World → Prop} {W1 : World} (hn : n < 128) (hm64 : m < 64) (hd : (n : Int) / 64 = 0) (hd2 : n / 64 = 0) (hm : (n : Int).tmod 64 = (m : Int)) (hwr : IntKind.u64.wrap (2 ^ m) = (z : Int)) (hor : bits .or .u64 (lo : Int) (z : Int) = ((lo ||| z : Nat) : Int)) (h0 : S0 W1.drew)
    (kl3 : Hid (∀ (w : World), (S0 w) → w.cell? ⟨bx, 0, none⟩ = some (.int .u64 lo)))
    (kc9 : Hid (∀ (w : World), S0 w → (∃ u, w.cell? ⟨bx, 0, none⟩ = some u) ∧ w.frozen? ⟨bx, 0, none⟩ = false ∧ S1 (w.setCell ⟨bx, 0, none⟩ (.int .u64 (lo ||| z : Nat)))))
    {s0 s3 s4 s5 s6 s7 s8 s9 s10 s11 s12 s13 s14 : Value} {dd : List Deferred}
    (hQ : ∀ (w' : World), S1 w' → Q .normal { tmps := #[s0, .int .i64 n, .pointer (some ⟨bx, 0, none⟩), s3, s4, .int .i64 n, .int .i64 0, .pointer (some ⟨bx, 0, none⟩), .int .u64 lo, .int .i64 n, .int .i64 m, .int .u64 z, .int .u64 (lo ||| z : Nat), .pointer (some ⟨bx, 0, none⟩), s14], defers := dd } w') :
    Code.wpIn (wideAt none) 0 Try.prog wiLoC Q { tmps := #[s0, .int .i64 n, .pointer (some ⟨bx, 0, none⟩), s3, s4, s5, s6, s7, s8, s9, s10, s11, s12, s13, s14], defers := dd } W1 := by
  have HQ := Lib.hid hQ
  clear hQ
  conv => arg 4; whnf
  refine wpIn_region_invG mixed (by kernel_rfl) (fun d_ a_ w' => ∃ (x5 : Value) (x6 : Value) (x7 : Value) (x8 : Value) (x9 : Value) (x10 : Value) (x11 : Value) (x12 : Value) (x13 : Value), a_ = { tmps := #[s0, .int .i64 n, .pointer (some ⟨bx, 0, none⟩), s3, s4, x5, x6, x7, x8, x9, x10, x11, x12, x13, s14], defers := dd } ∧ wiLoF bx n m lo z S0 S1 d_ x5 x6 x7 x8 x9 x10 x11 x12 x13 w') ?_ ?_ ?_
  · refine ⟨s5, s6, s7, s8, s9, s10, s11, s12, s13, rfl, ?_⟩
    constructor <;> first | rfl | (intro _; rfl) | (intro h; cases h; done) | (intro _; exact h0) | exact h0
  · refine ⟨?_, ?_, ?_, ?_, ?_, ?_, ?_, ?_, ?_, ?_, trivial⟩
    all_goals
      rintro d_ a_ w1 K hd_ hdep ⟨x5, x6, x7, x8, x9, x10, x11, x12, x13, rfl, F⟩ HK
      simp [Region.binds] at hdep
    · have HF : Hid (wiLoF bx n m lo z S0 S1 (upd d_ 0) (.int .i64 n) x6 x7 x8 x9 x10 x11 x12 x13 w1) := ⟨fun h => rfl, F.q2, F.q3, F.q5, F.q6, F.q7, fun h => ⟨rfl, (F.q8 h).2.1, (F.q8 h).2.2.1, (F.q8 h).2.2.2.1, (F.q8 h).2.2.2.2.1, (F.q8 h).2.2.2.2.2.1, (F.q8 h).2.2.2.2.2.2.1, (F.q8 h).2.2.2.2.2.2.2⟩, fun h => ⟨rfl, (F.q9 h).2.1, (F.q9 h).2.2.1, (F.q9 h).2.2.2.1, (F.q9 h).2.2.2.2.1, (F.q9 h).2.2.2.2.2.1, (F.q9 h).2.2.2.2.2.2.1, (F.q9 h).2.2.2.2.2.2.2.1, (F.q9 h).2.2.2.2.2.2.2.2⟩, fun _ => rfl, F.f1, F.f2, F.f3, F.f4, F.f5, F.f6, F.f7, F.f8, F.st0, F.st1⟩
      clear F
      go_simp
      exact HK.out _ _ ⟨_, _, _, _, _, _, _, _, _, rfl, HF.out⟩
    · obtain rfl := F.f0 (by simp [hdep])
      have HF : Hid (wiLoF bx n m lo z S0 S1 (upd d_ 1) (.int .i64 n) (.int .i64 0) x7 x8 x9 x10 x11 x12 x13 w1) := ⟨fun _ => (show _ from (by simp [hdep] : d_ 0 = true)), fun h => rfl, F.q3, F.q5, F.q6, F.q7, fun h => ⟨(F.q8 h).1, rfl, (F.q8 h).2.2.1, (F.q8 h).2.2.2.1, (F.q8 h).2.2.2.2.1, (F.q8 h).2.2.2.2.2.1, (F.q8 h).2.2.2.2.2.2.1, (F.q8 h).2.2.2.2.2.2.2⟩, fun h => ⟨(F.q9 h).1, rfl, (F.q9 h).2.2.1, (F.q9 h).2.2.2.1, (F.q9 h).2.2.2.2.1, (F.q9 h).2.2.2.2.2.1, (F.q9 h).2.2.2.2.2.2.1, (F.q9 h).2.2.2.2.2.2.2.1, (F.q9 h).2.2.2.2.2.2.2.2⟩, F.f0, fun _ => rfl, F.f2, F.f3, F.f4, F.f5, F.f6, F.f7, F.f8, F.st0, F.st1⟩
      clear F
      go_simp
      exact HK.out _ _ ⟨_, _, _, _, _, _, _, _, _, rfl, HF.out⟩
    · obtain rfl := F.f1 (by simp [hdep])
      have HF : Hid (wiLoF bx n m lo z S0 S1 (upd d_ 2) x5 (.int .i64 0) (.pointer (some ⟨bx, 0, none⟩)) x8 x9 x10 x11 x12 x13 w1) := ⟨F.q1, fun _ => (show _ from (by simp [hdep] : d_ 1 = true)), fun h => rfl, F.q5, F.q6, F.q7, fun h => ⟨(F.q8 h).1, (F.q8 h).2.1, rfl, (F.q8 h).2.2.2.1, (F.q8 h).2.2.2.2.1, (F.q8 h).2.2.2.2.2.1, (F.q8 h).2.2.2.2.2.2.1, (F.q8 h).2.2.2.2.2.2.2⟩, fun h => ⟨(F.q9 h).1, (F.q9 h).2.1, rfl, (F.q9 h).2.2.2.1, (F.q9 h).2.2.2.2.1, (F.q9 h).2.2.2.2.2.1, (F.q9 h).2.2.2.2.2.2.1, (F.q9 h).2.2.2.2.2.2.2.1, (F.q9 h).2.2.2.2.2.2.2.2⟩, F.f0, F.f1, fun _ => rfl, F.f3, F.f4, F.f5, F.f6, F.f7, F.f8, F.st0, F.st1⟩
      clear F
      go_simp
      exact HK.out _ _ ⟨_, _, _, _, _, _, _, _, _, rfl, HF.out⟩
    · have hst : S0 w1 := by
        have n_ : d_ 9 = false := by
          cases e_ : d_ 9 with
          | false => rfl
          | true => have h2 := (F.q9 e_).2.2.2.1; rw [show d_ 3 = false from hd_] at h2; cases h2
        exact (F.st0 n_)
      have kk := kl3.out w1 hst
      clear hst
      obtain rfl := F.f2 (by simp [hdep])
      have HF : Hid (wiLoF bx n m lo z S0 S1 (upd d_ 3) x5 x6 (.pointer (some ⟨bx, 0, none⟩)) (.int .u64 lo) x9 x10 x11 x12 x13 w1) := ⟨F.q1, F.q2, fun _ => (show _ from (by simp [hdep] : d_ 2 = true)), F.q5, F.q6, fun h => ⟨rfl, (F.q7 h).2⟩, fun h => ⟨(F.q8 h).1, (F.q8 h).2.1, (F.q8 h).2.2.1, rfl, (F.q8 h).2.2.2.2.1, (F.q8 h).2.2.2.2.2.1, (F.q8 h).2.2.2.2.2.2.1, (F.q8 h).2.2.2.2.2.2.2⟩, fun h => ⟨(F.q9 h).1, (F.q9 h).2.1, (F.q9 h).2.2.1, rfl, (F.q9 h).2.2.2.2.1, (F.q9 h).2.2.2.2.2.1, (F.q9 h).2.2.2.2.2.2.1, (F.q9 h).2.2.2.2.2.2.2.1, (F.q9 h).2.2.2.2.2.2.2.2⟩, F.f0, F.f1, F.f2, fun _ => rfl, F.f4, F.f5, F.f6, F.f7, F.f8, F.st0, F.st1⟩
      clear F
      go_simp
      exact HK.out _ _ ⟨_, _, _, _, _, _, _, _, _, rfl, HF.out⟩
    · have HF : Hid (wiLoF bx n m lo z S0 S1 (upd d_ 4) x5 x6 x7 x8 (.int .i64 n) x10 x11 x12 x13 w1) := ⟨F.q1, F.q2, F.q3, fun h => rfl, F.q6, F.q7, fun h => ⟨(F.q8 h).1, (F.q8 h).2.1, (F.q8 h).2.2.1, (F.q8 h).2.2.2.1, rfl, (F.q8 h).2.2.2.2.2.1, (F.q8 h).2.2.2.2.2.2.1, (F.q8 h).2.2.2.2.2.2.2⟩, fun h => ⟨(F.q9 h).1, (F.q9 h).2.1, (F.q9 h).2.2.1, (F.q9 h).2.2.2.1, rfl, (F.q9 h).2.2.2.2.2.1, (F.q9 h).2.2.2.2.2.2.1, (F.q9 h).2.2.2.2.2.2.2.1, (F.q9 h).2.2.2.2.2.2.2.2⟩, F.f0, F.f1, F.f2, F.f3, fun _ => rfl, F.f5, F.f6, F.f7, F.f8, F.st0, F.st1⟩
      clear F
      go_simp
      exact HK.out _ _ ⟨_, _, _, _, _, _, _, _, _, rfl, HF.out⟩
    · obtain rfl := F.f4 (by simp [hdep])
      have HF : Hid (wiLoF bx n m lo z S0 S1 (upd d_ 5) x5 x6 x7 x8 (.int .i64 n) (.int .i64 m) x11 x12 x13 w1) := ⟨F.q1, F.q2, F.q3, fun _ => (show _ from (by simp [hdep] : d_ 4 = true)), fun h => rfl, F.q7, fun h => ⟨(F.q8 h).1, (F.q8 h).2.1, (F.q8 h).2.2.1, (F.q8 h).2.2.2.1, (F.q8 h).2.2.2.2.1, rfl, (F.q8 h).2.2.2.2.2.2.1, (F.q8 h).2.2.2.2.2.2.2⟩, fun h => ⟨(F.q9 h).1, (F.q9 h).2.1, (F.q9 h).2.2.1, (F.q9 h).2.2.2.1, (F.q9 h).2.2.2.2.1, rfl, (F.q9 h).2.2.2.2.2.2.1, (F.q9 h).2.2.2.2.2.2.2.1, (F.q9 h).2.2.2.2.2.2.2.2⟩, F.f0, F.f1, F.f2, F.f3, F.f4, fun _ => rfl, F.f6, F.f7, F.f8, F.st0, F.st1⟩
      clear F
      go_simp
      exact HK.out _ _ ⟨_, _, _, _, _, _, _, _, _, rfl, HF.out⟩
    · obtain rfl := F.f5 (by simp [hdep])
      have HF : Hid (wiLoF bx n m lo z S0 S1 (upd d_ 6) x5 x6 x7 x8 x9 (.int .i64 m) (.int .u64 z) x12 x13 w1) := ⟨F.q1, F.q2, F.q3, F.q5, fun _ => (show _ from (by simp [hdep] : d_ 5 = true)), fun h => ⟨(F.q7 h).1, rfl⟩, fun h => ⟨(F.q8 h).1, (F.q8 h).2.1, (F.q8 h).2.2.1, (F.q8 h).2.2.2.1, (F.q8 h).2.2.2.2.1, (F.q8 h).2.2.2.2.2.1, rfl, (F.q8 h).2.2.2.2.2.2.2⟩, fun h => ⟨(F.q9 h).1, (F.q9 h).2.1, (F.q9 h).2.2.1, (F.q9 h).2.2.2.1, (F.q9 h).2.2.2.2.1, (F.q9 h).2.2.2.2.2.1, rfl, (F.q9 h).2.2.2.2.2.2.2.1, (F.q9 h).2.2.2.2.2.2.2.2⟩, F.f0, F.f1, F.f2, F.f3, F.f4, F.f5, fun _ => rfl, F.f7, F.f8, F.st0, F.st1⟩
      clear F
      go_simp
      exact HK.out _ _ ⟨_, _, _, _, _, _, _, _, _, rfl, HF.out⟩
    · obtain rfl := F.f3 (by simp [hdep])
      obtain rfl := F.f6 (by simp [hdep])
      have HF : Hid (wiLoF bx n m lo z S0 S1 (upd d_ 7) x5 x6 x7 (.int .u64 lo) x9 x10 (.int .u64 z) (.int .u64 (lo ||| z : Nat)) x13 w1) := ⟨F.q1, F.q2, F.q3, F.q5, F.q6, fun _ => ⟨(show _ from (by simp [hdep] : d_ 3 = true)), (show _ from (by simp [hdep] : d_ 6 = true))⟩, fun h => ⟨(F.q8 h).1, (F.q8 h).2.1, (F.q8 h).2.2.1, (F.q8 h).2.2.2.1, (F.q8 h).2.2.2.2.1, (F.q8 h).2.2.2.2.2.1, (F.q8 h).2.2.2.2.2.2.1, rfl⟩, fun h => ⟨(F.q9 h).1, (F.q9 h).2.1, (F.q9 h).2.2.1, (F.q9 h).2.2.2.1, (F.q9 h).2.2.2.2.1, (F.q9 h).2.2.2.2.2.1, (F.q9 h).2.2.2.2.2.2.1, rfl, (F.q9 h).2.2.2.2.2.2.2.2⟩, F.f0, F.f1, F.f2, F.f3, F.f4, F.f5, F.f6, fun _ => rfl, F.f8, F.st0, F.st1⟩
      clear F
      go_simp
      exact HK.out _ _ ⟨_, _, _, _, _, _, _, _, _, rfl, HF.out⟩
    · obtain rfl := F.f1 (by simp [hdep])
      have HF : Hid (wiLoF bx n m lo z S0 S1 (upd d_ 8) x5 (.int .i64 0) x7 x8 x9 x10 x11 x12 (.pointer (some ⟨bx, 0, none⟩)) w1) := ⟨F.q1, F.q2, F.q3, F.q5, F.q6, F.q7, fun _ => ⟨(show _ from (by simp [hdep] : d_ 0 = true)), (show _ from (by simp [hdep] : d_ 1 = true)), (show _ from (by simp [hdep] : d_ 2 = true)), (show _ from (by simp [hdep] : d_ 3 = true)), (show _ from (by simp [hdep] : d_ 4 = true)), (show _ from (by simp [hdep] : d_ 5 = true)), (show _ from (by simp [hdep] : d_ 6 = true)), (show _ from (by simp [hdep] : d_ 7 = true))⟩, fun h => ⟨(F.q9 h).1, (F.q9 h).2.1, (F.q9 h).2.2.1, (F.q9 h).2.2.2.1, (F.q9 h).2.2.2.2.1, (F.q9 h).2.2.2.2.2.1, (F.q9 h).2.2.2.2.2.2.1, (F.q9 h).2.2.2.2.2.2.2.1, rfl⟩, F.f0, F.f1, F.f2, F.f3, F.f4, F.f5, F.f6, F.f7, fun _ => rfl, F.st0, F.st1⟩
      clear F
      go_simp
      exact HK.out _ _ ⟨_, _, _, _, _, _, _, _, _, rfl, HF.out⟩
    · have hS := F.st0  hd_
      obtain rfl := F.f7 (by simp [hdep])
      obtain rfl := F.f8 (by simp [hdep])
      obtain ⟨⟨u0, kcell0⟩, kfr0, hres⟩ := kc9.out w1 hS
      have HF : Hid (wiLoF bx n m lo z S0 S1 (upd d_ 9) x5 x6 x7 x8 x9 x10 x11 (.int .u64 (lo ||| z : Nat)) (.pointer (some ⟨bx, 0, none⟩)) (w1.setCell ⟨bx, 0, none⟩ (.int .u64 (lo ||| z : Nat)))) := ⟨F.q1, F.q2, F.q3, F.q5, F.q6, F.q7, F.q8, fun _ => ⟨(show _ from (by simp [hdep] : d_ 0 = true)), (show _ from (by simp [hdep] : d_ 1 = true)), (show _ from (by simp [hdep] : d_ 2 = true)), (show _ from (by simp [hdep] : d_ 3 = true)), (show _ from (by simp [hdep] : d_ 4 = true)), (show _ from (by simp [hdep] : d_ 5 = true)), (show _ from (by simp [hdep] : d_ 6 = true)), (show _ from (by simp [hdep] : d_ 7 = true)), (show _ from (by simp [hdep] : d_ 8 = true))⟩, F.f0, F.f1, F.f2, F.f3, F.f4, F.f5, F.f6, F.f7, F.f8, fun h => (by simp [upd] at h), fun _ => hres⟩
      clear F hS hres
      go_simp
      exact HK.out _ _ ⟨_, _, _, _, _, _, _, _, _, rfl, HF.out⟩
  · rintro d_ a_ w1 hall ⟨x5, x6, x7, x8, x9, x10, x11, x12, x13, rfl, F⟩
    have hall' : ∀ k, k < 10 → d_ k = true := hall
    obtain rfl := F.f0 (hall' 0 (by decide))
    obtain rfl := F.f1 (hall' 1 (by decide))
    obtain rfl := F.f2 (hall' 2 (by decide))
    obtain rfl := F.f3 (hall' 3 (by decide))
    obtain rfl := F.f4 (hall' 4 (by decide))
    obtain rfl := F.f5 (hall' 5 (by decide))
    obtain rfl := F.f6 (hall' 6 (by decide))
    obtain rfl := F.f7 (hall' 7 (by decide))
    obtain rfl := F.f8 (hall' 8 (by decide))
    have hst := F.st1 (hall' 9 (by decide))
    exact HQ.out  w1 hst
structure wiHiF (bx : Nat) (n : Nat) (m : Nat) (lo : Nat) (z : Nat) (S0 : World → Prop) (S1 : World → Prop) (d : Nat → Bool) (x5 x6 x7 x8 x9 x10 x11 x12 x13 : Value) (w : World) : Prop where
  q1 : d 1 = true → d 0 = true
  q2 : d 2 = true → d 1 = true
  q3 : d 3 = true → d 2 = true
  q5 : d 5 = true → d 4 = true
  q6 : d 6 = true → d 5 = true
  q7 : d 7 = true → d 3 = true ∧ d 6 = true
  q8 : d 8 = true → d 0 = true ∧ d 1 = true ∧ d 2 = true ∧ d 3 = true ∧ d 4 = true ∧ d 5 = true ∧ d 6 = true ∧ d 7 = true
  q9 : d 9 = true → d 0 = true ∧ d 1 = true ∧ d 2 = true ∧ d 3 = true ∧ d 4 = true ∧ d 5 = true ∧ d 6 = true ∧ d 7 = true ∧ d 8 = true
  f0 : d 0 = true → x5 = .int .i64 n
  f1 : d 1 = true → x6 = .int .i64 1
  f2 : d 2 = true → x7 = .pointer (some ⟨bx, 1, none⟩)
  f3 : d 3 = true → x8 = .int .u64 lo
  f4 : d 4 = true → x9 = .int .i64 n
  f5 : d 5 = true → x10 = .int .i64 m
  f6 : d 6 = true → x11 = .int .u64 z
  f7 : d 7 = true → x12 = .int .u64 (lo ||| z : Nat)
  f8 : d 8 = true → x13 = .pointer (some ⟨bx, 1, none⟩)
  st0 : d 9 = false → S0 w
  st1 : d 9 = true → S1 w
noncomputable def wiHiC : Code := (Try.f105.body.bind (regionAt 1)).getD .skip
set_option maxRecDepth 100000 in
set_option maxHeartbeats 4000000 in
theorem wiHi {bx : Nat} {n : Nat} {m : Nat} {lo : Nat} {z : Nat} {S0 : World → Prop} {S1 : World → Prop} {Q : Exit → Act → World → Prop} {W1 : World} (hn : n < 128) (hm64 : m < 64) (hd : (n : Int) / 64 = 1) (hd2 : n / 64 = 1) (hm : (n : Int).tmod 64 = (m : Int)) (hwr : IntKind.u64.wrap (2 ^ m) = (z : Int)) (hor : bits .or .u64 (lo : Int) (z : Int) = ((lo ||| z : Nat) : Int)) (h0 : S0 W1.drew)
    (kl3 : Hid (∀ (w : World), (S0 w) → w.cell? ⟨bx, 1, none⟩ = some (.int .u64 lo)))
    (kc9 : Hid (∀ (w : World), S0 w → (∃ u, w.cell? ⟨bx, 1, none⟩ = some u) ∧ w.frozen? ⟨bx, 1, none⟩ = false ∧ S1 (w.setCell ⟨bx, 1, none⟩ (.int .u64 (lo ||| z : Nat)))))
    {s0 s3 s4 s5 s6 s7 s8 s9 s10 s11 s12 s13 s14 : Value} {dd : List Deferred}
    (hQ : ∀ (w' : World), S1 w' → Q .normal { tmps := #[s0, .int .i64 n, .pointer (some ⟨bx, 0, none⟩), s3, s4, .int .i64 n, .int .i64 1, .pointer (some ⟨bx, 1, none⟩), .int .u64 lo, .int .i64 n, .int .i64 m, .int .u64 z, .int .u64 (lo ||| z : Nat), .pointer (some ⟨bx, 1, none⟩), s14], defers := dd } w') :
    Code.wpIn (wideAt none) 0 Try.prog wiHiC Q { tmps := #[s0, .int .i64 n, .pointer (some ⟨bx, 0, none⟩), s3, s4, s5, s6, s7, s8, s9, s10, s11, s12, s13, s14], defers := dd } W1 := by
  have HQ := Lib.hid hQ
  clear hQ
  conv => arg 4; whnf
  refine wpIn_region_invG mixed (by kernel_rfl) (fun d_ a_ w' => ∃ (x5 : Value) (x6 : Value) (x7 : Value) (x8 : Value) (x9 : Value) (x10 : Value) (x11 : Value) (x12 : Value) (x13 : Value), a_ = { tmps := #[s0, .int .i64 n, .pointer (some ⟨bx, 0, none⟩), s3, s4, x5, x6, x7, x8, x9, x10, x11, x12, x13, s14], defers := dd } ∧ wiHiF bx n m lo z S0 S1 d_ x5 x6 x7 x8 x9 x10 x11 x12 x13 w') ?_ ?_ ?_
  · refine ⟨s5, s6, s7, s8, s9, s10, s11, s12, s13, rfl, ?_⟩
    constructor <;> first | rfl | (intro _; rfl) | (intro h; cases h; done) | (intro _; exact h0) | exact h0
  · refine ⟨?_, ?_, ?_, ?_, ?_, ?_, ?_, ?_, ?_, ?_, trivial⟩
    all_goals
      rintro d_ a_ w1 K hd_ hdep ⟨x5, x6, x7, x8, x9, x10, x11, x12, x13, rfl, F⟩ HK
      simp [Region.binds] at hdep
    · have HF : Hid (wiHiF bx n m lo z S0 S1 (upd d_ 0) (.int .i64 n) x6 x7 x8 x9 x10 x11 x12 x13 w1) := ⟨fun h => rfl, F.q2, F.q3, F.q5, F.q6, F.q7, fun h => ⟨rfl, (F.q8 h).2.1, (F.q8 h).2.2.1, (F.q8 h).2.2.2.1, (F.q8 h).2.2.2.2.1, (F.q8 h).2.2.2.2.2.1, (F.q8 h).2.2.2.2.2.2.1, (F.q8 h).2.2.2.2.2.2.2⟩, fun h => ⟨rfl, (F.q9 h).2.1, (F.q9 h).2.2.1, (F.q9 h).2.2.2.1, (F.q9 h).2.2.2.2.1, (F.q9 h).2.2.2.2.2.1, (F.q9 h).2.2.2.2.2.2.1, (F.q9 h).2.2.2.2.2.2.2.1, (F.q9 h).2.2.2.2.2.2.2.2⟩, fun _ => rfl, F.f1, F.f2, F.f3, F.f4, F.f5, F.f6, F.f7, F.f8, F.st0, F.st1⟩
      clear F
      go_simp
      exact HK.out _ _ ⟨_, _, _, _, _, _, _, _, _, rfl, HF.out⟩
    · obtain rfl := F.f0 (by simp [hdep])
      have HF : Hid (wiHiF bx n m lo z S0 S1 (upd d_ 1) (.int .i64 n) (.int .i64 1) x7 x8 x9 x10 x11 x12 x13 w1) := ⟨fun _ => (show _ from (by simp [hdep] : d_ 0 = true)), fun h => rfl, F.q3, F.q5, F.q6, F.q7, fun h => ⟨(F.q8 h).1, rfl, (F.q8 h).2.2.1, (F.q8 h).2.2.2.1, (F.q8 h).2.2.2.2.1, (F.q8 h).2.2.2.2.2.1, (F.q8 h).2.2.2.2.2.2.1, (F.q8 h).2.2.2.2.2.2.2⟩, fun h => ⟨(F.q9 h).1, rfl, (F.q9 h).2.2.1, (F.q9 h).2.2.2.1, (F.q9 h).2.2.2.2.1, (F.q9 h).2.2.2.2.2.1, (F.q9 h).2.2.2.2.2.2.1, (F.q9 h).2.2.2.2.2.2.2.1, (F.q9 h).2.2.2.2.2.2.2.2⟩, F.f0, fun _ => rfl, F.f2, F.f3, F.f4, F.f5, F.f6, F.f7, F.f8, F.st0, F.st1⟩
      clear F
      go_simp
      exact HK.out _ _ ⟨_, _, _, _, _, _, _, _, _, rfl, HF.out⟩
    · obtain rfl := F.f1 (by simp [hdep])
      have HF : Hid (wiHiF bx n m lo z S0 S1 (upd d_ 2) x5 (.int .i64 1) (.pointer (some ⟨bx, 1, none⟩)) x8 x9 x10 x11 x12 x13 w1) := ⟨F.q1, fun _ => (show _ from (by simp [hdep] : d_ 1 = true)), fun h => rfl, F.q5, F.q6, F.q7, fun h => ⟨(F.q8 h).1, (F.q8 h).2.1, rfl, (F.q8 h).2.2.2.1, (F.q8 h).2.2.2.2.1, (F.q8 h).2.2.2.2.2.1, (F.q8 h).2.2.2.2.2.2.1, (F.q8 h).2.2.2.2.2.2.2⟩, fun h => ⟨(F.q9 h).1, (F.q9 h).2.1, rfl, (F.q9 h).2.2.2.1, (F.q9 h).2.2.2.2.1, (F.q9 h).2.2.2.2.2.1, (F.q9 h).2.2.2.2.2.2.1, (F.q9 h).2.2.2.2.2.2.2.1, (F.q9 h).2.2.2.2.2.2.2.2⟩, F.f0, F.f1, fun _ => rfl, F.f3, F.f4, F.f5, F.f6, F.f7, F.f8, F.st0, F.st1⟩
      clear F
      go_simp
      exact HK.out _ _ ⟨_, _, _, _, _, _, _, _, _, rfl, HF.out⟩
    · have hst : S0 w1 := by
        have n_ : d_ 9 = false := by
          cases e_ : d_ 9 with
          | false => rfl
          | true => have h2 := (F.q9 e_).2.2.2.1; rw [show d_ 3 = false from hd_] at h2; cases h2
        exact (F.st0 n_)
      have kk := kl3.out w1 hst
      clear hst
      obtain rfl := F.f2 (by simp [hdep])
      have HF : Hid (wiHiF bx n m lo z S0 S1 (upd d_ 3) x5 x6 (.pointer (some ⟨bx, 1, none⟩)) (.int .u64 lo) x9 x10 x11 x12 x13 w1) := ⟨F.q1, F.q2, fun _ => (show _ from (by simp [hdep] : d_ 2 = true)), F.q5, F.q6, fun h => ⟨rfl, (F.q7 h).2⟩, fun h => ⟨(F.q8 h).1, (F.q8 h).2.1, (F.q8 h).2.2.1, rfl, (F.q8 h).2.2.2.2.1, (F.q8 h).2.2.2.2.2.1, (F.q8 h).2.2.2.2.2.2.1, (F.q8 h).2.2.2.2.2.2.2⟩, fun h => ⟨(F.q9 h).1, (F.q9 h).2.1, (F.q9 h).2.2.1, rfl, (F.q9 h).2.2.2.2.1, (F.q9 h).2.2.2.2.2.1, (F.q9 h).2.2.2.2.2.2.1, (F.q9 h).2.2.2.2.2.2.2.1, (F.q9 h).2.2.2.2.2.2.2.2⟩, F.f0, F.f1, F.f2, fun _ => rfl, F.f4, F.f5, F.f6, F.f7, F.f8, F.st0, F.st1⟩
      clear F
      go_simp
      exact HK.out _ _ ⟨_, _, _, _, _, _, _, _, _, rfl, HF.out⟩
    · have HF : Hid (wiHiF bx n m lo z S0 S1 (upd d_ 4) x5 x6 x7 x8 (.int .i64 n) x10 x11 x12 x13 w1) := ⟨F.q1, F.q2, F.q3, fun h => rfl, F.q6, F.q7, fun h => ⟨(F.q8 h).1, (F.q8 h).2.1, (F.q8 h).2.2.1, (F.q8 h).2.2.2.1, rfl, (F.q8 h).2.2.2.2.2.1, (F.q8 h).2.2.2.2.2.2.1, (F.q8 h).2.2.2.2.2.2.2⟩, fun h => ⟨(F.q9 h).1, (F.q9 h).2.1, (F.q9 h).2.2.1, (F.q9 h).2.2.2.1, rfl, (F.q9 h).2.2.2.2.2.1, (F.q9 h).2.2.2.2.2.2.1, (F.q9 h).2.2.2.2.2.2.2.1, (F.q9 h).2.2.2.2.2.2.2.2⟩, F.f0, F.f1, F.f2, F.f3, fun _ => rfl, F.f5, F.f6, F.f7, F.f8, F.st0, F.st1⟩
      clear F
      go_simp
      exact HK.out _ _ ⟨_, _, _, _, _, _, _, _, _, rfl, HF.out⟩
    · obtain rfl := F.f4 (by simp [hdep])
      have HF : Hid (wiHiF bx n m lo z S0 S1 (upd d_ 5) x5 x6 x7 x8 (.int .i64 n) (.int .i64 m) x11 x12 x13 w1) := ⟨F.q1, F.q2, F.q3, fun _ => (show _ from (by simp [hdep] : d_ 4 = true)), fun h => rfl, F.q7, fun h => ⟨(F.q8 h).1, (F.q8 h).2.1, (F.q8 h).2.2.1, (F.q8 h).2.2.2.1, (F.q8 h).2.2.2.2.1, rfl, (F.q8 h).2.2.2.2.2.2.1, (F.q8 h).2.2.2.2.2.2.2⟩, fun h => ⟨(F.q9 h).1, (F.q9 h).2.1, (F.q9 h).2.2.1, (F.q9 h).2.2.2.1, (F.q9 h).2.2.2.2.1, rfl, (F.q9 h).2.2.2.2.2.2.1, (F.q9 h).2.2.2.2.2.2.2.1, (F.q9 h).2.2.2.2.2.2.2.2⟩, F.f0, F.f1, F.f2, F.f3, F.f4, fun _ => rfl, F.f6, F.f7, F.f8, F.st0, F.st1⟩
      clear F
      go_simp
      exact HK.out _ _ ⟨_, _, _, _, _, _, _, _, _, rfl, HF.out⟩
    · obtain rfl := F.f5 (by simp [hdep])
      have HF : Hid (wiHiF bx n m lo z S0 S1 (upd d_ 6) x5 x6 x7 x8 x9 (.int .i64 m) (.int .u64 z) x12 x13 w1) := ⟨F.q1, F.q2, F.q3, F.q5, fun _ => (show _ from (by simp [hdep] : d_ 5 = true)), fun h => ⟨(F.q7 h).1, rfl⟩, fun h => ⟨(F.q8 h).1, (F.q8 h).2.1, (F.q8 h).2.2.1, (F.q8 h).2.2.2.1, (F.q8 h).2.2.2.2.1, (F.q8 h).2.2.2.2.2.1, rfl, (F.q8 h).2.2.2.2.2.2.2⟩, fun h => ⟨(F.q9 h).1, (F.q9 h).2.1, (F.q9 h).2.2.1, (F.q9 h).2.2.2.1, (F.q9 h).2.2.2.2.1, (F.q9 h).2.2.2.2.2.1, rfl, (F.q9 h).2.2.2.2.2.2.2.1, (F.q9 h).2.2.2.2.2.2.2.2⟩, F.f0, F.f1, F.f2, F.f3, F.f4, F.f5, fun _ => rfl, F.f7, F.f8, F.st0, F.st1⟩
      clear F
      go_simp
      exact HK.out _ _ ⟨_, _, _, _, _, _, _, _, _, rfl, HF.out⟩
    · obtain rfl := F.f3 (by simp [hdep])
      obtain rfl := F.f6 (by simp [hdep])
      have HF : Hid (wiHiF bx n m lo z S0 S1 (upd d_ 7) x5 x6 x7 (.int .u64 lo) x9 x10 (.int .u64 z) (.int .u64 (lo ||| z : Nat)) x13 w1) := ⟨F.q1, F.q2, F.q3, F.q5, F.q6, fun _ => ⟨(show _ from (by simp [hdep] : d_ 3 = true)), (show _ from (by simp [hdep] : d_ 6 = true))⟩, fun h => ⟨(F.q8 h).1, (F.q8 h).2.1, (F.q8 h).2.2.1, (F.q8 h).2.2.2.1, (F.q8 h).2.2.2.2.1, (F.q8 h).2.2.2.2.2.1, (F.q8 h).2.2.2.2.2.2.1, rfl⟩, fun h => ⟨(F.q9 h).1, (F.q9 h).2.1, (F.q9 h).2.2.1, (F.q9 h).2.2.2.1, (F.q9 h).2.2.2.2.1, (F.q9 h).2.2.2.2.2.1, (F.q9 h).2.2.2.2.2.2.1, rfl, (F.q9 h).2.2.2.2.2.2.2.2⟩, F.f0, F.f1, F.f2, F.f3, F.f4, F.f5, F.f6, fun _ => rfl, F.f8, F.st0, F.st1⟩
      clear F
      go_simp
      exact HK.out _ _ ⟨_, _, _, _, _, _, _, _, _, rfl, HF.out⟩
    · obtain rfl := F.f1 (by simp [hdep])
      have HF : Hid (wiHiF bx n m lo z S0 S1 (upd d_ 8) x5 (.int .i64 1) x7 x8 x9 x10 x11 x12 (.pointer (some ⟨bx, 1, none⟩)) w1) := ⟨F.q1, F.q2, F.q3, F.q5, F.q6, F.q7, fun _ => ⟨(show _ from (by simp [hdep] : d_ 0 = true)), (show _ from (by simp [hdep] : d_ 1 = true)), (show _ from (by simp [hdep] : d_ 2 = true)), (show _ from (by simp [hdep] : d_ 3 = true)), (show _ from (by simp [hdep] : d_ 4 = true)), (show _ from (by simp [hdep] : d_ 5 = true)), (show _ from (by simp [hdep] : d_ 6 = true)), (show _ from (by simp [hdep] : d_ 7 = true))⟩, fun h => ⟨(F.q9 h).1, (F.q9 h).2.1, (F.q9 h).2.2.1, (F.q9 h).2.2.2.1, (F.q9 h).2.2.2.2.1, (F.q9 h).2.2.2.2.2.1, (F.q9 h).2.2.2.2.2.2.1, (F.q9 h).2.2.2.2.2.2.2.1, rfl⟩, F.f0, F.f1, F.f2, F.f3, F.f4, F.f5, F.f6, F.f7, fun _ => rfl, F.st0, F.st1⟩
      clear F
      go_simp
      exact HK.out _ _ ⟨_, _, _, _, _, _, _, _, _, rfl, HF.out⟩
    · have hS := F.st0  hd_
      obtain rfl := F.f7 (by simp [hdep])
      obtain rfl := F.f8 (by simp [hdep])
      obtain ⟨⟨u0, kcell0⟩, kfr0, hres⟩ := kc9.out w1 hS
      have HF : Hid (wiHiF bx n m lo z S0 S1 (upd d_ 9) x5 x6 x7 x8 x9 x10 x11 (.int .u64 (lo ||| z : Nat)) (.pointer (some ⟨bx, 1, none⟩)) (w1.setCell ⟨bx, 1, none⟩ (.int .u64 (lo ||| z : Nat)))) := ⟨F.q1, F.q2, F.q3, F.q5, F.q6, F.q7, F.q8, fun _ => ⟨(show _ from (by simp [hdep] : d_ 0 = true)), (show _ from (by simp [hdep] : d_ 1 = true)), (show _ from (by simp [hdep] : d_ 2 = true)), (show _ from (by simp [hdep] : d_ 3 = true)), (show _ from (by simp [hdep] : d_ 4 = true)), (show _ from (by simp [hdep] : d_ 5 = true)), (show _ from (by simp [hdep] : d_ 6 = true)), (show _ from (by simp [hdep] : d_ 7 = true)), (show _ from (by simp [hdep] : d_ 8 = true))⟩, F.f0, F.f1, F.f2, F.f3, F.f4, F.f5, F.f6, F.f7, F.f8, fun h => (by simp [upd] at h), fun _ => hres⟩
      clear F hS hres
      go_simp
      exact HK.out _ _ ⟨_, _, _, _, _, _, _, _, _, rfl, HF.out⟩
  · rintro d_ a_ w1 hall ⟨x5, x6, x7, x8, x9, x10, x11, x12, x13, rfl, F⟩
    have hall' : ∀ k, k < 10 → d_ k = true := hall
    obtain rfl := F.f0 (hall' 0 (by decide))
    obtain rfl := F.f1 (hall' 1 (by decide))
    obtain rfl := F.f2 (hall' 2 (by decide))
    obtain rfl := F.f3 (hall' 3 (by decide))
    obtain rfl := F.f4 (hall' 4 (by decide))
    obtain rfl := F.f5 (hall' 5 (by decide))
    obtain rfl := F.f6 (hall' 6 (by decide))
    obtain rfl := F.f7 (hall' 7 (by decide))
    obtain rfl := F.f8 (hall' 8 (by decide))
    have hst := F.st1 (hall' 9 (by decide))
    exact HQ.out  w1 hst
theorem heap2' (w : World) (a b : Obj) : let W := (w.alloc a).alloc b
    W.heap[w.heap.size]? = some a ∧ W.heap[w.heap.size + 1]? = some b ∧ W.heap.size = w.heap.size + 2 ∧ Below w.heap.size w W := by
  have q0 := World.alloc_heap_new w a
  have q1 := World.alloc_heap_new (w.alloc a) b
  simp only [World.size_alloc] at q1
  exact ⟨(Below.heap_alloc _ _ _ (by simp)).trans q0, q1, by simp, ((Below.refl _ w).alloc (Nat.le_refl _) _).alloc (by simp) _⟩
theorem bit_two (n i : Nat) : (2 ^ n).testBit i = decide (n = i) := Nat.testBit_two_pow
theorem with_lo {S n : Nat} (h : n < 64) : (S ||| 2 ^ n) % 2 ^ 64 = S % 2 ^ 64 ||| 2 ^ n ∧ (S ||| 2 ^ n) / 2 ^ 64 = S / 2 ^ 64 := by
  constructor
  · apply Nat.eq_of_testBit_eq
    intro i
    rw [Nat.testBit_mod_two_pow, Nat.testBit_or, Nat.testBit_or, Nat.testBit_mod_two_pow, bit_two]
    by_cases hi : i < 64
    · simp [hi]
    · have : ¬ n = i := by omega
      simp [hi, this]
  · apply Nat.eq_of_testBit_eq
    intro i
    rw [Nat.testBit_div_two_pow, Nat.testBit_or, Nat.testBit_div_two_pow, bit_two]
    have : ¬ n = i + 64 := by omega
    simp [this]
theorem with_hi {S m : Nat} : (S ||| 2 ^ (64 + m)) % 2 ^ 64 = S % 2 ^ 64 ∧ (S ||| 2 ^ (64 + m)) / 2 ^ 64 = S / 2 ^ 64 ||| 2 ^ m := by
  constructor
  · apply Nat.eq_of_testBit_eq
    intro i
    rw [Nat.testBit_mod_two_pow, Nat.testBit_or, Nat.testBit_mod_two_pow, bit_two]
    by_cases hi : i < 64
    · have : ¬ 64 + m = i := by omega
      simp [this]
    · simp [hi]
  · apply Nat.eq_of_testBit_eq
    intro i
    rw [Nat.testBit_div_two_pow, Nat.testBit_or, Nat.testBit_or, Nat.testBit_div_two_pow, bit_two, bit_two]
    have : (64 + m = i + 64) = (m = i) := by apply propext; omega
    simp only [this]
theorem pow_u64 {m : Nat} (h : m < 64) : IntKind.u64.wrap (2 ^ m) = ((2 ^ m : Nat) : Int) := by
  have h1 : 2 ^ m < 2 ^ 64 := Nat.pow_lt_pow_right (by decide) h
  have h2 : ((2 ^ m : Nat) : Int) < ((2 ^ 64 : Nat) : Int) := by exact_mod_cast h1
  have h4 : ((2 : Int) ^ m) = ((2 ^ m : Nat) : Int) := by simp
  rw [h4]
  have h5 : ((2 ^ 64 : Nat) : Int) = 18446744073709551616 := by decide
  rw [h5] at h2
  revert h2
  generalize 2 ^ m = z
  intro h2
  rw [IntKind.wrap_u64]
  omega
theorem res_c95 {fn : Func} {p : Tmp} (h : fn.results = #[.cell p 95]) (tmps : Array Value) {w : World} {a : Nat} {x y : Value} (hp : tmps.getD p undef = .pointer (some ⟨a, 0, none⟩)) (hx : w.cell? ⟨a, 0, none⟩ = some x) (hy : w.cell? ⟨a, 1, none⟩ = some y) :
    (results fn tmps).run Try.prog w = .ok (.agg #[x, y]) w := by
  have hp' : tmps[p]?.getD undef = .pointer (some ⟨a, 0, none⟩) := by simpa using hp
  simp [results, h, hp', hx, hy, go_sem]
set_option maxRecDepth 100000 in
set_option maxHeartbeats 2000000 in
theorem with_any {S n : Nat} (hn : n < 128) (hS : S < 2 ^ 128) (w : World) : Calls Try.prog 105 #[leftV S, .int .i64 n] w fun e w' => e = .returned (leftV (S ||| 2 ^ n)) ∧ Below w.heap.size w w' := by
  have hlo : S % 2 ^ 64 < 2 ^ 64 := Nat.mod_lt _ (Nat.two_pow_pos _)
  have hhi : S / 2 ^ 64 < 2 ^ 64 := by rw [Nat.div_lt_iff_lt_mul (Nat.two_pow_pos _), ← Nat.pow_add]; exact hS
  by_cases h : n < 64
  · have hd : (n : Int) / 64 = 0 := by omega
    have hd2 : n / 64 = 0 := by omega
    have hm : (n : Int).tmod 64 = (n : Int) := by rw [Int.tmod_eq_emod_of_nonneg (by omega)]; omega
    have hor := (and_u64 (S % 2 ^ 64) (2 ^ n) hlo (Nat.pow_lt_pow_right (by decide) h)).2
    obtain ⟨e1, e2⟩ := with_lo (S := S) h
    have hwr := pow_u64 h
    obtain ⟨z, hz⟩ : ∃ z, 2 ^ n = z := ⟨_, rfl⟩
    rw [hz] at hor hwr e1 e2 ⊢
    rw [two64] at hor e1 e2
    show Calls Try.prog 105 #[.agg #[.int .u64 ((S % 18446744073709551616 : Nat) : Int), .int .u64 ((S / 18446744073709551616 : Nat) : Int)], .int .i64 n] w (fun e w' => e = .returned (.agg #[.int .u64 (((S ||| z) % 18446744073709551616 : Nat) : Int), .int .u64 (((S ||| z) / 18446744073709551616 : Nat) : Int)]) ∧ Below w.heap.size w w')
    rw [e1, e2]
    obtain ⟨lo, hlo'⟩ : ∃ lo, S % 18446744073709551616 = lo := ⟨_, rfl⟩
    obtain ⟨hi, hhi'⟩ : ∃ hi, S / 18446744073709551616 = hi := ⟨_, rfl⟩
    rw [hlo'] at hor ⊢
    rw [hhi']
    have HH := Lib.hid (And.intro hd (And.intro hd2 (And.intro hm (And.intro hor hwr))))
    clear hlo' hhi' e1 e2 hlo hhi hS hd hd2 hm hor hwr hz
    go_enter Try.func105, Try.ntmps105
    go_wp2_with fail
    obtain ⟨q0, q1, hz, hb⟩ := heap2' w (.cells #[.int .u64 lo, .int .u64 hi] 95) (.cells #[.int .u64 0, .int .u64 0] 95)
    revert q0 q1 hz hb
    generalize ((w.alloc (.cells #[.int .u64 lo, .int .u64 hi] 95)).alloc (.cells #[.int .u64 0, .int .u64 0] 95)) = W1
    intro q0 q1 hz hb
    refine wpIn_wide.1 (wiLo (bx := w.heap.size) (n := n) (m := n) (lo := lo) (z := z) (S0 := fun w' => Below W1.heap.size W1 w') (S1 := fun w' => Below w.heap.size w w' ∧ w'.heap[w.heap.size]? = some (.cells #[.int .u64 (lo ||| z : Nat), .int .u64 hi] 95 (0, 0)) ∧ w'.heap[w.heap.size + 1]? = some (.cells #[.int .u64 0, .int .u64 0] 95 (0, 0)))
      hn h HH.out.1 HH.out.2.1 HH.out.2.2.1 HH.out.2.2.2.2 HH.out.2.2.2.1 ?h0 ?l3 ?c9 ?hQ)
    case h0 => exact (Below.refl _ _).drew
    case l3 => exact fun w' h => by rw [cell_of_heap ((h.block _ (heap_lt q0)).trans q0)]; rfl
    case c9 =>
      intro w' h
      have e := (h.block _ (heap_lt q0)).trans q0
      exact ⟨⟨_, by rw [cell_of_heap e]; rfl⟩, frozen_of_heap e, (hb.trans (h.mono hb.size)).setCell (Nat.le_refl _) _, heap_setCell_at (k := 0) e _, (Below.heap_setCell _ _ _ _ (by show w.heap.size + 1 ≠ w.heap.size; omega)).trans ((h.block _ (heap_lt q1)).trans q1)⟩
    case hQ =>
      rintro w3 ⟨hB3, r0, r1⟩
      have c0 : w3.cell? ⟨w.heap.size, 0, none⟩ = some (.int .u64 (lo ||| z : Nat)) := by rw [cell_of_heap r0]; rfl
      have c1 : w3.cell? ⟨w.heap.size, 1, none⟩ = some (.int .u64 hi) := by rw [cell_of_heap r0]; rfl
      have c2 : w3.cell? ⟨w.heap.size + 1, 0, none⟩ = some (.int .u64 0) := by rw [cell_of_heap r1]; rfl
      have c3 : w3.cell? ⟨w.heap.size + 1, 1, none⟩ = some (.int .u64 0) := by rw [cell_of_heap r1]; rfl
      have f2 : ∀ k, w3.frozen? ⟨w.heap.size + 1, k, none⟩ = false := fun k => frozen_of_heap r1
      have HR := Lib.hid (And.intro hB3 r1)
      clear hB3 r0 r1 q0 q1 hz hb
      clear W1
      go_wp2_with fail
      have e1 := heap_setCell_at (k := 1) (heap_setCell_at (k := 0) HR.out.2 (.int .u64 (lo ||| z : Nat))) (.int .u64 hi)
      exact bodyPost_ret (v := .agg #[.int .u64 (lo ||| z : Nat), .int .u64 hi]) (res_c95 rfl _ rfl (by rw [cell_of_heap e1]; rfl) (by rw [cell_of_heap e1]; rfl)) rfl ⟨rfl, (HR.out.1.setCell (by show w.heap.size ≤ w.heap.size + 1; omega) _).setCell (by show w.heap.size ≤ w.heap.size + 1; omega) _⟩
  · obtain ⟨m, rfl⟩ : ∃ m, n = 64 + m := ⟨n - 64, by omega⟩
    have hm64 : m < 64 := by omega
    have hd : ((64 + m : Nat) : Int) / 64 = 1 := by omega
    have hd2 : (64 + m) / 64 = 1 := by omega
    have hm : ((64 + m : Nat) : Int).tmod 64 = (m : Int) := by rw [Int.tmod_eq_emod_of_nonneg (by omega)]; omega
    have hor := (and_u64 (S / 2 ^ 64) (2 ^ m) hhi (Nat.pow_lt_pow_right (by decide) hm64)).2
    obtain ⟨e1, e2⟩ := with_hi (S := S) (m := m)
    have hwr := pow_u64 hm64
    obtain ⟨z, hz⟩ : ∃ z, 2 ^ m = z := ⟨_, rfl⟩
    rw [hz] at hor hwr e2
    rw [two64] at hor e1 e2
    show Calls Try.prog 105 #[.agg #[.int .u64 ((S % 18446744073709551616 : Nat) : Int), .int .u64 ((S / 18446744073709551616 : Nat) : Int)], .int .i64 ((64 + m : Nat) : Int)] w (fun e w' => e = .returned (.agg #[.int .u64 (((S ||| 2 ^ (64 + m)) % 18446744073709551616 : Nat) : Int), .int .u64 (((S ||| 2 ^ (64 + m)) / 18446744073709551616 : Nat) : Int)]) ∧ Below w.heap.size w w')
    rw [e1, e2]
    obtain ⟨lo, hlo'⟩ : ∃ lo, S % 18446744073709551616 = lo := ⟨_, rfl⟩
    obtain ⟨hi, hhi'⟩ : ∃ hi, S / 18446744073709551616 = hi := ⟨_, rfl⟩
    rw [hhi'] at hor ⊢
    rw [hlo']
    obtain ⟨nn, hnn⟩ : ∃ nn : Nat, 64 + m = nn := ⟨_, rfl⟩
    rw [hnn] at hd hd2 hm hn ⊢
    have HH := Lib.hid (And.intro hd (And.intro hd2 (And.intro hm (And.intro hor hwr))))
    clear hlo' hhi' e1 e2 hlo hhi hS hd hd2 hm hor hwr hz hnn h
    go_enter Try.func105, Try.ntmps105
    go_wp2_with fail
    obtain ⟨q0, q1, hz, hb⟩ := heap2' w (.cells #[.int .u64 lo, .int .u64 hi] 95) (.cells #[.int .u64 0, .int .u64 0] 95)
    revert q0 q1 hz hb
    generalize ((w.alloc (.cells #[.int .u64 lo, .int .u64 hi] 95)).alloc (.cells #[.int .u64 0, .int .u64 0] 95)) = W1
    intro q0 q1 hz hb
    refine wpIn_wide.1 (wiHi (bx := w.heap.size) (n := nn) (m := m) (lo := hi) (z := z) (S0 := fun w' => Below W1.heap.size W1 w') (S1 := fun w' => Below w.heap.size w w' ∧ w'.heap[w.heap.size]? = some (.cells #[.int .u64 lo, .int .u64 (hi ||| z : Nat)] 95 (0, 0)) ∧ w'.heap[w.heap.size + 1]? = some (.cells #[.int .u64 0, .int .u64 0] 95 (0, 0)))
      hn hm64 HH.out.1 HH.out.2.1 HH.out.2.2.1 HH.out.2.2.2.2 HH.out.2.2.2.1 ?h0 ?l3 ?c9 ?hQ)
    case h0 => exact (Below.refl _ _).drew
    case l3 => exact fun w' h => by rw [cell_of_heap ((h.block _ (heap_lt q0)).trans q0)]; rfl
    case c9 =>
      intro w' h
      have e := (h.block _ (heap_lt q0)).trans q0
      exact ⟨⟨_, by rw [cell_of_heap e]; rfl⟩, frozen_of_heap e, (hb.trans (h.mono hb.size)).setCell (Nat.le_refl _) _, heap_setCell_at (k := 1) e _, (Below.heap_setCell _ _ _ _ (by show w.heap.size + 1 ≠ w.heap.size; omega)).trans ((h.block _ (heap_lt q1)).trans q1)⟩
    case hQ =>
      rintro w3 ⟨hB3, r0, r1⟩
      have c0 : w3.cell? ⟨w.heap.size, 0, none⟩ = some (.int .u64 lo) := by rw [cell_of_heap r0]; rfl
      have c1 : w3.cell? ⟨w.heap.size, 1, none⟩ = some (.int .u64 (hi ||| z : Nat)) := by rw [cell_of_heap r0]; rfl
      have c2 : w3.cell? ⟨w.heap.size + 1, 0, none⟩ = some (.int .u64 0) := by rw [cell_of_heap r1]; rfl
      have c3 : w3.cell? ⟨w.heap.size + 1, 1, none⟩ = some (.int .u64 0) := by rw [cell_of_heap r1]; rfl
      have f2 : ∀ k, w3.frozen? ⟨w.heap.size + 1, k, none⟩ = false := fun k => frozen_of_heap r1
      have HR := Lib.hid (And.intro hB3 r1)
      clear hB3 r0 r1 q0 q1 hz hb
      clear W1
      go_wp2_with fail
      have e1 := heap_setCell_at (k := 1) (heap_setCell_at (k := 0) HR.out.2 (.int .u64 lo)) (.int .u64 (hi ||| z : Nat))
      exact bodyPost_ret (v := .agg #[.int .u64 lo, .int .u64 (hi ||| z : Nat)]) (res_c95 rfl _ rfl (by rw [cell_of_heap e1]; rfl) (by rw [cell_of_heap e1]; rfl)) rfl ⟨rfl, (HR.out.1.setCell (by show w.heap.size ≤ w.heap.size + 1; omega) _).setCell (by show w.heap.size ≤ w.heap.size + 1; omega) _⟩
theorem many_succ (S k : Nat) : (List.range (k + 1)).countP (fun j => S.testBit j) = (List.range k).countP (fun j => S.testBit j) + if S.testBit k then 1 else 0 := by
  rw [List.range_succ, List.countP_append]; simp
set_option maxRecDepth 100000 in
set_option maxHeartbeats 1000000 in
theorem many_any {S : Nat} (hS : S < 2 ^ 128) (w : World) : Calls Try.prog 68 #[leftV S] w fun e w' => e = .returned (.int .i64 (manyS S)) ∧ Below w.heap.size w w' := by
  have HHS : ∀ (k : Nat), k < 128 → ∀ w, Calls Try.prog 106 #[leftV S, .int .i64 k] w fun e w' => e = .returned (.bool (S.testBit k)) ∧ Below w.heap.size w w' := fun k hk w => has_any hk hS w
  show Calls Try.prog 68 #[.agg #[.int .u64 ((S % 18446744073709551616 : Nat) : Int), .int .u64 ((S / 18446744073709551616 : Nat) : Int)]] w _
  unfold leftV leftA loN hiN at HHS
  revert HHS
  generalize S % 18446744073709551616 = lo
  generalize S / 18446744073709551616 = hi
  intro HHS
  have HS := Lib.hid HHS
  clear hS HHS
  have q0 := World.alloc_heap_new w (.cells #[.int .u64 lo, .int .u64 hi] 95)
  have hb : Below w.heap.size w (w.alloc (.cells #[.int .u64 lo, .int .u64 hi] 95)) := (Below.refl _ w).alloc (Nat.le_refl _) _
  have H0 := Lib.hid (And.intro q0 hb)
  clear q0 hb
  go_enter Try.func68, Try.ntmps68
  go_wp2_with fail
  go_loopw [2, 4] (fun r i wr => ∃ k z : Nat, k ≤ 128 ∧ i = .int .i64 k ∧ r = .int .i64 z ∧ z ≤ k ∧ Hid (z = (List.range k).countP (fun j => S.testBit j)) ∧ Below (w.heap.size + 1) (w.alloc (.cells #[.int .u64 lo, .int .u64 hi] 95)) wr) (fun _ i _ => 128 - (intOf i).toNat)
  case atStart => exact ⟨0, 0, by omega, rfl, rfl, by omega, rfl, Below.refl _ _⟩
  case round =>
    obtain ⟨k, z, hk, rfl, rfl, hz, HZ, hB⟩ := hrel
    have hlw : w.heap.size < wr.heap.size := by have := hB.size; simp at this; omega
    have q1 : wr.heap[w.heap.size]? = some (.cells #[.int .u64 lo, .int .u64 hi] 95 (0, 0)) := (hB.block _ (by omega)).trans H0.out.1
    have c0 : wr.cell? ⟨w.heap.size, 0, none⟩ = some (.int .u64 lo) := by rw [cell_of_heap q1]; rfl
    have c1 : wr.cell? ⟨w.heap.size, 1, none⟩ = some (.int .u64 hi) := by rw [cell_of_heap q1]; rfl
    have HB := Lib.hid hB
    have HC := Lib.hid (many_succ S k)
    clear q1 hB
    by_cases hlt : k < 128
    · go_wp2_with fail
      refine (HS.out k hlt wr).mono ?_
      rintro e w2 ⟨rfl, hb2⟩
      have HB2 := Lib.hid (bst HB.out hb2 (by simp))
      clear hb2 c0 c1
      cases h : S.testBit k
      all_goals
        have H := Lib.hid h
        clear h
        go_wp2_with fail
        go_roundw
        case measure => simp [intOf]; omega
      case rel => exact ⟨k + 1, z, by omega, by go_num, rfl, by omega, by rw [Hid, HC.out, H.out, ← HZ.out]; rfl, HB2.out⟩
      case rel => exact ⟨k + 1, z + 1, by omega, by go_num, by go_num, by omega, by rw [Hid, HC.out, H.out, ← HZ.out]; rfl, HB2.out⟩
    · obtain rfl : k = 128 := by omega
      clear c0 c1
      go_wp2_with fail
      go_ret
      exact ⟨ret_int (by rw [HZ.out]; rfl), H0.out.2.trans (HB.out.mono (by simp))⟩
end Go.Proofs.Ytnfhlbmapfoifaa
