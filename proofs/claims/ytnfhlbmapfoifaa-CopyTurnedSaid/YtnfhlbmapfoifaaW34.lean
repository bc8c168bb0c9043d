/- Fits, From: prints that are not valid, cards that are none. From. -/
import Derived.Test.YtnfhlbmapfoifaaW33
namespace Go.Proofs.Ytnfhlbmapfoifaa
open Go.RowKit
set_option linter.unusedVariables false

theorem heap2 (w : World) (a b : Obj) : let W := (w.alloc a).alloc b
    W.heap[w.heap.size]? = some a ∧ W.heap[w.heap.size + 1]? = some b ∧ W.heap.size = w.heap.size + 2 ∧ Below w.heap.size w W := by
  have q0 := World.alloc_heap_new w a
  have q1 := World.alloc_heap_new (w.alloc a) b
  simp only [World.size_alloc] at q1
  exact ⟨(Below.heap_alloc _ _ _ (by simp)).trans q0, q1, by simp, ((Below.refl _ w).alloc (Nat.le_refl _) _).alloc (by simp) _⟩
theorem ints_two {w : World} (x y : Int) {g : Nat} (h : w.heap[g]? = some (.cells #[.int .i64 x, .int .i64 y] 3 (0, 0))) : IsInts w (some ⟨g, 0, none⟩) [x, y] := fun i hi => by
  have : i = 0 ∨ i = 1 := by simp at hi; omega
  rcases this with rfl | rfl
  · exact ⟨g, 0, rfl, by rw [cell_of_heap h]; rfl⟩
  · exact ⟨g, 0, rfl, by rw [cell_of_heap h]; rfl⟩
set_option maxRecDepth 100000 in
set_option maxHeartbeats 4000000 in
theorem fits_no {p : Prs} {a : Option Addr} {cap : Nat} {w : World} (ha : IsPrts w a p.cards) (hn : p.cards.length ≤ 16) (card frm : Int) (hE : openE p (p.card card && p.card frm && !decide (card = frm)) ≠ 0) :
    Calls Try.prog 34 #[p.v a cap, .int .i64 card, .int .i64 frm] w fun e w' => e = .returned (.tuple #[.bool false, .int .i64 (openE p (p.card card && p.card frm && !decide (card = frm)))]) ∧ Below w.heap.size w w' := by
  have hmf : ∀ (fn : Fn) (first cap : Array Value) (w : World), (Instr.makeFunc fn first cap).run Try.prog w = .ok (.func fn first cap) w := fun _ _ _ _ => rfl
  have HC := Lib.hid cf81
  have HE := Lib.hid hE
  clear hE
  refine calls_of_wp_x Try.func34 rfl ?_
  simp only [Try.ntmps34, List.size_toArray, List.length_cons, List.length_nil, Nat.reduceAdd, Nat.reduceSub, Array.replicate_succ, Array.replicate_zero, List.push_toArray, List.append_toArray, List.nil_append, List.cons_append]
  go_wp2_with fail
  obtain ⟨q0, q1, hz, hb⟩ := heap2 w (.cells (p.cells a cap) 26) (.cells #[.int .i64 0] 29)
  revert q0 q1 hz hb
  generalize ((w.alloc (.cells (p.cells a cap) 26)).alloc (.cells #[.int .i64 0] 29)) = W1
  intro q0 q1 hz hb
  have ha1 := ha.mono hb
  have kp := prs_cells q0
  have HR : ∀ (er : Int) (fr : Act) (w2 : World), er = openE p (p.card card && p.card frm && !decide (card = frm)) → Below W1.heap.size W1 w2 → fr.defers = [{ target := .fn (.func 81) #[.pointer (some ⟨w.heap.size + 1, 0, none⟩)], args := #[] }] → fr.tmps.getD 6 undef = .bool false → fr.tmps.getD 7 undef = .pointer (some ⟨w.heap.size + 1, 0, none⟩) →
      bodyPostX Try.prog Try.f34 (fun e w' => e = .returned (.tuple #[.bool false, .int .i64 (openE p (p.card card && p.card frm && !decide (card = frm)))]) ∧ Below w.heap.size w w') (.panic [{ v := .iface 115 (.agg #[.int .i64 er]), recovered := false }]) fr w2 := by
    rintro er ⟨tm, df⟩ w2 rfl hb2 rfl ht6 ht7
    have he2 := (hb2.block (w.heap.size + 1) (by omega)).trans q1
    have hc2 : w2.cell? ⟨w.heap.size + 1, 0, none⟩ = some (.int .i64 0) := by rw [cell_of_heap he2]; rfl
    have hB2 : Below w.heap.size w w2 := hb.trans (hb2.mono hb.size)
    have hz2 := hb2.size
    have hb3 : Below w.heap.size w ((w2.alloc (.cells #[.int .i64 (openE p (p.card card && p.card frm && !decide (card = frm)))] 115)).setCell ⟨w.heap.size + 1, 0, none⟩ (.int .i64 (openE p (p.card card && p.card frm && !decide (card = frm))))) :=
      (hB2.alloc hB2.size _).setCell (by simp) _
    have hcell := World.cell?_setCell_same (w2.alloc (.cells #[.int .i64 (openE p (p.card card && p.card frm && !decide (card = frm)))] 115)) ⟨w.heap.size + 1, 0, none⟩ (.int .i64 (openE p (p.card card && p.card frm && !decide (card = frm)))) (cell_stays ((Below.refl _ w2).alloc (Nat.le_refl _) _) hc2)
    refine ⟨[], _, rfl, leaves_no (recov81_no _ hc2 (frozen_of_heap he2)) rfl HC.out (res_tc rfl _ ht7 hcell) ⟨?_, hb3⟩⟩
    rw [ht6]
  have kp' : ∀ w', Below W1.heap.size W1 w' → w'.cell? ⟨w.heap.size, 0, none⟩ = some (.slice a p.cards.length cap) ∧ w'.cell? ⟨w.heap.size, 1, none⟩ = some (.int .i64 p.llo) ∧ w'.cell? ⟨w.heap.size, 2, none⟩ = some (.int .i64 p.lhi) ∧ w'.cell? ⟨w.heap.size, 3, none⟩ = some (.int .i64 p.olo) ∧ w'.cell? ⟨w.heap.size, 4, none⟩ = some (.int .i64 p.ohi) := fun w' hb' => by
    obtain ⟨k0, k1, k2, k3, k4⟩ := kp
    exact ⟨cell_stays hb' k0, cell_stays hb' k1, cell_stays hb' k2, cell_stays hb' k3, cell_stays hb' k4⟩
  have hcall : ∀ V, Below W1.heap.size W1 V → Calls Try.prog 52 #[p.v a cap, .slice (some ⟨V.heap.size, 0, none⟩) 2 2] (V.alloc (.cells #[.int .i64 card, .int .i64 frm] 3)) fun e w' => e = .returned (.bool (p.card card && p.card frm)) ∧ Below W1.heap.size W1 w' := fun V h => by
    have hb' := h.alloc h.size (.cells #[.int .i64 card, .int .i64 frm] 3)
    refine (isCard_any (p := p) (a := a) (cap := cap) (l := [card, frm]) (cl := 2) hn (by simp) (ints_two _ _ (World.alloc_heap_new V _))).mono ?_
    rintro e w3 ⟨rfl, hb3⟩
    exact ⟨by simp, hb'.trans (hb3.mono hb'.size)⟩
  cases hcc : (p.card card && p.card frm) with
  | false =>
    have hO : openE p (p.card card && p.card frm && !decide (card = frm)) = openE p false := by rw [hcc]; rfl
    refine wpIn_wide.1 (fitC (p := p) (a := a) (cap := cap) (card := card) (frm := frm) (q := false) (er := openE p false) (S0 := fun w' => Below W1.heap.size W1 w') (S1 := fun xs w' => ∃ V, Below W1.heap.size W1 V ∧ w' = V.alloc (.cells #[.int .i64 card, .int .i64 frm] 3) ∧ xs = .slice (some ⟨V.heap.size, 0, none⟩) 2 2)
      (S2 := fun _ _ w' => Below W1.heap.size W1 w') (S3 := fun _ _ w' => Below W1.heap.size W1 w') ?h0 ?l0 ?l1 ?c4 ?c5 ?c11 ?hQ)
    case h0 => exact (Below.refl _ W1).drew
    case l0 =>
      intro xs u w' h
      rcases h with h | ⟨V, h, rfl, _⟩ | h
      · exact kp' _ h
      · exact kp' _ (h.alloc h.size _)
      · exact kp' _ h
    case l1 =>
      intro xs w' h
      rcases h with h | ⟨V, h, rfl, _⟩
      · exact kp' _ h
      · exact kp' _ (h.alloc h.size _)
    case c4 => exact fun w' h => ⟨w', h, rfl, rfl⟩
    case c5 =>
      rintro xs w' ⟨V, h, rfl, rfl⟩
      refine (hcall V h).mono ?_
      rintro e w3 ⟨rfl, hb3⟩
      exact ⟨(), by rw [hcc], hb3⟩
    case c11 =>
      rintro xs u w' h
      refine (open_no (ha1.mono h) hn false (by rw [← hO]; exact HE.out)).mono ?_
      rintro e w3 ⟨rfl, hb3⟩
      exact ⟨rfl, h.trans (hb3.mono h.size)⟩
    case hQ =>
      intros
      exact HR _ _ _ hO.symm (by assumption) rfl rfl rfl
  | true =>
    have hO : openE p (p.card card && p.card frm && !decide (card = frm)) = openE p (card != frm) := by
      rw [hcc, Bool.true_and]
      congr 1
    refine wpIn_wide.1 (fitB (p := p) (a := a) (cap := cap) (card := card) (frm := frm) (q := (card != frm)) (er := openE p (card != frm)) (S0 := fun w' => Below W1.heap.size W1 w') (S1 := fun xs w' => ∃ V, Below W1.heap.size W1 V ∧ w' = V.alloc (.cells #[.int .i64 card, .int .i64 frm] 3) ∧ xs = .slice (some ⟨V.heap.size, 0, none⟩) 2 2)
      (S2 := fun _ _ w' => Below W1.heap.size W1 w') (S3 := fun _ _ w' => Below W1.heap.size W1 w') rfl ?h0 ?l0 ?l1 ?c4 ?c5 ?c11 ?hQ)
    case h0 => exact (Below.refl _ W1).drew
    case l0 =>
      intro xs u w' h
      rcases h with h | ⟨V, h, rfl, _⟩ | h
      · exact kp' _ h
      · exact kp' _ (h.alloc h.size _)
      · exact kp' _ h
    case l1 =>
      intro xs w' h
      rcases h with h | ⟨V, h, rfl, _⟩
      · exact kp' _ h
      · exact kp' _ (h.alloc h.size _)
    case c4 => exact fun w' h => ⟨w', h, rfl, rfl⟩
    case c5 =>
      rintro xs w' ⟨V, h, rfl, rfl⟩
      refine (hcall V h).mono ?_
      rintro e w3 ⟨rfl, hb3⟩
      exact ⟨(), by rw [hcc], hb3⟩
    case c11 =>
      rintro xs u w' h
      refine (open_no (ha1.mono h) hn (card != frm) (by rw [← hO]; exact HE.out)).mono ?_
      rintro e w3 ⟨rfl, hb3⟩
      exact ⟨rfl, h.trans (hb3.mono h.size)⟩
    case hQ =>
      intros
      exact HR _ _ _ hO.symm (by assumption) rfl rfl rfl
set_option maxRecDepth 100000 in
set_option maxHeartbeats 4000000 in
theorem from_no {p : Prs} {a : Option Addr} {cap : Nat} {w : World} (ha : IsPrts w a p.cards) (hn : p.cards.length ≤ 16) (card frm : Int) (hE : openE p (p.card card && p.card frm && !decide (card = frm)) ≠ 0) :
    Calls Try.prog 15 #[p.v a cap, .int .i64 card, .int .i64 frm] w fun e w' => e = .returned (.tuple #[.int .i64 0, .int .i64 (openE p (p.card card && p.card frm && !decide (card = frm)))]) ∧ Below w.heap.size w w' := by
  have hmf : ∀ (fn : Fn) (first cap : Array Value) (w : World), (Instr.makeFunc fn first cap).run Try.prog w = .ok (.func fn first cap) w := fun _ _ _ _ => rfl
  have HC := Lib.hid cf48
  have HE := Lib.hid hE
  clear hE
  refine calls_of_wp_x Try.func15 rfl ?_
  simp only [Try.ntmps15, List.size_toArray, List.length_cons, List.length_nil, Nat.reduceAdd, Nat.reduceSub, Array.replicate_succ, Array.replicate_zero, List.push_toArray, List.append_toArray, List.nil_append, List.cons_append]
  go_wp2_with fail
  obtain ⟨q0, q1, hz, hb⟩ := heap2 w (.cells (p.cells a cap) 26) (.cells #[.int .i64 0] 29)
  revert q0 q1 hz hb
  generalize ((w.alloc (.cells (p.cells a cap) 26)).alloc (.cells #[.int .i64 0] 29)) = W1
  intro q0 q1 hz hb
  have ha1 := ha.mono hb
  have kp := prs_cells q0
  have HR : ∀ (er : Int) (fr : Act) (w2 : World), er = openE p (p.card card && p.card frm && !decide (card = frm)) → Below W1.heap.size W1 w2 → fr.defers = [{ target := .fn (.func 48) #[.pointer (some ⟨w.heap.size + 1, 0, none⟩)], args := #[] }] → fr.tmps.getD 6 undef = .int .i64 0 → fr.tmps.getD 7 undef = .pointer (some ⟨w.heap.size + 1, 0, none⟩) →
      bodyPostX Try.prog Try.f15 (fun e w' => e = .returned (.tuple #[.int .i64 0, .int .i64 (openE p (p.card card && p.card frm && !decide (card = frm)))]) ∧ Below w.heap.size w w') (.panic [{ v := .iface 115 (.agg #[.int .i64 er]), recovered := false }]) fr w2 := by
    rintro er ⟨tm, df⟩ w2 rfl hb2 rfl ht6 ht7
    have he2 := (hb2.block (w.heap.size + 1) (by omega)).trans q1
    have hc2 : w2.cell? ⟨w.heap.size + 1, 0, none⟩ = some (.int .i64 0) := by rw [cell_of_heap he2]; rfl
    have hB2 : Below w.heap.size w w2 := hb.trans (hb2.mono hb.size)
    have hz2 := hb2.size
    have hb3 : Below w.heap.size w ((w2.alloc (.cells #[.int .i64 (openE p (p.card card && p.card frm && !decide (card = frm)))] 115)).setCell ⟨w.heap.size + 1, 0, none⟩ (.int .i64 (openE p (p.card card && p.card frm && !decide (card = frm))))) :=
      (hB2.alloc hB2.size _).setCell (by simp) _
    have hcell := World.cell?_setCell_same (w2.alloc (.cells #[.int .i64 (openE p (p.card card && p.card frm && !decide (card = frm)))] 115)) ⟨w.heap.size + 1, 0, none⟩ (.int .i64 (openE p (p.card card && p.card frm && !decide (card = frm)))) (cell_stays ((Below.refl _ w2).alloc (Nat.le_refl _) _) hc2)
    refine ⟨[], _, rfl, leaves_no (recov48_no _ hc2 (frozen_of_heap he2)) rfl HC.out (res_tc rfl _ ht7 hcell) ⟨?_, hb3⟩⟩
    rw [ht6]
  have kp' : ∀ w', Below W1.heap.size W1 w' → w'.cell? ⟨w.heap.size, 0, none⟩ = some (.slice a p.cards.length cap) ∧ w'.cell? ⟨w.heap.size, 1, none⟩ = some (.int .i64 p.llo) ∧ w'.cell? ⟨w.heap.size, 2, none⟩ = some (.int .i64 p.lhi) ∧ w'.cell? ⟨w.heap.size, 3, none⟩ = some (.int .i64 p.olo) ∧ w'.cell? ⟨w.heap.size, 4, none⟩ = some (.int .i64 p.ohi) := fun w' hb' => by
    obtain ⟨k0, k1, k2, k3, k4⟩ := kp
    exact ⟨cell_stays hb' k0, cell_stays hb' k1, cell_stays hb' k2, cell_stays hb' k3, cell_stays hb' k4⟩
  have hcall : ∀ V, Below W1.heap.size W1 V → Calls Try.prog 52 #[p.v a cap, .slice (some ⟨V.heap.size, 0, none⟩) 2 2] (V.alloc (.cells #[.int .i64 card, .int .i64 frm] 3)) fun e w' => e = .returned (.bool (p.card card && p.card frm)) ∧ Below W1.heap.size W1 w' := fun V h => by
    have hb' := h.alloc h.size (.cells #[.int .i64 card, .int .i64 frm] 3)
    refine (isCard_any (p := p) (a := a) (cap := cap) (l := [card, frm]) (cl := 2) hn (by simp) (ints_two _ _ (World.alloc_heap_new V _))).mono ?_
    rintro e w3 ⟨rfl, hb3⟩
    exact ⟨by simp, hb'.trans (hb3.mono hb'.size)⟩
  cases hcc : (p.card card && p.card frm) with
  | false =>
    have hO : openE p (p.card card && p.card frm && !decide (card = frm)) = openE p false := by rw [hcc]; rfl
    refine wpIn_wide.1 (froC (p := p) (a := a) (cap := cap) (card := card) (frm := frm) (q := false) (er := openE p false) (S0 := fun w' => Below W1.heap.size W1 w') (S1 := fun xs w' => ∃ V, Below W1.heap.size W1 V ∧ w' = V.alloc (.cells #[.int .i64 card, .int .i64 frm] 3) ∧ xs = .slice (some ⟨V.heap.size, 0, none⟩) 2 2)
      (S2 := fun _ _ w' => Below W1.heap.size W1 w') (S3 := fun _ _ w' => Below W1.heap.size W1 w') ?h0 ?l0 ?l1 ?c4 ?c5 ?c11 ?hQ)
    case h0 => exact (Below.refl _ W1).drew
    case l0 =>
      intro xs u w' h
      rcases h with h | ⟨V, h, rfl, _⟩ | h
      · exact kp' _ h
      · exact kp' _ (h.alloc h.size _)
      · exact kp' _ h
    case l1 =>
      intro xs w' h
      rcases h with h | ⟨V, h, rfl, _⟩
      · exact kp' _ h
      · exact kp' _ (h.alloc h.size _)
    case c4 => exact fun w' h => ⟨w', h, rfl, rfl⟩
    case c5 =>
      rintro xs w' ⟨V, h, rfl, rfl⟩
      refine (hcall V h).mono ?_
      rintro e w3 ⟨rfl, hb3⟩
      exact ⟨(), by rw [hcc], hb3⟩
    case c11 =>
      rintro xs u w' h
      refine (open_no (ha1.mono h) hn false (by rw [← hO]; exact HE.out)).mono ?_
      rintro e w3 ⟨rfl, hb3⟩
      exact ⟨rfl, h.trans (hb3.mono h.size)⟩
    case hQ =>
      intros
      exact HR _ _ _ hO.symm (by assumption) rfl rfl rfl
  | true =>
    have hO : openE p (p.card card && p.card frm && !decide (card = frm)) = openE p (card != frm) := by
      rw [hcc, Bool.true_and]
      congr 1
    refine wpIn_wide.1 (froB (p := p) (a := a) (cap := cap) (card := card) (frm := frm) (q := (card != frm)) (er := openE p (card != frm)) (S0 := fun w' => Below W1.heap.size W1 w') (S1 := fun xs w' => ∃ V, Below W1.heap.size W1 V ∧ w' = V.alloc (.cells #[.int .i64 card, .int .i64 frm] 3) ∧ xs = .slice (some ⟨V.heap.size, 0, none⟩) 2 2)
      (S2 := fun _ _ w' => Below W1.heap.size W1 w') (S3 := fun _ _ w' => Below W1.heap.size W1 w') rfl ?h0 ?l0 ?l1 ?c4 ?c5 ?c11 ?hQ)
    case h0 => exact (Below.refl _ W1).drew
    case l0 =>
      intro xs u w' h
      rcases h with h | ⟨V, h, rfl, _⟩ | h
      · exact kp' _ h
      · exact kp' _ (h.alloc h.size _)
      · exact kp' _ h
    case l1 =>
      intro xs w' h
      rcases h with h | ⟨V, h, rfl, _⟩
      · exact kp' _ h
      · exact kp' _ (h.alloc h.size _)
    case c4 => exact fun w' h => ⟨w', h, rfl, rfl⟩
    case c5 =>
      rintro xs w' ⟨V, h, rfl, rfl⟩
      refine (hcall V h).mono ?_
      rintro e w3 ⟨rfl, hb3⟩
      exact ⟨(), by rw [hcc], hb3⟩
    case c11 =>
      rintro xs u w' h
      refine (open_no (ha1.mono h) hn (card != frm) (by rw [← hO]; exact HE.out)).mono ?_
      rintro e w3 ⟨rfl, hb3⟩
      exact ⟨rfl, h.trans (hb3.mono h.size)⟩
    case hQ =>
      intros
      exact HR _ _ _ hO.symm (by assumption) rfl rfl rfl
theorem openE_parts {p : Prs} {b : Bool} (h : openE p b = 0) : p.valid = true ∧ b = true := by
  unfold openE at h
  cases hv : p.valid
  · rw [hv] at h; simp at h
  · cases b
    · rw [hv] at h; simp at h
    · exact ⟨rfl, rfl⟩
def bothP (p : Prs) (kc kf : Nat) : Prs := { p with cards := [gp p.cards kf, gp p.cards kc] }
theorem both_valid {p : Prs} (hv : p.valid = true) {kc kf : Nat} (hc : kc < p.cards.length) (hf : kf < p.cards.length) : (bothP p kc kf).valid = true := by
  unfold Prs.valid bothP at *
  simp only [Bool.and_eq_true, List.all_eq_true] at hv ⊢
  refine ⟨⟨⟨by simp, fun x hx => ?_⟩, hv.1.2⟩, hv.2⟩
  have h1 : gp p.cards kf ∈ p.cards := by simp [gp, hf]
  have h2 : gp p.cards kc ∈ p.cards := by simp [gp, hc]
  simp at hx
  rcases hx with rfl | rfl
  · exact hv.1.1.2 _ h1
  · exact hv.1.1.2 _ h2
abbrev twoArr (x y : Prt) : Array Value := #[.int .i64 x.slo, .int .i64 x.shi, .int .i64 x.wlo, .int .i64 x.whi, .int .i64 x.marks, .int .i64 y.slo, .int .i64 y.shi, .int .i64 y.wlo, .int .i64 y.whi, .int .i64 y.marks]
theorem prts_two {w : World} (x y : Prt) {g : Nat} (h : w.heap[g]? = some (.cells #[.int .i64 x.slo, .int .i64 x.shi, .int .i64 x.wlo, .int .i64 x.whi, .int .i64 x.marks, .int .i64 y.slo, .int .i64 y.shi, .int .i64 y.wlo, .int .i64 y.whi, .int .i64 y.marks] 54 (0, 0))) : IsPrts w (some ⟨g, 0, none⟩) [x, y] := fun i hi => by
  have : i = 0 ∨ i = 1 := by simp at hi; omega
  rcases this with rfl | rfl
  · exact ⟨g, 0, rfl, by rw [cell_of_heap h]; rfl, by rw [cell_of_heap h]; rfl, by rw [cell_of_heap h]; rfl, by rw [cell_of_heap h]; rfl, by rw [cell_of_heap h]; rfl⟩
  · exact ⟨g, 0, rfl, by rw [cell_of_heap h]; rfl, by rw [cell_of_heap h]; rfl, by rw [cell_of_heap h]; rfl, by rw [cell_of_heap h]; rfl, by rw [cell_of_heap h]; rfl⟩
set_option maxRecDepth 100000 in
set_option maxHeartbeats 4000000 in
theorem fits_yes {p : Prs} {a : Option Addr} {cap : Nat} {w : World} (ha : IsPrts w a p.cards) (hn : p.cards.length ≤ 16) (hv : p.valid = true) {kc kf : Nat} (hc : kc < p.cards.length) (hf : kf < p.cards.length) (hne : kc ≠ kf) :
    Calls Try.prog 34 #[p.v a cap, .int .i64 kc, .int .i64 kf] w fun e w' => e = .returned (.tuple #[.bool (isWayB (bothP p kc kf) [-1, 0]), .int .i64 0]) ∧ Below w.heap.size w w' := by
  have hmf : ∀ (fn : Fn) (first cap : Array Value) (w : World), (Instr.makeFunc fn first cap).run Try.prog w = .ok (.func fn first cap) w := fun _ _ _ _ => rfl
  have HC := Lib.hid cf81
  have HV := Lib.hid hv
  have hcc : p.card (kc : Int) = true ∧ p.card (kf : Int) = true := by unfold Prs.card inR; simp; omega
  have hq : ((kc : Int) != (kf : Int)) = true := by simp; omega
  have HQ1 := Lib.hid (And.intro hcc hq)
  clear hv hcc hq
  refine calls_of_wp_x Try.func34 rfl ?_
  simp only [Try.ntmps34, List.size_toArray, List.length_cons, List.length_nil, Nat.reduceAdd, Nat.reduceSub, Array.replicate_succ, Array.replicate_zero, List.push_toArray, List.append_toArray, List.nil_append, List.cons_append]
  go_wp2_with fail
  obtain ⟨q0, q1, hz, hb⟩ := heap2 w (.cells (p.cells a cap) 26) (.cells #[.int .i64 0] 29)
  revert q0 q1 hz hb
  generalize ((w.alloc (.cells (p.cells a cap) 26)).alloc (.cells #[.int .i64 0] 29)) = W1
  intro q0 q1 hz hb
  have ha1 := ha.mono hb
  have kp := prs_cells q0
  have kp' : ∀ w', Below W1.heap.size W1 w' → w'.cell? ⟨w.heap.size, 0, none⟩ = some (.slice a p.cards.length cap) ∧ w'.cell? ⟨w.heap.size, 1, none⟩ = some (.int .i64 p.llo) ∧ w'.cell? ⟨w.heap.size, 2, none⟩ = some (.int .i64 p.lhi) ∧ w'.cell? ⟨w.heap.size, 3, none⟩ = some (.int .i64 p.olo) ∧ w'.cell? ⟨w.heap.size, 4, none⟩ = some (.int .i64 p.ohi) := fun w' hb' => by
    obtain ⟨k0, k1, k2, k3, k4⟩ := kp
    exact ⟨cell_stays hb' k0, cell_stays hb' k1, cell_stays hb' k2, cell_stays hb' k3, cell_stays hb' k4⟩
  refine wpIn_wide.1 (fitA (p := p) (a := a) (cap := cap) (card := (kc : Int)) (frm := (kf : Int)) (q := true) (S0 := fun w' => Below W1.heap.size W1 w') (S1 := fun xs w' => ∃ V, Below W1.heap.size W1 V ∧ w' = V.alloc (.cells #[.int .i64 (kc : Int), .int .i64 (kf : Int)] 3) ∧ xs = .slice (some ⟨V.heap.size, 0, none⟩) 2 2)
    (S2 := fun _ _ w' => Below W1.heap.size W1 w') (S3 := fun _ _ _ w' => Below W1.heap.size W1 w') HQ1.out.2 ?h0 ?l0 ?l1 ?c4 ?c5 ?c11 ?hQ)
  case h0 => exact (Below.refl _ W1).drew
  case l0 =>
    intro xs u w' h
    rcases h with h | ⟨V, h, rfl, _⟩ | h
    · exact kp' _ h
    · exact kp' _ (h.alloc h.size _)
    · exact kp' _ h
  case l1 =>
    intro xs w' h
    rcases h with h | ⟨V, h, rfl, _⟩
    · exact kp' _ h
    · exact kp' _ (h.alloc h.size _)
  case c4 => exact fun w' h => ⟨w', h, rfl, rfl⟩
  case c5 =>
    rintro xs w' ⟨V, h, rfl, rfl⟩
    have hb' := h.alloc h.size (.cells #[.int .i64 (kc : Int), .int .i64 (kf : Int)] 3)
    refine (isCard_any (p := p) (a := a) (cap := cap) (l := [(kc : Int), (kf : Int)]) (cl := 2) hn (by simp) (ints_two _ _ (World.alloc_heap_new V _))).mono ?_
    rintro e w3 ⟨rfl, hb3⟩
    exact ⟨(), by simp [HQ1.out.1.1, HQ1.out.1.2], hb'.trans (hb3.mono hb'.size)⟩
  case c11 =>
    rintro xs u w' h
    refine (open_yes (ha1.mono h) hn HV.out).mono ?_
    rintro e w3 ⟨bp, g, rfl, _, hP, hb3⟩
    exact ⟨bp, rfl, h.trans (hb3.mono h.size)⟩
  case hQ =>
    intro xs u bp w3 hB3
    obtain ⟨k0, k1, k2, k3, k4⟩ := kp' w3 hB3
    obtain ⟨b, off, rfl, _⟩ := ha1 kc hc
    have HP := Lib.hid (And.intro ha1 (And.intro hB3 (And.intro q1 (And.intro hz hb))))
    have HKP := Lib.hid kp'
    clear ha1 hB3 q1 hz hb kp kp' q0 ha
    go_wp2_with fail
    clear k0 k1 k2 k3 k4
    have q5 := World.alloc_heap_new w3 (.cells (p.cells (some ⟨b, off, none⟩) cap) 26)
    have hz5 : (w3.alloc (.cells (p.cells (some ⟨b, off, none⟩) cap) 26)).heap.size = w3.heap.size + 1 := by simp
    have hb5 : Below W1.heap.size W1 (w3.alloc (.cells (p.cells (some ⟨b, off, none⟩) cap) 26)) := HP.out.2.1.alloc HP.out.2.1.size _
    revert q5 hz5 hb5
    generalize (w3.alloc (.cells (p.cells (some ⟨b, off, none⟩) cap) 26)) = V1
    intro q5 hz5 hb5
    obtain ⟨ha1, hB3, q1, hz, hb⟩ := HP.out
    have hW3 := hB3.size
    have cells : ∀ k, k < p.cards.length → ∀ w', Below V1.heap.size V1 w' → w'.cell? ⟨b, off + k * 5, none⟩ = some (.int .i64 (gp p.cards k).slo) ∧ w'.cell? ⟨b, off + k * 5 + 1, none⟩ = some (.int .i64 (gp p.cards k).shi) ∧ w'.cell? ⟨b, off + k * 5 + 2, none⟩ = some (.int .i64 (gp p.cards k).wlo) ∧ w'.cell? ⟨b, off + k * 5 + 3, none⟩ = some (.int .i64 (gp p.cards k).whi) ∧ w'.cell? ⟨b, off + k * 5 + 4, none⟩ = some (.int .i64 (gp p.cards k).marks) := by
      intro k hk w' h'
      obtain ⟨b2, off2, e, m0, m1, m2, m3, m4⟩ := ha1 k hk
      cases e
      have h2 := hb5.trans (h'.mono hb5.size)
      exact ⟨cell_stays h2 m0, cell_stays h2 m1, cell_stays h2 m2, cell_stays h2 m3, cell_stays h2 m4⟩
    have bxc : ∀ w', Below V1.heap.size V1 w' → w'.cell? ⟨w.heap.size, 0, none⟩ = some (.slice (some ⟨b, off, none⟩) p.cards.length cap) := fun w' h' => (HKP.out w' (hb5.trans (h'.mono hb5.size))).1
    refine wpIn_wide.1 (fit4 (p := p) (b := b) (off := off) (cap := cap) (bx := w.heap.size) (by_ := w3.heap.size) (kc := kc) (kf := kf) (S0 := fun w' => Below V1.heap.size V1 w')
      (S1 := fun rb w' => ∃ V, Below V1.heap.size V1 V ∧ w' = V.alloc (.cells (twoArr (gp p.cards kf) (gp p.cards kc)) 54) ∧ rb = V.heap.size)
      (S2 := fun rb w' => Below W1.heap.size W1 w' ∧ w'.heap[w3.heap.size]? = some (.cells ((bothP p kc kf).cells (some ⟨rb, 0, none⟩) 2) 26 (0, 0)) ∧ IsPrts w' (some ⟨rb, 0, none⟩) (bothP p kc kf).cards)
      hc hf hn ?d0 ?d1 ?d4 ?d6 ?d9 ?d10 ?d12 ?dQ)
    case d0 => exact (Below.refl _ V1).drew
    case d1 => exact fun w' h => bxc w' h
    case d4 => exact fun w' h => cells kf hf w' h
    case d6 => exact fun w' h => bxc w' h
    case d9 => exact fun w' h => cells kc hc w' h
    case d10 => exact fun w' h => ⟨w', h, rfl, rfl⟩
    case d12 =>
      rintro rb w' ⟨V, h, rfl, rfl⟩
      have hVz := h.size
      have e1 := (Below.heap_alloc V (.cells (twoArr (gp p.cards kf) (gp p.cards kc)) 54) w3.heap.size (by omega)).trans ((h.block _ (by omega)).trans q5)
      have e2 := World.alloc_heap_new V (.cells (twoArr (gp p.cards kf) (gp p.cards kc)) 54)
      have hB := (hb5.trans (h.mono hb5.size)).alloc (by have := hb5.size; omega) (.cells (twoArr (gp p.cards kf) (gp p.cards kc)) 54)
      refine ⟨⟨_, by rw [cell_of_heap e1]; rfl⟩, frozen_of_heap e1, hB.setCell hW3 _, heap_setCell_at (k := 0) e1 _, prts_two _ _ ((Below.heap_setCell _ _ _ _ ?_).trans e2)⟩
      show V.heap.size ≠ w3.heap.size
      omega
    case dQ =>
      rintro rb w6 ⟨hB6, q6, hI6⟩
      obtain ⟨c0, c1, c2, c3, c4⟩ := prs_cells q6
      have HB6 := Lib.hid (And.intro hB6 hI6)
      have HCV : Hid (∀ k, k < p.cards.length → True) := fun _ _ => trivial
      have HV2 := Lib.hid (both_valid HV.out hc hf)
      clear hB6 hI6 q6 ha1 hB3 q1 hz hb hW3 cells bxc q5 hz5 hb5
      go_wp2_with fail
      refine (open_yes (p := bothP p kc kf) (cap := 2) HB6.out.2 (by simp [bothP]) HV2.out).mono ?_
      rintro e w7 ⟨bp2, g2, rfl, _, hP7, hb7⟩
      have HP7 := Lib.hid (And.intro hP7 hb7)
      clear hP7 hb7 c0 c1 c2 c3 c4
      go_wp2_with fail
      have q8 := World.alloc_heap_new w7 (.cells #[.int .i64 (-1), .int .i64 0] 3)
      have hb8 : Below w7.heap.size w7 (w7.alloc (.cells #[.int .i64 (-1), .int .i64 0] 3)) := (Below.refl _ _).alloc (Nat.le_refl _) _
      refine (isWay_any (p := bothP p kc kf) (wl := [-1, 0]) (cw := 2) HV2.out ⟨rfl, by simp [bothP]⟩ (HP7.out.1.mono hb8) (ints_two (-1) 0 q8)).mono ?_
      rintro e w9 ⟨rfl, hb9⟩
      obtain ⟨ha1, hB3, q1, hz, hb⟩ := HP.out
      have hb10 : Below W1.heap.size W1 w9 := ((HB6.out.1.trans (HP7.out.2.mono HB6.out.1.size)).trans (hb8.mono (by have := HB6.out.1.size; have := HP7.out.2.size; omega))).trans (hb9.mono (by have := HB6.out.1.size; have := HP7.out.2.size; have := hb8.size; omega))
      have q9 := (hb10.block (w.heap.size + 1) (by omega)).trans q1
      have c9 : w9.cell? ⟨w.heap.size + 1, 0, none⟩ = some (.int .i64 0) := by rw [cell_of_heap q9]; rfl
      have f9 : w9.frozen? ⟨w.heap.size + 1, 0, none⟩ = false := frozen_of_heap q9
      have H9 := Lib.hid (And.intro q9 (And.intro (hb.trans (hb10.mono hb.size)) hz))
      clear hb10 q9 hb9 hb8 q8 ha1 hB3 q1 hz hb
      go_wp2_with fail
      have e9 := heap_setCell_at (k := 0) H9.out.1 (.int .i64 0)
      exact ⟨[], _, rfl, leaves_ok (recov81_ok _ _) HC.out (res_tc rfl _ rfl (x := .int .i64 0) (by rw [cell_of_heap e9]; rfl)) ⟨rfl, H9.out.2.1.setCell (by show w.heap.size ≤ w.heap.size + 1; omega) _⟩⟩
theorem fits_any {p : Prs} {a : Option Addr} {cap : Nat} {w : World} (ha : IsPrts w a p.cards) (hn : p.cards.length ≤ 16) (card frm : Int) :
    Calls Try.prog 34 #[p.v a cap, .int .i64 card, .int .i64 frm] w fun e w' => e = .returned (.tuple #[.bool (fitsE p card frm).1, .int .i64 (fitsE p card frm).2]) ∧ Below w.heap.size w w' := by
  by_cases hE : openE p (p.card card && p.card frm && !decide (card = frm)) = 0
  · obtain ⟨hv, hb⟩ := openE_parts hE
    simp at hb
    obtain ⟨⟨h1, h2⟩, h3⟩ := hb
    obtain ⟨kc, rfl, hkc⟩ := card_nat h1
    obtain ⟨kf, rfl, hkf⟩ := card_nat h2
    have : fitsE p kc kf = (isWayB (bothP p kc kf) [-1, 0], 0) := by unfold fitsE; rw [if_pos hE]; rfl
    rw [this]
    exact fits_yes ha hn hv hkc hkf (by omega)
  · have : fitsE p card frm = (false, openE p (p.card card && p.card frm && !decide (card = frm))) := by unfold fitsE; rw [if_neg hE]
    rw [this]
    exact fits_no ha hn card frm hE
end Go.Proofs.Ytnfhlbmapfoifaa

namespace Go.Proofs.Ytnfhlbmapfoifaa
open Go.RowKit
set_option linter.unusedVariables false

/-- Of the ways with the fewest originals: whether the card comes from the other one. -/
def fromL (few card frm : Nat) (l : List (List Int)) : List Bool := (l.filter fun w => decide (origN w = few)).map fun w => comesB w card frm
theorem fromL_snoc (few card frm : Nat) (l : List (List Int)) (x : List Int) : fromL few card frm (l ++ [x]) = fromL few card frm l ++ if origN x = few then [comesB x card frm] else [] := by
  unfold fromL
  rw [List.filter_append, List.map_append]
  by_cases h : origN x = few <;> simp [h]
theorem way_round {p : Prs} {x : List Int} (h : isWayB p x = true) : roundB x = false := by
  unfold isWayB at h
  simp at h
  exact h.1.1.2
theorem way_good {p : Prs} {x : List Int} (h : x ∈ waysL p) : GoodW p.cards.length x := ⟨(ways_all h).1, ways_rng h⟩
def fromR (l : List Bool) : Int := if l.all id then 2 else if l.any id then 1 else 0
set_option maxRecDepth 100000 in
set_option maxHeartbeats 8000000 in
theorem from_yes {p : Prs} {a : Option Addr} {cap : Nat} {w : World} (ha : IsPrts w a p.cards) (hn : p.cards.length ≤ 16) (hv : p.valid = true) {kc kf : Nat} (hc : kc < p.cards.length) (hf : kf < p.cards.length) (hne : kc ≠ kf) :
    Calls Try.prog 15 #[p.v a cap, .int .i64 kc, .int .i64 kf] w fun e w' => e = .returned (.tuple #[.int .i64 (fromR (fromL (origN (fewestW p)) kc kf (waysL p))), .int .i64 0]) ∧ Below w.heap.size w w' := by
  have hmf : ∀ (fn : Fn) (first cap : Array Value) (w : World), (Instr.makeFunc fn first cap).run Try.prog w = .ok (.func fn first cap) w := fun _ _ _ _ => rfl
  have HC := Lib.hid cf48
  have HV := Lib.hid hv
  have hcc : p.card (kc : Int) = true ∧ p.card (kf : Int) = true := by unfold Prs.card inR; simp; omega
  have hq : ((kc : Int) != (kf : Int)) = true := by simp; omega
  have HQ1 := Lib.hid (And.intro hcc hq)
  have hn5 := (valid_parts hv).1
  obtain ⟨n0, hn0⟩ : ∃ n0, (waysL p).length = n0 + 1 := by
    cases e : waysL p with
    | nil => exact absurd e (ways_ne hv)
    | cons x r => exact ⟨r.length, rfl⟩
  have HN := Lib.hid hn0
  have HNl := Lib.hid (ways_len hv)
  clear hv hcc hq hn0
  refine calls_of_wp_x Try.func15 rfl ?_
  simp only [Try.ntmps15, List.size_toArray, List.length_cons, List.length_nil, Nat.reduceAdd, Nat.reduceSub, Array.replicate_succ, Array.replicate_zero, List.push_toArray, List.append_toArray, List.nil_append, List.cons_append]
  go_wp2_with fail
  obtain ⟨q0, q1, hz, hb⟩ := heap2 w (.cells (p.cells a cap) 26) (.cells #[.int .i64 0] 29)
  revert q0 q1 hz hb
  generalize ((w.alloc (.cells (p.cells a cap) 26)).alloc (.cells #[.int .i64 0] 29)) = W1
  intro q0 q1 hz hb
  have ha1 := ha.mono hb
  have kp := prs_cells q0
  have kp' : ∀ w', Below W1.heap.size W1 w' → w'.cell? ⟨w.heap.size, 0, none⟩ = some (.slice a p.cards.length cap) ∧ w'.cell? ⟨w.heap.size, 1, none⟩ = some (.int .i64 p.llo) ∧ w'.cell? ⟨w.heap.size, 2, none⟩ = some (.int .i64 p.lhi) ∧ w'.cell? ⟨w.heap.size, 3, none⟩ = some (.int .i64 p.olo) ∧ w'.cell? ⟨w.heap.size, 4, none⟩ = some (.int .i64 p.ohi) := fun w' hb' => by
    obtain ⟨k0, k1, k2, k3, k4⟩ := kp
    exact ⟨cell_stays hb' k0, cell_stays hb' k1, cell_stays hb' k2, cell_stays hb' k3, cell_stays hb' k4⟩
  refine wpIn_wide.1 (froA (p := p) (a := a) (cap := cap) (card := (kc : Int)) (frm := (kf : Int)) (q := true) (n := n0 + 1) (S0 := fun w' => Below W1.heap.size W1 w') (S1 := fun xs w' => ∃ V, Below W1.heap.size W1 V ∧ w' = V.alloc (.cells #[.int .i64 (kc : Int), .int .i64 (kf : Int)] 3) ∧ xs = .slice (some ⟨V.heap.size, 0, none⟩) 2 2)
    (S2 := fun _ _ w' => Below W1.heap.size W1 w') (S3 := fun _ _ bp w' => ∃ g, PileP w' bp p a cap g ∧ Below W1.heap.size W1 w') (S4 := fun _ _ bp pb w' => ∃ g, PileP w' bp p a cap g ∧ w'.heap[pb]? = some (.cells #[.pointer (some ⟨bp, 0, none⟩)] 79 (0, 0)) ∧ Below W1.heap.size W1 w')
    (S5 := fun _ _ _ _ rs w' => (∃ L : List (List Int × Value), L.map Prod.fst = waysL p ∧ L.length = n0 + 1 ∧ IsRows w' rs.1 L) ∧ n0 + 1 ≤ rs.2 ∧ Below W1.heap.size W1 w') HQ1.out.2 ?h0 ?l0 ?l1 ?c4 ?c5 ?c11 ?c12 ?c13 ?hQ)
  case h0 => exact (Below.refl _ W1).drew
  case l0 =>
    intro xs u w' h
    rcases h with h | ⟨V, h, rfl, _⟩ | h
    · exact kp' _ h
    · exact kp' _ (h.alloc h.size _)
    · exact kp' _ h
  case l1 =>
    intro xs w' h
    rcases h with h | ⟨V, h, rfl, _⟩
    · exact kp' _ h
    · exact kp' _ (h.alloc h.size _)
  case c4 => exact fun w' h => ⟨w', h, rfl, rfl⟩
  case c5 =>
    rintro xs w' ⟨V, h, rfl, rfl⟩
    have hb' := h.alloc h.size (.cells #[.int .i64 (kc : Int), .int .i64 (kf : Int)] 3)
    refine (isCard_any (p := p) (a := a) (cap := cap) (l := [(kc : Int), (kf : Int)]) (cl := 2) hn (by simp) (ints_two _ _ (World.alloc_heap_new V _))).mono ?_
    rintro e w3 ⟨rfl, hb3⟩
    exact ⟨(), by simp [HQ1.out.1.1, HQ1.out.1.2], hb'.trans (hb3.mono hb'.size)⟩
  case c11 =>
    rintro xs u w' h
    refine (open_yes (ha1.mono h) hn HV.out).mono ?_
    rintro e w3 ⟨bp, g, rfl, _, hP, hb3⟩
    exact ⟨bp, rfl, g, hP, h.trans (hb3.mono h.size)⟩
  case c12 =>
    rintro xs u bp w' ⟨g, hP, h⟩
    refine ways_any.mono ?_
    rintro e w3 ⟨rfl, rfl⟩
    have hb3 : Below w'.heap.size w' (w'.alloc (.cells #[.pointer (some ⟨bp, 0, none⟩)] 79)) := (Below.refl _ _).alloc (Nat.le_refl _) _
    exact ⟨_, rfl, g, hP.mono hb3, World.alloc_heap_new _ _, h.trans (hb3.mono h.size)⟩
  case c13 =>
    rintro xs u bp pb w' ⟨g, hP, hpb, h⟩
    refine (collect_any HV.out hpb hP HNl.out).mono ?_
    rintro e w3 ⟨v, vs, rfl, h1, h2, hb3⟩
    obtain ⟨al, cl, rfl, hcl, L, hL1, hL2, hL3⟩ := rows_read h1 h2 rfl
    rw [HN.out] at hL2 hcl ⊢
    exact ⟨(al, cl), rfl, ⟨L, hL1, hL2, hL3⟩, hcl, h.trans (hb3.mono h.size)⟩
  case hQ =>
    rintro xs u bp pb ⟨al, cl⟩ w4 ⟨⟨L, hL1, hL2, hL3⟩, hcl, hB4⟩
    simp only at hL3 hcl ⊢
    obtain ⟨x0, L0, rfl⟩ : ∃ x0 L0, L = x0 :: L0 := by
      cases L with
      | nil => simp at hL2
      | cons x0 L0 => exact ⟨x0, L0, rfl⟩
    obtain ⟨b, off, rfl, k1, k2⟩ := hL3 0 (by simp)
    have k3 := hL3.tail
    have hall : ∀ x ∈ x0 :: L0, x.1 ∈ waysL p := fun x hx => by rw [← hL1]; exact List.mem_map_of_mem hx
    have hfew : (leastP x0 L0).1 = fewestW p := by rw [leastP_fst]; unfold fewestW; rw [← hL1]; rfl
    have hL0 : L0.length = n0 := by simpa using hL2
    obtain ⟨at_, hat⟩ : ∃ at_ : Option Addr, (if cl = 1 then some (⟨b, off, none⟩ : Addr) else some ⟨b, off + 1, none⟩) = at_ := ⟨_, rfl⟩
    have k3' : IsRows w4 at_ L0 := by
      by_cases hc1 : cl = 1
      · intro i hi
        omega
      · rw [if_neg hc1] at hat
        rw [← hat]; exact k3
    have hnl := HNl.out
    rw [HN.out] at hnl
    have HL : Hid (∀ V, Below w4.heap.size w4 V → Calls Try.prog 54 #[.func (.func 55) #[] #[], x0.2, .slice at_ n0 (cl - 1)] V fun e w' => e = .returned (leastP x0 L0).2 ∧ Below V.heap.size V w') := fun V hV => by
      rw [← hL0]
      exact (least_any (n := p.cards.length) (by omega) (ways_all (hall x0 (by simp))).1 (fun x hx => (ways_all (hall x (by simp [hx]))).1) (k2.mono hV) (k3'.mono hV) (by omega)).mono fun e w' h => ⟨h.1, by rw [← h.2]; exact Below.refl _ _⟩
    have hrow : RowV w4 (leastP x0 L0) := leastP_all (Q := RowV w4) L0 x0 k2 (fun x hx => by
      obtain ⟨i, hi, rfl⟩ := List.getElem_of_mem hx
      obtain ⟨_, _, _, _, k⟩ := k3 i hi
      have e : L0.getD i ([], undef) = L0[i] := by simp [hi]
      rw [e] at k
      exact k)
    obtain ⟨av, cv, hvx, hints⟩ := hrow
    rw [hfew] at hvx hints
    have hlen : (fewestW p).length ≤ 16 := by rw [← hfew, leastP_all (Q := fun x => x.1.length = p.cards.length) L0 x0 (ways_all (hall x0 (by simp))).1 (fun x hx => (ways_all (hall x (by simp [hx]))).1)]; omega
    have HB4 := Lib.hid (And.intro hB4 (And.intro hints (And.intro hlen (And.intro hvx (And.intro hat (And.intro k1 (And.intro hcl (And.intro hL3 (And.intro hall (And.intro hL1 (And.intro hL2 (And.intro ha1 (And.intro q1 (And.intro hz hb))))))))))))))
    clear k1 k2 k3 k3' hints hlen hvx hat hall hfew hnl hcl hL1 hL2 hL3 hL0 hB4 ha1 q1 hz hb kp kp' q0 ha
    go_wp2_with fail
    refine wpIn_wide.1 (fro3 (b := b) (off := off) (n := n0) (cap := cl) (vf := x0.2) (at_ := at_) (fw := origN (fewestW p)) (S0 := fun w' => Below w4.heap.size w4 w') (S1 := fun vx w' => vx = (leastP x0 L0).2 ∧ Below w4.heap.size w4 w') (S2 := fun _ _ w' => Below w4.heap.size w4 w') HB4.out.2.2.2.2.2.2.1 HB4.out.2.2.2.2.1 ?d0 ?d2 ?d5 ?d6 ?dQ)
    case d0 => exact (Below.refl _ _).drew
    case d2 => exact fun w' h => cell_stays h HB4.out.2.2.2.2.2.1
    case d5 =>
      intro w' h
      refine (HL.out w' h).mono ?_
      rintro e w5 ⟨rfl, hb5⟩
      exact ⟨_, rfl, rfl, h.trans (hb5.mono h.size)⟩
    case d6 =>
      rintro vx w' ⟨rfl, h⟩
      obtain ⟨_, hints, hlen, hvx, _⟩ := HB4.out
      rw [hvx]
      refine (originals_any hlen (hints.mono h)).mono ?_
      rintro e w5 ⟨rfl, rfl⟩
      exact ⟨(), rfl, h⟩
    case dQ =>
      intro vx u6 w5 hb5
      obtain ⟨hB4, hints, hlen, hvx, hat, k1, hcl, hL3, hall, hL1, hL2, ha1, q1, hz, hb⟩ := HB4.out
      have HR5 := Lib.hid (hL3.mono hb5)
      have hB5 : Below W1.heap.size W1 w5 := hB4.trans (hb5.mono hB4.size)
      have q5 := (hB5.block (w.heap.size + 1) (by omega)).trans q1
      have HH := Lib.hid (And.intro hall (And.intro hL1 (And.intro hL2 (And.intro q5 (hb.trans (hB5.mono hb.size))))))
      have hlw : w.heap.size + 1 < w5.heap.size := heap_lt q5
      have c5 : w5.cell? ⟨w.heap.size + 1, 0, none⟩ = some (.int .i64 0) := by rw [cell_of_heap q5]; rfl
      have f5 : w5.frozen? ⟨w.heap.size + 1, 0, none⟩ = false := frozen_of_heap q5
      have HC5 := Lib.hid (And.intro c5 f5)
      clear hB4 hints hlen hvx hat k1 hcl hL3 hall hL1 hL2 ha1 q1 hz hb hB5 q5 hb5 c5 f5 HB4 HL
      have hn0 : n0 + 1 ≤ 1000000 := by have := HNl.out; rw [HN.out] at this; exact this
      go_wp2_with fail
      go_loop [10, 11, 39] (fun s e i => ∃ (k : Nat) (s0 e0 : Bool), k ≤ n0 + 1 ∧ i = .int .i64 k ∧ s = .bool s0 ∧ e = .bool e0 ∧ Hid (s0 = (fromL (origN (fewestW p)) kc kf ((waysL p).take k)).any id ∧ e0 = (fromL (origN (fewestW p)) kc kf ((waysL p).take k)).all id)) (fun _ _ i => n0 + 1 - (intOf i).toNat)
      case atStart => exact ⟨0, false, true, by omega, rfl, rfl, rfl, rfl, rfl⟩
      case round =>
        obtain ⟨k, s0, e0, hk, rfl, rfl, rfl, HK⟩ := hrel
        by_cases hlt : k < n0 + 1
        · obtain ⟨hall, hL1, hL2, _⟩ := HH.out
          obtain ⟨b', off', e', hrc, ax, cx, hvx, hxi⟩ := HR5.out k (by omega)
          cases e'
          obtain ⟨y, hy⟩ : ∃ y, (x0 :: L0).getD k ([], undef) = y := ⟨_, rfl⟩
          have hkl : k < (x0 :: L0).length := by omega
          have hyk : (x0 :: L0)[k] = y := by rw [← hy, List.getD_eq_getElem?_getD, List.getElem?_eq_getElem hkl]; rfl
          have hym : y.1 ∈ waysL p := hall y (by rw [← hyk]; exact List.getElem_mem hkl)
          have hget : (waysL p)[k]? = some y.1 := by rw [← hL1, List.getElem?_map, List.getElem?_eq_getElem hkl, hyk]; rfl
          have hts : (waysL p).take (k + 1) = (waysL p).take k ++ [y.1] := by
            rw [List.take_succ_eq_append_getElem (List.getElem?_eq_some_iff.1 hget).1, (List.getElem?_eq_some_iff.1 hget).2]
          have HS : Hid (fromL (origN (fewestW p)) kc kf ((waysL p).take (k + 1)) = fromL (origN (fewestW p)) kc kf ((waysL p).take k) ++ if origN y.1 = origN (fewestW p) then [comesB y.1 kc kf] else []) := by rw [Hid, hts, fromL_snoc]
          rw [hy] at hrc hvx hxi
          obtain ⟨y1, y2⟩ := y
          simp only at hrc hvx hxi hym HS
          subst hvx
          have hyl := (ways_all hym).1
          have hyl16 : y1.length ≤ 16 := by omega
          have HY := Lib.hid (And.intro hym (And.intro hxi hyl))
          clear hall hL1 hL2 hy hyk hym hget hts hxi hkl hyl
          go_wp2_with fail
          refine (originals_any hyl16 HY.out.2.1).mono ?_
          rintro e w' ⟨rfl, rfl⟩
          by_cases ho : origN y1 = origN (fewestW p)
          · have hb1 : ((origN y1 : Int) == (origN (fewestW p) : Int)) = true := by simp [ho]
            have HO := Lib.hid ho
            clear ho
            go_wp2_with fail
            refine (comes_any (way_good HY.out.1) (by omega) (way_round (ways_all HY.out.1).2) hc hf HY.out.2.1).mono ?_
            rintro e w' ⟨rfl, rfl⟩
            obtain ⟨cm, hcm⟩ : ∃ cm, comesB y1 kc kf = cm := ⟨_, rfl⟩
            have HCM := Lib.hid hcm
            rw [hcm]
            clear hcm
            cases s0 <;> cases e0
            all_goals
              go_wp2_with fail
              go_round
              case rel =>
                refine ⟨k + 1, _, _, by omega, by go_num, rfl, rfl, ?_⟩
                rw [Hid, HS.out, if_pos HO.out, List.any_append, List.all_append, ← HK.out.1, ← HK.out.2, HCM.out]
                simp
              case measure => simp [intOf]; omega
          · have hb1 : ((origN y1 : Int) == (origN (fewestW p) : Int)) = false := by simp; omega
            have HO := Lib.hid ho
            clear ho
            go_wp2_with fail
            go_round
            case rel =>
              refine ⟨k + 1, s0, e0, by omega, by go_num, rfl, rfl, ?_⟩
              rw [Hid, HS.out, if_neg HO.out, List.append_nil]
              exact HK.out
            case measure => simp [intOf]; omega
        · obtain rfl : k = n0 + 1 := by omega
          have HK2 : Hid (s0 = (fromL (origN (fewestW p)) kc kf (waysL p)).any id ∧ e0 = (fromL (origN (fewestW p)) kc kf (waysL p)).all id) := by
            have h1 := HK.out
            have hle : (waysL p).length ≤ n0 + 1 := by rw [HN.out]; exact Nat.le_refl _
            rw [List.take_of_length_le hle] at h1
            exact h1
          obtain ⟨c5, f5⟩ := HC5.out
          cases e0
          · cases s0
            · have HF : Hid (fromR (fromL (origN (fewestW p)) kc kf (waysL p)) = 0) := by rw [Hid]; unfold fromR; rw [← HK2.out.1, ← HK2.out.2]; rfl
              clear HK HK2 hlt hk
              go_wp2_with fail
              obtain ⟨hall, hL1, hL2, q5, hBw⟩ := HH.out
              have e9 := heap_setCell_at (k := 0) q5 (.int .i64 0)
              exact ⟨[], _, rfl, leaves_ok (recov48_ok _ _) HC.out (res_tc rfl _ rfl (x := .int .i64 0) (by rw [cell_of_heap e9]; rfl)) ⟨by rw [HF.out]; rfl, hBw.setCell (by show w.heap.size ≤ w.heap.size + 1; omega) _⟩⟩
            · have HF : Hid (fromR (fromL (origN (fewestW p)) kc kf (waysL p)) = 1) := by rw [Hid]; unfold fromR; rw [← HK2.out.1, ← HK2.out.2]; rfl
              clear HK HK2 hlt hk
              go_wp2_with fail
              obtain ⟨hall, hL1, hL2, q5, hBw⟩ := HH.out
              have e9 := heap_setCell_at (k := 0) q5 (.int .i64 0)
              exact ⟨[], _, rfl, leaves_ok (recov48_ok _ _) HC.out (res_tc rfl _ rfl (x := .int .i64 0) (by rw [cell_of_heap e9]; rfl)) ⟨by rw [HF.out]; rfl, hBw.setCell (by show w.heap.size ≤ w.heap.size + 1; omega) _⟩⟩
          · have HF : Hid (fromR (fromL (origN (fewestW p)) kc kf (waysL p)) = 2) := by rw [Hid]; unfold fromR; rw [← HK2.out.2]; rfl
            clear HK HK2 hlt hk
            go_wp2_with fail
            obtain ⟨hall, hL1, hL2, q5, hBw⟩ := HH.out
            have e9 := heap_setCell_at (k := 0) q5 (.int .i64 0)
            exact ⟨[], _, rfl, leaves_ok (recov48_ok _ _) HC.out (res_tc rfl _ rfl (x := .int .i64 0) (by rw [cell_of_heap e9]; rfl)) ⟨by rw [HF.out]; rfl, hBw.setCell (by show w.heap.size ≤ w.heap.size + 1; omega) _⟩⟩
theorem from_any {p : Prs} {a : Option Addr} {cap : Nat} {w : World} (ha : IsPrts w a p.cards) (hn : p.cards.length ≤ 16) (card frm : Int) :
    Calls Try.prog 15 #[p.v a cap, .int .i64 card, .int .i64 frm] w fun e w' => e = .returned (.tuple #[.int .i64 (fromE p card frm).1, .int .i64 (fromE p card frm).2]) ∧ Below w.heap.size w w' := by
  by_cases hE : openE p (p.card card && p.card frm && !decide (card = frm)) = 0
  · obtain ⟨hv, hb⟩ := openE_parts hE
    simp at hb
    obtain ⟨⟨h1, h2⟩, h3⟩ := hb
    obtain ⟨kc, rfl, hkc⟩ := card_nat h1
    obtain ⟨kf, rfl, hkf⟩ := card_nat h2
    have : fromE p kc kf = (fromR (fromL (origN (fewestW p)) kc kf (waysL p)), 0) := by unfold fromE; rw [if_pos hE]; rfl
    rw [this]
    exact from_yes ha hn hv hkc hkf (by omega)
  · have : fromE p card frm = (0, openE p (p.card card && p.card frm && !decide (card = frm))) := by unfold fromE; rw [if_neg hE]
    rw [this]
    exact from_no ha hn card frm hE
end Go.Proofs.Ytnfhlbmapfoifaa

