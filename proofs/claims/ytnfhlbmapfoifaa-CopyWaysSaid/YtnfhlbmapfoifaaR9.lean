/- The reference's Fits. -/
import Derived.Test.YtnfhlbmapfoifaaR8
namespace Go.Proofs.Ytnfhlbmapfoifaa
open Go.RowKit
set_option linter.unusedVariables false
set_option linter.unusedSimpArgs false

theorem pair_ok {p : Prs} {card frm : Int} : (p.card card && p.card frm && !decide (card = frm)) = (p.card card && p.card frm && (card != frm)) := rfl
set_option maxRecDepth 100000 in
set_option maxHeartbeats 4000000 in
theorem fits_ref_no {p : Prs} {a : Option Addr} {cap : Nat} {w : World} (ha : IsPrts w a p.cards) (hn : p.cards.length ≤ 16) {card frm : Int} (hE : openE p (p.card card && p.card frm && (card != frm)) ≠ 0) :
    Calls Try.prog 35 #[p.v a cap, .int .i64 card, .int .i64 frm] w fun e w' => e = .returned (.tuple #[.bool false, .int .i64 (openE p (p.card card && p.card frm && (card != frm)))]) ∧ Below w.heap.size w w' := by
  have hb0 : Below w.heap.size w (w.alloc (.cells (p.cells a cap) 26)) := (Below.refl _ w).alloc (Nat.le_refl _) _
  have q0 := World.alloc_heap_new w (.cells (p.cells a cap) 26)
  have HW := Lib.hid (And.intro hb0 (And.intro q0 (ha.mono hb0)))
  clear hb0 q0 ha
  cases h1 : p.card card <;> cases h2 : p.card frm <;> cases h3 : (card != frm)
  all_goals
    rw [h1, h2, h3] at hE
    simp only [Bool.true_and, Bool.false_and, Bool.and_true, Bool.and_false, Bool.and_self] at hE ⊢
    have HE := Lib.hid hE
    have H1 := Lib.hid h1
    have H2 := Lib.hid h2
    clear hE h1 h2
    go_enter Try.func35, Try.ntmps35
    go_wp2_with fail
    revert HW
    generalize w.alloc (.cells (p.cells a cap) 26) = w1
    intro HW
    obtain ⟨k0, k1, k2, k3, k4⟩ := prs_cells HW.out.2.1
    have z0 := fun y : Aft w1.heap.size w1 => cell_stays y.h k0
    have z1 := fun y : Aft w1.heap.size w1 => cell_stays y.h k1
    have z2 := fun y : Aft w1.heap.size w1 => cell_stays y.h k2
    have z3 := fun y : Aft w1.heap.size w1 => cell_stays y.h k3
    have z4 := fun y : Aft w1.heap.size w1 => cell_stays y.h k4
    clear k0 k1 k2 k3 k4
    have C1 := Lib.hid (fun z : Aft w1.heap.size w1 => rcard_any (p := p) (a := a) (cap := cap) (w := z.v) hn card)
    have C2 := Lib.hid (fun z : Aft w1.heap.size w1 => rcard_any (p := p) (a := a) (cap := cap) (w := z.v) hn frm)
    have C3 := Lib.hid (fun (ok : Bool) (z : Aft w1.heap.size w1) => rcheck_any (cap := cap) (HW.out.2.2.mono z.h) hn ok)
    rw [H1.out] at C1
    rw [H2.out] at C2
    refine wp_region_aft mixed (by kernel_rfl) ?_
    iterate 4 (go_big_quiet_step ((go_at_call 58; exact calls_aft (C1.out _))))
    repeat (go_big_quiet_step (first | (go_at_call 58; exact calls_aft (C2.out _)) | (go_at_call 57; exact calls_aft (C3.out _ _))))
    refine wpQuiet_nil ?_
    rintro _ ⟨z, rfl⟩
    clear C1 C2 C3 z0 z1 z2 z3 z4
    have hnb := bne_iff_ne.2 HE.out
    go_wp2_with fail
    refine bodyPost_ret (results_tmp2 rfl _ _ _) rfl ?_
    exact ⟨rfl, HW.out.1.trans (z.h.mono HW.out.1.size)⟩
set_option maxRecDepth 100000 in
set_option maxHeartbeats 4000000 in
theorem fits_ref_yes {p : Prs} {a : Option Addr} {cap : Nat} {w : World} (ha : IsPrts w a p.cards) (hn : p.cards.length ≤ 16) (hv : p.valid = true) {kc kf : Nat} (hc : kc < p.cards.length) (hf : kf < p.cards.length) (hne : kc ≠ kf) :
    Calls Try.prog 35 #[p.v a cap, .int .i64 kc, .int .i64 kf] w fun e w' => e = .returned (.tuple #[.bool (isWayB (bothP p kc kf) [-1, 0]), .int .i64 0]) ∧ Below w.heap.size w w' := by
  have hb0 : Below w.heap.size w (w.alloc (.cells (p.cells a cap) 26)) := (Below.refl _ w).alloc (Nat.le_refl _) _
  have q0 := World.alloc_heap_new w (.cells (p.cells a cap) 26)
  have HW := Lib.hid (And.intro hb0 (And.intro q0 (ha.mono hb0)))
  have HV := Lib.hid hv
  have h1 : p.card (kc : Int) = true := by unfold Prs.card inR; simp; omega
  have h2 : p.card (kf : Int) = true := by unfold Prs.card inR; simp; omega
  have h3 : ((kc : Int) != (kf : Int)) = true := by simp; omega
  have h4 : openE p true = 0 := by simp [openE, hv]
  have H1 := Lib.hid h1
  have H2 := Lib.hid h2
  have H4 := Lib.hid h4
  clear hb0 q0 ha hv h1 h2 h4
  go_enter Try.func35, Try.ntmps35
  go_wp2_with fail
  revert HW
  generalize w.alloc (.cells (p.cells a cap) 26) = w1
  intro HW
  obtain ⟨k0, k1, k2, k3, k4⟩ := prs_cells HW.out.2.1
  have z0 := fun y : Aft w1.heap.size w1 => cell_stays y.h k0
  have z1 := fun y : Aft w1.heap.size w1 => cell_stays y.h k1
  have z2 := fun y : Aft w1.heap.size w1 => cell_stays y.h k2
  have z3 := fun y : Aft w1.heap.size w1 => cell_stays y.h k3
  have z4 := fun y : Aft w1.heap.size w1 => cell_stays y.h k4
  clear k0 k1 k2 k3 k4
  have C1 := Lib.hid (fun z : Aft w1.heap.size w1 => rcard_any (p := p) (a := a) (cap := cap) (w := z.v) hn kc)
  have C2 := Lib.hid (fun z : Aft w1.heap.size w1 => rcard_any (p := p) (a := a) (cap := cap) (w := z.v) hn kf)
  have C3 := Lib.hid (fun (z : Aft w1.heap.size w1) => rcheck_any (cap := cap) (HW.out.2.2.mono z.h) hn true)
  rw [H1.out] at C1
  rw [H2.out] at C2
  rw [H4.out] at C3
  refine wp_region_aft mixed (by kernel_rfl) ?_
  iterate 4 (go_big_quiet_step ((go_at_call 58; exact calls_aft (C1.out _))))
  repeat (go_big_quiet_step (first | (go_at_call 58; exact calls_aft (C2.out _)) | (go_at_call 57; exact calls_aft (C3.out _))))
  refine wpQuiet_nil ?_
  rintro _ ⟨z, rfl⟩
  clear C1 C2 C3 z0 z1 z2 z3 z4
  have hb1 := z.h
  revert hb1
  generalize z.v = v1
  intro hb1
  have hB1 := HW.out.1.trans (hb1.mono HW.out.1.size)
  have q1 := (hb1.block _ (heap_lt HW.out.2.1)).trans HW.out.2.1
  have ha1 := HW.out.2.2.mono hb1
  obtain ⟨b, off, rfl, hjunk⟩ := ha1 kc hc
  clear hjunk
  obtain ⟨k0, k1, k2, k3, k4⟩ := prs_cells q1
  have HP := Lib.hid (And.intro hB1 (And.intro q1 ha1))
  clear hB1 q1 ha1 HW hb1
  go_wp2_with fail
  clear k0 k1 k2 k3 k4
  have q5 := World.alloc_heap_new v1 (.cells (p.cells (some ⟨b, off, none⟩) cap) 26)
  have hb5 : Below v1.heap.size v1 (v1.alloc (.cells (p.cells (some ⟨b, off, none⟩) cap) 26)) := (Below.refl _ v1).alloc (Nat.le_refl _) _
  revert q5 hb5
  generalize (v1.alloc (.cells (p.cells (some ⟨b, off, none⟩) cap) 26)) = V1
  intro q5 hb5
  have hB5 := HP.out.1.trans (hb5.mono HP.out.1.size)
  have qx := (hb5.block _ (heap_lt HP.out.2.1)).trans HP.out.2.1
  have ha5 := HP.out.2.2.mono hb5
  have bxc : ∀ w', Below V1.heap.size V1 w' → w'.cell? ⟨w.heap.size, 0, none⟩ = some (.slice (some ⟨b, off, none⟩) p.cards.length cap) := fun w' h' => (prs_cells ((h'.block _ (heap_lt qx)).trans qx)).1
  have cells : ∀ k, k < p.cards.length → ∀ w', Below V1.heap.size V1 w' → _ := fun k hk w' h' => prt_at (ha5.mono h') hk
  have hv1 : w.heap.size ≤ v1.heap.size := HP.out.1.size
  refine wpIn_wide.1 (rfit5 (p := p) (b := b) (off := off) (cap := cap) (bx := w.heap.size) (by_ := v1.heap.size) (kc := kc) (kf := kf) (S0 := fun w' => Below V1.heap.size V1 w')
    (S1 := fun rb w' => ∃ V, Below V1.heap.size V1 V ∧ w' = V.alloc (.cells (twoArr (gp p.cards kf) (gp p.cards kc)) 54) ∧ rb = V.heap.size)
    (S2 := fun rb w' => Below w.heap.size w w' ∧ w'.heap[v1.heap.size]? = some (.cells ((bothP p kc kf).cells (some ⟨rb, 0, none⟩) 2) 26 (0, 0)) ∧ IsPrts w' (some ⟨rb, 0, none⟩) (bothP p kc kf).cards)
    hc hf hn ?d0 ?d1 ?d4 ?d6 ?d9 ?d10 ?d12 ?dQ)
  case d0 => exact (Below.refl _ V1).drew
  case d1 => exact fun w' h => bxc w' h
  case d4 => exact fun w' h => cells kf hf w' h
  case d6 => exact fun w' h => bxc w' h
  case d9 => exact fun w' h => cells kc hc w' h
  case d10 => exact fun w' h => ⟨w', h, rfl, rfl⟩
  case d12 =>
    rintro rb w' ⟨V, h, rfl, rfl⟩
    have hVz := h.size
    have hl5 := heap_lt q5
    have e1 := (Below.heap_alloc V (.cells (twoArr (gp p.cards kf) (gp p.cards kc)) 54) v1.heap.size (by omega)).trans ((h.block _ (by omega)).trans q5)
    have e2 := World.alloc_heap_new V (.cells (twoArr (gp p.cards kf) (gp p.cards kc)) 54)
    have hB := (hB5.trans (h.mono hB5.size)).alloc (by have := hB5.size; omega) (.cells (twoArr (gp p.cards kf) (gp p.cards kc)) 54)
    refine ⟨⟨_, by rw [cell_of_heap e1]; rfl⟩, frozen_of_heap e1, hB.setCell hv1 _, heap_setCell_at (k := 0) e1 _, prts_two _ _ ((Below.heap_setCell _ _ _ _ ?_).trans e2)⟩
    show V.heap.size ≠ v1.heap.size
    omega
  case dQ =>
    rintro rb w6 ⟨hB6, q6, hI6⟩
    obtain ⟨c0, c1, c2, c3, c4⟩ := prs_cells q6
    have HB6 := Lib.hid (And.intro hB6 hI6)
    have HV2 := Lib.hid (both_valid HV.out hc hf)
    clear hB6 hI6 q6 hB5 qx ha5 bxc cells hv1 q5 hb5
    go_wp2_with fail
    have q8 := World.alloc_heap_new w6 (.cells #[.int .i64 (-1), .int .i64 0] 3)
    have hb8 : Below w6.heap.size w6 (w6.alloc (.cells #[.int .i64 (-1), .int .i64 0] 3)) := (Below.refl _ _).alloc (Nat.le_refl _) _
    refine (way_ref (p := bothP p kc kf) (wl := [-1, 0]) (cap := 2) (cw := 2) HV2.out ⟨rfl, by simp [bothP]⟩ (HB6.out.2.mono hb8) (ints_two (-1) 0 q8)).mono ?_
    rintro e w9 ⟨rfl, hb9⟩
    have hB9 := HB6.out.1.trans ((hb8.trans (hb9.mono hb8.size)).mono HB6.out.1.size)
    have HB9 := Lib.hid hB9
    clear q8 hb8 hb9 hB9 c0 c1 c2 c3 c4
    go_wp2_with fail
    refine bodyPost_ret (results_tmp2 rfl _ _ _) rfl ?_
    exact ⟨rfl, HB9.out⟩
theorem fits_ref {p : Prs} {a : Option Addr} {cap : Nat} {w : World} (ha : IsPrts w a p.cards) (hn : p.cards.length ≤ 16) (card frm : Int) :
    Calls Try.prog 35 #[p.v a cap, .int .i64 card, .int .i64 frm] w fun e w' => e = .returned (.tuple #[.bool (fitsE p card frm).1, .int .i64 (fitsE p card frm).2]) ∧ Below w.heap.size w w' := by
  by_cases hE : openE p (p.card card && p.card frm && !decide (card = frm)) = 0
  · obtain ⟨hv, hb⟩ := openE_parts hE
    simp at hb
    obtain ⟨⟨h1, h2⟩, h3⟩ := hb
    obtain ⟨kc, rfl, hkc⟩ := card_nat h1
    obtain ⟨kf, rfl, hkf⟩ := card_nat h2
    have e : fitsE p kc kf = (isWayB (bothP p kc kf) [-1, 0], 0) := by unfold fitsE; rw [if_pos hE]; rfl
    rw [e]
    exact fits_ref_yes ha hn hv hkc hkf (by omega)
  · have e : fitsE p card frm = (false, openE p (p.card card && p.card frm && !decide (card = frm))) := by unfold fitsE; rw [if_neg hE]
    rw [e]
    exact fits_ref_no ha hn hE
end Go.Proofs.Ytnfhlbmapfoifaa
