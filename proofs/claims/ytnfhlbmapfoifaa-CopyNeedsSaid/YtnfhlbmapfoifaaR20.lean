/- The reference's From. -/
import Derived.Test.YtnfhlbmapfoifaaR19
import Derived.Test.YtnfhlbmapfoifaaR17
namespace Go.Proofs.Ytnfhlbmapfoifaa
open Go.RowKit
set_option linter.unusedVariables false
set_option linter.unusedSimpArgs false

def frmN (l : List Bool) : Int := if l.all id then 2 else if l.any id then 1 else 0
theorem all_count (l : List Bool) : l.all id = true ↔ l.countP id = l.length := by
  rw [List.all_eq_true, List.countP_eq_length]
theorem any_count (l : List Bool) : l.any id = true ↔ l.countP id ≠ 0 := by
  rw [List.any_eq_true, ← Nat.pos_iff_ne_zero, List.countP_pos_iff]
theorem frmN_all {l : List Bool} (h : l.countP id = l.length) : frmN l = 2 := by unfold frmN; rw [if_pos ((all_count l).2 h)]
theorem frmN_none {l : List Bool} (h : l.countP id ≠ l.length) (h0 : l.countP id = 0) : frmN l = 0 := by
  unfold frmN
  rw [if_neg (fun e => h ((all_count l).1 e)), if_neg (fun e => (any_count l).1 e h0)]
theorem frmN_some {l : List Bool} (h : l.countP id ≠ l.length) (h0 : l.countP id ≠ 0) : frmN l = 1 := by
  unfold frmN
  rw [if_neg (fun e => h ((all_count l).1 e)), if_pos ((any_count l).2 h0)]
set_option maxRecDepth 100000 in
set_option maxHeartbeats 4000000 in
theorem from_ref_no {p : Prs} {a : Option Addr} {cap : Nat} {w : World} (ha : IsPrts w a p.cards) (hn : p.cards.length ≤ 16) {card frm : Int} (hE : openE p (p.card card && p.card frm && (card != frm)) ≠ 0) :
    Calls Try.prog 16 #[p.v a cap, .int .i64 card, .int .i64 frm] w fun e w' => e = .returned (.tuple #[.int .i64 0, .int .i64 (openE p (p.card card && p.card frm && (card != frm)))]) ∧ Below w.heap.size w w' := by
  have hb0 : Below w.heap.size w (w.alloc (.cells (p.cells a cap) 26)) := (Below.refl _ w).alloc (Nat.le_refl _) _
  have q0 := World.alloc_heap_new w (.cells (p.cells a cap) 26)
  have HW := Lib.hid (And.intro hb0 (And.intro q0 (ha.mono hb0)))
  clear hb0 q0 ha
  cases h1 : p.card card <;> cases h2 : p.card frm <;> cases h3 : (card != frm)
  all_goals
    rw [h1, h2, h3] at hE
    simp only [Bool.true_and, Bool.false_and, Bool.and_true, Bool.and_false, Bool.and_self] at hE ⊢
    have HE := Lib.hid hE
    have H1 := Lib.hid h1
    have H2 := Lib.hid h2
    clear hE h1 h2
    go_enter Try.func16, Try.ntmps16
    go_wp2_with fail
    revert HW
    generalize w.alloc (.cells (p.cells a cap) 26) = w1
    intro HW
    obtain ⟨k0, k1, k2, k3, k4⟩ := prs_cells HW.out.2.1
    have z0 := fun y : Aft w1.heap.size w1 => cell_stays y.h k0
    have z1 := fun y : Aft w1.heap.size w1 => cell_stays y.h k1
    have z2 := fun y : Aft w1.heap.size w1 => cell_stays y.h k2
    have z3 := fun y : Aft w1.heap.size w1 => cell_stays y.h k3
    have z4 := fun y : Aft w1.heap.size w1 => cell_stays y.h k4
    clear k0 k1 k2 k3 k4
    have C1 := Lib.hid (fun z : Aft w1.heap.size w1 => rcard_any (p := p) (a := a) (cap := cap) (w := z.v) hn card)
    have C2 := Lib.hid (fun z : Aft w1.heap.size w1 => rcard_any (p := p) (a := a) (cap := cap) (w := z.v) hn frm)
    have C3 := Lib.hid (fun (ok : Bool) (z : Aft w1.heap.size w1) => rcheck_any (cap := cap) (HW.out.2.2.mono z.h) hn ok)
    rw [H1.out] at C1
    rw [H2.out] at C2
    refine wp_region_aft mixed (by kernel_rfl) ?_
    iterate 4 (go_big_quiet_step ((go_at_call 58; exact calls_aft (C1.out _))))
    repeat (go_big_quiet_step (first | (go_at_call 58; exact calls_aft (C2.out _)) | (go_at_call 57; exact calls_aft (C3.out _ _))))
    refine wpQuiet_nil ?_
    rintro _ ⟨z, rfl⟩
    clear C1 C2 C3 z0 z1 z2 z3 z4
    have hnb := bne_iff_ne.2 HE.out
    go_wp2_with fail
    refine bodyPost_ret (results_tmp2 rfl _ _ _) rfl ?_
    exact ⟨rfl, HW.out.1.trans (z.h.mono HW.out.1.size)⟩
set_option maxRecDepth 100000 in
set_option maxHeartbeats 4000000 in
theorem from_ref_yes {p : Prs} {a : Option Addr} {cap : Nat} {w : World} (ha : IsPrts w a p.cards) (hn : p.cards.length ≤ 16) (hv : p.valid = true) {kc kf : Nat} (hc : kc < p.cards.length) (hf : kf < p.cards.length) (hne : kc ≠ kf) :
    Calls Try.prog 16 #[p.v a cap, .int .i64 kc, .int .i64 kf] w fun e w' => e = .returned (.tuple #[.int .i64 (frmN (fromL (minW (waysL p)) kc kf (waysL p))), .int .i64 0]) ∧ Below w.heap.size w w' := by
  have hb0 : Below w.heap.size w (w.alloc (.cells (p.cells a cap) 26)) := (Below.refl _ w).alloc (Nat.le_refl _) _
  have q0 := World.alloc_heap_new w (.cells (p.cells a cap) 26)
  have HW := Lib.hid (And.intro hb0 (And.intro q0 (ha.mono hb0)))
  have HV := Lib.hid hv
  have h1 : p.card (kc : Int) = true := by unfold Prs.card inR; simp; omega
  have h2 : p.card (kf : Int) = true := by unfold Prs.card inR; simp; omega
  have h3 : ((kc : Int) != (kf : Int)) = true := by simp; omega
  have h4 : openE p true = 0 := by simp [openE, hv]
  have H1 := Lib.hid h1
  have H2 := Lib.hid h2
  have H4 := Lib.hid h4
  clear hb0 q0 ha hv h1 h2 h4
  go_enter Try.func16, Try.ntmps16
  go_wp2_with fail
  revert HW
  generalize w.alloc (.cells (p.cells a cap) 26) = w1
  intro HW
  obtain ⟨k0, k1, k2, k3, k4⟩ := prs_cells HW.out.2.1
  have z0 := fun y : Aft w1.heap.size w1 => cell_stays y.h k0
  have z1 := fun y : Aft w1.heap.size w1 => cell_stays y.h k1
  have z2 := fun y : Aft w1.heap.size w1 => cell_stays y.h k2
  have z3 := fun y : Aft w1.heap.size w1 => cell_stays y.h k3
  have z4 := fun y : Aft w1.heap.size w1 => cell_stays y.h k4
  clear k0 k1 k2 k3 k4
  have C1 := Lib.hid (fun z : Aft w1.heap.size w1 => rcard_any (p := p) (a := a) (cap := cap) (w := z.v) hn kc)
  have C2 := Lib.hid (fun z : Aft w1.heap.size w1 => rcard_any (p := p) (a := a) (cap := cap) (w := z.v) hn kf)
  have C3 := Lib.hid (fun (z : Aft w1.heap.size w1) => rcheck_any (cap := cap) (HW.out.2.2.mono z.h) hn true)
  rw [H1.out] at C1
  rw [H2.out] at C2
  rw [H4.out] at C3
  refine wp_region_aft mixed (by kernel_rfl) ?_
  iterate 4 (go_big_quiet_step ((go_at_call 58; exact calls_aft (C1.out _))))
  repeat (go_big_quiet_step (first | (go_at_call 58; exact calls_aft (C2.out _)) | (go_at_call 57; exact calls_aft (C3.out _))))
  refine wpQuiet_nil ?_
  rintro _ ⟨z, rfl⟩
  clear C1 C2 C3 z0 z1 z2 z3 z4
  have hb1 := z.h
  revert hb1
  generalize z.v = v1
  intro hb1
  obtain ⟨k0, k1, k2, k3, k4⟩ := prs_cells ((hb1.block _ (heap_lt HW.out.2.1)).trans HW.out.2.1)
  have HA := Lib.hid (HW.out.2.2.mono hb1)
  have HB1 := Lib.hid (HW.out.1.trans (hb1.mono HW.out.1.size))
  have hn5 := (valid_parts HV.out).1
  have hle := waysL_le hn5
  have HLW : Hid (∀ x ∈ waysL p, x.length ≤ 5) := fun x hx => by have := (ways_all hx).1; omega
  clear hb1
  go_wp2_with fail
  refine (all_ref HA.out HV.out).mono ?_
  rintro e w3 ⟨v', rfl, hr, hb3⟩
  obtain ⟨a2, c2, rfl, hli⟩ := hr.lists
  have HB3 := Lib.hid (HB1.out.trans (hb3.mono HB1.out.size))
  have HLI := Lib.hid hli
  clear hr hb3 k0 k1 k2 k3 k4 hli
  go_wp2_with fail
  refine (few_ref HLI.out (by omega) HLW.out).mono ?_
  rintro e w4 ⟨v4, rfl, ho⟩
  obtain ⟨a4, c4, rfl⟩ := ho.sl
  have HB4 := Lib.hid (HB3.out.trans (ho.1.mono HB3.out.size))
  have HLS := Lib.hid ho.lists
  have hfl : (fewL (waysL p)).length ≤ 7776 := Nat.le_trans (List.length_filter_le _ _) hle
  have HG : Hid (∀ k, k < (fewL (waysL p)).length → (fewL (waysL p)).getD k [] ∈ waysL p) := fun k hk => (List.mem_filter.1 (show (fewL (waysL p)).getD k [] ∈ fewL (waysL p) by simp [hk])).1
  have HE : Hid (fromL (minW (waysL p)) kc kf (waysL p) = (fewL (waysL p)).map fun w => comesB w kc kf) := rfl
  clear ho hle
  go_wp2_with fail
  go_loopw [10, 11] (fun x i wr => ∃ j c : Nat, j ≤ (fewL (waysL p)).length ∧ i = .int .i64 j ∧ x = .int .i64 c ∧ c ≤ j ∧ Hid (c = (((fewL (waysL p)).take j).map fun w => comesB w kc kf).countP id) ∧ w4 = wr) (fun x i _ => (fewL (waysL p)).length - (intOf i).toNat)
  case atStart => exact ⟨0, 0, by omega, rfl, rfl, by omega, by simp [Hid], rfl⟩
  case round =>
    obtain ⟨j, c, hj, rfl, rfl, hcj, HC, rfl⟩ := hrel
    by_cases hlt : j < (fewL (waysL p)).length
    · obtain ⟨lb, lo, rfl, ax, cx, hcell, hints⟩ := HLS.out j hlt
      have hmem := HG.out j hlt
      have HS : Hid ((((fewL (waysL p)).take (j + 1)).map fun w => comesB w kc kf).countP id = (((fewL (waysL p)).take j).map fun w => comesB w kc kf).countP id + (if comesB ((fewL (waysL p)).getD j []) kc kf then 1 else 0)) := by
        rw [Hid, List.take_succ_eq_append_getElem hlt, List.map_append, List.countP_append]
        simp [hlt, List.countP_cons]
      obtain ⟨hxl, hxw⟩ := ways_all hmem
      have hxg : GoodW p.cards.length ((fewL (waysL p)).getD j []) := ⟨by simpa using hxl, ways_rng hmem⟩
      have hxr : roundB ((fewL (waysL p)).getD j []) = false := by
        unfold isWayB at hxw
        cases hq : roundB ((fewL (waysL p)).getD j [])
        · rfl
        · rw [hq] at hxw; simp at hxw
      revert hcell hints HS hxg hxr
      generalize (fewL (waysL p)).getD j [] = x
      intro hcell hints HS hxg hxr
      have HCM := Lib.hid (comes_ref (cap := cx) hxg hn5 hxr hc hf hints)
      clear hints hmem hxl hxw hxg hxr
      go_wp2_with fail
      refine HCM.out.mono ?_
      rintro e w' ⟨rfl, rfl⟩
      cases hq : comesB x kc kf
      · rw [hq] at HS
        clear hq
        go_wp2_with fail
        go_roundw
        case rel => exact ⟨j + 1, c, by omega, by go_num, rfl, by omega, by rw [Hid, HS.out, ← HC.out]; rfl, by first | trivial | rfl⟩
        case measure => simp [intOf]; omega
      · rw [hq] at HS
        clear hq
        go_wp2_with fail
        go_roundw
        case rel => exact ⟨j + 1, c + 1, by omega, by go_num, by go_num, by omega, by rw [Hid, HS.out, ← HC.out]; rfl, by first | trivial | rfl⟩
        case measure => simp [intOf]; omega
    · obtain rfl : j = (fewL (waysL p)).length := by omega
      have HM : Hid (c = ((fewL (waysL p)).map fun w => comesB w kc kf).countP id) := by rw [Hid, HC.out, List.take_length]
      by_cases h1 : c = (fewL (waysL p)).length
      · have hb : ((c : Int) == ((fewL (waysL p)).length : Int)) = true := by rw [h1]; simp
        have H1' := Lib.hid h1
        clear h1
        go_wp2_with fail
        refine bodyPost_ret (results_tmp2 rfl _ _ _) rfl ?_
        exact ⟨by rw [HE.out, frmN_all (by rw [← HM.out, H1'.out]; simp)]; rfl, HB4.out⟩
      · have hb : ((c : Int) == ((fewL (waysL p)).length : Int)) = false := by simp; omega
        have H1' := Lib.hid h1
        by_cases h2 : c = 0
        · subst h2
          go_wp2_with fail
          refine bodyPost_ret (results_tmp2 rfl _ _ _) rfl ?_
          exact ⟨by rw [HE.out, frmN_none (by rw [← HM.out]; simpa using H1'.out) HM.out.symm]; rfl, HB4.out⟩
        · have hb2 : ((c : Int) == 0) = false := by simp; omega
          have H2' := Lib.hid h2
          clear h1 h2
          go_wp2_with fail
          refine bodyPost_ret (results_tmp2 rfl _ _ _) rfl ?_
          exact ⟨by rw [HE.out, frmN_some (by rw [← HM.out]; simpa using H1'.out) (by rw [← HM.out]; exact H2'.out)]; rfl, HB4.out⟩
theorem from_ref {p : Prs} {a : Option Addr} {cap : Nat} {w : World} (ha : IsPrts w a p.cards) (hn : p.cards.length ≤ 16) (card frm : Int) :
    Calls Try.prog 16 #[p.v a cap, .int .i64 card, .int .i64 frm] w fun e w' => e = .returned (.tuple #[.int .i64 (fromE p card frm).1, .int .i64 (fromE p card frm).2]) ∧ Below w.heap.size w w' := by
  by_cases hE : openE p (p.card card && p.card frm && !decide (card = frm)) = 0
  · obtain ⟨hv, hb⟩ := openE_parts hE
    simp at hb
    obtain ⟨⟨h1, h2⟩, h3⟩ := hb
    obtain ⟨kc, rfl, hkc⟩ := card_nat h1
    obtain ⟨kf, rfl, hkf⟩ := card_nat h2
    obtain ⟨h, t, het⟩ : ∃ h t, waysL p = h :: t := by
      cases e : waysL p with
      | nil => exact (ways_ne hv e).elim
      | cons h t => exact ⟨h, t, rfl⟩
    have hm := (fewL_first (valid_parts hv).1 het).2
    have e : fromE p kc kf = (frmN (fromL (minW (waysL p)) kc kf (waysL p)), 0) := by
      unfold fromE
      simp only
      rw [if_pos hE, hm]
      rfl
    rw [e]
    exact from_ref_yes ha hn hv hkc hkf (by omega)
  · have e : fromE p card frm = (0, openE p (p.card card && p.card frm && !decide (card = frm))) := by unfold fromE; simp only; rw [if_neg hE]
    rw [e]
    exact from_ref_no ha hn hE
end Go.Proofs.Ytnfhlbmapfoifaa
