/- The reference's Parents. -/
import Derived.Test.YtnfhlbmapfoifaaR13
import Derived.Test.YtnfhlbmapfoifaaW48
namespace Go.Proofs.Ytnfhlbmapfoifaa
open Go.RowKit
set_option linter.unusedVariables false
set_option linter.unusedSimpArgs false

theorem or_bit {b u : Nat} (hb : b < 32) (hu : u < 5) : (b.testBit u = false → b ||| 2 ^ u = b + 2 ^ u) ∧ (b.testBit u = true → b ||| 2 ^ u = b) := by
  have : ∀ b : Fin 32, ∀ u : Fin 5, (b.val.testBit u.val = false → b.val ||| 2 ^ u.val = b.val + 2 ^ u.val) ∧ (b.val.testBit u.val = true → b.val ||| 2 ^ u.val = b.val) := by decide
  exact this ⟨b, hb⟩ ⟨u, hu⟩
theorem parL_all {p : Prs} {card : Nat} : parL p card (waysL p).length = (waysL p).map fun w => gi w card := by unfold parL; rw [List.take_length]
set_option maxRecDepth 100000 in
set_option maxHeartbeats 4000000 in
theorem parents_ref_no {p : Prs} {a : Option Addr} {cap : Nat} {w : World} (ha : IsPrts w a p.cards) (hn : p.cards.length ≤ 16) {card : Int} (hE : openE p (p.card card) ≠ 0) :
    Calls Try.prog 37 #[p.v a cap, .int .i64 card] w fun e w' => e = .returned (.tuple #[.int .i64 0, .bool false, .int .i64 (openE p (p.card card))]) ∧ Below w.heap.size w w' := by
  have hb0 : Below w.heap.size w (w.alloc (.cells (p.cells a cap) 26)) := (Below.refl _ w).alloc (Nat.le_refl _) _
  have q0 := World.alloc_heap_new w (.cells (p.cells a cap) 26)
  have HW := Lib.hid (And.intro hb0 (And.intro q0 (ha.mono hb0)))
  clear hb0 q0 ha
  cases h1 : p.card card
  all_goals
    rw [h1] at hE
    have HE := Lib.hid hE
    have H1 := Lib.hid h1
    clear hE h1
    go_enter Try.func37, Try.ntmps37
    go_wp2_with fail
    revert HW
    generalize w.alloc (.cells (p.cells a cap) 26) = w1
    intro HW
    obtain ⟨k0, k1, k2, k3, k4⟩ := prs_cells HW.out.2.1
    have z0 := fun y : Aft w1.heap.size w1 => cell_stays y.h k0
    have z1 := fun y : Aft w1.heap.size w1 => cell_stays y.h k1
    have z2 := fun y : Aft w1.heap.size w1 => cell_stays y.h k2
    have z3 := fun y : Aft w1.heap.size w1 => cell_stays y.h k3
    have z4 := fun y : Aft w1.heap.size w1 => cell_stays y.h k4
    clear k0 k1 k2 k3 k4
    have C1 := Lib.hid (fun z : Aft w1.heap.size w1 => rcard_any (p := p) (a := a) (cap := cap) (w := z.v) hn card)
    have C3 := Lib.hid (fun (ok : Bool) (z : Aft w1.heap.size w1) => rcheck_any (cap := cap) (HW.out.2.2.mono z.h) hn ok)
    rw [H1.out] at C1
    refine wp_region_aft mixed (by kernel_rfl) ?_
    repeat (go_big_quiet_step (first | (go_at_call 58; exact calls_aft (C1.out _)) | (go_at_call 57; exact calls_aft (C3.out _ _))))
    refine wpQuiet_nil ?_
    rintro _ ⟨z, rfl⟩
    clear C1 C3 z0 z1 z2 z3 z4
    have hnb := bne_iff_ne.2 HE.out
    go_wp2_with fail
    refine bodyPost_ret (results_tmp3 rfl _ _ _) rfl ?_
    exact ⟨rfl, HW.out.1.trans (z.h.mono HW.out.1.size)⟩
set_option maxRecDepth 100000 in
set_option maxHeartbeats 4000000 in
theorem parents_ref_yes {p : Prs} {a : Option Addr} {cap : Nat} {w : World} (ha : IsPrts w a p.cards) (hn : p.cards.length ≤ 16) (hv : p.valid = true) {card : Nat} (hc : card < p.cards.length) :
    Calls Try.prog 37 #[p.v a cap, .int .i64 card] w fun e w' => e = .returned (.tuple #[.int .i64 (parS (parL p card (waysL p).length)), .bool (parO (parL p card (waysL p).length)), .int .i64 0]) ∧ Below w.heap.size w w' := by
  have hb0 : Below w.heap.size w (w.alloc (.cells (p.cells a cap) 26)) := (Below.refl _ w).alloc (Nat.le_refl _) _
  have q0 := World.alloc_heap_new w (.cells (p.cells a cap) 26)
  have HW := Lib.hid (And.intro hb0 (And.intro q0 (ha.mono hb0)))
  have h1 : p.card (card : Int) = true := by unfold Prs.card inR; simp; omega
  have h4 : openE p true = 0 := by simp [openE, hv]
  have hn5 := (valid_parts hv).1
  have HV := Lib.hid hv
  have H1 := Lib.hid h1
  have H4 := Lib.hid h4
  clear hb0 q0 ha h1 h4 hv
  go_enter Try.func37, Try.ntmps37
  go_wp2_with fail
  revert HW
  generalize w.alloc (.cells (p.cells a cap) 26) = w1
  intro HW
  obtain ⟨k0, k1, k2, k3, k4⟩ := prs_cells HW.out.2.1
  have z0 := fun y : Aft w1.heap.size w1 => cell_stays y.h k0
  have z1 := fun y : Aft w1.heap.size w1 => cell_stays y.h k1
  have z2 := fun y : Aft w1.heap.size w1 => cell_stays y.h k2
  have z3 := fun y : Aft w1.heap.size w1 => cell_stays y.h k3
  have z4 := fun y : Aft w1.heap.size w1 => cell_stays y.h k4
  clear k0 k1 k2 k3 k4
  have C1 := Lib.hid (fun z : Aft w1.heap.size w1 => rcard_any (p := p) (a := a) (cap := cap) (w := z.v) hn card)
  have C3 := Lib.hid (fun (z : Aft w1.heap.size w1) => rcheck_any (cap := cap) (HW.out.2.2.mono z.h) hn true)
  rw [H1.out] at C1
  rw [H4.out] at C3
  refine wp_region_aft mixed (by kernel_rfl) ?_
  repeat (go_big_quiet_step (first | (go_at_call 58; exact calls_aft (C1.out _)) | (go_at_call 57; exact calls_aft (C3.out _))))
  refine wpQuiet_nil ?_
  rintro _ ⟨z, rfl⟩
  clear C1 C3 z0 z1 z2 z3 z4
  have hb1 := z.h
  revert hb1
  generalize z.v = v1
  intro hb1
  obtain ⟨k0, k1, k2, k3, k4⟩ := prs_cells ((hb1.block _ (heap_lt HW.out.2.1)).trans HW.out.2.1)
  have HA := Lib.hid (HW.out.2.2.mono hb1)
  have HB1 := Lib.hid (HW.out.1.trans (hb1.mono HW.out.1.size))
  clear hb1
  go_wp2_with fail
  refine (all_ref HA.out HV.out).mono ?_
  rintro e w3 ⟨v', rfl, hr, hb3⟩
  obtain ⟨a2, c2, rfl, hli⟩ := hr.lists
  have HB3 := Lib.hid (HB1.out.trans (hb3.mono HB1.out.size))
  have HLI := Lib.hid hli
  have hle := waysL_le hn5
  clear hr hb3 k0 k1 k2 k3 k4 hli
  go_wp2_with fail
  go_loopw [9, 10, 11, 12] (fun x y i _ wr => ∃ (j b : Nat) (o : Bool), j ≤ (waysL p).length ∧ i = .int .i64 j ∧ x = .int .i64 b ∧ y = .bool o ∧ Hid (b = parS (parL p card j) ∧ o = parO (parL p card j)) ∧ b < 32 ∧ w3 = wr) (fun x y i _ _ => (waysL p).length - (intOf i).toNat)
  case atStart => exact ⟨0, 0, false, by omega, rfl, rfl, rfl, ⟨rfl, rfl⟩, by decide, rfl⟩
  case round =>
    obtain ⟨j, b, o, hj, rfl, rfl, rfl, HP, hb32, rfl⟩ := hrel
    by_cases hlt : j < (waysL p).length
    · obtain ⟨lb, lo, rfl, ax, cx, hcell, hints⟩ := HLI.out j hlt
      have hx : (waysL p)[j]? = some ((waysL p).getD j []) := by simp [hlt]
      have hmem : (waysL p).getD j [] ∈ waysL p := List.mem_of_getElem? hx
      have hxl := (ways_all hmem).1
      have HPS : Hid (parL p card (j + 1) = parL p card j ++ [gi ((waysL p).getD j []) card]) := parL_succ hx
      have hrng := ways_rng hmem
      have HB5 : Hid (parS (parL p card (j + 1)) < 32) := parS_lt (parL_lt HV.out hc)
      revert hcell hints hxl HPS hrng
      generalize (waysL p).getD j [] = x
      intro hcell hints hxl HPS hrng
      have hcx : card < x.length := by omega
      obtain ⟨xb, xo, rfl, hxc⟩ := hints card hcx
      have hg : -1 ≤ gi x card ∧ gi x card < p.cards.length := by
        refine hrng _ ?_
        have : gi x card = x[card] := by simp [gi, hcx]
        rw [this]; exact List.getElem_mem hcx
      clear hints hrng hx hmem
      by_cases h2 : gi x card = -1
      · rw [h2] at hxc
        have HN : Hid (b = parS (parL p card (j + 1)) ∧ true = parO (parL p card (j + 1))) := by
          rw [Hid, HPS.out, parS_snoc, parO_snoc, if_pos h2, h2]
          exact ⟨HP.out.1, by simp⟩
        clear h2 hg
        go_wp2_with fail
        go_roundw
        case rel => exact ⟨j + 1, b, true, by omega, by go_num, rfl, rfl, HN, hb32, by first | trivial | rfl⟩
        case measure => simp [intOf]; omega
      · obtain ⟨u, hu⟩ := Int.eq_ofNat_of_zero_le (show 0 ≤ gi x card by omega)
        have hu5 : u < 5 := by omega
        rw [hu] at hxc
        have HN : Hid (b ||| 2 ^ u = parS (parL p card (j + 1)) ∧ o = parO (parL p card (j + 1))) := by
          rw [Hid, HPS.out, parS_snoc, parO_snoc, if_neg h2, hu, ← HP.out.1, ← HP.out.2]
          exact ⟨rfl, by simp⟩
        have HO := Lib.hid (or_bit hb32 hu5)
        have hb1 : ((u : Int) == -1) = false := by simp
        clear h2 hu hg
        go_wp2_with fail
        refine (rhas_any b u (by omega) (by omega) _).mono ?_
        rintro e w' ⟨rfl, rfl⟩
        cases ht : b.testBit u
        · have HT := Lib.hid ht
          clear ht
          go_wp2_with fail
          refine (power_any u (by omega) _).mono ?_
          rintro e w' ⟨rfl, rfl⟩
          have hp := pow_bnd (k := u) (by omega)
          have HX : Hid ((2 : Int) ^ u = ((2 ^ u : Nat) : Int)) := by simp [Hid]
          revert hp HX
          generalize (2 : Int) ^ u = y
          intro hp HX
          go_wp2_with fail
          go_roundw
          case rel =>
            have e1 := HO.out.1 HT.out
            have e2 := HX.out
            have e3 := HB5.out
            rw [← HN.out.1] at e3
            exact ⟨j + 1, b ||| 2 ^ u, o, by omega, by go_num, by rw [e1, e2]; simp, rfl, HN, e3, by first | trivial | rfl⟩
          case measure => simp [intOf]; omega
        · have HT := Lib.hid ht
          clear ht
          go_wp2_with fail
          go_roundw
          case rel =>
            have e1 := HO.out.2 HT.out
            exact ⟨j + 1, b, o, by omega, by go_num, rfl, rfl, by rw [← e1]; exact HN, hb32, by first | trivial | rfl⟩
          case measure => simp [intOf]; omega
    · obtain rfl : j = (waysL p).length := by omega
      go_wp2_with fail
      refine bodyPost_ret (results_tmp3 rfl _ _ _) rfl ?_
      exact ⟨by rw [← HP.out.1, ← HP.out.2]; rfl, HB3.out⟩
theorem parents_ref {p : Prs} {a : Option Addr} {cap : Nat} {w : World} (ha : IsPrts w a p.cards) (hn : p.cards.length ≤ 16) (card : Int) :
    Calls Try.prog 37 #[p.v a cap, .int .i64 card] w fun e w' => e = .returned (.tuple #[.int .i64 (parentsE p card).1, .bool (parentsE p card).2.1, .int .i64 (parentsE p card).2.2]) ∧ Below w.heap.size w w' := by
  by_cases hE : openE p (p.card card) = 0
  · obtain ⟨hv, hb⟩ := openE_parts hE
    obtain ⟨kc, rfl, hkc⟩ := card_nat hb
    have e : parentsE p kc = ((parS (parL p kc (waysL p).length) : Int), parO (parL p kc (waysL p).length), 0) := by unfold parentsE; simp only; rw [if_pos hE, parL_all]; rfl
    rw [e]
    exact parents_ref_yes ha hn hv hkc
  · have e : parentsE p card = (0, false, openE p (p.card card)) := by unfold parentsE; simp only; rw [if_neg hE]
    rw [e]
    exact parents_ref_no ha hn hE
end Go.Proofs.Ytnfhlbmapfoifaa
