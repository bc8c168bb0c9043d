/- The law LendWrongs answers true. -/
import Derived.Test.YtlhobddaojdnoaaR6
import Derived.Test.YtlhobddaojdnoaaW25
namespace Go.Proofs.Ytlhobddaojdnoaa
open Go.RowKit

set_option maxRecDepth 100000 in
theorem lawWrongs_o {c : Cab} {w : World} {ah : Option Addr} {ch : Nat} {al : Option Addr} {cl : Nat} (hi : IsInts w ah c.homes) (li : IsLoans w al c.loans)
    (h : (decide (16 < c.homes.length) || decide (30 < c.loans.length)) = true ∨ (c.homes.length ≤ 16 ∧ c.loans.length ≤ 30 ∧ c.valid = false)) :
    Calls Try.prog 8 #[c.v ah ch al cl] w fun e w' => e = .returned (.bool true) ∧ Below w.heap.size w w' := by
  have hb0 : Below w.heap.size w (w.alloc (.cells (c.cells ah ch al cl) 25)) := (Below.refl _ w).alloc (Nat.le_refl _) _
  rcases h with h | ⟨h1, h2, hv⟩
  · have H := Lib.hid h
    clear h
    go_enter Try.func8, Try.ntmps8
    go_wp2_with fail
    refine (great_any c _).mono ?_
    rintro e w1 ⟨rfl, hb1⟩
    rw [H.out]
    go_wp2_with fail
    refine (alive_any _).mono ?_
    rintro e w9 ⟨rfl, hb9⟩
    go_wp2
    go_ret
    exact ⟨rfl, bst (bst hb0 hb1) hb9⟩
  · have H : Hid ((decide (16 < c.homes.length) || decide (30 < c.loans.length)) = false) := by unfold Hid; simp; omega
    have HV := Lib.hid hv
    clear hv
    go_enter Try.func8, Try.ntmps8
    go_wp2_with fail
    refine (great_any c _).mono ?_
    rintro e w1 ⟨rfl, hb1⟩
    rw [H.out]
    have hB1 := bst hb0 hb1
    obtain ⟨d0, d1, d2, d3⟩ : w1.cell? ⟨w.heap.size, 0, none⟩ = some (.int .i64 c.slots) ∧ w1.cell? ⟨w.heap.size, 1, none⟩ = some (.slice ah c.homes.length ch) ∧
        w1.cell? ⟨w.heap.size, 2, none⟩ = some (.int .i64 c.wrong) ∧ w1.cell? ⟨w.heap.size, 3, none⟩ = some (.slice al c.loans.length cl) := by
      have h := fun o => (hb1.cell (p := ⟨w.heap.size, o, none⟩) (by simp)).trans (cell_of_heap (World.alloc_heap_new w (.cells (c.cells ah ch al cl) 25)))
      exact ⟨h 0, h 1, h 2, h 3⟩
    go_wp2_with fail
    refine (refCab_any (hi.mono hB1) (li.mono hB1) h1 h2).mono ?_
    rintro e w2 ⟨rfl, hb2⟩
    rw [HV.out]
    go_wp2_with fail
    refine (alive_any _).mono ?_
    rintro e w9 ⟨rfl, hb9⟩
    go_wp2
    go_ret
    exact ⟨rfl, bst (bst hB1 hb2) hb9⟩
set_option maxRecDepth 100000 in
set_option maxHeartbeats 2000000 in
theorem lawWrongs_n {c : Cab} {w : World} {ah : Option Addr} {ch : Nat} {al : Option Addr} {cl : Nat} (hg : Given w c ah ch al cl) (hv : c.valid = true) (hA : allT c = []) :
    Calls Try.prog 8 #[c.v ah ch al cl] w fun e w' => e = .returned (.bool true) ∧ Below w.heap.size w w' := by
  have hgr : Hid ((decide (16 < c.homes.length) || decide (30 < c.loans.length)) = false) := by have := hg.hh; have := hg.hl; unfold Hid; simp; omega
  have HV := Lib.hid hv
  obtain ⟨vs1, vs2⟩ := valid_slots hv
  obtain ⟨vw1, vw2⟩ := valid_wrong hv
  have vh := valid_homes hv
  have vl := valid_loans hv
  have hT : truths c = [] := Decidable.byContradiction fun h => (ne_of.1 h).1 hA
  have HW := Lib.hid (wrongsE_no hv hA)
  have HBl := Lib.hid (blame_no hv hT)
  have HPe := Lib.hid (people_no hv hT)
  clear hA hT
  clear hv
  go_enter Try.func8, Try.ntmps8
  go_wp2_with fail
  refine (great_any c _).mono ?_
  rintro e w1 ⟨rfl, hb1⟩
  rw [hgr.out]
  have hb0 : Below w.heap.size w (w.alloc (.cells (c.cells ah ch al cl) 25)) := (Below.refl _ w).alloc (Nat.le_refl _) _
  have hB1 := bst hb0 hb1
  have hg1 := hg.mono hB1
  obtain ⟨d0, d1, d2, d3⟩ : w1.cell? ⟨w.heap.size, 0, none⟩ = some (.int .i64 c.slots) ∧ w1.cell? ⟨w.heap.size, 1, none⟩ = some (.slice ah c.homes.length ch) ∧
      w1.cell? ⟨w.heap.size, 2, none⟩ = some (.int .i64 c.wrong) ∧ w1.cell? ⟨w.heap.size, 3, none⟩ = some (.slice al c.loans.length cl) := by
    have h := fun o => (hb1.cell (p := ⟨w.heap.size, o, none⟩) (by simp)).trans (cell_of_heap (World.alloc_heap_new w (.cells (c.cells ah ch al cl) 25)))
    exact ⟨h 0, h 1, h 2, h 3⟩
  go_wp2_with fail
  refine (refCab_any hg1.hi hg1.li hg1.hh hg1.hl).mono ?_
  rintro e w2 ⟨rfl, hb2⟩
  rw [HV.out]
  have hB2 := bst hB1 hb2
  have hg2 := hg1.mono hb2
  have e0 := cell_stays hb2 d0
  have e1 := cell_stays hb2 d1
  have e2 := cell_stays hb2 d2
  have e3 := cell_stays hb2 d3
  clear d0 d1 d2 d3 hgr hg hg1
  go_wp2_with fail
  refine (wrongs_any hg2).mono ?_
  rintro e w3 ⟨rfl, hb3⟩
  rw [HW.out]
  have hB3 := bst hB2 hb3
  have hg3 := hg2.mono hb3
  have d0 := cell_stays hb3 e0
  have d1 := cell_stays hb3 e1
  have d2 := cell_stays hb3 e2
  have d3 := cell_stays hb3 e3
  clear e0 e1 e2 e3
  go_wp2_with fail
  refine (blame_any hg3).mono ?_
  rintro e w4 ⟨rfl, hb4⟩
  rw [HBl.out]
  have hB4 := bst hB3 hb4
  have hg4 := hg3.mono hb4
  have e0 := cell_stays hb4 d0
  have e1 := cell_stays hb4 d1
  have e2 := cell_stays hb4 d2
  have e3 := cell_stays hb4 d3
  clear d0 d1 d2 d3
  go_wp2_with fail
  refine (people_any hg4).mono ?_
  rintro e w5 ⟨rfl, hb5⟩
  rw [HPe.out]
  have hB5 := bst hB4 hb5
  have hg5 := hg4.mono hb5
  have d0 := cell_stays hb5 e0
  have d1 := cell_stays hb5 e1
  have d2 := cell_stays hb5 e2
  have d3 := cell_stays hb5 e3
  clear e0 e1 e2 e3
  go_wp2_with fail
  refine (alive_any _).mono ?_
  rintro e w9 ⟨rfl, hb9⟩
  go_wp2
  go_ret
  exact ⟨rfl, bst hB5 hb9⟩
theorem bits_zero (w : World) : Calls Try.prog 37 #[.int .i64 0] w fun e w' => e = .returned (.int .i64 0) ∧ w = w' :=
  (bits_any 0 (by decide) w).mono fun e w' ⟨h1, h2⟩ => ⟨by rw [h1, popc_zero]; rfl, h2⟩
theorem andNot_00 : bits .andNot .i64 0 0 = 0 := by decide
theorem givenW {w : World} {c : Cab} {ah : Option Addr} {ch : Nat} {al : Option Addr} {cl : Nat} (h : Given w c ah ch al cl) (n : Int) : Given w (withWrong c n) ah ch al cl := ⟨h.hi, h.li, h.hh, h.hl, h.cl⟩
set_option maxRecDepth 100000 in
set_option maxHeartbeats 2000000 in
theorem lawWrongs_yp {c : Cab} {w : World} {ah : Option Addr} {ch : Nat} {al : Option Addr} {cl : Nat} (hg : Given w c ah ch al cl) (hv : c.valid = true) (hA : allT c ≠ []) (hn : (leastN c : Int) ≤ c.wrong) (h0 : 0 < leastN c) :
    Calls Try.prog 8 #[c.v ah ch al cl] w fun e w' => e = .returned (.bool true) ∧ Below w.heap.size w w' := by
  have hgr : Hid ((decide (16 < c.homes.length) || decide (30 < c.loans.length)) = false) := by have := hg.hh; have := hg.hl; unfold Hid; simp; omega
  have HV := Lib.hid hv
  obtain ⟨vs1, vs2⟩ := valid_slots hv
  obtain ⟨vw1, vw2⟩ := valid_wrong hv
  have vh := valid_homes hv
  have vl := valid_loans hv
  have HA := Lib.hid hA
  have hlen := least_len hA
  have hT : truths c ≠ [] := ne_of.2 ⟨hA, hn⟩
  have hW' := wrongsE_yes hv hA
  have HBl := Lib.hid (blame_yes hv hT)
  have HPe := Lib.hid (people_yes hv hT)
  have HT := Lib.hid hT
  obtain ⟨hx1, hx2, hx3⟩ := least_blame hA
  have HC' := withWrong_check_yes hv (n := leastN c) ⟨by omega, by omega⟩ hA (Int.le_refl _)
  have hxT : truths (withWrong c (leastN c)) ≠ [] := by
    show truthsBy (withWrong c (leastN c)) anyRule c.loans (leastN c) ≠ []
    rw [withWrong_by]; exact ne_of.2 ⟨hA, Int.le_refl _⟩
  have HB' := blame_yes (withWrong_valid hv (n := leastN c) ⟨by omega, by omega⟩) hxT
  have HW := Lib.hid hW'
  have HC1 := Lib.hid HC'
  have HB1 := Lib.hid HB'
  have has := surelyS_lt (withWrong c (leastN c)) vl
  have hcs := canS_lt (withWrong c (leastN c)) vl
  have hbz := andNot_zero _ _ (fun i hi => surely_can hxT hi)
  have HC2 : Hid (∃ q, check (withWrong c ((leastN c : Int) - 1)) = (q, 0)) := ⟨_, Prod.ext rfl (withWrong_check_no hv (n := (leastN c : Int) - 1) ⟨by omega, by omega⟩ (by omega))⟩
  clear hA hT hxT hx3 HB' HC' hW'
  clear hv
  go_enter Try.func8, Try.ntmps8
  go_wp2_with fail
  refine (great_any c _).mono ?_
  rintro e w1 ⟨rfl, hb1⟩
  rw [hgr.out]
  have hb0 : Below w.heap.size w (w.alloc (.cells (c.cells ah ch al cl) 25)) := (Below.refl _ w).alloc (Nat.le_refl _) _
  have hB1 := bst hb0 hb1
  have hg1 := hg.mono hB1
  obtain ⟨d0, d1, d2, d3⟩ : w1.cell? ⟨w.heap.size, 0, none⟩ = some (.int .i64 c.slots) ∧ w1.cell? ⟨w.heap.size, 1, none⟩ = some (.slice ah c.homes.length ch) ∧
      w1.cell? ⟨w.heap.size, 2, none⟩ = some (.int .i64 c.wrong) ∧ w1.cell? ⟨w.heap.size, 3, none⟩ = some (.slice al c.loans.length cl) := by
    have h := fun o => (hb1.cell (p := ⟨w.heap.size, o, none⟩) (by simp)).trans (cell_of_heap (World.alloc_heap_new w (.cells (c.cells ah ch al cl) 25)))
    exact ⟨h 0, h 1, h 2, h 3⟩
  go_wp2_with fail
  refine (refCab_any hg1.hi hg1.li hg1.hh hg1.hl).mono ?_
  rintro e w2 ⟨rfl, hb2⟩
  rw [HV.out]
  have hB2 := bst hB1 hb2
  have hg2 := hg1.mono hb2
  have e0 := cell_stays hb2 d0
  have e1 := cell_stays hb2 d1
  have e2 := cell_stays hb2 d2
  have e3 := cell_stays hb2 d3
  clear d0 d1 d2 d3 hgr hg hg1
  go_wp2_with fail
  refine (wrongs_any hg2).mono ?_
  rintro e w3 ⟨rfl, hb3⟩
  rw [HW.out]
  have hB3 := bst hB2 hb3
  have hg3 := hg2.mono hb3
  have d0 := cell_stays hb3 e0
  have d1 := cell_stays hb3 e1
  have d2 := cell_stays hb3 e2
  have d3 := cell_stays hb3 e3
  clear e0 e1 e2 e3
  go_wp2_with fail
  refine (blame_any hg3).mono ?_
  rintro e w4 ⟨rfl, hb4⟩
  rw [HBl.out]
  have hB4 := bst hB3 hb4
  have hg4 := hg3.mono hb4
  have e0 := cell_stays hb4 d0
  have e1 := cell_stays hb4 d1
  have e2 := cell_stays hb4 d2
  have e3 := cell_stays hb4 d3
  clear d0 d1 d2 d3
  go_wp2_with fail
  refine (people_any hg4).mono ?_
  rintro e w5 ⟨rfl, hb5⟩
  rw [HPe.out]
  have hB5 := bst hB4 hb5
  have hg5 := hg4.mono hb5
  have d0 := cell_stays hb5 e0
  have d1 := cell_stays hb5 e1
  have d2 := cell_stays hb5 e2
  have d3 := cell_stays hb5 e3
  clear e0 e1 e2 e3
  go_wp2_with fail
  refine (check_any (givenW (hg5.mono ((Below.refl _ w5).alloc (Nat.le_refl _) _)) (leastN c : Int))).mono ?_
  rintro e w6 ⟨rfl, hb6⟩
  rw [HC1.out]
  have hb56 : Below w5.heap.size w5 w6 := ((Below.refl _ w5).alloc (Nat.le_refl _) _).trans (hb6.mono (by simp))
  have hB6 := bst hB5 hb56
  have hg6 := hg5.mono hb56
  have HD := Lib.hid (And.intro d0 (And.intro d1 (And.intro d2 d3)))
  have e0 := cell_stays hb56 d0
  have e1 := cell_stays hb56 d1
  have e2 := cell_stays hb56 d2
  have e3 := cell_stays hb56 d3
  clear d0 d1 d2 d3
  have hxc := fun o => (hb6.cell (p := ⟨w5.heap.size, o, none⟩) (by simp)).trans (cell_of_heap (World.alloc_heap_new w5 _))
  have hxf := fun o => (hb6.frozen (p := ⟨w5.heap.size, o, none⟩) (by simp)).trans (frozen_of_heap (World.alloc_heap_new w5 _))
  have k0 := hxc 0
  have k1 := hxc 1
  have k2 := hxc 2
  have k3 := hxc 3
  have hz6 : w5.heap.size < w6.heap.size := by have := hb6.size; simp at this; omega
  have hxb : w5.heap.size ≠ w.heap.size := by have := hB5.size; have := lt_of_cell e0; have h1 := hb1.size; have h2 := hb2.size; have h3 := hb3.size; have h4 := hb4.size; have h5 := hb5.size; rw [World.size_alloc] at h1; omega
  clear hxc hb6
  simp at k0 k1 k2 k3
  go_wp2_with fail
  refine (blame_any (givenW hg6 (leastN c : Int))).mono ?_
  rintro e w7 ⟨rfl, hb7⟩
  rw [HB1.out]
  have hB7 := bst hB6 hb7
  have hg7 := hg6.mono hb7
  have d0 := cell_stays hb7 e0
  have d1 := cell_stays hb7 e1
  have d2 := cell_stays hb7 e2
  have d3 := cell_stays hb7 e3
  clear e0 e1 e2 e3
  have j0 := cell_stays hb7 k0
  have j1 := cell_stays hb7 k1
  have j2 := cell_stays hb7 k2
  have j3 := cell_stays hb7 k3
  clear k0 k1 k2 k3
  have hfj : ∀ o, w7.frozen? ⟨w5.heap.size, o, none⟩ = false := fun o => (hb7.frozen (p := ⟨w5.heap.size, o, none⟩) hz6).trans (hxf o)
  clear hxf
  have HC2' := HC2.out
  obtain ⟨q, hq⟩ := HC2'
  have HQ := Lib.hid hq
  clear hq
  go_wp2_with (go_at_call 37; refine (bits_any _ (by first | exact has | exact hcs) _).mono ?_; rintro e w' ⟨rfl, rfl⟩)
  have hb57 := bst hb56 hb7
  have hB7s := (hB7.setCell (p := ⟨w5.heap.size, 2, none⟩) hB5.size (.int .i64 ((leastN c : Int) - 1)))
  refine (check_any (givenW (hg5.mono (hb57.setCell (p := ⟨w5.heap.size, 2, none⟩) (Nat.le_refl _) _)) ((leastN c : Int) - 1))).mono ?_
  rintro e w8 ⟨rfl, hb8⟩
  rw [HQ.out]
  have hb58 : Below w5.heap.size w5 w8 := (hb57.setCell (p := ⟨w5.heap.size, 2, none⟩) (Nat.le_refl _) _).trans (hb8.mono (by simpa using hb57.size))
  have hg8 := hg5.mono hb58
  have hB8 := bst hB5 hb58
  obtain ⟨m0, m1, m2, m3⟩ := HD.out
  have e0 := cell_stays hb58 m0
  have e1 := cell_stays hb58 m1
  have e2 := cell_stays hb58 m2
  have e3 := cell_stays hb58 m3
  clear m0 m1 m2 m3 d0 d1 d2 d3 j0 j1 j2 j3 hfj hb57 hb8 hB7s
  go_wp2_with fail
  have hS1 := canS_lt c vl
  have hS2 := surelyS_lt c vl
  have hS3 := ownS_lt c
  have hS4 := mayS_lt HV.out
  have hU1 : ∀ i, (canS c).testBit i = true → i < c.loans.length ∧ (gl c.loans i).kind = 1 := fun i hi => ⟨(can_test.1 hi).1, can_kind hi⟩
  have hU2 : ∀ i, (surelyS c).testBit i = true → i < c.loans.length ∧ (gl c.loans i).kind = 1 := fun i hi => ⟨(surely_test.1 hi).1, (surely_test.1 hi).2.1⟩
  have HU1 := Lib.hid hU1
  have HU2 := Lib.hid hU2
  clear hU1 hU2
  go_loopw [19, 20, 168] (fun x y i wr => ∃ k : Nat, k ≤ c.loans.length ∧ i = .int .i64 k ∧ x = .int .i64 (whoOf c (canS c) k) ∧ y = .int .i64 (whoOf c (surelyS c) k) ∧ Below w8.heap.size w8 wr) (fun _ _ i _ => c.loans.length - (intOf i).toNat)
  case atStart => exact ⟨0, by omega, rfl, rfl, rfl, Below.refl _ _⟩
  case round =>
    obtain ⟨k, hk, rfl, rfl, rfl, hbr⟩ := hrel
    have hgw := hg8.mono hbr
    by_cases hlt : k < c.loans.length
    · obtain ⟨b, off, hah, l0, l1, l2, l3⟩ := hgw.li k hlt
      have HL := Lib.hid hah
      subst hah
      have hbor := or_nat (canS c) (surelyS c) hS1 hS2
      have hb1 := bit_test (canS c) k hS1
      have hb2 := bit_test (surelyS c) k hS2
      have hb3 := bit_test (canS c ||| surelyS c) k (Nat.or_lt_two_pow hS1 hS2)
      rw [Nat.testBit_or] at hb3
      have HW1 := Lib.hid (whoOf_succ c (canS c) k)
      have HW2 := Lib.hid (whoOf_succ c (surelyS c) k)
      have hbb : Below w8.heap.size w8 (wr.alloc (.cells (gl c.loans k).arr 48)) := hbr.alloc hbr.size _
      cases hc1 : (canS c).testBit k
      · have hc2 : (surelyS c).testBit k = false := by
          cases h : (surelyS c).testBit k with
          | false => rfl
          | true => rw [surely_can HT.out h] at hc1; cases hc1
        rw [hc1] at hb1 hb3
        rw [hc2] at hb2 hb3
        have HC1 := Lib.hid hc1
        have HC2 := Lib.hid hc2
        clear hc1 hc2
        go_wp2_with fail
        go_roundw
        case rel => exact ⟨k + 1, by omega, by go_num, by rw [HW1.out, HC1.out]; rfl, by rw [HW2.out, HC2.out]; rfl, hbb⟩
        case measure => simp [intOf]; omega
      · have hkind := can_kind hc1
        have hpr := person_rng HV.out hlt hkind
        obtain ⟨jn, hjn⟩ := Int.eq_ofNat_of_zero_le hpr.1
        obtain ⟨z, hz⟩ : ∃ z : Nat, 2 ^ jn = z := ⟨_, rfl⟩
        have hwr := wrap_two (j := jn) (by omega)
        have hzl := two_lt (j := jn) (by omega)
        rw [hz] at hwr hzl
        have ho1 := or_nat (whoOf c (canS c) k) z (whoOf_lt HV.out HU1.out k) hzl
        have ho2 := or_nat (whoOf c (surelyS c) k) z (whoOf_lt HV.out HU2.out k) hzl
        have hpn : Hid ((gl c.loans k).person.toNat = jn) := by rw [Hid, hjn]; rfl
        have HZ := Lib.hid hz
        rw [hkind] at l0
        rw [hjn] at l2
        have hjb : (jn : Int) ≤ 7 := by omega
        rw [hc1] at hb1 hb3
        have HC1 := Lib.hid hc1
        have hbb' : Below w8.heap.size w8 (wr.alloc (.cells #[.int .i64 1, .int .i64 (gl c.loans k).card, .int .i64 jn, .int .i64 (gl c.loans k).slot] 48)) := hbr.alloc hbr.size _
        clear hbb hz hpr hkind hjn hc1
        cases hc2 : (surelyS c).testBit k
        · rw [hc2] at hb2 hb3
          have HC2 := Lib.hid hc2
          clear hc2
          go_wp2_with fail
          go_roundw
          case rel => exact ⟨k + 1, by omega, by go_num, by rw [HW1.out, HC1.out, hpn.out, HZ.out]; rfl, by rw [HW2.out, HC2.out]; rfl, hbb'⟩
          case measure => simp [intOf]; omega
        · rw [hc2] at hb2 hb3
          have HC2 := Lib.hid hc2
          clear hc2
          go_wp2_with fail
          go_roundw
          case rel => exact ⟨k + 1, by omega, by go_num, by rw [HW1.out, HC1.out, hpn.out, HZ.out]; rfl, by rw [HW2.out, HC2.out, hpn.out, HZ.out]; rfl, hbb'⟩
          case measure => simp [intOf]; omega
    · obtain rfl : k = c.loans.length := by omega
      rw [who_may]
      have ha1 := andNot_zero (whoOf c (surelyS c) c.loans.length) (ownS c) (fun p hp => by
        obtain ⟨i, _, h2, h3⟩ := whoOf_test.1 hp
        rw [← h3]; exact sure_own HV.out h2)
      have ha2 := andNot_zero (ownS c) (mayS c) (fun p hp => own_may HT.out hp)
      have ha3 := andNot_zero (surelyS c) (canS c) (fun p hp => surely_can HT.out hp)
      go_wp2_with fail
      refine (alive_any _).mono ?_
      rintro e w9 ⟨rfl, hb9⟩
      go_wp2
      go_ret
      exact ⟨rfl, bst (bst hB8 hbr) hb9⟩
set_option maxRecDepth 100000 in
set_option maxHeartbeats 2000000 in
theorem lawWrongs_yz {c : Cab} {w : World} {ah : Option Addr} {ch : Nat} {al : Option Addr} {cl : Nat} (hg : Given w c ah ch al cl) (hv : c.valid = true) (hA : allT c ≠ []) (hn : (leastN c : Int) ≤ c.wrong) (h0 : leastN c = 0) :
    Calls Try.prog 8 #[c.v ah ch al cl] w fun e w' => e = .returned (.bool true) ∧ Below w.heap.size w w' := by
  have hgr : Hid ((decide (16 < c.homes.length) || decide (30 < c.loans.length)) = false) := by have := hg.hh; have := hg.hl; unfold Hid; simp; omega
  have HV := Lib.hid hv
  obtain ⟨vs1, vs2⟩ := valid_slots hv
  obtain ⟨vw1, vw2⟩ := valid_wrong hv
  have vh := valid_homes hv
  have vl := valid_loans hv
  have HA := Lib.hid hA
  have hlen := least_len hA
  have hT : truths c ≠ [] := ne_of.2 ⟨hA, hn⟩
  have hW' := wrongsE_yes hv hA
  have HBl := Lib.hid (blame_yes hv hT)
  have HPe := Lib.hid (people_yes hv hT)
  have HT := Lib.hid hT
  obtain ⟨hx1, hx2, hx3⟩ := least_blame hA
  have HC' := withWrong_check_yes hv (n := leastN c) ⟨by omega, by omega⟩ hA (Int.le_refl _)
  have hxT : truths (withWrong c (leastN c)) ≠ [] := by
    show truthsBy (withWrong c (leastN c)) anyRule c.loans (leastN c) ≠ []
    rw [withWrong_by]; exact ne_of.2 ⟨hA, Int.le_refl _⟩
  have HB' := blame_yes (withWrong_valid hv (n := leastN c) ⟨by omega, by omega⟩) hxT
  obtain ⟨z1, z2⟩ := hx3 h0
  rw [z1, z2, h0] at HB'
  rw [h0] at HC' hW'
  have HW : Hid (wrongsE c = (0, 0)) := hW'
  have HC1 : Hid (check (withWrong c 0) = (0, 4)) := HC'
  have HB1 : Hid (blameE (withWrong c 0) = (0, 0, 0)) := HB'
  have hn0 : 0 ≤ c.wrong := by rw [h0] at hn; exact hn
  have hbz := andNot_00
  clear hA hT hxT hx1 hx2 hx3 z1 z2 HB' HC' hW' h0 hn hlen
  clear hv
  go_enter Try.func8, Try.ntmps8
  go_wp2_with fail
  refine (great_any c _).mono ?_
  rintro e w1 ⟨rfl, hb1⟩
  rw [hgr.out]
  have hb0 : Below w.heap.size w (w.alloc (.cells (c.cells ah ch al cl) 25)) := (Below.refl _ w).alloc (Nat.le_refl _) _
  have hB1 := bst hb0 hb1
  have hg1 := hg.mono hB1
  obtain ⟨d0, d1, d2, d3⟩ : w1.cell? ⟨w.heap.size, 0, none⟩ = some (.int .i64 c.slots) ∧ w1.cell? ⟨w.heap.size, 1, none⟩ = some (.slice ah c.homes.length ch) ∧
      w1.cell? ⟨w.heap.size, 2, none⟩ = some (.int .i64 c.wrong) ∧ w1.cell? ⟨w.heap.size, 3, none⟩ = some (.slice al c.loans.length cl) := by
    have h := fun o => (hb1.cell (p := ⟨w.heap.size, o, none⟩) (by simp)).trans (cell_of_heap (World.alloc_heap_new w (.cells (c.cells ah ch al cl) 25)))
    exact ⟨h 0, h 1, h 2, h 3⟩
  go_wp2_with fail
  refine (refCab_any hg1.hi hg1.li hg1.hh hg1.hl).mono ?_
  rintro e w2 ⟨rfl, hb2⟩
  rw [HV.out]
  have hB2 := bst hB1 hb2
  have hg2 := hg1.mono hb2
  have e0 := cell_stays hb2 d0
  have e1 := cell_stays hb2 d1
  have e2 := cell_stays hb2 d2
  have e3 := cell_stays hb2 d3
  clear d0 d1 d2 d3 hgr hg hg1
  go_wp2_with fail
  refine (wrongs_any hg2).mono ?_
  rintro e w3 ⟨rfl, hb3⟩
  rw [HW.out]
  have hB3 := bst hB2 hb3
  have hg3 := hg2.mono hb3
  have d0 := cell_stays hb3 e0
  have d1 := cell_stays hb3 e1
  have d2 := cell_stays hb3 e2
  have d3 := cell_stays hb3 e3
  clear e0 e1 e2 e3
  go_wp2_with fail
  refine (blame_any hg3).mono ?_
  rintro e w4 ⟨rfl, hb4⟩
  rw [HBl.out]
  have hB4 := bst hB3 hb4
  have hg4 := hg3.mono hb4
  have e0 := cell_stays hb4 d0
  have e1 := cell_stays hb4 d1
  have e2 := cell_stays hb4 d2
  have e3 := cell_stays hb4 d3
  clear d0 d1 d2 d3
  go_wp2_with fail
  refine (people_any hg4).mono ?_
  rintro e w5 ⟨rfl, hb5⟩
  rw [HPe.out]
  have hB5 := bst hB4 hb5
  have hg5 := hg4.mono hb5
  have d0 := cell_stays hb5 e0
  have d1 := cell_stays hb5 e1
  have d2 := cell_stays hb5 e2
  have d3 := cell_stays hb5 e3
  clear e0 e1 e2 e3
  go_wp2_with fail
  refine (check_any (givenW (hg5.mono ((Below.refl _ w5).alloc (Nat.le_refl _) _)) 0)).mono ?_
  rintro e w6 ⟨rfl, hb6⟩
  rw [HC1.out]
  have hb56 : Below w5.heap.size w5 w6 := ((Below.refl _ w5).alloc (Nat.le_refl _) _).trans (hb6.mono (by simp))
  have hB6 := bst hB5 hb56
  have hg6 := hg5.mono hb56
  have HD := Lib.hid (And.intro d0 (And.intro d1 (And.intro d2 d3)))
  have e0 := cell_stays hb56 d0
  have e1 := cell_stays hb56 d1
  have e2 := cell_stays hb56 d2
  have e3 := cell_stays hb56 d3
  clear d0 d1 d2 d3
  have hxc := fun o => (hb6.cell (p := ⟨w5.heap.size, o, none⟩) (by simp)).trans (cell_of_heap (World.alloc_heap_new w5 _))
  have hxf := fun o => (hb6.frozen (p := ⟨w5.heap.size, o, none⟩) (by simp)).trans (frozen_of_heap (World.alloc_heap_new w5 _))
  have k0 := hxc 0
  have k1 := hxc 1
  have k2 := hxc 2
  have k3 := hxc 3
  have hz6 : w5.heap.size < w6.heap.size := by have := hb6.size; simp at this; omega
  have hxb : w5.heap.size ≠ w.heap.size := by have := hB5.size; have := lt_of_cell e0; have h1 := hb1.size; have h2 := hb2.size; have h3 := hb3.size; have h4 := hb4.size; have h5 := hb5.size; rw [World.size_alloc] at h1; omega
  clear hxc hb6
  simp at k0 k1 k2 k3
  go_wp2_with fail
  refine (blame_any (givenW hg6 0)).mono ?_
  rintro e w7 ⟨rfl, hb7⟩
  rw [HB1.out]
  have hB7 := bst hB6 hb7
  have hg7 := hg6.mono hb7
  have d0 := cell_stays hb7 e0
  have d1 := cell_stays hb7 e1
  have d2 := cell_stays hb7 e2
  have d3 := cell_stays hb7 e3
  clear e0 e1 e2 e3
  have j0 := cell_stays hb7 k0
  have j1 := cell_stays hb7 k1
  have j2 := cell_stays hb7 k2
  have j3 := cell_stays hb7 k3
  clear k0 k1 k2 k3
  have hfj : ∀ o, w7.frozen? ⟨w5.heap.size, o, none⟩ = false := fun o => (hb7.frozen (p := ⟨w5.heap.size, o, none⟩) hz6).trans (hxf o)
  clear hxf
  go_wp2_with (go_at_call 37; refine (bits_zero _).mono ?_; rintro e w' ⟨rfl, rfl⟩)
  have hS1 := canS_lt c vl
  have hS2 := surelyS_lt c vl
  have hS3 := ownS_lt c
  have hS4 := mayS_lt HV.out
  have hU1 : ∀ i, (canS c).testBit i = true → i < c.loans.length ∧ (gl c.loans i).kind = 1 := fun i hi => ⟨(can_test.1 hi).1, can_kind hi⟩
  have hU2 : ∀ i, (surelyS c).testBit i = true → i < c.loans.length ∧ (gl c.loans i).kind = 1 := fun i hi => ⟨(surely_test.1 hi).1, (surely_test.1 hi).2.1⟩
  have HU1 := Lib.hid hU1
  have HU2 := Lib.hid hU2
  clear hU1 hU2
  go_loopw [19, 20, 168] (fun x y i wr => ∃ k : Nat, k ≤ c.loans.length ∧ i = .int .i64 k ∧ x = .int .i64 (whoOf c (canS c) k) ∧ y = .int .i64 (whoOf c (surelyS c) k) ∧ Below w7.heap.size w7 wr) (fun _ _ i _ => c.loans.length - (intOf i).toNat)
  case atStart => exact ⟨0, by omega, rfl, rfl, rfl, Below.refl _ _⟩
  case round =>
    obtain ⟨k, hk, rfl, rfl, rfl, hbr⟩ := hrel
    have hgw := hg7.mono hbr
    by_cases hlt : k < c.loans.length
    · obtain ⟨b, off, hah, l0, l1, l2, l3⟩ := hgw.li k hlt
      have HL := Lib.hid hah
      subst hah
      have hbor := or_nat (canS c) (surelyS c) hS1 hS2
      have hb1 := bit_test (canS c) k hS1
      have hb2 := bit_test (surelyS c) k hS2
      have hb3 := bit_test (canS c ||| surelyS c) k (Nat.or_lt_two_pow hS1 hS2)
      rw [Nat.testBit_or] at hb3
      have HW1 := Lib.hid (whoOf_succ c (canS c) k)
      have HW2 := Lib.hid (whoOf_succ c (surelyS c) k)
      have hbb : Below w7.heap.size w7 (wr.alloc (.cells (gl c.loans k).arr 48)) := hbr.alloc hbr.size _
      cases hc1 : (canS c).testBit k
      · have hc2 : (surelyS c).testBit k = false := by
          cases h : (surelyS c).testBit k with
          | false => rfl
          | true => rw [surely_can HT.out h] at hc1; cases hc1
        rw [hc1] at hb1 hb3
        rw [hc2] at hb2 hb3
        have HC1 := Lib.hid hc1
        have HC2 := Lib.hid hc2
        clear hc1 hc2
        go_wp2_with fail
        go_roundw
        case rel => exact ⟨k + 1, by omega, by go_num, by rw [HW1.out, HC1.out]; rfl, by rw [HW2.out, HC2.out]; rfl, hbb⟩
        case measure => simp [intOf]; omega
      · have hkind := can_kind hc1
        have hpr := person_rng HV.out hlt hkind
        obtain ⟨jn, hjn⟩ := Int.eq_ofNat_of_zero_le hpr.1
        obtain ⟨z, hz⟩ : ∃ z : Nat, 2 ^ jn = z := ⟨_, rfl⟩
        have hwr := wrap_two (j := jn) (by omega)
        have hzl := two_lt (j := jn) (by omega)
        rw [hz] at hwr hzl
        have ho1 := or_nat (whoOf c (canS c) k) z (whoOf_lt HV.out HU1.out k) hzl
        have ho2 := or_nat (whoOf c (surelyS c) k) z (whoOf_lt HV.out HU2.out k) hzl
        have hpn : Hid ((gl c.loans k).person.toNat = jn) := by rw [Hid, hjn]; rfl
        have HZ := Lib.hid hz
        rw [hkind] at l0
        rw [hjn] at l2
        have hjb : (jn : Int) ≤ 7 := by omega
        rw [hc1] at hb1 hb3
        have HC1 := Lib.hid hc1
        have hbb' : Below w7.heap.size w7 (wr.alloc (.cells #[.int .i64 1, .int .i64 (gl c.loans k).card, .int .i64 jn, .int .i64 (gl c.loans k).slot] 48)) := hbr.alloc hbr.size _
        clear hbb hz hpr hkind hjn hc1
        cases hc2 : (surelyS c).testBit k
        · rw [hc2] at hb2 hb3
          have HC2 := Lib.hid hc2
          clear hc2
          go_wp2_with fail
          go_roundw
          case rel => exact ⟨k + 1, by omega, by go_num, by rw [HW1.out, HC1.out, hpn.out, HZ.out]; rfl, by rw [HW2.out, HC2.out]; rfl, hbb'⟩
          case measure => simp [intOf]; omega
        · rw [hc2] at hb2 hb3
          have HC2 := Lib.hid hc2
          clear hc2
          go_wp2_with fail
          go_roundw
          case rel => exact ⟨k + 1, by omega, by go_num, by rw [HW1.out, HC1.out, hpn.out, HZ.out]; rfl, by rw [HW2.out, HC2.out, hpn.out, HZ.out]; rfl, hbb'⟩
          case measure => simp [intOf]; omega
    · obtain rfl : k = c.loans.length := by omega
      rw [who_may]
      have ha1 := andNot_zero (whoOf c (surelyS c) c.loans.length) (ownS c) (fun p hp => by
        obtain ⟨i, _, h2, h3⟩ := whoOf_test.1 hp
        rw [← h3]; exact sure_own HV.out h2)
      have ha2 := andNot_zero (ownS c) (mayS c) (fun p hp => own_may HT.out hp)
      have ha3 := andNot_zero (surelyS c) (canS c) (fun p hp => surely_can HT.out hp)
      go_wp2_with fail
      refine (alive_any _).mono ?_
      rintro e w9 ⟨rfl, hb9⟩
      go_wp2
      go_ret
      exact ⟨rfl, bst (bst hB7 hbr) hb9⟩
set_option maxRecDepth 100000 in
set_option maxHeartbeats 2000000 in
theorem lawWrongs_op {c : Cab} {w : World} {ah : Option Addr} {ch : Nat} {al : Option Addr} {cl : Nat} (hg : Given w c ah ch al cl) (hv : c.valid = true) (hA : allT c ≠ []) (hn : c.wrong < (leastN c : Int)) (h0 : 0 < leastN c) :
    Calls Try.prog 8 #[c.v ah ch al cl] w fun e w' => e = .returned (.bool true) ∧ Below w.heap.size w w' := by
  have hgr : Hid ((decide (16 < c.homes.length) || decide (30 < c.loans.length)) = false) := by have := hg.hh; have := hg.hl; unfold Hid; simp; omega
  have HV := Lib.hid hv
  obtain ⟨vs1, vs2⟩ := valid_slots hv
  obtain ⟨vw1, vw2⟩ := valid_wrong hv
  have vh := valid_homes hv
  have vl := valid_loans hv
  have HA := Lib.hid hA
  have hlen := least_len hA
  have hT : truths c = [] := Decidable.byContradiction fun h => by have := (ne_of.1 h).2; omega
  have hW' := wrongsE_yes hv hA
  have HBl := Lib.hid (blame_no hv hT)
  have HPe := Lib.hid (people_no hv hT)
  obtain ⟨hx1, hx2, hx3⟩ := least_blame hA
  have HC' := withWrong_check_yes hv (n := leastN c) ⟨by omega, by omega⟩ hA (Int.le_refl _)
  have hxT : truths (withWrong c (leastN c)) ≠ [] := by
    show truthsBy (withWrong c (leastN c)) anyRule c.loans (leastN c) ≠ []
    rw [withWrong_by]; exact ne_of.2 ⟨hA, Int.le_refl _⟩
  have HB' := blame_yes (withWrong_valid hv (n := leastN c) ⟨by omega, by omega⟩) hxT
  have HW := Lib.hid hW'
  have HC1 := Lib.hid HC'
  have HB1 := Lib.hid HB'
  have has := surelyS_lt (withWrong c (leastN c)) vl
  have hcs := canS_lt (withWrong c (leastN c)) vl
  have hbz := andNot_zero _ _ (fun i hi => surely_can hxT hi)
  have HC2 : Hid (∃ q, check (withWrong c ((leastN c : Int) - 1)) = (q, 0)) := ⟨_, Prod.ext rfl (withWrong_check_no hv (n := (leastN c : Int) - 1) ⟨by omega, by omega⟩ (by omega))⟩
  clear hA hT hxT hx3 HB' HC' hW'
  have hnd : ¬ ((leastN c : Int) ≤ c.wrong) := by omega
  have hbo : bits .or .i64 0 0 = 0 := by decide
  clear hv
  go_enter Try.func8, Try.ntmps8
  go_wp2_with fail
  refine (great_any c _).mono ?_
  rintro e w1 ⟨rfl, hb1⟩
  rw [hgr.out]
  have hb0 : Below w.heap.size w (w.alloc (.cells (c.cells ah ch al cl) 25)) := (Below.refl _ w).alloc (Nat.le_refl _) _
  have hB1 := bst hb0 hb1
  have hg1 := hg.mono hB1
  obtain ⟨d0, d1, d2, d3⟩ : w1.cell? ⟨w.heap.size, 0, none⟩ = some (.int .i64 c.slots) ∧ w1.cell? ⟨w.heap.size, 1, none⟩ = some (.slice ah c.homes.length ch) ∧
      w1.cell? ⟨w.heap.size, 2, none⟩ = some (.int .i64 c.wrong) ∧ w1.cell? ⟨w.heap.size, 3, none⟩ = some (.slice al c.loans.length cl) := by
    have h := fun o => (hb1.cell (p := ⟨w.heap.size, o, none⟩) (by simp)).trans (cell_of_heap (World.alloc_heap_new w (.cells (c.cells ah ch al cl) 25)))
    exact ⟨h 0, h 1, h 2, h 3⟩
  go_wp2_with fail
  refine (refCab_any hg1.hi hg1.li hg1.hh hg1.hl).mono ?_
  rintro e w2 ⟨rfl, hb2⟩
  rw [HV.out]
  have hB2 := bst hB1 hb2
  have hg2 := hg1.mono hb2
  have e0 := cell_stays hb2 d0
  have e1 := cell_stays hb2 d1
  have e2 := cell_stays hb2 d2
  have e3 := cell_stays hb2 d3
  clear d0 d1 d2 d3 hgr hg hg1
  go_wp2_with fail
  refine (wrongs_any hg2).mono ?_
  rintro e w3 ⟨rfl, hb3⟩
  rw [HW.out]
  have hB3 := bst hB2 hb3
  have hg3 := hg2.mono hb3
  have d0 := cell_stays hb3 e0
  have d1 := cell_stays hb3 e1
  have d2 := cell_stays hb3 e2
  have d3 := cell_stays hb3 e3
  clear e0 e1 e2 e3
  go_wp2_with fail
  refine (blame_any hg3).mono ?_
  rintro e w4 ⟨rfl, hb4⟩
  rw [HBl.out]
  have hB4 := bst hB3 hb4
  have hg4 := hg3.mono hb4
  have e0 := cell_stays hb4 d0
  have e1 := cell_stays hb4 d1
  have e2 := cell_stays hb4 d2
  have e3 := cell_stays hb4 d3
  clear d0 d1 d2 d3
  go_wp2_with fail
  refine (people_any hg4).mono ?_
  rintro e w5 ⟨rfl, hb5⟩
  rw [HPe.out]
  have hB5 := bst hB4 hb5
  have hg5 := hg4.mono hb5
  have d0 := cell_stays hb5 e0
  have d1 := cell_stays hb5 e1
  have d2 := cell_stays hb5 e2
  have d3 := cell_stays hb5 e3
  clear e0 e1 e2 e3
  go_wp2_with fail
  refine (check_any (givenW (hg5.mono ((Below.refl _ w5).alloc (Nat.le_refl _) _)) (leastN c : Int))).mono ?_
  rintro e w6 ⟨rfl, hb6⟩
  rw [HC1.out]
  have hb56 : Below w5.heap.size w5 w6 := ((Below.refl _ w5).alloc (Nat.le_refl _) _).trans (hb6.mono (by simp))
  have hB6 := bst hB5 hb56
  have hg6 := hg5.mono hb56
  have HD := Lib.hid (And.intro d0 (And.intro d1 (And.intro d2 d3)))
  have e0 := cell_stays hb56 d0
  have e1 := cell_stays hb56 d1
  have e2 := cell_stays hb56 d2
  have e3 := cell_stays hb56 d3
  clear d0 d1 d2 d3
  have hxc := fun o => (hb6.cell (p := ⟨w5.heap.size, o, none⟩) (by simp)).trans (cell_of_heap (World.alloc_heap_new w5 _))
  have hxf := fun o => (hb6.frozen (p := ⟨w5.heap.size, o, none⟩) (by simp)).trans (frozen_of_heap (World.alloc_heap_new w5 _))
  have k0 := hxc 0
  have k1 := hxc 1
  have k2 := hxc 2
  have k3 := hxc 3
  have hz6 : w5.heap.size < w6.heap.size := by have := hb6.size; simp at this; omega
  have hxb : w5.heap.size ≠ w.heap.size := by have := hB5.size; have := lt_of_cell e0; have h1 := hb1.size; have h2 := hb2.size; have h3 := hb3.size; have h4 := hb4.size; have h5 := hb5.size; rw [World.size_alloc] at h1; omega
  clear hxc hb6
  simp at k0 k1 k2 k3
  go_wp2_with fail
  refine (blame_any (givenW hg6 (leastN c : Int))).mono ?_
  rintro e w7 ⟨rfl, hb7⟩
  rw [HB1.out]
  have hB7 := bst hB6 hb7
  have hg7 := hg6.mono hb7
  have d0 := cell_stays hb7 e0
  have d1 := cell_stays hb7 e1
  have d2 := cell_stays hb7 e2
  have d3 := cell_stays hb7 e3
  clear e0 e1 e2 e3
  have j0 := cell_stays hb7 k0
  have j1 := cell_stays hb7 k1
  have j2 := cell_stays hb7 k2
  have j3 := cell_stays hb7 k3
  clear k0 k1 k2 k3
  have hfj : ∀ o, w7.frozen? ⟨w5.heap.size, o, none⟩ = false := fun o => (hb7.frozen (p := ⟨w5.heap.size, o, none⟩) hz6).trans (hxf o)
  clear hxf
  have HC2' := HC2.out
  obtain ⟨q, hq⟩ := HC2'
  have HQ := Lib.hid hq
  clear hq
  go_wp2_with (go_at_call 37; refine (bits_any _ (by first | exact has | exact hcs) _).mono ?_; rintro e w' ⟨rfl, rfl⟩)
  have hb57 := bst hb56 hb7
  have hB7s := (hB7.setCell (p := ⟨w5.heap.size, 2, none⟩) hB5.size (.int .i64 ((leastN c : Int) - 1)))
  refine (check_any (givenW (hg5.mono (hb57.setCell (p := ⟨w5.heap.size, 2, none⟩) (Nat.le_refl _) _)) ((leastN c : Int) - 1))).mono ?_
  rintro e w8 ⟨rfl, hb8⟩
  rw [HQ.out]
  have hb58 : Below w5.heap.size w5 w8 := (hb57.setCell (p := ⟨w5.heap.size, 2, none⟩) (Nat.le_refl _) _).trans (hb8.mono (by simpa using hb57.size))
  have hg8 := hg5.mono hb58
  have hB8 := bst hB5 hb58
  obtain ⟨m0, m1, m2, m3⟩ := HD.out
  have e0 := cell_stays hb58 m0
  have e1 := cell_stays hb58 m1
  have e2 := cell_stays hb58 m2
  have e3 := cell_stays hb58 m3
  clear m0 m1 m2 m3 d0 d1 d2 d3 j0 j1 j2 j3 hfj hb57 hb8 hB7s
  go_wp2_with fail
  refine (alive_any _).mono ?_
  rintro e w9 ⟨rfl, hb9⟩
  go_wp2
  go_ret
  exact ⟨rfl, bst hB8 hb9⟩
theorem lawWrongs_any {c : Cab} {w : World} {ah : Option Addr} {ch : Nat} {al : Option Addr} {cl : Nat} (hi : IsInts w ah c.homes) (li : IsLoans w al c.loans) (hcl : c.loans.length ≤ cl) :
    Calls Try.prog 8 #[c.v ah ch al cl] w fun e w' => e = .returned (.bool true) ∧ Below w.heap.size w w' := by
  by_cases hg : c.homes.length ≤ 16 ∧ c.loans.length ≤ 30
  · have hG : Given w c ah ch al cl := ⟨hi, li, hg.1, hg.2, hcl⟩
    cases hv : c.valid with
    | false => exact lawWrongs_o hi li (.inr ⟨hg.1, hg.2, hv⟩)
    | true =>
      by_cases hA : allT c = []
      · exact lawWrongs_n hG hv hA
      · have hw := valid_wrong hv
        by_cases h0 : leastN c = 0
        · exact lawWrongs_yz hG hv hA (by omega) h0
        · by_cases hn : (leastN c : Int) ≤ c.wrong
          · exact lawWrongs_yp hG hv hA hn (by omega)
          · exact lawWrongs_op hG hv hA (by omega) (by omega)
  · exact lawWrongs_o hi li (.inl (by simp; omega))
end Go.Proofs.Ytlhobddaojdnoaa
