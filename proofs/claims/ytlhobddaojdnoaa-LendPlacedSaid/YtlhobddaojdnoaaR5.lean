/- The law LendPlaced answers true. -/
import Derived.Test.YtlhobddaojdnoaaR3
import Derived.Test.YtlhobddaojdnoaaW25
import Derived.Test.YtlhobddaojdnoaaR4
namespace Go.Proofs.Ytlhobddaojdnoaa
open Go.RowKit

theorem info3 : (Try.prog.info? 3).map (fun i => (i.zero, i.size, i.bytes)) = some (some (.int .i64 0), 1, 8) := by kernel_rfl

set_option maxRecDepth 100000 in
set_option maxHeartbeats 1000000 in
theorem placed_x {c : Cab} {w : World} {ah : Option Addr} {ch : Nat} {al : Option Addr} {cl : Nat} (hg : Given w c ah ch al cl) (hv : c.valid = true) (hT : truths c ≠ []) :
    Calls Try.prog 7 #[c.v ah ch al cl] w fun e w' => e = .returned (.bool true) ∧ Below w.heap.size w w' := by
  have hgr : Hid ((decide (16 < c.homes.length) || decide (30 < c.loans.length)) = false) := by have := hg.hh; have := hg.hl; unfold Hid; simp; omega
  have HV := Lib.hid hv
  have HT := Lib.hid hT
  obtain ⟨vs1, vs2⟩ := valid_slots hv
  have vh := valid_homes hv
  have vl := valid_loans hv
  have HC := Lib.hid (check_yes hv hT)
  clear hT hv
  obtain ⟨i0, hi0, hi1, hi2, hi3⟩ := info_parts info3
  go_enter Try.func7, Try.ntmps7
  go_wp2_with fail
  refine (great_any c _).mono ?_
  rintro e w1 ⟨rfl, hb1⟩
  rw [hgr.out]
  have hb0 : Below w.heap.size w (w.alloc (.cells (c.cells ah ch al cl) 25)) := (Below.refl _ w).alloc (Nat.le_refl _) _
  have hB1 := bst hb0 hb1
  have hg1 := hg.mono hB1
  obtain ⟨d0, d1, d2, d3⟩ : w1.cell? ⟨w.heap.size, 0, none⟩ = some (.int .i64 c.slots) ∧ w1.cell? ⟨w.heap.size, 1, none⟩ = some (.slice ah c.homes.length ch) ∧
      w1.cell? ⟨w.heap.size, 2, none⟩ = some (.int .i64 c.wrong) ∧ w1.cell? ⟨w.heap.size, 3, none⟩ = some (.slice al c.loans.length cl) := by
    have h := fun o => (hb1.cell (p := ⟨w.heap.size, o, none⟩) (by simp)).trans (cell_of_heap (World.alloc_heap_new w (.cells (c.cells ah ch al cl) 25)))
    exact ⟨h 0, h 1, h 2, h 3⟩
  go_wp2_with fail
  refine (refCab_any hg1.hi hg1.li hg1.hh hg1.hl).mono ?_
  rintro e w2 ⟨rfl, hb2⟩
  rw [HV.out]
  have hg2 := hg1.mono hb2
  have e0 := cell_stays hb2 d0
  have e1 := cell_stays hb2 d1
  have e2 := cell_stays hb2 d2
  have e3 := cell_stays hb2 d3
  clear d0 d1 d2 d3
  go_wp2_with fail
  refine (check_any hg2).mono ?_
  rintro e w3 ⟨rfl, hb3⟩
  rw [HC.out]
  have d0 := cell_stays hb3 e0
  have d1 := cell_stays hb3 e1
  have d2 := cell_stays hb3 e2
  have d3 := cell_stays hb3 e3
  clear e0 e1 e2 e3
  go_wp2_with fail
  have hB3 := bst (bst hB1 hb2) hb3
  have hg3 := hg2.mono hb3
  have hz3 : w.heap.size + 1 ≤ w3.heap.size := by have h1 := hb1.size; have h2 := hb2.size; have h3 := hb3.size; rw [World.size_alloc] at h1; omega
  obtain ⟨WW, hWW⟩ : ∃ f : Nat → Nat, ∀ k, f k = setL (whereL c k) := ⟨fun k => setL (whereL c k), fun _ => rfl⟩
  obtain ⟨OO, hOO⟩ : ∃ f : Nat → Bool, ∀ k, f k = outL (whereL c k) := ⟨fun k => outL (whereL c k), fun _ => rfl⟩
  have HW : Hid (∀ k : Nat, k < c.homes.length → whereE c k = ((WW k : Int), OO k, 0) ∧ WW k < 2 ^ c.slots.toNat ∧ (WW k = 0 → OO k = true)) := by
    intro k hk
    have hc : c.card (k : Int) = true := by simp [Cab.card, inR]; omega
    rw [where_yes HV.out HT.out hc, hWW, hOO]
    exact ⟨rfl, where_lt HV.out hk, where_any_of HV.out HT.out hk⟩
  have HWW := Lib.hid hWW
  have HOO := Lib.hid hOO
  clear hWW hOO hgr
  go_loopw [5, 35] (fun v i wr => ∃ k : Nat, k ≤ c.homes.length ∧ i = .int .i64 k ∧ wr.ownsRow w3.heap.size 3 1 v k ((List.range k).map fun j => .int .i64 (WW j)) ∧ Below w3.heap.size w3 wr) (fun _ i _ => c.homes.length - (intOf i).toNat)
  case atStart => exact ⟨0, by omega, rfl, World.ownsRow_nil _ _ _ _, Below.refl _ _⟩
  case round =>
    obtain ⟨k, hk, rfl, hown, hbr⟩ := hrel
    have e0 := cell_stays hbr d0
    have e1 := cell_stays hbr d1
    have e2 := cell_stays hbr d2
    have e3 := cell_stays hbr d3
    have hgr := hg3.mono hbr
    by_cases hlt : k < c.homes.length
    · have hx : ∃ (x : Int) (o : Bool), whereE c k = (x, o, 0) ∧ Hid (x = (WW k : Int)) ∧ 0 ≤ x ∧ x / 2 ^ c.slots.toNat = 0 ∧ ((x = 0 ∧ o = true) ∨ (x == 0) = false) := by
        obtain ⟨hw1, hw2, hw3⟩ := HW.out k hlt
        refine ⟨WW k, OO k, hw1, rfl, by omega, Int.ediv_eq_zero_of_lt (by omega) (by exact_mod_cast hw2), ?_⟩
        by_cases h0 : WW k = 0
        · exact .inl ⟨by omega, hw3 h0⟩
        · exact .inr (by simpa using h0)
      obtain ⟨x, o, hx1, HX, hx0, hq, hcase⟩ := hx
      have H1 := Lib.hid hx1
      clear hx1
      go_wp2_with fail
      refine (where_any hgr k).mono ?_
      rintro e w4 ⟨rfl, hb4⟩
      rw [H1.out]
      have x0 := cell_stays hb4 e0
      have x1 := cell_stays hb4 e1
      have x2 := cell_stays hb4 e2
      have x3 := cell_stays hb4 e3
      clear e0 e1 e2 e3
      have hz4 := hb4.size
      obtain ⟨v1, w5, hr, own5, hg5⟩ := append_one w3.heap.size 22 22 3 i0 _ 8 Try.underlying22 hi0 hi1 hi2 hi3 rfl u5 k _ (own_below hown hb4) (.int .i64 x) rfl (by simp [maxLen]; omega) (by omega) (by have := hbr.size; omega)
      have HR := Lib.hid hr
      have hb5 : Below w3.heap.size w3 w5 := grown_below (((hbr.trans (hb4.mono hbr.size))).alloc (by have := hbr.size; omega) _) ((own_below hown hb4).alloc _) hg5 (by simp; have := hbr.size; omega)
      have ha := own_slice hown
      obtain ⟨a5, c5, rfl, _⟩ := ha
      have own5' : w5.ownsRow w3.heap.size 3 1 v1 (k + 1) ((List.range (k + 1)).map fun j => .int .i64 (WW j)) := by
        rw [List.range_succ, List.map_append, List.map_singleton, ← HX.out]; exact own5
      clear hr own5 hg5 hown
      rcases hcase with ⟨h0, rfl⟩ | h0
      · obtain rfl : 0 = x := h0.symm
        go_wp2_with (at_builtin; refine wpList_append_run rfl (.tmp 86) (.tmp 88) 22 rfl _ _ _ _ rfl rfl HR.out ?_)
        go_roundw
        case rel => exact ⟨k + 1, by omega, by go_num, own5', hb5⟩
        case measure => simp [intOf]; omega
      · go_wp2_with (at_builtin; refine wpList_append_run rfl (.tmp 86) (.tmp 88) 22 rfl _ _ _ _ rfl rfl HR.out ?_)
        go_roundw
        case rel => exact ⟨k + 1, by omega, by go_num, own5', hb5⟩
        case measure => simp [intOf]; omega
    · obtain rfl : k = c.homes.length := by omega
      obtain ⟨SS, hSS⟩ : ∃ f : Nat → Nat, ∀ k, f k = setL (slotL c k) := ⟨fun k => setL (slotL c k), fun _ => rfl⟩
      obtain ⟨EE, hEE⟩ : ∃ f : Nat → Bool, ∀ k, f k = outL (slotL c k) := ⟨fun k => outL (slotL c k), fun _ => rfl⟩
      have HSS := Lib.hid hSS
      have HEE := Lib.hid hEE
      have HBit : Hid (∀ s m : Nat, (s : Int) < c.slots → m < c.homes.length → ∃ b : Bool, (bits .and .i64 ((SS s : Int) / 2 ^ m) 1 == 1) = b ∧ (bits .and .i64 ((WW m : Int) / 2 ^ s) 1 == 1) = b ∧
          Hid (c.loans.length < 12 → ∃ x, check (addLook c s m) = (x, if b then 4 else 0))) := by
        intro s m hs hm
        have h1 : WW m < 2 ^ 62 := Nat.lt_of_lt_of_le (HW.out m hm).2.1 (Nat.pow_le_pow_right (by decide) (by omega))
        have h2 : SS s < 2 ^ 62 := by rw [HSS.out]; exact slotL_lt HV.out s
        refine ⟨(SS s).testBit m, bit_test _ _ h2, ?_, fun hl => ?_⟩
        · rw [bit_test _ _ h1, HWW.out, HSS.out, where_slot HV.out hm]
        · refine check_look HV.out hl (by simp [Cab.slotOf, inR]; omega) (.inr (by simp [Cab.card, inR]; omega)) ?_
          rw [HSS.out, slot_test HV.out]
      have HEmp : Hid (∀ s : Nat, (s : Int) < c.slots → c.loans.length < 12 → ∃ x, check (addLook c s (-1)) = (x, if EE s then 4 else 0)) := by
        intro s hs hl
        refine check_look HV.out hl (by simp [Cab.slotOf, inR]; omega) (.inl rfl) ?_
        rw [HEE.out, slot_out]
      clear hSS hEE hk hlt
      obtain ⟨wo, rfl⟩ : ∃ wo : World, wo = wr := ⟨_, rfl⟩
      go_wp2_with fail
      go_loopw [93] (fun i wr => ∃ s : Nat, (s : Int) ≤ c.slots ∧ i = .int .i64 s ∧ Below wo.heap.size wo wr) (fun i _ => (c.slots - intOf i).toNat)
      case atStart => exact ⟨0, by omega, rfl, Below.refl _ _⟩
      case round =>
        obtain ⟨s, hs, rfl, hbs⟩ := hrel
        have x0 := cell_stays hbs e0
        have x1 := cell_stays hbs e1
        have x2 := cell_stays hbs e2
        have x3 := cell_stays hbs e3
        have hgs := hgr.mono hbs
        have hown2 := own_below hown hbs
        by_cases hlt : (s : Int) < c.slots
        · have HY : Hid (slotE c s = ((SS s : Int), EE s, 0)) := by
            have hc : c.slotOf (s : Int) = true := by simp [Cab.slotOf, inR]; omega
            rw [Hid, slot_yes HV.out HT.out hc, HSS.out, HEE.out]
          go_wp2_with fail
          refine (slot_any hgs s).mono ?_
          rintro e w4 ⟨rfl, hb4⟩
          rw [HY.out]
          have y0 := cell_stays hb4 x0
          have y1 := cell_stays hb4 x1
          have y2 := cell_stays hb4 x2
          have y3 := cell_stays hb4 x3
          have hown4 := own_below hown2 hb4
          have hg4 := hgs.mono hb4
          clear x0 x1 x2 x3
          obtain ⟨wp, rfl⟩ : ∃ wo : World, wo = wr := ⟨_, rfl⟩
          go_wp2_with fail
          go_loopw [14] (fun i w5 => ∃ x : Int, -1 ≤ x ∧ x ≤ c.homes.length ∧ i = .int .i64 x ∧ Below w4.heap.size w4 w5) (fun i _ => (c.homes.length - intOf i).toNat)
          case atStart => exact ⟨-1, by omega, by omega, rfl, Below.refl _ _⟩
          case round =>
            obtain ⟨x, hx1, hx2, rfl, hb5⟩ := hrel
            have z0 := cell_stays hb5 y0
            have z1 := cell_stays hb5 y1
            have z2 := cell_stays hb5 y2
            have z3 := cell_stays hb5 y3
            have hown5 := own_below hown4 hb5
            have hg5 := hg4.mono hb5
            by_cases hxl : x < c.homes.length
            · by_cases hx0 : x = -1
              · subst hx0
                have hem := HEmp.out s hlt
                cases hee : EE s
                all_goals
                  have HE := Lib.hid hee
                  clear hee
                  by_cases hl12 : c.loans.length < 12
                  · obtain ⟨q, hq⟩ := hem hl12
                    rw [HE.out] at hq
                    have HQ := Lib.hid hq
                    clear hq hem
                    go_wp2_with fail
                    refine (addLook_any hg5.li hg5.hl _ _).mono ?_
                    rintro e w6 ⟨⟨al', cl', rfl, hli, hcap⟩, hb6⟩
                    have hg6 : Given w6 (addLook c s (-1)) ah ch al' cl' := ⟨hg5.hi.mono hb6, hli, hg5.hh, by simp [addLook]; omega, by simpa [addLook] using hcap⟩
                    have hz6 := hb6.size
                    go_wp2_with fail
                    refine (check_any (hg6.mono ((Below.refl _ w6).alloc (Nat.le_refl _) _))).mono ?_
                    rintro e w7 ⟨rfl, hb7⟩
                    rw [HQ.out]
                    go_wp2_with fail
                    go_roundw
                    case rel => exact ⟨0, by omega, by omega, by first | rfl | go_num, bst (bst hb5 hb6) ((Below.refl _ w6).alloc (Nat.le_refl _) _ |>.trans (hb7.mono (by simp)))⟩
                    case measure => first | (simp [intOf]; done) | (simp [intOf]; omega)
                  · clear hem
                    have hl12' : 12 ≤ c.loans.length := by omega
                    go_wp2_with fail
                    go_roundw
                    case rel => exact ⟨0, by omega, by omega, rfl, hb5⟩
                    case measure => first | (simp [intOf]; done) | (simp [intOf]; omega)
              · obtain ⟨m, rfl⟩ := Int.eq_ofNat_of_zero_le (show 0 ≤ x by omega)
                have hm : m < c.homes.length := by omega
                obtain ⟨g, cap, rfl, _, _, _, _, hcs⟩ := own_cell hown5 (by omega)
                have hcm : wr.cell? ⟨g, m, none⟩ = some (.int .i64 (WW m)) := hcs m _ (by simp [hm])
                clear hcs
                have hx0' : ((m : Int) == -1) = false := by simp
                clear hx0
                obtain ⟨b, hb1, hb2, HK⟩ := HBit.out s m hlt hm
                cases b
                all_goals
                  by_cases hl12 : c.loans.length < 12
                  · obtain ⟨q, hq⟩ := HK.out hl12
                    have HQ := Lib.hid hq
                    clear hq
                    go_wp2_with fail
                    refine (addLook_any hg5.li hg5.hl _ _).mono ?_
                    rintro e w6 ⟨⟨al', cl', rfl, hli, hcap⟩, hb6⟩
                    have hg6 : Given w6 (addLook c s m) ah ch al' cl' := ⟨hg5.hi.mono hb6, hli, hg5.hh, by simp [addLook]; omega, by simpa [addLook] using hcap⟩
                    have hz6 := hb6.size
                    go_wp2_with fail
                    refine (check_any (hg6.mono ((Below.refl _ w6).alloc (Nat.le_refl _) _))).mono ?_
                    rintro e w7 ⟨rfl, hb7⟩
                    rw [HQ.out]
                    go_wp2_with fail
                    go_roundw
                    case rel => exact ⟨m + 1, by omega, by omega, by first | rfl | go_num, bst (bst hb5 hb6) ((Below.refl _ w6).alloc (Nat.le_refl _) _ |>.trans (hb7.mono (by simp)))⟩
                    case measure => first | (simp [intOf]; done) | (simp [intOf]; omega)
                  · have hl12' : 12 ≤ c.loans.length := by omega
                    go_wp2_with fail
                    go_roundw
                    case rel => exact ⟨m + 1, by omega, by omega, rfl, hb5⟩
                    case measure => first | (simp [intOf]; done) | (simp [intOf]; omega)
            · go_wp2_with fail
              go_roundw
              case rel => exact ⟨s + 1, by omega, by go_num, bst hbs (bst hb4 hb5)⟩
              case measure => simp [intOf]; omega
        · go_wp2_with fail
          refine (alive_any _).mono ?_
          rintro e w9 ⟨rfl, hb9⟩
          go_wp2
          go_ret
          exact ⟨rfl, bst (bst (bst hB3 hbr) hbs) hb9⟩
set_option maxRecDepth 100000 in
set_option maxHeartbeats 1000000 in
theorem placed_n {c : Cab} {w : World} {ah : Option Addr} {ch : Nat} {al : Option Addr} {cl : Nat} (hg : Given w c ah ch al cl) (hv : c.valid = true) (hT : truths c = []) :
    Calls Try.prog 7 #[c.v ah ch al cl] w fun e w' => e = .returned (.bool true) ∧ Below w.heap.size w w' := by
  have hgr : Hid ((decide (16 < c.homes.length) || decide (30 < c.loans.length)) = false) := by have := hg.hh; have := hg.hl; unfold Hid; simp; omega
  have HV := Lib.hid hv
  have HT := Lib.hid hT
  obtain ⟨vs1, vs2⟩ := valid_slots hv
  have vh := valid_homes hv
  have vl := valid_loans hv
  have HC : Hid (∃ q, check c = (q, 0)) := ⟨(check c).1, Prod.ext rfl (check_no hv hT)⟩
  clear hT hv
  obtain ⟨i0, hi0, hi1, hi2, hi3⟩ := info_parts info3
  go_enter Try.func7, Try.ntmps7
  go_wp2_with fail
  refine (great_any c _).mono ?_
  rintro e w1 ⟨rfl, hb1⟩
  rw [hgr.out]
  have hb0 : Below w.heap.size w (w.alloc (.cells (c.cells ah ch al cl) 25)) := (Below.refl _ w).alloc (Nat.le_refl _) _
  have hB1 := bst hb0 hb1
  have hg1 := hg.mono hB1
  obtain ⟨d0, d1, d2, d3⟩ : w1.cell? ⟨w.heap.size, 0, none⟩ = some (.int .i64 c.slots) ∧ w1.cell? ⟨w.heap.size, 1, none⟩ = some (.slice ah c.homes.length ch) ∧
      w1.cell? ⟨w.heap.size, 2, none⟩ = some (.int .i64 c.wrong) ∧ w1.cell? ⟨w.heap.size, 3, none⟩ = some (.slice al c.loans.length cl) := by
    have h := fun o => (hb1.cell (p := ⟨w.heap.size, o, none⟩) (by simp)).trans (cell_of_heap (World.alloc_heap_new w (.cells (c.cells ah ch al cl) 25)))
    exact ⟨h 0, h 1, h 2, h 3⟩
  go_wp2_with fail
  refine (refCab_any hg1.hi hg1.li hg1.hh hg1.hl).mono ?_
  rintro e w2 ⟨rfl, hb2⟩
  rw [HV.out]
  have hg2 := hg1.mono hb2
  have e0 := cell_stays hb2 d0
  have e1 := cell_stays hb2 d1
  have e2 := cell_stays hb2 d2
  have e3 := cell_stays hb2 d3
  clear d0 d1 d2 d3
  obtain ⟨q, hq⟩ := HC.out
  have HQ := Lib.hid hq
  clear hq
  go_wp2_with fail
  refine (check_any hg2).mono ?_
  rintro e w3 ⟨rfl, hb3⟩
  rw [HQ.out]
  have d0 := cell_stays hb3 e0
  have d1 := cell_stays hb3 e1
  have d2 := cell_stays hb3 e2
  have d3 := cell_stays hb3 e3
  clear e0 e1 e2 e3
  go_wp2_with fail
  have hB3 := bst (bst hB1 hb2) hb3
  have hg3 := hg2.mono hb3
  have hz3 : w.heap.size + 1 ≤ w3.heap.size := by have h1 := hb1.size; have h2 := hb2.size; have h3 := hb3.size; rw [World.size_alloc] at h1; omega
  have HW : Hid (∀ k : Nat, k < c.homes.length → whereE c k = (0, false, 4)) := fun k hk =>
    where_no HV.out HT.out (by simp [Cab.card, inR]; omega)
  have HY : Hid (∀ s : Nat, (s : Int) < c.slots → slotE c s = (0, false, 4)) := fun s hs =>
    slot_no HV.out HT.out (by simp [Cab.slotOf, inR]; omega)
  clear hgr
  go_loopw [5, 35] (fun v i wr => ∃ k : Nat, k ≤ c.homes.length ∧ i = .int .i64 k ∧ wr.ownsRow w3.heap.size 3 1 v k ((List.range k).map fun _ => .int .i64 0) ∧ Below w3.heap.size w3 wr) (fun _ i _ => c.homes.length - (intOf i).toNat)
  case atStart => exact ⟨0, by omega, rfl, World.ownsRow_nil _ _ _ _, Below.refl _ _⟩
  case round =>
    obtain ⟨k, hk, rfl, hown, hbr⟩ := hrel
    have e0 := cell_stays hbr d0
    have e1 := cell_stays hbr d1
    have e2 := cell_stays hbr d2
    have e3 := cell_stays hbr d3
    have hgr := hg3.mono hbr
    by_cases hlt : k < c.homes.length
    · have H1 := Lib.hid (HW.out k hlt)
      go_wp2_with fail
      refine (where_any hgr k).mono ?_
      rintro e w4 ⟨rfl, hb4⟩
      rw [H1.out]
      have x0 := cell_stays hb4 e0
      have x1 := cell_stays hb4 e1
      have x2 := cell_stays hb4 e2
      have x3 := cell_stays hb4 e3
      clear e0 e1 e2 e3
      have hz4 := hb4.size
      obtain ⟨v1, w5, hr, own5, hg5⟩ := append_one w3.heap.size 22 22 3 i0 _ 8 Try.underlying22 hi0 hi1 hi2 hi3 rfl u5 k _ (own_below hown hb4) (.int .i64 0) rfl (by simp [maxLen]; omega) (by omega) (by have := hbr.size; omega)
      have HR := Lib.hid hr
      have hb5 : Below w3.heap.size w3 w5 := grown_below (((hbr.trans (hb4.mono hbr.size))).alloc (by have := hbr.size; omega) _) ((own_below hown hb4).alloc _) hg5 (by simp; have := hbr.size; omega)
      have ha := own_slice hown
      obtain ⟨a5, c5, rfl, _⟩ := ha
      have own5' : w5.ownsRow w3.heap.size 3 1 v1 (k + 1) ((List.range (k + 1)).map fun _ => .int .i64 0) := by
        rw [List.range_succ, List.map_append, List.map_singleton]; exact own5
      clear hr own5 hg5 hown
      go_wp2_with (at_builtin; refine wpList_append_run rfl (.tmp 86) (.tmp 88) 22 rfl _ _ _ _ rfl rfl HR.out ?_)
      go_roundw
      case rel => exact ⟨k + 1, by omega, by go_num, own5', hb5⟩
      case measure => simp [intOf]; omega
    · obtain rfl : k = c.homes.length := by omega
      clear hk hlt
      obtain ⟨wo, rfl⟩ : ∃ wo : World, wo = wr := ⟨_, rfl⟩
      go_wp2_with fail
      go_loopw [93] (fun i wr => ∃ s : Nat, (s : Int) ≤ c.slots ∧ i = .int .i64 s ∧ Below wo.heap.size wo wr) (fun i _ => (c.slots - intOf i).toNat)
      case atStart => exact ⟨0, by omega, rfl, Below.refl _ _⟩
      case round =>
        obtain ⟨s, hs, rfl, hbs⟩ := hrel
        have x0 := cell_stays hbs e0
        have x1 := cell_stays hbs e1
        have x2 := cell_stays hbs e2
        have x3 := cell_stays hbs e3
        have hgs := hgr.mono hbs
        by_cases hlt : (s : Int) < c.slots
        · have HYs := Lib.hid (HY.out s hlt)
          go_wp2_with fail
          refine (slot_any hgs s).mono ?_
          rintro e w4 ⟨rfl, hb4⟩
          rw [HYs.out]
          go_wp2_with fail
          go_roundw
          case rel => exact ⟨s + 1, by omega, by go_num, bst hbs hb4⟩
          case measure => simp [intOf]; omega
        · go_wp2_with fail
          refine (alive_any _).mono ?_
          rintro e w9 ⟨rfl, hb9⟩
          go_wp2
          go_ret
          exact ⟨rfl, bst (bst (bst hB3 hbr) hbs) hb9⟩
/-- Too great, or not valid: alive alone is asked. -/
theorem placed_o {c : Cab} {w : World} {ah : Option Addr} {ch : Nat} {al : Option Addr} {cl : Nat} (hi : IsInts w ah c.homes) (li : IsLoans w al c.loans)
    (h : (decide (16 < c.homes.length) || decide (30 < c.loans.length)) = true ∨ (c.homes.length ≤ 16 ∧ c.loans.length ≤ 30 ∧ c.valid = false)) :
    Calls Try.prog 7 #[c.v ah ch al cl] w fun e w' => e = .returned (.bool true) ∧ Below w.heap.size w w' := by
  have hb0 : Below w.heap.size w (w.alloc (.cells (c.cells ah ch al cl) 25)) := (Below.refl _ w).alloc (Nat.le_refl _) _
  rcases h with h | ⟨h1, h2, hv⟩
  · have H := Lib.hid h
    clear h
    go_enter Try.func7, Try.ntmps7
    go_wp2_with fail
    refine (great_any c _).mono ?_
    rintro e w1 ⟨rfl, hb1⟩
    rw [H.out]
    go_wp2_with fail
    refine (alive_any _).mono ?_
    rintro e w9 ⟨rfl, hb9⟩
    go_wp2
    go_ret
    exact ⟨rfl, bst (bst hb0 hb1) hb9⟩
  · have H : Hid ((decide (16 < c.homes.length) || decide (30 < c.loans.length)) = false) := by unfold Hid; simp; omega
    have HV := Lib.hid hv
    clear hv
    go_enter Try.func7, Try.ntmps7
    go_wp2_with fail
    refine (great_any c _).mono ?_
    rintro e w1 ⟨rfl, hb1⟩
    rw [H.out]
    have hB1 := bst hb0 hb1
    obtain ⟨d0, d1, d2, d3⟩ : w1.cell? ⟨w.heap.size, 0, none⟩ = some (.int .i64 c.slots) ∧ w1.cell? ⟨w.heap.size, 1, none⟩ = some (.slice ah c.homes.length ch) ∧
        w1.cell? ⟨w.heap.size, 2, none⟩ = some (.int .i64 c.wrong) ∧ w1.cell? ⟨w.heap.size, 3, none⟩ = some (.slice al c.loans.length cl) := by
      have h := fun o => (hb1.cell (p := ⟨w.heap.size, o, none⟩) (by simp)).trans (cell_of_heap (World.alloc_heap_new w (.cells (c.cells ah ch al cl) 25)))
      exact ⟨h 0, h 1, h 2, h 3⟩
    go_wp2_with fail
    refine (refCab_any (hi.mono hB1) (li.mono hB1) h1 h2).mono ?_
    rintro e w2 ⟨rfl, hb2⟩
    rw [HV.out]
    go_wp2_with fail
    refine (alive_any _).mono ?_
    rintro e w9 ⟨rfl, hb9⟩
    go_wp2
    go_ret
    exact ⟨rfl, bst (bst hB1 hb2) hb9⟩
theorem placed_any {c : Cab} {w : World} {ah : Option Addr} {ch : Nat} {al : Option Addr} {cl : Nat} (hi : IsInts w ah c.homes) (li : IsLoans w al c.loans) (hcl : c.loans.length ≤ cl) :
    Calls Try.prog 7 #[c.v ah ch al cl] w fun e w' => e = .returned (.bool true) ∧ Below w.heap.size w w' := by
  by_cases hg : c.homes.length ≤ 16 ∧ c.loans.length ≤ 30
  · have hG : Given w c ah ch al cl := ⟨hi, li, hg.1, hg.2, hcl⟩
    cases hv : c.valid with
    | false => exact placed_o hi li (.inr ⟨hg.1, hg.2, hv⟩)
    | true =>
      by_cases hT : truths c = []
      · exact placed_n hG hv hT
      · exact placed_x hG hv hT
  · exact placed_o hi li (.inl (by simp; omega))
end Go.Proofs.Ytlhobddaojdnoaa
