/- The reference: whether a tour is valid. -/
import Derived.Test.YtphefhpmbahagaaT20
namespace Go.Proofs.Ytphefhpmbahagaa
open Go.RowKit
set_option linter.unusedVariables false
set_option linter.unusedSimpArgs false

theorem gw_at {l : List (List Spn)} {k : Nat} (h : k < l.length) : l[k]? = some (gw l k) := by simp [gw, h]
set_option maxRecDepth 100000 in
set_option maxHeartbeats 4000000 in
theorem rtour33 {t : Tr} {A : TrA} {w : World} (ha : IsTr w t A) (hs : t.Small) :
    Calls Try.prog 33 #[t.v A] w fun e w' => e = .returned (.bool t.valid) ∧ Below w.heap.size w w' := by
  have HV : Hid (t.valid = (decide (t.frm.length ≤ 6) && decide (t.ways.length = t.frm.length) && inR t.dawn 0 1440 && (t.ways ++ [t.frm, t.stay, t.light]).all fun l => areB l t.frm.length)) := rfl
  have hb : Below w.heap.size w (w.alloc (.cells (t.cells A) 25)) := (Below.refl _ w).alloc (Nat.le_refl _) _
  have hq := World.alloc_heap_new w (.cells (t.cells A) 25)
  have hn := hs.frm
  have hnw := hs.ways
  have HB := Lib.hid (And.intro hb (And.intro hq (And.intro (ha.mono hb) hs)))
  clear hb hq ha hs
  go_enter Try.func33, Try.ntmps33
  go_upto_region 1 with fail
  revert HB
  generalize (w.alloc (.cells (t.cells A) 25)) = w1
  intro HB
  obtain ⟨k0, k1, k2, k3, k4⟩ := tr_cells HB.out.2.1
  by_cases h6 : t.frm.length ≤ 6
  · have hd6 : decide (6 < (t.frm.length : Int)) = false := by simp; omega
    by_cases hw : t.ways.length = t.frm.length
    · have hbw : ((t.ways.length : Int) != (t.frm.length : Int)) = false := by simp; omega
      have H6 := Lib.hid (And.intro h6 hw)
      cases hd : inR t.dawn 0 1440
      · have HD := Lib.hid hd
        have HC := Lib.hid (rin77 t.dawn 0 1440)
        rw [hd] at HC
        clear hd
        go_wp2_with (go_at_call 77; refine (HC.out _).mono ?_; rintro e w' ⟨rfl, rfl⟩)
        go_ret
        exact ⟨ret_bool (by rw [HV.out, HD.out]; simp), HB.out.1⟩
      · have HD := Lib.hid hd
        have HC := Lib.hid (rin77 t.dawn 0 1440)
        rw [hd] at HC
        clear hd
        go_wp2_with (go_at_call 77; refine (HC.out _).mono ?_; rintro e w' ⟨rfl, rfl⟩)
        clear k0 k1 k2 k3 k4
        go_loopw [4] (fun i wr => ∃ k : Nat, k ≤ t.frm.length ∧ i = .int .i64 k ∧ Hid ((t.ways.take k).all (fun x => areB x t.frm.length) = true) ∧ Hid (Below w1.heap.size w1 wr)) (fun i _ => t.frm.length - (intOf i).toNat)
        case atStart => exact ⟨0, by omega, rfl, rfl, Below.refl _ _⟩
        case round =>
          obtain ⟨k, hk, rfl, HL, HB2⟩ := hrel
          have HBW := Lib.hid (HB.out.1.trans (HB2.out.mono HB.out.1.size))
          obtain ⟨k0, k1, k2, k3, k4⟩ := tr_cells ((HB2.out.block _ (heap_lt HB.out.2.1)).trans HB.out.2.1)
          by_cases hlt : k < t.frm.length
          · have hkw : k < t.ways.length := by omega
            obtain ⟨wb, wo, w0, ai, ci, c0, hri⟩ := (HB.out.2.2.1.mono HB2.out).ways k hkw
            rw [w0] at k2
            have hrl := HB.out.2.2.2.rows _ (List.mem_of_getElem? (gw_at hkw))
            have HS := Lib.hid (rspans78 (cap := ci) hri hrl t.frm.length)
            have HX := Lib.hid (gw_at hkw)
            clear hri w0
            cases hok : areB (gw t.ways k) t.frm.length
            · rw [hok] at HS
              have HO := Lib.hid hok
              clear hok
              go_wp2_with fail
              refine HS.out.mono ?_
              rintro e w3 ⟨rfl, hb3⟩
              have HB3 := Lib.hid (HBW.out.trans (hb3.mono HBW.out.size))
              clear hb3
              go_wp2_with fail
              go_ret
              refine ⟨ret_bool ?_, HB3.out⟩
              have h := all_stop (f := fun x => areB x t.frm.length) HX.out HO.out
              rw [HV.out, List.all_append, h]
              simp
            · rw [hok] at HS
              have HO := Lib.hid hok
              clear hok
              go_wp2_with fail
              refine HS.out.mono ?_
              rintro e w3 ⟨rfl, hb3⟩
              have HB3 := Lib.hid (HB2.out.trans (hb3.mono HB2.out.size))
              clear hb3
              go_wp2_with fail
              go_roundw
              case rel => exact ⟨k + 1, by omega, by go_num, all_next (f := fun x => areB x t.frm.length) HX.out HO.out HL.out, HB3.out⟩
              case measure => simp [intOf]; omega
          · obtain rfl : k = t.frm.length := by omega
            rw [← H6.out.2, List.take_length, H6.out.2] at HL
            have HT := Lib.hid (HB.out.2.2.1.mono HB2.out)
            have HW : Hid (t.valid = (areB t.frm t.frm.length && (areB t.stay t.frm.length && areB t.light t.frm.length))) := by
              rw [Hid, HV.out, List.all_append, HL.out, HD.out]
              simp [H6.out.1, H6.out.2]
            go_wp2_with fail
            refine (rspans78 HT.out.frm HB.out.2.2.2.frm t.frm.length).mono ?_
            rintro e w3 ⟨rfl, hb3⟩
            have HB3 := Lib.hid (HB2.out.trans (hb3.mono HB2.out.size))
            have HBW3 := Lib.hid (HB.out.1.trans (HB3.out.mono HB.out.1.size))
            clear k0 k1 k2 k3 k4 hb3
            obtain ⟨k0, k1, k2, k3, k4⟩ := tr_cells ((HB3.out.block _ (heap_lt HB.out.2.1)).trans HB.out.2.1)
            have HS2 := Lib.hid (rspans78 (cap := A.cs) (HB.out.2.2.1.mono HB3.out).stay HB.out.2.2.2.stay t.frm.length)
            cases hA : areB t.frm t.frm.length
            · have HW2 : Hid (t.valid = false) := by rw [Hid, HW.out, hA]; rfl
              clear hA
              go_wp2_with fail
              all_goals try refine ⟨fun _ _ => trivial, ?_⟩
              all_goals try go_wp2_with fail
              all_goals try refine ⟨fun _ _ => trivial, ?_⟩
              all_goals try go_wp2_with fail
              go_ret
              exact ⟨ret_bool (by rw [HW2.out]), HBW3.out⟩
            · have HW2 : Hid (t.valid = (areB t.stay t.frm.length && areB t.light t.frm.length)) := by rw [Hid, HW.out, hA]; rfl
              clear hA
              go_wp2_with fail
              refine HS2.out.mono ?_
              rintro e w4 ⟨rfl, hb4⟩
              have HB4 := Lib.hid (HB3.out.trans (hb4.mono HB3.out.size))
              have HBW4 := Lib.hid (HB.out.1.trans (HB4.out.mono HB.out.1.size))
              clear k0 k1 k2 k3 k4 hb4
              obtain ⟨k0, k1, k2, k3, k4⟩ := tr_cells ((HB4.out.block _ (heap_lt HB.out.2.1)).trans HB.out.2.1)
              have HS3 := Lib.hid (rspans78 (cap := A.cl) (HB.out.2.2.1.mono HB4.out).light HB.out.2.2.2.light t.frm.length)
              cases hA : areB t.stay t.frm.length
              · have HW3 : Hid (t.valid = false) := by rw [Hid, HW2.out, hA]; rfl
                clear hA
                go_wp2_with fail
                all_goals try refine ⟨fun _ _ => trivial, ?_⟩
                all_goals try go_wp2_with fail
                go_ret
                exact ⟨ret_bool (by rw [HW3.out]), HBW4.out⟩
              · have HW3 : Hid (t.valid = areB t.light t.frm.length) := by rw [Hid, HW2.out, hA]; rfl
                clear hA
                go_wp2_with fail
                refine HS3.out.mono ?_
                rintro e w5 ⟨rfl, hb5⟩
                have HBW5 := Lib.hid (HBW4.out.trans (hb5.mono HBW4.out.size))
                clear hb5
                go_wp2_with fail
                go_ret
                exact ⟨ret_bool (by rw [HW3.out]), HBW5.out⟩
    · have hbw : ((t.ways.length : Int) != (t.frm.length : Int)) = true := by simp; omega
      have H6 := Lib.hid hw
      go_wp2_with fail
      go_ret
      exact ⟨ret_bool (by rw [HV.out]; simp [H6.out]), HB.out.1⟩
  · have hd6 : decide (6 < (t.frm.length : Int)) = true := by simp; omega
    have H6 := Lib.hid h6
    go_wp2_with fail
    go_ret
    exact ⟨ret_bool (by rw [HV.out]; simp [H6.out]), HB.out.1⟩
end Go.Proofs.Ytphefhpmbahagaa
