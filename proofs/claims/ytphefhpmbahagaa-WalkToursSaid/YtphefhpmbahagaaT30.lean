/- The reference's Late. -/
import Derived.Test.YtphefhpmbahagaaT29
namespace Go.Proofs.Ytphefhpmbahagaa
open Go.RowKit
set_option linter.unusedVariables false
set_option linter.unusedSimpArgs false

theorem times_len (t : Tr) (o : List Int) : (t.times o).length = o.length := by simp [Tr.times, steps_len]
theorem times_at {t : Tr} {o : List Int} {k : Nat} {x y v : Int} (h : (t.steps (-1) (t.dawn, t.dawn) o)[k]? = some (v, x, y)) : gs (t.times o) k = ⟨x, y⟩ := by simp [gs, Tr.times, h]

set_option maxRecDepth 100000 in
set_option maxHeartbeats 4000000 in
theorem rlate19 {t : Tr} {A : TrA} {w : World} (ht : IsTr w t A) (hs : t.Small) {o : List Int} (hl : o.length ≤ 16) {a : Option Addr} {cap : Nat} (ha : IsInts w a o) :
    Calls Try.prog 19 #[t.v A, .slice a o.length cap] w fun e w' => e = .returned (.tuple #[.int .i64 (lateE t o).1, .bool (lateE t o).2.1, .int .i64 (lateE t o).2.2]) ∧ Below w.heap.size w w' := by
  have hbw : Below w.heap.size w (w.alloc (.cells (t.cells A) 25)) := (Below.refl _ w).alloc (Nat.le_refl _) _
  have hq := World.alloc_heap_new w (.cells (t.cells A) 25)
  have HB := Lib.hid (And.intro hbw (And.intro hq (And.intro (ha.mono hbw) (ht.mono hbw))))
  have HSM := Lib.hid hs
  have HSZ : Hid (w.heap.size + 1 ≤ (w.alloc (.cells (t.cells A) 25)).heap.size) := by simp [Hid]
  have HTE : Hid (timesE t o = if openE t (t.order o) = 0 then (t.times o, ⟨(t.over (-1) (t.dawn, t.dawn) o).1, (t.over (-1) (t.dawn, t.dawn) o).2⟩, 0) else ([], ⟨0, 0⟩, openE t (t.order o))) := rfl
  have HLE : Hid (lateE t o = if openE t (t.order o) = 0 then t.late (t.steps (-1) (t.dawn, t.dawn) o) else (0, false, openE t (t.order o))) := rfl
  clear hbw hq ha ht hs
  go_enter Try.func19, Try.ntmps19
  go_upto_region 1 with fail
  revert HB HSZ
  generalize (w.alloc (.cells (t.cells A) 25)) = w1
  intro HB HSZ
  obtain ⟨k0, k1, k2, k3, k4⟩ := tr_cells HB.out.2.1
  go_wp2_with fail
  refine (rtimes17 (cap := cap) HB.out.2.2.2 HSM.out hl HB.out.2.2.1).mono ?_
  rintro e w2 ⟨av, cv, rfl, hsp, hb2⟩
  have HB2 := Lib.hid (HB.out.1.trans (hb2.mono (show w.heap.size ≤ _ from by have := HSZ.out; omega)))
  have hsz2 : w.heap.size + 1 ≤ w2.heap.size := by have := HSZ.out; have := hb2.size; omega
  have HT2 := Lib.hid (And.intro (HB.out.2.2.2.mono hb2) (HB.out.2.2.1.mono hb2))
  have HQ2 := Lib.hid ((hb2.block _ (heap_lt HB.out.2.1)).trans HB.out.2.1)
  obtain ⟨S, hS⟩ : ∃ S : Spn, S = (timesE t o).2.1 := ⟨_, rfl⟩
  rw [← hS]
  clear hS hb2 k0 k1 k2 k3 k4
  by_cases h0 : openE t (t.order o) = 0
  · have HV := Lib.hid (openE_zero h0)
    rw [if_pos h0] at HTE HLE
    have HF := Lib.hid (fit_of_valid HV.out.1)
    have HO := Lib.hid (order_view HV.out.2)
    have e1 : (timesE t o).2.2 = 0 := by rw [HTE.out]
    have e2 : (timesE t o).1 = t.times o := by rw [HTE.out]
    rw [e1, e2]
    rw [e2] at hsp
    have HSP := Lib.hid hsp
    have htl := times_len t o
    have hn := HF.out.n
    have hlc := HF.out.light
    clear h0 e1 e2 hsp
    go_upto_region 4 with fail
    have hb3 : Below w2.heap.size w2 (w2.alloc (.cells #[.int .i64 S.lo, .int .i64 S.hi] 33)) := (Below.refl _ w2).alloc (Nat.le_refl _) _
    revert hb3
    generalize w2.alloc (.cells #[.int .i64 S.lo, .int .i64 S.hi] 33) = w3
    intro hb3
    have HB3 := Lib.hid (HB2.out.trans (hb3.mono (show w.heap.size ≤ _ by omega)))
    have HT3 := Lib.hid (And.intro (HT2.out.1.mono hb3) (HT2.out.2.mono hb3))
    have HQ3 := Lib.hid ((hb3.block _ (heap_lt HQ2.out)).trans HQ2.out)
    have HSP3 := Lib.hid (HSP.out.mono hb3)
    have hsz3 : w.heap.size + 1 ≤ w3.heap.size := by have := hb3.size; omega
    clear hb3
    go_wp2_with fail
    go_loopw [10] (fun i wr => ∃ (k : Nat), k ≤ o.length ∧ i = .int .i64 k ∧ Hid (((t.steps (-1) (t.dawn, t.dawn) o).take k).all (t.holds true) = true) ∧ Hid (Below w3.heap.size w3 wr)) (fun i _ => o.length - (intOf i).toNat)
    case atStart => exact ⟨0, by omega, rfl, rfl, Below.refl _ _⟩
    case round =>
      obtain ⟨k, hk, rfl, HA, HBR⟩ := hrel
      have HBW := Lib.hid (HB3.out.trans (HBR.out.mono (show w.heap.size ≤ _ by omega)))
      by_cases hlt : k < o.length
      · obtain ⟨ab, ao, haa, hca⟩ := (HT3.out.2.mono HBR.out) k hlt
        subst haa
        obtain ⟨v, hv, hvn⟩ := view_nat (HO.out _ (gi_mem' hlt))
        obtain ⟨lb, lo, le, c0, c1⟩ := (HT3.out.1.mono HBR.out).light v (by omega)
        obtain ⟨_, _, _, _, k4⟩ := tr_cells ((HBR.out.block _ (heap_lt HQ3.out)).trans HQ3.out)
        rw [le] at k4
        obtain ⟨sb, so, se, i0, i1⟩ := (HSP3.out.mono HBR.out) k (by omega)
        subst se
        obtain ⟨X, hX⟩ : ∃ X : Int, X = t.minAt false o k := ⟨_, rfl⟩
        obtain ⟨Y, hY⟩ : ∃ Y : Int, Y = t.minAt true o k := ⟨_, rfl⟩
        have hst := steps_k (t := t) hlt
        rw [← hX, ← hY, hv] at hst
        rw [times_at hst] at i0 i1
        have HST := Lib.hid hst
        rw [hv] at hca
        have hvl : v < t.light.length := by omega
        have hkt : k < (t.times o).length := by omega
        obtain ⟨G, hG⟩ : ∃ G : Int, G = (gs t.light v).hi := ⟨_, rfl⟩
        rw [← hG] at c1
        have HG : Hid ((gs t.light (v : Int).toNat).hi = G) := by rw [Hid, hG, Int.toNat_natCast]
        have y0 := fun y : Aft wr.heap.size wr => cell_stays y.h hca
        have y1 := fun y : Aft wr.heap.size wr => cell_stays y.h i0
        have y2 := fun y : Aft wr.heap.size wr => cell_stays y.h i1
        have y3 := fun y : Aft wr.heap.size wr => cell_stays y.h k4
        have y4 := fun y : Aft wr.heap.size wr => cell_stays y.h c1
        have HCL := Lib.hid (And.intro hca (And.intro i0 (And.intro k4 c1)))
        clear hca c0 c1 k4 hv i0 i1 hX hY hst hG
        go_upto_region 7 with fail
        cases hd : decide (G < Y)
        · have HX : Hid (t.holds true ((v : Int), X, Y) = true) := by
            have h1 : ¬ G < Y := by simpa using hd
            show decide (Y ≤ (gs t.light (v : Int).toNat).hi) = true
            rw [HG.out]; simp; omega
          refine wp_region_aft mixed (by kernel_rfl) ?_
          repeat (go_big_quiet_step (fail))
          refine wpQuiet_nil ?_
          rintro _ ⟨z, rfl⟩
          have HZ := Lib.hid (HBR.out.trans (z.h.mono HBR.out.size))
          clear y0 y1 y2 y3 y4 hd
          go_wp2_with fail
          go_roundw
          case rel => exact ⟨k + 1, by omega, by go_num, all_next HST.out HX.out HA.out, HZ.out⟩
          case measure => simp [intOf]; omega
        · have h1 : G < Y := by simpa using hd
          have HX : Hid (t.late (t.steps (-1) (t.dawn, t.dawn) o) = ((v : Int), decide (G < X), 0)) := by
            have hn : t.holds true ((v : Int), X, Y) = false := by
              show decide (Y ≤ (gs t.light (v : Int).toNat).hi) = false
              rw [HG.out]; simp; omega
            rw [Hid, late_some HA.out HST.out hn]
            have : (!t.holds false ((v : Int), X, Y)) = decide (G < X) := by
              show (!decide (X ≤ (gs t.light (v : Int).toNat).hi)) = decide (G < X)
              rw [HG.out, Bool.eq_iff_iff]; simp
            rw [this]
          clear h1
          refine wp_region_aft mixed (by kernel_rfl) ?_
          repeat (go_big_quiet_step (fail))
          refine wpQuiet_nil ?_
          rintro _ ⟨z, rfl⟩
          clear y0 y1 y2 y3 y4 hd
          have hzb := z.h
          revert hzb
          generalize z.v = w5
          intro hzb
          have HZ := Lib.hid (HBW.out.trans (hzb.mono HBW.out.size))
          have y0 := fun y : Aft w5.heap.size w5 => cell_stays y.h (cell_stays hzb HCL.out.1)
          have y1 := fun y : Aft w5.heap.size w5 => cell_stays y.h (cell_stays hzb HCL.out.2.1)
          have y3 := fun y : Aft w5.heap.size w5 => cell_stays y.h (cell_stays hzb HCL.out.2.2.1)
          have y4 := fun y : Aft w5.heap.size w5 => cell_stays y.h (cell_stays hzb HCL.out.2.2.2)
          clear hzb
          go_upto_region 8 with fail
          refine wp_region_aft mixed (by kernel_rfl) ?_
          repeat (go_big_quiet_step (fail))
          refine wpQuiet_nil ?_
          rintro _ ⟨z2, rfl⟩
          have HZ2 := Lib.hid (HZ.out.trans (z2.h.mono HZ.out.size))
          clear y0 y1 y3 y4
          go_wp2_with fail
          refine bodyPost_ret (results_tmp3 rfl _ _ _) rfl ?_
          exact ⟨by rw [HLE.out, HX.out]; rfl, HZ2.out⟩
      · obtain rfl : k = o.length := by omega
        have hst : (t.steps (-1) (t.dawn, t.dawn) o).take o.length = t.steps (-1) (t.dawn, t.dawn) o := List.take_of_length_le (by rw [steps_len]; omega)
        rw [hst] at HA
        have HX := Lib.hid (late_none HA.out)
        clear hst
        go_wp2_with fail
        refine bodyPost_ret (results_tmp3 rfl _ _ _) rfl ?_
        exact ⟨by rw [HLE.out, HX.out]; rfl, HBW.out⟩
  · have hb : (openE t (t.order o) != 0) = true := by simpa using h0
    rw [if_neg h0] at HTE HLE
    have e1 : (timesE t o).2.2 = openE t (t.order o) := by rw [HTE.out]
    rw [e1]
    have hb3 : Hid (Below w2.heap.size w2 (w2.alloc (.cells #[.int .i64 S.lo, .int .i64 S.hi] 33))) := (Below.refl _ w2).alloc (Nat.le_refl _) _
    clear h0 e1
    go_wp2_with fail
    refine bodyPost_ret (results_tmp3 rfl _ _ _) rfl ?_
    exact ⟨by rw [HLE.out]; rfl, HB2.out.trans (hb3.out.mono (show w.heap.size ≤ _ by omega))⟩
end Go.Proofs.Ytphefhpmbahagaa
