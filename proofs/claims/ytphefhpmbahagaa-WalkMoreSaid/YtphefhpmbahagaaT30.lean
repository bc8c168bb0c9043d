/- The reference's Walk. The reference's Sure and Can, Walked. The reference's Times. The reference's Late. -/
import Derived.Test.YtphefhpmbahagaaT26
namespace Go.Proofs.Ytphefhpmbahagaa
open Go.RowKit
set_option linter.unusedVariables false
set_option linter.unusedSimpArgs false

theorem end85s (s : Spn) (q : Bool) (w : World) : Calls Try.prog 85 #[.agg #[.int .i64 s.lo, .int .i64 s.hi], .bool q] w fun e w' => e = .returned (.int .i64 (s.sel q)) ∧ Below w.heap.size w w' := end85 s q w
theorem sel_ok {s : Spn} (h : s.ok = true) (q : Bool) : 0 ≤ s.sel q ∧ s.sel q ≤ 1440 := by
  have := (ok_iff s).1 h
  cases q <;> simp [Spn.sel] <;> omega
theorem sel_low {q : Bool} {p : Int × Int} {B : Int} (h : 0 ≤ p.1 ∧ p.1 ≤ B ∧ 0 ≤ p.2 ∧ p.2 ≤ B) : 0 ≤ sel q p ∧ sel q p ≤ B := by
  cases q <;> simp [sel] <;> omega
/-- The way's span of step k. -/
def Tr.wayAt (t : Tr) (o : List Int) (k : Nat) : Spn := t.way (t.at_ o k).1 (gi o k)
theorem wayAt_ok {t : Tr} (hF : t.Fit) {o : List Int} (ho : ∀ x ∈ o, t.view x = true) {k : Nat} (h : k < o.length) : (t.wayAt o k).ok = true := by
  obtain ⟨v, hv, hvn⟩ := view_nat (ho _ (gi_mem' h))
  have hf := at_from ho k (by omega)
  unfold Tr.wayAt
  rw [hv]
  rcases hf with e | ⟨m, e, hm⟩
  · rw [e]; simpa [Tr.way] using hF.okf v hvn
  · rw [e]
    have e' : ¬ (m : Int) = -1 := by omega
    simpa [Tr.way, e'] using hF.okw m v hm hvn
theorem wayAt_zero (t : Tr) (o : List Int) : t.wayAt o 0 = gs t.frm (gi o 0).toNat := by simp [Tr.wayAt, at_zero, Tr.way]
theorem wayAt_succ (t : Tr) {o : List Int} {j : Nat} (h : j < o.length) (h0 : 0 ≤ gi o j) : t.wayAt o (j + 1) = gs (gw t.ways (gi o j).toNat) (gi o (j + 1)).toNat := by
  have e : ¬ gi o j = -1 := by omega
  simp [Tr.wayAt, at_succ t h, Tr.go, Tr.way, e]
theorem minAt_max (t : Tr) (q : Bool) (o : List Int) (k : Nat) : max (sel q (t.at_ o k).2 + (t.wayAt o k).sel q) (gs t.light (gi o k).toNat).lo = t.minAt q o k := (sel_begin t q _ _ _).symm
theorem mins_more (t : Tr) (q : Bool) {o : List Int} {k : Nat} (h : k < o.length) : ((t.mins q o).take (k + 1)).map (Value.int .i64) = ((t.mins q o).take k).map (Value.int .i64) ++ [.int .i64 (t.minAt q o k)] := by
  have hl : k < (t.mins q o).length := by rw [mins_len]; exact h
  rw [List.take_succ_eq_append_getElem hl, List.map_append]
  have : (t.mins q o)[k] = t.minAt q o k := by
    have := mins_at t q h
    simpa [gi, hl] using this
  rw [this]; rfl
theorem minAt_low {t : Tr} (hF : t.Fit) {o : List Int} (ho : ∀ x ∈ o, t.view x = true) (q : Bool) {k : Nat} (h : k < o.length) : 0 ≤ t.minAt q o k ∧ t.minAt q o k ≤ 1440 + 2880 * (k : Int) + 1440 := by
  obtain ⟨v, hv, hvn⟩ := view_nat (ho _ (gi_mem' h))
  unfold Tr.minAt
  rw [hv]
  exact sel_low (begin_low hF (at_from ho k (by omega)) hvn (at_low hF ho k (by omega)) (by omega))

set_option maxRecDepth 100000 in
set_option maxHeartbeats 4000000 in
theorem rwalk56 {t : Tr} {A : TrA} {w : World} (ht : IsTr w t A) (hF : t.Fit) {o : List Int} (hl : o.length ≤ 16) (ho : ∀ x ∈ o, t.view x = true) {a : Option Addr} {cap : Nat} (ha : IsInts w a o) (q : Bool) :
    Calls Try.prog 56 #[t.v A, .slice a o.length cap, .bool q] w fun e w' => ∃ v, e = .returned (.tuple #[v, .int .i64 (sel q (t.at_ o o.length).2)]) ∧ w'.ownsRow w.heap.size 3 1 v o.length ((t.mins q o).map (Value.int .i64)) ∧ Below w.heap.size w w' := by
  have hbw : Below w.heap.size w (w.alloc (.cells (t.cells A) 25)) := (Below.refl _ w).alloc (Nat.le_refl _) _
  have hq := World.alloc_heap_new w (.cells (t.cells A) 25)
  have HB := Lib.hid (And.intro hbw (And.intro hq (And.intro (ha.mono hbw) (ht.mono hbw))))
  have HF := Lib.hid (And.intro hF ho)
  have hn := hF.n
  have hlc := hF.light
  have hsc := hF.stay
  have hwc := hF.ways
  have hsel0 : sel q (t.dawn, t.dawn) = t.dawn := by cases q <;> rfl
  have HSZ : Hid (w.heap.size < (w.alloc (.cells (t.cells A) 25)).heap.size) := by simp [Hid]
  clear hbw hq ha ht hF ho
  go_enter Try.func56, Try.ntmps56
  go_upto_region 1 with fail
  revert HB HSZ
  generalize (w.alloc (.cells (t.cells A) 25)) = w1
  intro HB HSZ
  obtain ⟨k0, _, _, _, _⟩ := tr_cells HB.out.2.1
  go_wp2_with fail
  go_loopw [8, 9, 10] (fun r d i wr => ∃ (k : Nat), k ≤ o.length ∧ i = .int .i64 k ∧ d = .int .i64 (sel q (t.at_ o k).2) ∧ Hid (wr.ownsRow w1.heap.size 3 1 r k (((t.mins q o).take k).map (Value.int .i64))) ∧ Hid (w1.heap.size ≤ wr.heap.size ∧ Below w1.heap.size w1 wr)) (fun _ _ i _ => o.length - (intOf i).toNat)
  case atStart => exact ⟨0, by omega, rfl, by rw [at_zero, hsel0], World.ownsRow_nil _ _ _ _, Nat.le_refl _, Below.refl _ _⟩
  case round =>
    obtain ⟨k, hk, rfl, rfl, HR, HB2⟩ := hrel
    by_cases hlt : k < o.length
    · obtain ⟨ab, ao, haa, hca⟩ := (HB.out.2.2.1.mono HB2.out.2) k hlt
      subst haa
      obtain ⟨v, hv, hvn⟩ := view_nat (HF.out.2 _ (gi_mem' hlt))
      have htr := HB.out.2.2.2.mono HB2.out.2
      obtain ⟨fb, fo, fe, f0, f1⟩ := htr.frm v hvn
      obtain ⟨lb, lo, le, c0, c1⟩ := htr.light v (by omega)
      obtain ⟨stb, sto, te, d0, d1⟩ := HB.out.2.2.2.stay v (by omega)
      obtain ⟨_, _, _, k3, _⟩ := tr_cells HB.out.2.1
      obtain ⟨_, k1, k2, _, k4⟩ := tr_cells ((HB2.out.2.block _ (heap_lt HB.out.2.1)).trans HB.out.2.1)
      rw [fe] at k1
      rw [le] at k4
      rw [te] at k3
      have HV := Lib.hid hv
      rw [hv] at hca
      have b1 := lt_of_cell k1
      have b2 := lt_of_cell f0
      have hwr1 : w1.heap.size ≤ wr.heap.size := HB2.out.1
      have hbx := heap_lt HB.out.2.1
      have hba : Below wr.heap.size wr (wr.alloc (.cells (gs t.frm v).arr 33)) := (Below.refl _ wr).alloc (Nat.le_refl _) _
      have qa := World.alloc_heap_new wr (.cells (gs t.frm v).arr 33)
      have HQA := Lib.hid (And.intro hba qa)
      clear hba qa hv htr
      obtain ⟨N, hN⟩ : ∃ N : Int, N = sel q (t.at_ o k).2 := ⟨_, rfl⟩
      rw [← hN]
      have hNb : 0 ≤ N ∧ N ≤ 100000 := by
        have := sel_low (q := q) (at_low HF.out.1 HF.out.2 k hk)
        rw [hN]; omega
      have HN := Lib.hid hN
      clear hN
      obtain ⟨s, hs⟩ : ∃ s : Spn, s = t.wayAt o k := ⟨_, rfl⟩
      have HS := Lib.hid hs
      obtain ⟨E, hE⟩ : ∃ E : Int, E = s.sel q := ⟨_, rfl⟩
      have hEb : 0 ≤ E ∧ E ≤ 1440 := by rw [hE, hs]; exact sel_ok (wayAt_ok HF.out.1 HF.out.2 hlt) q
      have HE1 : Hid (∀ w, Calls Try.prog 85 #[.agg #[.int .i64 s.lo, .int .i64 s.hi], .bool q] w fun e w' => e = .returned (.int .i64 E) ∧ Below w.heap.size w w') := fun w => by rw [hE]; exact end85s s q w
      obtain ⟨M, hM⟩ : ∃ M : Int, M = t.minAt q o k := ⟨_, rfl⟩
      have hMb : 0 ≤ M ∧ M ≤ 100000 := by have := minAt_low HF.out.1 HF.out.2 q hlt; rw [hM]; omega
      have HMX : Hid ((if N + E < (gs t.light v).lo then (gs t.light v).lo else N + E) = M) := by
        have h := minAt_max t q o k
        rw [HV.out, Int.toNat_natCast] at h
        rw [Hid, HN.out, hE, hs, hM, ← h]
        generalize sel q (t.at_ o k).2 + (t.wayAt o k).sel q = a
        split <;> omega
      have HME : Hid (t.minAt q o k = M) := hM.symm
      obtain ⟨E2, hE2⟩ : ∃ E : Int, E = (gs t.stay v).sel q := ⟨_, rfl⟩
      have hE2b : 0 ≤ E2 ∧ E2 ≤ 1440 := by rw [hE2]; exact sel_ok (HF.out.1.oks v hvn) q
      have HE2 : Hid (∀ w, Calls Try.prog 85 #[.agg #[.int .i64 (gs t.stay v).lo, .int .i64 (gs t.stay v).hi], .bool q] w fun e w' => e = .returned (.int .i64 E2) ∧ Below w.heap.size w w') := fun w => by rw [hE2]; exact end85s _ q w
      have HNX : Hid (sel q (t.at_ o (k + 1)).2 = M + E2) := by rw [Hid, sel_next t q hlt, HV.out, Int.toNat_natCast, hM, hE2]
      clear hM hE2
      clear hE hs
      by_cases hk0 : k = 0
      · have hg0 : decide (0 < k) = false := by simp; omega
        have HWF : Hid (gs t.frm v = s) := by rw [Hid, HS.out]; have := HV.out; subst hk0; rw [wayAt_zero, this, Int.toNat_natCast]
        clear hk0
        go_upto_region 10 with fail
        rw [HWF.out] at HQA ⊢
        revert HQA
        generalize (wr.alloc (.cells s.arr 33)) = V
        intro HVV
        have hvb := HVV.out.1
        have s0 : V.cell? ⟨wr.heap.size, 0, none⟩ = some (.int .i64 s.lo) := by rw [cell_of_heap HVV.out.2]; rfl
        have s1 : V.cell? ⟨wr.heap.size, 1, none⟩ = some (.int .i64 s.hi) := by rw [cell_of_heap HVV.out.2]; rfl
        have k4' := cell_stays hvb k4
        have c0' := cell_stays hvb c0
        have y0 := fun y : Aft V.heap.size V => cell_stays y.h s0
        have y1 := fun y : Aft V.heap.size V => cell_stays y.h s1
        have y2 := fun y : Aft V.heap.size V => cell_stays y.h k4'
        have y3 := fun y : Aft V.heap.size V => cell_stays y.h c0'
        have e1 := fun (y : Aft V.heap.size V) => HE1.out y.v
        clear hvb s0 s1 k4' c0'
        refine wp_region_aft mixed (by kernel_rfl) ?_
        repeat (go_big_quiet_step ((go_at_call 85; exact calls_aft (e1 _))))
        refine wpQuiet_nil ?_
        rintro _ ⟨z, rfl⟩
        clear y0 y1 y2 y3 e1
        rw [HMX.out]
        have hzw : Below wr.heap.size wr z.v := HVV.out.1.trans (z.h.mono HVV.out.1.size)
        revert hzw
        generalize z.v = V2
        intro hzw
        clear HVV
        have hz1 := hzw.size
        have hown := own_below HR.out hzw
        obtain ⟨i0, hi0, hz0, hz1', hz2⟩ := info_parts infoI
        obtain ⟨v', w', hr, hown', hgr⟩ := append_one (P := Try.prog) (w := V2) w1.heap.size 26 26 3 i0 _ 8 Try.underlying26 hi0 hz0 hz1' hz2 rfl _ _ _ hown (.int .i64 M) rfl (by simp [maxLen]; omega) (by omega) (by omega)
        have hb1 : Below w1.heap.size w1 (V2.alloc (.cells #[.int .i64 M] 3)) := (HB2.out.2.trans (hzw.mono hwr1)).alloc (by omega) _
        have hb2 : Below w1.heap.size w1 w' := grown_below hb1 (hown.alloc _) hgr (by simp; omega)
        have hsz : w1.heap.size ≤ w'.heap.size := hb2.size
        have k3' := cell_stays hb2 k3
        have d0' := cell_stays hb2 d0
        have d1' := cell_stays hb2 d1
        have HRUN := Lib.hid hr
        have HOWN : Hid (w'.ownsRow w1.heap.size 3 1 v' (k + 1) (((t.mins q o).take (k + 1)).map (Value.int .i64))) := by rw [Hid, mins_more t q hlt, HME.out]; exact hown'
        have HB3 := Lib.hid hb2
        clear hown hown' hgr hr hb1 hb2 hzw
        go_wp2_with (at_builtin; refine wpList_append_run rfl (.tmp 56) (.tmp 58) 26 rfl _ _ _ _ rfl rfl HRUN.out ?_)
        refine (HE2.out w').mono ?_
        rintro e w5 ⟨rfl, hb5⟩
        have HB5 := Lib.hid (HB3.out.trans (hb5.mono hsz))
        have HOWN5 := Lib.hid (own_below HOWN.out hb5)
        have hsz5 : w1.heap.size ≤ w5.heap.size := HB5.out.size
        clear hb5 k3' d0' d1'
        go_wp2_with fail
        go_roundw
        case rel => exact ⟨k + 1, by omega, by go_num, by rw [HNX.out], HOWN5.out, hsz5, HB5.out⟩
        case measure => simp [intOf]; omega
      · have hg0 : decide (0 < k) = true := by simp; omega
        have HK0 := Lib.hid hk0
        clear hk0
        go_upto_region 9 with fail
        have htr := HB.out.2.2.2.mono HB2.out.2
        obtain ⟨j, hkj⟩ : ∃ j : Nat, k = j + 1 := ⟨k - 1, by have := HK0.out; omega⟩
        obtain ⟨m, hm, hmn⟩ := view_nat (HF.out.2 _ (gi_mem' (show j < o.length by omega)))
        obtain ⟨wb, wo, we, rai, rc, r0, r1⟩ := htr.ways m (by omega)
        have hrow := HF.out.1.rows m hmn
        obtain ⟨rb, ro, re, p0, p1⟩ := r1 v (by omega)
        subst re
        rw [we] at k2
        have hs' : gs (gw t.ways m) v = s := by
          rw [HS.out]
          have := wayAt_succ t (o := o) (j := j) (by omega) (by omega)
          rw [← hkj, hm, HV.out, Int.toNat_natCast, Int.toNat_natCast] at this
          exact this.symm
        rw [hs'] at p0 p1
        obtain ⟨_, _, hee, hcj⟩ := (HB.out.2.2.1.mono HB2.out.2) j (by omega)
        cases hee
        rw [hm] at hcj
        revert HQA
        generalize wr.alloc (.cells (gs t.frm v).arr 33) = V0
        intro HQA
        have hV0 := HQA.out.1
        have hV0s := heap_lt HQA.out.2
        have hwV : wr.heap.size ≤ V0.heap.size := hV0.size
        refine wpIn_wide.1 (rw9 (j := j) (m := m) (wb := wb) (wo := wo) (wn := t.ways.length) (wc := A.cw) (rb := rb) (ro := ro) (rn := (gw t.ways m).length) (rc := rc) (s := s) (S0 := fun u => Below V0.heap.size V0 u) (S1 := fun u => Below wr.heap.size wr u ∧ u.heap[wr.heap.size]? = some (.cells s.arr 33 (0, 0))) ?a1 ?a2 ?a3 ?a4 ?h0 ?l1 ?l6 ?l8 ?l11 ?c12 ?hQ)
        case a1 =>
          have e : ((k : Int) - 1) = (j : Int) := by omega
          rw [e]; exact IntWalk.i64_in _ (by omega)
        case a2 => omega
        case a3 => omega
        case a4 => omega
        case h0 => exact (Below.refl _ V0).drew
        case l1 => exact fun u hu => cell_stays hu (cell_stays hV0 k2)
        case l6 => exact fun u hu => cell_stays hu (cell_stays hV0 hcj)
        case l8 => exact fun u hu => cell_stays hu (cell_stays hV0 r0)
        case l11 => exact fun u hu => ⟨cell_stays hu (cell_stays hV0 p0), cell_stays hu (cell_stays hV0 p1)⟩
        case c12 =>
          intro u hu
          have hq := (hu.block _ hV0s).trans HQA.out.2
          refine ⟨⟨_, by rw [cell_of_heap hq]; rfl⟩, frozen_of_heap hq, ⟨_, by rw [cell_of_heap hq]; rfl⟩, frozen_of_heap hq, ((hV0.trans (hu.mono hwV)).setCell (Nat.le_refl _) _).setCell (Nat.le_refl _) _, heap_setCell_at (k := 1) (heap_setCell_at (k := 0) hq _) _⟩
        intro V hvv
        have HVV := Lib.hid hvv
        clear hvv
        clear hcj p0 p1 r0 hV0 hwV hV0s HQA htr r1 hkj hm hrow
        clear k2
        go_upto_region 10 with fail
        have hvb := HVV.out.1
        have s0 : V.cell? ⟨wr.heap.size, 0, none⟩ = some (.int .i64 s.lo) := by rw [cell_of_heap HVV.out.2]; rfl
        have s1 : V.cell? ⟨wr.heap.size, 1, none⟩ = some (.int .i64 s.hi) := by rw [cell_of_heap HVV.out.2]; rfl
        have k4' := cell_stays hvb k4
        have c0' := cell_stays hvb c0
        have y0 := fun y : Aft V.heap.size V => cell_stays y.h s0
        have y1 := fun y : Aft V.heap.size V => cell_stays y.h s1
        have y2 := fun y : Aft V.heap.size V => cell_stays y.h k4'
        have y3 := fun y : Aft V.heap.size V => cell_stays y.h c0'
        have e1 := fun (y : Aft V.heap.size V) => HE1.out y.v
        clear hvb s0 s1 k4' c0'
        refine wp_region_aft mixed (by kernel_rfl) ?_
        repeat (go_big_quiet_step ((go_at_call 85; exact calls_aft (e1 _))))
        refine wpQuiet_nil ?_
        rintro _ ⟨z, rfl⟩
        clear y0 y1 y2 y3 e1
        rw [HMX.out]
        have hzw : Below wr.heap.size wr z.v := HVV.out.1.trans (z.h.mono HVV.out.1.size)
        revert hzw
        generalize z.v = V2
        intro hzw
        clear HVV
        have hz1 := hzw.size
        have hown := own_below HR.out hzw
        obtain ⟨i0, hi0, hz0, hz1', hz2⟩ := info_parts infoI
        obtain ⟨v', w', hr, hown', hgr⟩ := append_one (P := Try.prog) (w := V2) w1.heap.size 26 26 3 i0 _ 8 Try.underlying26 hi0 hz0 hz1' hz2 rfl _ _ _ hown (.int .i64 M) rfl (by simp [maxLen]; omega) (by omega) (by omega)
        have hb1 : Below w1.heap.size w1 (V2.alloc (.cells #[.int .i64 M] 3)) := (HB2.out.2.trans (hzw.mono hwr1)).alloc (by omega) _
        have hb2 : Below w1.heap.size w1 w' := grown_below hb1 (hown.alloc _) hgr (by simp; omega)
        have hsz : w1.heap.size ≤ w'.heap.size := hb2.size
        have k3' := cell_stays hb2 k3
        have d0' := cell_stays hb2 d0
        have d1' := cell_stays hb2 d1
        have HRUN := Lib.hid hr
        have HOWN : Hid (w'.ownsRow w1.heap.size 3 1 v' (k + 1) (((t.mins q o).take (k + 1)).map (Value.int .i64))) := by rw [Hid, mins_more t q hlt, HME.out]; exact hown'
        have HB3 := Lib.hid hb2
        clear hown hown' hgr hr hb1 hb2 hzw
        go_wp2_with (at_builtin; refine wpList_append_run rfl (.tmp 56) (.tmp 58) 26 rfl _ _ _ _ rfl rfl HRUN.out ?_)
        refine (HE2.out w').mono ?_
        rintro e w5 ⟨rfl, hb5⟩
        have HB5 := Lib.hid (HB3.out.trans (hb5.mono hsz))
        have HOWN5 := Lib.hid (own_below HOWN.out hb5)
        have hsz5 : w1.heap.size ≤ w5.heap.size := HB5.out.size
        clear hb5 k3' d0' d1'
        go_wp2_with fail
        go_roundw
        case rel => exact ⟨k + 1, by omega, by go_num, by rw [HNX.out], HOWN5.out, hsz5, HB5.out⟩
        case measure => simp [intOf]; omega
    · obtain rfl : k = o.length := by omega
      have hml := mins_len t q o
      have HR2 : Hid (wr.ownsRow w1.heap.size 3 1 u8 o.length ((t.mins q o).map (Value.int .i64))) := by
        have := HR.out
        rw [← hml, List.take_length] at this
        rw [hml] at this
        exact this
      have HBW := Lib.hid (HB.out.1.trans (HB2.out.2.mono HB.out.1.size))
      go_wp2_with fail
      refine bodyPost_ret (results_tmp2 rfl _ _ _) rfl ?_
      exact ⟨_, rfl, own_base HR2.out (Nat.le_of_lt HSZ.out), HBW.out⟩
end Go.Proofs.Ytphefhpmbahagaa

namespace Go.Proofs.Ytphefhpmbahagaa
open Go.RowKit
set_option linter.unusedVariables false
set_option linter.unusedSimpArgs false

set_option maxRecDepth 100000 in
set_option maxHeartbeats 1000000 in
theorem rsure51 {t : Tr} {A : TrA} {w : World} (ht : IsTr w t A) (hF : t.Fit) {o : List Int} (hl : o.length ≤ 16) (ho : ∀ x ∈ o, t.view x = true) {a : Option Addr} {cap : Nat} (ha : IsInts w a o) :
    Calls Try.prog 51 #[t.v A, .slice a o.length cap] w fun e w' => e = .returned (.bool (t.is true o)) ∧ Below w.heap.size w w' := by
  have hbw : Below w.heap.size w (w.alloc (.cells (t.cells A) 25)) := (Below.refl _ w).alloc (Nat.le_refl _) _
  have hq := World.alloc_heap_new w (.cells (t.cells A) 25)
  have HB := Lib.hid (And.intro hbw (And.intro hq (And.intro (ha.mono hbw) (ht.mono hbw))))
  have HF := Lib.hid (And.intro hF ho)
  have HSZ : Hid (w.heap.size ≤ (w.alloc (.cells (t.cells A) 25)).heap.size) := by simp [Hid]
  clear hbw hq ha ht hF ho
  go_enter Try.func51, Try.ntmps51
  go_upto_region 1 with fail
  revert HB HSZ
  generalize (w.alloc (.cells (t.cells A) 25)) = w1
  intro HB HSZ
  obtain ⟨k0, k1, k2, k3, k4⟩ := tr_cells HB.out.2.1
  go_wp2_with fail
  refine (rwalk56 (cap := cap) HB.out.2.2.2 HF.out.1 hl HF.out.2 HB.out.2.2.1 true).mono ?_
  rintro e w2 ⟨v, rfl, hown, hb2⟩
  obtain ⟨ts, hts⟩ : ∃ ts, ts = t.mins true o := ⟨_, rfl⟩
  have htl : ts.length = o.length := by rw [hts, mins_len]
  have HIS : Hid (t.inL o ts o.length = t.is true o) := by rw [hts]; exact inL_is t _ o
  rw [← hts, ← htl] at hown
  obtain ⟨av, cv, rfl, _, _⟩ := own_slice hown
  have hints := own_ints hown
  have HC := Lib.hid (rin80 (cap := cap) (cb := cv) (HB.out.2.2.2.mono hb2) HF.out.1 hl HF.out.2 htl (HB.out.2.2.1.mono hb2) hints)
  have k0' := cell_stays hb2 k0
  have k1' := cell_stays hb2 k1
  have k2' := cell_stays hb2 k2
  have k3' := cell_stays hb2 k3
  have k4' := cell_stays hb2 k4
  have HB2 := Lib.hid (HB.out.1.trans (hb2.mono HSZ.out))
  have hsz2 : w.heap.size ≤ w2.heap.size := HB2.out.size
  clear hown hints hb2 hts htl k0 k1 k2 k3 k4
  go_wp2_with fail
  refine HC.out.mono ?_
  rintro e w3 ⟨rfl, hb3⟩
  have HB3 := Lib.hid (HB2.out.trans (hb3.mono hsz2))
  clear hb3
  go_wp2_with fail
  go_ret
  exact ⟨ret_bool HIS.out, HB3.out⟩

set_option maxRecDepth 100000 in
set_option maxHeartbeats 1000000 in
theorem rcan52 {t : Tr} {A : TrA} {w : World} (ht : IsTr w t A) (hF : t.Fit) {o : List Int} (hl : o.length ≤ 16) (ho : ∀ x ∈ o, t.view x = true) {a : Option Addr} {cap : Nat} (ha : IsInts w a o) :
    Calls Try.prog 52 #[t.v A, .slice a o.length cap] w fun e w' => e = .returned (.bool (t.is false o)) ∧ Below w.heap.size w w' := by
  have hbw : Below w.heap.size w (w.alloc (.cells (t.cells A) 25)) := (Below.refl _ w).alloc (Nat.le_refl _) _
  have hq := World.alloc_heap_new w (.cells (t.cells A) 25)
  have HB := Lib.hid (And.intro hbw (And.intro hq (And.intro (ha.mono hbw) (ht.mono hbw))))
  have HF := Lib.hid (And.intro hF ho)
  have HSZ : Hid (w.heap.size ≤ (w.alloc (.cells (t.cells A) 25)).heap.size) := by simp [Hid]
  clear hbw hq ha ht hF ho
  go_enter Try.func52, Try.ntmps52
  go_upto_region 1 with fail
  revert HB HSZ
  generalize (w.alloc (.cells (t.cells A) 25)) = w1
  intro HB HSZ
  obtain ⟨k0, k1, k2, k3, k4⟩ := tr_cells HB.out.2.1
  go_wp2_with fail
  refine (rwalk56 (cap := cap) HB.out.2.2.2 HF.out.1 hl HF.out.2 HB.out.2.2.1 false).mono ?_
  rintro e w2 ⟨v, rfl, hown, hb2⟩
  obtain ⟨ts, hts⟩ : ∃ ts, ts = t.mins false o := ⟨_, rfl⟩
  have htl : ts.length = o.length := by rw [hts, mins_len]
  have HIS : Hid (t.inL o ts o.length = t.is false o) := by rw [hts]; exact inL_is t _ o
  rw [← hts, ← htl] at hown
  obtain ⟨av, cv, rfl, _, _⟩ := own_slice hown
  have hints := own_ints hown
  have HC := Lib.hid (rin80 (cap := cap) (cb := cv) (HB.out.2.2.2.mono hb2) HF.out.1 hl HF.out.2 htl (HB.out.2.2.1.mono hb2) hints)
  have k0' := cell_stays hb2 k0
  have k1' := cell_stays hb2 k1
  have k2' := cell_stays hb2 k2
  have k3' := cell_stays hb2 k3
  have k4' := cell_stays hb2 k4
  have HB2 := Lib.hid (HB.out.1.trans (hb2.mono HSZ.out))
  have hsz2 : w.heap.size ≤ w2.heap.size := HB2.out.size
  clear hown hints hb2 hts htl k0 k1 k2 k3 k4
  go_wp2_with fail
  refine HC.out.mono ?_
  rintro e w3 ⟨rfl, hb3⟩
  have HB3 := Lib.hid (HB2.out.trans (hb3.mono hsz2))
  clear hb3
  go_wp2_with fail
  go_ret
  exact ⟨ret_bool HIS.out, HB3.out⟩

set_option maxRecDepth 100000 in
set_option maxHeartbeats 1000000 in
theorem rwalked15 {t : Tr} {A : TrA} {w : World} (ht : IsTr w t A) (hs : t.Small) {o : List Int} (hl : o.length ≤ 16) {a : Option Addr} {cap : Nat} (ha : IsInts w a o) :
    Calls Try.prog 15 #[t.v A, .slice a o.length cap] w fun e w' => e = .returned (.tuple #[.int .i64 (walkedE t o).1, .int .i64 (walkedE t o).2]) ∧ Below w.heap.size w w' := by
  have hbw : Below w.heap.size w (w.alloc (.cells (t.cells A) 25)) := (Below.refl _ w).alloc (Nat.le_refl _) _
  have hq := World.alloc_heap_new w (.cells (t.cells A) 25)
  have HB := Lib.hid (And.intro hbw (And.intro hq (And.intro (ha.mono hbw) (ht.mono hbw))))
  have HSM := Lib.hid hs
  have HSZ : Hid (w.heap.size ≤ (w.alloc (.cells (t.cells A) 25)).heap.size) := by simp [Hid]
  clear hbw hq ha ht hs
  go_enter Try.func15, Try.ntmps15
  go_upto_region 1 with fail
  revert HB HSZ
  generalize (w.alloc (.cells (t.cells A) 25)) = w1
  intro HB HSZ
  obtain ⟨k0, k1, k2, k3, k4⟩ := tr_cells HB.out.2.1
  have y0 := fun y : Aft w1.heap.size w1 => cell_stays y.h k0
  have y1 := fun y : Aft w1.heap.size w1 => cell_stays y.h k1
  have y2 := fun y : Aft w1.heap.size w1 => cell_stays y.h k2
  have y3 := fun y : Aft w1.heap.size w1 => cell_stays y.h k3
  have y4 := fun y : Aft w1.heap.size w1 => cell_stays y.h k4
  have e1 : Hid (∀ y : Aft w1.heap.size w1, Calls Try.prog 34 #[t.v A, .slice a o.length cap] y.v fun e w' => e = .returned (.bool (t.order o)) ∧ Below y.v.heap.size y.v w') := fun y => rorder34 (HB.out.2.2.2.mono y.h) HSM.out.frm hl (HB.out.2.2.1.mono y.h)
  have e2 : Hid (∀ y : Aft w1.heap.size w1, Calls Try.prog 50 #[t.v A, .bool (t.order o)] y.v fun e w' => e = .returned (.int .i64 (openE t (t.order o))) ∧ Below y.v.heap.size y.v w') := fun y => rcheck50 (HB.out.2.2.2.mono y.h) HSM.out _
  clear k0 k1 k2 k3 k4
  refine wp_region_aft mixed (by kernel_rfl) ?_
  repeat (go_big_quiet_step (first | (go_at_call 34; exact calls_aft (e1.out _)) | (go_at_call 50; exact calls_aft (e2.out _))))
  refine wpQuiet_nil ?_
  rintro _ ⟨z, rfl⟩
  have hzw : Below w1.heap.size w1 z.v := z.h
  revert hzw
  generalize z.v = w2
  intro hzw
  clear y0 y1 y2 y3 y4 e1 e2
  have HT2 := Lib.hid (And.intro (HB.out.2.2.2.mono hzw) (HB.out.2.2.1.mono hzw))
  have hq2 := (hzw.block _ (heap_lt HB.out.2.1)).trans HB.out.2.1
  have HB2 := Lib.hid (HB.out.1.trans (hzw.mono HSZ.out))
  have hsz2 : w.heap.size ≤ w2.heap.size := HB2.out.size
  obtain ⟨k0, k1, k2, k3, k4⟩ := tr_cells hq2
  have HWE : Hid (walkedE t o = if openE t (t.order o) = 0 then (if t.is true o then 2 else if t.is false o then 1 else 0, 0) else (0, openE t (t.order o))) := rfl
  clear hzw hq2
  by_cases h0 : openE t (t.order o) = 0
  · have HV := Lib.hid (openE_zero h0)
    rw [if_pos h0] at HWE
    have HF := Lib.hid (fit_of_valid HV.out.1)
    have HO := Lib.hid (order_view HV.out.2)
    rw [h0]
    clear h0
    go_wp2_with fail
    refine (rsure51 (cap := cap) HT2.out.1 HF.out hl HO.out HT2.out.2).mono ?_
    rintro e w3 ⟨rfl, hb3⟩
    have k0' := cell_stays hb3 k0
    have k1' := cell_stays hb3 k1
    have k2' := cell_stays hb3 k2
    have k3' := cell_stays hb3 k3
    have k4' := cell_stays hb3 k4
    have HT3 := Lib.hid (And.intro (HT2.out.1.mono hb3) (HT2.out.2.mono hb3))
    have HB3 := Lib.hid (HB2.out.trans (hb3.mono hsz2))
    have hsz3 : w.heap.size ≤ w3.heap.size := HB3.out.size
    clear k0 k1 k2 k3 k4 hb3
    cases hs : t.is true o
    · rw [hs] at HWE
      go_wp2_with fail
      refine (rcan52 (cap := cap) HT3.out.1 HF.out hl HO.out HT3.out.2).mono ?_
      rintro e w4 ⟨rfl, hb4⟩
      have HB4 := Lib.hid (HB3.out.trans (hb4.mono hsz3))
      clear hb4
      cases hc : t.is false o
      · rw [hc] at HWE
        go_wp2_with fail
        refine bodyPost_ret (results_tmp2 rfl _ _ _) rfl ?_
        exact ⟨by rw [HWE.out]; rfl, HB4.out⟩
      · rw [hc] at HWE
        go_wp2_with fail
        refine bodyPost_ret (results_tmp2 rfl _ _ _) rfl ?_
        exact ⟨by rw [HWE.out]; rfl, HB4.out⟩
    · rw [hs] at HWE
      go_wp2_with fail
      refine bodyPost_ret (results_tmp2 rfl _ _ _) rfl ?_
      exact ⟨by rw [HWE.out]; rfl, HB3.out⟩
  · have hb : (openE t (t.order o) != 0) = true := by simpa using h0
    rw [if_neg h0] at HWE
    clear h0
    go_wp2_with fail
    refine bodyPost_ret (results_tmp2 rfl _ _ _) rfl ?_
    exact ⟨by rw [HWE.out]; rfl, HB2.out⟩
end Go.Proofs.Ytphefhpmbahagaa

namespace Go.Proofs.Ytphefhpmbahagaa
open Go.RowKit
set_option linter.unusedVariables false
set_option linter.unusedSimpArgs false

theorem res_tct {fn : Func} {p q r : Tmp} (h : fn.results = #[.tmp p, .cell q 33, .tmp r]) (tmps : Array Value) {w : World} {b : Nat} {y1 y2 : Value} (hq : tmps.getD q undef = .pointer (some ⟨b, 0, none⟩))
    (hy : w.cell? ⟨b, 0, none⟩ = some y1) (hy2 : w.cell? ⟨b, 1, none⟩ = some y2) :
    (results fn tmps).run Try.prog w = .ok (.tuple #[tmps.getD p undef, .agg #[y1, y2], tmps.getD r undef]) w := by
  have hq' : tmps[q]?.getD undef = .pointer (some ⟨b, 0, none⟩) := by simpa using hq
  simp [results, h, hq', hy, hy2, go_sem]
theorem steps_k {t : Tr} {o : List Int} {k : Nat} (h : k < o.length) : (t.steps (-1) (t.dawn, t.dawn) o)[k]? = some (gi o k, t.minAt false o k, t.minAt true o k) := steps_at t h
theorem ints_at {w : World} {a : Option Addr} {l : List Int} (h : IsInts w a l) {k : Nat} (hk : k < l.length) : ∃ b off, a = some ⟨b, off, none⟩ ∧ w.cell? ⟨b, off + k, none⟩ = some (.int .i64 (gi l k)) := h k hk

structure rt10F (ra : Option Addr) (k : Nat) (rc : Nat) (b1 : Nat) (o1 : Nat) (n1 : Nat) (c1 : Nat) (b2 : Nat) (o2 : Nat) (n2 : Nat) (c2 : Nat) (x : Int) (y : Int) (S0 : World → Prop) (S1 : Value → World → Prop) (S2 : Value → Value → World → Prop) (d : Nat → Bool) (x41 x42 x43 x44 x45 x46 x47 x48 x49 x50 x51 x52 x12 : Value) (w : World) : Prop where
  q3 : d 3 = true → d 1 = true ∧ d 2 = true
  q4 : d 4 = true → d 3 = true
  q7 : d 7 = true → d 5 = true ∧ d 6 = true
  q8 : d 8 = true → d 7 = true
  q9 : d 9 = true → d 4 = true ∧ d 8 = true
  q10 : d 10 = true → d 9 = true
  q11 : d 11 = true → d 0 = true ∧ d 10 = true
  q12 : d 12 = true → d 0 = true ∧ d 1 = true ∧ d 2 = true ∧ d 3 = true ∧ d 4 = true ∧ d 5 = true ∧ d 6 = true ∧ d 7 = true ∧ d 8 = true ∧ d 9 = true ∧ d 10 = true ∧ d 11 = true
  f0 : d 0 = true → x41 = .slice ra k rc
  f1 : d 1 = true → x42 = .slice (some ⟨b1, o1, none⟩) n1 c1
  f2 : d 2 = true → x43 = .int .i64 k
  f3 : d 3 = true → x44 = .pointer (some ⟨b1, o1 + k, none⟩)
  f4 : d 4 = true → x45 = .int .i64 x
  f5 : d 5 = true → x46 = .slice (some ⟨b2, o2, none⟩) n2 c2
  f6 : d 6 = true → x47 = .int .i64 k
  f7 : d 7 = true → x48 = .pointer (some ⟨b2, o2 + k, none⟩)
  f8 : d 8 = true → x49 = .int .i64 y
  f9 : d 9 = true → x50 = .agg #[.int .i64 x, .int .i64 y]
  f12 : d 12 = true → x12 = x52
  g12 : d 12 = false → .slice ra k rc = x12
  st0 : d 10 = false → S0 w
  st1 : d 10 = true → d 11 = false → S1 x51 w
  st2 : d 11 = true → S2 x51 x52 w
noncomputable def rt10C : Code := (Try.f17.body.bind (regionAt 10)).getD .skip
set_option maxRecDepth 100000 in
set_option maxHeartbeats 4000000 in
theorem rt10 {ra : Option Addr} {k : Nat} {rc : Nat} {b1 : Nat} {o1 : Nat} {n1 : Nat} {c1 : Nat} {b2 : Nat} {o2 : Nat} {n2 : Nat} {c2 : Nat} {x : Int} {y : Int} {S0 : World → Prop} {S1 : Value → World → Prop} {S2 : Value → Value → World → Prop} {Q : Exit → Act → World → Prop} {W1 : World} (hk1 : k < n1) (hk2 : k < n2) (h0 : S0 W1.drew)
    (kl4 : Hid (∀ (w : World), (S0 w) → w.cell? ⟨b1, o1 + k, none⟩ = some (.int .i64 x)))
    (kl8 : Hid (∀ (w : World), (S0 w) → w.cell? ⟨b2, o2 + k, none⟩ = some (.int .i64 y)))
    (kc10 : Hid (∀ (w : World), S0 w → S1 (.slice (some ⟨w.heap.size, 0, none⟩) 1 1) (w.alloc (.cells #[.int .i64 x, .int .i64 y] 33))))
    (kc11 : Hid (∀ (x51 : Value) (w : World), S1 x51 w → ∃ (x52 : Value) (w' : World), (Builtin.append_ #[22, 22] 22 #[.slice ra k rc, x51]).run Try.prog w = .ok (x52) w' ∧ S2 x51 x52 w'))
    {s0 s1 s2 s3 s4 s5 s6 s7 s9 s11 s14 s15 s16 s17 s18 s19 s20 s21 s22 s23 s24 s25 s26 s27 s28 s29 s30 s31 s32 s33 s34 s35 s36 s37 s38 s39 s40 s41 s42 s43 s44 s45 s46 s47 s48 s49 s50 s51 s52 s53 s54 s55 s56 : Value} {dd : List Deferred}
    (hQ : ∀ (x51 : Value) (x52 : Value) (w' : World), S2 x51 x52 w' → Q .normal { tmps := #[s0, s1, s2, s3, s4, s5, s6, s7, .slice (some ⟨b1, o1, none⟩) n1 c1, s9, .slice (some ⟨b2, o2, none⟩) n2 c2, s11, x52, .int .i64 k, s14, s15, s16, s17, s18, s19, s20, s21, s22, s23, s24, s25, s26, s27, s28, s29, s30, s31, s32, s33, s34, s35, s36, s37, s38, s39, s40, .slice ra k rc, .slice (some ⟨b1, o1, none⟩) n1 c1, .int .i64 k, .pointer (some ⟨b1, o1 + k, none⟩), .int .i64 x, .slice (some ⟨b2, o2, none⟩) n2 c2, .int .i64 k, .pointer (some ⟨b2, o2 + k, none⟩), .int .i64 y, .agg #[.int .i64 x, .int .i64 y], x51, x52, s53, s54, s55, s56], defers := dd } w') :
    Code.wpIn (wideAt none) 0 Try.prog rt10C Q { tmps := #[s0, s1, s2, s3, s4, s5, s6, s7, .slice (some ⟨b1, o1, none⟩) n1 c1, s9, .slice (some ⟨b2, o2, none⟩) n2 c2, s11, .slice ra k rc, .int .i64 k, s14, s15, s16, s17, s18, s19, s20, s21, s22, s23, s24, s25, s26, s27, s28, s29, s30, s31, s32, s33, s34, s35, s36, s37, s38, s39, s40, s41, s42, s43, s44, s45, s46, s47, s48, s49, s50, s51, s52, s53, s54, s55, s56], defers := dd } W1 := by
  have HQ := Lib.hid hQ
  clear hQ
  conv => arg 4; whnf
  refine wpIn_region_invG mixed (by kernel_rfl) (fun d_ a_ w' => ∃ (x41 : Value) (x42 : Value) (x43 : Value) (x44 : Value) (x45 : Value) (x46 : Value) (x47 : Value) (x48 : Value) (x49 : Value) (x50 : Value) (x51 : Value) (x52 : Value) (x12 : Value), a_ = { tmps := #[s0, s1, s2, s3, s4, s5, s6, s7, .slice (some ⟨b1, o1, none⟩) n1 c1, s9, .slice (some ⟨b2, o2, none⟩) n2 c2, s11, x12, .int .i64 k, s14, s15, s16, s17, s18, s19, s20, s21, s22, s23, s24, s25, s26, s27, s28, s29, s30, s31, s32, s33, s34, s35, s36, s37, s38, s39, s40, x41, x42, x43, x44, x45, x46, x47, x48, x49, x50, x51, x52, s53, s54, s55, s56], defers := dd } ∧ rt10F ra k rc b1 o1 n1 c1 b2 o2 n2 c2 x y S0 S1 S2 d_ x41 x42 x43 x44 x45 x46 x47 x48 x49 x50 x51 x52 x12 w') ?_ ?_ ?_
  · refine ⟨s41, s42, s43, s44, s45, s46, s47, s48, s49, s50, s51, s52, (.slice ra k rc), rfl, ?_⟩
    constructor <;> first | rfl | (intro _; rfl) | (intro h; cases h; done) | (intro _; exact h0) | exact h0
  · refine ⟨?_, ?_, ?_, ?_, ?_, ?_, ?_, ?_, ?_, ?_, ?_, ?_, ?_, trivial⟩
    all_goals
      rintro d_ a_ w1 K hd_ hdep ⟨x41, x42, x43, x44, x45, x46, x47, x48, x49, x50, x51, x52, x12, rfl, F⟩ HK
      simp [Region.binds] at hdep
    · have n12_ : d_ 12 = false := by
        cases e_ : d_ 12 with
        | false => rfl
        | true => have h2 := (F.q12 e_).1; rw [show d_ 0 = false from hd_] at h2; cases h2
      have g12_ := F.g12 n12_
      subst g12_
      have HF : Hid (rt10F ra k rc b1 o1 n1 c1 b2 o2 n2 c2 x y S0 S1 S2 (upd d_ 0) (.slice ra k rc) x42 x43 x44 x45 x46 x47 x48 x49 x50 x51 x52 (.slice ra k rc) w1) := ⟨F.q3, F.q4, F.q7, F.q8, F.q9, F.q10, fun h => ⟨rfl, (F.q11 h).2⟩, fun h => ⟨rfl, (F.q12 h).2.1, (F.q12 h).2.2.1, (F.q12 h).2.2.2.1, (F.q12 h).2.2.2.2.1, (F.q12 h).2.2.2.2.2.1, (F.q12 h).2.2.2.2.2.2.1, (F.q12 h).2.2.2.2.2.2.2.1, (F.q12 h).2.2.2.2.2.2.2.2.1, (F.q12 h).2.2.2.2.2.2.2.2.2.1, (F.q12 h).2.2.2.2.2.2.2.2.2.2.1, (F.q12 h).2.2.2.2.2.2.2.2.2.2.2⟩, fun _ => rfl, F.f1, F.f2, F.f3, F.f4, F.f5, F.f6, F.f7, F.f8, F.f9, F.f12, F.g12, F.st0, F.st1, F.st2⟩
      clear F
      go_simp
      exact HK.out _ _ ⟨_, _, _, _, _, _, _, _, _, _, _, _, _, rfl, HF.out⟩
    · have HF : Hid (rt10F ra k rc b1 o1 n1 c1 b2 o2 n2 c2 x y S0 S1 S2 (upd d_ 1) x41 (.slice (some ⟨b1, o1, none⟩) n1 c1) x43 x44 x45 x46 x47 x48 x49 x50 x51 x52 x12 w1) := ⟨fun h => ⟨rfl, (F.q3 h).2⟩, F.q4, F.q7, F.q8, F.q9, F.q10, F.q11, fun h => ⟨(F.q12 h).1, rfl, (F.q12 h).2.2.1, (F.q12 h).2.2.2.1, (F.q12 h).2.2.2.2.1, (F.q12 h).2.2.2.2.2.1, (F.q12 h).2.2.2.2.2.2.1, (F.q12 h).2.2.2.2.2.2.2.1, (F.q12 h).2.2.2.2.2.2.2.2.1, (F.q12 h).2.2.2.2.2.2.2.2.2.1, (F.q12 h).2.2.2.2.2.2.2.2.2.2.1, (F.q12 h).2.2.2.2.2.2.2.2.2.2.2⟩, F.f0, fun _ => rfl, F.f2, F.f3, F.f4, F.f5, F.f6, F.f7, F.f8, F.f9, F.f12, F.g12, F.st0, F.st1, F.st2⟩
      clear F
      go_simp
      exact HK.out _ _ ⟨_, _, _, _, _, _, _, _, _, _, _, _, _, rfl, HF.out⟩
    · have HF : Hid (rt10F ra k rc b1 o1 n1 c1 b2 o2 n2 c2 x y S0 S1 S2 (upd d_ 2) x41 x42 (.int .i64 k) x44 x45 x46 x47 x48 x49 x50 x51 x52 x12 w1) := ⟨fun h => ⟨(F.q3 h).1, rfl⟩, F.q4, F.q7, F.q8, F.q9, F.q10, F.q11, fun h => ⟨(F.q12 h).1, (F.q12 h).2.1, rfl, (F.q12 h).2.2.2.1, (F.q12 h).2.2.2.2.1, (F.q12 h).2.2.2.2.2.1, (F.q12 h).2.2.2.2.2.2.1, (F.q12 h).2.2.2.2.2.2.2.1, (F.q12 h).2.2.2.2.2.2.2.2.1, (F.q12 h).2.2.2.2.2.2.2.2.2.1, (F.q12 h).2.2.2.2.2.2.2.2.2.2.1, (F.q12 h).2.2.2.2.2.2.2.2.2.2.2⟩, F.f0, F.f1, fun _ => rfl, F.f3, F.f4, F.f5, F.f6, F.f7, F.f8, F.f9, F.f12, F.g12, F.st0, F.st1, F.st2⟩
      clear F
      go_simp
      exact HK.out _ _ ⟨_, _, _, _, _, _, _, _, _, _, _, _, _, rfl, HF.out⟩
    · obtain rfl := F.f1 (by simp [hdep])
      obtain rfl := F.f2 (by simp [hdep])
      have HF : Hid (rt10F ra k rc b1 o1 n1 c1 b2 o2 n2 c2 x y S0 S1 S2 (upd d_ 3) x41 (.slice (some ⟨b1, o1, none⟩) n1 c1) (.int .i64 k) (.pointer (some ⟨b1, o1 + k, none⟩)) x45 x46 x47 x48 x49 x50 x51 x52 x12 w1) := ⟨fun _ => ⟨(show _ from (by simp [hdep] : d_ 1 = true)), (show _ from (by simp [hdep] : d_ 2 = true))⟩, fun h => rfl, F.q7, F.q8, F.q9, F.q10, F.q11, fun h => ⟨(F.q12 h).1, (F.q12 h).2.1, (F.q12 h).2.2.1, rfl, (F.q12 h).2.2.2.2.1, (F.q12 h).2.2.2.2.2.1, (F.q12 h).2.2.2.2.2.2.1, (F.q12 h).2.2.2.2.2.2.2.1, (F.q12 h).2.2.2.2.2.2.2.2.1, (F.q12 h).2.2.2.2.2.2.2.2.2.1, (F.q12 h).2.2.2.2.2.2.2.2.2.2.1, (F.q12 h).2.2.2.2.2.2.2.2.2.2.2⟩, F.f0, F.f1, F.f2, fun _ => rfl, F.f4, F.f5, F.f6, F.f7, F.f8, F.f9, F.f12, F.g12, F.st0, F.st1, F.st2⟩
      clear F
      have hk12 : k < n1 := hk1
      go_simp
      exact HK.out _ _ ⟨_, _, _, _, _, _, _, _, _, _, _, _, _, rfl, HF.out⟩
    · have hst : S0 w1 := by
        have n_ : d_ 10 = false := by
          cases e_ : d_ 10 with
          | false => rfl
          | true => have h2 := (F.q9 (F.q10 e_)).1; rw [show d_ 4 = false from hd_] at h2; cases h2
        exact (F.st0 n_)
      have kk := kl4.out w1 hst
      clear hst
      obtain rfl := F.f3 (by simp [hdep])
      have HF : Hid (rt10F ra k rc b1 o1 n1 c1 b2 o2 n2 c2 x y S0 S1 S2 (upd d_ 4) x41 x42 x43 (.pointer (some ⟨b1, o1 + k, none⟩)) (.int .i64 x) x46 x47 x48 x49 x50 x51 x52 x12 w1) := ⟨F.q3, fun _ => (show _ from (by simp [hdep] : d_ 3 = true)), F.q7, F.q8, fun h => ⟨rfl, (F.q9 h).2⟩, F.q10, F.q11, fun h => ⟨(F.q12 h).1, (F.q12 h).2.1, (F.q12 h).2.2.1, (F.q12 h).2.2.2.1, rfl, (F.q12 h).2.2.2.2.2.1, (F.q12 h).2.2.2.2.2.2.1, (F.q12 h).2.2.2.2.2.2.2.1, (F.q12 h).2.2.2.2.2.2.2.2.1, (F.q12 h).2.2.2.2.2.2.2.2.2.1, (F.q12 h).2.2.2.2.2.2.2.2.2.2.1, (F.q12 h).2.2.2.2.2.2.2.2.2.2.2⟩, F.f0, F.f1, F.f2, F.f3, fun _ => rfl, F.f5, F.f6, F.f7, F.f8, F.f9, F.f12, F.g12, F.st0, F.st1, F.st2⟩
      clear F
      go_simp
      exact HK.out _ _ ⟨_, _, _, _, _, _, _, _, _, _, _, _, _, rfl, HF.out⟩
    · have HF : Hid (rt10F ra k rc b1 o1 n1 c1 b2 o2 n2 c2 x y S0 S1 S2 (upd d_ 5) x41 x42 x43 x44 x45 (.slice (some ⟨b2, o2, none⟩) n2 c2) x47 x48 x49 x50 x51 x52 x12 w1) := ⟨F.q3, F.q4, fun h => ⟨rfl, (F.q7 h).2⟩, F.q8, F.q9, F.q10, F.q11, fun h => ⟨(F.q12 h).1, (F.q12 h).2.1, (F.q12 h).2.2.1, (F.q12 h).2.2.2.1, (F.q12 h).2.2.2.2.1, rfl, (F.q12 h).2.2.2.2.2.2.1, (F.q12 h).2.2.2.2.2.2.2.1, (F.q12 h).2.2.2.2.2.2.2.2.1, (F.q12 h).2.2.2.2.2.2.2.2.2.1, (F.q12 h).2.2.2.2.2.2.2.2.2.2.1, (F.q12 h).2.2.2.2.2.2.2.2.2.2.2⟩, F.f0, F.f1, F.f2, F.f3, F.f4, fun _ => rfl, F.f6, F.f7, F.f8, F.f9, F.f12, F.g12, F.st0, F.st1, F.st2⟩
      clear F
      go_simp
      exact HK.out _ _ ⟨_, _, _, _, _, _, _, _, _, _, _, _, _, rfl, HF.out⟩
    · have HF : Hid (rt10F ra k rc b1 o1 n1 c1 b2 o2 n2 c2 x y S0 S1 S2 (upd d_ 6) x41 x42 x43 x44 x45 x46 (.int .i64 k) x48 x49 x50 x51 x52 x12 w1) := ⟨F.q3, F.q4, fun h => ⟨(F.q7 h).1, rfl⟩, F.q8, F.q9, F.q10, F.q11, fun h => ⟨(F.q12 h).1, (F.q12 h).2.1, (F.q12 h).2.2.1, (F.q12 h).2.2.2.1, (F.q12 h).2.2.2.2.1, (F.q12 h).2.2.2.2.2.1, rfl, (F.q12 h).2.2.2.2.2.2.2.1, (F.q12 h).2.2.2.2.2.2.2.2.1, (F.q12 h).2.2.2.2.2.2.2.2.2.1, (F.q12 h).2.2.2.2.2.2.2.2.2.2.1, (F.q12 h).2.2.2.2.2.2.2.2.2.2.2⟩, F.f0, F.f1, F.f2, F.f3, F.f4, F.f5, fun _ => rfl, F.f7, F.f8, F.f9, F.f12, F.g12, F.st0, F.st1, F.st2⟩
      clear F
      go_simp
      exact HK.out _ _ ⟨_, _, _, _, _, _, _, _, _, _, _, _, _, rfl, HF.out⟩
    · obtain rfl := F.f5 (by simp [hdep])
      obtain rfl := F.f6 (by simp [hdep])
      have HF : Hid (rt10F ra k rc b1 o1 n1 c1 b2 o2 n2 c2 x y S0 S1 S2 (upd d_ 7) x41 x42 x43 x44 x45 (.slice (some ⟨b2, o2, none⟩) n2 c2) (.int .i64 k) (.pointer (some ⟨b2, o2 + k, none⟩)) x49 x50 x51 x52 x12 w1) := ⟨F.q3, F.q4, fun _ => ⟨(show _ from (by simp [hdep] : d_ 5 = true)), (show _ from (by simp [hdep] : d_ 6 = true))⟩, fun h => rfl, F.q9, F.q10, F.q11, fun h => ⟨(F.q12 h).1, (F.q12 h).2.1, (F.q12 h).2.2.1, (F.q12 h).2.2.2.1, (F.q12 h).2.2.2.2.1, (F.q12 h).2.2.2.2.2.1, (F.q12 h).2.2.2.2.2.2.1, rfl, (F.q12 h).2.2.2.2.2.2.2.2.1, (F.q12 h).2.2.2.2.2.2.2.2.2.1, (F.q12 h).2.2.2.2.2.2.2.2.2.2.1, (F.q12 h).2.2.2.2.2.2.2.2.2.2.2⟩, F.f0, F.f1, F.f2, F.f3, F.f4, F.f5, F.f6, fun _ => rfl, F.f8, F.f9, F.f12, F.g12, F.st0, F.st1, F.st2⟩
      clear F
      have hk22 : k < n2 := hk2
      go_simp
      exact HK.out _ _ ⟨_, _, _, _, _, _, _, _, _, _, _, _, _, rfl, HF.out⟩
    · have hst : S0 w1 := by
        have n_ : d_ 10 = false := by
          cases e_ : d_ 10 with
          | false => rfl
          | true => have h2 := (F.q9 (F.q10 e_)).2; rw [show d_ 8 = false from hd_] at h2; cases h2
        exact (F.st0 n_)
      have kk := kl8.out w1 hst
      clear hst
      obtain rfl := F.f7 (by simp [hdep])
      have HF : Hid (rt10F ra k rc b1 o1 n1 c1 b2 o2 n2 c2 x y S0 S1 S2 (upd d_ 8) x41 x42 x43 x44 x45 x46 x47 (.pointer (some ⟨b2, o2 + k, none⟩)) (.int .i64 y) x50 x51 x52 x12 w1) := ⟨F.q3, F.q4, F.q7, fun _ => (show _ from (by simp [hdep] : d_ 7 = true)), fun h => ⟨(F.q9 h).1, rfl⟩, F.q10, F.q11, fun h => ⟨(F.q12 h).1, (F.q12 h).2.1, (F.q12 h).2.2.1, (F.q12 h).2.2.2.1, (F.q12 h).2.2.2.2.1, (F.q12 h).2.2.2.2.2.1, (F.q12 h).2.2.2.2.2.2.1, (F.q12 h).2.2.2.2.2.2.2.1, rfl, (F.q12 h).2.2.2.2.2.2.2.2.2.1, (F.q12 h).2.2.2.2.2.2.2.2.2.2.1, (F.q12 h).2.2.2.2.2.2.2.2.2.2.2⟩, F.f0, F.f1, F.f2, F.f3, F.f4, F.f5, F.f6, F.f7, fun _ => rfl, F.f9, F.f12, F.g12, F.st0, F.st1, F.st2⟩
      clear F
      go_simp
      exact HK.out _ _ ⟨_, _, _, _, _, _, _, _, _, _, _, _, _, rfl, HF.out⟩
    · obtain rfl := F.f4 (by simp [hdep])
      obtain rfl := F.f8 (by simp [hdep])
      have HF : Hid (rt10F ra k rc b1 o1 n1 c1 b2 o2 n2 c2 x y S0 S1 S2 (upd d_ 9) x41 x42 x43 x44 (.int .i64 x) x46 x47 x48 (.int .i64 y) (.agg #[.int .i64 x, .int .i64 y]) x51 x52 x12 w1) := ⟨F.q3, F.q4, F.q7, F.q8, fun _ => ⟨(show _ from (by simp [hdep] : d_ 4 = true)), (show _ from (by simp [hdep] : d_ 8 = true))⟩, fun h => rfl, F.q11, fun h => ⟨(F.q12 h).1, (F.q12 h).2.1, (F.q12 h).2.2.1, (F.q12 h).2.2.2.1, (F.q12 h).2.2.2.2.1, (F.q12 h).2.2.2.2.2.1, (F.q12 h).2.2.2.2.2.2.1, (F.q12 h).2.2.2.2.2.2.2.1, (F.q12 h).2.2.2.2.2.2.2.2.1, rfl, (F.q12 h).2.2.2.2.2.2.2.2.2.2.1, (F.q12 h).2.2.2.2.2.2.2.2.2.2.2⟩, F.f0, F.f1, F.f2, F.f3, F.f4, F.f5, F.f6, F.f7, F.f8, fun _ => rfl, F.f12, F.g12, F.st0, F.st1, F.st2⟩
      clear F
      go_simp
      exact HK.out _ _ ⟨_, _, _, _, _, _, _, _, _, _, _, _, _, rfl, HF.out⟩
    · have hS := F.st0  hd_
      obtain rfl := F.f9 (by simp [hdep])
      have hres := kc10.out w1 hS
      have HF : Hid (rt10F ra k rc b1 o1 n1 c1 b2 o2 n2 c2 x y S0 S1 S2 (upd d_ 10) x41 x42 x43 x44 x45 x46 x47 x48 x49 (.agg #[.int .i64 x, .int .i64 y]) ((.slice (some ⟨w1.heap.size, 0, none⟩) 1 1)) x52 x12 (w1.alloc (.cells #[.int .i64 x, .int .i64 y] 33))) := ⟨F.q3, F.q4, F.q7, F.q8, F.q9, fun _ => (show _ from (by simp [hdep] : d_ 9 = true)), fun h => ⟨(F.q11 h).1, rfl⟩, fun h => ⟨(F.q12 h).1, (F.q12 h).2.1, (F.q12 h).2.2.1, (F.q12 h).2.2.2.1, (F.q12 h).2.2.2.2.1, (F.q12 h).2.2.2.2.2.1, (F.q12 h).2.2.2.2.2.2.1, (F.q12 h).2.2.2.2.2.2.2.1, (F.q12 h).2.2.2.2.2.2.2.2.1, (F.q12 h).2.2.2.2.2.2.2.2.2.1, rfl, (F.q12 h).2.2.2.2.2.2.2.2.2.2.2⟩, F.f0, F.f1, F.f2, F.f3, F.f4, F.f5, F.f6, F.f7, F.f8, F.f9, F.f12, F.g12, fun h => (by simp [upd] at h), fun _ _ => hres, fun h => (by have h2 : d_ 10 = true := (F.q11 h).2; rw [show d_ 10 = false from hd_] at h2; cases h2)⟩
      clear F hS hres
      go_simp
      exact HK.out _ _ ⟨_, _, _, _, _, _, _, _, _, _, _, _, _, rfl, HF.out⟩
    · have hS := F.st1 (by simp [hdep] : d_ 10 = true) hd_
      obtain rfl := F.f0 (by simp [hdep])
      obtain ⟨v_, w_, hr, hres⟩ := kc11.out x51 w1 hS
      rw [if_pos (by rfl)]
      refine wpIn_append_run (.tmp 41) (.tmp 51) 22 rfl _ _ _ _ rfl rfl hr ?_
      exact HK.out _ _ ⟨_, _, _, _, _, _, _, _, _, _, _, _, _, rfl, ⟨F.q3, F.q4, F.q7, F.q8, F.q9, F.q10, fun _ => ⟨(show _ from (by simp [hdep] : d_ 0 = true)), (show _ from (by simp [hdep] : d_ 10 = true))⟩, fun h => ⟨(F.q12 h).1, (F.q12 h).2.1, (F.q12 h).2.2.1, (F.q12 h).2.2.2.1, (F.q12 h).2.2.2.2.1, (F.q12 h).2.2.2.2.2.1, (F.q12 h).2.2.2.2.2.2.1, (F.q12 h).2.2.2.2.2.2.2.1, (F.q12 h).2.2.2.2.2.2.2.2.1, (F.q12 h).2.2.2.2.2.2.2.2.2.1, (F.q12 h).2.2.2.2.2.2.2.2.2.2.1, rfl⟩, F.f0, F.f1, F.f2, F.f3, F.f4, F.f5, F.f6, F.f7, F.f8, F.f9, fun h => (by have h2 : d_ 11 = true := (F.q12 h).2.2.2.2.2.2.2.2.2.2.2; rw [show d_ 11 = false from hd_] at h2; cases h2), F.g12, fun h => (by have h2 : d_ 10 = false := h; rw [(by simp [hdep] : d_ 10 = true)] at h2; cases h2), fun _ h => (by simp [upd] at h), fun _ => hres⟩⟩
    · have HF : Hid (rt10F ra k rc b1 o1 n1 c1 b2 o2 n2 c2 x y S0 S1 S2 (upd d_ 12) x41 x42 x43 x44 x45 x46 x47 x48 x49 x50 x51 x52 (x52) w1) := ⟨F.q3, F.q4, F.q7, F.q8, F.q9, F.q10, F.q11, fun _ => ⟨(show _ from (by simp [hdep] : d_ 0 = true)), (show _ from (by simp [hdep] : d_ 1 = true)), (show _ from (by simp [hdep] : d_ 2 = true)), (show _ from (by simp [hdep] : d_ 3 = true)), (show _ from (by simp [hdep] : d_ 4 = true)), (show _ from (by simp [hdep] : d_ 5 = true)), (show _ from (by simp [hdep] : d_ 6 = true)), (show _ from (by simp [hdep] : d_ 7 = true)), (show _ from (by simp [hdep] : d_ 8 = true)), (show _ from (by simp [hdep] : d_ 9 = true)), (show _ from (by simp [hdep] : d_ 10 = true)), (show _ from (by simp [hdep] : d_ 11 = true))⟩, F.f0, F.f1, F.f2, F.f3, F.f4, F.f5, F.f6, F.f7, F.f8, F.f9, fun _ => rfl, fun h => (by simp [upd] at h), F.st0, F.st1, F.st2⟩
      clear F
      go_simp
      exact HK.out _ _ ⟨_, _, _, _, _, _, _, _, _, _, _, _, _, rfl, HF.out⟩
  · rintro d_ a_ w1 hall ⟨x41, x42, x43, x44, x45, x46, x47, x48, x49, x50, x51, x52, x12, rfl, F⟩
    have hall' : ∀ k, k < 13 → d_ k = true := hall
    obtain rfl := F.f0 (hall' 0 (by decide))
    obtain rfl := F.f1 (hall' 1 (by decide))
    obtain rfl := F.f2 (hall' 2 (by decide))
    obtain rfl := F.f3 (hall' 3 (by decide))
    obtain rfl := F.f4 (hall' 4 (by decide))
    obtain rfl := F.f5 (hall' 5 (by decide))
    obtain rfl := F.f6 (hall' 6 (by decide))
    obtain rfl := F.f7 (hall' 7 (by decide))
    obtain rfl := F.f8 (hall' 8 (by decide))
    obtain rfl := F.f9 (hall' 9 (by decide))
    have h_ := (F.f12 (hall' 12 (by decide))).symm
    subst h_
    have hst := F.st2 (hall' 11 (by decide))
    exact HQ.out x51 x52 w1 hst
attribute [local go_sem] Oper.semAt_some
set_option maxRecDepth 100000 in
set_option maxHeartbeats 4000000 in
theorem rtimes17 {t : Tr} {A : TrA} {w : World} (ht : IsTr w t A) (hs : t.Small) {o : List Int} (hl : o.length ≤ 16) {a : Option Addr} {cap : Nat} (ha : IsInts w a o) :
    Calls Try.prog 17 #[t.v A, .slice a o.length cap] w fun e w' => ∃ av cv, e = .returned (.tuple #[.slice av (timesE t o).1.length cv, (timesE t o).2.1.v, .int .i64 (timesE t o).2.2]) ∧ IsSpns w' av (timesE t o).1 ∧ Below w.heap.size w w' := by
  obtain ⟨q0, q1, hz, hb⟩ := heap2 w (.cells (t.cells A) 25) (.cells #[.int .i64 0, .int .i64 0] 33)
  have HB := Lib.hid (And.intro hb (And.intro q0 (And.intro (ha.mono hb) (And.intro (ht.mono hb) q1))))
  have HSM := Lib.hid hs
  have HSZ := Lib.hid hz
  have HTE : Hid (timesE t o = if openE t (t.order o) = 0 then (t.times o, ⟨(t.over (-1) (t.dawn, t.dawn) o).1, (t.over (-1) (t.dawn, t.dawn) o).2⟩, 0) else ([], ⟨0, 0⟩, openE t (t.order o))) := rfl
  clear q0 q1 hz hb ha ht hs
  go_enter Try.func17, Try.ntmps17
  go_upto_region 1 with fail
  revert HB HSZ
  generalize ((w.alloc (.cells (t.cells A) 25)).alloc (.cells #[.int .i64 0, .int .i64 0] 33)) = w1
  intro HB HSZ
  obtain ⟨k0, k1, k2, k3, k4⟩ := tr_cells HB.out.2.1
  have y0 := fun y : Aft w1.heap.size w1 => cell_stays y.h k0
  have y1 := fun y : Aft w1.heap.size w1 => cell_stays y.h k1
  have y2 := fun y : Aft w1.heap.size w1 => cell_stays y.h k2
  have y3 := fun y : Aft w1.heap.size w1 => cell_stays y.h k3
  have y4 := fun y : Aft w1.heap.size w1 => cell_stays y.h k4
  have e1 : Hid (∀ y : Aft w1.heap.size w1, Calls Try.prog 34 #[t.v A, .slice a o.length cap] y.v fun e w' => e = .returned (.bool (t.order o)) ∧ Below y.v.heap.size y.v w') := fun y => rorder34 (HB.out.2.2.2.1.mono y.h) HSM.out.frm hl (HB.out.2.2.1.mono y.h)
  have e2 : Hid (∀ y : Aft w1.heap.size w1, Calls Try.prog 50 #[t.v A, .bool (t.order o)] y.v fun e w' => e = .returned (.int .i64 (openE t (t.order o))) ∧ Below y.v.heap.size y.v w') := fun y => rcheck50 (HB.out.2.2.2.1.mono y.h) HSM.out _
  clear k0 k1 k2 k3 k4
  refine wp_region_aft mixed (by kernel_rfl) ?_
  repeat (go_big_quiet_step (first | (go_at_call 34; exact calls_aft (e1.out _)) | (go_at_call 50; exact calls_aft (e2.out _))))
  refine wpQuiet_nil ?_
  rintro _ ⟨z, rfl⟩
  have hzw : Below w1.heap.size w1 z.v := z.h
  revert hzw
  generalize z.v = w2
  intro hzw
  clear y0 y1 y2 y3 y4 e1 e2
  have HT2 := Lib.hid (And.intro (HB.out.2.2.2.1.mono hzw) (HB.out.2.2.1.mono hzw))
  have hq2 := (hzw.block _ (heap_lt HB.out.2.1)).trans HB.out.2.1
  have hq3 := (hzw.block _ (heap_lt HB.out.2.2.2.2)).trans HB.out.2.2.2.2
  have HQ3 := Lib.hid hq3
  have HB2 := Lib.hid (HB.out.1.trans (hzw.mono HB.out.1.size))
  have hsz2 : w.heap.size + 2 ≤ w2.heap.size := by have := hzw.size; have := HSZ.out; omega
  obtain ⟨k0, k1, k2, k3, k4⟩ := tr_cells hq2
  have c0 : w2.cell? ⟨w.heap.size + 1, 0, none⟩ = some (.int .i64 0) := by rw [cell_of_heap hq3]; rfl
  have c1 : w2.cell? ⟨w.heap.size + 1, 1, none⟩ = some (.int .i64 0) := by rw [cell_of_heap hq3]; rfl
  have fz : ∀ k, w2.frozen? ⟨w.heap.size + 1, k, none⟩ = false := fun k => frozen_of_heap hq3
  clear hzw hq2 hq3
  by_cases h0 : openE t (t.order o) = 0
  · have HV := Lib.hid (openE_zero h0)
    rw [if_pos h0] at HTE
    have HF := Lib.hid (fit_of_valid HV.out.1)
    have HO := Lib.hid (order_view HV.out.2)
    rw [h0]
    clear h0 c0 c1 fz
    go_wp2_with fail
    refine (rwalk56 (cap := cap) HT2.out.1 HF.out hl HO.out HT2.out.2 false).mono ?_
    rintro e w3 ⟨v1, rfl, hown, hb3⟩
    obtain ⟨ts, hts⟩ : ∃ ts, ts = t.mins false o := ⟨_, rfl⟩
    have htl : ts.length = o.length := by rw [hts, mins_len]
    have HMA : Hid (∀ k, k < o.length → gi ts k = t.minAt false o k) := fun k hk => by rw [hts, mins_at t _ hk]
    rw [← hts, ← htl] at hown
    obtain ⟨av, cv, rfl, _, _⟩ := own_slice hown
    have hints := own_ints hown
    have k0' := cell_stays hb3 k0
    have k1' := cell_stays hb3 k1
    have k2' := cell_stays hb3 k2
    have k3' := cell_stays hb3 k3
    have k4' := cell_stays hb3 k4
    have HT3 := Lib.hid (And.intro (HT2.out.1.mono hb3) (HT2.out.2.mono hb3))
    have HB3 := Lib.hid (HB2.out.trans (hb3.mono (show w.heap.size ≤ _ by omega)))
    have HQ4 := Lib.hid ((hb3.block _ (heap_lt HQ3.out)).trans HQ3.out)
    have hsz3 : w.heap.size + 2 ≤ w3.heap.size := by have := hb3.size; omega
    have HI1 := Lib.hid hints
    clear k0 k1 k2 k3 k4 hb3 hown hints hts HT2 HB2 HQ3
    go_wp2_with fail
    refine (rwalk56 (cap := cap) HT3.out.1 HF.out hl HO.out HT3.out.2 true).mono ?_
    rintro e w4 ⟨v2, rfl, hown, hb4⟩
    obtain ⟨us, hus⟩ : ∃ us, us = t.mins true o := ⟨_, rfl⟩
    have hul : us.length = o.length := by rw [hus, mins_len]
    have HMB : Hid (∀ k, k < o.length → gi us k = t.minAt true o k) := fun k hk => by rw [hus, mins_at t _ hk]
    rw [← hus, ← hul] at hown
    obtain ⟨bv, cw, rfl, _, _⟩ := own_slice hown
    have HI2 := Lib.hid (And.intro (own_ints hown) (HI1.out.mono hb4))
    have HB4 := Lib.hid (HB3.out.trans (hb4.mono (show w.heap.size ≤ _ by omega)))
    have HQ5 := Lib.hid ((hb4.block _ (heap_lt HQ4.out)).trans HQ4.out)
    have hsz4 : w.heap.size + 2 ≤ w4.heap.size := by have := hb4.size; omega
    have HOV : Hid (t.over (-1) (t.dawn, t.dawn) o = (sel false (t.at_ o o.length).2, sel true (t.at_ o o.length).2)) := over_at t o
    obtain ⟨N1, hN1⟩ : ∃ N : Int, N = sel false (t.at_ o o.length).2 := ⟨_, rfl⟩
    obtain ⟨N2, hN2⟩ : ∃ N : Int, N = sel true (t.at_ o o.length).2 := ⟨_, rfl⟩
    rw [← hN1, ← hN2] at HOV
    rw [← hN1, ← hN2]
    clear k0' k1' k2' k3' k4' hb4 hown hus HT3 HB3 HQ4 HI1 hN1 hN2
    go_wp2_with fail
    go_loopw [12, 13] (fun r i wr => ∃ (k : Nat), k ≤ o.length ∧ i = .int .i64 k ∧ Hid (wr.ownsRow w4.heap.size 33 2 r k (minV ((t.steps (-1) (t.dawn, t.dawn) o).take k))) ∧ Hid (Below w4.heap.size w4 wr)) (fun _ i _ => o.length - (intOf i).toNat)
    case atStart => exact ⟨0, by omega, rfl, World.ownsRow_nil _ _ _ _, Below.refl _ _⟩
    case round =>
      obtain ⟨k, hk, rfl, HR, HBR⟩ := hrel
      by_cases hlt : k < o.length
      · obtain ⟨b1, o1, e1, i1⟩ := ints_at (HI2.out.2.mono HBR.out) (k := k) (by omega)
        obtain ⟨b2, o2, e2, i2⟩ := ints_at (HI2.out.1.mono HBR.out) (k := k) (by omega)
        subst e1 e2
        have hkt : k < ts.length := by omega
        have hku : k < us.length := by omega
        obtain ⟨X, hX⟩ : ∃ X : Int, X = gi ts k := ⟨_, rfl⟩
        obtain ⟨Y, hY⟩ : ∃ Y : Int, Y = gi us k := ⟨_, rfl⟩
        have HXY : Hid ((t.steps (-1) (t.dawn, t.dawn) o)[k]? = some (gi o k, X, Y)) := by rw [Hid, hX, hY, HMA.out k hlt, HMB.out k hlt]; exact steps_k hlt
        rw [← hX] at i1
        rw [← hY] at i2
        clear hX hY
        obtain ⟨ar, cr, hu, _, _⟩ := own_slice HR.out
        subst hu
        go_upto_region 10 with fail
        refine wpIn_wide.1 (rt10 (x := X) (y := Y) (S0 := fun v => Below wr.heap.size wr v) (S1 := fun xs v => ∃ g, xs = .slice (some ⟨g, 0, none⟩) 1 1 ∧ v.heap[g]? = some (.cells #[.int .i64 X, .int .i64 Y] 33 (0, 0)) ∧ Below wr.heap.size wr v)
          (S2 := fun _ v2 v => v.ownsRow w4.heap.size 33 2 v2 (k + 1) (minV ((t.steps (-1) (t.dawn, t.dawn) o).take (k + 1))) ∧ Below w4.heap.size w4 v) hlt hlt ?h0 ?l4 ?l8 ?c10 ?c11 ?hQ)
        case h0 => exact (Below.refl _ wr).drew
        case l4 => exact fun v h => cell_stays h i1
        case l8 => exact fun v h => cell_stays h i2
        case c10 => exact fun v h => ⟨_, rfl, World.alloc_heap_new v _, h.alloc h.size _⟩
        case c11 =>
          rintro xs v ⟨g, rfl, hg, hbv⟩
          have hown := own_below HR.out hbv
          obtain ⟨i0, hi0, hz0, hz1, hz2⟩ := info_parts2 infoSp
          obtain ⟨v', w', hr, hown', hgr⟩ := append_rows (P := Try.prog) (w := v) w4.heap.size 22 22 33 i0 _ 2 16 Try.underlying22 hi0 hz0 hz1 hz2 rfl (by decide) _ k _ hown (some ⟨g, 0, none⟩) 1 1 [.int .i64 X, .int .i64 Y] rfl
            (fun _ => ⟨_, rfl, fun j u hj => by
              have e : (⟨g, 0, none⟩ : Addr).add j = ⟨g, 0 + j, none⟩ := add_none _ _ _
              rw [e, cell_of_heap hg, Nat.zero_add]
              simpa using hj⟩) (by simp [Value.oneCell']) (by simp [maxLen]; omega) (by omega) (by have := hbv.size; have := HBR.out.size; omega)
          refine ⟨v', w', hr, ?_, grown_below (HBR.out.trans (hbv.mono HBR.out.size)) hown hgr (by have := hbv.size; have := HBR.out.size; omega)⟩
          rw [List.take_add_one, HXY.out]
          show World.ownsRow _ _ _ _ _ _ (minV (_ ++ [(gi o k, X, Y)]))
          rw [minV_add]
          exact hown'
        rintro xs v2 w5 ⟨hown, hb5⟩
        have HOWN := Lib.hid hown
        have HB6 := Lib.hid hb5
        clear hown hb5 i1 i2
        go_wp2_with fail
        go_roundw
        case rel => exact ⟨k + 1, by omega, by go_num, HOWN.out, HB6.out⟩
        case measure => simp [intOf]; omega
      · obtain rfl : k = o.length := by omega
        have hq5 := (HBR.out.block _ (heap_lt HQ5.out)).trans HQ5.out
        have c0 : wr.cell? ⟨w.heap.size + 1, 0, none⟩ = some (.int .i64 0) := by rw [cell_of_heap hq5]; rfl
        have c1 : wr.cell? ⟨w.heap.size + 1, 1, none⟩ = some (.int .i64 0) := by rw [cell_of_heap hq5]; rfl
        have fz : ∀ k, wr.frozen? ⟨w.heap.size + 1, k, none⟩ = false := fun k => frozen_of_heap hq5
        have HBW := Lib.hid (HB4.out.trans (HBR.out.mono (show w.heap.size ≤ w4.heap.size by omega)))
        have HQ6 := Lib.hid hq5
        have hst : (t.steps (-1) (t.dawn, t.dawn) o).take o.length = t.steps (-1) (t.dawn, t.dawn) o := List.take_of_length_le (by rw [steps_len]; omega)
        rw [hst] at HR
        obtain ⟨ar, cr, hu, _, _⟩ := own_slice HR.out
        clear hq5 hst
        subst hu
        go_wp2_with fail
        have Q1 := heap_setCell_at (k := 0) HQ6.out (.int .i64 N1)
        have Q2 := heap_setCell_at (k := 1) Q1 (.int .i64 N2)
        refine bodyPost_ret (res_tct rfl _ rfl ((cell_of_heap Q2).trans rfl) ((cell_of_heap Q2).trans rfl)) rfl ?_
        have hlen : (t.times o).length = o.length := by simp [Tr.times, steps_len]
        refine ⟨ar, cr, ?_, ?_, (HBW.out.setCell (Nat.le_succ _) _).setCell (Nat.le_succ _) _⟩
        · rw [HTE.out, HOV.out, hlen]; rfl
        · have := own_spans (own_blocks HR.out (w' := (wr.setCell ⟨w.heap.size + 1, 0, none⟩ (.int .i64 N1)).setCell ⟨w.heap.size + 1, 1, none⟩ (.int .i64 N2)) (fun g hg => by
            have hg1 := (HR.out.lt g hg).1
            exact (Below.heap_setCell _ _ _ _ (by show g ≠ w.heap.size + 1; omega)).trans (Below.heap_setCell _ _ _ _ (by show g ≠ w.heap.size + 1; omega)))) (by rw [steps_len])
          rw [HTE.out]
          exact this
  · have hb : (openE t (t.order o) != 0) = true := by simpa using h0
    rw [if_neg h0] at HTE
    clear h0
    go_wp2_with fail
    have Q1 := heap_setCell_at (k := 0) HQ3.out (.int .i64 0)
    have Q2 := heap_setCell_at (k := 1) Q1 (.int .i64 0)
    refine bodyPost_ret (res_tct rfl _ rfl ((cell_of_heap Q2).trans rfl) ((cell_of_heap Q2).trans rfl)) rfl ?_
    refine ⟨none, 0, by rw [HTE.out]; rfl, fun i hi => ?_, (HB2.out.setCell (Nat.le_succ _) _).setCell (Nat.le_succ _) _⟩
    rw [HTE.out] at hi
    simp at hi
end Go.Proofs.Ytphefhpmbahagaa

namespace Go.Proofs.Ytphefhpmbahagaa
open Go.RowKit
set_option linter.unusedVariables false
set_option linter.unusedSimpArgs false

theorem times_len (t : Tr) (o : List Int) : (t.times o).length = o.length := by simp [Tr.times, steps_len]
theorem times_at {t : Tr} {o : List Int} {k : Nat} {x y v : Int} (h : (t.steps (-1) (t.dawn, t.dawn) o)[k]? = some (v, x, y)) : gs (t.times o) k = ⟨x, y⟩ := by simp [gs, Tr.times, h]

set_option maxRecDepth 100000 in
set_option maxHeartbeats 4000000 in
theorem rlate19 {t : Tr} {A : TrA} {w : World} (ht : IsTr w t A) (hs : t.Small) {o : List Int} (hl : o.length ≤ 16) {a : Option Addr} {cap : Nat} (ha : IsInts w a o) :
    Calls Try.prog 19 #[t.v A, .slice a o.length cap] w fun e w' => e = .returned (.tuple #[.int .i64 (lateE t o).1, .bool (lateE t o).2.1, .int .i64 (lateE t o).2.2]) ∧ Below w.heap.size w w' := by
  have hbw : Below w.heap.size w (w.alloc (.cells (t.cells A) 25)) := (Below.refl _ w).alloc (Nat.le_refl _) _
  have hq := World.alloc_heap_new w (.cells (t.cells A) 25)
  have HB := Lib.hid (And.intro hbw (And.intro hq (And.intro (ha.mono hbw) (ht.mono hbw))))
  have HSM := Lib.hid hs
  have HSZ : Hid (w.heap.size + 1 ≤ (w.alloc (.cells (t.cells A) 25)).heap.size) := by simp [Hid]
  have HTE : Hid (timesE t o = if openE t (t.order o) = 0 then (t.times o, ⟨(t.over (-1) (t.dawn, t.dawn) o).1, (t.over (-1) (t.dawn, t.dawn) o).2⟩, 0) else ([], ⟨0, 0⟩, openE t (t.order o))) := rfl
  have HLE : Hid (lateE t o = if openE t (t.order o) = 0 then t.late (t.steps (-1) (t.dawn, t.dawn) o) else (0, false, openE t (t.order o))) := rfl
  clear hbw hq ha ht hs
  go_enter Try.func19, Try.ntmps19
  go_upto_region 1 with fail
  revert HB HSZ
  generalize (w.alloc (.cells (t.cells A) 25)) = w1
  intro HB HSZ
  obtain ⟨k0, k1, k2, k3, k4⟩ := tr_cells HB.out.2.1
  go_wp2_with fail
  refine (rtimes17 (cap := cap) HB.out.2.2.2 HSM.out hl HB.out.2.2.1).mono ?_
  rintro e w2 ⟨av, cv, rfl, hsp, hb2⟩
  have HB2 := Lib.hid (HB.out.1.trans (hb2.mono (show w.heap.size ≤ _ from by have := HSZ.out; omega)))
  have hsz2 : w.heap.size + 1 ≤ w2.heap.size := by have := HSZ.out; have := hb2.size; omega
  have HT2 := Lib.hid (And.intro (HB.out.2.2.2.mono hb2) (HB.out.2.2.1.mono hb2))
  have HQ2 := Lib.hid ((hb2.block _ (heap_lt HB.out.2.1)).trans HB.out.2.1)
  obtain ⟨S, hS⟩ : ∃ S : Spn, S = (timesE t o).2.1 := ⟨_, rfl⟩
  rw [← hS]
  clear hS hb2 k0 k1 k2 k3 k4
  by_cases h0 : openE t (t.order o) = 0
  · have HV := Lib.hid (openE_zero h0)
    rw [if_pos h0] at HTE HLE
    have HF := Lib.hid (fit_of_valid HV.out.1)
    have HO := Lib.hid (order_view HV.out.2)
    have e1 : (timesE t o).2.2 = 0 := by rw [HTE.out]
    have e2 : (timesE t o).1 = t.times o := by rw [HTE.out]
    rw [e1, e2]
    rw [e2] at hsp
    have HSP := Lib.hid hsp
    have htl := times_len t o
    have hn := HF.out.n
    have hlc := HF.out.light
    clear h0 e1 e2 hsp
    go_upto_region 4 with fail
    have hb3 : Below w2.heap.size w2 (w2.alloc (.cells #[.int .i64 S.lo, .int .i64 S.hi] 33)) := (Below.refl _ w2).alloc (Nat.le_refl _) _
    revert hb3
    generalize w2.alloc (.cells #[.int .i64 S.lo, .int .i64 S.hi] 33) = w3
    intro hb3
    have HB3 := Lib.hid (HB2.out.trans (hb3.mono (show w.heap.size ≤ _ by omega)))
    have HT3 := Lib.hid (And.intro (HT2.out.1.mono hb3) (HT2.out.2.mono hb3))
    have HQ3 := Lib.hid ((hb3.block _ (heap_lt HQ2.out)).trans HQ2.out)
    have HSP3 := Lib.hid (HSP.out.mono hb3)
    have hsz3 : w.heap.size + 1 ≤ w3.heap.size := by have := hb3.size; omega
    clear hb3
    go_wp2_with fail
    go_loopw [10] (fun i wr => ∃ (k : Nat), k ≤ o.length ∧ i = .int .i64 k ∧ Hid (((t.steps (-1) (t.dawn, t.dawn) o).take k).all (t.holds true) = true) ∧ Hid (Below w3.heap.size w3 wr)) (fun i _ => o.length - (intOf i).toNat)
    case atStart => exact ⟨0, by omega, rfl, rfl, Below.refl _ _⟩
    case round =>
      obtain ⟨k, hk, rfl, HA, HBR⟩ := hrel
      have HBW := Lib.hid (HB3.out.trans (HBR.out.mono (show w.heap.size ≤ _ by omega)))
      by_cases hlt : k < o.length
      · obtain ⟨ab, ao, haa, hca⟩ := (HT3.out.2.mono HBR.out) k hlt
        subst haa
        obtain ⟨v, hv, hvn⟩ := view_nat (HO.out _ (gi_mem' hlt))
        obtain ⟨lb, lo, le, c0, c1⟩ := (HT3.out.1.mono HBR.out).light v (by omega)
        obtain ⟨_, _, _, _, k4⟩ := tr_cells ((HBR.out.block _ (heap_lt HQ3.out)).trans HQ3.out)
        rw [le] at k4
        obtain ⟨sb, so, se, i0, i1⟩ := (HSP3.out.mono HBR.out) k (by omega)
        subst se
        obtain ⟨X, hX⟩ : ∃ X : Int, X = t.minAt false o k := ⟨_, rfl⟩
        obtain ⟨Y, hY⟩ : ∃ Y : Int, Y = t.minAt true o k := ⟨_, rfl⟩
        have hst := steps_k (t := t) hlt
        rw [← hX, ← hY, hv] at hst
        rw [times_at hst] at i0 i1
        have HST := Lib.hid hst
        rw [hv] at hca
        have hvl : v < t.light.length := by omega
        have hkt : k < (t.times o).length := by omega
        obtain ⟨G, hG⟩ : ∃ G : Int, G = (gs t.light v).hi := ⟨_, rfl⟩
        rw [← hG] at c1
        have HG : Hid ((gs t.light (v : Int).toNat).hi = G) := by rw [Hid, hG, Int.toNat_natCast]
        have y0 := fun y : Aft wr.heap.size wr => cell_stays y.h hca
        have y1 := fun y : Aft wr.heap.size wr => cell_stays y.h i0
        have y2 := fun y : Aft wr.heap.size wr => cell_stays y.h i1
        have y3 := fun y : Aft wr.heap.size wr => cell_stays y.h k4
        have y4 := fun y : Aft wr.heap.size wr => cell_stays y.h c1
        have HCL := Lib.hid (And.intro hca (And.intro i0 (And.intro k4 c1)))
        clear hca c0 c1 k4 hv i0 i1 hX hY hst hG
        go_upto_region 7 with fail
        cases hd : decide (G < Y)
        · have HX : Hid (t.holds true ((v : Int), X, Y) = true) := by
            have h1 : ¬ G < Y := by simpa using hd
            show decide (Y ≤ (gs t.light (v : Int).toNat).hi) = true
            rw [HG.out]; simp; omega
          refine wp_region_aft mixed (by kernel_rfl) ?_
          repeat (go_big_quiet_step (fail))
          refine wpQuiet_nil ?_
          rintro _ ⟨z, rfl⟩
          have HZ := Lib.hid (HBR.out.trans (z.h.mono HBR.out.size))
          clear y0 y1 y2 y3 y4 hd
          go_wp2_with fail
          go_roundw
          case rel => exact ⟨k + 1, by omega, by go_num, all_next HST.out HX.out HA.out, HZ.out⟩
          case measure => simp [intOf]; omega
        · have h1 : G < Y := by simpa using hd
          have HX : Hid (t.late (t.steps (-1) (t.dawn, t.dawn) o) = ((v : Int), decide (G < X), 0)) := by
            have hn : t.holds true ((v : Int), X, Y) = false := by
              show decide (Y ≤ (gs t.light (v : Int).toNat).hi) = false
              rw [HG.out]; simp; omega
            rw [Hid, late_some HA.out HST.out hn]
            have : (!t.holds false ((v : Int), X, Y)) = decide (G < X) := by
              show (!decide (X ≤ (gs t.light (v : Int).toNat).hi)) = decide (G < X)
              rw [HG.out, Bool.eq_iff_iff]; simp
            rw [this]
          clear h1
          refine wp_region_aft mixed (by kernel_rfl) ?_
          repeat (go_big_quiet_step (fail))
          refine wpQuiet_nil ?_
          rintro _ ⟨z, rfl⟩
          clear y0 y1 y2 y3 y4 hd
          have hzb := z.h
          revert hzb
          generalize z.v = w5
          intro hzb
          have HZ := Lib.hid (HBW.out.trans (hzb.mono HBW.out.size))
          have y0 := fun y : Aft w5.heap.size w5 => cell_stays y.h (cell_stays hzb HCL.out.1)
          have y1 := fun y : Aft w5.heap.size w5 => cell_stays y.h (cell_stays hzb HCL.out.2.1)
          have y3 := fun y : Aft w5.heap.size w5 => cell_stays y.h (cell_stays hzb HCL.out.2.2.1)
          have y4 := fun y : Aft w5.heap.size w5 => cell_stays y.h (cell_stays hzb HCL.out.2.2.2)
          clear hzb
          go_upto_region 8 with fail
          refine wp_region_aft mixed (by kernel_rfl) ?_
          repeat (go_big_quiet_step (fail))
          refine wpQuiet_nil ?_
          rintro _ ⟨z2, rfl⟩
          have HZ2 := Lib.hid (HZ.out.trans (z2.h.mono HZ.out.size))
          clear y0 y1 y3 y4
          go_wp2_with fail
          refine bodyPost_ret (results_tmp3 rfl _ _ _) rfl ?_
          exact ⟨by rw [HLE.out, HX.out]; rfl, HZ2.out⟩
      · obtain rfl : k = o.length := by omega
        have hst : (t.steps (-1) (t.dawn, t.dawn) o).take o.length = t.steps (-1) (t.dawn, t.dawn) o := List.take_of_length_le (by rw [steps_len]; omega)
        rw [hst] at HA
        have HX := Lib.hid (late_none HA.out)
        clear hst
        go_wp2_with fail
        refine bodyPost_ret (results_tmp3 rfl _ _ _) rfl ?_
        exact ⟨by rw [HLE.out, HX.out]; rfl, HBW.out⟩
  · have hb : (openE t (t.order o) != 0) = true := by simpa using h0
    rw [if_neg h0] at HTE HLE
    have e1 : (timesE t o).2.2 = openE t (t.order o) := by rw [HTE.out]
    rw [e1]
    have hb3 : Hid (Below w2.heap.size w2 (w2.alloc (.cells #[.int .i64 S.lo, .int .i64 S.hi] 33))) := (Below.refl _ w2).alloc (Nat.le_refl _) _
    clear h0 e1
    go_wp2_with fail
    refine bodyPost_ret (results_tmp3 rfl _ _ _) rfl ?_
    exact ⟨by rw [HLE.out]; rfl, HB2.out.trans (hb3.out.mono (show w.heap.size ≤ _ by omega))⟩
end Go.Proofs.Ytphefhpmbahagaa

