/- The reference's Walk. The reference's Sure and Can, Walked. The reference's Times. The reference's Late. -/
import Derived.Test.YtphefhpmbahagaaT26
namespace Go.Proofs.Ytphefhpmbahagaa
open Go.RowKit
set_option linter.unusedVariables false
set_option linter.unusedSimpArgs false

theorem end85s (s : Spn) (q : Bool) (w : World) : Calls Try.prog 85 #[.agg #[.int .i64 s.lo,.int .i64 s.hi],.bool q] w fun e w' => e = .returned (.int .i64 (s.sel q)) ∧ Below w.heap.size w w' := end85 s q w
theorem sel_ok {s : Spn} (h : s.ok = true) (q : Bool) : 0 ≤ s.sel q ∧ s.sel q ≤ 1440 := by
  have := (ok_iff s).1 h
  cases q <;> simp [Spn.sel] <;> omega
theorem sel_low {q : Bool} {p : Int × Int} {B : Int} (h : 0 ≤ p.1 ∧ p.1 ≤ B ∧ 0 ≤ p.2 ∧ p.2 ≤ B) : 0 ≤ sel q p ∧ sel q p ≤ B := by
  cases q <;> simp [sel] <;> omega
/-- The way's span of step k. -/
def Tr.wayAt (t : Tr) (o : List Int) (k : Nat) : Spn := t.way (t.at_ o k).1 (gi o k)
theorem wayAt_ok {t : Tr} (hF : t.Fit) {o : List Int} (ho : ∀ x ∈ o,t.view x = true) {k : Nat} (h : k < o.length) : (t.wayAt o k).ok = true := by
  obtain ⟨v,hv,hvn⟩ := view_nat (ho _ (gi_mem' h))
  have hf := at_from ho k (by omega)
  unfold Tr.wayAt
  rw [hv]
  rcases hf with e | ⟨m,e,hm⟩
  · rw [e]; simpa [Tr.way] using hF.okf v hvn
  · rw [e]
    have e' : ¬ (m : Int) = -1 := by omega
    simpa [Tr.way,e'] using hF.okw m v hm hvn
theorem wayAt_zero (t : Tr) (o : List Int) : t.wayAt o 0 = gs t.frm (gi o 0).toNat := by simp [Tr.wayAt,at_zero,Tr.way]
theorem wayAt_succ (t : Tr) {o : List Int} {j : Nat} (h : j < o.length) (h0 : 0 ≤ gi o j) : t.wayAt o (j + 1) = gs (gw t.ways (gi o j).toNat) (gi o (j + 1)).toNat := by
  have e : ¬ gi o j = -1 := by omega
  simp [Tr.wayAt,at_succ t h,Tr.go,Tr.way,e]
theorem minAt_max (t : Tr) (q : Bool) (o : List Int) (k : Nat) : max (sel q (t.at_ o k).2 + (t.wayAt o k).sel q) (gs t.light (gi o k).toNat).lo = t.minAt q o k := (sel_begin t q _ _ _).symm
theorem mins_more (t : Tr) (q : Bool) {o : List Int} {k : Nat} (h : k < o.length) : ((t.mins q o).take (k + 1)).map (Value.int .i64) = ((t.mins q o).take k).map (Value.int .i64) ++ [.int .i64 (t.minAt q o k)] := by
  have hl : k < (t.mins q o).length := by rw [mins_len]; exact h
  rw [List.take_succ_eq_append_getElem hl,List.map_append]
  have : (t.mins q o)[k] = t.minAt q o k := by
    have := mins_at t q h
    simpa [gi,hl] using this
  rw [this]; rfl
theorem minAt_low {t : Tr} (hF : t.Fit) {o : List Int} (ho : ∀ x ∈ o,t.view x = true) (q : Bool) {k : Nat} (h : k < o.length) : 0 ≤ t.minAt q o k ∧ t.minAt q o k ≤ 1440 + 2880 * (k : Int) + 1440 := by
  obtain ⟨v,hv,hvn⟩ := view_nat (ho _ (gi_mem' h))
  unfold Tr.minAt
  rw [hv]
  exact sel_low (begin_low hF (at_from ho k (by omega)) hvn (at_low hF ho k (by omega)) (by omega))

set_option maxRecDepth 100000 in
set_option maxHeartbeats 4000000 in
theorem rwalk56 {t : Tr} {A : TrA} {w : World} (ht : IsTr w t A) (hF : t.Fit) {o : List Int} (hl : o.length ≤ 16) (ho : ∀ x ∈ o,t.view x = true) {a : Option Addr} {cap : Nat} (ha : IsInts w a o) (q : Bool) :
    Calls Try.prog 56 #[t.v A,.slice a o.length cap,.bool q] w fun e w' => ∃ v,e = .returned (.tuple #[v,.int .i64 (sel q (t.at_ o o.length).2)]) ∧ w'.ownsRow w.heap.size 3 1 v o.length ((t.mins q o).map (Value.int .i64)) ∧ Below w.heap.size w w' := by
  have hbw : Below w.heap.size w (w.alloc (.cells (t.cells A) 25)) := (Below.refl _ w).alloc (Nat.le_refl _) _
  have hq := World.alloc_heap_new w (.cells (t.cells A) 25)
  have HB := Lib.hid (And.intro hbw (And.intro hq (And.intro (ha.mono hbw) (ht.mono hbw))))
  have HF := Lib.hid (And.intro hF ho)
  have hn := hF.n
  have hlc := hF.light
  have hsc := hF.stay
  have hwc := hF.ways
  have hsel0 : sel q (t.dawn,t.dawn) = t.dawn := by cases q <;> rfl
  have HSZ : Hid (w.heap.size < (w.alloc (.cells (t.cells A) 25)).heap.size) := by simp [Hid]
  clear hbw hq ha ht hF ho
  go_enter Try.func56,Try.ntmps56
  go_upto_region 1 with fail
  revert HB HSZ
  generalize (w.alloc (.cells (t.cells A) 25)) = w1
  intro HB HSZ
  obtain ⟨k0,_,_,_,_⟩ := tr_cells HB.out.2.1
  go_wp2_with fail
  go_loopw [8,9,10] (fun r d i wr => ∃ (k : Nat),k ≤ o.length ∧ i = .int .i64 k ∧ d = .int .i64 (sel q (t.at_ o k).2) ∧ Hid (wr.ownsRow w1.heap.size 3 1 r k (((t.mins q o).take k).map (Value.int .i64))) ∧ Hid (w1.heap.size ≤ wr.heap.size ∧ Below w1.heap.size w1 wr)) (fun _ _ i _ => o.length - (intOf i).toNat)
  case atStart => exact ⟨0,by omega,rfl,by rw [at_zero,hsel0],World.ownsRow_nil _ _ _ _,Nat.le_refl _,Below.refl _ _⟩
  case round =>
    obtain ⟨k,hk,rfl,rfl,HR,HB2⟩ := hrel
    by_cases hlt : k < o.length
    · obtain ⟨ab,ao,haa,hca⟩ := (HB.out.2.2.1.mono HB2.out.2) k hlt
      subst haa
      obtain ⟨v,hv,hvn⟩ := view_nat (HF.out.2 _ (gi_mem' hlt))
      have htr := HB.out.2.2.2.mono HB2.out.2
      obtain ⟨fb,fo,fe,f0,f1⟩ := htr.frm v hvn
      obtain ⟨lb,lo,le,c0,c1⟩ := htr.light v (by omega)
      obtain ⟨stb,sto,te,d0,d1⟩ := HB.out.2.2.2.stay v (by omega)
      obtain ⟨_,_,_,k3,_⟩ := tr_cells HB.out.2.1
      obtain ⟨_,k1,k2,_,k4⟩ := tr_cells ((HB2.out.2.block _ (heap_lt HB.out.2.1)).trans HB.out.2.1)
      rw [fe] at k1
      rw [le] at k4
      rw [te] at k3
      have HV := Lib.hid hv
      rw [hv] at hca
      have b1 := lt_of_cell k1
      have b2 := lt_of_cell f0
      have hwr1 : w1.heap.size ≤ wr.heap.size := HB2.out.1
      have hbx := heap_lt HB.out.2.1
      have hba : Below wr.heap.size wr (wr.alloc (.cells (gs t.frm v).arr 33)) := (Below.refl _ wr).alloc (Nat.le_refl _) _
      have qa := World.alloc_heap_new wr (.cells (gs t.frm v).arr 33)
      have HQA := Lib.hid (And.intro hba qa)
      clear hba qa hv htr
      obtain ⟨N,hN⟩ : ∃ N : Int,N = sel q (t.at_ o k).2 := ⟨_,rfl⟩
      rw [← hN]
      have hNb : 0 ≤ N ∧ N ≤ 100000 := by
        have := sel_low (q := q) (at_low HF.out.1 HF.out.2 k hk)
        rw [hN]; omega
      have HN := Lib.hid hN
      clear hN
      obtain ⟨s,hs⟩ : ∃ s : Spn,s = t.wayAt o k := ⟨_,rfl⟩
      have HS := Lib.hid hs
      obtain ⟨E,hE⟩ : ∃ E : Int,E = s.sel q := ⟨_,rfl⟩
      have hEb : 0 ≤ E ∧ E ≤ 1440 := by rw [hE,hs]; exact sel_ok (wayAt_ok HF.out.1 HF.out.2 hlt) q
      have HE1 : Hid (∀ w,Calls Try.prog 85 #[.agg #[.int .i64 s.lo,.int .i64 s.hi],.bool q] w fun e w' => e = .returned (.int .i64 E) ∧ Below w.heap.size w w') := fun w => by rw [hE]; exact end85s s q w
      obtain ⟨M,hM⟩ : ∃ M : Int,M = t.minAt q o k := ⟨_,rfl⟩
      have hMb : 0 ≤ M ∧ M ≤ 100000 := by have := minAt_low HF.out.1 HF.out.2 q hlt; rw [hM]; omega
      have HMX : Hid ((if N + E < (gs t.light v).lo then (gs t.light v).lo else N + E) = M) := by
        have h := minAt_max t q o k
        rw [HV.out,Int.toNat_natCast] at h
        rw [Hid,HN.out,hE,hs,hM,← h]
        generalize sel q (t.at_ o k).2 + (t.wayAt o k).sel q = a
        split <;> omega
      have HME : Hid (t.minAt q o k = M) := hM.symm
      obtain ⟨E2,hE2⟩ : ∃ E : Int,E = (gs t.stay v).sel q := ⟨_,rfl⟩
      have hE2b : 0 ≤ E2 ∧ E2 ≤ 1440 := by rw [hE2]; exact sel_ok (HF.out.1.oks v hvn) q
      have HE2 : Hid (∀ w,Calls Try.prog 85 #[.agg #[.int .i64 (gs t.stay v).lo,.int .i64 (gs t.stay v).hi],.bool q] w fun e w' => e = .returned (.int .i64 E2) ∧ Below w.heap.size w w') := fun w => by rw [hE2]; exact end85s _ q w
      have HNX : Hid (sel q (t.at_ o (k + 1)).2 = M + E2) := by rw [Hid,sel_next t q hlt,HV.out,Int.toNat_natCast,hM,hE2]
      clear hM hE2
      clear hE hs
      by_cases hk0 : k = 0
      · have hg0 : decide (0 < k) = false := by simp; omega
        have HWF : Hid (gs t.frm v = s) := by rw [Hid,HS.out]; have := HV.out; subst hk0; rw [wayAt_zero,this,Int.toNat_natCast]
        clear hk0
        go_upto_region 10 with fail
        rw [HWF.out] at HQA ⊢
        revert HQA
        generalize (wr.alloc (.cells s.arr 33)) = V
        intro HVV
        have hvb := HVV.out.1
        have s0 : V.cell? ⟨wr.heap.size,0,none⟩ = some (.int .i64 s.lo) := by rw [cell_of_heap HVV.out.2]; rfl
        have s1 : V.cell? ⟨wr.heap.size,1,none⟩ = some (.int .i64 s.hi) := by rw [cell_of_heap HVV.out.2]; rfl
        have k4' := cell_stays hvb k4
        have c0' := cell_stays hvb c0
        have y0 := fun y : Aft V.heap.size V => cell_stays y.h s0
        have y1 := fun y : Aft V.heap.size V => cell_stays y.h s1
        have y2 := fun y : Aft V.heap.size V => cell_stays y.h k4'
        have y3 := fun y : Aft V.heap.size V => cell_stays y.h c0'
        have e1 := fun (y : Aft V.heap.size V) => HE1.out y.v
        clear hvb s0 s1 k4' c0'
        refine wp_region_aft mixed (by kernel_rfl) ?_
        repeat (go_big_quiet_step ((go_at_call 85; exact calls_aft (e1 _))))
        refine wpQuiet_nil ?_
        rintro _ ⟨z,rfl⟩
        clear y0 y1 y2 y3 e1
        rw [HMX.out]
        have hzw : Below wr.heap.size wr z.v := HVV.out.1.trans (z.h.mono HVV.out.1.size)
        revert hzw
        generalize z.v = V2
        intro hzw
        clear HVV
        have hz1 := hzw.size
        have hown := own_below HR.out hzw
        obtain ⟨i0,hi0,hz0,hz1',hz2⟩ := info_parts infoI
        obtain ⟨v',w',hr,hown',hgr⟩ := append_one (P := Try.prog) (w := V2) w1.heap.size 26 26 3 i0 _ 8 Try.underlying26 hi0 hz0 hz1' hz2 rfl _ _ _ hown (.int .i64 M) rfl (by simp [maxLen]; omega) (by omega) (by omega)
        have hb1 : Below w1.heap.size w1 (V2.alloc (.cells #[.int .i64 M] 3)) := (HB2.out.2.trans (hzw.mono hwr1)).alloc (by omega) _
        have hb2 : Below w1.heap.size w1 w' := grown_below hb1 (hown.alloc _) hgr (by simp; omega)
        have hsz : w1.heap.size ≤ w'.heap.size := hb2.size
        have k3' := cell_stays hb2 k3
        have d0' := cell_stays hb2 d0
        have d1' := cell_stays hb2 d1
        have HRUN := Lib.hid hr
        have HOWN : Hid (w'.ownsRow w1.heap.size 3 1 v' (k + 1) (((t.mins q o).take (k + 1)).map (Value.int .i64))) := by rw [Hid,mins_more t q hlt,HME.out]; exact hown'
        have HB3 := Lib.hid hb2
        clear hown hown' hgr hr hb1 hb2 hzw
        go_wp2_with (at_builtin; refine wpList_append_run rfl (.tmp 56) (.tmp 58) 26 rfl _ _ _ _ rfl rfl HRUN.out ?_)
        refine (HE2.out w').mono ?_
        rintro e w5 ⟨rfl,hb5⟩
        have HB5 := Lib.hid (HB3.out.trans (hb5.mono hsz))
        have HOWN5 := Lib.hid (own_below HOWN.out hb5)
        have hsz5 : w1.heap.size ≤ w5.heap.size := HB5.out.size
        clear hb5 k3' d0' d1'
        go_wp2_with fail
        go_roundw
        case rel => exact ⟨k + 1,by omega,by go_num,by rw [HNX.out],HOWN5.out,hsz5,HB5.out⟩
        case measure => simp [intOf]; omega
      · have hg0 : decide (0 < k) = true := by simp; omega
        have HK0 := Lib.hid hk0
        clear hk0
        go_upto_region 9 with fail
        have htr := HB.out.2.2.2.mono HB2.out.2
        obtain ⟨j,hkj⟩ : ∃ j : Nat,k = j + 1 := ⟨k - 1,by have := HK0.out; omega⟩
        obtain ⟨m,hm,hmn⟩ := view_nat (HF.out.2 _ (gi_mem' (show j < o.length by omega)))
        obtain ⟨wb,wo,we,rai,rc,r0,r1⟩ := htr.ways m (by omega)
        have hrow := HF.out.1.rows m hmn
        obtain ⟨rb,ro,re,p0,p1⟩ := r1 v (by omega)
        subst re
        rw [we] at k2
        have hs' : gs (gw t.ways m) v = s := by
          rw [HS.out]
          have := wayAt_succ t (o := o) (j := j) (by omega) (by omega)
          rw [← hkj,hm,HV.out,Int.toNat_natCast,Int.toNat_natCast] at this
          exact this.symm
        rw [hs'] at p0 p1
        obtain ⟨_,_,hee,hcj⟩ := (HB.out.2.2.1.mono HB2.out.2) j (by omega)
        cases hee
        rw [hm] at hcj
        revert HQA
        generalize wr.alloc (.cells (gs t.frm v).arr 33) = V0
        intro HQA
        have hV0 := HQA.out.1
        have hV0s := heap_lt HQA.out.2
        have hwV : wr.heap.size ≤ V0.heap.size := hV0.size
        refine wpIn_wide.1 (rw9 (j := j) (m := m) (wb := wb) (wo := wo) (wn := t.ways.length) (wc := A.cw) (rb := rb) (ro := ro) (rn := (gw t.ways m).length) (rc := rc) (s := s) (S0 := fun u => Below V0.heap.size V0 u) (S1 := fun u => Below wr.heap.size wr u ∧ u.heap[wr.heap.size]? = some (.cells s.arr 33 (0,0))) ?a1 ?a2 ?a3 ?a4 ?h0 ?l1 ?l6 ?l8 ?l11 ?c12 ?hQ)
        case a1 =>
          have e : ((k : Int) - 1) = (j : Int) := by omega
          rw [e]; exact IntWalk.i64_in _ (by omega)
        case a2 => omega
        case a3 => omega
        case a4 => omega
        case h0 => exact (Below.refl _ V0).drew
        case l1 => exact fun u hu => cell_stays hu (cell_stays hV0 k2)
        case l6 => exact fun u hu => cell_stays hu (cell_stays hV0 hcj)
        case l8 => exact fun u hu => cell_stays hu (cell_stays hV0 r0)
        case l11 => exact fun u hu => ⟨cell_stays hu (cell_stays hV0 p0),cell_stays hu (cell_stays hV0 p1)⟩
        case c12 =>
          intro u hu
          have hq := (hu.block _ hV0s).trans HQA.out.2
          refine ⟨⟨_,by rw [cell_of_heap hq]; rfl⟩,frozen_of_heap hq,⟨_,by rw [cell_of_heap hq]; rfl⟩,frozen_of_heap hq,((hV0.trans (hu.mono hwV)).setCell (Nat.le_refl _) _).setCell (Nat.le_refl _) _,heap_setCell_at (k := 1) (heap_setCell_at (k := 0) hq _) _⟩
        intro V hvv
        have HVV := Lib.hid hvv
        clear hvv
        clear hcj p0 p1 r0 hV0 hwV hV0s HQA htr r1 hkj hm hrow
        clear k2
        go_upto_region 10 with fail
        have hvb := HVV.out.1
        have s0 : V.cell? ⟨wr.heap.size,0,none⟩ = some (.int .i64 s.lo) := by rw [cell_of_heap HVV.out.2]; rfl
        have s1 : V.cell? ⟨wr.heap.size,1,none⟩ = some (.int .i64 s.hi) := by rw [cell_of_heap HVV.out.2]; rfl
        have k4' := cell_stays hvb k4
        have c0' := cell_stays hvb c0
        have y0 := fun y : Aft V.heap.size V => cell_stays y.h s0
        have y1 := fun y : Aft V.heap.size V => cell_stays y.h s1
        have y2 := fun y : Aft V.heap.size V => cell_stays y.h k4'
        have y3 := fun y : Aft V.heap.size V => cell_stays y.h c0'
        have e1 := fun (y : Aft V.heap.size V) => HE1.out y.v
        clear hvb s0 s1 k4' c0'
        refine wp_region_aft mixed (by kernel_rfl) ?_
        repeat (go_big_quiet_step ((go_at_call 85; exact calls_aft (e1 _))))
        refine wpQuiet_nil ?_
        rintro _ ⟨z,rfl⟩
        clear y0 y1 y2 y3 e1
        rw [HMX.out]
        have hzw : Below wr.heap.size wr z.v := HVV.out.1.trans (z.h.mono HVV.out.1.size)
        revert hzw
        generalize z.v = V2
        intro hzw
        clear HVV
        have hz1 := hzw.size
        have hown := own_below HR.out hzw
        obtain ⟨i0,hi0,hz0,hz1',hz2⟩ := info_parts infoI
        obtain ⟨v',w',hr,hown',hgr⟩ := append_one (P := Try.prog) (w := V2) w1.heap.size 26 26 3 i0 _ 8 Try.underlying26 hi0 hz0 hz1' hz2 rfl _ _ _ hown (.int .i64 M) rfl (by simp [maxLen]; omega) (by omega) (by omega)
        have hb1 : Below w1.heap.size w1 (V2.alloc (.cells #[.int .i64 M] 3)) := (HB2.out.2.trans (hzw.mono hwr1)).alloc (by omega) _
        have hb2 : Below w1.heap.size w1 w' := grown_below hb1 (hown.alloc _) hgr (by simp; omega)
        have hsz : w1.heap.size ≤ w'.heap.size := hb2.size
        have k3' := cell_stays hb2 k3
        have d0' := cell_stays hb2 d0
        have d1' := cell_stays hb2 d1
        have HRUN := Lib.hid hr
        have HOWN : Hid (w'.ownsRow w1.heap.size 3 1 v' (k + 1) (((t.mins q o).take (k + 1)).map (Value.int .i64))) := by rw [Hid,mins_more t q hlt,HME.out]; exact hown'
        have HB3 := Lib.hid hb2
        clear hown hown' hgr hr hb1 hb2 hzw
        go_wp2_with (at_builtin; refine wpList_append_run rfl (.tmp 56) (.tmp 58) 26 rfl _ _ _ _ rfl rfl HRUN.out ?_)
        refine (HE2.out w').mono ?_
        rintro e w5 ⟨rfl,hb5⟩
        have HB5 := Lib.hid (HB3.out.trans (hb5.mono hsz))
        have HOWN5 := Lib.hid (own_below HOWN.out hb5)
        have hsz5 : w1.heap.size ≤ w5.heap.size := HB5.out.size
        clear hb5 k3' d0' d1'
        go_wp2_with fail
        go_roundw
        case rel => exact ⟨k + 1,by omega,by go_num,by rw [HNX.out],HOWN5.out,hsz5,HB5.out⟩
        case measure => simp [intOf]; omega
    · obtain rfl : k = o.length := by omega
      have hml := mins_len t q o
      have HR2 : Hid (wr.ownsRow w1.heap.size 3 1 u8 o.length ((t.mins q o).map (Value.int .i64))) := by
        have := HR.out
        rw [← hml,List.take_length] at this
        rw [hml] at this
        exact this
      have HBW := Lib.hid (HB.out.1.trans (HB2.out.2.mono HB.out.1.size))
      go_wp2_with fail
      refine bodyPost_ret (results_tmp2 rfl _ _ _) rfl ?_
      exact ⟨_,rfl,own_base HR2.out (Nat.le_of_lt HSZ.out),HBW.out⟩
end Go.Proofs.Ytphefhpmbahagaa

namespace Go.Proofs.Ytphefhpmbahagaa
open Go.RowKit
set_option linter.unusedVariables false
set_option linter.unusedSimpArgs false

theorem ints_at {w : World} {a : Option Addr} {l : List Int} (h : IsInts w a l) {k : Nat} (hk : k < l.length) : ∃ b off,a = some ⟨b,off,none⟩ ∧ w.cell? ⟨b,off + k,none⟩ = some (.int .i64 (gi l k)) := h k hk
theorem times_len (t : Tr) (o : List Int) : (t.times o).length = o.length := by simp [Tr.times,steps_len]
theorem times_at {t : Tr} {o : List Int} {k : Nat} {x y v : Int} (h : (t.steps (-1) (t.dawn,t.dawn) o)[k]? = some (v,x,y)) : gs (t.times o) k = ⟨x,y⟩ := by simp [gs,Tr.times,h]
end Go.Proofs.Ytphefhpmbahagaa
