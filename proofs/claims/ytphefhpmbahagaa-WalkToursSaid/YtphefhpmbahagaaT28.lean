/- The reference's Sure and Can, Walked. -/
import Derived.Test.YtphefhpmbahagaaT27
namespace Go.Proofs.Ytphefhpmbahagaa
open Go.RowKit
set_option linter.unusedVariables false
set_option linter.unusedSimpArgs false

set_option maxRecDepth 100000 in
set_option maxHeartbeats 1000000 in
theorem rsure51 {t : Tr} {A : TrA} {w : World} (ht : IsTr w t A) (hF : t.Fit) {o : List Int} (hl : o.length ≤ 16) (ho : ∀ x ∈ o, t.view x = true) {a : Option Addr} {cap : Nat} (ha : IsInts w a o) :
    Calls Try.prog 51 #[t.v A, .slice a o.length cap] w fun e w' => e = .returned (.bool (t.is true o)) ∧ Below w.heap.size w w' := by
  have hbw : Below w.heap.size w (w.alloc (.cells (t.cells A) 25)) := (Below.refl _ w).alloc (Nat.le_refl _) _
  have hq := World.alloc_heap_new w (.cells (t.cells A) 25)
  have HB := Lib.hid (And.intro hbw (And.intro hq (And.intro (ha.mono hbw) (ht.mono hbw))))
  have HF := Lib.hid (And.intro hF ho)
  have HSZ : Hid (w.heap.size ≤ (w.alloc (.cells (t.cells A) 25)).heap.size) := by simp [Hid]
  clear hbw hq ha ht hF ho
  go_enter Try.func51, Try.ntmps51
  go_upto_region 1 with fail
  revert HB HSZ
  generalize (w.alloc (.cells (t.cells A) 25)) = w1
  intro HB HSZ
  obtain ⟨k0, k1, k2, k3, k4⟩ := tr_cells HB.out.2.1
  go_wp2_with fail
  refine (rwalk56 (cap := cap) HB.out.2.2.2 HF.out.1 hl HF.out.2 HB.out.2.2.1 true).mono ?_
  rintro e w2 ⟨v, rfl, hown, hb2⟩
  obtain ⟨ts, hts⟩ : ∃ ts, ts = t.mins true o := ⟨_, rfl⟩
  have htl : ts.length = o.length := by rw [hts, mins_len]
  have HIS : Hid (t.inL o ts o.length = t.is true o) := by rw [hts]; exact inL_is t _ o
  rw [← hts, ← htl] at hown
  obtain ⟨av, cv, rfl, _, _⟩ := own_slice hown
  have hints := own_ints hown
  have HC := Lib.hid (rin80 (cap := cap) (cb := cv) (HB.out.2.2.2.mono hb2) HF.out.1 hl HF.out.2 htl (HB.out.2.2.1.mono hb2) hints)
  have k0' := cell_stays hb2 k0
  have k1' := cell_stays hb2 k1
  have k2' := cell_stays hb2 k2
  have k3' := cell_stays hb2 k3
  have k4' := cell_stays hb2 k4
  have HB2 := Lib.hid (HB.out.1.trans (hb2.mono HSZ.out))
  have hsz2 : w.heap.size ≤ w2.heap.size := HB2.out.size
  clear hown hints hb2 hts htl k0 k1 k2 k3 k4
  go_wp2_with fail
  refine HC.out.mono ?_
  rintro e w3 ⟨rfl, hb3⟩
  have HB3 := Lib.hid (HB2.out.trans (hb3.mono hsz2))
  clear hb3
  go_wp2_with fail
  go_ret
  exact ⟨ret_bool HIS.out, HB3.out⟩

set_option maxRecDepth 100000 in
set_option maxHeartbeats 1000000 in
theorem rcan52 {t : Tr} {A : TrA} {w : World} (ht : IsTr w t A) (hF : t.Fit) {o : List Int} (hl : o.length ≤ 16) (ho : ∀ x ∈ o, t.view x = true) {a : Option Addr} {cap : Nat} (ha : IsInts w a o) :
    Calls Try.prog 52 #[t.v A, .slice a o.length cap] w fun e w' => e = .returned (.bool (t.is false o)) ∧ Below w.heap.size w w' := by
  have hbw : Below w.heap.size w (w.alloc (.cells (t.cells A) 25)) := (Below.refl _ w).alloc (Nat.le_refl _) _
  have hq := World.alloc_heap_new w (.cells (t.cells A) 25)
  have HB := Lib.hid (And.intro hbw (And.intro hq (And.intro (ha.mono hbw) (ht.mono hbw))))
  have HF := Lib.hid (And.intro hF ho)
  have HSZ : Hid (w.heap.size ≤ (w.alloc (.cells (t.cells A) 25)).heap.size) := by simp [Hid]
  clear hbw hq ha ht hF ho
  go_enter Try.func52, Try.ntmps52
  go_upto_region 1 with fail
  revert HB HSZ
  generalize (w.alloc (.cells (t.cells A) 25)) = w1
  intro HB HSZ
  obtain ⟨k0, k1, k2, k3, k4⟩ := tr_cells HB.out.2.1
  go_wp2_with fail
  refine (rwalk56 (cap := cap) HB.out.2.2.2 HF.out.1 hl HF.out.2 HB.out.2.2.1 false).mono ?_
  rintro e w2 ⟨v, rfl, hown, hb2⟩
  obtain ⟨ts, hts⟩ : ∃ ts, ts = t.mins false o := ⟨_, rfl⟩
  have htl : ts.length = o.length := by rw [hts, mins_len]
  have HIS : Hid (t.inL o ts o.length = t.is false o) := by rw [hts]; exact inL_is t _ o
  rw [← hts, ← htl] at hown
  obtain ⟨av, cv, rfl, _, _⟩ := own_slice hown
  have hints := own_ints hown
  have HC := Lib.hid (rin80 (cap := cap) (cb := cv) (HB.out.2.2.2.mono hb2) HF.out.1 hl HF.out.2 htl (HB.out.2.2.1.mono hb2) hints)
  have k0' := cell_stays hb2 k0
  have k1' := cell_stays hb2 k1
  have k2' := cell_stays hb2 k2
  have k3' := cell_stays hb2 k3
  have k4' := cell_stays hb2 k4
  have HB2 := Lib.hid (HB.out.1.trans (hb2.mono HSZ.out))
  have hsz2 : w.heap.size ≤ w2.heap.size := HB2.out.size
  clear hown hints hb2 hts htl k0 k1 k2 k3 k4
  go_wp2_with fail
  refine HC.out.mono ?_
  rintro e w3 ⟨rfl, hb3⟩
  have HB3 := Lib.hid (HB2.out.trans (hb3.mono hsz2))
  clear hb3
  go_wp2_with fail
  go_ret
  exact ⟨ret_bool HIS.out, HB3.out⟩

set_option maxRecDepth 100000 in
set_option maxHeartbeats 1000000 in
theorem rwalked15 {t : Tr} {A : TrA} {w : World} (ht : IsTr w t A) (hs : t.Small) {o : List Int} (hl : o.length ≤ 16) {a : Option Addr} {cap : Nat} (ha : IsInts w a o) :
    Calls Try.prog 15 #[t.v A, .slice a o.length cap] w fun e w' => e = .returned (.tuple #[.int .i64 (walkedE t o).1, .int .i64 (walkedE t o).2]) ∧ Below w.heap.size w w' := by
  have hbw : Below w.heap.size w (w.alloc (.cells (t.cells A) 25)) := (Below.refl _ w).alloc (Nat.le_refl _) _
  have hq := World.alloc_heap_new w (.cells (t.cells A) 25)
  have HB := Lib.hid (And.intro hbw (And.intro hq (And.intro (ha.mono hbw) (ht.mono hbw))))
  have HSM := Lib.hid hs
  have HSZ : Hid (w.heap.size ≤ (w.alloc (.cells (t.cells A) 25)).heap.size) := by simp [Hid]
  clear hbw hq ha ht hs
  go_enter Try.func15, Try.ntmps15
  go_upto_region 1 with fail
  revert HB HSZ
  generalize (w.alloc (.cells (t.cells A) 25)) = w1
  intro HB HSZ
  obtain ⟨k0, k1, k2, k3, k4⟩ := tr_cells HB.out.2.1
  have y0 := fun y : Aft w1.heap.size w1 => cell_stays y.h k0
  have y1 := fun y : Aft w1.heap.size w1 => cell_stays y.h k1
  have y2 := fun y : Aft w1.heap.size w1 => cell_stays y.h k2
  have y3 := fun y : Aft w1.heap.size w1 => cell_stays y.h k3
  have y4 := fun y : Aft w1.heap.size w1 => cell_stays y.h k4
  have e1 : Hid (∀ y : Aft w1.heap.size w1, Calls Try.prog 34 #[t.v A, .slice a o.length cap] y.v fun e w' => e = .returned (.bool (t.order o)) ∧ Below y.v.heap.size y.v w') := fun y => rorder34 (HB.out.2.2.2.mono y.h) HSM.out.frm hl (HB.out.2.2.1.mono y.h)
  have e2 : Hid (∀ y : Aft w1.heap.size w1, Calls Try.prog 50 #[t.v A, .bool (t.order o)] y.v fun e w' => e = .returned (.int .i64 (openE t (t.order o))) ∧ Below y.v.heap.size y.v w') := fun y => rcheck50 (HB.out.2.2.2.mono y.h) HSM.out _
  clear k0 k1 k2 k3 k4
  refine wp_region_aft mixed (by kernel_rfl) ?_
  repeat (go_big_quiet_step (first | (go_at_call 34; exact calls_aft (e1.out _)) | (go_at_call 50; exact calls_aft (e2.out _))))
  refine wpQuiet_nil ?_
  rintro _ ⟨z, rfl⟩
  have hzw : Below w1.heap.size w1 z.v := z.h
  revert hzw
  generalize z.v = w2
  intro hzw
  clear y0 y1 y2 y3 y4 e1 e2
  have HT2 := Lib.hid (And.intro (HB.out.2.2.2.mono hzw) (HB.out.2.2.1.mono hzw))
  have hq2 := (hzw.block _ (heap_lt HB.out.2.1)).trans HB.out.2.1
  have HB2 := Lib.hid (HB.out.1.trans (hzw.mono HSZ.out))
  have hsz2 : w.heap.size ≤ w2.heap.size := HB2.out.size
  obtain ⟨k0, k1, k2, k3, k4⟩ := tr_cells hq2
  have HWE : Hid (walkedE t o = if openE t (t.order o) = 0 then (if t.is true o then 2 else if t.is false o then 1 else 0, 0) else (0, openE t (t.order o))) := rfl
  clear hzw hq2
  by_cases h0 : openE t (t.order o) = 0
  · have HV := Lib.hid (openE_zero h0)
    rw [if_pos h0] at HWE
    have HF := Lib.hid (fit_of_valid HV.out.1)
    have HO := Lib.hid (order_view HV.out.2)
    rw [h0]
    clear h0
    go_wp2_with fail
    refine (rsure51 (cap := cap) HT2.out.1 HF.out hl HO.out HT2.out.2).mono ?_
    rintro e w3 ⟨rfl, hb3⟩
    have k0' := cell_stays hb3 k0
    have k1' := cell_stays hb3 k1
    have k2' := cell_stays hb3 k2
    have k3' := cell_stays hb3 k3
    have k4' := cell_stays hb3 k4
    have HT3 := Lib.hid (And.intro (HT2.out.1.mono hb3) (HT2.out.2.mono hb3))
    have HB3 := Lib.hid (HB2.out.trans (hb3.mono hsz2))
    have hsz3 : w.heap.size ≤ w3.heap.size := HB3.out.size
    clear k0 k1 k2 k3 k4 hb3
    cases hs : t.is true o
    · rw [hs] at HWE
      go_wp2_with fail
      refine (rcan52 (cap := cap) HT3.out.1 HF.out hl HO.out HT3.out.2).mono ?_
      rintro e w4 ⟨rfl, hb4⟩
      have HB4 := Lib.hid (HB3.out.trans (hb4.mono hsz3))
      clear hb4
      cases hc : t.is false o
      · rw [hc] at HWE
        go_wp2_with fail
        refine bodyPost_ret (results_tmp2 rfl _ _ _) rfl ?_
        exact ⟨by rw [HWE.out]; rfl, HB4.out⟩
      · rw [hc] at HWE
        go_wp2_with fail
        refine bodyPost_ret (results_tmp2 rfl _ _ _) rfl ?_
        exact ⟨by rw [HWE.out]; rfl, HB4.out⟩
    · rw [hs] at HWE
      go_wp2_with fail
      refine bodyPost_ret (results_tmp2 rfl _ _ _) rfl ?_
      exact ⟨by rw [HWE.out]; rfl, HB3.out⟩
  · have hb : (openE t (t.order o) != 0) = true := by simpa using h0
    rw [if_neg h0] at HWE
    clear h0
    go_wp2_with fail
    refine bodyPost_ret (results_tmp2 rfl _ _ _) rfl ?_
    exact ⟨by rw [HWE.out]; rfl, HB2.out⟩
end Go.Proofs.Ytphefhpmbahagaa
