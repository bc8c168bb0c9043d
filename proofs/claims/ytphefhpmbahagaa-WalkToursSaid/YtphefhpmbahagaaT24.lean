/- The reference: In. -/
import Derived.Test.YtphefhpmbahagaaT23
namespace Go.Proofs.Ytphefhpmbahagaa
open Go.RowKit
set_option linter.unusedVariables false
set_option linter.unusedSimpArgs false

/-- Whether each time is in its view's light. -/
def Tr.inL (t : Tr) (o ts : List Int) (k : Nat) : Bool := (List.range k).all fun i => decide (gi ts i ≤ (gs t.light (gi o i).toNat).hi)
theorem inL_succ (t : Tr) (o ts : List Int) (k : Nat) : t.inL o ts (k + 1) = (t.inL o ts k && decide (gi ts k ≤ (gs t.light (gi o k).toNat).hi)) := by
  simp [Tr.inL, List.range_succ, List.all_append]
theorem inL_cut {t : Tr} {o ts : List Int} {k n : Nat} (hk : k < n) (h : decide (gi ts k ≤ (gs t.light (gi o k).toNat).hi) = false) : t.inL o ts n = false := by
  rw [Tr.inL, List.all_eq_false]
  exact ⟨k, by simp [hk], by simpa using h⟩
set_option maxRecDepth 100000 in
set_option maxHeartbeats 4000000 in
theorem rin80 {t : Tr} {A : TrA} {w : World} (ht : IsTr w t A) (hF : t.Fit) {o ts : List Int} (hl : o.length ≤ 16) (ho : ∀ x ∈ o, t.view x = true) (hts : ts.length = o.length) {a b : Option Addr} {cap cb : Nat} (ha : IsInts w a o) (hb : IsInts w b ts) :
    Calls Try.prog 80 #[t.v A, .slice a o.length cap, .slice b ts.length cb] w fun e w' => e = .returned (.bool (t.inL o ts o.length)) ∧ Below w.heap.size w w' := by
  have hbw : Below w.heap.size w (w.alloc (.cells (t.cells A) 25)) := (Below.refl _ w).alloc (Nat.le_refl _) _
  have hq := World.alloc_heap_new w (.cells (t.cells A) 25)
  have HB := Lib.hid (And.intro hbw (And.intro hq (And.intro (ha.mono hbw) (And.intro (hb.mono hbw) (ht.mono hbw)))))
  have HF := Lib.hid (And.intro hF ho)
  have hn := hF.n
  have hlc := hF.light
  clear hbw hq ha hb ht hF ho
  go_enter Try.func80, Try.ntmps80
  go_upto_region 1 with fail
  revert HB
  generalize (w.alloc (.cells (t.cells A) 25)) = w1
  intro HB
  go_wp2_with fail
  go_loopw [7] (fun i wr => ∃ k : Nat, k ≤ o.length ∧ i = .int .i64 k ∧ Hid (t.inL o ts k = true) ∧ Hid (Below w1.heap.size w1 wr)) (fun i _ => o.length - (intOf i).toNat)
  case atStart => exact ⟨0, by omega, rfl, rfl, Below.refl _ _⟩
  case round =>
    obtain ⟨k, hk, rfl, HO, HB2⟩ := hrel
    have HBW := Lib.hid (HB.out.1.trans (HB2.out.mono HB.out.1.size))
    by_cases hlt : k < o.length
    · obtain ⟨ab, ao, haa, hca⟩ := (HB.out.2.2.1.mono HB2.out) k hlt
      obtain ⟨bb, bo, hbb, hcb⟩ := (HB.out.2.2.2.1.mono HB2.out) k (by omega)
      subst haa
      subst hbb
      obtain ⟨v, hv, hvn⟩ := view_nat (HF.out.2 _ (gi_mem' hlt))
      obtain ⟨lb, lo, le, c0, c1⟩ := (HB.out.2.2.2.2.mono HB2.out).light v (by omega)
      obtain ⟨_, _, _, _, k4⟩ := tr_cells ((HB2.out.block _ (heap_lt HB.out.2.1)).trans HB.out.2.1)
      rw [le] at k4
      have HST := Lib.hid (inL_succ t o ts k)
      have HCUT : Hid (decide (gi ts k ≤ (gs t.light (gi o k).toNat).hi) = false → t.inL o ts o.length = false) := fun h => inL_cut hlt h
      rw [hv] at hca HST HCUT
      rw [Int.toNat_natCast] at HST HCUT
      have hvl : v < t.light.length := by omega
      have hkt : k < ts.length := by omega
      have y0 := fun y : Aft wr.heap.size wr => cell_stays y.h hca
      have y1 := fun y : Aft wr.heap.size wr => cell_stays y.h hcb
      have y2 := fun y : Aft wr.heap.size wr => cell_stays y.h c1
      have y3 := fun y : Aft wr.heap.size wr => cell_stays y.h k4
      clear hca hcb c0 c1 k4 hv
      go_upto_region 4 with fail
      cases hd : decide (gi ts k ≤ (gs t.light v).hi)
      · have HX := Lib.hid (HCUT.out hd)
        have hd2 : decide ((gs t.light v).hi < gi ts k) = true := by simp at hd ⊢; omega
        clear hd
        refine wp_region_aft mixed (by kernel_rfl) ?_
        repeat (go_big_quiet_step (fail))
        refine wpQuiet_nil ?_
        rintro _ ⟨z, rfl⟩
        have HZ := Lib.hid (HBW.out.trans (z.h.mono HBW.out.size))
        go_wp2_with fail
        go_ret
        exact ⟨ret_bool (by rw [HX.out]), HZ.out⟩
      · have HX : Hid (t.inL o ts (k + 1) = true) := by rw [Hid, HST.out, HO.out, hd]; rfl
        have hd2 : decide ((gs t.light v).hi < gi ts k) = false := by simp at hd ⊢; omega
        clear hd
        refine wp_region_aft mixed (by kernel_rfl) ?_
        repeat (go_big_quiet_step (fail))
        refine wpQuiet_nil ?_
        rintro _ ⟨z, rfl⟩
        have HZ := Lib.hid (HB2.out.trans (z.h.mono HB2.out.size))
        go_wp2_with fail
        go_roundw
        case rel => exact ⟨k + 1, by omega, by go_num, HX.out, HZ.out⟩
        case measure => simp [intOf]; omega
    · obtain rfl : k = o.length := by omega
      go_wp2_with fail
      go_ret
      exact ⟨ret_bool (by rw [HO.out]), HBW.out⟩
end Go.Proofs.Ytphefhpmbahagaa
