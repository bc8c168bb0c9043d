/- The reference: whether a tour is valid. The reference: check. The reference: Order. The reference: In. -/
import Derived.Test.YtphefhpmbahagaaT20
namespace Go.Proofs.Ytphefhpmbahagaa
open Go.RowKit
set_option linter.unusedVariables false
set_option linter.unusedSimpArgs false

theorem gw_at {l : List (List Spn)} {k : Nat} (h : k < l.length) : l[k]? = some (gw l k) := by simp [gw,h]
set_option maxRecDepth 100000 in
set_option maxHeartbeats 4000000 in
theorem rtour33 {t : Tr} {A : TrA} {w : World} (ha : IsTr w t A) (hs : t.Small) :
    Calls Try.prog 33 #[t.v A] w fun e w' => e = .returned (.bool t.valid) ∧ Below w.heap.size w w' := by
  have HV : Hid (t.valid = (decide (t.frm.length ≤ 6) && decide (t.ways.length = t.frm.length) && inR t.dawn 0 1440 && (t.ways ++ [t.frm,t.stay,t.light]).all fun l => areB l t.frm.length)) := rfl
  have hb : Below w.heap.size w (w.alloc (.cells (t.cells A) 25)) := (Below.refl _ w).alloc (Nat.le_refl _) _
  have hq := World.alloc_heap_new w (.cells (t.cells A) 25)
  have hn := hs.frm
  have hnw := hs.ways
  have HB := Lib.hid (And.intro hb (And.intro hq (And.intro (ha.mono hb) hs)))
  clear hb hq ha hs
  go_enter Try.func33,Try.ntmps33
  go_upto_region 1 with fail
  revert HB
  generalize (w.alloc (.cells (t.cells A) 25)) = w1
  intro HB
  obtain ⟨k0,k1,k2,k3,k4⟩ := tr_cells HB.out.2.1
  by_cases h6 : t.frm.length ≤ 6
  · have hd6 : decide (6 < (t.frm.length : Int)) = false := by simp; omega
    by_cases hw : t.ways.length = t.frm.length
    · have hbw : ((t.ways.length : Int) != (t.frm.length : Int)) = false := by simp; omega
      have H6 := Lib.hid (And.intro h6 hw)
      cases hd : inR t.dawn 0 1440
      · have HD := Lib.hid hd
        have HC := Lib.hid (rin77 t.dawn 0 1440)
        rw [hd] at HC
        clear hd
        go_wp2_with (go_at_call 77; refine (HC.out _).mono ?_; rintro e w' ⟨rfl,rfl⟩)
        go_ret
        exact ⟨ret_bool (by rw [HV.out,HD.out]; simp),HB.out.1⟩
      · have HD := Lib.hid hd
        have HC := Lib.hid (rin77 t.dawn 0 1440)
        rw [hd] at HC
        clear hd
        go_wp2_with (go_at_call 77; refine (HC.out _).mono ?_; rintro e w' ⟨rfl,rfl⟩)
        clear k0 k1 k2 k3 k4
        go_loopw [4] (fun i wr => ∃ k : Nat,k ≤ t.frm.length ∧ i = .int .i64 k ∧ Hid ((t.ways.take k).all (fun x => areB x t.frm.length) = true) ∧ Hid (Below w1.heap.size w1 wr)) (fun i _ => t.frm.length - (intOf i).toNat)
        case atStart => exact ⟨0,by omega,rfl,rfl,Below.refl _ _⟩
        case round =>
          obtain ⟨k,hk,rfl,HL,HB2⟩ := hrel
          have HBW := Lib.hid (HB.out.1.trans (HB2.out.mono HB.out.1.size))
          obtain ⟨k0,k1,k2,k3,k4⟩ := tr_cells ((HB2.out.block _ (heap_lt HB.out.2.1)).trans HB.out.2.1)
          by_cases hlt : k < t.frm.length
          · have hkw : k < t.ways.length := by omega
            obtain ⟨wb,wo,w0,ai,ci,c0,hri⟩ := (HB.out.2.2.1.mono HB2.out).ways k hkw
            rw [w0] at k2
            have hrl := HB.out.2.2.2.rows _ (List.mem_of_getElem? (gw_at hkw))
            have HS := Lib.hid (rspans78 (cap := ci) hri hrl t.frm.length)
            have HX := Lib.hid (gw_at hkw)
            clear hri w0
            cases hok : areB (gw t.ways k) t.frm.length
            · rw [hok] at HS
              have HO := Lib.hid hok
              clear hok
              go_wp2_with fail
              refine HS.out.mono ?_
              rintro e w3 ⟨rfl,hb3⟩
              have HB3 := Lib.hid (HBW.out.trans (hb3.mono HBW.out.size))
              clear hb3
              go_wp2_with fail
              go_ret
              refine ⟨ret_bool ?_,HB3.out⟩
              have h := all_stop (f := fun x => areB x t.frm.length) HX.out HO.out
              rw [HV.out,List.all_append,h]
              simp
            · rw [hok] at HS
              have HO := Lib.hid hok
              clear hok
              go_wp2_with fail
              refine HS.out.mono ?_
              rintro e w3 ⟨rfl,hb3⟩
              have HB3 := Lib.hid (HB2.out.trans (hb3.mono HB2.out.size))
              clear hb3
              go_wp2_with fail
              go_roundw
              case rel => exact ⟨k + 1,by omega,by go_num,all_next (f := fun x => areB x t.frm.length) HX.out HO.out HL.out,HB3.out⟩
              case measure => simp [intOf]; omega
          · obtain rfl : k = t.frm.length := by omega
            rw [← H6.out.2,List.take_length,H6.out.2] at HL
            have HT := Lib.hid (HB.out.2.2.1.mono HB2.out)
            have HW : Hid (t.valid = (areB t.frm t.frm.length && (areB t.stay t.frm.length && areB t.light t.frm.length))) := by
              rw [Hid,HV.out,List.all_append,HL.out,HD.out]
              simp [H6.out.1,H6.out.2]
            go_wp2_with fail
            refine (rspans78 HT.out.frm HB.out.2.2.2.frm t.frm.length).mono ?_
            rintro e w3 ⟨rfl,hb3⟩
            have HB3 := Lib.hid (HB2.out.trans (hb3.mono HB2.out.size))
            have HBW3 := Lib.hid (HB.out.1.trans (HB3.out.mono HB.out.1.size))
            clear k0 k1 k2 k3 k4 hb3
            obtain ⟨k0,k1,k2,k3,k4⟩ := tr_cells ((HB3.out.block _ (heap_lt HB.out.2.1)).trans HB.out.2.1)
            have HS2 := Lib.hid (rspans78 (cap := A.cs) (HB.out.2.2.1.mono HB3.out).stay HB.out.2.2.2.stay t.frm.length)
            cases hA : areB t.frm t.frm.length
            · have HW2 : Hid (t.valid = false) := by rw [Hid,HW.out,hA]; rfl
              clear hA
              go_wp2_with fail
              all_goals try refine ⟨fun _ _ => trivial,?_⟩
              all_goals try go_wp2_with fail
              all_goals try refine ⟨fun _ _ => trivial,?_⟩
              all_goals try go_wp2_with fail
              go_ret
              exact ⟨ret_bool (by rw [HW2.out]),HBW3.out⟩
            · have HW2 : Hid (t.valid = (areB t.stay t.frm.length && areB t.light t.frm.length)) := by rw [Hid,HW.out,hA]; rfl
              clear hA
              go_wp2_with fail
              refine HS2.out.mono ?_
              rintro e w4 ⟨rfl,hb4⟩
              have HB4 := Lib.hid (HB3.out.trans (hb4.mono HB3.out.size))
              have HBW4 := Lib.hid (HB.out.1.trans (HB4.out.mono HB.out.1.size))
              clear k0 k1 k2 k3 k4 hb4
              obtain ⟨k0,k1,k2,k3,k4⟩ := tr_cells ((HB4.out.block _ (heap_lt HB.out.2.1)).trans HB.out.2.1)
              have HS3 := Lib.hid (rspans78 (cap := A.cl) (HB.out.2.2.1.mono HB4.out).light HB.out.2.2.2.light t.frm.length)
              cases hA : areB t.stay t.frm.length
              · have HW3 : Hid (t.valid = false) := by rw [Hid,HW2.out,hA]; rfl
                clear hA
                go_wp2_with fail
                all_goals try refine ⟨fun _ _ => trivial,?_⟩
                all_goals try go_wp2_with fail
                go_ret
                exact ⟨ret_bool (by rw [HW3.out]),HBW4.out⟩
              · have HW3 : Hid (t.valid = areB t.light t.frm.length) := by rw [Hid,HW2.out,hA]; rfl
                clear hA
                go_wp2_with fail
                refine HS3.out.mono ?_
                rintro e w5 ⟨rfl,hb5⟩
                have HBW5 := Lib.hid (HBW4.out.trans (hb5.mono HBW4.out.size))
                clear hb5
                go_wp2_with fail
                go_ret
                exact ⟨ret_bool (by rw [HW3.out]),HBW5.out⟩
    · have hbw : ((t.ways.length : Int) != (t.frm.length : Int)) = true := by simp; omega
      have H6 := Lib.hid hw
      go_wp2_with fail
      go_ret
      exact ⟨ret_bool (by rw [HV.out]; simp [H6.out]),HB.out.1⟩
  · have hd6 : decide (6 < (t.frm.length : Int)) = true := by simp; omega
    have H6 := Lib.hid h6
    go_wp2_with fail
    go_ret
    exact ⟨ret_bool (by rw [HV.out]; simp [H6.out]),HB.out.1⟩
end Go.Proofs.Ytphefhpmbahagaa

namespace Go.Proofs.Ytphefhpmbahagaa
open Go.RowKit
set_option linter.unusedVariables false
set_option linter.unusedSimpArgs false

theorem rcheck50 {t : Tr} {A : TrA} {w : World} (ha : IsTr w t A) (hs : t.Small) (ok : Bool) :
    Calls Try.prog 50 #[t.v A,.bool ok] w fun e w' => e = .returned (.int .i64 (openE t ok)) ∧ Below w.heap.size w w' := by
  have hb : Below w.heap.size w (w.alloc (.cells (t.cells A) 25)) := (Below.refl _ w).alloc (Nat.le_refl _) _
  have hq := World.alloc_heap_new w (.cells (t.cells A) 25)
  have HE : Hid (openE t ok = if !t.valid then 1 else if !ok then 2 else 0) := rfl
  have HB := Lib.hid (And.intro hb (And.intro hq (And.intro (ha.mono hb) hs)))
  clear hb hq ha hs
  go_enter Try.func50,Try.ntmps50
  go_upto_region 1 with fail
  revert HB
  generalize (w.alloc (.cells (t.cells A) 25)) = w1
  intro HB
  obtain ⟨k0,k1,k2,k3,k4⟩ := tr_cells HB.out.2.1
  have HC := Lib.hid (rtour33 HB.out.2.2.1 HB.out.2.2.2)
  go_wp2_with fail
  refine HC.out.mono ?_
  rintro e w2 ⟨rfl,hb2⟩
  have HB2 := Lib.hid (HB.out.1.trans (hb2.mono HB.out.1.size))
  clear k0 k1 k2 k3 k4 hb2
  cases hv : t.valid
  · rw [hv] at HE
    clear hv
    go_wp2_with fail
    go_ret
    exact ⟨ret_int (by rw [HE.out]; rfl),HB2.out⟩
  · rw [hv] at HE
    clear hv
    cases ok
    · go_wp2_with fail
      go_ret
      exact ⟨ret_int (by rw [HE.out]; rfl),HB2.out⟩
    · go_wp2_with fail
      go_ret
      exact ⟨ret_int (by rw [HE.out]; rfl),HB2.out⟩
end Go.Proofs.Ytphefhpmbahagaa

namespace Go.Proofs.Ytphefhpmbahagaa
open Go.RowKit
set_option linter.unusedVariables false
set_option linter.unusedSimpArgs false

set_option maxRecDepth 100000 in
set_option maxHeartbeats 4000000 in
theorem rorder34 {t : Tr} {A : TrA} {w : World} (ht : IsTr w t A) (hn : t.frm.length ≤ 16) {o : List Int} (hl : o.length ≤ 16) {a : Option Addr} {cap : Nat} (ha : IsInts w a o) :
    Calls Try.prog 34 #[t.v A,.slice a o.length cap] w fun e w' => e = .returned (.bool (t.order o)) ∧ Below w.heap.size w w' := by
  have hb : Below w.heap.size w (w.alloc (.cells (t.cells A) 25)) := (Below.refl _ w).alloc (Nat.le_refl _) _
  have hq := World.alloc_heap_new w (.cells (t.cells A) 25)
  have HB := Lib.hid (And.intro hb (And.intro hq (ha.mono hb)))
  have y1 : IntKind.i64.wrap ((t.frm.length : Int) - 1) = (t.frm.length : Int) - 1 := IntWalk.i64_in _ (by omega)
  clear hb hq ha ht
  go_enter Try.func34,Try.ntmps34
  go_upto_region 1 with fail
  revert HB
  generalize (w.alloc (.cells (t.cells A) 25)) = w1
  intro HB
  go_wp2_with fail
  go_loopw [5] (fun i wr => ∃ k : Nat,k ≤ o.length ∧ i = .int .i64 k ∧ Hid (t.order (o.take k) = true) ∧ Hid (Below w1.heap.size w1 wr)) (fun i _ => o.length - (intOf i).toNat)
  case atStart => exact ⟨0,by omega,rfl,rfl,Below.refl _ _⟩
  case round =>
    obtain ⟨k,hk,rfl,HO,HB2⟩ := hrel
    have HBW := Lib.hid (HB.out.1.trans (HB2.out.mono HB.out.1.size))
    by_cases hlt : k < o.length
    · obtain ⟨b,off,haa,hc⟩ := (HB.out.2.2.mono HB2.out) k hlt
      subst haa
      have HST := Lib.hid (order_step t hlt)
      have HCUT : Hid (t.order (o.take (k + 1)) = false → t.order o = false) := fun h => order_cut t h
      obtain ⟨_,k1,_,_,_⟩ := tr_cells ((HB2.out.block _ (heap_lt HB.out.2.1)).trans HB.out.2.1)
      have y0 := fun y : Aft wr.heap.size wr => cell_stays y.h hc
      have z0 := fun y : Aft wr.heap.size wr => cell_stays y.h k1
      have C1 := Lib.hid (fun y : Aft wr.heap.size wr => rin77 (gi o k) 0 ((t.frm.length : Int) - 1) y.v)
      have hvd : t.view (gi o k) = inR (gi o k) 0 ((t.frm.length : Int) - 1) := rfl
      rw [← hvd] at C1
      clear hvd hc k1
      go_upto_region 4 with fail
      cases hv : t.view (gi o k)
      · rw [hv] at C1
        have HF : Hid (t.order o = false) := HCUT.out (by rw [HST.out,hv]; simp)
        clear hv
        refine wp_region_aft mixed (by kernel_rfl) ?_
        repeat (go_big_quiet_step ((go_at_call 77; exact calls_aft_same (C1.out _))))
        refine wpQuiet_nil ?_
        rintro _ ⟨z,rfl⟩
        have HZ := Lib.hid (HBW.out.trans (z.h.mono HBW.out.size))
        go_wp2_with fail
        go_ret
        exact ⟨ret_bool (by rw [HF.out]),HZ.out⟩
      · rw [hv] at C1
        have HV := Lib.hid hv
        clear hv
        refine wp_region_aft mixed (by kernel_rfl) ?_
        repeat (go_big_quiet_step ((go_at_call 77; exact calls_aft_same (C1.out _))))
        refine wpQuiet_nil ?_
        rintro _ ⟨z,rfl⟩
        have HZ := Lib.hid (HB2.out.trans (z.h.mono HB2.out.size))
        clear y0 z0 C1
        go_wp2_with fail
        go_loopw [6] (fun i wr => ∃ j : Nat,j ≤ k ∧ i = .int .i64 j ∧ Hid (∀ q,q < j → gi o q ≠ gi o k) ∧ Hid (Below w1.heap.size w1 wr)) (fun i _ => k - (intOf i).toNat)
        case atStart => exact ⟨0,by omega,rfl,fun q hq => by omega,HZ.out⟩
        case round =>
          obtain ⟨j,hj,rfl,HN,HB3⟩ := hrel
          have HBW3 := Lib.hid (HB.out.1.trans (HB3.out.mono HB.out.1.size))
          by_cases hjk : j < k
          · obtain ⟨b1,off1,e1,hc1⟩ := (HB.out.2.2.mono HB3.out) j (by omega)
            obtain ⟨b2,off2,e2,hc2⟩ := (HB.out.2.2.mono HB3.out) k hlt
            cases e1
            cases e2
            have y0 := fun y : Aft wr.heap.size wr => cell_stays y.h hc1
            have y1' := fun y : Aft wr.heap.size wr => cell_stays y.h hc2
            have hjl : j < o.length := by omega
            clear hc1 hc2
            go_upto_region 9 with fail
            by_cases he : gi o j = gi o k
            · have hbe : (gi o j == gi o k) = true := by simpa using he
              have HF : Hid (t.order o = false) := HCUT.out (by
                rw [HST.out]
                have hmem : gi o k ∈ o.take k := by
                  rw [← he]
                  exact List.mem_of_getElem? (i := j) (by rw [List.getElem?_take_of_lt hjk]; simp [gi,hjl])
                simp [hmem])
              clear he
              refine wp_region_aft mixed (by kernel_rfl) ?_
              repeat (go_big_quiet_step (fail))
              refine wpQuiet_nil ?_
              rintro _ ⟨z3,rfl⟩
              have HZ3 := Lib.hid (HBW3.out.trans (z3.h.mono HBW3.out.size))
              go_wp2_with fail
              go_ret
              exact ⟨ret_bool (by rw [HF.out]),HZ3.out⟩
            · have hbe : (gi o j == gi o k) = false := by simpa using he
              have HE := Lib.hid he
              clear he
              refine wp_region_aft mixed (by kernel_rfl) ?_
              repeat (go_big_quiet_step (fail))
              refine wpQuiet_nil ?_
              rintro _ ⟨z3,rfl⟩
              have HZ3 := Lib.hid (HB3.out.trans (z3.h.mono HB3.out.size))
              go_wp2_with fail
              go_roundw
              case rel => exact ⟨j + 1,by omega,by go_num,fun q hq => by
                by_cases e : q = j
                · subst e; exact HE.out
                · exact HN.out q (by omega),HZ3.out⟩
              case measure => simp [intOf]; omega
          · obtain rfl : j = k := by omega
            have HO2 : Hid (t.order (o.take (j + 1)) = true) := by
              rw [Hid,HST.out,HO.out,HV.out]
              have hnm : gi o j ∉ o.take j := fun h => by
                obtain ⟨q,hq⟩ := List.getElem?_of_mem h
                have hqj : q < j := by
                  have := (List.getElem?_eq_some_iff.1 hq).1
                  simp at this; omega
                rw [List.getElem?_take_of_lt hqj] at hq
                exact HN.out q hqj (by simp [gi,hq])
              simp [hnm]
            go_wp2_with fail
            go_roundw
            case rel => exact ⟨j + 1,by omega,by go_num,HO2.out,HB3.out⟩
            case measure => simp [intOf]; omega
    · obtain rfl : k = o.length := by omega
      rw [List.take_length] at HO
      go_wp2_with fail
      go_ret
      exact ⟨ret_bool (by rw [HO.out]),HBW.out⟩
end Go.Proofs.Ytphefhpmbahagaa

namespace Go.Proofs.Ytphefhpmbahagaa
open Go.RowKit
set_option linter.unusedVariables false
set_option linter.unusedSimpArgs false

/-- Whether each time is in its view's light. -/
def Tr.inL (t : Tr) (o ts : List Int) (k : Nat) : Bool := (List.range k).all fun i => decide (gi ts i ≤ (gs t.light (gi o i).toNat).hi)
theorem inL_succ (t : Tr) (o ts : List Int) (k : Nat) : t.inL o ts (k + 1) = (t.inL o ts k && decide (gi ts k ≤ (gs t.light (gi o k).toNat).hi)) := by
  simp [Tr.inL,List.range_succ,List.all_append]
theorem inL_cut {t : Tr} {o ts : List Int} {k n : Nat} (hk : k < n) (h : decide (gi ts k ≤ (gs t.light (gi o k).toNat).hi) = false) : t.inL o ts n = false := by
  rw [Tr.inL,List.all_eq_false]
  exact ⟨k,by simp [hk],by simpa using h⟩
set_option maxRecDepth 100000 in
set_option maxHeartbeats 4000000 in
theorem rin80 {t : Tr} {A : TrA} {w : World} (ht : IsTr w t A) (hF : t.Fit) {o ts : List Int} (hl : o.length ≤ 16) (ho : ∀ x ∈ o,t.view x = true) (hts : ts.length = o.length) {a b : Option Addr} {cap cb : Nat} (ha : IsInts w a o) (hb : IsInts w b ts) :
    Calls Try.prog 80 #[t.v A,.slice a o.length cap,.slice b ts.length cb] w fun e w' => e = .returned (.bool (t.inL o ts o.length)) ∧ Below w.heap.size w w' := by
  have hbw : Below w.heap.size w (w.alloc (.cells (t.cells A) 25)) := (Below.refl _ w).alloc (Nat.le_refl _) _
  have hq := World.alloc_heap_new w (.cells (t.cells A) 25)
  have HB := Lib.hid (And.intro hbw (And.intro hq (And.intro (ha.mono hbw) (And.intro (hb.mono hbw) (ht.mono hbw)))))
  have HF := Lib.hid (And.intro hF ho)
  have hn := hF.n
  have hlc := hF.light
  clear hbw hq ha hb ht hF ho
  go_enter Try.func80,Try.ntmps80
  go_upto_region 1 with fail
  revert HB
  generalize (w.alloc (.cells (t.cells A) 25)) = w1
  intro HB
  go_wp2_with fail
  go_loopw [7] (fun i wr => ∃ k : Nat,k ≤ o.length ∧ i = .int .i64 k ∧ Hid (t.inL o ts k = true) ∧ Hid (Below w1.heap.size w1 wr)) (fun i _ => o.length - (intOf i).toNat)
  case atStart => exact ⟨0,by omega,rfl,rfl,Below.refl _ _⟩
  case round =>
    obtain ⟨k,hk,rfl,HO,HB2⟩ := hrel
    have HBW := Lib.hid (HB.out.1.trans (HB2.out.mono HB.out.1.size))
    by_cases hlt : k < o.length
    · obtain ⟨ab,ao,haa,hca⟩ := (HB.out.2.2.1.mono HB2.out) k hlt
      obtain ⟨bb,bo,hbb,hcb⟩ := (HB.out.2.2.2.1.mono HB2.out) k (by omega)
      subst haa
      subst hbb
      obtain ⟨v,hv,hvn⟩ := view_nat (HF.out.2 _ (gi_mem' hlt))
      obtain ⟨lb,lo,le,c0,c1⟩ := (HB.out.2.2.2.2.mono HB2.out).light v (by omega)
      obtain ⟨_,_,_,_,k4⟩ := tr_cells ((HB2.out.block _ (heap_lt HB.out.2.1)).trans HB.out.2.1)
      rw [le] at k4
      have HST := Lib.hid (inL_succ t o ts k)
      have HCUT : Hid (decide (gi ts k ≤ (gs t.light (gi o k).toNat).hi) = false → t.inL o ts o.length = false) := fun h => inL_cut hlt h
      rw [hv] at hca HST HCUT
      rw [Int.toNat_natCast] at HST HCUT
      have hvl : v < t.light.length := by omega
      have hkt : k < ts.length := by omega
      have y0 := fun y : Aft wr.heap.size wr => cell_stays y.h hca
      have y1 := fun y : Aft wr.heap.size wr => cell_stays y.h hcb
      have y2 := fun y : Aft wr.heap.size wr => cell_stays y.h c1
      have y3 := fun y : Aft wr.heap.size wr => cell_stays y.h k4
      clear hca hcb c0 c1 k4 hv
      go_upto_region 4 with fail
      cases hd : decide (gi ts k ≤ (gs t.light v).hi)
      · have HX := Lib.hid (HCUT.out hd)
        have hd2 : decide ((gs t.light v).hi < gi ts k) = true := by simp at hd ⊢; omega
        clear hd
        refine wp_region_aft mixed (by kernel_rfl) ?_
        repeat (go_big_quiet_step (fail))
        refine wpQuiet_nil ?_
        rintro _ ⟨z,rfl⟩
        have HZ := Lib.hid (HBW.out.trans (z.h.mono HBW.out.size))
        go_wp2_with fail
        go_ret
        exact ⟨ret_bool (by rw [HX.out]),HZ.out⟩
      · have HX : Hid (t.inL o ts (k + 1) = true) := by rw [Hid,HST.out,HO.out,hd]; rfl
        have hd2 : decide ((gs t.light v).hi < gi ts k) = false := by simp at hd ⊢; omega
        clear hd
        refine wp_region_aft mixed (by kernel_rfl) ?_
        repeat (go_big_quiet_step (fail))
        refine wpQuiet_nil ?_
        rintro _ ⟨z,rfl⟩
        have HZ := Lib.hid (HB2.out.trans (z.h.mono HB2.out.size))
        go_wp2_with fail
        go_roundw
        case rel => exact ⟨k + 1,by omega,by go_num,HX.out,HZ.out⟩
        case measure => simp [intOf]; omega
    · obtain rfl : k = o.length := by omega
      go_wp2_with fail
      go_ret
      exact ⟨ret_bool (by rw [HO.out]),HBW.out⟩
end Go.Proofs.Ytphefhpmbahagaa

