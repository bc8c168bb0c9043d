/- The reference: Order. -/
import Derived.Test.YtphefhpmbahagaaT22
namespace Go.Proofs.Ytphefhpmbahagaa
open Go.RowKit
set_option linter.unusedVariables false
set_option linter.unusedSimpArgs false

set_option maxRecDepth 100000 in
set_option maxHeartbeats 4000000 in
theorem rorder34 {t : Tr} {A : TrA} {w : World} (ht : IsTr w t A) (hn : t.frm.length ≤ 16) {o : List Int} (hl : o.length ≤ 16) {a : Option Addr} {cap : Nat} (ha : IsInts w a o) :
    Calls Try.prog 34 #[t.v A, .slice a o.length cap] w fun e w' => e = .returned (.bool (t.order o)) ∧ Below w.heap.size w w' := by
  have hb : Below w.heap.size w (w.alloc (.cells (t.cells A) 25)) := (Below.refl _ w).alloc (Nat.le_refl _) _
  have hq := World.alloc_heap_new w (.cells (t.cells A) 25)
  have HB := Lib.hid (And.intro hb (And.intro hq (ha.mono hb)))
  have y1 : IntKind.i64.wrap ((t.frm.length : Int) - 1) = (t.frm.length : Int) - 1 := IntWalk.i64_in _ (by omega)
  clear hb hq ha ht
  go_enter Try.func34, Try.ntmps34
  go_upto_region 1 with fail
  revert HB
  generalize (w.alloc (.cells (t.cells A) 25)) = w1
  intro HB
  go_wp2_with fail
  go_loopw [5] (fun i wr => ∃ k : Nat, k ≤ o.length ∧ i = .int .i64 k ∧ Hid (t.order (o.take k) = true) ∧ Hid (Below w1.heap.size w1 wr)) (fun i _ => o.length - (intOf i).toNat)
  case atStart => exact ⟨0, by omega, rfl, rfl, Below.refl _ _⟩
  case round =>
    obtain ⟨k, hk, rfl, HO, HB2⟩ := hrel
    have HBW := Lib.hid (HB.out.1.trans (HB2.out.mono HB.out.1.size))
    by_cases hlt : k < o.length
    · obtain ⟨b, off, haa, hc⟩ := (HB.out.2.2.mono HB2.out) k hlt
      subst haa
      have HST := Lib.hid (order_step t hlt)
      have HCUT : Hid (t.order (o.take (k + 1)) = false → t.order o = false) := fun h => order_cut t h
      obtain ⟨_, k1, _, _, _⟩ := tr_cells ((HB2.out.block _ (heap_lt HB.out.2.1)).trans HB.out.2.1)
      have y0 := fun y : Aft wr.heap.size wr => cell_stays y.h hc
      have z0 := fun y : Aft wr.heap.size wr => cell_stays y.h k1
      have C1 := Lib.hid (fun y : Aft wr.heap.size wr => rin77 (gi o k) 0 ((t.frm.length : Int) - 1) y.v)
      have hvd : t.view (gi o k) = inR (gi o k) 0 ((t.frm.length : Int) - 1) := rfl
      rw [← hvd] at C1
      clear hvd hc k1
      go_upto_region 4 with fail
      cases hv : t.view (gi o k)
      · rw [hv] at C1
        have HF : Hid (t.order o = false) := HCUT.out (by rw [HST.out, hv]; simp)
        clear hv
        refine wp_region_aft mixed (by kernel_rfl) ?_
        repeat (go_big_quiet_step ((go_at_call 77; exact calls_aft_same (C1.out _))))
        refine wpQuiet_nil ?_
        rintro _ ⟨z, rfl⟩
        have HZ := Lib.hid (HBW.out.trans (z.h.mono HBW.out.size))
        go_wp2_with fail
        go_ret
        exact ⟨ret_bool (by rw [HF.out]), HZ.out⟩
      · rw [hv] at C1
        have HV := Lib.hid hv
        clear hv
        refine wp_region_aft mixed (by kernel_rfl) ?_
        repeat (go_big_quiet_step ((go_at_call 77; exact calls_aft_same (C1.out _))))
        refine wpQuiet_nil ?_
        rintro _ ⟨z, rfl⟩
        have HZ := Lib.hid (HB2.out.trans (z.h.mono HB2.out.size))
        clear y0 z0 C1
        go_wp2_with fail
        go_loopw [6] (fun i wr => ∃ j : Nat, j ≤ k ∧ i = .int .i64 j ∧ Hid (∀ q, q < j → gi o q ≠ gi o k) ∧ Hid (Below w1.heap.size w1 wr)) (fun i _ => k - (intOf i).toNat)
        case atStart => exact ⟨0, by omega, rfl, fun q hq => by omega, HZ.out⟩
        case round =>
          obtain ⟨j, hj, rfl, HN, HB3⟩ := hrel
          have HBW3 := Lib.hid (HB.out.1.trans (HB3.out.mono HB.out.1.size))
          by_cases hjk : j < k
          · obtain ⟨b1, off1, e1, hc1⟩ := (HB.out.2.2.mono HB3.out) j (by omega)
            obtain ⟨b2, off2, e2, hc2⟩ := (HB.out.2.2.mono HB3.out) k hlt
            cases e1
            cases e2
            have y0 := fun y : Aft wr.heap.size wr => cell_stays y.h hc1
            have y1' := fun y : Aft wr.heap.size wr => cell_stays y.h hc2
            have hjl : j < o.length := by omega
            clear hc1 hc2
            go_upto_region 9 with fail
            by_cases he : gi o j = gi o k
            · have hbe : (gi o j == gi o k) = true := by simpa using he
              have HF : Hid (t.order o = false) := HCUT.out (by
                rw [HST.out]
                have hmem : gi o k ∈ o.take k := by
                  rw [← he]
                  exact List.mem_of_getElem? (i := j) (by rw [List.getElem?_take_of_lt hjk]; simp [gi, hjl])
                simp [hmem])
              clear he
              refine wp_region_aft mixed (by kernel_rfl) ?_
              repeat (go_big_quiet_step (fail))
              refine wpQuiet_nil ?_
              rintro _ ⟨z3, rfl⟩
              have HZ3 := Lib.hid (HBW3.out.trans (z3.h.mono HBW3.out.size))
              go_wp2_with fail
              go_ret
              exact ⟨ret_bool (by rw [HF.out]), HZ3.out⟩
            · have hbe : (gi o j == gi o k) = false := by simpa using he
              have HE := Lib.hid he
              clear he
              refine wp_region_aft mixed (by kernel_rfl) ?_
              repeat (go_big_quiet_step (fail))
              refine wpQuiet_nil ?_
              rintro _ ⟨z3, rfl⟩
              have HZ3 := Lib.hid (HB3.out.trans (z3.h.mono HB3.out.size))
              go_wp2_with fail
              go_roundw
              case rel => exact ⟨j + 1, by omega, by go_num, fun q hq => by
                by_cases e : q = j
                · subst e; exact HE.out
                · exact HN.out q (by omega), HZ3.out⟩
              case measure => simp [intOf]; omega
          · obtain rfl : j = k := by omega
            have HO2 : Hid (t.order (o.take (j + 1)) = true) := by
              rw [Hid, HST.out, HO.out, HV.out]
              have hnm : gi o j ∉ o.take j := fun h => by
                obtain ⟨q, hq⟩ := List.getElem?_of_mem h
                have hqj : q < j := by
                  have := (List.getElem?_eq_some_iff.1 hq).1
                  simp at this; omega
                rw [List.getElem?_take_of_lt hqj] at hq
                exact HN.out q hqj (by simp [gi, hq])
              simp [hnm]
            go_wp2_with fail
            go_roundw
            case rel => exact ⟨j + 1, by omega, by go_num, HO2.out, HB3.out⟩
            case measure => simp [intOf]; omega
    · obtain rfl : k = o.length := by omega
      rw [List.take_length] at HO
      go_wp2_with fail
      go_ret
      exact ⟨ret_bool (by rw [HO.out]), HBW.out⟩
end Go.Proofs.Ytphefhpmbahagaa
