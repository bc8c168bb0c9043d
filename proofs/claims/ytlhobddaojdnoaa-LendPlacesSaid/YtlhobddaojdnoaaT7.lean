/- The reference: Check; Wrongs. -/
import Derived.Test.YtlhobddaojdnoaaT6
namespace Go.Proofs.Ytlhobddaojdnoaa
open Go.RowKit
set_option linter.unusedVariables false

def cut (c : Cab) (n : Nat) (W : Int) : Cab := { c with loans := c.loans.take n, wrong := W }
theorem cut_truths (c : Cab) (n : Nat) (W : Int) : truths (cut c n W) = truthsBy c anyRule (c.loans.take n) W := truthsBy_congr (c := cut c n W) (d := c) rfl rfl _ _ _
theorem loans_take {w : World} {al : Option Addr} {ls : List Ln} (h : IsLoans w al ls) (n : Nat) : IsLoans w al (ls.take n) := fun i hi => by
  have hi' : i < ls.length ∧ i < n := by simp at hi; omega
  have e : gl (ls.take n) i = gl ls i := by simp [gl, hi'.1, hi'.2]
  rw [e]
  exact h i hi'.1
theorem all_cut {c : Cab} {ah : Option Addr} {ch : Nat} {al : Option Addr} {cl : Nat} {w : World} (hg : Given w c ah ch al cl) (hv : c.valid = true) (hb : backN c.loans ≤ 4) (n : Nat) (hn : n ≤ c.loans.length) (W : Int) :
    Calls Try.prog 39 #[.agg #[.int .i64 c.slots, .slice ah c.homes.length ch, .int .i64 W, .slice al n cl]] w (AllPost (cut c n W) w) := by
  obtain ⟨v1, v2, v3, v4, v5, v6⟩ := valid_parts hv
  have e : (c.loans.take n).length = n := by rw [List.length_take]; omega
  have h := allR_any (c := cut c n W) (ah := ah) (ch := ch) (al := al) (cl := cl) (w := w) hg.hi (loans_take hg.li n) (fun l hl => v4 l (List.mem_of_mem_take hl)) v3 v1 (by show (c.loans.take n).length ≤ 12; omega) (Nat.le_trans (backN_take c.loans n) hb)
  have hv' : (cut c n W).v ah ch al cl = .agg #[.int .i64 c.slots, .slice ah c.homes.length ch, .int .i64 W, .slice al n cl] := by
    show (Value.agg #[.int .i64 c.slots, .slice ah c.homes.length ch, .int .i64 W, .slice al (c.loans.take n).length cl]) = _
    rw [e]
  rw [hv'] at h
  exact h
theorem check_round {c : Cab} {k : Nat} (hk : k < c.loans.length) : checkFrom c (c.loans.length - k) k = if (truths (cut c (k + 1) c.wrong)).isEmpty then ((k : Int), 0) else checkFrom c (c.loans.length - (k + 1)) (k + 1) := by
  obtain ⟨d, hd⟩ : ∃ d, c.loans.length - k = d + 1 := ⟨c.loans.length - k - 1, by omega⟩
  rw [hd, show c.loans.length - (k + 1) = d by omega, cut_truths]
  rfl
set_option maxRecDepth 100000 in
set_option maxHeartbeats 2000000 in
theorem rcheck_any {c : Cab} {ah : Option Addr} {ch : Nat} {al : Option Addr} {cl : Nat} {w : World} (hg : Given w c ah ch al cl) (hb : c.valid = true → backN c.loans ≤ 4) :
    Calls Try.prog 16 #[c.v ah ch al cl] w fun e w' => e = .returned (.tuple #[.int .i64 (check c).1, .int .i64 (check c).2]) ∧ Below w.heap.size w w' := by
  have hb1 : Below w.heap.size w (w.alloc (.cells (c.cells ah ch al cl) 25)) := (Below.refl _ w).alloc (Nat.le_refl _) _
  have hg1 := hg.mono hb1
  have HB1 := Lib.hid hb1
  cases hv : c.valid with
  | false =>
    have hE : Hid (check c = (0, 1)) := by unfold Hid check; simp [hv]
    have HV := Lib.hid hv
    clear hv hb hb1
    go_enter Try.func16, Try.ntmps16
    go_wp2_with fail
    refine (refCab_any hg1.hi hg1.li hg1.hh hg1.hl).mono ?_
    rintro e w2 ⟨rfl, hb2⟩
    rw [HV.out]
    go_wp2_with fail
    go_ret2
    exact ⟨by rw [hE.out]; rfl, bst HB1.out hb2⟩
  | true =>
    have HV := Lib.hid hv
    have hbk := hb hv
    have hC : Hid (check c = checkFrom c (c.loans.length - 0) 0) := by unfold Hid check; simp [hv]
    have HG1 := Lib.hid hg1
    have hll : c.loans.length ≤ 30 := hg1.hl
    have hcl : c.loans.length ≤ cl := hg1.cl
    clear hv hb hb1
    go_enter Try.func16, Try.ntmps16
    go_wp2_with fail
    refine (refCab_any hg1.hi hg1.li hg1.hh hg1.hl).mono ?_
    rintro e w2 ⟨rfl, hb2⟩
    rw [HV.out]
    have hA : w2.heap[w.heap.size]? = some (.cells (c.cells ah ch al cl) 25 (0, 0)) := (hb2.block _ (by simp)).trans (World.alloc_heap_new _ _)
    have a0 : ∀ o, w2.cell? ⟨w.heap.size, o, none⟩ = (c.cells ah ch al cl)[o]? := fun o => cell_of_heap hA
    have c0 : w2.cell? ⟨w.heap.size, 0, none⟩ = some (.int .i64 c.slots) := a0 0
    have c1 : w2.cell? ⟨w.heap.size, 1, none⟩ = some (.slice ah c.homes.length ch) := a0 1
    have c2 : w2.cell? ⟨w.heap.size, 2, none⟩ = some (.int .i64 c.wrong) := a0 2
    have c3 : w2.cell? ⟨w.heap.size, 3, none⟩ = some (.slice al c.loans.length cl) := a0 3
    have HG2 : Hid (Given w2 c ah ch al cl) := HG1.out.mono hb2
    have HB2 : Hid (Below w.heap.size w w2) := bst HB1.out hb2
    have HM := Lib.hid (And.intro c0 (And.intro c1 (And.intro c2 c3)))
    clear hA a0 hb2 hg1 HG1 HB1 hg c0 c1 c2
    go_wp2_with fail
    go_loopw [4] (fun i wr => ∃ k : Nat, k ≤ c.loans.length ∧ i = .int .i64 k ∧ Hid (check c = checkFrom c (c.loans.length - k) k) ∧ Below w2.heap.size w2 wr) (fun i _ => c.loans.length - (intOf i).toNat)
    case atStart => exact ⟨0, by omega, rfl, hC, Below.refl _ _⟩
    case round =>
      obtain ⟨k, hk, rfl, HK, hbr⟩ := hrel
      obtain ⟨c0, c1, c2, c3⟩ := HM.out
      have c0 := cell_stays hbr c0
      have c1 := cell_stays hbr c1
      have c2 := cell_stays hbr c2
      have c3 := cell_stays hbr c3
      have hlt3 := lt_of_cell c3
      by_cases hlt : k < c.loans.length
      · have HR := Lib.hid (check_round hlt)
        have HT := Lib.hid (all_cut (HG2.out.mono (hbr.trans ((Below.refl _ wr).alloc hbr.size (.cells #[.int .i64 c.slots, .slice ah c.homes.length ch, .int .i64 c.wrong, .slice al (k + 1) cl] 25)))) HV.out hbk (k + 1) hlt c.wrong)
        have HA := Lib.hid ((Below.refl wr.heap.size wr).alloc (Nat.le_refl _) (.cells #[.int .i64 c.slots, .slice ah c.homes.length ch, .int .i64 c.wrong, .slice al (k + 1) cl] 25))
        obtain ⟨T, hT⟩ : ∃ T, truths (cut c (k + 1) c.wrong) = T := ⟨_, rfl⟩
        have HTT := Lib.hid hT
        cases T with
        | nil =>
          clear hT
          go_wp2_with fail
          refine HT.out.mono ?_
          rintro e w3 ⟨v, rfl, hO, hb3⟩
          rw [HTT.out] at hO
          obtain ⟨a, cap, rfl, _⟩ := hO.slice
          go_wp2_with fail
          go_ret2
          refine ⟨?_, HB2.out.trans ((hbr.trans ((bst HA.out hb3).mono hbr.size)).mono HB2.out.size)⟩
          rw [HK.out, HR.out, HTT.out]; rfl
        | cons t0 T =>
          have hTl : Hid ((truths (cut c (k + 1) c.wrong)).length = T.length + 1) := by rw [Hid, hT]; rfl
          clear hT
          go_wp2_with fail
          refine HT.out.mono ?_
          rintro e w3 ⟨v, rfl, hO, hb3⟩
          obtain ⟨a, cap, rfl, _⟩ := hO.slice
          have hn0 : (((truths (cut c (k + 1) c.wrong)).length : Int) == 0) = false := by rw [hTl.out]; simp; omega
          go_wp2_with fail
          go_roundw
          case rel =>
            refine ⟨k + 1, by omega, by go_num, ?_, hbr.trans ((bst HA.out hb3).mono hbr.size)⟩
            rw [Hid, HK.out, HR.out, HTT.out]; rfl
          case measure => simp [intOf]; omega
      · obtain rfl : k = c.loans.length := by omega
        go_wp2_with fail
        go_ret2
        refine ⟨?_, HB2.out.trans (hbr.mono HB2.out.size)⟩
        rw [HK.out, Nat.sub_self]; rfl

theorem wrongs_first {c : Cab} (hv : c.valid = true) {k : Nat} (hk : k ≤ c.loans.length) (h1 : truths (cut c c.loans.length k) ≠ []) (h0 : ∀ j, j < k → truths (cut c c.loans.length j) = []) : wrongsE c = ((k : Int), 0) := by
  rw [cut_truths, List.take_length] at h1
  obtain ⟨h2, h3⟩ := ne_of.1 h1
  rw [wrongsE_yes hv h2]
  have : leastN c = k := by
    rcases Nat.lt_or_ge (leastN c) k with h | h
    · have := h0 _ h
      rw [cut_truths, List.take_length] at this
      exact absurd this (ne_of.2 ⟨h2, Int.le_refl _⟩)
    · omega
  rw [this]
theorem wrongs_last {c : Cab} (hv : c.valid = true) (h0 : ∀ j, j < c.loans.length + 1 → truths (cut c c.loans.length j) = []) : wrongsE c = (0, 4) := by
  refine wrongsE_no hv ?_
  have := h0 c.loans.length (by omega)
  rw [cut_truths, List.take_length] at this
  exact this
set_option maxRecDepth 100000 in
set_option maxHeartbeats 2000000 in
theorem rwrongsE_any {c : Cab} {ah : Option Addr} {ch : Nat} {al : Option Addr} {cl : Nat} {w : World} (hg : Given w c ah ch al cl) (hb : c.valid = true → backN c.loans ≤ 4) :
    Calls Try.prog 22 #[c.v ah ch al cl] w fun e w' => e = .returned (.tuple #[.int .i64 (wrongsE c).1, .int .i64 (wrongsE c).2]) ∧ Below w.heap.size w w' := by
  have hb1 : Below w.heap.size w (w.alloc (.cells (c.cells ah ch al cl) 25)) := (Below.refl _ w).alloc (Nat.le_refl _) _
  have hg1 := hg.mono hb1
  have HB1 := Lib.hid hb1
  cases hv : c.valid with
  | false =>
    have hE : Hid (wrongsE c = (0, 1)) := by unfold Hid wrongsE; simp [hv]
    have HV := Lib.hid hv
    clear hv hb hb1
    go_enter Try.func22, Try.ntmps22
    go_wp2_with fail
    refine (refCab_any hg1.hi hg1.li hg1.hh hg1.hl).mono ?_
    rintro e w2 ⟨rfl, hb2⟩
    rw [HV.out]
    go_wp2_with fail
    go_ret2
    exact ⟨by rw [hE.out]; rfl, bst HB1.out hb2⟩
  | true =>
    have HV := Lib.hid hv
    have hbk := hb hv
    have HG1 := Lib.hid hg1
    have hll : c.loans.length ≤ 30 := hg1.hl
    have hcl : c.loans.length ≤ cl := hg1.cl
    clear hv hb hb1
    go_enter Try.func22, Try.ntmps22
    go_wp2_with fail
    refine (refCab_any hg1.hi hg1.li hg1.hh hg1.hl).mono ?_
    rintro e w2 ⟨rfl, hb2⟩
    rw [HV.out]
    have hA : w2.heap[w.heap.size]? = some (.cells (c.cells ah ch al cl) 25 (0, 0)) := (hb2.block _ (by simp)).trans (World.alloc_heap_new _ _)
    have a0 : ∀ o, w2.cell? ⟨w.heap.size, o, none⟩ = (c.cells ah ch al cl)[o]? := fun o => cell_of_heap hA
    have c0 : w2.cell? ⟨w.heap.size, 0, none⟩ = some (.int .i64 c.slots) := a0 0
    have c1 : w2.cell? ⟨w.heap.size, 1, none⟩ = some (.slice ah c.homes.length ch) := a0 1
    have c2 : w2.cell? ⟨w.heap.size, 2, none⟩ = some (.int .i64 c.wrong) := a0 2
    have c3 : w2.cell? ⟨w.heap.size, 3, none⟩ = some (.slice al c.loans.length cl) := a0 3
    have HG2 : Hid (Given w2 c ah ch al cl) := HG1.out.mono hb2
    have HB2 : Hid (Below w.heap.size w w2) := bst HB1.out hb2
    have hlt0 := lt_of_cell c0
    clear hA a0 hb2 hg1 HG1 HB1 hg
    go_wp2_with fail
    have HM := Lib.hid (And.intro c0 (And.intro c1 (And.intro c2 c3)))
    clear c0 c1 c2 c3
    go_loopw [2] (fun _ wr => ∃ k : Nat, k ≤ c.loans.length + 1 ∧ Hid (∀ j, j < k → truths (cut c c.loans.length j) = []) ∧ Hid (wr.heap[w2.heap.size]? = some (.cells #[.int .i64 c.slots, .slice ah c.homes.length ch, .int .i64 k, .slice al c.loans.length cl] 25 (0, 0))) ∧ Below w2.heap.size w2 wr) (fun _ wr => c.loans.length + 1 - (intOf ((wr.cell? ⟨w2.heap.size, 2, none⟩).getD undef)).toNat)
    case atStart =>
      refine ⟨0, by omega, fun j hj => by omega, ?_, (Below.refl _ w2).alloc (Nat.le_refl _) _⟩
      first | exact World.alloc_heap_new w2 _ | (rw [Hid]; exact World.alloc_heap_new w2 _) | skip
    case round =>
      obtain ⟨k, hk, HK, HX, hbr⟩ := hrel
      obtain ⟨c0, c1, c2, c3⟩ := HM.out
      have c3 := cell_stays hbr c3
      have hX := HX.out
      have x0 : wr.cell? ⟨w2.heap.size, 0, none⟩ = some (.int .i64 c.slots) := by rw [cell_of_heap hX]; rfl
      have x1 : wr.cell? ⟨w2.heap.size, 1, none⟩ = some (.slice ah c.homes.length ch) := by rw [cell_of_heap hX]; rfl
      have x2 : wr.cell? ⟨w2.heap.size, 2, none⟩ = some (.int .i64 k) := by rw [cell_of_heap hX]; rfl
      have x3 : wr.cell? ⟨w2.heap.size, 3, none⟩ = some (.slice al c.loans.length cl) := by rw [cell_of_heap hX]; rfl
      have f2 : wr.frozen? ⟨w2.heap.size, 2, none⟩ = false := frozen_of_heap hX
      have hlt2 := lt_of_cell x2
      clear hX c0 c1 c2
      by_cases hlt : k ≤ c.loans.length
      · have HT := Lib.hid (all_cut (HG2.out.mono hbr) HV.out hbk c.loans.length (Nat.le_refl _) k)
        obtain ⟨T, hT⟩ : ∃ T, truths (cut c c.loans.length k) = T := ⟨_, rfl⟩
        have HTT := Lib.hid hT
        cases T with
        | nil =>
          clear hT
          go_wp2_with fail
          refine HT.out.mono ?_
          rintro e w3 ⟨v, rfl, hO, hb3⟩
          rw [HTT.out] at hO
          obtain ⟨a, cap, rfl, _⟩ := hO.slice
          have x2' := cell_stays hb3 x2
          have hf3 : w3.frozen? ⟨w2.heap.size, 2, none⟩ = false := (hb3.frozen (p := ⟨w2.heap.size, 2, none⟩) hlt2).trans f2
          have HX3 : Hid (w3.heap[w2.heap.size]? = _) := (hb3.block _ hlt2).trans HX.out
          go_wp2_with fail
          go_roundw
          case rel =>
            refine ⟨k + 1, by omega, fun j hj => ?_, ?_, (hbr.trans (hb3.mono hbr.size)).setCell (Nat.le_refl _) _⟩
            · by_cases e : j = k
              · subst e; exact HTT.out
              · exact HK.out j (by omega)
            · rw [Hid, heap_setCell_at HX3.out]
              simp
          case measure =>
            rw [World.cell?_setCell_same _ _ _ x2', x2]
            simp [intOf]; omega
        | cons t0 T =>
          have hTl : Hid ((truths (cut c c.loans.length k)).length = T.length + 1) := by rw [Hid, hT]; rfl
          have HW : Hid (wrongsE c = ((k : Int), 0)) := wrongs_first HV.out hlt (by rw [hT]; simp) HK.out
          clear hT
          go_wp2_with fail
          refine HT.out.mono ?_
          rintro e w3 ⟨v, rfl, hO, hb3⟩
          obtain ⟨a, cap, rfl, _⟩ := hO.slice
          have x2' := cell_stays hb3 x2
          have hn0 : 0 < (truths (cut c c.loans.length k)).length := by rw [hTl.out]; omega
          go_wp2_with fail
          go_ret2
          refine ⟨?_, HB2.out.trans ((hbr.trans (hb3.mono hbr.size)).mono HB2.out.size)⟩
          rw [HW.out]; rfl
      · obtain rfl : k = c.loans.length + 1 := by omega
        have HW : Hid (wrongsE c = (0, 4)) := wrongs_last HV.out HK.out
        go_wp2_with fail
        go_ret2
        refine ⟨?_, HB2.out.trans (hbr.mono HB2.out.size)⟩
        rw [HW.out]; rfl
end Go.Proofs.Ytlhobddaojdnoaa
