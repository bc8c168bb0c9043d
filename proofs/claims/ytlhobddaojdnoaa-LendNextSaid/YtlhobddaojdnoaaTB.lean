/- The reference: what is open; Check; Wrongs. The reference: Check; Wrongs. The reference: Where; Slot. -/
import Derived.Test.YtlhobddaojdnoaaTA
namespace Go.Proofs.Ytlhobddaojdnoaa
open Go.RowKit
set_option linter.unusedVariables false

/-- What 'open' comes to. -/
def OpenPost (c : Cab) (ok : Bool) (w : World) (e : Ending) (w' : World) : Prop :=
  ∃ v, e = .returned (.tuple #[v, .int .i64 (openE c ok)]) ∧ (openE c ok = 0 → Outs w' w.heap.size v (truths c)) ∧ Below w.heap.size w w'
theorem Outs.base {w : World} {B B' : Nat} {v : Value} {L : List (List Int × List Bool)} (h : Outs w B v L) (hB : B' ≤ B) : Outs w B' v L := by
  obtain ⟨vs, h1, h2, h3⟩ := h
  exact ⟨vs, h1, own_base h2 hB, fun i x p hx hp => ⟨own_base (h3 i x p hx hp).1 hB, own_base (h3 i x p hx hp).2 hB⟩⟩
theorem all_given {c : Cab} {ah : Option Addr} {ch : Nat} {al : Option Addr} {cl : Nat} {w : World} (hg : Given w c ah ch al cl) (hv : c.valid = true) (hb : backN c.loans ≤ 4) : Calls Try.prog 39 #[c.v ah ch al cl] w (AllPost c w) := by
  obtain ⟨v1, v2, v3, v4, v5, v6⟩ := valid_parts hv
  have hs := valid_slots hv
  exact allR_any hg.hi hg.li v4 hs (valid_homes hv) (valid_loans hv) hb
set_option maxRecDepth 100000 in
set_option maxHeartbeats 1000000 in
theorem ropen_any {c : Cab} {ah : Option Addr} {ch : Nat} {al : Option Addr} {cl : Nat} {w : World} (hg : Given w c ah ch al cl) (hb : c.valid = true → backN c.loans ≤ 4) (ok : Bool) :
    Calls Try.prog 55 #[c.v ah ch al cl, .bool ok] w (OpenPost c ok w) := by
  have hb1 : Below w.heap.size w (w.alloc (.cells (c.cells ah ch al cl) 25)) := (Below.refl _ w).alloc (Nat.le_refl _) _
  have hg1 := hg.mono hb1
  have HB1 := Lib.hid hb1
  cases hv : c.valid with
  | false =>
    have hE : Hid (openE c ok = 1) := by unfold Hid openE; simp [hv]
    have HV := Lib.hid hv
    clear hv hb hb1
    go_enter Try.func55, Try.ntmps55
    go_wp2_with fail
    refine (refCab_any hg1.hi hg1.li hg1.hh hg1.hl).mono ?_
    rintro e w2 ⟨rfl, hb2⟩
    rw [HV.out]
    go_wp2_with fail
    go_ret2
    exact ⟨.slice none 0 0, by rw [hE.out]; rfl, (fun h => by rw [hE.out] at h; cases h), bst HB1.out hb2⟩
  | true =>
    have HV := Lib.hid hv
    cases ok with
    | false =>
      have hE : Hid (openE c false = 2) := by unfold Hid openE; simp [hv]
      clear hv hb hb1
      go_enter Try.func55, Try.ntmps55
      go_wp2_with fail
      refine (refCab_any hg1.hi hg1.li hg1.hh hg1.hl).mono ?_
      rintro e w2 ⟨rfl, hb2⟩
      rw [HV.out]
      go_wp2_with fail
      go_ret2
      exact ⟨.slice none 0 0, by rw [hE.out]; rfl, (fun h => by rw [hE.out] at h; cases h), bst HB1.out hb2⟩
    | true =>
      have hbk := hb hv
      clear hv hb hb1
      obtain ⟨T, hT⟩ : ∃ T, truths c = T := ⟨_, rfl⟩
      have HT := Lib.hid hT
      cases T with
      | nil =>
        have hE : Hid (openE c true = 4) := openE_no HV.out hT
        clear hT
        go_enter Try.func55, Try.ntmps55
        go_wp2_with fail
        refine (refCab_any hg1.hi hg1.li hg1.hh hg1.hl).mono ?_
        rintro e w2 ⟨rfl, hb2⟩
        rw [HV.out]
        obtain ⟨hc2, hf2⟩ := bcell hb2
        go_wp2_with fail
        refine (all_given (hg1.mono hb2) HV.out hbk).mono ?_
        rintro e w3 ⟨v, rfl, hO, hb3⟩
        rw [HT.out] at hO
        obtain ⟨a, cap, rfl, _⟩ := hO.slice
        clear hc2 hf2
        go_wp2_with fail
        go_ret2
        exact ⟨.slice none 0 0, by rw [hE.out]; rfl, (fun h => by rw [hE.out] at h; cases h), bst (bst HB1.out hb2) hb3⟩
      | cons t0 T =>
        have hE : Hid (openE c true = 0) := openE_yes HV.out (by rw [hT]; simp)
        have hTl : Hid ((truths c).length = T.length + 1) := by rw [Hid, hT]; rfl
        clear hT
        go_enter Try.func55, Try.ntmps55
        go_wp2_with fail
        refine (refCab_any hg1.hi hg1.li hg1.hh hg1.hl).mono ?_
        rintro e w2 ⟨rfl, hb2⟩
        rw [HV.out]
        obtain ⟨hc2, hf2⟩ := bcell hb2
        go_wp2_with fail
        refine (all_given (hg1.mono hb2) HV.out hbk).mono ?_
        rintro e w3 ⟨v, rfl, hO, hb3⟩
        obtain ⟨a, cap, rfl, _⟩ := hO.slice
        have HO := Lib.hid hO
        have hn0 : (((truths c).length : Int) == 0) = false := by rw [hTl.out]; simp; omega
        clear hc2 hf2 hO
        go_wp2_with fail
        go_ret2
        have hz := HB1.out.size
        have hz2 := hb2.size
        exact ⟨.slice a (truths c).length cap, by rw [hE.out]; rfl, fun _ => HO.out.base (by omega), bst (bst HB1.out hb2) hb3⟩
end Go.Proofs.Ytlhobddaojdnoaa

namespace Go.Proofs.Ytlhobddaojdnoaa
open Go.RowKit
set_option linter.unusedVariables false

def cut (c : Cab) (n : Nat) (W : Int) : Cab := { c with loans := c.loans.take n, wrong := W }
theorem cut_truths (c : Cab) (n : Nat) (W : Int) : truths (cut c n W) = truthsBy c anyRule (c.loans.take n) W := truthsBy_congr (c := cut c n W) (d := c) rfl rfl _ _ _
theorem loans_take {w : World} {al : Option Addr} {ls : List Ln} (h : IsLoans w al ls) (n : Nat) : IsLoans w al (ls.take n) := fun i hi => by
  have hi' : i < ls.length ∧ i < n := by simp at hi; omega
  have e : gl (ls.take n) i = gl ls i := by simp [gl, hi'.1, hi'.2]
  rw [e]
  exact h i hi'.1
theorem all_cut {c : Cab} {ah : Option Addr} {ch : Nat} {al : Option Addr} {cl : Nat} {w : World} (hg : Given w c ah ch al cl) (hv : c.valid = true) (hb : backN c.loans ≤ 4) (n : Nat) (hn : n ≤ c.loans.length) (W : Int) :
    Calls Try.prog 39 #[.agg #[.int .i64 c.slots, .slice ah c.homes.length ch, .int .i64 W, .slice al n cl]] w (AllPost (cut c n W) w) := by
  obtain ⟨v1, v2, v3, v4, v5, v6⟩ := valid_parts hv
  have e : (c.loans.take n).length = n := by rw [List.length_take]; omega
  have h := allR_any (c := cut c n W) (ah := ah) (ch := ch) (al := al) (cl := cl) (w := w) hg.hi (loans_take hg.li n) (fun l hl => v4 l (List.mem_of_mem_take hl)) v3 v1 (by show (c.loans.take n).length ≤ 12; omega) (Nat.le_trans (backN_take c.loans n) hb)
  have hv' : (cut c n W).v ah ch al cl = .agg #[.int .i64 c.slots, .slice ah c.homes.length ch, .int .i64 W, .slice al n cl] := by
    show (Value.agg #[.int .i64 c.slots, .slice ah c.homes.length ch, .int .i64 W, .slice al (c.loans.take n).length cl]) = _
    rw [e]
  rw [hv'] at h
  exact h
theorem check_round {c : Cab} {k : Nat} (hk : k < c.loans.length) : checkFrom c (c.loans.length - k) k = if (truths (cut c (k + 1) c.wrong)).isEmpty then ((k : Int), 0) else checkFrom c (c.loans.length - (k + 1)) (k + 1) := by
  obtain ⟨d, hd⟩ : ∃ d, c.loans.length - k = d + 1 := ⟨c.loans.length - k - 1, by omega⟩
  rw [hd, show c.loans.length - (k + 1) = d by omega, cut_truths]
  rfl
set_option maxRecDepth 100000 in
set_option maxHeartbeats 2000000 in
theorem rcheck_any {c : Cab} {ah : Option Addr} {ch : Nat} {al : Option Addr} {cl : Nat} {w : World} (hg : Given w c ah ch al cl) (hb : c.valid = true → backN c.loans ≤ 4) :
    Calls Try.prog 16 #[c.v ah ch al cl] w fun e w' => e = .returned (.tuple #[.int .i64 (check c).1, .int .i64 (check c).2]) ∧ Below w.heap.size w w' := by
  have hb1 : Below w.heap.size w (w.alloc (.cells (c.cells ah ch al cl) 25)) := (Below.refl _ w).alloc (Nat.le_refl _) _
  have hg1 := hg.mono hb1
  have HB1 := Lib.hid hb1
  cases hv : c.valid with
  | false =>
    have hE : Hid (check c = (0, 1)) := by unfold Hid check; simp [hv]
    have HV := Lib.hid hv
    clear hv hb hb1
    go_enter Try.func16, Try.ntmps16
    go_wp2_with fail
    refine (refCab_any hg1.hi hg1.li hg1.hh hg1.hl).mono ?_
    rintro e w2 ⟨rfl, hb2⟩
    rw [HV.out]
    go_wp2_with fail
    go_ret2
    exact ⟨by rw [hE.out]; rfl, bst HB1.out hb2⟩
  | true =>
    have HV := Lib.hid hv
    have hbk := hb hv
    have hC : Hid (check c = checkFrom c (c.loans.length - 0) 0) := by unfold Hid check; simp [hv]
    have HG1 := Lib.hid hg1
    have hll : c.loans.length ≤ 30 := hg1.hl
    have hcl : c.loans.length ≤ cl := hg1.cl
    clear hv hb hb1
    go_enter Try.func16, Try.ntmps16
    go_wp2_with fail
    refine (refCab_any hg1.hi hg1.li hg1.hh hg1.hl).mono ?_
    rintro e w2 ⟨rfl, hb2⟩
    rw [HV.out]
    have hA : w2.heap[w.heap.size]? = some (.cells (c.cells ah ch al cl) 25 (0, 0)) := (hb2.block _ (by simp)).trans (World.alloc_heap_new _ _)
    have a0 : ∀ o, w2.cell? ⟨w.heap.size, o, none⟩ = (c.cells ah ch al cl)[o]? := fun o => cell_of_heap hA
    have c0 : w2.cell? ⟨w.heap.size, 0, none⟩ = some (.int .i64 c.slots) := a0 0
    have c1 : w2.cell? ⟨w.heap.size, 1, none⟩ = some (.slice ah c.homes.length ch) := a0 1
    have c2 : w2.cell? ⟨w.heap.size, 2, none⟩ = some (.int .i64 c.wrong) := a0 2
    have c3 : w2.cell? ⟨w.heap.size, 3, none⟩ = some (.slice al c.loans.length cl) := a0 3
    have HG2 : Hid (Given w2 c ah ch al cl) := HG1.out.mono hb2
    have HB2 : Hid (Below w.heap.size w w2) := bst HB1.out hb2
    have HM := Lib.hid (And.intro c0 (And.intro c1 (And.intro c2 c3)))
    clear hA a0 hb2 hg1 HG1 HB1 hg c0 c1 c2
    go_wp2_with fail
    go_loopw [4] (fun i wr => ∃ k : Nat, k ≤ c.loans.length ∧ i = .int .i64 k ∧ Hid (check c = checkFrom c (c.loans.length - k) k) ∧ Below w2.heap.size w2 wr) (fun i _ => c.loans.length - (intOf i).toNat)
    case atStart => exact ⟨0, by omega, rfl, hC, Below.refl _ _⟩
    case round =>
      obtain ⟨k, hk, rfl, HK, hbr⟩ := hrel
      obtain ⟨c0, c1, c2, c3⟩ := HM.out
      have c0 := cell_stays hbr c0
      have c1 := cell_stays hbr c1
      have c2 := cell_stays hbr c2
      have c3 := cell_stays hbr c3
      have hlt3 := lt_of_cell c3
      by_cases hlt : k < c.loans.length
      · have HR := Lib.hid (check_round hlt)
        have HT := Lib.hid (all_cut (HG2.out.mono (hbr.trans ((Below.refl _ wr).alloc hbr.size (.cells #[.int .i64 c.slots, .slice ah c.homes.length ch, .int .i64 c.wrong, .slice al (k + 1) cl] 25)))) HV.out hbk (k + 1) hlt c.wrong)
        have HA := Lib.hid ((Below.refl wr.heap.size wr).alloc (Nat.le_refl _) (.cells #[.int .i64 c.slots, .slice ah c.homes.length ch, .int .i64 c.wrong, .slice al (k + 1) cl] 25))
        obtain ⟨T, hT⟩ : ∃ T, truths (cut c (k + 1) c.wrong) = T := ⟨_, rfl⟩
        have HTT := Lib.hid hT
        cases T with
        | nil =>
          clear hT
          go_wp2_with fail
          refine HT.out.mono ?_
          rintro e w3 ⟨v, rfl, hO, hb3⟩
          rw [HTT.out] at hO
          obtain ⟨a, cap, rfl, _⟩ := hO.slice
          go_wp2_with fail
          go_ret2
          refine ⟨?_, HB2.out.trans ((hbr.trans ((bst HA.out hb3).mono hbr.size)).mono HB2.out.size)⟩
          rw [HK.out, HR.out, HTT.out]; rfl
        | cons t0 T =>
          have hTl : Hid ((truths (cut c (k + 1) c.wrong)).length = T.length + 1) := by rw [Hid, hT]; rfl
          clear hT
          go_wp2_with fail
          refine HT.out.mono ?_
          rintro e w3 ⟨v, rfl, hO, hb3⟩
          obtain ⟨a, cap, rfl, _⟩ := hO.slice
          have hn0 : (((truths (cut c (k + 1) c.wrong)).length : Int) == 0) = false := by rw [hTl.out]; simp; omega
          go_wp2_with fail
          go_roundw
          case rel =>
            refine ⟨k + 1, by omega, by go_num, ?_, hbr.trans ((bst HA.out hb3).mono hbr.size)⟩
            rw [Hid, HK.out, HR.out, HTT.out]; rfl
          case measure => simp [intOf]; omega
      · obtain rfl : k = c.loans.length := by omega
        go_wp2_with fail
        go_ret2
        refine ⟨?_, HB2.out.trans (hbr.mono HB2.out.size)⟩
        rw [HK.out, Nat.sub_self]; rfl

theorem wrongs_first {c : Cab} (hv : c.valid = true) {k : Nat} (hk : k ≤ c.loans.length) (h1 : truths (cut c c.loans.length k) ≠ []) (h0 : ∀ j, j < k → truths (cut c c.loans.length j) = []) : wrongsE c = ((k : Int), 0) := by
  rw [cut_truths, List.take_length] at h1
  obtain ⟨h2, h3⟩ := ne_of.1 h1
  rw [wrongsE_yes hv h2]
  have : leastN c = k := by
    rcases Nat.lt_or_ge (leastN c) k with h | h
    · have := h0 _ h
      rw [cut_truths, List.take_length] at this
      exact absurd this (ne_of.2 ⟨h2, Int.le_refl _⟩)
    · omega
  rw [this]
theorem wrongs_last {c : Cab} (hv : c.valid = true) (h0 : ∀ j, j < c.loans.length + 1 → truths (cut c c.loans.length j) = []) : wrongsE c = (0, 4) := by
  refine wrongsE_no hv ?_
  have := h0 c.loans.length (by omega)
  rw [cut_truths, List.take_length] at this
  exact this
set_option maxRecDepth 100000 in
set_option maxHeartbeats 2000000 in
theorem rwrongsE_any {c : Cab} {ah : Option Addr} {ch : Nat} {al : Option Addr} {cl : Nat} {w : World} (hg : Given w c ah ch al cl) (hb : c.valid = true → backN c.loans ≤ 4) :
    Calls Try.prog 22 #[c.v ah ch al cl] w fun e w' => e = .returned (.tuple #[.int .i64 (wrongsE c).1, .int .i64 (wrongsE c).2]) ∧ Below w.heap.size w w' := by
  have hb1 : Below w.heap.size w (w.alloc (.cells (c.cells ah ch al cl) 25)) := (Below.refl _ w).alloc (Nat.le_refl _) _
  have hg1 := hg.mono hb1
  have HB1 := Lib.hid hb1
  cases hv : c.valid with
  | false =>
    have hE : Hid (wrongsE c = (0, 1)) := by unfold Hid wrongsE; simp [hv]
    have HV := Lib.hid hv
    clear hv hb hb1
    go_enter Try.func22, Try.ntmps22
    go_wp2_with fail
    refine (refCab_any hg1.hi hg1.li hg1.hh hg1.hl).mono ?_
    rintro e w2 ⟨rfl, hb2⟩
    rw [HV.out]
    go_wp2_with fail
    go_ret2
    exact ⟨by rw [hE.out]; rfl, bst HB1.out hb2⟩
  | true =>
    have HV := Lib.hid hv
    have hbk := hb hv
    have HG1 := Lib.hid hg1
    have hll : c.loans.length ≤ 30 := hg1.hl
    have hcl : c.loans.length ≤ cl := hg1.cl
    clear hv hb hb1
    go_enter Try.func22, Try.ntmps22
    go_wp2_with fail
    refine (refCab_any hg1.hi hg1.li hg1.hh hg1.hl).mono ?_
    rintro e w2 ⟨rfl, hb2⟩
    rw [HV.out]
    have hA : w2.heap[w.heap.size]? = some (.cells (c.cells ah ch al cl) 25 (0, 0)) := (hb2.block _ (by simp)).trans (World.alloc_heap_new _ _)
    have a0 : ∀ o, w2.cell? ⟨w.heap.size, o, none⟩ = (c.cells ah ch al cl)[o]? := fun o => cell_of_heap hA
    have c0 : w2.cell? ⟨w.heap.size, 0, none⟩ = some (.int .i64 c.slots) := a0 0
    have c1 : w2.cell? ⟨w.heap.size, 1, none⟩ = some (.slice ah c.homes.length ch) := a0 1
    have c2 : w2.cell? ⟨w.heap.size, 2, none⟩ = some (.int .i64 c.wrong) := a0 2
    have c3 : w2.cell? ⟨w.heap.size, 3, none⟩ = some (.slice al c.loans.length cl) := a0 3
    have HG2 : Hid (Given w2 c ah ch al cl) := HG1.out.mono hb2
    have HB2 : Hid (Below w.heap.size w w2) := bst HB1.out hb2
    have hlt0 := lt_of_cell c0
    clear hA a0 hb2 hg1 HG1 HB1 hg
    go_wp2_with fail
    have HM := Lib.hid (And.intro c0 (And.intro c1 (And.intro c2 c3)))
    clear c0 c1 c2 c3
    go_loopw [2] (fun _ wr => ∃ k : Nat, k ≤ c.loans.length + 1 ∧ Hid (∀ j, j < k → truths (cut c c.loans.length j) = []) ∧ Hid (wr.heap[w2.heap.size]? = some (.cells #[.int .i64 c.slots, .slice ah c.homes.length ch, .int .i64 k, .slice al c.loans.length cl] 25 (0, 0))) ∧ Below w2.heap.size w2 wr) (fun _ wr => c.loans.length + 1 - (intOf ((wr.cell? ⟨w2.heap.size, 2, none⟩).getD undef)).toNat)
    case atStart =>
      refine ⟨0, by omega, fun j hj => by omega, ?_, (Below.refl _ w2).alloc (Nat.le_refl _) _⟩
      first | exact World.alloc_heap_new w2 _ | (rw [Hid]; exact World.alloc_heap_new w2 _) | skip
    case round =>
      obtain ⟨k, hk, HK, HX, hbr⟩ := hrel
      obtain ⟨c0, c1, c2, c3⟩ := HM.out
      have c3 := cell_stays hbr c3
      have hX := HX.out
      have x0 : wr.cell? ⟨w2.heap.size, 0, none⟩ = some (.int .i64 c.slots) := by rw [cell_of_heap hX]; rfl
      have x1 : wr.cell? ⟨w2.heap.size, 1, none⟩ = some (.slice ah c.homes.length ch) := by rw [cell_of_heap hX]; rfl
      have x2 : wr.cell? ⟨w2.heap.size, 2, none⟩ = some (.int .i64 k) := by rw [cell_of_heap hX]; rfl
      have x3 : wr.cell? ⟨w2.heap.size, 3, none⟩ = some (.slice al c.loans.length cl) := by rw [cell_of_heap hX]; rfl
      have f2 : wr.frozen? ⟨w2.heap.size, 2, none⟩ = false := frozen_of_heap hX
      have hlt2 := lt_of_cell x2
      clear hX c0 c1 c2
      by_cases hlt : k ≤ c.loans.length
      · have HT := Lib.hid (all_cut (HG2.out.mono hbr) HV.out hbk c.loans.length (Nat.le_refl _) k)
        obtain ⟨T, hT⟩ : ∃ T, truths (cut c c.loans.length k) = T := ⟨_, rfl⟩
        have HTT := Lib.hid hT
        cases T with
        | nil =>
          clear hT
          go_wp2_with fail
          refine HT.out.mono ?_
          rintro e w3 ⟨v, rfl, hO, hb3⟩
          rw [HTT.out] at hO
          obtain ⟨a, cap, rfl, _⟩ := hO.slice
          have x2' := cell_stays hb3 x2
          have hf3 : w3.frozen? ⟨w2.heap.size, 2, none⟩ = false := (hb3.frozen (p := ⟨w2.heap.size, 2, none⟩) hlt2).trans f2
          have HX3 : Hid (w3.heap[w2.heap.size]? = _) := (hb3.block _ hlt2).trans HX.out
          go_wp2_with fail
          go_roundw
          case rel =>
            refine ⟨k + 1, by omega, fun j hj => ?_, ?_, (hbr.trans (hb3.mono hbr.size)).setCell (Nat.le_refl _) _⟩
            · by_cases e : j = k
              · subst e; exact HTT.out
              · exact HK.out j (by omega)
            · rw [Hid, heap_setCell_at HX3.out]
              simp
          case measure =>
            rw [World.cell?_setCell_same _ _ _ x2', x2]
            simp [intOf]; omega
        | cons t0 T =>
          have hTl : Hid ((truths (cut c c.loans.length k)).length = T.length + 1) := by rw [Hid, hT]; rfl
          have HW : Hid (wrongsE c = ((k : Int), 0)) := wrongs_first HV.out hlt (by rw [hT]; simp) HK.out
          clear hT
          go_wp2_with fail
          refine HT.out.mono ?_
          rintro e w3 ⟨v, rfl, hO, hb3⟩
          obtain ⟨a, cap, rfl, _⟩ := hO.slice
          have x2' := cell_stays hb3 x2
          have hn0 : 0 < (truths (cut c c.loans.length k)).length := by rw [hTl.out]; omega
          go_wp2_with fail
          go_ret2
          refine ⟨?_, HB2.out.trans ((hbr.trans (hb3.mono hbr.size)).mono HB2.out.size)⟩
          rw [HW.out]; rfl
      · obtain rfl : k = c.loans.length + 1 := by omega
        have HW : Hid (wrongsE c = (0, 4)) := wrongs_last HV.out HK.out
        go_wp2_with fail
        go_ret2
        refine ⟨?_, HB2.out.trans (hbr.mono HB2.out.size)⟩
        rw [HW.out]; rfl
end Go.Proofs.Ytlhobddaojdnoaa

namespace Go.Proofs.Ytlhobddaojdnoaa
open Go.RowKit
set_option linter.unusedVariables false

theorem flat_pair {vs : List (Value × Value)} {i : Nat} {p : Value × Value} (h : vs[i]? = some p) : (vs.flatMap fun p => [p.1, p.2])[i * 2]? = some p.1 ∧ (vs.flatMap fun p => [p.1, p.2])[i * 2 + 1]? = some p.2 := by
  induction vs generalizing i with
  | nil => simp at h
  | cons q vs ih =>
    cases i with
    | zero => simp at h; subst h; simp
    | succ i =>
      simp only [List.getElem?_cons_succ] at h
      have := ih h
      rw [show (i + 1) * 2 = i * 2 + 1 + 1 by omega]
      simpa using this
/-- One truth of a list. -/
theorem Outs.at {w : World} {B : Nat} {v : Value} {L : List (List Int × List Bool)} (h : Outs w B v L) {g cap : Nat} (hv : v = .slice (some ⟨g, 0, none⟩) L.length cap) {k : Nat} {x : List Int × List Bool} (hk : L[k]? = some x) :
    ∃ p, w.cell? ⟨g, k * 2, none⟩ = some p.1 ∧ w.cell? ⟨g, k * 2 + 1, none⟩ = some p.2 ∧ OwnT w B x p := by
  obtain ⟨vs, h1, h2, h3⟩ := h
  have hlt := (List.getElem?_eq_some_iff.1 hk).1
  obtain ⟨g', cap', he, _, _, _, _, hc⟩ := own_cell h2 (by omega)
  rw [hv] at he
  simp only [Value.slice.injEq, Option.some.injEq, Addr.mk.injEq, and_true, true_and] at he
  obtain ⟨rfl, rfl⟩ := he
  have hp : vs[k]? = some vs[k] := List.getElem?_eq_getElem (by omega)
  obtain ⟨q1, q2⟩ := flat_pair hp
  exact ⟨vs[k], hc _ _ q1, hc _ _ q2, h3 k x _ hk hp⟩
theorem Outs.some {w : World} {B : Nat} {v : Value} {L : List (List Int × List Bool)} (h : Outs w B v L) (hn : L ≠ []) : ∃ g cap, v = .slice (some ⟨g, 0, none⟩) L.length cap ∧ L.length ≤ cap ∧ cap ≤ maxLen := by
  obtain ⟨vs, h1, h2, h3⟩ := h
  obtain ⟨g, cap, he, _, _, h4, h5, _⟩ := own_cell h2 (List.length_pos_iff.2 hn)
  exact ⟨g, cap, he, h4, h5⟩
theorem setL_snoc (l : List Int) (v : Int) : setL (l ++ [v]) = if v = -1 then setL l else setL l ||| 2 ^ v.toNat := by
  unfold setL
  by_cases h : v = -1
  · simp [h]
  · simp [h, bitsOf_snoc]
theorem outL_snoc (l : List Int) (v : Int) : outL (l ++ [v]) = (outL l || decide (v = -1)) := by simp [outL]
theorem map_take_snoc {α : Type} (f : α → Int) {L : List α} {k : Nat} {x : α} (h : L[k]? = some x) : (L.map f).take (k + 1) = (L.map f).take k ++ [f x] := by
  have hlt := (List.getElem?_eq_some_iff.1 h)
  rw [List.take_succ_eq_append_getElem (by simpa using hlt.1)]
  simp [hlt.2]
theorem truth_at {c : Cab} (hv : c.valid = true) {k : Nat} {x : List Int × List Bool} (h : (truths c)[k]? = some x) : St c x.1 :=
  truth_st hv (r := anyRule) (ls := c.loans) (W := c.wrong) (bs := x.2) (List.mem_of_getElem? h)
theorem st_rng {c : Cab} (hv : c.valid = true) {t : List Int} (h : St c t) {j : Nat} (hj : j < t.length) : -1 ≤ gi t j ∧ gi t j ≤ 5 := by
  have := valid_slots hv
  have h2 := h.bd j hj
  omega
theorem setL_small {c : Cab} (hv : c.valid = true) {j : Nat} (hj : j < c.homes.length) (k : Nat) : setL ((whereL c j).take k) ≤ 1048576 := by
  have : setL ((whereL c j).take k) < 2 ^ 6 := setL_lt (n := 6) (fun y hy => by
    have hy := List.mem_of_mem_take hy
    obtain ⟨x, hx, rfl⟩ := List.mem_map.1 hy
    have hs := truth_st hv (r := anyRule) (ls := c.loans) (W := c.wrong) (t := x.1) (bs := x.2) hx
    have := st_rng hv hs (j := j) (by rw [hs.len]; exact hj)
    simp only [Int.toNat_natCast]
    omega)
  omega
theorem setLs_small {c : Cab} (hv : c.valid = true) (s : Int) (k : Nat) : setL ((slotL c s).take k) ≤ 1048576 := by
  have hh := valid_homes hv
  have : setL ((slotL c s).take k) < 2 ^ 5 := setL_lt (n := 5) (fun y hy => by
    have hy := List.mem_of_mem_take hy
    obtain ⟨x, hx, rfl⟩ := List.mem_map.1 hy
    have hs := truth_st hv (r := anyRule) (ls := c.loans) (W := c.wrong) (t := x.1) (bs := x.2) hx
    have := lies_range hs s
    omega)
  omega
/-! WALKS -/
set_option maxRecDepth 100000 in
set_option maxHeartbeats 2000000 in
theorem rwhereE_any {c : Cab} {ah : Option Addr} {ch : Nat} {al : Option Addr} {cl : Nat} {w : World} (hg : Given w c ah ch al cl) (hb : c.valid = true → backN c.loans ≤ 4) (n : Int) :
    Calls Try.prog 18 #[c.v ah ch al cl, .int .i64 n] w fun e w' => e = .returned (.tuple #[.int .i64 (whereE c n).1, .bool (whereE c n).2.1, .int .i64 (whereE c n).2.2]) ∧ Below w.heap.size w w' := by
    have hb1 : Below w.heap.size w (w.alloc (.cells (c.cells ah ch al cl) 25)) := (Below.refl _ w).alloc (Nat.le_refl _) _
    obtain ⟨W1, hW1⟩ : ∃ W1 : World, W1 = w.alloc (.cells #[.int .i64 c.slots, .slice ah c.homes.length ch, .int .i64 c.wrong, .slice al c.loans.length cl] 25) := ⟨_, rfl⟩
    have hA : W1.heap[w.heap.size]? = some (.cells (c.cells ah ch al cl) 25 (0, 0)) := by rw [hW1]; exact World.alloc_heap_new _ _
    have hb1 : Below w.heap.size w W1 := by rw [hW1]; exact hb1
    have a0 : ∀ o, W1.cell? ⟨w.heap.size, o, none⟩ = (c.cells ah ch al cl)[o]? := fun o => cell_of_heap hA
    have c0 : W1.cell? ⟨w.heap.size, 0, none⟩ = some (.int .i64 c.slots) := a0 0
    have c1 : W1.cell? ⟨w.heap.size, 1, none⟩ = some (.slice ah c.homes.length ch) := a0 1
    have c2 : W1.cell? ⟨w.heap.size, 2, none⟩ = some (.int .i64 c.wrong) := a0 2
    have c3 : W1.cell? ⟨w.heap.size, 3, none⟩ = some (.slice al c.loans.length cl) := a0 3
    have HG1 : Hid (Given W1 c ah ch al cl) := hg.mono hb1
    have HB1 := Lib.hid hb1
    have HW1 := Lib.hid hW1
    have KP : Hid (∀ w', Below W1.heap.size W1 w' → (w'.cell? ⟨w.heap.size, 0, none⟩ = some (.int .i64 c.slots) ∧ w'.cell? ⟨w.heap.size, 1, none⟩ = some (.slice ah c.homes.length ch) ∧ w'.cell? ⟨w.heap.size, 2, none⟩ = some (.int .i64 c.wrong) ∧ w'.cell? ⟨w.heap.size, 3, none⟩ = some (.slice al c.loans.length cl) ∧ Below W1.heap.size W1 w')) :=
      fun w' h => ⟨cell_stays h c0, cell_stays h c1, cell_stays h c2, cell_stays h c3, h⟩
    have hn16 := hg.hh
    have HBK := Lib.hid hb
    clear hW1 hb1 hA a0 c0 c1 c2 c3 hg hb
    by_cases h0 : openE c (c.card n) = 0
    · have hq : (openE c (c.card n) == 0) = true := by simp [h0]
      have hq' : (openE c (c.card n) != 0) = false := by simp [h0]
      have H0 := Lib.hid h0
      obtain ⟨hv, hcard, hT⟩ := openE_zero h0
      obtain ⟨j, hj1, hj⟩ := card_in (c := c) (l := ⟨0, n, 0, 0⟩) hcard
      simp only at hj1
      subst hj1
      have HV := Lib.hid hv
      have HT0 : Hid (truths c ≠ []) := hT
      have HVS : Hid (1 ≤ c.slots ∧ c.slots ≤ 6) := valid_slots hv
      have hE : Hid (whereE c j = ((setL (whereL c j) : Int), outL (whereL c j), 0)) := where_yes hv hT hcard
      have hnh := valid_homes hv
      clear hv hT hcard
      clear h0
      go_enter Try.func18, Try.ntmps18
      go_wp2_with fail
      have hW1 := HW1.out
      rw [← hW1]
      clear hW1
      go_region_held3 (fun w' => w'.cell? ⟨w.heap.size, 0, none⟩ = some (.int .i64 c.slots) ∧ w'.cell? ⟨w.heap.size, 1, none⟩ = some (.slice ah c.homes.length ch) ∧ w'.cell? ⟨w.heap.size, 2, none⟩ = some (.int .i64 c.wrong) ∧ w'.cell? ⟨w.heap.size, 3, none⟩ = some (.slice al c.loans.length cl) ∧ Below W1.heap.size W1 w')
        (first | exact KP.out _ S4 | exact KP.out _ S3 | exact KP.out _ (Below.refl _ W1).drew)
        (first
          | (go_at_call 56; have C56 := rcard_any (c := c) (ah := ah) (ch := ch) (al := al) (cl := cl) (j : Int) W1.drew hn16; (with_reducible refine C56.mono ?_); clear C56; rintro e w3 ⟨rfl, hb3⟩; have S3 : Below W1.heap.size W1 w3 := bst ((Below.refl _ W1).drew) hb3)
          | (go_at_call 55; have C55 := ropen_any (HG1.out.mono S3) HBK.out (c.card (j : Int)); (with_reducible refine C55.mono ?_); clear C55; rintro e w4 ⟨v, rfl, hO, hb4⟩; have S4 : Below W1.heap.size W1 w4 := bst S3 hb4; have HO4 := Lib.hid (And.intro S3 (And.intro S4 hO)); clear hO))
      obtain ⟨S3, S4, hO⟩ := HO4.out
      have hO := hO H0.out
      obtain ⟨g, cap, rfl, hcap, hmax⟩ := hO.some HT0.out
      have HO := Lib.hid hO
      have HS := Lib.hid (And.intro S3 S4)
      have hTl := truths_count (c := c) HVS.out.2 (HBK.out HV.out)
      clear S3 S4 hO hb3 hb4
      go_wp2_with fail
      go_loop [9, 10, 11] (fun s o i => ∃ (k z : Nat) (b : Bool), k ≤ (truths c).length ∧ i = .int .i64 k ∧ s = .int .i64 z ∧ o = .bool b ∧ Hid (z = setL ((whereL c j).take k) ∧ b = outL ((whereL c j).take k)) ∧ z ≤ 1048576) (fun _ _ i => (truths c).length - (intOf i).toNat)
      case atStart => exact ⟨0, 0, false, by omega, rfl, rfl, rfl, ⟨rfl, rfl⟩, by omega⟩
      case round =>
        obtain ⟨k, z, b, hk, rfl, rfl, rfl, HZ, hz⟩ := hrel
        by_cases hlt : k < (truths c).length
        · obtain ⟨x, hx⟩ : ∃ x, (truths c)[k]? = some x := ⟨_, List.getElem?_eq_getElem hlt⟩
          obtain ⟨p, q1, q2, hp⟩ := HO.out.at rfl hx
          have hst := truth_at HV.out hx
          obtain ⟨a, cp, hpa, hpi⟩ := own_ints hp.1 rfl
          rw [hpa] at q1
          obtain ⟨ab, ao, rfl, ac⟩ := hpi j (by rw [hst.len]; exact hj)
          have hr := st_rng HV.out hst (j := j) (by rw [hst.len]; exact hj)
          have hxl : x.1.length = c.homes.length := hst.len
          have hjx : j < x.1.length := by omega
          have HSN : Hid ((whereL c j).take (k + 1) = (whereL c j).take k ++ [gi x.1 j]) := by
            have := map_take_snoc (fun y : List Int × List Bool => gi y.1 j) hx
            rw [Hid, whereL, Int.toNat_natCast]
            exact this
          have hzs := setL_small HV.out hj (k + 1)
          have HX := Lib.hid (And.intro hx hxl)
          clear hx hp hst hpa hpi q2 hxl
          by_cases hg : gi x.1 j = -1
          · have hgb : (gi x.1 j == -1) = true := by simp [hg]
            have hG := Lib.hid hg
            clear hg hzs
            go_wp2_with fail
            go_round
            case rel => exact ⟨k + 1, z, true, by omega, by go_num, rfl, rfl, by rw [Hid, HSN.out, setL_snoc, outL_snoc, if_pos hG.out]; exact ⟨HZ.out.1, by simp [hG.out]⟩, hz⟩
            case measure => simp [intOf]; omega
          · have hgb : (gi x.1 j == -1) = false := by simpa using hg
            obtain ⟨sn, hsn⟩ : ∃ sn : Nat, gi x.1 j = sn := ⟨(gi x.1 j).toNat, by omega⟩
            have hs20 : sn ≤ 20 := by omega
            rw [hsn] at hgb ac
            rw [HSN.out, setL_snoc, if_neg hg, hsn, Int.toNat_natCast, ← HZ.out.1] at hzs
            have hG := Lib.hid (And.intro hg hsn)
            clear hg hsn hr
            go_wp2_with ((go_at_call 57; refine (setWith_any z sn hz hs20 _).mono ?_; rintro e w' ⟨rfl, rfl⟩))
            go_round
            case rel => exact ⟨k + 1, z ||| 2 ^ sn, b, by omega, by go_num, rfl, rfl, by rw [Hid, HSN.out, setL_snoc, outL_snoc, if_neg hG.out.1, hG.out.2, Int.toNat_natCast]; exact ⟨by rw [HZ.out.1], by rw [HZ.out.2]; have := hG.out.1; rw [hG.out.2] at this; simp [this]⟩, hzs⟩
            case measure => simp [intOf]; omega
        · obtain rfl : k = (truths c).length := by omega
          go_wp2_with fail
          go_ret3
          refine ⟨?_, bst HB1.out HS.out.2⟩
          have e : (whereL c j).take (truths c).length = whereL c j := List.take_of_length_le (by simp [whereL])
          rw [hE.out, HZ.out.1, HZ.out.2, e]
          rfl
    · have hq : (openE c (c.card n) == 0) = false := by simpa using h0
      have hq' : (openE c (c.card n) != 0) = true := by simpa using h0
      have hE : Hid (whereE c n = (0, false, openE c (c.card n))) := by
        unfold Hid whereE
        simp only [h0, if_false]
      clear h0
      go_enter Try.func18, Try.ntmps18
      go_wp2_with fail
      have hW1 := HW1.out
      rw [← hW1]
      clear hW1
      go_region_held3 (fun w' => w'.cell? ⟨w.heap.size, 0, none⟩ = some (.int .i64 c.slots) ∧ w'.cell? ⟨w.heap.size, 1, none⟩ = some (.slice ah c.homes.length ch) ∧ w'.cell? ⟨w.heap.size, 2, none⟩ = some (.int .i64 c.wrong) ∧ w'.cell? ⟨w.heap.size, 3, none⟩ = some (.slice al c.loans.length cl) ∧ Below W1.heap.size W1 w')
        (first | exact KP.out _ S4 | exact KP.out _ S3 | exact KP.out _ (Below.refl _ W1).drew)
        (first
          | (go_at_call 56; have C56 := rcard_any (c := c) (ah := ah) (ch := ch) (al := al) (cl := cl) n W1.drew hn16; (with_reducible refine C56.mono ?_); clear C56; rintro e w3 ⟨rfl, hb3⟩; have S3 : Below W1.heap.size W1 w3 := bst ((Below.refl _ W1).drew) hb3)
          | (go_at_call 55; have C55 := ropen_any (HG1.out.mono S3) HBK.out (c.card n); (with_reducible refine C55.mono ?_); clear C55; rintro e w4 ⟨v, rfl, hO, hb4⟩; have S4 : Below W1.heap.size W1 w4 := bst S3 hb4; have HO4 := Lib.hid (And.intro S3 (And.intro S4 hO)); clear hO))
      go_wp2_with fail
      go_ret3
      exact ⟨by rw [hE.out]; rfl, bst HB1.out HO4.out.2.1⟩
def slotB (c : Cab) (n : Int) : Bool := if c.valid = true then c.slotOf n else inR n 0 (wrap64 (c.slots - 1))
theorem slotB_open (c : Cab) (n : Int) : openE c (slotB c n) = openE c (c.slotOf n) := by
  unfold openE slotB
  cases hv : c.valid <;> simp
theorem slotB_any (n : Int) {c : Cab} {ah : Option Addr} {ch : Nat} {al : Option Addr} {cl : Nat} (w : World) :
    Calls Try.prog 62 #[c.v ah ch al cl, .int .i64 n] w fun e w' => e = .returned (.bool (slotB c n)) ∧ Below w.heap.size w w' := by
  unfold slotB
  cases hv : c.valid with
  | true =>
    have := valid_slots hv
    rw [if_pos rfl]
    exact rslot_any n w ⟨by omega, by omega⟩
  | false =>
    rw [if_neg (by simp)]
    clear hv
    go_enter Try.func62, Try.ntmps62
    go_wp2_with (go_at_call 78; refine (in_any _ _ _ _).mono ?_; rintro e w' ⟨rfl, rfl⟩)
    go_ret
    exact ⟨rfl, (Below.refl _ w).alloc (Nat.le_refl _) _⟩
set_option maxRecDepth 100000 in
set_option maxHeartbeats 2000000 in
theorem rslotE_any {c : Cab} {ah : Option Addr} {ch : Nat} {al : Option Addr} {cl : Nat} {w : World} (hg : Given w c ah ch al cl) (hb : c.valid = true → backN c.loans ≤ 4) (n : Int) :
    Calls Try.prog 20 #[c.v ah ch al cl, .int .i64 n] w fun e w' => e = .returned (.tuple #[.int .i64 (slotE c n).1, .bool (slotE c n).2.1, .int .i64 (slotE c n).2.2]) ∧ Below w.heap.size w w' := by
    have hb1 : Below w.heap.size w (w.alloc (.cells (c.cells ah ch al cl) 25)) := (Below.refl _ w).alloc (Nat.le_refl _) _
    obtain ⟨W1, hW1⟩ : ∃ W1 : World, W1 = w.alloc (.cells #[.int .i64 c.slots, .slice ah c.homes.length ch, .int .i64 c.wrong, .slice al c.loans.length cl] 25) := ⟨_, rfl⟩
    have hA : W1.heap[w.heap.size]? = some (.cells (c.cells ah ch al cl) 25 (0, 0)) := by rw [hW1]; exact World.alloc_heap_new _ _
    have hb1 : Below w.heap.size w W1 := by rw [hW1]; exact hb1
    have a0 : ∀ o, W1.cell? ⟨w.heap.size, o, none⟩ = (c.cells ah ch al cl)[o]? := fun o => cell_of_heap hA
    have c0 : W1.cell? ⟨w.heap.size, 0, none⟩ = some (.int .i64 c.slots) := a0 0
    have c1 : W1.cell? ⟨w.heap.size, 1, none⟩ = some (.slice ah c.homes.length ch) := a0 1
    have c2 : W1.cell? ⟨w.heap.size, 2, none⟩ = some (.int .i64 c.wrong) := a0 2
    have c3 : W1.cell? ⟨w.heap.size, 3, none⟩ = some (.slice al c.loans.length cl) := a0 3
    have HG1 : Hid (Given W1 c ah ch al cl) := hg.mono hb1
    have HB1 := Lib.hid hb1
    have HW1 := Lib.hid hW1
    have KP : Hid (∀ w', Below W1.heap.size W1 w' → (w'.cell? ⟨w.heap.size, 0, none⟩ = some (.int .i64 c.slots) ∧ w'.cell? ⟨w.heap.size, 1, none⟩ = some (.slice ah c.homes.length ch) ∧ w'.cell? ⟨w.heap.size, 2, none⟩ = some (.int .i64 c.wrong) ∧ w'.cell? ⟨w.heap.size, 3, none⟩ = some (.slice al c.loans.length cl) ∧ Below W1.heap.size W1 w')) :=
      fun w' h => ⟨cell_stays h c0, cell_stays h c1, cell_stays h c2, cell_stays h c3, h⟩
    have hn16 := hg.hh
    have HBK := Lib.hid hb
    clear hW1 hb1 hA a0 c0 c1 c2 c3 hg hb
    by_cases h0 : openE c (slotB c n) = 0
    · have hq : (openE c (slotB c n) == 0) = true := by simp [h0]
      have hq' : (openE c (slotB c n) != 0) = false := by simp [h0]
      have H0 := Lib.hid h0
      rw [slotB_open] at h0
      obtain ⟨hv, hcard, hT⟩ := openE_zero h0
      have HV := Lib.hid hv
      have HT0 : Hid (truths c ≠ []) := hT
      have HVS : Hid (1 ≤ c.slots ∧ c.slots ≤ 6) := valid_slots hv
      have hE : Hid (slotE c n = ((setL (slotL c n) : Int), outL (slotL c n), 0)) := slot_yes hv hT hcard
      have hnh := valid_homes hv
      clear hv hT hcard
      clear h0
      go_enter Try.func20, Try.ntmps20
      go_wp2_with fail
      have hW1 := HW1.out
      rw [← hW1]
      clear hW1
      go_region_held3 (fun w' => w'.cell? ⟨w.heap.size, 0, none⟩ = some (.int .i64 c.slots) ∧ w'.cell? ⟨w.heap.size, 1, none⟩ = some (.slice ah c.homes.length ch) ∧ w'.cell? ⟨w.heap.size, 2, none⟩ = some (.int .i64 c.wrong) ∧ w'.cell? ⟨w.heap.size, 3, none⟩ = some (.slice al c.loans.length cl) ∧ Below W1.heap.size W1 w')
        (first | exact KP.out _ S4 | exact KP.out _ S3 | exact KP.out _ (Below.refl _ W1).drew)
        (first
          | (go_at_call 62; have C62 := slotB_any (c := c) (ah := ah) (ch := ch) (al := al) (cl := cl) n W1.drew; (with_reducible refine C62.mono ?_); clear C62; rintro e w3 ⟨rfl, hb3⟩; have S3 : Below W1.heap.size W1 w3 := bst ((Below.refl _ W1).drew) hb3)
          | (go_at_call 55; have C55 := ropen_any (HG1.out.mono S3) HBK.out (slotB c n); (with_reducible refine C55.mono ?_); clear C55; rintro e w4 ⟨v, rfl, hO, hb4⟩; have S4 : Below W1.heap.size W1 w4 := bst S3 hb4; have HO4 := Lib.hid (And.intro S3 (And.intro S4 hO)); clear hO))
      obtain ⟨S3, S4, hO⟩ := HO4.out
      have hO := hO H0.out
      obtain ⟨g, cap, rfl, hcap, hmax⟩ := hO.some HT0.out
      have HO := Lib.hid hO
      have HS := Lib.hid (And.intro S3 S4)
      have hTl := truths_count (c := c) HVS.out.2 (HBK.out HV.out)
      clear S3 S4 hO hb3 hb4
      go_wp2_with fail
      go_loopw [9, 10, 11] (fun s o i wr => ∃ (k z : Nat) (b : Bool), k ≤ (truths c).length ∧ i = .int .i64 k ∧ s = .int .i64 z ∧ o = .bool b ∧ Hid (z = setL ((slotL c n).take k) ∧ b = outL ((slotL c n).take k)) ∧ z ≤ 1048576 ∧ Below w4.heap.size w4 wr) (fun _ _ i _ => (truths c).length - (intOf i).toNat)
      case atStart => exact ⟨0, 0, false, by omega, rfl, rfl, rfl, ⟨rfl, rfl⟩, by omega, Below.refl _ _⟩
      case round =>
        obtain ⟨k, z, b, hk, rfl, rfl, rfl, HZ, hz, hbr⟩ := hrel
        by_cases hlt : k < (truths c).length
        · obtain ⟨x, hx⟩ : ∃ x, (truths c)[k]? = some x := ⟨_, List.getElem?_eq_getElem hlt⟩
          obtain ⟨p, q1, q2, hp⟩ := (HO.out.below hbr).at rfl hx
          have hst := truth_at HV.out hx
          have hIT := hp.is
          have hx5 : x.1.length ≤ 5 := by rw [hst.len]; exact hnh
          have hr := lies_range hst n
          have HSN : Hid ((slotL c n).take (k + 1) = (slotL c n).take k ++ [lies x.1 n]) := by
            have := map_take_snoc (fun y : List Int × List Bool => lies y.1 n) hx
            rw [Hid, slotL]
            exact this
          have hzs := setLs_small HV.out n (k + 1)
          have HX := Lib.hid hx
          clear hx hp hst
          by_cases hg : lies x.1 n = -1
          · have hgb : (lies x.1 n == -1) = true := by simp [hg]
            have hG := Lib.hid hg
            clear hg hzs
            go_wp2_with fail
            refine (rlies_any hIT hx5 n).mono ?_
            rintro e w6 ⟨rfl, hb6⟩
            go_wp2_with fail
            go_roundw
            case rel => exact ⟨k + 1, z, true, by omega, by go_num, rfl, rfl, by rw [Hid, HSN.out, setL_snoc, outL_snoc, if_pos hG.out]; exact ⟨HZ.out.1, by simp [hG.out]⟩, hz, hbr.trans (hb6.mono hbr.size)⟩
            case measure => simp [intOf]; omega
          · have hgb : (lies x.1 n == -1) = false := by simpa using hg
            obtain ⟨sn, hsn⟩ : ∃ sn : Nat, lies x.1 n = sn := ⟨(lies x.1 n).toNat, by omega⟩
            have hs20 : sn ≤ 20 := by omega
            rw [hsn] at hgb
            rw [HSN.out, setL_snoc, if_neg hg, hsn, Int.toNat_natCast, ← HZ.out.1] at hzs
            have hG := Lib.hid (And.intro hg hsn)
            have C41 := fun (w' : World) (h : IsTruth w' x p.1 p.2) => rlies_any h hx5 n
            rw [hsn] at C41
            have HC := Lib.hid C41
            clear hg hsn hr C41
            go_wp2_with fail
            refine (HC.out _ hIT).mono ?_
            rintro e w6 ⟨rfl, hb6⟩
            have q1 := cell_stays hb6 q1
            have q2 := cell_stays hb6 q2
            have hIT2 := hIT.mono hb6
            go_wp2_with fail
            refine (HC.out _ hIT2).mono ?_
            rintro e w7 ⟨rfl, hb7⟩
            go_wp2_with ((go_at_call 57; refine (setWith_any z sn hz hs20 _).mono ?_; rintro e w' ⟨rfl, rfl⟩))
            go_roundw
            case rel => exact ⟨k + 1, z ||| 2 ^ sn, b, by omega, by go_num, rfl, rfl, by rw [Hid, HSN.out, setL_snoc, outL_snoc, if_neg hG.out.1, hG.out.2, Int.toNat_natCast]; exact ⟨by rw [HZ.out.1], by rw [HZ.out.2]; have := hG.out.1; rw [hG.out.2] at this; simp [this]⟩, hzs, hbr.trans ((bst hb6 hb7).mono hbr.size)⟩
            case measure => simp [intOf]; omega
        · obtain rfl : k = (truths c).length := by omega
          go_wp2_with fail
          go_ret3
          refine ⟨?_, bst HB1.out (bst HS.out.2 hbr)⟩
          have e : (slotL c n).take (truths c).length = slotL c n := List.take_of_length_le (by simp [slotL])
          rw [hE.out, HZ.out.1, HZ.out.2, e]
          rfl
    · have hq : (openE c (slotB c n) == 0) = false := by simpa using h0
      have hq' : (openE c (slotB c n) != 0) = true := by simpa using h0
      have hE : Hid (slotE c n = (0, false, openE c (slotB c n))) := by
        unfold Hid slotE
        have h1 := h0
        rw [slotB_open] at h1 ⊢
        simp only [h1, if_false]
      clear h0
      go_enter Try.func20, Try.ntmps20
      go_wp2_with fail
      have hW1 := HW1.out
      rw [← hW1]
      clear hW1
      go_region_held3 (fun w' => w'.cell? ⟨w.heap.size, 0, none⟩ = some (.int .i64 c.slots) ∧ w'.cell? ⟨w.heap.size, 1, none⟩ = some (.slice ah c.homes.length ch) ∧ w'.cell? ⟨w.heap.size, 2, none⟩ = some (.int .i64 c.wrong) ∧ w'.cell? ⟨w.heap.size, 3, none⟩ = some (.slice al c.loans.length cl) ∧ Below W1.heap.size W1 w')
        (first | exact KP.out _ S4 | exact KP.out _ S3 | exact KP.out _ (Below.refl _ W1).drew)
        (first
          | (go_at_call 62; have C62 := slotB_any (c := c) (ah := ah) (ch := ch) (al := al) (cl := cl) n W1.drew; (with_reducible refine C62.mono ?_); clear C62; rintro e w3 ⟨rfl, hb3⟩; have S3 : Below W1.heap.size W1 w3 := bst ((Below.refl _ W1).drew) hb3)
          | (go_at_call 55; have C55 := ropen_any (HG1.out.mono S3) HBK.out (slotB c n); (with_reducible refine C55.mono ?_); clear C55; rintro e w4 ⟨v, rfl, hO, hb4⟩; have S4 : Below W1.heap.size W1 w4 := bst S3 hb4; have HO4 := Lib.hid (And.intro S3 (And.intro S4 hO)); clear hO))
      go_wp2_with fail
      go_ret3
      exact ⟨by rw [hE.out]; rfl, bst HB1.out HO4.out.2.1⟩
end Go.Proofs.Ytlhobddaojdnoaa

