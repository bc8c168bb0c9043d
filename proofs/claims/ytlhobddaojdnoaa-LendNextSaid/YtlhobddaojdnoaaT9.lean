/- The laws LendPlaces. -/
import Derived.Test.YtlhobddaojdnoaaTB
import Derived.Test.YtlhobddaojdnoaaW25
namespace Go.Proofs.Ytlhobddaojdnoaa
open Go.RowKit
set_option linter.unusedVariables false

theorem backN_take_succ {ls : List Ln} {k : Nat} (hk : k < ls.length) : backN (ls.take (k + 1)) = backN (ls.take k) + if (gl ls k).kind = 1 then 1 else 0 := by
  have e : gl ls k = ls[k] := by simp [gl, hk]
  unfold backN
  rw [List.take_succ_eq_append_getElem hk, List.countP_append, e]
  simp
theorem backN_len (ls : List Ln) : backN ls ≤ ls.length := List.countP_le_length
def heavyB (c : Cab) : Bool := decide (4 < backN c.loans) && c.valid
set_option maxRecDepth 100000 in
set_option maxHeartbeats 1000000 in
theorem heavy_any {c : Cab} {ah : Option Addr} {ch : Nat} {al : Option Addr} {cl : Nat} {w : World} (hg : Given w c ah ch al cl) :
    Calls Try.prog 13 #[c.v ah ch al cl] w fun e w' => e = .returned (.bool (heavyB c)) ∧ Below w.heap.size w w' := by
  have hb1 : Below w.heap.size w (w.alloc (.cells (c.cells ah ch al cl) 25)) := (Below.refl _ w).alloc (Nat.le_refl _) _
  obtain ⟨W1, hW1⟩ : ∃ W1 : World, W1 = w.alloc (.cells #[.int .i64 c.slots, .slice ah c.homes.length ch, .int .i64 c.wrong, .slice al c.loans.length cl] 25) := ⟨_, rfl⟩
  have hA : W1.heap[w.heap.size]? = some (.cells (c.cells ah ch al cl) 25 (0, 0)) := by rw [hW1]; exact World.alloc_heap_new _ _
  have hb1 : Below w.heap.size w W1 := by rw [hW1]; exact hb1
  have a0 : ∀ o, W1.cell? ⟨w.heap.size, o, none⟩ = (c.cells ah ch al cl)[o]? := fun o => cell_of_heap hA
  have c0 : W1.cell? ⟨w.heap.size, 0, none⟩ = some (.int .i64 c.slots) := a0 0
  have c1 : W1.cell? ⟨w.heap.size, 1, none⟩ = some (.slice ah c.homes.length ch) := a0 1
  have c2 : W1.cell? ⟨w.heap.size, 2, none⟩ = some (.int .i64 c.wrong) := a0 2
  have c3 : W1.cell? ⟨w.heap.size, 3, none⟩ = some (.slice al c.loans.length cl) := a0 3
  have HG1 : Hid (Given W1 c ah ch al cl) := hg.mono hb1
  have HB1 := Lib.hid hb1
  have HW1 := Lib.hid hW1
  have hll : c.loans.length ≤ 30 := hg.hl
  have HM := Lib.hid (And.intro c0 (And.intro c1 (And.intro c2 c3)))
  have hcl := hg.cl
  clear hW1 hb1 hA a0 hg
  go_enter Try.func13, Try.ntmps13
  go_wp2_with fail
  have hW1 := HW1.out
  rw [← hW1]
  clear hW1 c0 c1 c2 c3
  obtain ⟨c0, c1, c2, c3⟩ := HM.out
  go_wp2_with fail
  clear c0 c1 c2 c3
  go_loopw [3, 9] (fun n i wr => ∃ (k z : Nat), k ≤ c.loans.length ∧ i = .int .i64 k ∧ n = .int .i64 z ∧ Hid (z = backN (c.loans.take k)) ∧ z ≤ k ∧ Below W1.heap.size W1 wr) (fun _ i _ => c.loans.length - (intOf i).toNat)
  case atStart => exact ⟨0, 0, by omega, rfl, rfl, rfl, by omega, Below.refl _ _⟩
  case round =>
    obtain ⟨k, z, hk, rfl, rfl, HZ, hz, hbr⟩ := hrel
    by_cases hlt : k < c.loans.length
    · obtain ⟨lb, lo, hla, l0, l1, l2, l3⟩ := (HG1.out.mono hbr).li k hlt
      subst hla
      have HS := Lib.hid (backN_take_succ hlt)
      have hl0 := lt_of_cell l0
      by_cases hkd : (gl c.loans k).kind = 1
      · have hkb : ((gl c.loans k).kind == 1) = true := by simp [hkd]
        have HK := Lib.hid hkd
        clear hkd
        go_wp2_with fail
        go_roundw
        case rel => exact ⟨k + 1, z + 1, by omega, by go_num, by go_num, by rw [Hid, HS.out, if_pos HK.out, HZ.out], by omega, hbr.alloc hbr.size _⟩
        case measure => simp [intOf]; omega
      · have hkb : ((gl c.loans k).kind == 1) = false := by simpa using hkd
        have HK := Lib.hid hkd
        clear hkd
        go_wp2_with fail
        go_roundw
        case rel => exact ⟨k + 1, z, by omega, by go_num, by go_num, by rw [Hid, HS.out, if_neg HK.out, HZ.out]; simp, by omega, hbr.alloc hbr.size _⟩
        case measure => simp [intOf]; omega
    · obtain rfl : k = c.loans.length := by omega
      have hzz : Hid (z = backN c.loans) := by have := HZ.out; rw [List.take_length] at this; exact this
      obtain ⟨c0, c1, c2, c3⟩ := HM.out
      have c0 := cell_stays hbr c0
      have c1 := cell_stays hbr c1
      have c2 := cell_stays hbr c2
      have c3 := cell_stays hbr c3
      by_cases h4 : 4 < z
      · have hgr := HG1.out.mono hbr
        go_wp2_with fail
        refine (refCab_any hgr.hi hgr.li hgr.hh hgr.hl).mono ?_
        rintro e w2 ⟨rfl, hb2⟩
        go_wp2_with fail
        go_ret
        refine ⟨ret_bool ?_, bst HB1.out (bst hbr hb2)⟩
        unfold heavyB
        rw [← hzz.out]
        simp [h4]
      · go_wp2_with fail
        go_ret
        refine ⟨ret_bool ?_, bst HB1.out hbr⟩
        unfold heavyB
        rw [← hzz.out]
        simp [h4]
/-! LAW -/
theorem cells_new {c : Cab} {ah : Option Addr} {ch : Nat} {al : Option Addr} {cl : Nat} {w W1 : World} {b : Nat} (hA : W1.heap[b]? = some (.cells (c.cells ah ch al cl) 25 (0, 0))) :
    W1.cell? ⟨b, 0, none⟩ = some (.int .i64 c.slots) ∧ W1.cell? ⟨b, 1, none⟩ = some (.slice ah c.homes.length ch) ∧ W1.cell? ⟨b, 2, none⟩ = some (.int .i64 c.wrong) ∧ W1.cell? ⟨b, 3, none⟩ = some (.slice al c.loans.length cl) := by
  have a0 : ∀ o, W1.cell? ⟨b, o, none⟩ = (c.cells ah ch al cl)[o]? := fun o => cell_of_heap hA
  exact ⟨a0 0, a0 1, a0 2, a0 3⟩
def greatB (c : Cab) : Bool := decide (16 < c.homes.length) || decide (30 < c.loans.length)
set_option maxRecDepth 100000 in
set_option maxHeartbeats 2000000 in
theorem lendPlaces_any {c : Cab} {w : World} {ah : Option Addr} {ch : Nat} {al : Option Addr} {cl : Nat} (hi : IsInts w ah c.homes) (li : IsLoans w al c.loans) (hcl : c.loans.length ≤ cl) (n m : Int) :
    Calls Try.prog 3 #[c.v ah ch al cl, .int .i64 n, .int .i64 m] w fun e w' => e = .returned (.bool true) ∧ Below w.heap.size w w' := by
  have hb1 : Below w.heap.size w (w.alloc (.cells (c.cells ah ch al cl) 25)) := (Below.refl _ w).alloc (Nat.le_refl _) _
  have HB1 := Lib.hid hb1
  have great := fun w' => great_any c (ah := ah) (ch := ch) (al := al) (cl := cl) w'
  have hgr : greatB c = (decide (16 < c.homes.length) || decide (30 < c.loans.length)) := rfl
  rw [← hgr] at great
  have HGR := Lib.hid great
  clear hgr great
  cases hG : greatB c with
  | true =>
    rw [hG] at HGR
    clear hG hb1
    go_enter Try.func3, Try.ntmps3
    go_wp2_with fail
    refine (HGR.out _).mono ?_
    rintro e w2 ⟨rfl, hb2⟩
    go_wp2_with fail
    refine (alive_any _).mono ?_
    rintro e w3 ⟨rfl, hb3⟩
    go_wp2_with fail
    go_ret
    exact ⟨rfl, bst (bst HB1.out hb2) hb3⟩
  | false =>
    rw [hG] at HGR
    have hhl : c.homes.length ≤ 16 ∧ c.loans.length ≤ 30 := by
      unfold greatB at hG
      simp only [Bool.or_eq_false_iff, decide_eq_false_iff_not] at hG
      omega
    have hg : Given (w.alloc (.cells (c.cells ah ch al cl) 25)) c ah ch al cl := ⟨hi.mono hb1, li.mono hb1, hhl.1, hhl.2, hcl⟩
    have hA := World.alloc_heap_new w (.cells (c.cells ah ch al cl) 25)
    have HG := Lib.hid hg
    have HA := Lib.hid hA
    clear hG hb1 hg hA
    cases hV : heavyB c with
    | true =>
      have HV := Lib.hid hV
      clear hV
      go_enter Try.func3, Try.ntmps3
      go_wp2_with fail
      refine (HGR.out _).mono ?_
      rintro e w2 ⟨rfl, hb2⟩
      obtain ⟨c0, c1, c2, c3⟩ := cells_new (w := w2) ((hb2.block _ (by simp)).trans HA.out)
      go_wp2_with fail
      refine (heavy_any (HG.out.mono hb2)).mono ?_
      rintro e w3 ⟨rfl, hb3⟩
      rw [HV.out]
      go_wp2_with fail
      refine (alive_any _).mono ?_
      rintro e w4 ⟨rfl, hb4⟩
      go_wp2_with fail
      go_ret
      exact ⟨rfl, bst (bst (bst HB1.out hb2) hb3) hb4⟩
    | false =>
    have HV := Lib.hid hV
    have HBK : Hid (c.valid = true → backN c.loans ≤ 4) := fun h => by
      unfold heavyB at hV
      rw [h] at hV
      simp at hV
      omega
    clear hV
    go_enter Try.func3, Try.ntmps3
    go_wp2_with fail
    refine (HGR.out _).mono ?_
    rintro e w2 ⟨rfl, hb2⟩
    obtain ⟨c0, c1, c2, c3⟩ := cells_new (w := w2) ((hb2.block _ (by simp)).trans HA.out)
    have HG := Lib.hid (HG.out.mono hb2)
    have HB := Lib.hid (bst HB1.out hb2)
    clear hb2
    go_wp2_with fail
    refine (heavy_any HG.out).mono ?_
    rintro e w2' ⟨rfl, hb2⟩
    rw [HV.out]
    have c0 := cell_stays hb2 c0
    have c1 := cell_stays hb2 c1
    have c2 := cell_stays hb2 c2
    have c3 := cell_stays hb2 c3
    have HG := Lib.hid (HG.out.mono hb2)
    have HB := Lib.hid (bst HB.out hb2)
    clear hb2
    go_wp2_with fail
    refine (check_any HG.out).mono ?_
    rintro e w3 ⟨rfl, hb3⟩
    have c0 := cell_stays hb3 c0
    have c1 := cell_stays hb3 c1
    have c2 := cell_stays hb3 c2
    have c3 := cell_stays hb3 c3
    have HG := Lib.hid (HG.out.mono hb3)
    have HB := Lib.hid (bst HB.out hb3)
    clear hb3
    go_wp2_with fail
    refine (rcheck_any HG.out HBK.out).mono ?_
    rintro e w4 ⟨rfl, hb4⟩
    have c0 := cell_stays hb4 c0
    have c1 := cell_stays hb4 c1
    have c2 := cell_stays hb4 c2
    have c3 := cell_stays hb4 c3
    have HG := Lib.hid (HG.out.mono hb4)
    have HB := Lib.hid (bst HB.out hb4)
    clear hb4
    go_wp2_with fail
    refine (where_any HG.out n).mono ?_
    rintro e w5 ⟨rfl, hb5⟩
    have c0 := cell_stays hb5 c0
    have c1 := cell_stays hb5 c1
    have c2 := cell_stays hb5 c2
    have c3 := cell_stays hb5 c3
    have HG := Lib.hid (HG.out.mono hb5)
    have HB := Lib.hid (bst HB.out hb5)
    clear hb5
    go_wp2_with fail
    refine (rwhereE_any HG.out HBK.out n).mono ?_
    rintro e w6 ⟨rfl, hb6⟩
    have c0 := cell_stays hb6 c0
    have c1 := cell_stays hb6 c1
    have c2 := cell_stays hb6 c2
    have c3 := cell_stays hb6 c3
    have HG := Lib.hid (HG.out.mono hb6)
    have HB := Lib.hid (bst HB.out hb6)
    clear hb6
    go_wp2_with fail
    refine (slot_any HG.out m).mono ?_
    rintro e w7 ⟨rfl, hb7⟩
    have c0 := cell_stays hb7 c0
    have c1 := cell_stays hb7 c1
    have c2 := cell_stays hb7 c2
    have c3 := cell_stays hb7 c3
    have HG := Lib.hid (HG.out.mono hb7)
    have HB := Lib.hid (bst HB.out hb7)
    clear hb7
    go_wp2_with fail
    refine (rslotE_any HG.out HBK.out m).mono ?_
    rintro e w8 ⟨rfl, hb8⟩
    have c0 := cell_stays hb8 c0
    have c1 := cell_stays hb8 c1
    have c2 := cell_stays hb8 c2
    have c3 := cell_stays hb8 c3
    have HG := Lib.hid (HG.out.mono hb8)
    have HB := Lib.hid (bst HB.out hb8)
    clear hb8
    go_wp2_with fail
    refine (wrongs_any HG.out).mono ?_
    rintro e w9 ⟨rfl, hb9⟩
    have c0 := cell_stays hb9 c0
    have c1 := cell_stays hb9 c1
    have c2 := cell_stays hb9 c2
    have c3 := cell_stays hb9 c3
    have HG := Lib.hid (HG.out.mono hb9)
    have HB := Lib.hid (bst HB.out hb9)
    clear hb9
    go_wp2_with fail
    refine (rwrongsE_any HG.out HBK.out).mono ?_
    rintro e w10 ⟨rfl, hb10⟩
    have c0 := cell_stays hb10 c0
    have c1 := cell_stays hb10 c1
    have c2 := cell_stays hb10 c2
    have c3 := cell_stays hb10 c3
    have HG := Lib.hid (HG.out.mono hb10)
    have HB := Lib.hid (bst HB.out hb10)
    clear hb10
    go_wp2_with fail
    refine (alive_any _).mono ?_
    rintro e w20 ⟨rfl, hb20⟩
    go_wp2_with fail
    go_ret
    exact ⟨rfl, bst HB.out hb20⟩
end Go.Proofs.Ytlhobddaojdnoaa
