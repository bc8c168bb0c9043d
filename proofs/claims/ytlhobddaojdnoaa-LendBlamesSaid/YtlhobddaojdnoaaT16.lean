/- The law LendBlames. -/
import Derived.Test.YtlhobddaojdnoaaT9
import Derived.Test.YtlhobddaojdnoaaT12
import Derived.Test.YtlhobddaojdnoaaTD
namespace Go.Proofs.Ytlhobddaojdnoaa
open Go.RowKit
set_option linter.unusedVariables false

set_option maxRecDepth 100000 in
set_option maxHeartbeats 2000000 in
theorem lendBlames_any {c : Cab} {w : World} {ah : Option Addr} {ch : Nat} {al : Option Addr} {cl : Nat} (hi : IsInts w ah c.homes) (li : IsLoans w al c.loans) (hcl : c.loans.length ≤ cl) :
    Calls Try.prog 4 #[c.v ah ch al cl] w fun e w' => e = .returned (.bool true) ∧ Below w.heap.size w w' := by
  have hb1 : Below w.heap.size w (w.alloc (.cells (c.cells ah ch al cl) 25)) := (Below.refl _ w).alloc (Nat.le_refl _) _
  have HB1 := Lib.hid hb1
  have great := fun w' => great_any c (ah := ah) (ch := ch) (al := al) (cl := cl) w'
  have hgr : greatB c = (decide (16 < c.homes.length) || decide (30 < c.loans.length)) := rfl
  rw [← hgr] at great
  have HGR := Lib.hid great
  clear hgr great
  cases hG : greatB c with
  | true =>
    rw [hG] at HGR
    clear hG hb1
    go_enter Try.func4, Try.ntmps4
    go_wp2_with fail
    refine (HGR.out _).mono ?_
    rintro e w2 ⟨rfl, hb2⟩
    go_wp2_with fail
    refine (alive_any _).mono ?_
    rintro e w3 ⟨rfl, hb3⟩
    go_wp2_with fail
    go_ret
    exact ⟨rfl, bst (bst HB1.out hb2) hb3⟩
  | false =>
    rw [hG] at HGR
    have hhl : c.homes.length ≤ 16 ∧ c.loans.length ≤ 30 := by
      unfold greatB at hG
      simp only [Bool.or_eq_false_iff, decide_eq_false_iff_not] at hG
      omega
    have hg : Given (w.alloc (.cells (c.cells ah ch al cl) 25)) c ah ch al cl := ⟨hi.mono hb1, li.mono hb1, hhl.1, hhl.2, hcl⟩
    have hA := World.alloc_heap_new w (.cells (c.cells ah ch al cl) 25)
    have HG := Lib.hid hg
    have HA := Lib.hid hA
    clear hG hb1 hg hA
    cases hV : heavyB c with
    | true =>
      have HV := Lib.hid hV
      clear hV
      go_enter Try.func4, Try.ntmps4
      go_wp2_with fail
      refine (HGR.out _).mono ?_
      rintro e w2 ⟨rfl, hb2⟩
      obtain ⟨c0, c1, c2, c3⟩ := cells_new (w := w2) ((hb2.block _ (by simp)).trans HA.out)
      go_wp2_with fail
      refine (heavy_any (HG.out.mono hb2)).mono ?_
      rintro e w3 ⟨rfl, hb3⟩
      rw [HV.out]
      go_wp2_with fail
      refine (alive_any _).mono ?_
      rintro e w4 ⟨rfl, hb4⟩
      go_wp2_with fail
      go_ret
      exact ⟨rfl, bst (bst (bst HB1.out hb2) hb3) hb4⟩
    | false =>
    have HV := Lib.hid hV
    have HBK : Hid (c.valid = true → backN c.loans ≤ 4) := fun h => by
      unfold heavyB at hV
      rw [h] at hV
      simp at hV
      omega
    clear hV
    go_enter Try.func4, Try.ntmps4
    go_wp2_with fail
    refine (HGR.out _).mono ?_
    rintro e w2 ⟨rfl, hb2⟩
    obtain ⟨c0, c1, c2, c3⟩ := cells_new (w := w2) ((hb2.block _ (by simp)).trans HA.out)
    have HG := Lib.hid (HG.out.mono hb2)
    have HB := Lib.hid (bst HB1.out hb2)
    clear hb2
    go_wp2_with fail
    refine (heavy_any HG.out).mono ?_
    rintro e w2' ⟨rfl, hb2⟩
    rw [HV.out]
    have c0 := cell_stays hb2 c0
    have c1 := cell_stays hb2 c1
    have c2 := cell_stays hb2 c2
    have c3 := cell_stays hb2 c3
    have HG := Lib.hid (HG.out.mono hb2)
    have HB := Lib.hid (bst HB.out hb2)
    clear hb2
    go_wp2_with fail
    refine (blame_any HG.out).mono ?_
    rintro e w3 ⟨rfl, hb3⟩
    have c0 := cell_stays hb3 c0
    have c1 := cell_stays hb3 c1
    have c2 := cell_stays hb3 c2
    have c3 := cell_stays hb3 c3
    have HG := Lib.hid (HG.out.mono hb3)
    have HB := Lib.hid (bst HB.out hb3)
    clear hb3
    go_wp2_with fail
    refine (rblame_any HG.out HBK.out).mono ?_
    rintro e w4 ⟨rfl, hb4⟩
    have c0 := cell_stays hb4 c0
    have c1 := cell_stays hb4 c1
    have c2 := cell_stays hb4 c2
    have c3 := cell_stays hb4 c3
    have HG := Lib.hid (HG.out.mono hb4)
    have HB := Lib.hid (bst HB.out hb4)
    clear hb4
    go_wp2_with fail
    refine (people_any HG.out).mono ?_
    rintro e w5 ⟨rfl, hb5⟩
    have c0 := cell_stays hb5 c0
    have c1 := cell_stays hb5 c1
    have c2 := cell_stays hb5 c2
    have c3 := cell_stays hb5 c3
    have HG := Lib.hid (HG.out.mono hb5)
    have HB := Lib.hid (bst HB.out hb5)
    clear hb5
    go_wp2_with fail
    refine (rpeople_any HG.out HBK.out).mono ?_
    rintro e w6 ⟨rfl, hb6⟩
    have c0 := cell_stays hb6 c0
    have c1 := cell_stays hb6 c1
    have c2 := cell_stays hb6 c2
    have c3 := cell_stays hb6 c3
    have HG := Lib.hid (HG.out.mono hb6)
    have HB := Lib.hid (bst HB.out hb6)
    clear hb6
    go_wp2_with fail
    refine (misplaced_any HG.out).mono ?_
    rintro e w7 ⟨rfl, hb7⟩
    have c0 := cell_stays hb7 c0
    have c1 := cell_stays hb7 c1
    have c2 := cell_stays hb7 c2
    have c3 := cell_stays hb7 c3
    have HG := Lib.hid (HG.out.mono hb7)
    have HB := Lib.hid (bst HB.out hb7)
    clear hb7
    have ha1 : Below w7.heap.size w7 (w7.alloc (.cells #[.int .i64 (misplacedE c).1.1, .int .i64 (misplacedE c).1.2] 37)) := (Below.refl _ _).alloc (Nat.le_refl _) _
    have hn1 := World.alloc_heap_new w7 (.cells #[.int .i64 (misplacedE c).1.1, .int .i64 (misplacedE c).1.2] 37)
    have lt1 := lt_of_cell c0
    have c0' := cell_stays ha1 c0
    have c1' := cell_stays ha1 c1
    have c2' := cell_stays ha1 c2
    have c3' := cell_stays ha1 c3
    have s1 : (w7.alloc (.cells #[.int .i64 (misplacedE c).1.1, .int .i64 (misplacedE c).1.2] 37)).cell? ⟨w7.heap.size, 0, none⟩ = some (.int .i64 (misplacedE c).1.1) := by rw [cell_of_heap hn1]; rfl
    have u1 : (w7.alloc (.cells #[.int .i64 (misplacedE c).1.1, .int .i64 (misplacedE c).1.2] 37)).cell? ⟨w7.heap.size, 1, none⟩ = some (.int .i64 (misplacedE c).1.2) := by rw [cell_of_heap hn1]; rfl
    have HG := Lib.hid (HG.out.mono ha1)
    have HB := Lib.hid (bst HB.out ha1)
    clear hn1 ha1
    go_wp2_with fail
    refine (rmisplaced_any HG.out HBK.out).mono ?_
    rintro e w8 ⟨rfl, hb8⟩
    have c0 := cell_stays hb8 c0'
    have c1 := cell_stays hb8 c1'
    have c2 := cell_stays hb8 c2'
    have c3 := cell_stays hb8 c3'
    have s1 := cell_stays hb8 s1
    have u1 := cell_stays hb8 u1
    have HG := Lib.hid (HG.out.mono hb8)
    have HB := Lib.hid (bst HB.out hb8)
    clear hb8
    have ha2 : Below w8.heap.size w8 (w8.alloc (.cells #[.int .i64 (misplacedE c).1.1, .int .i64 (misplacedE c).1.2] 37)) := (Below.refl _ _).alloc (Nat.le_refl _) _
    have hn2 := World.alloc_heap_new w8 (.cells #[.int .i64 (misplacedE c).1.1, .int .i64 (misplacedE c).1.2] 37)
    have lt2 := lt_of_cell c0
    have c0' := cell_stays ha2 c0
    have c1' := cell_stays ha2 c1
    have c2' := cell_stays ha2 c2
    have c3' := cell_stays ha2 c3
    have s1' := cell_stays ha2 s1
    have u1' := cell_stays ha2 u1
    have s2 : (w8.alloc (.cells #[.int .i64 (misplacedE c).1.1, .int .i64 (misplacedE c).1.2] 37)).cell? ⟨w8.heap.size, 0, none⟩ = some (.int .i64 (misplacedE c).1.1) := by rw [cell_of_heap hn2]; rfl
    have u2 : (w8.alloc (.cells #[.int .i64 (misplacedE c).1.1, .int .i64 (misplacedE c).1.2] 37)).cell? ⟨w8.heap.size, 1, none⟩ = some (.int .i64 (misplacedE c).1.2) := by rw [cell_of_heap hn2]; rfl
    have HG := Lib.hid (HG.out.mono ha2)
    have HB := Lib.hid (bst HB.out ha2)
    clear hn2 ha2
    go_wp2_with fail
    refine (next_any HG.out).mono ?_
    rintro e w9 ⟨rfl, hb9⟩
    have c0 := cell_stays hb9 c0'
    have c1 := cell_stays hb9 c1'
    have c2 := cell_stays hb9 c2'
    have c3 := cell_stays hb9 c3'
    have s1 := cell_stays hb9 s1'
    have u1 := cell_stays hb9 u1'
    have s2 := cell_stays hb9 s2
    have u2 := cell_stays hb9 u2
    have HG := Lib.hid (HG.out.mono hb9)
    have HB := Lib.hid (bst HB.out hb9)
    clear hb9
    go_wp2_with fail
    refine (rnext_any HG.out HBK.out).mono ?_
    rintro e w10 ⟨rfl, hb10⟩
    have c0 := cell_stays hb10 c0
    have c1 := cell_stays hb10 c1
    have c2 := cell_stays hb10 c2
    have c3 := cell_stays hb10 c3
    have s1 := cell_stays hb10 s1
    have u1 := cell_stays hb10 u1
    have s2 := cell_stays hb10 s2
    have u2 := cell_stays hb10 u2
    have HG := Lib.hid (HG.out.mono hb10)
    have HB := Lib.hid (bst HB.out hb10)
    clear hb10
    go_wp2_with fail
    refine (alive_any _).mono ?_
    rintro e w20 ⟨rfl, hb20⟩
    go_wp2_with fail
    go_ret
    exact ⟨rfl, bst HB.out hb20⟩
end Go.Proofs.Ytlhobddaojdnoaa
