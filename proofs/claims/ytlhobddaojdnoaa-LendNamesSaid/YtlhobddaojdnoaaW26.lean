/- The law LendNames answers true. -/
import Derived.Test.YtlhobddaojdnoaaW25
namespace Go.Proofs.Ytlhobddaojdnoaa
open Go.RowKit

theorem names3 : check (sampleC 1 false) = (0, 4) ∧ check (sampleC 2 true) = (0, 4) ∧ whereE (sampleC 1 false) 1 = (10, false, 0) ∧ whereE (sampleC 1 false) 2 = (4, false, 0) := by
  decide +kernel
set_option maxRecDepth 100000 in
set_option maxHeartbeats 4000000 in
theorem lendNames_any (w : World) : Calls Try.prog 5 #[] w fun e w' => e = .returned (.bool true) ∧ Below w.heap.size w w' := by
  go_enter Try.func5, Try.ntmps5
  go_wp2_with fail
  refine (sample_no 1 _).mono ?_
  rintro e a0 ⟨⟨ah, ch, al, cl, rfl, hg⟩, ha0⟩
  go_wp2_with fail
  refine (check_any hg).mono ?_
  rintro e b0 ⟨rfl, hb0⟩
  rw [names3.1]
  clear hg
  go_wp2_with fail
  refine (sample_yes 2 _).mono ?_
  rintro e a1 ⟨⟨ah, ch, al, cl, rfl, hg⟩, ha1⟩
  go_wp2_with fail
  refine (check_any hg).mono ?_
  rintro e b1 ⟨rfl, hb1⟩
  rw [names3.2.1]
  clear hg
  go_wp2_with fail
  refine (sample_no 1 _).mono ?_
  rintro e a2 ⟨⟨ah, ch, al, cl, rfl, hg⟩, ha2⟩
  go_wp2_with fail
  refine (where_any hg 1).mono ?_
  rintro e b2 ⟨rfl, hb2⟩
  rw [names3.2.2.1]
  clear hg
  go_wp2_with fail
  refine (sample_no 1 _).mono ?_
  rintro e a3 ⟨⟨ah, ch, al, cl, rfl, hg⟩, ha3⟩
  go_wp2_with fail
  refine (where_any hg 2).mono ?_
  rintro e b3 ⟨rfl, hb3⟩
  rw [names3.2.2.2]
  clear hg
  go_wp2_with fail
  refine (sample_no 1 _).mono ?_
  rintro e a4 ⟨⟨ah, ch, al, cl, rfl, hg⟩, ha4⟩
  go_wp2_with fail
  refine (slot_any hg 0).mono ?_
  rintro e b4 ⟨rfl, hb4⟩
  rw [names1.2.2.2.2.1]
  clear hg
  go_wp2_with fail
  refine (sample_no 1 _).mono ?_
  rintro e a5 ⟨⟨ah, ch, al, cl, rfl, hg⟩, ha5⟩
  go_wp2_with fail
  refine (wrongs_any hg).mono ?_
  rintro e b5 ⟨rfl, hb5⟩
  rw [names1.2.2.2.2.2]
  clear hg
  go_wp2_with fail
  refine (sample_no 1 _).mono ?_
  rintro e a6 ⟨⟨ah, ch, al, cl, rfl, hg⟩, ha6⟩
  go_wp2_with fail
  refine (blame_any hg).mono ?_
  rintro e b6 ⟨rfl, hb6⟩
  rw [names2.1]
  clear hg
  go_wp2_with fail
  refine (sample_yes 2 _).mono ?_
  rintro e a7 ⟨⟨ah, ch, al, cl, rfl, hg⟩, ha7⟩
  go_wp2_with fail
  refine (people_any hg).mono ?_
  rintro e b7 ⟨rfl, hb7⟩
  rw [names2.2.1]
  clear hg
  go_wp2_with fail
  refine (sample_no 1 _).mono ?_
  rintro e a8 ⟨⟨ah, ch, al, cl, rfl, hg⟩, ha8⟩
  go_wp2_with fail
  refine (misplaced_any hg).mono ?_
  rintro e b8 ⟨rfl, hb8⟩
  rw [names2.2.2.1]
  clear hg
  go_wp2_with fail
  refine (sample_yes 2 _).mono ?_
  rintro e a9 ⟨⟨ah, ch, al, cl, rfl, hg⟩, ha9⟩
  go_wp2_with fail
  refine (next_any hg).mono ?_
  rintro e b9 ⟨rfl, hb9⟩
  rw [names2.2.2.2]
  clear hg
  go_wp2_with fail
  refine (alive_any b9).mono ?_
  rintro e c0 ⟨rfl, hc0⟩
  go_wp2_with fail
  have hs := World.alloc_heap_new b8 (.cells #[.int .i64 0, .int .i64 1] 37)
  have s0 : c0.cell? ⟨b8.heap.size, 0, none⟩ = some (.int .i64 0) := cell_stays hc0 (cell_stays hb9 (cell_stays ha9 (by rw [cell_of_heap hs]; rfl)))
  have s1 : c0.cell? ⟨b8.heap.size, 1, none⟩ = some (.int .i64 1) := cell_stays hc0 (cell_stays hb9 (cell_stays ha9 (by rw [cell_of_heap hs]; rfl)))
  have x0 := fun y : Aft c0.heap.size c0 => cell_stays y.h s0
  have x1 := fun y : Aft c0.heap.size c0 => cell_stays y.h s1
  refine wp_region_aft mixed (by kernel_rfl) ?_
  repeat (go_big_quiet_step ((go_at_call 32; exact calls_aft (span_any 0 1 _))))
  refine wpQuiet_nil ?_
  rintro _ ⟨y, rfl⟩
  go_wp2
  go_ret
  have h8 := bstep (bstep (bstep (bstep (bstep (bstep (bstep (bstep (bstep (bstep (bstep (bstep (bstep (bstep (bstep (bstep (bstep ha0 hb0) ha1) hb1) ha2) hb2) ha3) hb3) ha4) hb4) ha5) hb5) ha6) hb6) ha7) hb7) ha8) hb8
  exact ⟨rfl, bstep (bstep (bstep (bstep (h8.alloc h8.size _) ha9) hb9) hc0) y.h⟩
end Go.Proofs.Ytlhobddaojdnoaa
