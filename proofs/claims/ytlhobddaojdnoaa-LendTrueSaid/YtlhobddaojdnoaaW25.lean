/- The sample answers as it should. -/
import Derived.Test.YtlhobddaojdnoaaW24
namespace Go.Proofs.Ytlhobddaojdnoaa
open Go.RowKit

theorem bstep {w a b : World} (h : Below w.heap.size w a) (k : Below a.heap.size a b) : Below w.heap.size w b := h.trans (k.mono h.size)
set_option maxRecDepth 100000 in
set_option maxHeartbeats 2000000 in
theorem alive_any (w : World) : Calls Try.prog 14 #[] w fun e w' => e = .returned (.bool true) ∧ Below w.heap.size w w' := by
  go_enter Try.func14, Try.ntmps14
  go_wp2_with fail
  refine (sample_yes 1 w).mono ?_
  rintro e a0 ⟨⟨ah, ch, al, cl, rfl, hg⟩, ha0⟩
  go_wp2_with fail
  refine (check_any hg).mono ?_
  rintro e b0 ⟨rfl, hb0⟩
  rw [alive1.1]
  clear hg
  go_wp2_with fail
  refine (sample_no 1 b0).mono ?_
  rintro e a1 ⟨⟨ah, ch, al, cl, rfl, hg⟩, ha1⟩
  go_wp2_with fail
  refine (where_any hg 0).mono ?_
  rintro e b1 ⟨rfl, hb1⟩
  rw [alive1.2.1]
  clear hg
  go_wp2_with fail
  refine (sample_no 1 b1).mono ?_
  rintro e a2 ⟨⟨ah, ch, al, cl, rfl, hg⟩, ha2⟩
  go_wp2_with fail
  refine (slot_any hg 3).mono ?_
  rintro e b2 ⟨rfl, hb2⟩
  rw [alive1.2.2.1]
  clear hg
  go_wp2_with fail
  refine (sample_yes 1 b2).mono ?_
  rintro e a3 ⟨⟨ah, ch, al, cl, rfl, hg⟩, ha3⟩
  go_wp2_with fail
  refine (wrongs_any hg).mono ?_
  rintro e b3 ⟨rfl, hb3⟩
  rw [alive1.2.2.2]
  clear hg
  go_wp2_with fail
  refine (sample_yes 2 b3).mono ?_
  rintro e a4 ⟨⟨ah, ch, al, cl, rfl, hg⟩, ha4⟩
  go_wp2_with fail
  refine (blame_any hg).mono ?_
  rintro e b4 ⟨rfl, hb4⟩
  rw [alive2.1]
  clear hg
  go_wp2_with fail
  refine (sample_no 1 b4).mono ?_
  rintro e a5 ⟨⟨ah, ch, al, cl, rfl, hg⟩, ha5⟩
  go_wp2_with fail
  refine (people_any hg).mono ?_
  rintro e b5 ⟨rfl, hb5⟩
  rw [alive2.2.1]
  clear hg
  go_wp2_with fail
  refine (sample_yes 2 b5).mono ?_
  rintro e a6 ⟨⟨ah, ch, al, cl, rfl, hg⟩, ha6⟩
  go_wp2_with fail
  refine (misplaced_any hg).mono ?_
  rintro e b6 ⟨rfl, hb6⟩
  rw [alive2.2.2.1]
  clear hg
  go_wp2_with fail
  refine (sample_no 1 _).mono ?_
  rintro e a7 ⟨⟨ah, ch, al, cl, rfl, hg⟩, ha7⟩
  go_wp2_with fail
  refine (next_any hg).mono ?_
  rintro e b7 ⟨rfl, hb7⟩
  rw [alive2.2.2.2]
  clear hg
  go_wp2_with fail
  have hs := World.alloc_heap_new b6 (.cells #[.int .i64 2, .int .i64 2] 37)
  have s0 : b7.cell? ⟨b6.heap.size, 0, none⟩ = some (.int .i64 2) := cell_stays hb7 (cell_stays ha7 (by rw [cell_of_heap hs]; rfl))
  have s1 : b7.cell? ⟨b6.heap.size, 1, none⟩ = some (.int .i64 2) := cell_stays hb7 (cell_stays ha7 (by rw [cell_of_heap hs]; rfl))
  have x0 := fun y : Aft b7.heap.size b7 => cell_stays y.h s0
  have x1 := fun y : Aft b7.heap.size b7 => cell_stays y.h s1
  refine wp_region_aft mixed (by kernel_rfl) ?_
  repeat (go_big_quiet_step ((go_at_call 32; exact calls_aft (span_any 2 2 _))))
  refine wpQuiet_nil ?_
  rintro _ ⟨y, rfl⟩
  go_wp2
  go_ret
  have h6 := bstep (bstep (bstep (bstep (bstep (bstep (bstep (bstep (bstep (bstep (bstep (bstep (bstep ha0 hb0) ha1) hb1) ha2) hb2) ha3) hb3) ha4) hb4) ha5) hb5) ha6) hb6
  exact ⟨rfl, bstep (bstep (bstep (h6.alloc h6.size _) ha7) hb7) y.h⟩
end Go.Proofs.Ytlhobddaojdnoaa
