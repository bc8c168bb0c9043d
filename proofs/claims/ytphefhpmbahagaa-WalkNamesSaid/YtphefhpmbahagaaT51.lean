/- WalkNames. -/
import Derived.Test.YtphefhpmbahagaaT50
namespace Go.Proofs.Ytphefhpmbahagaa
open Go.RowKit
set_option linter.unusedVariables false
set_option linter.unusedSimpArgs false

set_option maxRecDepth 100000 in
set_option maxHeartbeats 4000000 in
theorem walkNames_any (w : World) : Calls Try.prog 5 #[] w fun e w' => e = .returned (.bool true) ∧ Below w.heap.size w w' := by
  have HB := Lib.hid (Below.refl w.heap.size w)
  go_enter Try.func5, Try.ntmps5
  go_wp2_with fail
  refine (sample32 _).mono ?_
  rintro e a1 ⟨A1, rfl, hA, hb⟩
  have HA := Lib.hid hA
  have HX := Lib.hid (HB.out.trans (hb.mono HB.out.size))
  clear hA hb HB
  have HB := HX
  clear HX
  go_wp2_with fail
  have hb6 : Below a1.heap.size a1 (a1.alloc (.cells #[.int .i64 1, .int .i64 0, .int .i64 2] 3)) := (Below.refl _ _).alloc (Nat.le_refl _) _
  have q6 := World.alloc_heap_new a1 (.cells #[.int .i64 1, .int .i64 0, .int .i64 2] 3)
  refine (s_walked2 (HA.out.mono hb6) q6).mono ?_
  rintro e a2 ⟨rfl, hb0⟩
  have hb := hb6.trans (hb0.mono hb6.size)
  have HX := Lib.hid (HB.out.trans (hb.mono HB.out.size))
  clear hb hb0 HA HB hb6 q6
  have HB := HX
  clear HX
  go_wp2_with fail
  refine (sample32 _).mono ?_
  rintro e a3 ⟨A3, rfl, hA, hb⟩
  have HA := Lib.hid hA
  have HX := Lib.hid (HB.out.trans (hb.mono HB.out.size))
  clear hA hb HB
  have HB := HX
  clear HX
  go_wp2_with fail
  have hb6 : Below a3.heap.size a3 (a3.alloc (.cells #[.int .i64 0, .int .i64 1, .int .i64 2] 3)) := (Below.refl _ _).alloc (Nat.le_refl _) _
  have q6 := World.alloc_heap_new a3 (.cells #[.int .i64 0, .int .i64 1, .int .i64 2] 3)
  refine (s_late2 (HA.out.mono hb6) q6).mono ?_
  rintro e a4 ⟨x1, y1, rfl, hb0⟩
  have hb := hb6.trans (hb0.mono hb6.size)
  have HX := Lib.hid (HB.out.trans (hb.mono HB.out.size))
  clear hb hb0 HA HB hb6 q6
  have HB := HX
  clear HX
  go_wp2_with fail
  refine (sample32 _).mono ?_
  rintro e a5 ⟨A5, rfl, hA, hb⟩
  have HA := Lib.hid hA
  have HX := Lib.hid (HB.out.trans (hb.mono HB.out.size))
  clear hA hb HB
  have HB := HX
  clear HX
  go_wp2_with fail
  refine (s_before2 HA.out).mono ?_
  rintro e a6 ⟨rfl, hb0⟩
  have hb := hb0
  have HX := Lib.hid (HB.out.trans (hb.mono HB.out.size))
  clear hb hb0 HA HB
  have HB := HX
  clear HX
  go_wp2_with fail
  refine (alive13 _).mono ?_
  rintro e b1 ⟨rfl, hb⟩
  have HX := Lib.hid (HB.out.trans (hb.mono HB.out.size))
  clear hb HB
  go_wp2_with fail
  go_ret
  exact ⟨rfl, HX.out⟩
end Go.Proofs.Ytphefhpmbahagaa
