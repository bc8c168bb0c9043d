/- The document's views: all is so. -/
import Derived.Test.YtphefhpmbahagaaT49
namespace Go.Proofs.Ytphefhpmbahagaa
open Go.RowKit
set_option linter.unusedVariables false
set_option linter.unusedSimpArgs false

set_option maxRecDepth 100000 in
set_option maxHeartbeats 4000000 in
theorem alive13 (w : World) : Calls Try.prog 13 #[] w fun e w' => e = .returned (.bool true) ∧ Below w.heap.size w w' := by
  have HB := Lib.hid (Below.refl w.heap.size w)
  go_enter Try.func13, Try.ntmps13
  go_wp2_with fail
  refine (sample32 _).mono ?_
  rintro e a1 ⟨A1, rfl, hA, hb⟩
  have HA := Lib.hid hA
  have HX := Lib.hid (HB.out.trans (hb.mono HB.out.size))
  clear hA hb HB
  have HB := HX
  clear HX
  go_wp2_with fail
  have hb6 : Below a1.heap.size a1 (a1.alloc (.cells #[.int .i64 1, .int .i64 2, .int .i64 0] 3)) := (Below.refl _ _).alloc (Nat.le_refl _) _
  have q6 := World.alloc_heap_new a1 (.cells #[.int .i64 1, .int .i64 2, .int .i64 0] 3)
  refine (s_walked (HA.out.mono hb6) q6).mono ?_
  rintro e a2 ⟨rfl, hb0⟩
  have hb := hb6.trans (hb0.mono hb6.size)
  have HX := Lib.hid (HB.out.trans (hb.mono HB.out.size))
  clear hb hb0 HA HB hb6 q6
  have HB := HX
  clear HX
  go_wp2_with fail
  refine (sample32 _).mono ?_
  rintro e a3 ⟨A3, rfl, hA, hb⟩
  have HA := Lib.hid hA
  have HX := Lib.hid (HB.out.trans (hb.mono HB.out.size))
  clear hA hb HB
  have HB := HX
  clear HX
  go_wp2_with fail
  have hb6 : Below a3.heap.size a3 (a3.alloc (.cells #[.int .i64 0, .int .i64 1, .int .i64 2] 3)) := (Below.refl _ _).alloc (Nat.le_refl _) _
  have q6 := World.alloc_heap_new a3 (.cells #[.int .i64 0, .int .i64 1, .int .i64 2] 3)
  refine (s_times (HA.out.mono hb6) q6).mono ?_
  rintro e a4 ⟨av, cv, rfl, hts, hb0⟩
  have hb := hb6.trans (hb0.mono hb6.size)
  have HX := Lib.hid (And.intro (HB.out.trans (hb.mono HB.out.size)) hts)
  clear hb hb0 HA HB hb6 q6 hts
  have HB := HX
  clear HX
  go_upto_region 3 with fail
  have q7 := World.alloc_heap_new a4 (.cells #[.int .i64 505, .int .i64 520] 33)
  have hb7 : Below a4.heap.size a4 (a4.alloc (.cells #[.int .i64 505, .int .i64 520] 33)) := (Below.refl _ _).alloc (Nat.le_refl _) _
  have HX := Lib.hid (And.intro (HB.out.1.trans (hb7.mono HB.out.1.size)) (And.intro (HB.out.2.mono hb7) q7))
  clear q7 hb7 HB
  have HB := HX
  clear HX
  revert HB
  generalize (a4.alloc (.cells #[.int .i64 505, .int .i64 520] 33)) = c1
  generalize a4.heap.size = pb
  intro HB
  go_wp2_with fail
  refine (sample32 _).mono ?_
  rintro e a5 ⟨A5, rfl, hA, hb⟩
  have HA := Lib.hid hA
  have HX := Lib.hid (And.intro (HB.out.1.trans (hb.mono HB.out.1.size)) (And.intro (HB.out.2.1.mono hb) ((hb.block _ (heap_lt HB.out.2.2)).trans HB.out.2.2)))
  clear hA hb HB
  have HB := HX
  clear HX
  go_wp2_with fail
  have hb6 : Below a5.heap.size a5 (a5.alloc (.cells #[.int .i64 1, .int .i64 2, .int .i64 0] 3)) := (Below.refl _ _).alloc (Nat.le_refl _) _
  have q6 := World.alloc_heap_new a5 (.cells #[.int .i64 1, .int .i64 2, .int .i64 0] 3)
  refine (s_late (HA.out.mono hb6) q6).mono ?_
  rintro e a6 ⟨rfl, hb0⟩
  have hb := hb6.trans (hb0.mono hb6.size)
  have HX := Lib.hid (And.intro (HB.out.1.trans (hb.mono HB.out.1.size)) (And.intro (HB.out.2.1.mono hb) ((hb.block _ (heap_lt HB.out.2.2)).trans HB.out.2.2)))
  clear hb hb0 HA HB hb6 q6
  have HB := HX
  clear HX
  go_wp2_with fail
  refine (sample32 _).mono ?_
  rintro e a7 ⟨A7, rfl, hA, hb⟩
  have HA := Lib.hid hA
  have HX := Lib.hid (And.intro (HB.out.1.trans (hb.mono HB.out.1.size)) (And.intro (HB.out.2.1.mono hb) ((hb.block _ (heap_lt HB.out.2.2)).trans HB.out.2.2)))
  clear hA hb HB
  have HB := HX
  clear HX
  go_wp2_with fail
  refine (s_tours HA.out).mono ?_
  rintro e a8 ⟨rfl, hb0⟩
  have hb := hb0
  have HX := Lib.hid (And.intro (HB.out.1.trans (hb.mono HB.out.1.size)) (And.intro (HB.out.2.1.mono hb) ((hb.block _ (heap_lt HB.out.2.2)).trans HB.out.2.2)))
  clear hb hb0 HA HB
  have HB := HX
  clear HX
  go_wp2_with fail
  refine (sample32 _).mono ?_
  rintro e a9 ⟨A9, rfl, hA, hb⟩
  have HA := Lib.hid hA
  have HX := Lib.hid (And.intro (HB.out.1.trans (hb.mono HB.out.1.size)) (And.intro (HB.out.2.1.mono hb) ((hb.block _ (heap_lt HB.out.2.2)).trans HB.out.2.2)))
  clear hA hb HB
  have HB := HX
  clear HX
  go_wp2_with fail
  refine (s_short HA.out).mono ?_
  rintro e a10 ⟨as1, cs1, rfl, hsh, hb0⟩
  have hb := hb0
  have HX := Lib.hid (And.intro (HB.out.1.trans (hb.mono HB.out.1.size)) (And.intro (HB.out.2.1.mono hb) (And.intro ((hb.block _ (heap_lt HB.out.2.2)).trans HB.out.2.2) hsh)))
  clear hb hb0 HA HB hsh
  have HB := HX
  clear HX
  go_wp2_with fail
  refine (sample32 _).mono ?_
  rintro e a11 ⟨A11, rfl, hA, hb⟩
  have HA := Lib.hid hA
  have HX := Lib.hid (And.intro (HB.out.1.trans (hb.mono HB.out.1.size)) (And.intro (HB.out.2.1.mono hb) (And.intro ((hb.block _ (heap_lt HB.out.2.2.1)).trans HB.out.2.2.1) (HB.out.2.2.2.mono hb))))
  clear hA hb HB
  have HB := HX
  clear HX
  go_wp2_with fail
  refine (s_most HA.out).mono ?_
  rintro e a12 ⟨am, cm, rfl, hmo, hb0⟩
  have hb := hb0
  have HX := Lib.hid (And.intro (HB.out.1.trans (hb.mono HB.out.1.size)) (And.intro (HB.out.2.1.mono hb) (And.intro ((hb.block _ (heap_lt HB.out.2.2.1)).trans HB.out.2.2.1) (And.intro (HB.out.2.2.2.mono hb) hmo))))
  clear hb hb0 HA HB hmo
  have HB := HX
  clear HX
  go_wp2_with fail
  refine (sample32 _).mono ?_
  rintro e a13 ⟨A13, rfl, hA, hb⟩
  have HA := Lib.hid hA
  have HX := Lib.hid (And.intro (HB.out.1.trans (hb.mono HB.out.1.size)) (And.intro (HB.out.2.1.mono hb) (And.intro ((hb.block _ (heap_lt HB.out.2.2.1)).trans HB.out.2.2.1) (And.intro (HB.out.2.2.2.1.mono hb) (HB.out.2.2.2.2.mono hb)))))
  clear hA hb HB
  have HB := HX
  clear HX
  go_wp2_with fail
  refine (s_before HA.out).mono ?_
  rintro e a14 ⟨rfl, hb0⟩
  have hb := hb0
  have HX := Lib.hid (And.intro (HB.out.1.trans (hb.mono HB.out.1.size)) (And.intro (HB.out.2.1.mono hb) (And.intro ((hb.block _ (heap_lt HB.out.2.2.1)).trans HB.out.2.2.1) (And.intro (HB.out.2.2.2.1.mono hb) (HB.out.2.2.2.2.mono hb)))))
  clear hb hb0 HA HB
  have HB := HX
  clear HX
  go_wp2_with fail
  refine (sample32 _).mono ?_
  rintro e a15 ⟨A15, rfl, hA, hb⟩
  have HA := Lib.hid hA
  have HX := Lib.hid (And.intro (HB.out.1.trans (hb.mono HB.out.1.size)) (And.intro (HB.out.2.1.mono hb) (And.intro ((hb.block _ (heap_lt HB.out.2.2.1)).trans HB.out.2.2.1) (And.intro (HB.out.2.2.2.1.mono hb) (HB.out.2.2.2.2.mono hb)))))
  clear hA hb HB
  have HB := HX
  clear HX
  go_wp2_with fail
  have hb6 : Below a15.heap.size a15 (a15.alloc (.cells #[.int .i64 1, .int .i64 0, .int .i64 2] 3)) := (Below.refl _ _).alloc (Nat.le_refl _) _
  have q6 := World.alloc_heap_new a15 (.cells #[.int .i64 1, .int .i64 0, .int .i64 2] 3)
  refine (s_later (HA.out.mono hb6) q6).mono ?_
  rintro e a16 ⟨rfl, hb0⟩
  have hb := hb6.trans (hb0.mono hb6.size)
  have HX := Lib.hid (And.intro (HB.out.1.trans (hb.mono HB.out.1.size)) (And.intro (HB.out.2.1.mono hb) (And.intro ((hb.block _ (heap_lt HB.out.2.2.1)).trans HB.out.2.2.1) (And.intro (HB.out.2.2.2.1.mono hb) (HB.out.2.2.2.2.mono hb)))))
  clear hb hb0 HA HB hb6 q6
  have HB := HX
  clear HX
  go_upto_region 9 with fail
  have c41 : ∀ (x y : Int) (v : World), Below a16.heap.size a16 v → Calls Try.prog 41 #[.int .i64 x, .int .i64 y] v fun e w' => ∃ u : Unit, e = .returned (.agg #[.int .i64 x, .int .i64 y]) ∧ Below a16.heap.size a16 w' := fun x y v h => (span41 x y v).mono fun e w' he => ⟨(), he.1, h.trans (he.2.mono h.size)⟩
  have C41 := Lib.hid c41
  clear c41
  refine wpIn_wide.1 (alive9 (av := av) (cv := cv) (pb := pb) (S0 := fun v => Below a16.heap.size a16 v) (S1 := fun _ v => Below a16.heap.size a16 v) (S2 := fun _ _ v => Below a16.heap.size a16 v) (S3 := fun _ _ _ v => Below a16.heap.size a16 v)
    (S4 := fun _ _ _ xs v => Below a16.heap.size a16 v ∧ ∃ g, xs = .slice (some ⟨g, 0, none⟩) 3 3 ∧ IsSpns v (some ⟨g, 0, none⟩) [⟨420, 420⟩, ⟨445, 455⟩, ⟨500, 510⟩]) (S5 := fun _ _ _ _ _ v => Below a16.heap.size a16 v) (S6 := fun _ _ _ _ _ _ v => Below a16.heap.size a16 v)
    (Below.refl _ _).drew (fun v h => C41.out _ _ v h) (fun _ v h => C41.out _ _ v h) (fun _ _ v h => C41.out _ _ v h) ?c11 ?c12 ?l16 (fun _ _ _ _ _ v h => C41.out _ _ v h) ?hQa)
  case c11 =>
    intro _ _ _ v h
    have q := World.alloc_heap_new v (.cells #[.int .i64 420, .int .i64 420, .int .i64 445, .int .i64 455, .int .i64 500, .int .i64 510] 33)
    exact ⟨h.alloc h.size _, v.heap.size, rfl, spns_of (a := ⟨420, 420⟩) (b := ⟨445, 455⟩) (c := ⟨500, 510⟩) q⟩
  case c12 =>
    rintro _ _ _ xs v ⟨h, g, rfl, hs⟩
    refine (spans22 (l := [⟨420, 420⟩, ⟨445, 455⟩, ⟨500, 510⟩]) (m := [⟨420, 420⟩, ⟨445, 455⟩, ⟨500, 510⟩]) (ca := cv) (cb := 3) (HB.out.2.1.mono h) hs (by decide) (by decide)).mono ?_
    rintro e w' ⟨rfl, hb⟩
    exact ⟨(), rfl, h.trans (hb.mono h.size)⟩
  case l16 =>
    intro _ _ _ _ _ _ v h
    have h : Below a16.heap.size a16 v := h.elim id id
    have q := (h.block _ (heap_lt HB.out.2.2.1)).trans HB.out.2.2.1
    exact ⟨by rw [cell_of_heap q]; rfl, by rw [cell_of_heap q]; rfl⟩
  intro _ _ _ xs _ _ b1 hb
  have HX := Lib.hid (And.intro (HB.out.1.trans (hb.mono HB.out.1.size)) (And.intro (HB.out.2.2.2.1.mono hb) (HB.out.2.2.2.2.mono hb)))
  clear hb HB C41
  have HB := HX
  clear HX
  go_wp2_with fail
  have hb6 : Below b1.heap.size b1 (b1.alloc (.cells #[.int .i64 1, .int .i64 0, .int .i64 2] 3)) := (Below.refl _ _).alloc (Nat.le_refl _) _
  have q6 := World.alloc_heap_new b1 (.cells #[.int .i64 1, .int .i64 0, .int .i64 2] 3)
  refine (ints31 (l := [1, 0, 2]) (m := [1, 0, 2]) (ca := cs1) (cb := 3) (HB.out.2.1.mono hb6) (ints_three q6) (by decide) (by decide)).mono ?_
  rintro e b2 ⟨rfl, hb⟩
  have hb := hb6.trans (hb.mono hb6.size)
  have HX := Lib.hid (And.intro (HB.out.1.trans (hb.mono HB.out.1.size)) (And.intro (HB.out.2.1.mono hb) (HB.out.2.2.mono hb)))
  clear hb HB hb6 q6
  have HB := HX
  clear HX
  rw [show decide (([1, 0, 2] : List Int) = [1, 0, 2]) = true by decide]
  go_wp2_with fail
  refine (ints31 (l := [1, 0, 2]) (m := [1, 0, 2]) (ca := cm) (cb := cs1) HB.out.2.2 HB.out.2.1 (by decide) (by decide)).mono ?_
  rintro e b3 ⟨rfl, hb⟩
  have HX := Lib.hid (HB.out.1.trans (hb.mono HB.out.1.size))
  clear hb HB
  rw [show decide (([1, 0, 2] : List Int) = [1, 0, 2]) = true by decide]
  go_wp2_with fail
  go_ret
  exact ⟨rfl, HX.out⟩
end Go.Proofs.Ytphefhpmbahagaa
