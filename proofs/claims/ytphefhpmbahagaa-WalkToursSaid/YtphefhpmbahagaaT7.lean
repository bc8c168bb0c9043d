/- Whether a view is in time; what a walk came to; a walk's two functions. -/
import Derived.Test.YtphefhpmbahagaaT6
namespace Go.Proofs.Ytphefhpmbahagaa
open Go.RowKit
set_option linter.unusedVariables false
set_option linter.unusedSimpArgs false

set_option maxRecDepth 100000 in
set_option maxHeartbeats 1000000 in
theorem holds59 {t : Tr} {A : TrA} {tb : Nat} {w : World} (hP : TourP w tb t A) (hF : t.Fit) {v : Nat} (hv : v < t.frm.length) (x y : Int) :
    Calls Try.prog 59 #[.agg #[], .pointer (some ⟨tb, 0, none⟩), .int .i64 v, .agg #[.int .i64 x, .int .i64 y]] w fun e w' => e = .returned (.bool (decide (y ≤ (gs t.light v).hi))) ∧ Below w.heap.size w w' := by
  obtain ⟨_, _, _, _, c4, _⟩ := hP.cells
  obtain ⟨lb, lo, l0, l1, l2⟩ := hP.tr.light v (by rw [hF.light]; exact hv)
  rw [l0] at c4
  have hll : v < t.light.length := by rw [hF.light]; exact hv
  have hn := hF.n
  have hlc := hF.light
  have hb : Below w.heap.size w ((w.alloc (.cells #[] 74)).alloc (.cells #[.int .i64 x, .int .i64 y] 82)) := ((Below.refl _ w).alloc (Nat.le_refl _) _).alloc (by simp) _
  have k0 : ((w.alloc (.cells #[] 74)).alloc (.cells #[.int .i64 x, .int .i64 y] 82)).cell? ⟨w.heap.size + 1, 1, none⟩ = some (.int .i64 y) := by
    have h := World.alloc_heap_new (w.alloc (.cells #[] 74)) (.cells #[.int .i64 x, .int .i64 y] 82)
    rw [World.size_alloc] at h
    rw [cell_of_heap h]
    rfl
  have g4 := cell_stays hb c4
  have g2 := cell_stays hb l2
  clear hP hF l0 l1 l2 c4
  revert g2
  generalize (gs t.light v).hi = g
  intro g2
  go_enter Try.func59, Try.ntmps59
  go_upto_region 1 with fail
  revert hb k0 g4 g2
  generalize (w.alloc (.cells #[] 74)).alloc (.cells #[.int .i64 x, .int .i64 y] 82) = w1
  intro hb k0 g4 g2
  have HB := Lib.hid hb
  have z0 := fun u : Aft w1.heap.size w1 => cell_stays u.h k0
  have z1 := fun u : Aft w1.heap.size w1 => cell_stays u.h g4
  have z2 := fun u : Aft w1.heap.size w1 => cell_stays u.h g2
  clear hb k0 g4 g2
  refine wp_region_aft mixed (by kernel_rfl) ?_
  repeat (go_big_quiet_step (fail))
  refine wpQuiet_nil ?_
  rintro _ ⟨u, rfl⟩
  go_wp2_with fail
  go_ret
  exact ⟨rfl, HB.out.trans (u.h.mono HB.out.size)⟩
set_option maxRecDepth 100000 in
set_option maxHeartbeats 1000000 in
theorem holds60 {t : Tr} {A : TrA} {tb : Nat} {w : World} (hP : TourP w tb t A) (hF : t.Fit) {v : Nat} (hv : v < t.frm.length) (x y : Int) :
    Calls Try.prog 60 #[.agg #[], .pointer (some ⟨tb, 0, none⟩), .int .i64 v, .agg #[.int .i64 x, .int .i64 y]] w fun e w' => e = .returned (.bool (decide (x ≤ (gs t.light v).hi))) ∧ Below w.heap.size w w' := by
  obtain ⟨_, _, _, _, c4, _⟩ := hP.cells
  obtain ⟨lb, lo, l0, l1, l2⟩ := hP.tr.light v (by rw [hF.light]; exact hv)
  rw [l0] at c4
  have hll : v < t.light.length := by rw [hF.light]; exact hv
  have hn := hF.n
  have hlc := hF.light
  have hb : Below w.heap.size w ((w.alloc (.cells #[] 75)).alloc (.cells #[.int .i64 x, .int .i64 y] 82)) := ((Below.refl _ w).alloc (Nat.le_refl _) _).alloc (by simp) _
  have k0 : ((w.alloc (.cells #[] 75)).alloc (.cells #[.int .i64 x, .int .i64 y] 82)).cell? ⟨w.heap.size + 1, 0, none⟩ = some (.int .i64 x) := by
    have h := World.alloc_heap_new (w.alloc (.cells #[] 75)) (.cells #[.int .i64 x, .int .i64 y] 82)
    rw [World.size_alloc] at h
    rw [cell_of_heap h]
    rfl
  have g4 := cell_stays hb c4
  have g2 := cell_stays hb l2
  clear hP hF l0 l1 l2 c4
  revert g2
  generalize (gs t.light v).hi = g
  intro g2
  go_enter Try.func60, Try.ntmps60
  go_upto_region 1 with fail
  revert hb k0 g4 g2
  generalize (w.alloc (.cells #[] 75)).alloc (.cells #[.int .i64 x, .int .i64 y] 82) = w1
  intro hb k0 g4 g2
  have HB := Lib.hid hb
  have z0 := fun u : Aft w1.heap.size w1 => cell_stays u.h k0
  have z1 := fun u : Aft w1.heap.size w1 => cell_stays u.h g4
  have z2 := fun u : Aft w1.heap.size w1 => cell_stays u.h g2
  clear hb k0 g4 g2
  refine wp_region_aft mixed (by kernel_rfl) ?_
  repeat (go_big_quiet_step (fail))
  refine wpQuiet_nil ?_
  rintro _ ⟨u, rfl⟩
  go_wp2_with fail
  go_ret
  exact ⟨rfl, HB.out.trans (u.h.mono HB.out.size)⟩
theorem over84 {nb : Nat} {x y : Int} {w : World} (h0 : w.cell? ⟨nb, 0, none⟩ = some (.int .i64 x)) (h1 : w.cell? ⟨nb, 1, none⟩ = some (.int .i64 y)) :
    Calls Try.prog 84 #[.pointer (some ⟨nb, 0, none⟩)] w fun e w' => e = .returned (mv (x, y)) ∧ Below w.heap.size w w' := by
  have HB : Hid (Below w.heap.size w (w.alloc (.cells #[.int .i64 x, .int .i64 y] 82))) := (Below.refl _ w).alloc (Nat.le_refl _) _
  have HN := Lib.hid (World.alloc_heap_new w (.cells #[.int .i64 x, .int .i64 y] 82))
  have b0 := lt_of_cell h0
  go_enter Try.func84, Try.ntmps84
  go_wp2_with fail
  have hn := HN.out
  exact bodyPost_ret (v := .agg #[.int .i64 x, .int .i64 y]) (res_c82 rfl _ rfl ((cell_of_heap hn).trans rfl) ((cell_of_heap hn).trans rfl)) rfl ⟨rfl, HB.out⟩
end Go.Proofs.Ytphefhpmbahagaa
