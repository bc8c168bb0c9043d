/- WalkTrue: the draws. -/
import Derived.Test.YtphefhpmbahagaaT74
namespace Go.Proofs.Ytphefhpmbahagaa
open Go.RowKit
set_option linter.unusedVariables false
set_option linter.unusedSimpArgs false

/-- Words that are handed in. -/
def IsU16 (w : World) (a : Option Addr) (n : Nat) : Prop := ∀ i, i < n → ∃ b off, a = some ⟨b, off, none⟩ ∧ ∃ x : Int, 0 ≤ x ∧ x ≤ 65535 ∧ w.cell? ⟨b, off + i, none⟩ = some (.int .u16 x)
theorem IsU16.mono {w w' : World} {a : Option Addr} {n : Nat} (h : IsU16 w a n) (hb : Below w.heap.size w w') : IsU16 w' a n := fun i hi => by
  obtain ⟨b, off, e, x, h0, h1, hc⟩ := h i hi
  exact ⟨b, off, e, x, h0, h1, cell_stays hb hc⟩
theorem u16_low (n : Int) : 0 ≤ IntKind.u16.wrap n ∧ IntKind.u16.wrap n ≤ 65535 := by
  have h : IntKind.u16.wrap n = n % 65536 := by simp [IntKind.wrap, IntKind.signed, IntKind.bits]
  rw [h]; omega
/-- What lies in memory while minutes are drawn. -/
structure DrT (W0 : World) (ba k : Nat) (w : World) : Prop where
  below : Below W0.heap.size W0 w
  at_ : w.heap[ba]? = some (.cells #[.int .i64 (k : Int)] 3 (0, 0))
theorem DrT.mono {W0 w w' : World} {ba k : Nat} (h : DrT W0 ba k w) (hb : Below w.heap.size w w') : DrT W0 ba k w' := ⟨h.below.trans (hb.mono h.below.size), (hb.block _ (heap_lt h.at_)).trans h.at_⟩
set_option maxHeartbeats 2000000 in
theorem next35 {W0 w : World} {ba b5 k lb cb : Nat} {ub : Option Addr} (hk : k ≤ 1000) (h0 : W0.heap.size ≤ ba) (h5 : W0.heap[b5]? = some (.cells #[.slice ub lb cb] 48 (0, 0))) (hu : IsU16 W0 ub lb) (hl0 : 0 < lb) (hl1 : lb ≤ 9223372036854775807) (h : DrT W0 ba k w) :
    Calls Try.prog 35 #[.pointer (some ⟨ba, 0, none⟩), .pointer (some ⟨b5, 0, none⟩)] w fun e w' => ∃ x : Int, e = .returned (.int .u16 x) ∧ (0 ≤ x ∧ x ≤ 65535) ∧ DrT W0 ba (k + 1) w' ∧ Same (fun i => i = ba) w w' := by
  have ca : w.cell? ⟨ba, 0, none⟩ = some (.int .i64 k) := by rw [cell_of_heap h.at_]; rfl
  have fa : w.frozen? ⟨ba, 0, none⟩ = false := frozen_of_heap h.at_
  obtain ⟨i, hi⟩ : ∃ i : Nat, i = (k + 1) % lb := ⟨_, rfl⟩
  have hil : i < lb := by rw [hi]; exact Nat.mod_lt _ hl0
  obtain ⟨b, off, rfl, x, hx0, hx1, hx⟩ := hu i hil
  have hbl : b < W0.heap.size := lt_of_cell hx
  have h5l : b5 < W0.heap.size := heap_lt h5
  have hrem : ((k : Int) + 1) % (lb : Int) = (i : Int) := by rw [hi]; simp
  have hn1 : b ≠ ba := by omega
  have hn2 : b5 ≠ ba := by omega
  have c5 : w.cell? ⟨b5, 0, none⟩ = some (.slice (some ⟨b, off, none⟩) lb cb) := by rw [cell_of_heap ((h.below.block _ h5l).trans h5)]; rfl
  have cx := cell_stays h.below hx
  have HS : Hid (Same (fun i => i = ba) w (w.setCell ⟨ba, 0, none⟩ (.int .i64 ((k : Int) + 1)))) := Same.setCell (M := fun i => i = ba) (Same.refl _ w) (.inl rfl) _
  have HH : Hid ((w.setCell ⟨ba, 0, none⟩ (.int .i64 ((k : Int) + 1))).heap[ba]? = some (.cells #[.int .i64 ((k : Int) + 1)] 3 (0, 0))) := heap_setCell_at h.at_ _
  have HD := Lib.hid (And.intro h.below h0)
  clear h hu hi hx h5 h0
  go_enter Try.func35, Try.ntmps35
  go_wp2
  have c1 : (w.setCell ⟨ba, 0, none⟩ (.int .i64 ((k : Int) + 1))).cell? ⟨ba, 0, none⟩ = some (.int .i64 ((k : Int) + 1)) := World.cell?_setCell_same _ _ _ ca
  have c2 := HS.out.cell c5 hn2
  have c3 := HS.out.cell cx hn1
  clear ca fa c5 cx
  revert HS HH c1 c2 c3
  generalize (w.setCell ⟨ba, 0, none⟩ (.int .i64 ((k : Int) + 1))) = w1
  intro HS HH c1 c2 c3
  have x1 := fun y : Aft w1.heap.size w1 => cell_stays y.h c1
  have x2 := fun y : Aft w1.heap.size w1 => cell_stays y.h c2
  have x3 := fun y : Aft w1.heap.size w1 => cell_stays y.h c3
  have y2 : IntKind.u16.wrap ((k : Int) + 1) = (k : Int) + 1 := IntWalk.u16_in _ (by omega)
  have y4 : ((k : Int) + 1).tmod (lb : Int) = (i : Int) := by rw [Int.tmod_eq_emod_of_nonneg (by omega)]; exact hrem
  have y6 : ¬ (lb : Int) = 0 := by omega
  refine wp_region_aft mixed (by kernel_rfl) ?_
  repeat (go_big_quiet_step (fail))
  refine wpQuiet_nil ?_
  rintro _ ⟨y, rfl⟩
  go_wp2
  go_ret
  have hsy : Same (fun i => i = ba) w1 y.v := Same.of_below _ y.h
  have hlb : Below W0.heap.size w w1 := HS.out.below HD.out.1.size (fun j hj e => by have := HD.out.2; subst e; omega)
  refine ⟨_, rfl, u16_low _, ⟨HD.out.1.trans (hlb.trans (y.h.mono (by have := HD.out.1.size; have := HS.out.size; omega))), ?_⟩, HS.out.trans hsy⟩
  rw [y.h.block ba (heap_lt HH.out), HH.out]
  simp
set_option maxHeartbeats 2000000 in
theorem pick36 {w : World} {lo hi x : Int} (hs : 0 ≤ lo ∧ lo ≤ hi ∧ hi ≤ 1440) (hx : 0 ≤ x ∧ x ≤ 65535) :
    Calls Try.prog 36 #[.agg #[.int .i64 lo, .int .i64 hi], .int .u16 x] w fun e w' => ∃ p : Int, e = .returned (.int .i64 p) ∧ (lo ≤ p ∧ p ≤ hi) ∧ Below w.heap.size w w' := by
  have hb0 : Below w.heap.size w (w.alloc (.cells #[.int .i64 lo, .int .i64 hi] 33)) := (Below.refl _ w).alloc (Nat.le_refl _) _
  have q0 := World.alloc_heap_new w (.cells #[.int .i64 lo, .int .i64 hi] 33)
  have HB := Lib.hid hb0
  have c0 : (w.alloc (.cells #[.int .i64 lo, .int .i64 hi] 33)).cell? ⟨w.heap.size, 0, none⟩ = some (.int .i64 lo) := by rw [cell_of_heap q0]; rfl
  have c1 : (w.alloc (.cells #[.int .i64 lo, .int .i64 hi] 33)).cell? ⟨w.heap.size, 1, none⟩ = some (.int .i64 hi) := by rw [cell_of_heap q0]; rfl
  clear hb0 q0
  go_enter Try.func36, Try.ntmps36
  go_upto_region 1 with fail
  revert HB c0 c1
  generalize w.alloc (.cells #[.int .i64 lo, .int .i64 hi] 33) = w1
  intro HB c0 c1
  have x1 := fun y : Aft w1.heap.size w1 => cell_stays y.h c0
  have x2 := fun y : Aft w1.heap.size w1 => cell_stays y.h c1
  have y0 : IntKind.i64.wrap x = x := IntWalk.i64_in _ (by omega)
  have y2 : IntKind.i64.wrap (hi - lo) = hi - lo := IntWalk.i64_in _ (by omega)
  have y3 : IntKind.i64.wrap (hi - lo + 1) = hi - lo + 1 := IntWalk.i64_in _ (by omega)
  have y4 : x.tmod (hi - lo + 1) = x % (hi - lo + 1) := Int.tmod_eq_emod_of_nonneg (by omega)
  have y6 : ¬ (hi - lo + 1) = 0 := by omega
  have y7 := Int.emod_nonneg x y6
  have y8 := Int.emod_lt_of_pos x (show 0 < hi - lo + 1 by omega)
  obtain ⟨r, hr⟩ : ∃ r, x % (hi - lo + 1) = r := ⟨_, rfl⟩
  rw [hr] at y4 y7 y8
  have y5 : IntKind.i64.wrap (lo + r) = lo + r := IntWalk.i64_in _ (by omega)
  have HR : Hid (lo ≤ lo + r ∧ lo + r ≤ hi) := ⟨by omega, by omega⟩
  clear hr
  refine wp_region_aft mixed (by kernel_rfl) ?_
  repeat (go_big_quiet_step (fail))
  refine wpQuiet_nil ?_
  rintro _ ⟨y, rfl⟩
  go_wp2
  go_ret
  exact ⟨_, rfl, HR.out, HB.out.trans (y.h.mono HB.out.size)⟩
end Go.Proofs.Ytphefhpmbahagaa
