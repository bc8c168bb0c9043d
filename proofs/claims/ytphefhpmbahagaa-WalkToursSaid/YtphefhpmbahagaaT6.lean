/- A walk's single steps: begin, holds, over. -/
import Derived.Test.YtphefhpmbahagaaT5
namespace Go.Proofs.Ytphefhpmbahagaa
open Go.RowKit
set_option linter.unusedVariables false
set_option linter.unusedSimpArgs false

set_option maxRecDepth 100000 in
set_option maxHeartbeats 1000000 in
theorem begin82_first {t : Tr} {A : TrA} {tb : Nat} {w : World} (hP : TourP w tb t A) (hF : t.Fit) {v : Nat} (hv : v < t.frm.length) {x y : Int} (hL : Low (x, y)) :
    Calls Try.prog 82 #[.pointer (some ⟨tb, 0, none⟩), .int .i64 (-1), .int .i64 v, .agg #[.int .i64 x, .int .i64 y]] w fun e w' => e = .returned (mv (t.begin (-1) v (x, y))) ∧ Below w.heap.size w w' := by
  have hmf : ∀ (fn : Fn) (first cap : Array Value) (w : World), (Instr.makeFunc fn first cap).run Try.prog w = .ok (.func fn first cap) w := fun _ _ _ _ => rfl
  obtain ⟨_, c1, c2, _, c4, _⟩ := hP.cells
  obtain ⟨fb, fo, f0, f1, f2⟩ := hP.tr.frm v hv
  obtain ⟨lb, lo, l0, l1, l2⟩ := hP.tr.light v (by rw [hF.light]; exact hv)
  rw [f0] at c1
  rw [l0] at c4
  have hfl := hv
  have hll : v < t.light.length := by rw [hF.light]; exact hv
  have hn := hF.n
  have b1 := lt_of_cell c1
  have b2 := lt_of_cell f1
  have b3 := lt_of_cell l1
  have HA := Lib.hid (fun w => after83 (w := w) hL (hF.okf v hv))
  have HBG : Hid (t.begin (-1) v (x, y) = (max (x + (gs t.frm v).lo) (gs t.light v).lo, max (y + (gs t.frm v).hi) (gs t.light v).lo)) := by
    simp [Hid, Tr.begin, Tr.way]
  clear hP f0 l0 hF hL
  revert f1 f2 l1 l2 HA HBG
  generalize gs t.frm v = s
  generalize (gs t.light v).lo = g
  intro f1 f2 l1 l2 HA HBG
  have BW : Hid (Below w.heap.size w (((w.alloc (.cells #[.int .i64 x, .int .i64 y] 82)).alloc (.cells #[.int .i64 0, .int .i64 0] 82)).alloc (.cells #[.int .i64 s.lo, .int .i64 s.hi] 33))) :=
    (((Below.refl _ w).alloc (Nat.le_refl _) _).alloc (by simp) _).alloc (by simp; omega) _
  have QR : Hid ((((w.alloc (.cells #[.int .i64 x, .int .i64 y] 82)).alloc (.cells #[.int .i64 0, .int .i64 0] 82)).alloc (.cells #[.int .i64 s.lo, .int .i64 s.hi] 33)).heap[w.heap.size + 1]? = some (.cells #[.int .i64 0, .int .i64 0] 82 (0, 0))) := by
    have h := World.alloc_heap_new (w.alloc (.cells #[.int .i64 x, .int .i64 y] 82)) (.cells #[.int .i64 0, .int .i64 0] 82)
    rw [World.size_alloc] at h
    exact (((Below.refl _ _).alloc (Nat.le_refl _) _).block _ (by simp)).trans h
  go_enter Try.func82, Try.ntmps82
  go_wp2_with fail
  refine (HA.out _).mono ?_
  rintro e w2 ⟨rfl, hb2⟩
  have hb : Below w.heap.size w w2 := BW.out.trans (hb2.mono (by simp; omega))
  have q2 := (hb2.block _ (by simp)).trans QR.out
  have c4' := cell_stays hb c4
  have l1' := cell_stays hb l1
  have k0 : w2.cell? ⟨w.heap.size + 1, 0, none⟩ = some (.int .i64 0) := by rw [cell_of_heap q2]; rfl
  have k1 : w2.cell? ⟨w.heap.size + 1, 1, none⟩ = some (.int .i64 0) := by rw [cell_of_heap q2]; rfl
  have fz : ∀ k, w2.frozen? ⟨w.heap.size + 1, k, none⟩ = false := fun k => frozen_of_heap q2
  have HB := Lib.hid hb
  have HQ := Lib.hid q2
  clear hb hb2 q2 BW QR HA
  go_wp2_with fail
  refine from100.mono ?_
  rintro e w3 ⟨rfl, hb3⟩
  have k0' := cell_stays hb3 k0
  have k1' := cell_stays hb3 k1
  have q3 := (hb3.block _ (heap_lt HQ.out)).trans HQ.out
  have fz' : ∀ k, w3.frozen? ⟨w.heap.size + 1, k, none⟩ = false := fun k => frozen_of_heap q3
  have HB3 := Lib.hid (HB.out.trans (hb3.mono HB.out.size))
  have HQ3 := Lib.hid q3
  clear hb3 q3 k0 k1 fz
  go_wp2_with fail
  have Q1 := heap_setCell_at (k := 0) HQ3.out (.int .i64 (max (x + s.lo) g))
  have Q2 := heap_setCell_at (k := 1) Q1 (.int .i64 (max (y + s.hi) g))
  refine bodyPost_ret (res_c82 rfl _ rfl ((cell_of_heap Q2).trans rfl) ((cell_of_heap Q2).trans rfl)) rfl ⟨?_, (HB3.out.setCell (Nat.le_succ _) _).setCell (Nat.le_succ _) _⟩
  rw [HBG.out]
  rfl
set_option maxRecDepth 100000 in
set_option maxHeartbeats 1000000 in
theorem begin82_next {t : Tr} {A : TrA} {tb : Nat} {w : World} (hP : TourP w tb t A) (hF : t.Fit) {v m : Nat} (hv : v < t.frm.length) (hm : m < t.frm.length) {x y : Int} (hL : Low (x, y)) :
    Calls Try.prog 82 #[.pointer (some ⟨tb, 0, none⟩), (.int .i64 m), .int .i64 v, .agg #[.int .i64 x, .int .i64 y]] w fun e w' => e = .returned (mv (t.begin m v (x, y))) ∧ Below w.heap.size w w' := by
  have hmf : ∀ (fn : Fn) (first cap : Array Value) (w : World), (Instr.makeFunc fn first cap).run Try.prog w = .ok (.func fn first cap) w := fun _ _ _ _ => rfl
  obtain ⟨_, c1, c2, _, c4, _⟩ := hP.cells
  obtain ⟨fb, fo, f0, f1, f2⟩ := hP.tr.frm v hv
  obtain ⟨lb, lo, l0, l1, l2⟩ := hP.tr.light v (by rw [hF.light]; exact hv)
  rw [f0] at c1
  rw [l0] at c4
  have hfl := hv
  have hll : v < t.light.length := by rw [hF.light]; exact hv
  have hn := hF.n
  obtain ⟨wb, wo, w0, ai, ci, w1, hri⟩ := hP.tr.ways m (by rw [hF.ways]; exact hm)
  obtain ⟨rb, ro, r0, r1, r2⟩ := hri v (by rw [hF.rows m hm]; exact hv)
  rw [w0] at c2
  rw [r0] at w1
  have hrw := hF.rows m hm
  have hww := hF.ways
  have hrl : v < (gw t.ways m).length := by omega
  have hwl : m < t.ways.length := by omega
  have b4 := lt_of_cell w1
  have b5 := lt_of_cell r1
  have b6 := lt_of_cell c2
  have b1 := lt_of_cell c1
  have b2 := lt_of_cell f1
  have b3 := lt_of_cell l1
  have HA := Lib.hid (fun w => after83 (w := w) hL (hF.okw m v hm hv))
  have HBG : Hid (t.begin m v (x, y) = (max (x + (gs (gw t.ways m) v).lo) (gs t.light v).lo, max (y + (gs (gw t.ways m) v).hi) (gs t.light v).lo)) := by
    have e : ¬ (m : Int) = -1 := by omega
    simp [Hid, Tr.begin, Tr.way, e]
  have BF : Below w.heap.size w (((w.alloc (.cells #[.int .i64 x, .int .i64 y] 82)).alloc (.cells #[.int .i64 0, .int .i64 0] 82)).alloc (.cells #[.int .i64 (gs t.frm v).lo, .int .i64 (gs t.frm v).hi] 33)) :=
    (((Below.refl _ w).alloc (Nat.le_refl _) _).alloc (by simp) _).alloc (by simp; omega) _
  have g2 := cell_stays BF c2
  have g3 := cell_stays BF w1
  have r1' := cell_stays BF r1
  have r2' := cell_stays BF r2
  have hmb : ((m : Int) != -1) = true := by simp
  clear hP f0 l0 hF hL hri w0 r0 BF
  revert l1 l2 r1 r2 r1' r2' HA HBG
  generalize gs (gw t.ways m) v = s
  generalize (gs t.light v).lo = g
  intro l1 l2 r1 r2 HA HBG r1' r2'
  have BW : Hid (Below w.heap.size w (((w.alloc (.cells #[.int .i64 x, .int .i64 y] 82)).alloc (.cells #[.int .i64 0, .int .i64 0] 82)).alloc (.cells #[.int .i64 s.lo, .int .i64 s.hi] 33))) :=
    (((Below.refl _ w).alloc (Nat.le_refl _) _).alloc (by simp) _).alloc (by simp; omega) _
  have QR : Hid ((((w.alloc (.cells #[.int .i64 x, .int .i64 y] 82)).alloc (.cells #[.int .i64 0, .int .i64 0] 82)).alloc (.cells #[.int .i64 s.lo, .int .i64 s.hi] 33)).heap[w.heap.size + 1]? = some (.cells #[.int .i64 0, .int .i64 0] 82 (0, 0))) := by
    have h := World.alloc_heap_new (w.alloc (.cells #[.int .i64 x, .int .i64 y] 82)) (.cells #[.int .i64 0, .int .i64 0] 82)
    rw [World.size_alloc] at h
    exact (((Below.refl _ _).alloc (Nat.le_refl _) _).block _ (by simp)).trans h
  go_enter Try.func82, Try.ntmps82
  go_wp2_with fail
  refine (HA.out _).mono ?_
  rintro e w2 ⟨rfl, hb2⟩
  have hb : Below w.heap.size w w2 := BW.out.trans (hb2.mono (by simp; omega))
  have q2 := (hb2.block _ (by simp)).trans QR.out
  have c4' := cell_stays hb c4
  have l1' := cell_stays hb l1
  have k0 : w2.cell? ⟨w.heap.size + 1, 0, none⟩ = some (.int .i64 0) := by rw [cell_of_heap q2]; rfl
  have k1 : w2.cell? ⟨w.heap.size + 1, 1, none⟩ = some (.int .i64 0) := by rw [cell_of_heap q2]; rfl
  have fz : ∀ k, w2.frozen? ⟨w.heap.size + 1, k, none⟩ = false := fun k => frozen_of_heap q2
  have HB := Lib.hid hb
  have HQ := Lib.hid q2
  clear hb hb2 q2 BW QR HA
  go_wp2_with fail
  refine from100.mono ?_
  rintro e w3 ⟨rfl, hb3⟩
  have k0' := cell_stays hb3 k0
  have k1' := cell_stays hb3 k1
  have q3 := (hb3.block _ (heap_lt HQ.out)).trans HQ.out
  have fz' : ∀ k, w3.frozen? ⟨w.heap.size + 1, k, none⟩ = false := fun k => frozen_of_heap q3
  have HB3 := Lib.hid (HB.out.trans (hb3.mono HB.out.size))
  have HQ3 := Lib.hid q3
  clear hb3 q3 k0 k1 fz
  go_wp2_with fail
  have Q1 := heap_setCell_at (k := 0) HQ3.out (.int .i64 (max (x + s.lo) g))
  have Q2 := heap_setCell_at (k := 1) Q1 (.int .i64 (max (y + s.hi) g))
  refine bodyPost_ret (res_c82 rfl _ rfl ((cell_of_heap Q2).trans rfl) ((cell_of_heap Q2).trans rfl)) rfl ⟨?_, (HB3.out.setCell (Nat.le_succ _) _).setCell (Nat.le_succ _) _⟩
  rw [HBG.out]
  rfl
end Go.Proofs.Ytphefhpmbahagaa
