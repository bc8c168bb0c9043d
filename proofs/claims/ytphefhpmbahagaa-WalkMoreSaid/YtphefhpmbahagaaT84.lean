/- WalkMore: the walk. -/
import Derived.Test.YtphefhpmbahagaaT83
namespace Go.Proofs.Ytphefhpmbahagaa
open Go.RowKit
set_option linter.unusedVariables false
set_option linter.unusedSimpArgs false

/-- Three tours that are made, above world p. -/
structure Mor (p : World) (b12 b13 b14 : Nat) (c12 c13 c14 : Array Value) (v : World) : Prop where
  below : Below p.heap.size p v
  g12 : v.heap[b12]? = some (.cells c12 25 (0, 0))
  g13 : v.heap[b13]? = some (.cells c13 25 (0, 0))
  g14 : v.heap[b14]? = some (.cells c14 25 (0, 0))
theorem Mor.mono {p v v' : World} {b12 b13 b14 : Nat} {c12 c13 c14 : Array Value} (h : Mor p b12 b13 b14 c12 c13 c14 v) (hb : Below v.heap.size v v') : Mor p b12 b13 b14 c12 c13 c14 v' :=
  ⟨h.below.trans (hb.mono h.below.size), (hb.block _ (heap_lt h.g12)).trans h.g12, (hb.block _ (heap_lt h.g13)).trans h.g13, (hb.block _ (heap_lt h.g14)).trans h.g14⟩
structure MorB (p : World) (b12 b13 b14 : Nat) : Prop where
  h12 : p.heap.size ≤ b12
  h13 : p.heap.size ≤ b13
  h14 : p.heap.size ≤ b14
  n1 : b12 ≠ b13
  n2 : b12 ≠ b14
  n3 : b13 ≠ b14
theorem Mor.set12 {p v : World} {b12 b13 b14 : Nat} {c12 c13 c14 : Array Value} (h : Mor p b12 b13 b14 c12 c13 c14 v) (B : MorB p b12 b13 b14) (k : Nat) (x : Value) : Mor p b12 b13 b14 (c12.setIfInBounds k x) c13 c14 (v.setCell ⟨b12, k, none⟩ x) :=
  ⟨h.below.setCell B.h12 _, heap_setCell_at h.g12 _, (Below.heap_setCell _ _ _ _ (Ne.symm B.n1)).trans h.g13, (Below.heap_setCell _ _ _ _ (Ne.symm B.n2)).trans h.g14⟩
theorem Mor.set13 {p v : World} {b12 b13 b14 : Nat} {c12 c13 c14 : Array Value} (h : Mor p b12 b13 b14 c12 c13 c14 v) (B : MorB p b12 b13 b14) (k : Nat) (x : Value) : Mor p b12 b13 b14 c12 (c13.setIfInBounds k x) c14 (v.setCell ⟨b13, k, none⟩ x) :=
  ⟨h.below.setCell B.h13 _, (Below.heap_setCell _ _ _ _ B.n1).trans h.g12, heap_setCell_at h.g13 _, (Below.heap_setCell _ _ _ _ (Ne.symm B.n3)).trans h.g14⟩
theorem Mor.set14 {p v : World} {b12 b13 b14 : Nat} {c12 c13 c14 : Array Value} (h : Mor p b12 b13 b14 c12 c13 c14 v) (B : MorB p b12 b13 b14) (k : Nat) (x : Value) : Mor p b12 b13 b14 c12 c13 (c14.setIfInBounds k x) (v.setCell ⟨b14, k, none⟩ x) :=
  ⟨h.below.setCell B.h14 _, (Below.heap_setCell _ _ _ _ B.n2).trans h.g12, (Below.heap_setCell _ _ _ _ B.n3).trans h.g13, heap_setCell_at h.g14 _⟩
theorem Mor.other {p v : World} {b12 b13 b14 : Nat} {c12 c13 c14 : Array Value} (h : Mor p b12 b13 b14 c12 c13 c14 v) {g : Nat} (hg : p.heap.size ≤ g) (h1 : g ≠ b12) (h2 : g ≠ b13) (h3 : g ≠ b14) (k : Nat) (x : Value) : Mor p b12 b13 b14 c12 c13 c14 (v.setCell ⟨g, k, none⟩ x) :=
  ⟨h.below.setCell hg _, (Below.heap_setCell _ _ _ _ (Ne.symm h1)).trans h.g12, (Below.heap_setCell _ _ _ _ (Ne.symm h2)).trans h.g13, (Below.heap_setCell _ _ _ _ (Ne.symm h3)).trans h.g14⟩
theorem SpRow.other {g : Nat} {l : List Spn} {v : World} (h : SpRow g l v) {b : Nat} (hne : b ≠ g) (k : Nat) (x : Value) : SpRow g l (v.setCell ⟨b, k, none⟩ x) := by
  obtain ⟨cur, h1, h2⟩ := h.row
  exact ⟨cur, (Below.heap_setCell _ _ _ _ (Ne.symm hne)).trans h1, h2⟩
/-- A row of slices in a block of its own: rows that lie in p. -/
structure WyRow (p : World) (g : Nat) (l : List (List Spn)) (v : World) : Prop where
  row : ∃ cur : Array Value, v.heap[g]? = some (.cells cur 22 (0, 0)) ∧ ∀ i, i < l.length → ∃ ai ci, cur[i]? = some (.slice ai (gw l i).length ci) ∧ IsSpns p ai (gw l i)
/-- The same, but for one. -/
structure WyK (p : World) (g : Nat) (l : List (List Spn)) (k : Nat) (x : Value) (v : World) : Prop where
  row : ∃ cur : Array Value, v.heap[g]? = some (.cells cur 22 (0, 0)) ∧ cur[k]? = some x ∧ ∀ i, i < l.length → i ≠ k → ∃ ai ci, cur[i]? = some (.slice ai (gw l i).length ci) ∧ IsSpns p ai (gw l i)
theorem WyRow.mono {p : World} {g : Nat} {l : List (List Spn)} {w w' : World} (h : WyRow p g l w) (hb : Below w.heap.size w w') : WyRow p g l w' := by
  obtain ⟨cur, h1, h2⟩ := h.row
  exact ⟨cur, (hb.block _ (heap_lt h1)).trans h1, h2⟩
theorem WyK.mono {p : World} {g k : Nat} {x : Value} {l : List (List Spn)} {w w' : World} (h : WyK p g l k x w) (hb : Below w.heap.size w w') : WyK p g l k x w' := by
  obtain ⟨cur, h1, h2⟩ := h.row
  exact ⟨cur, (hb.block _ (heap_lt h1)).trans h1, h2⟩
theorem WyRow.other {p : World} {g : Nat} {l : List (List Spn)} {v : World} (h : WyRow p g l v) {b : Nat} (hne : b ≠ g) (k : Nat) (x : Value) : WyRow p g l (v.setCell ⟨b, k, none⟩ x) := by
  obtain ⟨cur, h1, h2⟩ := h.row
  exact ⟨cur, (Below.heap_setCell _ _ _ _ (Ne.symm hne)).trans h1, h2⟩
theorem WyK.other {p : World} {g j : Nat} {y : Value} {l : List (List Spn)} {v : World} (h : WyK p g l j y v) {b : Nat} (hne : b ≠ g) (k : Nat) (x : Value) : WyK p g l j y (v.setCell ⟨b, k, none⟩ x) := by
  obtain ⟨cur, h1, h2⟩ := h.row
  exact ⟨cur, (Below.heap_setCell _ _ _ _ (Ne.symm hne)).trans h1, h2⟩
theorem WyRow.put {p : World} {g : Nat} {l : List (List Spn)} {v : World} (h : WyRow p g l v) {k : Nat} (hk : k < l.length) (x : Value) : (∃ u, v.cell? ⟨g, k, none⟩ = some u) ∧ v.frozen? ⟨g, k, none⟩ = false ∧ WyK p g l k x (v.setCell ⟨g, k, none⟩ x) := by
  obtain ⟨cur, h1, h2⟩ := h.row
  obtain ⟨ai, ci, hc, _⟩ := h2 k hk
  have hs : k < cur.size := (Array.getElem?_eq_some_iff.1 hc).1
  refine ⟨⟨_, by rw [cell_of_heap h1]; exact hc⟩, frozen_of_heap h1, _, heap_setCell_at h1 _, ?_, fun i hi hne => ?_⟩
  · rw [Array.getElem?_setIfInBounds, if_pos rfl, if_pos hs]
  · obtain ⟨ai, ci, h3, h4⟩ := h2 i hi
    exact ⟨ai, ci, by rw [Array.getElem?_setIfInBounds, if_neg (by omega)]; exact h3, h4⟩
theorem WyK.ways {p : World} {g k r c : Nat} {l : List (List Spn)} {m : List Spn} {v : World} (h : WyK p g l k (.slice (some ⟨r, 0, none⟩) m.length c) v) (hb : Below p.heap.size p v) (hk : k < l.length) (hs : SpRow r m v) : IsWays v (some ⟨g, 0, none⟩) (l.set k m) := fun i hi => by
  rw [List.length_set] at hi
  obtain ⟨cur, h1, h2, h3⟩ := h.row
  rw [gw_set hk]
  by_cases e : k = i
  · subst e
    rw [if_pos rfl]
    exact ⟨g, 0, rfl, _, _, by rw [cell_of_heap h1, Nat.zero_add]; exact h2, hs.spns⟩
  · rw [if_neg e]
    obtain ⟨ai, ci, h4, h5⟩ := h3 i hi (Ne.symm e)
    exact ⟨g, 0, rfl, ai, ci, by rw [cell_of_heap h1, Nat.zero_add]; exact h4, h5.mono hb⟩
/-- Ways are copied into a row of their own. -/
theorem copy_ways {p W w : World} {av : Option Addr} {l : List (List Spn)} {cv : Nat} {xs : Value} (h0 : 0 < l.length) (hk : l.length ≤ 16) (hb : Below W.heap.size W w) (hx : w.ownsRow W.heap.size 22 1 xs 0 []) (hp : Below p.heap.size p W) (hi : IsWays p av l) :
    ∃ (g c : Nat) (w' : World), (Builtin.append_ #[23, 23] 23 #[xs, .slice av l.length cv]).run Try.prog w = .ok (.slice (some ⟨g, 0, none⟩) l.length c) w' ∧ W.heap.size ≤ g ∧ g < w'.heap.size ∧ WyRow p g l w' ∧ Below W.heap.size W w' := by
  obtain ⟨i0, hi0, hz0, hz1, hz2⟩ := info_parts infoW
  obtain ⟨vs, hvs, hnews⟩ := ways_vals hi
  have hnews2 : l.length ≠ 0 → ∃ ad, av = some ad ∧ ∀ j u, vs[j]? = some u → w.cell? (ad.add j) = some u := fun h => by
    obtain ⟨ad, e, hc⟩ := hnews h
    refine ⟨ad, e, fun j u hj => ?_⟩
    have := hc j u hj
    obtain ⟨b, off, e2, _⟩ := hi 0 (by omega)
    rw [e] at e2; cases e2
    have e3 : ((⟨b, off, none⟩ : Addr).add j) = ⟨b, off + j, none⟩ := by unfold Addr.add; split <;> simp_all
    rw [e3] at this ⊢
    exact cell_stays hb (cell_stays hp this)
  obtain ⟨v', w', hr, hn, hg, _⟩ := append_rows_at (P := Try.prog) (w := w) W.heap.size 23 23 22 i0 _ 1 24 Try.underlying23 hi0 hz0 hz1 hz2 rfl (by decide) xs 0 [] hx av l.length cv vs (by rw [hvs.1]; omega) hnews2 hvs.one (by simp [maxLen]; omega) (by omega) hb.size
  rw [Nat.zero_add, List.nil_append] at hn
  have hb' : Below W.heap.size W w' := hb.grown hg hb.size (fun k hk => (hx.lt k hk).1)
  rcases hn.2 with ⟨_, h1⟩ | ⟨g, cap, cur, rfl, h1, h2, _⟩
  · omega
  · refine ⟨g, cap, w', hr, h1, heap_lt h2, ⟨cur, h2, fun i hi' => ?_⟩, hb'⟩
    obtain ⟨ai, ci, h3, h4⟩ := hvs.2 i hi'
    refine ⟨ai, ci, ?_, h4⟩
    have := hn.cells (g := g) rfl i _ h3
    have e : ((⟨g, 0, none⟩ : Addr).add i) = ⟨g, i, none⟩ := by unfold Addr.add; split <;> simp_all
    rw [e, cell_of_heap h2] at this
    exact this
theorem fit_small {X : Tr} (F : X.Fit) : X.Small := by
  have h1 := F.n
  have h2 := F.ways
  have h3 := F.stay
  have h4 := F.light
  refine ⟨by omega, by omega, by omega, by omega, fun l hl => ?_⟩
  obtain ⟨k, hk, rfl⟩ := List.mem_iff_getElem.1 hl
  have e : gw X.ways k = X.ways[k] := by simp [gw, hk]
  have := F.rows k (by omega)
  rw [← e]; omega
set_option maxRecDepth 100000 in
set_option maxHeartbeats 4000000 in
theorem walkMore_any {t : Tr} {A : TrA} {w : World} (ht : IsTr w t A) (hw : t.ways.length ≤ 9223372036854775807) {o : List Int} {oa : Option Addr} {oc : Nat} (ho : IsInts w oa o) {which by_ : Int} (hwh : 0 ≤ which ∧ which ≤ 255) (hby : 0 ≤ by_ ∧ by_ ≤ 255) :
    Calls Try.prog 10 #[t.v A, .slice oa o.length oc, .int .u8 which, .int .u8 by_] w fun e w' => e = .returned (.bool true) ∧ Below w.heap.size w w' := by
  have e1 : (w.alloc (.cells (t.cells A) 25)).heap.size = w.heap.size + 1 := by simp
  have hb0 : Below w.heap.size w ((w.alloc (.cells (t.cells A) 25)).alloc (.cells #[.int .u8 by_] 5)) := ((Below.refl _ w).alloc (Nat.le_refl _) _).alloc (by simp) _
  have q5 : ((w.alloc (.cells (t.cells A) 25)).alloc (.cells #[.int .u8 by_] 5)).heap[w.heap.size + 1]? = some (.cells #[.int .u8 by_] 5 (0, 0)) := by
    have := World.alloc_heap_new (w.alloc (.cells (t.cells A) 25)) (.cells #[.int .u8 by_] 5)
    rw [e1] at this
    exact this
  have q0 : ((w.alloc (.cells (t.cells A) 25)).alloc (.cells #[.int .u8 by_] 5)).heap[w.heap.size]? = some (.cells (t.cells A) 25 (0, 0)) := by
    have h1 := World.alloc_heap_new w (.cells (t.cells A) 25)
    have h2 : Below (w.alloc (.cells (t.cells A) 25)).heap.size (w.alloc (.cells (t.cells A) 25)) ((w.alloc (.cells (t.cells A) 25)).alloc (.cells #[.int .u8 by_] 5)) := (Below.refl _ _).alloc (Nat.le_refl _) _
    exact (h2.block _ (heap_lt h1)).trans h1
  have HW := Lib.hid (And.intro hb0 (And.intro q0 (And.intro q5 (And.intro (ht.mono hb0) (ho.mono hb0)))))
  have HG : Hid (∀ v, IsTr v t A → Calls Try.prog 12 #[t.v A, .slice oa o.length oc, .int .i64 6] v fun e w' => e = .returned (.bool (t.great o 6)) ∧ Below v.heap.size v w') := fun v h => great12 h hw 6
  have hmf : ∀ (fn : Fn) (first cap : Array Value) (w : World), (Instr.makeFunc fn first cap).run Try.prog w = .ok (.func fn first cap) w := fun _ _ _ _ => rfl
  clear hb0 q0 q5 ht hw ho e1
  go_enter Try.func10, Try.ntmps10
  refine wp_seq_hid ?_
  intro K0 HK0
  go_wp2_with fail
  refine HK0.out _ _ ?_
  refine wp_seq_hid ?_
  intro K1 HK1
  revert HW
  generalize (w.alloc (.cells (t.cells A) 25)).alloc (.cells #[.int .u8 by_] 5) = w1
  intro HW
  have KP : Hid (∀ v, Below w1.heap.size w1 v → v.heap[w.heap.size]? = some (.cells (t.cells A) 25 (0, 0)) ∧ IsTr v t A ∧ IsInts v oa o ∧ Below w.heap.size w v) := fun v h => ⟨(h.block _ (heap_lt HW.out.2.1)).trans HW.out.2.1, HW.out.2.2.2.1.mono h, HW.out.2.2.2.2.mono h, HW.out.1.trans (h.mono HW.out.1.size)⟩
  have KU : Hid (∀ v, Below w1.heap.size w1 v → v.cell? ⟨w.heap.size + 1, 0, none⟩ = some (.int .u8 by_)) := fun v h => by rw [cell_of_heap ((h.block _ (heap_lt HW.out.2.2.1)).trans HW.out.2.2.1)]; rfl
  have HWL : Hid (w.heap.size + 1 < w1.heap.size) := heap_lt HW.out.2.2.1
  have HB := Lib.hid (Below.refl w1.heap.size w1)
  obtain ⟨k0, k1, k2, k3, k4⟩ := tr_cells (KP.out w1 HB.out).1
  go_wp2_with fail
  refine (HG.out _ (KP.out w1 HB.out).2.1).mono ?_
  rintro e b1 ⟨rfl, hb⟩
  have HX := Lib.hid (HB.out.trans (hb.mono HB.out.size))
  clear hb HB HG k0 k1 k2 k3 k4
  have HB := HX
  clear HX
  cases hg : t.great o 6
  case true =>
    go_wp2_with fail
    refine (alive13 _).mono ?_
    rintro e c1 ⟨rfl, hb⟩
    have HX := Lib.hid (HB.out.trans (hb.mono HB.out.size))
    clear hb
    go_wp2_with fail
    go_ret
    exact ⟨rfl, (KP.out _ HX.out).2.2.2⟩
  have HN := Lib.hid (great_no hg)
  clear hg
  obtain ⟨k0, k1, k2, k3, k4⟩ := tr_cells (KP.out b1 HB.out).1
  have C33 := rtour33 (KP.out b1 HB.out).2.1 HN.out.1
  go_wp2_with fail
  refine (C33).mono ?_
  rintro e b2 ⟨rfl, hb⟩
  have HX := Lib.hid (HB.out.trans (hb.mono HB.out.size))
  clear hb HB C33 k0 k1 k2 k3 k4
  have HB := HX
  clear HX
  cases hv : t.valid
  case false =>
    go_wp2_with fail
    refine (alive13 _).mono ?_
    rintro e c1 ⟨rfl, hb⟩
    have HX := Lib.hid (HB.out.trans (hb.mono HB.out.size))
    clear hb
    go_wp2_with fail
    go_ret
    exact ⟨rfl, (KP.out _ HX.out).2.2.2⟩
  have HV := Lib.hid hv
  clear hv
  obtain ⟨k0, k1, k2, k3, k4⟩ := tr_cells (KP.out b2 HB.out).1
  by_cases hn0 : t.frm.length = 0
  case pos =>
    have hnz : ((t.frm.length : Int) == 0) = true := by simpa using hn0
    have HN0 := Lib.hid hn0
    clear hn0
    go_wp2_with fail
    refine (alive13 _).mono ?_
    rintro e c1 ⟨rfl, hb⟩
    have HX := Lib.hid (HB.out.trans (hb.mono HB.out.size))
    clear hb
    go_wp2_with fail
    go_ret
    exact ⟨rfl, (KP.out _ HX.out).2.2.2⟩
  have hnz : ((t.frm.length : Int) == 0) = false := by simpa using hn0
  have HFT := Lib.hid (fit_of_valid HV.out)
  have h6 : t.frm.length ≤ 6 := HFT.out.n
  go_wp2_with fail
  refine HK1.out _ _ ?_
  clear HK1 K1
  clear HK0 K0 hnz
  refine wp_seq_hid ?_
  intro K3 HK3
  go_wp2_with fail
  refine HK3.out _ _ ?_
  clear HK3 K3
  clear k0 k1 k2 k3 k4
  obtain ⟨k, hk⟩ : ∃ k : Nat, which.tmod (t.frm.length : Int) = (k : Int) := ⟨(which % (t.frm.length : Int)).toNat, by rw [Int.tmod_eq_emod_of_nonneg hwh.1]; have := Int.emod_nonneg which (show (t.frm.length : Int) ≠ 0 by omega); omega⟩
  have hkn : k < t.frm.length := by
    have h1 := Int.tmod_lt_of_pos which (show (0 : Int) < (t.frm.length : Int) by omega)
    omega
  have hww : IntKind.i64.wrap which = which := IntWalk.i64_in _ (by omega)
  refine wp_seq_hid ?_
  intro K4 HK4
  go_wp2_with fail
  refine HK4.out _ _ ?_
  clear HK4 K4
  clear hww hk
  refine wp_seq_hid ?_
  intro K5 HK5
  go_wp2_with fail
  refine HK5.out _ _ ?_
  clear HK5 K5
  refine wp_seq_hid ?_
  intro K6 HK6
  go_upto_region 6 with fail
  refine mor6 (t := t) (A := A) (bx := w.heap.size) (KP.out b2 HB.out).1 ?_
  rintro x62 x63 x64 x12 x13 x14 v1 hb rfl rfl rfl ⟨b12, rfl, hn12, g12⟩ ⟨b13, rfl, hn13, g13⟩ ⟨b14, rfl, hn14, g14⟩ ne1 ne2 ne3
  have HM : Hid (Mor b2 b12 b13 b14 (t.cells A) (t.cells A) (t.cells A) v1) := ⟨hb, g12, g13, g14⟩
  have HMB : Hid (MorB b2 b12 b13 b14) := ⟨hn12, hn13, hn14, fun e => ne1 (by rw [e]), fun e => ne2 (by rw [e]), fun e => ne3 (by rw [e])⟩
  clear hb g12 g13 g14 hn12 hn13 hn14 ne1 ne2 ne3
  have KQ : Hid (∀ v, Below b2.heap.size b2 v → v.heap[w.heap.size]? = some (.cells (t.cells A) 25 (0, 0)) ∧ IsTr v t A ∧ IsInts v oa o ∧ Below w.heap.size w v ∧ v.cell? ⟨w.heap.size + 1, 0, none⟩ = some (.int .u8 by_) ∧ Below w1.heap.size w1 v) := fun v h =>
    have hb := HB.out.trans (h.mono HB.out.size)
    ⟨(KP.out v hb).1, (KP.out v hb).2.1, (KP.out v hb).2.2.1, (KP.out v hb).2.2.2, KU.out v hb, hb⟩
  go_wp2_with fail
  refine HK6.out _ _ ?_
  clear HK6 K6
  refine wp_seq_hid ?_
  intro K7 HK7
  go_upto_region 7 with fail
  refine wpIn_wide.1 (mor7 (t := t) (A := A) (bx := w.heap.size) (b7 := w.heap.size + 1) (b12 := b12) (k := k)
    (S0 := fun v => Mor b2 b12 b13 b14 (t.cells A) (t.cells A) (t.cells A) v)
    (S1 := fun r1 v => Mor b2 b12 b13 b14 (t.cells A) (t.cells A) (t.cells A) v ∧ SpRow r1.1 (narL by_ t.stay k) v ∧ (r1.1 ≠ b12 ∧ r1.1 ≠ b13 ∧ r1.1 ≠ b14 ∧ b2.heap.size ≤ r1.1))
    (S2 := fun r1 r2 v => Mor b2 b12 b13 b14 (t.cells A) (t.cells A) (t.cells A) v ∧ (SpRow r1.1 (narL by_ t.stay k) v ∧ (r1.1 ≠ b12 ∧ r1.1 ≠ b13 ∧ r1.1 ≠ b14 ∧ b2.heap.size ≤ r1.1)) ∧ SpRow r2.1 (narL by_ t.frm k) v ∧ (r2.1 ≠ b12 ∧ r2.1 ≠ b13 ∧ r2.1 ≠ b14 ∧ b2.heap.size ≤ r2.1))
    (S3 := fun r1 r2 v => Mor b2 b12 b13 b14 ((t.cells A).setIfInBounds 3 (.slice (some ⟨r1.1, 0, none⟩) t.stay.length r1.2)) (t.cells A) (t.cells A) v ∧ (SpRow r1.1 (narL by_ t.stay k) v ∧ (r1.1 ≠ b12 ∧ r1.1 ≠ b13 ∧ r1.1 ≠ b14 ∧ b2.heap.size ≤ r1.1)) ∧ SpRow r2.1 (narL by_ t.frm k) v ∧ (r2.1 ≠ b12 ∧ r2.1 ≠ b13 ∧ r2.1 ≠ b14 ∧ b2.heap.size ≤ r2.1))
    (S4 := fun r1 r2 v => Mor b2 b12 b13 b14 (((t.cells A).setIfInBounds 3 (.slice (some ⟨r1.1, 0, none⟩) t.stay.length r1.2)).setIfInBounds 1 (.slice (some ⟨r2.1, 0, none⟩) t.frm.length r2.2)) (t.cells A) (t.cells A) v ∧ (SpRow r1.1 (narL by_ t.stay k) v ∧ (r1.1 ≠ b12 ∧ r1.1 ≠ b13 ∧ r1.1 ≠ b14 ∧ b2.heap.size ≤ r1.1)) ∧ SpRow r2.1 (narL by_ t.frm k) v ∧ (r2.1 ≠ b12 ∧ r2.1 ≠ b13 ∧ r2.1 ≠ b14 ∧ b2.heap.size ≤ r2.1))
    ?h0 ?l2 ?c4 ?l7 ?c9 ?c11 ?c13 ?hQ)
  case h0 => exact HM.out.mono (Below.refl _ _).drew
  case l2 => exact fun v h => (tr_cells (KQ.out v h.below).1).2.2.2.1
  case c4 =>
    intro v h
    refine (narrow40 (KQ.out v h.below).2.2.2.2.1 hby (by rw [HFT.out.stay]; exact hkn) (by rw [HFT.out.stay]; omega) (HFT.out.oks k hkn) (KQ.out v h.below).2.1.stay).mono ?_
    rintro e w' ⟨g, c, rfl, h1, h2, h3⟩
    exact ⟨(g, c), rfl, h.mono h3, h2, by have := heap_lt h.g12; show g ≠ b12; omega, by have := heap_lt h.g13; show g ≠ b13; omega, by have := heap_lt h.g14; show g ≠ b14; omega, Nat.le_trans h.below.size h1⟩
  case l7 =>
    intro r1 v h
    have hb : Below b2.heap.size b2 v := h.elim (fun h => h.below) (fun h => h.1.below)
    exact (tr_cells (KQ.out v hb).1).2.1
  case c9 =>
    intro r1 v h
    refine (narrow40 (KQ.out v h.1.below).2.2.2.2.1 hby hkn (by omega) (HFT.out.okf k hkn) (KQ.out v h.1.below).2.1.frm).mono ?_
    rintro e w' ⟨g, c, rfl, h1, h2, h3⟩
    exact ⟨(g, c), rfl, h.1.mono h3, ⟨h.2.1.mono h3, h.2.2⟩, h2, by have := heap_lt h.1.g12; show g ≠ b12; omega, by have := heap_lt h.1.g13; show g ≠ b13; omega, by have := heap_lt h.1.g14; show g ≠ b14; omega, Nat.le_trans h.1.below.size h1⟩
  case c11 => exact fun r1 r2 v h => ⟨⟨_, by rw [cell_of_heap h.1.g12]; rfl⟩, frozen_of_heap h.1.g12, h.1.set12 HMB.out _ _, ⟨h.2.1.1.other (Ne.symm h.2.1.2.1) _ _, h.2.1.2⟩, h.2.2.1.other (Ne.symm h.2.2.2.1) _ _, h.2.2.2⟩
  case c13 => exact fun r1 r2 v h => ⟨⟨_, by rw [cell_of_heap h.1.g12]; rfl⟩, frozen_of_heap h.1.g12, h.1.set12 HMB.out _ _, ⟨h.2.1.1.other (Ne.symm h.2.1.2.1) _ _, h.2.1.2⟩, h.2.2.1.other (Ne.symm h.2.2.2.1) _ _, h.2.2.2⟩
  rintro r1 r2 v2 hv2
  have H2 := Lib.hid hv2
  clear hv2 HM
  go_wp2_with fail
  refine HK7.out _ _ ?_
  clear HK7 K7
  refine wp_seq_hid ?_
  intro K8 HK8
  have hwl : t.ways.length = t.frm.length := HFT.out.ways
  have HWY := Lib.hid hwl
  have hba : Below v2.heap.size v2 (v2.alloc (.cells #[] 22)) := (Below.refl _ v2).alloc (Nat.le_refl _) _
  obtain ⟨wb, wc, v3, hr, hg1, hg2, hcur, hb3⟩ := copy_ways (cv := A.cw) (by omega) (by omega) hba (own_none22 (Nat.le_refl _)) H2.out.1.below (KQ.out b2 (Below.refl _ _)).2.1.ways
  have HRUN := Lib.hid hr
  have HB3 := Lib.hid hb3
  have HCUR := Lib.hid hcur
  have HWB : Hid (wb ≠ b12 ∧ wb ≠ b13 ∧ wb ≠ b14 ∧ b2.heap.size ≤ wb) := ⟨by have := heap_lt H2.out.1.g12; omega, by have := heap_lt H2.out.1.g13; omega, by have := heap_lt H2.out.1.g14; omega, Nat.le_trans H2.out.1.below.size hg1⟩
  have HWR : Hid (wb ≠ r1.1 ∧ wb ≠ r2.1) := by
    obtain ⟨c1, e1, _⟩ := H2.out.2.1.1.row
    obtain ⟨c2, e2, _⟩ := H2.out.2.2.1.row
    have := heap_lt e1
    have := heap_lt e2
    exact ⟨by omega, by omega⟩
  obtain ⟨k0, k1, k2, k3, k4⟩ := tr_cells (KQ.out v2 H2.out.1.below).1
  have k2' := cell_stays hba k2
  have HM3 := Lib.hid (H2.out.1.mono hb3)
  have ca : v3.cell? ⟨b12, 2, none⟩ = some (.slice A.aw t.ways.length A.cw) := by rw [cell_of_heap HM3.out.g12]; rfl
  have fa : v3.frozen? ⟨b12, 2, none⟩ = false := frozen_of_heap HM3.out.g12
  clear hr hb3 hcur hba k0 k1 k2 k3 k4 hg1 hg2 hwl
  go_wp2_with (at_builtin; refine wpList_append_run rfl (.tmp 77) (.tmp 79) 23 rfl _ _ _ _ rfl rfl HRUN.out ?_)
  refine HK8.out _ _ ?_
  clear HK8 K8 k2' ca fa
  have H4 : Hid (Mor b2 b12 b13 b14 (((t.cells A).setIfInBounds 3 (.slice (some ⟨r1.1, 0, none⟩) t.stay.length r1.2)).setIfInBounds 1 (.slice (some ⟨r2.1, 0, none⟩) t.frm.length r2.2) |>.setIfInBounds 2 (.slice (some ⟨wb, 0, none⟩) t.ways.length wc)) (t.cells A) (t.cells A) (v3.setCell ⟨b12, 2, none⟩ (.slice (some ⟨wb, 0, none⟩) t.ways.length wc)) ∧
      SpRow r1.1 (narL by_ t.stay k) (v3.setCell ⟨b12, 2, none⟩ (.slice (some ⟨wb, 0, none⟩) t.ways.length wc)) ∧ SpRow r2.1 (narL by_ t.frm k) (v3.setCell ⟨b12, 2, none⟩ (.slice (some ⟨wb, 0, none⟩) t.ways.length wc)) ∧ WyRow b2 wb t.ways (v3.setCell ⟨b12, 2, none⟩ (.slice (some ⟨wb, 0, none⟩) t.ways.length wc))) :=
    ⟨HM3.out.set12 HMB.out _ _, (H2.out.2.1.1.mono HB3.out).other (Ne.symm H2.out.2.1.2.1) _ _, (H2.out.2.2.1.mono HB3.out).other (Ne.symm H2.out.2.2.2.1) _ _, HCUR.out.other (Ne.symm HWB.out.1) _ _⟩
  have HNR := Lib.hid (And.intro H2.out.2.1.2 H2.out.2.2.2)
  revert H4
  generalize (v3.setCell ⟨b12, 2, none⟩ (.slice (some ⟨wb, 0, none⟩) t.ways.length wc)) = v4
  intro H4
  clear HRUN HB3 HM3 HCUR H2
  refine wp_seq_hid ?_
  intro K9 HK9
  obtain ⟨m, hm⟩ : ∃ m : Nat, m = (k + 1) % t.frm.length := ⟨_, rfl⟩
  have hmn : m < t.frm.length := by rw [hm]; exact Nat.mod_lt _ (by omega)
  have hmt : ((k : Int) + 1).tmod (t.frm.length : Int) = (m : Int) := by rw [Int.tmod_eq_emod_of_nonneg (by omega), hm]; simp
  have HMM := Lib.hid hm
  clear hm
  have hkw : k < t.ways.length := by rw [HWY.out]; exact hkn
  obtain ⟨ob, oo, hoe, ai, ci, _, _⟩ := (KQ.out b2 (Below.refl _ _)).2.1.ways k hkw
  have hrk : (gw t.ways k).length = t.frm.length := HFT.out.rows k hkn
  have HRK := Lib.hid hrk
  have HOE := Lib.hid hoe
  have HWC : Hid (∀ v, Below b2.heap.size b2 v → ∃ ai ci, v.cell? ⟨ob, oo + k, none⟩ = some (.slice ai (gw t.ways k).length ci) ∧ IsSpns v ai (gw t.ways k)) := fun v hb => by
    obtain ⟨b', o', e, ai, ci, h1, h2⟩ := (KQ.out v hb).2.1.ways k hkw
    rw [HOE.out] at e; cases e
    exact ⟨ai, ci, h1, h2⟩
  obtain ⟨ai, ci, hc0, hs0⟩ := HWC.out v4 H4.out.1.below
  have HAI : Hid (∀ v, Below v4.heap.size v4 v → v.cell? ⟨ob, oo + k, none⟩ = some (.slice ai (gw t.ways k).length ci) ∧ IsSpns v ai (gw t.ways k)) := fun v hb => ⟨cell_stays hb hc0, hs0.mono hb⟩
  clear hoe hrk hc0 hs0
  go_upto_region 9 with fail
  refine wpIn_wide.1 (mor9 (bx := w.heap.size) (b7 := w.heap.size + 1) (b12 := b12) (k := k) (m := m) (n := t.frm.length) (wb := wb) (wn := t.ways.length) (wc := wc) (ob := ob) (oo := oo) (oc := A.cw) (ai := ai) (rn := (gw t.ways k).length) (rc := ci)
    (S0 := fun v => Below v4.heap.size v4 v)
    (S1 := fun r v => Below v4.heap.size v4 v ∧ SpRow r.1 (narL by_ (gw t.ways k) m) v ∧ v4.heap.size ≤ r.1)
    (S2 := fun r v => Mor b2 b12 b13 b14 (((t.cells A).setIfInBounds 3 (.slice (some ⟨r1.1, 0, none⟩) t.stay.length r1.2)).setIfInBounds 1 (.slice (some ⟨r2.1, 0, none⟩) t.frm.length r2.2) |>.setIfInBounds 2 (.slice (some ⟨wb, 0, none⟩) t.ways.length wc)) (t.cells A) (t.cells A) v ∧ SpRow r1.1 (narL by_ t.stay k) v ∧ SpRow r2.1 (narL by_ t.frm k) v ∧ WyK b2 wb t.ways k (.slice (some ⟨r.1, 0, none⟩) (gw t.ways k).length r.2) v ∧ SpRow r.1 (narL by_ (gw t.ways k) m) v ∧ r.1 ≠ b13 ∧ r.1 ≠ b14 ∧ r.1 ≠ b12)
    hkw (IntWalk.i64_in _ (by omega)) hmt hn0 ?h0b ?l1b ?l5b ?l8b ?c13b ?c15b ?hQb)
  case h0b => exact (Below.refl _ _).drew
  case l1b =>
    intro r v h
    have hb : Below v4.heap.size v4 v := h.elim (fun h => h) (fun h => h.1)
    rw [cell_of_heap (H4.out.1.mono hb).g12]; rfl
  case l5b =>
    intro v h
    have := (tr_cells (KQ.out v (H4.out.1.mono h).below).1).2.2.1
    rw [HOE.out] at this; exact this
  case l8b => exact fun v h => (HAI.out v h).1
  case c13b =>
    intro v h
    refine (narrow40 (KQ.out v (H4.out.1.mono h).below).2.2.2.2.1 hby (by rw [HRK.out]; exact hmn) (by rw [HRK.out]; omega) (HFT.out.okw k m hkn hmn) (HAI.out v h).2).mono ?_
    rintro e w' ⟨g, c, rfl, h1, h2, h3⟩
    exact ⟨(g, c), rfl, h.trans (h3.mono h.size), h2, Nat.le_trans h.size h1⟩
  case c15b =>
    intro r v h
    have hp := (H4.out.2.2.2.mono h.1).put hkw (.slice (some ⟨r.1, 0, none⟩) (gw t.ways k).length r.2)
    have hwl := H4.out.2.2.2.row
    obtain ⟨cur, hcur, _⟩ := hwl
    have hwlt := heap_lt hcur
    have g1 := heap_lt H4.out.1.g12
    have g2 := heap_lt H4.out.1.g13
    have g3 := heap_lt H4.out.1.g14
    have hge := h.2.2
    exact ⟨hp.1, hp.2.1, (H4.out.1.mono h.1).other HWB.out.2.2.2 HWB.out.1 HWB.out.2.1 HWB.out.2.2.1 _ _, (H4.out.2.1.mono h.1).other HWR.out.1 _ _, (H4.out.2.2.1.mono h.1).other HWR.out.2 _ _, hp.2.2, h.2.1.other (by omega) _ _, by omega, by omega, by omega⟩
  rintro r3 v5 h5
  have H5 := Lib.hid h5
  clear h5 H4 HAI HWC hmt
  go_wp2_with fail
  refine HK9.out _ _ ?_
  clear HK9 K9
  refine wp_seq_hid ?_
  intro K10 HK10
  have hll : t.light.length = t.frm.length := HFT.out.light
  have HLL := Lib.hid hll
  have hba : Below v5.heap.size v5 (v5.alloc (.cells #[] 33)) := (Below.refl _ v5).alloc (Nat.le_refl _) _
  obtain ⟨lb, lc, v6, hr, hg1, hrow, hb6⟩ := copy_spns (cv := A.cl) (by omega) (by omega) hba (own_none33 (Nat.le_refl _)) ((KQ.out v5 H5.out.1.below).2.1.light.mono hba)
  have HRUN := Lib.hid hr
  have HLB : Hid (lb ≠ b12 ∧ lb ≠ b13 ∧ lb ≠ b14 ∧ b2.heap.size ≤ lb ∧ lb ≠ r1.1 ∧ lb ≠ r2.1 ∧ lb ≠ wb ∧ lb ≠ r3.1) := by
    have g1 := heap_lt H5.out.1.g12
    have g2 := heap_lt H5.out.1.g13
    have g3 := heap_lt H5.out.1.g14
    obtain ⟨c1, e1, _⟩ := H5.out.2.1.row
    obtain ⟨c2, e2, _⟩ := H5.out.2.2.1.row
    obtain ⟨c3, e3, _⟩ := H5.out.2.2.2.1.row
    obtain ⟨c4, e4, _⟩ := H5.out.2.2.2.2.1.row
    have := heap_lt e1
    have := heap_lt e2
    have := heap_lt e3
    have := heap_lt e4
    have := H5.out.1.below.size
    exact ⟨by omega, by omega, by omega, by omega, by omega, by omega, by omega, by omega⟩
  have H6 : Hid (Mor b2 b12 b13 b14 (((t.cells A).setIfInBounds 3 (.slice (some ⟨r1.1, 0, none⟩) t.stay.length r1.2)).setIfInBounds 1 (.slice (some ⟨r2.1, 0, none⟩) t.frm.length r2.2) |>.setIfInBounds 2 (.slice (some ⟨wb, 0, none⟩) t.ways.length wc)) (t.cells A) (t.cells A) v6 ∧ SpRow r1.1 (narL by_ t.stay k) v6 ∧ SpRow r2.1 (narL by_ t.frm k) v6 ∧ WyK b2 wb t.ways k (.slice (some ⟨r3.1, 0, none⟩) (gw t.ways k).length r3.2) v6 ∧ SpRow r3.1 (narL by_ (gw t.ways k) m) v6 ∧ SpRow lb t.light v6) :=
    ⟨H5.out.1.mono hb6, H5.out.2.1.mono hb6, H5.out.2.2.1.mono hb6, H5.out.2.2.2.1.mono hb6, H5.out.2.2.2.2.1.mono hb6, hrow⟩
  have HNE5 := Lib.hid H5.out.2.2.2.2.2
  obtain ⟨k0, k1, k2, k3, k4⟩ := tr_cells (KQ.out v5 H5.out.1.below).1
  have k4' := cell_stays hba k4
  have ca : v6.cell? ⟨b13, 4, none⟩ = some (.slice A.al t.light.length A.cl) := by rw [cell_of_heap H6.out.1.g13]; rfl
  have fa : v6.frozen? ⟨b13, 4, none⟩ = false := frozen_of_heap H6.out.1.g13
  clear hr hrow hb6 hba k0 k1 k2 k3 k4 hg1 hll
  go_wp2_with (at_builtin; refine wpList_append_run rfl (.tmp 97) (.tmp 99) 22 rfl _ _ _ _ rfl rfl HRUN.out ?_)
  refine HK10.out _ _ ?_
  clear HK10 K10 k4' ca fa HRUN H5
  have H7 : Hid (Mor b2 b12 b13 b14 (((t.cells A).setIfInBounds 3 (.slice (some ⟨r1.1, 0, none⟩) t.stay.length r1.2)).setIfInBounds 1 (.slice (some ⟨r2.1, 0, none⟩) t.frm.length r2.2) |>.setIfInBounds 2 (.slice (some ⟨wb, 0, none⟩) t.ways.length wc)) ((t.cells A).setIfInBounds 4 (.slice (some ⟨lb, 0, none⟩) t.light.length lc)) (t.cells A) (v6.setCell ⟨b13, 4, none⟩ (.slice (some ⟨lb, 0, none⟩) t.light.length lc)) ∧ SpRow r1.1 (narL by_ t.stay k) (v6.setCell ⟨b13, 4, none⟩ (.slice (some ⟨lb, 0, none⟩) t.light.length lc)) ∧ SpRow r2.1 (narL by_ t.frm k) (v6.setCell ⟨b13, 4, none⟩ (.slice (some ⟨lb, 0, none⟩) t.light.length lc)) ∧ WyK b2 wb t.ways k (.slice (some ⟨r3.1, 0, none⟩) (gw t.ways k).length r3.2) (v6.setCell ⟨b13, 4, none⟩ (.slice (some ⟨lb, 0, none⟩) t.light.length lc)) ∧ SpRow r3.1 (narL by_ (gw t.ways k) m) (v6.setCell ⟨b13, 4, none⟩ (.slice (some ⟨lb, 0, none⟩) t.light.length lc)) ∧ SpRow lb t.light (v6.setCell ⟨b13, 4, none⟩ (.slice (some ⟨lb, 0, none⟩) t.light.length lc))) :=
    ⟨H6.out.1.set13 HMB.out _ _, H6.out.2.1.other (Ne.symm HNR.out.1.2.1) _ _, H6.out.2.2.1.other (Ne.symm HNR.out.2.2.1) _ _, H6.out.2.2.2.1.other (Ne.symm HWB.out.2.1) _ _, H6.out.2.2.2.2.1.other (Ne.symm HNE5.out.1) _ _, H6.out.2.2.2.2.2.other (Ne.symm HLB.out.2.1) _ _⟩
  revert H7
  generalize (v6.setCell ⟨b13, 4, none⟩ (.slice (some ⟨lb, 0, none⟩) t.light.length lc)) = v7
  intro H7
  clear H6
  refine wp_seq_hid ?_
  intro K11 HK11
  have hkl : k < t.light.length := by rw [HLL.out]; exact hkn
  have lok := (ok_iff _).1 (HFT.out.okl k hkn)
  obtain ⟨lo, hlo⟩ : ∃ lo, (gs t.light k).lo = lo := ⟨_, rfl⟩
  obtain ⟨hi, hhi⟩ : ∃ hi, (gs t.light k).hi = hi := ⟨_, rfl⟩
  have hc := H7.out.2.2.2.2.2.cells hkl
  rw [hlo, hhi] at hc lok
  have t1 : by_.tmod 30 = by_ % 30 := Int.tmod_eq_emod_of_nonneg hby.1
  have t2 : by_.tmod 40 = by_ % 40 := Int.tmod_eq_emod_of_nonneg hby.1
  have u1 := Int.emod_nonneg by_ (show (30 : Int) ≠ 0 by omega)
  have u2 := Int.emod_nonneg by_ (show (40 : Int) ≠ 0 by omega)
  have u3 := Int.emod_lt_of_pos by_ (show (0 : Int) < 30 by omega)
  have u4 := Int.emod_lt_of_pos by_ (show (0 : Int) < 40 by omega)
  have HWS : Hid (widS by_ (gs t.light k) = ⟨max 0 (lo - by_ % 30), min 1440 (hi + by_ % 40)⟩) := by unfold widS; rw [hlo, hhi]; rfl
  obtain ⟨q1, hq1⟩ : ∃ r, by_ % 30 = r := ⟨_, rfl⟩
  obtain ⟨q2, hq2⟩ : ∃ r, by_ % 40 = r := ⟨_, rfl⟩
  rw [hq1] at t1 u1 u3 HWS
  rw [hq2] at t2 u2 u4 HWS
  have y0 : IntKind.i64.wrap by_ = by_ := IntWalk.i64_in _ (by omega)
  have y1 : IntKind.i64.wrap (lo - q1) = lo - q1 := IntWalk.i64_in _ (by omega)
  have y2 : IntKind.i64.wrap (hi + q2) = hi + q2 := IntWalk.i64_in _ (by omega)
  have hl13 : v7.cell? ⟨b13, 4, none⟩ = some (.slice (some ⟨lb, 0, none⟩) t.light.length lc) := by rw [cell_of_heap H7.out.1.g13]; rfl
  have hb7 := (KQ.out v7 H7.out.1.below).2.2.2.2.1
  have HLH := Lib.hid (And.intro hlo hhi)
  clear hlo hhi hq1 hq2
  have z1 := fun y : Aft v7.heap.size v7 => cell_stays y.h hc.1
  have z2 := fun y : Aft v7.heap.size v7 => cell_stays y.h hc.2
  have z3 := fun y : Aft v7.heap.size v7 => cell_stays y.h hl13
  have z4 := fun y : Aft v7.heap.size v7 => cell_stays y.h hb7
  have z5 := Lib.hid (fun (y : Aft v7.heap.size v7) => span41 (max 0 (lo - q1)) (min 1440 (hi + q2)) y.v)
  clear hc hl13 hb7
  refine wp_region_aft_tail 27 mixed (by kernel_rfl) ?_
  simp only [List.take_succ_cons, List.take_zero, List.drop_succ_cons, List.drop_zero]
  repeat (go_big_quiet_step ((go_at_call 41; exact calls_aft (z5.out _))))
  refine wpQuiet_nil ?_
  rintro _ ⟨y, rfl⟩
  have hmo : ∀ {x : List Spn}, Mor b2 b12 b13 b14 (((t.cells A).setIfInBounds 3 (.slice (some ⟨r1.1, 0, none⟩) t.stay.length r1.2)).setIfInBounds 1 (.slice (some ⟨r2.1, 0, none⟩) t.frm.length r2.2) |>.setIfInBounds 2 (.slice (some ⟨wb, 0, none⟩) t.ways.length wc)) ((t.cells A).setIfInBounds 4 (.slice (some ⟨lb, 0, none⟩) t.light.length lc)) (t.cells A) v7 ∧ SpRow r1.1 (narL by_ t.stay k) v7 ∧ SpRow r2.1 (narL by_ t.frm k) v7 ∧ WyK b2 wb t.ways k (.slice (some ⟨r3.1, 0, none⟩) (gw t.ways k).length r3.2) v7 ∧ SpRow r3.1 (narL by_ (gw t.ways k) m) v7 ∧ SpRow lb x v7 → Mor b2 b12 b13 b14 (((t.cells A).setIfInBounds 3 (.slice (some ⟨r1.1, 0, none⟩) t.stay.length r1.2)).setIfInBounds 1 (.slice (some ⟨r2.1, 0, none⟩) t.frm.length r2.2) |>.setIfInBounds 2 (.slice (some ⟨wb, 0, none⟩) t.ways.length wc)) ((t.cells A).setIfInBounds 4 (.slice (some ⟨lb, 0, none⟩) t.light.length lc)) (t.cells A) y.v ∧ SpRow r1.1 (narL by_ t.stay k) y.v ∧ SpRow r2.1 (narL by_ t.frm k) y.v ∧ WyK b2 wb t.ways k (.slice (some ⟨r3.1, 0, none⟩) (gw t.ways k).length r3.2) y.v ∧ SpRow r3.1 (narL by_ (gw t.ways k) m) y.v ∧ SpRow lb x y.v := fun h => ⟨h.1.mono y.h, h.2.1.mono y.h, h.2.2.1.mono y.h, h.2.2.2.1.mono y.h, h.2.2.2.2.1.mono y.h, h.2.2.2.2.2.mono y.h⟩
  have H8 := Lib.hid (hmo H7.out)
  clear hmo z1 z2 z3 z4 z5 H7
  revert H8
  generalize y.v = v8
  intro H8
  have ca := H8.out.2.2.2.2.2.cells hkl
  have fa := H8.out.2.2.2.2.2.frozen
  obtain ⟨c0, c1⟩ := ca
  have f0 := fa (k * 2)
  have f1 := fa (k * 2 + 1)
  clear fa
  go_wp2_with fail
  refine HK11.out _ _ ?_
  clear HK11 K11 c0 c1 f0 f1
  have H9 : Hid (Mor b2 b12 b13 b14 (((t.cells A).setIfInBounds 3 (.slice (some ⟨r1.1, 0, none⟩) t.stay.length r1.2)).setIfInBounds 1 (.slice (some ⟨r2.1, 0, none⟩) t.frm.length r2.2) |>.setIfInBounds 2 (.slice (some ⟨wb, 0, none⟩) t.ways.length wc)) ((t.cells A).setIfInBounds 4 (.slice (some ⟨lb, 0, none⟩) t.light.length lc)) (t.cells A) ((v8.setCell ⟨lb, k * 2, none⟩ (.int .i64 (max 0 (lo - q1)))).setCell ⟨lb, k * 2 + 1, none⟩ (.int .i64 (min 1440 (hi + q2)))) ∧ SpRow r1.1 (narL by_ t.stay k) ((v8.setCell ⟨lb, k * 2, none⟩ (.int .i64 (max 0 (lo - q1)))).setCell ⟨lb, k * 2 + 1, none⟩ (.int .i64 (min 1440 (hi + q2)))) ∧ SpRow r2.1 (narL by_ t.frm k) ((v8.setCell ⟨lb, k * 2, none⟩ (.int .i64 (max 0 (lo - q1)))).setCell ⟨lb, k * 2 + 1, none⟩ (.int .i64 (min 1440 (hi + q2)))) ∧ WyK b2 wb t.ways k (.slice (some ⟨r3.1, 0, none⟩) (gw t.ways k).length r3.2) ((v8.setCell ⟨lb, k * 2, none⟩ (.int .i64 (max 0 (lo - q1)))).setCell ⟨lb, k * 2 + 1, none⟩ (.int .i64 (min 1440 (hi + q2)))) ∧ SpRow r3.1 (narL by_ (gw t.ways k) m) ((v8.setCell ⟨lb, k * 2, none⟩ (.int .i64 (max 0 (lo - q1)))).setCell ⟨lb, k * 2 + 1, none⟩ (.int .i64 (min 1440 (hi + q2)))) ∧ SpRow lb (t.light.set k (widS by_ (gs t.light k))) ((v8.setCell ⟨lb, k * 2, none⟩ (.int .i64 (max 0 (lo - q1)))).setCell ⟨lb, k * 2 + 1, none⟩ (.int .i64 (min 1440 (hi + q2))))) := by
    have h1 := H8.out.2.2.2.2.2.lo hkl (max 0 (lo - q1))
    have h2 := h1.hi (i := k) (by rw [List.length_set]; exact hkl) (min 1440 (hi + q2))
    rw [gs_set hkl, if_pos rfl, List.set_set] at h2
    have hwz := HWS.out
    refine ⟨(H8.out.1.other HLB.out.2.2.2.1 HLB.out.1 HLB.out.2.1 HLB.out.2.2.1 _ _).other HLB.out.2.2.2.1 HLB.out.1 HLB.out.2.1 HLB.out.2.2.1 _ _, (H8.out.2.1.other HLB.out.2.2.2.2.1 _ _).other HLB.out.2.2.2.2.1 _ _, (H8.out.2.2.1.other HLB.out.2.2.2.2.2.1 _ _).other HLB.out.2.2.2.2.2.1 _ _, (H8.out.2.2.2.1.other HLB.out.2.2.2.2.2.2.1 _ _).other HLB.out.2.2.2.2.2.2.1 _ _, (H8.out.2.2.2.2.1.other HLB.out.2.2.2.2.2.2.2 _ _).other HLB.out.2.2.2.2.2.2.2 _ _, ?_⟩
    rw [hwz]; exact h2
  revert H9
  generalize ((v8.setCell ⟨lb, k * 2, none⟩ (.int .i64 (max 0 (lo - q1)))).setCell ⟨lb, k * 2 + 1, none⟩ (.int .i64 (min 1440 (hi + q2)))) = v9
  intro H9
  clear H8 HWS t1 t2 u1 u2 u3 u4 y1 y2 lok
  refine wp_seq_hid ?_
  intro K12 HK12
  have t5 : by_.tmod 50 = by_ % 50 := Int.tmod_eq_emod_of_nonneg hby.1
  have u5 := Int.emod_nonneg by_ (show (50 : Int) ≠ 0 by omega)
  have u6 := Int.emod_lt_of_pos by_ (show (0 : Int) < 50 by omega)
  obtain ⟨q5, hq5⟩ : ∃ r, by_ % 50 = r := ⟨_, rfl⟩
  rw [hq5] at t5 u5 u6
  have hdw := HFT.out.dawn
  have y5 : IntKind.i64.wrap (t.dawn + q5) = t.dawn + q5 := IntWalk.i64_in _ (by omega)
  obtain ⟨d, hd⟩ : ∃ d, min 1440 (t.dawn + q5) = d := ⟨_, rfl⟩
  have hdd : t.dawn ≤ d ∧ 0 ≤ d ∧ d ≤ 1440 := by omega
  have k0 := (tr_cells (KQ.out v9 H9.out.1.below).1).1
  have hb7 := (KQ.out v9 H9.out.1.below).2.2.2.2.1
  have ca : v9.cell? ⟨b14, 0, none⟩ = some (.int .i64 t.dawn) := by rw [cell_of_heap H9.out.1.g14]; rfl
  have fa : v9.frozen? ⟨b14, 0, none⟩ = false := frozen_of_heap H9.out.1.g14
  clear hq5
  have REST12 : Hid (∀ {s0 s2 s3 s5 s6 s7 s8 s9 s10 s11 s15 s16 s17 s18 s19 s20 s21 s22 s23 s24 s25 s26 s27 s28 s29 s30 s31 s32 s33 s34 s35 s36 s37 s38 s39 s40 s41 s42 s43 s44 s45 s46 s47 s48 s49 s50 s51 s52 s53 s54 s55 s56 s57 s58 s59 s60 s61 s62 s63 s64 s65 s66 s67 s68 s69 s70 s71 s72 s73 s74 s75 s76 s77 s78 s79 s80 s81 s82 s83 s84 s85 s86 s87 s88 s89 s90 s91 s92 s93 s94 s95 s96 s97 s98 s99 s100 s101 s102 s103 s104 s105 s106 s107 s108 s109 s110 s111 s112 s113 s114 s115 s116 s117 s118 s119 s120 s121 s122 s123 s124 s125 s126 s127 s128 s129 s130 s131 s132 s133 s134 s135 s136 s137 s138 s139 s140 s141 s142 s143 s144 s145 s146 s147 s148 s149 s150 s151 s152 s153 s154 s155 s156 s157 s158 s159 s160 s161 s162 s163 s164 s165 s166 s167 s168 s169 s170 s171 s172 s173 s174 s175 s176 s177 s178 s179 s180 s181 s182 s183 s184 s185 s186 s187 s188 s189 s190 s191 s192 s193 s194 s195 s196 s197 s198 s199 s200 s201 s202 s203 s204 s205 s206 s207 s208 s209 s210 s211 s212 s213 s214 s215 s216 s217 s218 s219 s220 s221 s222 s223 s224 s225 s226 s227 s228 s229 s230 s231 s232 s233 s234 s235 s236 s237 s238 s239 s240 s241 s242 s243 s244 s245 s246 s247 s248 s249 s250 s251 s252 s253 s254 s255 s256 s257 s258 s259 s260 s261 s262 s263 s264 s265 s266 s267 s268 s269 s270 s271 s272 s273 s274 s275 s276 : Value} {v : World} {XA YA : TrA}, Below b2.heap.size b2 v → v.heap[b12]? = some (.cells ((t.thin by_ k).cells XA) 25 (0, 0)) → IsTr v (t.thin by_ k) XA → v.heap[b13]? = some (.cells ((t.wide by_ k).cells YA) 25 (0, 0)) → IsTr v (t.wide by_ k) YA → v.heap[b14]? = some (.cells ((t.on d).cells A) 25 (0, 0)) → K12 { tmps := #[s0, .slice oa o.length oc, s2, s3, .pointer (some ⟨w.heap.size, 0, none⟩), s5, s6, s7, s8, s9, s10, s11, .pointer (some ⟨b12, 0, none⟩), .pointer (some ⟨b13, 0, none⟩), .pointer (some ⟨b14, 0, none⟩), s15, s16, s17, s18, s19, s20, s21, s22, s23, s24, s25, s26, s27, s28, s29, s30, s31, s32, s33, s34, s35, s36, s37, s38, s39, s40, s41, s42, s43, s44, s45, s46, s47, s48, s49, s50, s51, s52, s53, s54, s55, s56, s57, s58, s59, s60, s61, s62, s63, s64, s65, s66, s67, s68, s69, s70, s71, s72, s73, s74, s75, s76, s77, s78, s79, s80, s81, s82, s83, s84, s85, s86, s87, s88, s89, s90, s91, s92, s93, s94, s95, s96, s97, s98, s99, s100, s101, s102, s103, s104, s105, s106, s107, s108, s109, s110, s111, s112, s113, s114, s115, s116, s117, s118, s119, s120, s121, s122, s123, s124, s125, s126, s127, s128, s129, s130, s131, s132, s133, s134, s135, s136, s137, s138, s139, s140, s141, s142, s143, s144, s145, s146, s147, s148, s149, s150, s151, s152, s153, s154, s155, s156, s157, s158, s159, s160, s161, s162, s163, s164, s165, s166, s167, s168, s169, s170, s171, s172, s173, s174, s175, s176, s177, s178, s179, s180, s181, s182, s183, s184, s185, s186, s187, s188, s189, s190, s191, s192, s193, s194, s195, s196, s197, s198, s199, s200, s201, s202, s203, s204, s205, s206, s207, s208, s209, s210, s211, s212, s213, s214, s215, s216, s217, s218, s219, s220, s221, s222, s223, s224, s225, s226, s227, s228, s229, s230, s231, s232, s233, s234, s235, s236, s237, s238, s239, s240, s241, s242, s243, s244, s245, s246, s247, s248, s249, s250, s251, s252, s253, s254, s255, s256, s257, s258, s259, s260, s261, s262, s263, s264, s265, s266, s267, s268, s269, s270, s271, s272, s273, s274, s275, s276], defers := [] } v) := by
    intro s0 s2 s3 s5 s6 s7 s8 s9 s10 s11 s15 s16 s17 s18 s19 s20 s21 s22 s23 s24 s25 s26 s27 s28 s29 s30 s31 s32 s33 s34 s35 s36 s37 s38 s39 s40 s41 s42 s43 s44 s45 s46 s47 s48 s49 s50 s51 s52 s53 s54 s55 s56 s57 s58 s59 s60 s61 s62 s63 s64 s65 s66 s67 s68 s69 s70 s71 s72 s73 s74 s75 s76 s77 s78 s79 s80 s81 s82 s83 s84 s85 s86 s87 s88 s89 s90 s91 s92 s93 s94 s95 s96 s97 s98 s99 s100 s101 s102 s103 s104 s105 s106 s107 s108 s109 s110 s111 s112 s113 s114 s115 s116 s117 s118 s119 s120 s121 s122 s123 s124 s125 s126 s127 s128 s129 s130 s131 s132 s133 s134 s135 s136 s137 s138 s139 s140 s141 s142 s143 s144 s145 s146 s147 s148 s149 s150 s151 s152 s153 s154 s155 s156 s157 s158 s159 s160 s161 s162 s163 s164 s165 s166 s167 s168 s169 s170 s171 s172 s173 s174 s175 s176 s177 s178 s179 s180 s181 s182 s183 s184 s185 s186 s187 s188 s189 s190 s191 s192 s193 s194 s195 s196 s197 s198 s199 s200 s201 s202 s203 s204 s205 s206 s207 s208 s209 s210 s211 s212 s213 s214 s215 s216 s217 s218 s219 s220 s221 s222 s223 s224 s225 s226 s227 s228 s229 s230 s231 s232 s233 s234 s235 s236 s237 s238 s239 s240 s241 s242 s243 s244 s245 s246 s247 s248 s249 s250 s251 s252 s253 s254 s255 s256 s257 s258 s259 s260 s261 s262 s263 s264 s265 s266 s267 s268 s269 s270 s271 s272 s273 s274 s275 s276 v XA YA hb h12 hx h13 hy h14
    clear H9 ca fa k0 hb7 t5 u5 u6 y5 y0 hd
    refine HK12.out _ _ ?_
    clear HK12 K12
    have HB2 := Lib.hid (And.intro hb (And.intro h12 (And.intro hx (And.intro h13 (And.intro hy h14)))))
    clear hb h12 hx h13 hy h14
    have HB := HB2
    clear HB2
    have HD := Lib.hid hdd
    clear hdd
    rcases hW : walkedE t o with ⟨wq, we⟩
    rcases hT : toursE t with ⟨ta, tc, tf⟩
    rcases hS : shortE t with ⟨sl, se⟩
    have htf : tf = 0 := by have := tours_ok HV.out; rw [hT] at this; exact (Prod.mk.inj (Prod.mk.inj this).2).2
    subst htf
    have hse : se = 0 ∨ se = 4 := by
      rcases short_cases HV.out with ⟨_, h⟩ | ⟨_, h⟩
      · rw [hS] at h; exact .inl (Prod.mk.inj h).2
      · rw [hS] at h; exact .inr (Prod.mk.inj h).2
    have hsl : sl.length ≤ 6 := by
      rcases short_cases HV.out with ⟨h1, h⟩ | ⟨_, h⟩
      · rw [hS] at h; rw [(Prod.mk.inj h).1, h1]; exact h6
      · rw [hS] at h; rw [(Prod.mk.inj h).1]; exact Nat.zero_le _
    have HE := Lib.hid (And.intro hW (And.intro hT hS))
    have HSE := Lib.hid hse
    have HSM : Hid (∀ X : Tr, X.Fit → X.Small) := fun X F => fit_small F
    have C14 : Hid (∀ (X : Tr) (XA : TrA) (a b : Int), walkedE X o = (a, b) → X.Fit → ∀ v, IsTr v X XA → IsInts v oa o → Calls Try.prog 14 #[X.v XA, .slice oa o.length oc] v fun e w' => e = .returned (.tuple #[.int .i64 a, .int .i64 b]) ∧ Below v.heap.size v w') := fun X XA a b he hF v hx ho => by
      have := walked14 (cap := oc) hx (HSM.out X hF) HN.out.2.1 ho
      rw [he] at this; exact this
    have C23 : Hid (∀ (X : Tr) (XA : TrA) (a b x : Int), toursE X = (a, b, x) → X.Fit → ∀ v, IsTr v X XA → Calls Try.prog 23 #[X.v XA] v fun e w' => e = .returned (.tuple #[.int .i64 a, .int .i64 b, .int .i64 x]) ∧ Below v.heap.size v w') := fun X XA a b x he hF v hx => by
      have := tours23 hx (HSM.out X hF)
      rw [he] at this; exact this
    have C25 : Hid (∀ (X : Tr) (XA : TrA) (l : List Int) (x : Int), shortE X = (l, x) → X.Fit → ∀ v, IsTr v X XA → Calls Try.prog 25 #[X.v XA] v fun e w' => ∃ av cv, e = .returned (.tuple #[.slice av l.length cv, .int .i64 x]) ∧ IsInts w' av l ∧ Below v.heap.size v w') := fun X XA l x he hF v hx => by
      refine (shortest25 hx (HSM.out X hF)).mono ?_
      rw [he]
      rintro e w' ⟨⟨po, ov, pa, pc⟩, rfl, ho, hat, hb⟩
      have ho : po = l := ho
      subst ho
      exact ⟨pa, pc, rfl, hat.ints, hb⟩
    clear hW hT hS hse
    refine wp_seq_hid ?_
    intro K13 HK13
    obtain ⟨k0, k1, k2, k3, k4⟩ := tr_cells (KQ.out v HB.out.1).1
    go_wp2_with fail
    refine (C14.out _ _ _ _ HE.out.1 HFT.out _ (KQ.out v HB.out.1).2.1 (KQ.out v HB.out.1).2.2.1).mono ?_
    rintro e d1 ⟨rfl, hb⟩
    have HX := Lib.hid (And.intro (HB.out.1.trans (hb.mono HB.out.1.size)) (And.intro ((hb.block _ (heap_lt HB.out.2.1)).trans HB.out.2.1) (And.intro (HB.out.2.2.1.mono hb) (And.intro ((hb.block _ (heap_lt HB.out.2.2.2.1)).trans HB.out.2.2.2.1) (And.intro (HB.out.2.2.2.2.1.mono hb) ((hb.block _ (heap_lt HB.out.2.2.2.2.2)).trans HB.out.2.2.2.2.2))))))
    clear hb HB k0 k1 k2 k3 k4
    have HB := HX
    clear HX
    go_wp2_with fail
    refine HK13.out _ _ ?_
    clear HK13 K13
    refine wp_seq_hid ?_
    intro K14 HK14
    obtain ⟨k0, k1, k2, k3, k4⟩ := tr_cells (KQ.out d1 HB.out.1).1
    go_wp2_with fail
    refine (C23.out _ _ _ _ _ HE.out.2.1 HFT.out _ (KQ.out d1 HB.out.1).2.1).mono ?_
    rintro e d2 ⟨rfl, hb⟩
    have HX := Lib.hid (And.intro (HB.out.1.trans (hb.mono HB.out.1.size)) (And.intro ((hb.block _ (heap_lt HB.out.2.1)).trans HB.out.2.1) (And.intro (HB.out.2.2.1.mono hb) (And.intro ((hb.block _ (heap_lt HB.out.2.2.2.1)).trans HB.out.2.2.2.1) (And.intro (HB.out.2.2.2.2.1.mono hb) ((hb.block _ (heap_lt HB.out.2.2.2.2.2)).trans HB.out.2.2.2.2.2))))))
    clear hb HB k0 k1 k2 k3 k4
    have HB := HX
    clear HX
    go_wp2_with fail
    refine HK14.out _ _ ?_
    clear HK14 K14
    refine wp_seq_hid ?_
    intro K15 HK15
    obtain ⟨k0, k1, k2, k3, k4⟩ := tr_cells (KQ.out d2 HB.out.1).1
    go_wp2_with fail
    refine (C25.out _ _ _ _ HE.out.2.2 HFT.out _ (KQ.out d2 HB.out.1).2.1).mono ?_
    rintro e d3 ⟨sv, sc, rfl, hs1, hb⟩
    have HX := Lib.hid (And.intro (HB.out.1.trans (hb.mono HB.out.1.size)) (And.intro ((hb.block _ (heap_lt HB.out.2.1)).trans HB.out.2.1) (And.intro (HB.out.2.2.1.mono hb) (And.intro ((hb.block _ (heap_lt HB.out.2.2.2.1)).trans HB.out.2.2.2.1) (And.intro (HB.out.2.2.2.2.1.mono hb) (And.intro ((hb.block _ (heap_lt HB.out.2.2.2.2.2)).trans HB.out.2.2.2.2.2) hs1))))))
    clear hb HB k0 k1 k2 k3 k4 hs1
    have HB := HX
    clear HX
    go_wp2_with fail
    refine HK15.out _ _ ?_
    clear HK15 K15
    refine wp_seq_hid ?_
    intro K16 HK16
    go_wp2_with fail
    refine HK16.out _ _ ?_
    clear HK16 K16
    refine wp_seq_hid ?_
    intro K18 HK18
    obtain ⟨x0, x1, x2, x3, x4⟩ := tr_cells HB.out.2.1
    obtain ⟨y0, y1, y2, y3, y4⟩ := tr_cells HB.out.2.2.2.1
    go_wp2_with fail
    have q9 := World.alloc_heap_new d3 (.cells #[.int .i64 (t.thin by_ k).dawn, .slice XA.af (t.thin by_ k).frm.length XA.cf, .slice XA.aw (t.thin by_ k).ways.length XA.cw, .slice XA.as_ (t.thin by_ k).stay.length XA.cs, .slice XA.al (t.thin by_ k).light.length XA.cl, .int .i64 (t.wide by_ k).dawn, .slice YA.af (t.wide by_ k).frm.length YA.cf, .slice YA.aw (t.wide by_ k).ways.length YA.cw, .slice YA.as_ (t.wide by_ k).stay.length YA.cs, .slice YA.al (t.wide by_ k).light.length YA.cl] 25)
    have hb9 : Below d3.heap.size d3 (d3.alloc (.cells #[.int .i64 (t.thin by_ k).dawn, .slice XA.af (t.thin by_ k).frm.length XA.cf, .slice XA.aw (t.thin by_ k).ways.length XA.cw, .slice XA.as_ (t.thin by_ k).stay.length XA.cs, .slice XA.al (t.thin by_ k).light.length XA.cl, .int .i64 (t.wide by_ k).dawn, .slice YA.af (t.wide by_ k).frm.length YA.cf, .slice YA.aw (t.wide by_ k).ways.length YA.cw, .slice YA.as_ (t.wide by_ k).stay.length YA.cs, .slice YA.al (t.wide by_ k).light.length YA.cl] 25)) := (Below.refl _ _).alloc (Nat.le_refl _) _
    have HX := Lib.hid (And.intro (HB.out.1.trans (hb9.mono HB.out.1.size)) (And.intro ((hb9.block _ (heap_lt HB.out.2.1)).trans HB.out.2.1) (And.intro (HB.out.2.2.1.mono hb9) (And.intro ((hb9.block _ (heap_lt HB.out.2.2.2.1)).trans HB.out.2.2.2.1) (And.intro (HB.out.2.2.2.2.1.mono hb9) (And.intro ((hb9.block _ (heap_lt HB.out.2.2.2.2.2.1)).trans HB.out.2.2.2.2.2.1) (And.intro (HB.out.2.2.2.2.2.2.mono hb9) q9)))))))
    clear hb9 HB q9 x0 x1 x2 x3 x4 y0 y1 y2 y3 y4
    have HB := HX
    clear HX
    revert HB
    generalize (d3.alloc (.cells #[.int .i64 (t.thin by_ k).dawn, .slice XA.af (t.thin by_ k).frm.length XA.cf, .slice XA.aw (t.thin by_ k).ways.length XA.cw, .slice XA.as_ (t.thin by_ k).stay.length XA.cs, .slice XA.al (t.thin by_ k).light.length XA.cl, .int .i64 (t.wide by_ k).dawn, .slice YA.af (t.wide by_ k).frm.length YA.cf, .slice YA.aw (t.wide by_ k).ways.length YA.cw, .slice YA.as_ (t.wide by_ k).stay.length YA.cs, .slice YA.al (t.wide by_ k).light.length YA.cl] 25)) = d9
    generalize d3.heap.size = bs
    intro HB
    go_loopw [160] (fun i wr => ∃ (j : Nat), j ≤ 2 ∧ i = .int .i64 j ∧ Hid (Below d9.heap.size d9 wr)) (fun i _ => 2 - (intOf i).toNat)
    case atStart => exact ⟨0, by omega, rfl, Below.refl _ _⟩
    case round =>
      obtain ⟨j, hj, rfl, HW2⟩ := hrel
      have HX := Lib.hid (And.intro (HB.out.1.trans (HW2.out.mono HB.out.1.size)) (And.intro ((HW2.out.block _ (heap_lt HB.out.2.1)).trans HB.out.2.1) (And.intro (HB.out.2.2.1.mono HW2.out) (And.intro ((HW2.out.block _ (heap_lt HB.out.2.2.2.1)).trans HB.out.2.2.2.1) (And.intro (HB.out.2.2.2.2.1.mono HW2.out) (And.intro ((HW2.out.block _ (heap_lt HB.out.2.2.2.2.2.1)).trans HB.out.2.2.2.2.2.1) (And.intro (HB.out.2.2.2.2.2.2.1.mono HW2.out) ((HW2.out.block _ (heap_lt HB.out.2.2.2.2.2.2.2)).trans HB.out.2.2.2.2.2.2.2))))))))
      clear HB
      have HB := HX
      clear HX
      by_cases hj2 : j < 2
      · obtain ⟨X, XB, ⟨z0, z1, z2, z3, z4⟩, hxt, hxf, hm⟩ : ∃ (X : Tr) (XB : TrA), (wr.cell? ⟨bs, j * 5, none⟩ = some (.int .i64 X.dawn) ∧ wr.cell? ⟨bs, j * 5 + 1, none⟩ = some (.slice XB.af X.frm.length XB.cf) ∧ wr.cell? ⟨bs, j * 5 + 2, none⟩ = some (.slice XB.aw X.ways.length XB.cw) ∧ wr.cell? ⟨bs, j * 5 + 3, none⟩ = some (.slice XB.as_ X.stay.length XB.cs) ∧ wr.cell? ⟨bs, j * 5 + 4, none⟩ = some (.slice XB.al X.light.length XB.cl)) ∧ IsTr wr X XB ∧ X.Fit ∧ MoreX X t o := by
          have hj3 : j = 0 ∨ j = 1 := by omega
          rcases hj3 with rfl | rfl
          · exact ⟨t.thin by_ k, XA, ⟨by rw [cell_of_heap HB.out.2.2.2.2.2.2.2]; rfl, by rw [cell_of_heap HB.out.2.2.2.2.2.2.2]; rfl, by rw [cell_of_heap HB.out.2.2.2.2.2.2.2]; rfl, by rw [cell_of_heap HB.out.2.2.2.2.2.2.2]; rfl, by rw [cell_of_heap HB.out.2.2.2.2.2.2.2]; rfl⟩, HB.out.2.2.1, thin_fit HFT.out hby.1 hkn, ear_more (thin_ear HFT.out hby.1 hkn) (valid_of_fit (thin_fit HFT.out hby.1 hkn)) HV.out o⟩
          · exact ⟨t.wide by_ k, YA, ⟨by rw [cell_of_heap HB.out.2.2.2.2.2.2.2]; rfl, by rw [cell_of_heap HB.out.2.2.2.2.2.2.2]; rfl, by rw [cell_of_heap HB.out.2.2.2.2.2.2.2]; rfl, by rw [cell_of_heap HB.out.2.2.2.2.2.2.2]; rfl, by rw [cell_of_heap HB.out.2.2.2.2.2.2.2]; rfl⟩, HB.out.2.2.2.2.1, wide_fit HFT.out hby.1 hkn, ear_more (wide_ear HFT.out hby.1 hkn) (valid_of_fit (wide_fit HFT.out hby.1 hkn)) HV.out o⟩
        rcases hXW : walkedE X o with ⟨vx, ve⟩
        rcases hXT : toursE X with ⟨xa, xc, xf⟩
        rcases hXS : shortE X with ⟨ul, ue⟩
        have m1 : we = ve := by have := hm.err; rw [hXW, HE.out.1] at this; exact this.symm
        have m2 : wq = 2 → vx = 2 := by have := hm.two; rw [hXW, HE.out.1] at this; exact this
        have m3 : xf = 0 := by have := hm.ok; rw [hXT] at this; exact this
        have m4 : ta ≤ xa := by have := hm.cnt; rw [hXT, HE.out.2.1] at this; exact this
        have m5 : se = 0 → ue = 0 ∧ X.order ul = true ∧ t.order sl = true ∧ X.takes ul ≤ t.takes sl := by have := hm.short; rw [hXS, HE.out.2.2] at this; exact this
        have m6 : ul.length ≤ 6 := by have := hm.len; rw [hXS] at this; exact this
        subst m1 m3
        have HXE := Lib.hid (And.intro hXW (And.intro hXT hXS))
        have HM5 := Lib.hid (And.intro m2 (And.intro m4 m5))
        have HXF := Lib.hid hxf
        clear hXW hXT hXS hm hxf m2 m4 m5
        have HX := Lib.hid (And.intro HB.out.1 (And.intro HB.out.2.1 (And.intro HB.out.2.2.1 (And.intro HB.out.2.2.2.1 (And.intro HB.out.2.2.2.2.1 (And.intro HB.out.2.2.2.2.2.1 (And.intro HB.out.2.2.2.2.2.2.1 (And.intro HB.out.2.2.2.2.2.2.2 hxt))))))))
        clear HB hxt
        have HB := HX
        clear HX
        refine wp_seq_hid ?_
        intro KL19 HKL19
        go_wp2_with fail
        refine HKL19.out _ _ ?_
        clear HKL19 KL19
        refine wp_seq_hid ?_
        intro KLc HKLc
        go_wp2_with fail
        refine HKLc.out _ _ ?_
        clear HKLc KLc
        refine wp_seq_hid ?_
        intro KLB HKLB
        refine wp_block ?_
        refine wp_seq_hid ?_
        intro K20 HK20
        go_wp2_with fail
        have q9 := World.alloc_heap_new wr (.cells (X.cells XB) 25)
        have hb9 : Below wr.heap.size wr (wr.alloc (.cells (X.cells XB) 25)) := (Below.refl _ _).alloc (Nat.le_refl _) _
        have HXX := Lib.hid hb9
        have HX := Lib.hid (And.intro (HB.out.1.trans (hb9.mono HB.out.1.size)) (And.intro ((hb9.block _ (heap_lt HB.out.2.1)).trans HB.out.2.1) (And.intro (HB.out.2.2.1.mono hb9) (And.intro ((hb9.block _ (heap_lt HB.out.2.2.2.1)).trans HB.out.2.2.2.1) (And.intro (HB.out.2.2.2.2.1.mono hb9) (And.intro ((hb9.block _ (heap_lt HB.out.2.2.2.2.2.1)).trans HB.out.2.2.2.2.2.1) (And.intro (HB.out.2.2.2.2.2.2.1.mono hb9) (And.intro ((hb9.block _ (heap_lt HB.out.2.2.2.2.2.2.2.1)).trans HB.out.2.2.2.2.2.2.2.1) (And.intro (HB.out.2.2.2.2.2.2.2.2.mono hb9) q9)))))))))
        clear hb9 HB q9 z0 z1 z2 z3 z4
        have HB := HX
        clear HX
        refine HK20.out _ _ ?_
        clear HK20 K20
        revert HB HXX
        generalize (wr.alloc (.cells (X.cells XB) 25)) = d10
        intro HXX HB
        refine wp_seq_hid ?_
        intro K21 HK21
        obtain ⟨k0, k1, k2, k3, k4⟩ := tr_cells HB.out.2.2.2.2.2.2.2.2.2
        go_wp2_with fail
        refine (C14.out _ _ _ _ HXE.out.1 HXF.out _ HB.out.2.2.2.2.2.2.2.2.1 (KQ.out d10 HB.out.1).2.2.1).mono ?_
        rintro e d4 ⟨rfl, hb⟩
        have HXB := Lib.hid hb
        have HX := Lib.hid (And.intro (HB.out.1.trans (hb.mono HB.out.1.size)) (And.intro ((hb.block _ (heap_lt HB.out.2.1)).trans HB.out.2.1) (And.intro (HB.out.2.2.1.mono hb) (And.intro ((hb.block _ (heap_lt HB.out.2.2.2.1)).trans HB.out.2.2.2.1) (And.intro (HB.out.2.2.2.2.1.mono hb) (And.intro ((hb.block _ (heap_lt HB.out.2.2.2.2.2.1)).trans HB.out.2.2.2.2.2.1) (And.intro (HB.out.2.2.2.2.2.2.1.mono hb) (And.intro ((hb.block _ (heap_lt HB.out.2.2.2.2.2.2.2.1)).trans HB.out.2.2.2.2.2.2.2.1) (And.intro (HB.out.2.2.2.2.2.2.2.2.1.mono hb) ((hb.block _ (heap_lt HB.out.2.2.2.2.2.2.2.2.2)).trans HB.out.2.2.2.2.2.2.2.2.2))))))))))
        clear hb HB k0 k1 k2 k3 k4
        have HB := HX
        clear HX
        have HXY := Lib.hid (HXX.out.trans (HXB.out.mono HXX.out.size))
        clear HXX HXB
        have HXX := HXY
        clear HXY
        go_wp2_with fail
        refine HK21.out _ _ ?_
        clear HK21 K21
        refine wp_seq_hid ?_
        intro K22 HK22
        obtain ⟨k0, k1, k2, k3, k4⟩ := tr_cells HB.out.2.2.2.2.2.2.2.2.2
        go_wp2_with fail
        refine (C23.out _ _ _ _ _ HXE.out.2.1 HXF.out _ HB.out.2.2.2.2.2.2.2.2.1).mono ?_
        rintro e d5 ⟨rfl, hb⟩
        have HXB := Lib.hid hb
        have HX := Lib.hid (And.intro (HB.out.1.trans (hb.mono HB.out.1.size)) (And.intro ((hb.block _ (heap_lt HB.out.2.1)).trans HB.out.2.1) (And.intro (HB.out.2.2.1.mono hb) (And.intro ((hb.block _ (heap_lt HB.out.2.2.2.1)).trans HB.out.2.2.2.1) (And.intro (HB.out.2.2.2.2.1.mono hb) (And.intro ((hb.block _ (heap_lt HB.out.2.2.2.2.2.1)).trans HB.out.2.2.2.2.2.1) (And.intro (HB.out.2.2.2.2.2.2.1.mono hb) (And.intro ((hb.block _ (heap_lt HB.out.2.2.2.2.2.2.2.1)).trans HB.out.2.2.2.2.2.2.2.1) (And.intro (HB.out.2.2.2.2.2.2.2.2.1.mono hb) ((hb.block _ (heap_lt HB.out.2.2.2.2.2.2.2.2.2)).trans HB.out.2.2.2.2.2.2.2.2.2))))))))))
        clear hb HB k0 k1 k2 k3 k4
        have HB := HX
        clear HX
        have HXY := Lib.hid (HXX.out.trans (HXB.out.mono HXX.out.size))
        clear HXX HXB
        have HXX := HXY
        clear HXY
        go_wp2_with fail
        refine HK22.out _ _ ?_
        clear HK22 K22
        refine wp_seq_hid ?_
        intro K23 HK23
        obtain ⟨k0, k1, k2, k3, k4⟩ := tr_cells HB.out.2.2.2.2.2.2.2.2.2
        go_wp2_with fail
        refine (C25.out _ _ _ _ HXE.out.2.2 HXF.out _ HB.out.2.2.2.2.2.2.2.2.1).mono ?_
        rintro e d6 ⟨uv, uc, rfl, hs2, hb⟩
        have HXB := Lib.hid hb
        have HX := Lib.hid (And.intro (HB.out.1.trans (hb.mono HB.out.1.size)) (And.intro ((hb.block _ (heap_lt HB.out.2.1)).trans HB.out.2.1) (And.intro (HB.out.2.2.1.mono hb) (And.intro ((hb.block _ (heap_lt HB.out.2.2.2.1)).trans HB.out.2.2.2.1) (And.intro (HB.out.2.2.2.2.1.mono hb) (And.intro ((hb.block _ (heap_lt HB.out.2.2.2.2.2.1)).trans HB.out.2.2.2.2.2.1) (And.intro (HB.out.2.2.2.2.2.2.1.mono hb) (And.intro ((hb.block _ (heap_lt HB.out.2.2.2.2.2.2.2.1)).trans HB.out.2.2.2.2.2.2.2.1) (And.intro (HB.out.2.2.2.2.2.2.2.2.1.mono hb) (And.intro ((hb.block _ (heap_lt HB.out.2.2.2.2.2.2.2.2.2)).trans HB.out.2.2.2.2.2.2.2.2.2) hs2))))))))))
        clear hb HB k0 k1 k2 k3 k4 hs2
        have HB := HX
        clear HX
        have HXY := Lib.hid (HXX.out.trans (HXB.out.mono HXX.out.size))
        clear HXX HXB
        have HXX := HXY
        clear HXY
        go_wp2_with fail
        refine HK23.out _ _ ?_
        clear HK23 K23
        refine wp_seq_hid ?_
        intro K24 HK24
        have n1 : (we != we) = false := by simp
        have n2 : decide (xa < ta) = false := by have := HM5.out.2.1; simp; omega
        have hwz : (wq = 2 ∧ vx = 2) ∨ (wq == 2) = false := by
          by_cases e : wq = 2
          · exact .inl ⟨e, HM5.out.1 e⟩
          · exact .inr (by simpa using e)
        have HWZ := Lib.hid hwz
        clear hwz
        rcases HSE.out with h0 | h4
        · obtain ⟨u1, u2, u3, u4⟩ := HM5.out.2.2 h0
          subst h0 u1
          have HU := Lib.hid (And.intro u2 (And.intro u3 u4))
          clear u2 u3 u4
          have g1 : decide (t.takes sl < X.takes ul) = false := by have := HU.out.2.2; simp; omega
          obtain ⟨x0, x1, x2, x3, x4⟩ := tr_cells HB.out.2.2.2.2.2.2.2.2.2.1
          obtain ⟨k0, k1, k2, k3, k4⟩ := tr_cells (KQ.out d6 HB.out.1).1
          have ZZ := Lib.hid (And.intro (And.intro x0 (And.intro x1 (And.intro x2 (And.intro x3 x4)))) (And.intro k0 (And.intro k1 (And.intro k2 (And.intro k3 k4)))))
          clear x0 x1 x2 x3 x4 k0 k1 k2 k3 k4
          rcases HWZ.out with ⟨rfl, rfl⟩ | hw2
          all_goals
            go_wp2_with fail
            refine HK24.out _ _ ?_
            go_wp2_with fail
            have z0 := fun y : Aft d6.heap.size d6 => cell_stays y.h ZZ.out.1.1
            have z1 := fun y : Aft d6.heap.size d6 => cell_stays y.h ZZ.out.1.2.1
            have z2 := fun y : Aft d6.heap.size d6 => cell_stays y.h ZZ.out.1.2.2.1
            have z3 := fun y : Aft d6.heap.size d6 => cell_stays y.h ZZ.out.1.2.2.2.1
            have z4 := fun y : Aft d6.heap.size d6 => cell_stays y.h ZZ.out.1.2.2.2.2
            have v0 := fun y : Aft d6.heap.size d6 => cell_stays y.h ZZ.out.2.1
            have v1 := fun y : Aft d6.heap.size d6 => cell_stays y.h ZZ.out.2.2.1
            have v2 := fun y : Aft d6.heap.size d6 => cell_stays y.h ZZ.out.2.2.2.1
            have v3 := fun y : Aft d6.heap.size d6 => cell_stays y.h ZZ.out.2.2.2.2.1
            have v4 := fun y : Aft d6.heap.size d6 => cell_stays y.h ZZ.out.2.2.2.2.2
            have D1 : Hid (∀ y : Aft d6.heap.size d6, Calls Try.prog 34 #[X.v XB, .slice uv ul.length uc] y.v fun e w' => e = .returned (.bool true) ∧ Below y.v.heap.size y.v w') := fun y => by
              have := rorder34 (cap := uc) (HB.out.2.2.2.2.2.2.2.2.1.mono y.h) (by have := HXF.out.n; omega) (show ul.length ≤ 16 by omega) (HB.out.2.2.2.2.2.2.2.2.2.2.mono y.h)
              rw [HU.out.1] at this; exact this
            have D2 : Hid (∀ y : Aft d6.heap.size d6, Calls Try.prog 34 #[t.v A, .slice sv sl.length sc] y.v fun e w' => e = .returned (.bool true) ∧ Below y.v.heap.size y.v w') := fun y => by
              have := rorder34 (cap := sc) ((KQ.out d6 HB.out.1).2.1.mono y.h) (by omega) (show sl.length ≤ 16 by omega) (HB.out.2.2.2.2.2.2.1.mono y.h)
              rw [HU.out.2.1] at this; exact this
            have D3 : Hid (∀ y : Aft d6.heap.size d6, Calls Try.prog 42 #[X.v XB, .slice uv ul.length uc] y.v fun e w' => e = .returned (.int .i64 (X.takes ul)) ∧ Below y.v.heap.size y.v w') := fun y =>
              takes42 (cap := uc) (HB.out.2.2.2.2.2.2.2.2.1.mono y.h) HXF.out (show ul.length ≤ 16 by omega) (order_view HU.out.1) (HB.out.2.2.2.2.2.2.2.2.2.2.mono y.h)
            have D4 : Hid (∀ y : Aft d6.heap.size d6, Calls Try.prog 42 #[t.v A, .slice sv sl.length sc] y.v fun e w' => e = .returned (.int .i64 (t.takes sl)) ∧ Below y.v.heap.size y.v w') := fun y =>
              takes42 (cap := sc) ((KQ.out d6 HB.out.1).2.1.mono y.h) HFT.out (show sl.length ≤ 16 by omega) (order_view HU.out.2.1) (HB.out.2.2.2.2.2.2.1.mono y.h)
            refine wp_region_aft mixed (by kernel_rfl) ?_
            repeat (go_big_quiet_step (first | (go_at_call 34; with_reducible exact calls_aft (D1.out _)) | (go_at_call 34; with_reducible exact calls_aft (D2.out _)) | (go_at_call 42; with_reducible exact calls_aft (D3.out _)) | (go_at_call 42; with_reducible exact calls_aft (D4.out _))))
            refine wpQuiet_nil ?_
            rintro _ ⟨y, rfl⟩
            have HEND : Hid (Below d9.heap.size d9 y.v) := HW2.out.trans ((show Below wr.heap.size wr y.v from HXX.out.trans (y.h.mono HXX.out.size)).mono HW2.out.size)
            clear z0 z1 z2 z3 z4 v0 v1 v2 v3 v4 D1 D2 D3 D4
            go_wp2_with fail
            refine HKLB.out _ _ ?_
            go_wp2_with fail
            go_roundw
            case rel => exact ⟨j + 1, by omega, by go_num, HEND.out⟩
            case measure => simp [intOf]; omega
        · subst h4
          rcases HWZ.out with ⟨rfl, rfl⟩ | hw2
          all_goals
            go_wp2_with fail
            refine HK24.out _ _ ?_
            go_wp2_with fail
            refine wp_region_aft mixed (by kernel_rfl) ?_
            repeat (go_big_quiet_step (fail))
            refine wpQuiet_nil ?_
            rintro _ ⟨y, rfl⟩
            have HEND : Hid (Below d9.heap.size d9 y.v) := HW2.out.trans ((show Below wr.heap.size wr y.v from HXX.out.trans (y.h.mono HXX.out.size)).mono HW2.out.size)
            go_wp2_with fail
            refine HKLB.out _ _ ?_
            go_wp2_with fail
            go_roundw
            case rel => exact ⟨j + 1, by omega, by go_num, HEND.out⟩
            case measure => simp [intOf]; omega
      · obtain rfl : j = 2 := by omega
        go_wp2_with fail
        refine HK18.out _ _ ?_
        have HLF := Lib.hid (on_fit HFT.out HD.out.2)
        have hy := ear_late (late_ear HD.out.1) (valid_of_fit HLF.out) HV.out o
        rcases hYW : walkedE (t.on d) o with ⟨lw, le_⟩
        rcases hYT : toursE (t.on d) with ⟨la, lc2, lf⟩
        have m1 : we = le_ := by have := hy.err; rw [hYW, HE.out.1] at this; exact this.symm
        have m2 : lw ≤ wq := by have := hy.le; rw [hYW, HE.out.1] at this; exact this
        have m3 : lf = 0 := by have := hy.ok; rw [hYT] at this; exact this
        have m4 : la ≤ ta := by have := hy.cnt1; rw [hYT, HE.out.2.1] at this; exact this
        have m5 : lc2 ≤ tc := by have := hy.cnt2; rw [hYT, HE.out.2.1] at this; exact this
        subst m1 m3
        have HYE := Lib.hid (And.intro hYW hYT)
        have g1 : decide (lw ≤ wq) = true := by simpa using m2
        have g2 : decide (la ≤ ta) = true := by simpa using m4
        have g3 : decide (lc2 ≤ tc) = true := by simpa using m5
        have g4 : (we == we) = true := by simp
        clear hy hYW hYT m2 m4 m5
        refine wp_seq_hid ?_
        intro K29 HK29
        obtain ⟨k0, k1, k2, k3, k4⟩ := tr_cells (t := t.on d) HB.out.2.2.2.2.2.1
        go_wp2_with fail
        refine (C14.out _ _ _ _ HYE.out.1 HLF.out _ (on_tr (KQ.out wr HB.out.1).2.1 d) (KQ.out wr HB.out.1).2.2.1).mono ?_
        rintro e d7 ⟨rfl, hb⟩
        have HX := Lib.hid (And.intro (HB.out.1.trans (hb.mono HB.out.1.size)) (And.intro ((hb.block _ (heap_lt HB.out.2.1)).trans HB.out.2.1) (And.intro (HB.out.2.2.1.mono hb) (And.intro ((hb.block _ (heap_lt HB.out.2.2.2.1)).trans HB.out.2.2.2.1) (And.intro (HB.out.2.2.2.2.1.mono hb) (And.intro ((hb.block _ (heap_lt HB.out.2.2.2.2.2.1)).trans HB.out.2.2.2.2.2.1) (And.intro (HB.out.2.2.2.2.2.2.1.mono hb) ((hb.block _ (heap_lt HB.out.2.2.2.2.2.2.2)).trans HB.out.2.2.2.2.2.2.2))))))))
        clear hb HB k0 k1 k2 k3 k4
        have HB := HX
        clear HX
        go_wp2_with fail
        refine HK29.out _ _ ?_
        clear HK29 K29
        refine wp_seq_hid ?_
        intro K30 HK30
        obtain ⟨k0, k1, k2, k3, k4⟩ := tr_cells (t := t.on d) HB.out.2.2.2.2.2.1
        go_wp2_with fail
        refine (C23.out _ _ _ _ _ HYE.out.2 HLF.out _ (on_tr (KQ.out d7 HB.out.1).2.1 d)).mono ?_
        rintro e d8 ⟨rfl, hb⟩
        have HX := Lib.hid (And.intro (HB.out.1.trans (hb.mono HB.out.1.size)) (And.intro ((hb.block _ (heap_lt HB.out.2.1)).trans HB.out.2.1) (And.intro (HB.out.2.2.1.mono hb) (And.intro ((hb.block _ (heap_lt HB.out.2.2.2.1)).trans HB.out.2.2.2.1) (And.intro (HB.out.2.2.2.2.1.mono hb) (And.intro ((hb.block _ (heap_lt HB.out.2.2.2.2.2.1)).trans HB.out.2.2.2.2.2.1) (And.intro (HB.out.2.2.2.2.2.2.1.mono hb) ((hb.block _ (heap_lt HB.out.2.2.2.2.2.2.2)).trans HB.out.2.2.2.2.2.2.2))))))))
        clear hb HB k0 k1 k2 k3 k4
        have HB := HX
        clear HX
        go_wp2_with fail
        refine HK30.out _ _ ?_
        clear HK30 K30
        refine wp_seq_hid ?_
        intro K31 HK31
        obtain ⟨k0, k1, k2, k3, k4⟩ := tr_cells (KQ.out d8 HB.out.1).1
        go_wp2_with fail
        refine (C23.out _ _ _ _ _ HE.out.2.1 HFT.out _ (KQ.out d8 HB.out.1).2.1).mono ?_
        rintro e d9 ⟨rfl, hb⟩
        have HX := Lib.hid (And.intro (HB.out.1.trans (hb.mono HB.out.1.size)) (And.intro ((hb.block _ (heap_lt HB.out.2.1)).trans HB.out.2.1) (And.intro (HB.out.2.2.1.mono hb) (And.intro ((hb.block _ (heap_lt HB.out.2.2.2.1)).trans HB.out.2.2.2.1) (And.intro (HB.out.2.2.2.2.1.mono hb) (And.intro ((hb.block _ (heap_lt HB.out.2.2.2.2.2.1)).trans HB.out.2.2.2.2.2.1) (And.intro (HB.out.2.2.2.2.2.2.1.mono hb) ((hb.block _ (heap_lt HB.out.2.2.2.2.2.2.2)).trans HB.out.2.2.2.2.2.2.2))))))))
        clear hb HB k0 k1 k2 k3 k4
        have HB := HX
        clear HX
        go_wp2_with fail
        refine HK31.out _ _ ?_
        clear HK31 K31
        go_wp2_with fail
        refine (alive13 _).mono ?_
        rintro e c1 ⟨rfl, hb⟩
        have HX := Lib.hid (HB.out.1.trans (hb.mono HB.out.1.size))
        clear hb
        go_wp2_with fail
        go_ret
        exact ⟨rfl, (KQ.out _ HX.out).2.2.2.1⟩
  clear HK12
  go_wp2_with fail
  have H10 : Hid (Mor b2 b12 b13 b14 (((t.cells A).setIfInBounds 3 (.slice (some ⟨r1.1, 0, none⟩) t.stay.length r1.2)).setIfInBounds 1 (.slice (some ⟨r2.1, 0, none⟩) t.frm.length r2.2) |>.setIfInBounds 2 (.slice (some ⟨wb, 0, none⟩) t.ways.length wc)) ((t.cells A).setIfInBounds 4 (.slice (some ⟨lb, 0, none⟩) t.light.length lc)) ((t.cells A).setIfInBounds 0 (.int .i64 d)) (v9.setCell ⟨b14, 0, none⟩ (.int .i64 d)) ∧ SpRow r1.1 (narL by_ t.stay k) (v9.setCell ⟨b14, 0, none⟩ (.int .i64 d)) ∧ SpRow r2.1 (narL by_ t.frm k) (v9.setCell ⟨b14, 0, none⟩ (.int .i64 d)) ∧ WyK b2 wb t.ways k (.slice (some ⟨r3.1, 0, none⟩) (gw t.ways k).length r3.2) (v9.setCell ⟨b14, 0, none⟩ (.int .i64 d)) ∧ SpRow r3.1 (narL by_ (gw t.ways k) m) (v9.setCell ⟨b14, 0, none⟩ (.int .i64 d)) ∧ SpRow lb (t.light.set k (widS by_ (gs t.light k))) (v9.setCell ⟨b14, 0, none⟩ (.int .i64 d))) :=
    ⟨H9.out.1.set14 HMB.out _ _, H9.out.2.1.other (Ne.symm HNR.out.1.2.2.1) _ _, H9.out.2.2.1.other (Ne.symm HNR.out.2.2.2.1) _ _, H9.out.2.2.2.1.other (Ne.symm HWB.out.2.2.1) _ _, H9.out.2.2.2.2.1.other (Ne.symm HNE5.out.2.1) _ _, H9.out.2.2.2.2.2.other (Ne.symm HLB.out.2.2.1) _ _⟩
  revert H10
  generalize (v9.setCell ⟨b14, 0, none⟩ (.int .i64 d)) = v10
  intro H10
  clear ca fa
  have e1 : (narL by_ t.frm k).length = t.frm.length := by simp [narL]
  have e2 : (narL by_ t.stay k).length = t.stay.length := by simp [narL]
  have e3 : (narL by_ (gw t.ways k) m).length = (gw t.ways k).length := by simp [narL]
  have hwk := H10.out.2.2.2.1
  rw [← e3] at hwk
  have HWS := hwk.ways H10.out.1.below hkw H10.out.2.2.2.2.1
  have htr := (KQ.out v10 H10.out.1.below).2.1
  refine REST12.out (XA := { af := some ⟨r2.1, 0, none⟩, cf := r2.2, aw := some ⟨wb, 0, none⟩, cw := wc, as_ := some ⟨r1.1, 0, none⟩, cs := r1.2, al := A.al, cl := A.cl }) (YA := { af := A.af, cf := A.cf, aw := A.aw, cw := A.cw, as_ := A.as_, cs := A.cs, al := some ⟨lb, 0, none⟩, cl := lc }) H10.out.1.below ?_ ⟨H10.out.2.2.1.spns, ?_, H10.out.2.1.spns, htr.light⟩ ?_ ⟨htr.frm, htr.ways, htr.stay, H10.out.2.2.2.2.2.spns⟩ H10.out.1.g14
  · rw [H10.out.1.g12]
    show _ = some (Obj.cells #[.int .i64 t.dawn, .slice (some ⟨r2.1, 0, none⟩) (narL by_ t.frm k).length r2.2, .slice (some ⟨wb, 0, none⟩) (t.ways.set k (narL by_ (gw t.ways k) ((k + 1) % t.frm.length))).length wc, .slice (some ⟨r1.1, 0, none⟩) (narL by_ t.stay k).length r1.2, .slice A.al t.light.length A.cl] 25 (0, 0))
    rw [e1, e2, List.length_set]
    rfl
  · show IsWays v10 (some ⟨wb, 0, none⟩) (t.ways.set k (narL by_ (gw t.ways k) ((k + 1) % t.frm.length)))
    rw [← HMM.out]; exact HWS
  · rw [H10.out.1.g13]
    show _ = some (Obj.cells #[.int .i64 t.dawn, .slice A.af t.frm.length A.cf, .slice A.aw t.ways.length A.cw, .slice A.as_ t.stay.length A.cs, .slice (some ⟨lb, 0, none⟩) (t.light.set k (widS by_ (gs t.light k))).length lc] 25 (0, 0))
    rw [List.length_set]
    rfl
end Go.Proofs.Ytphefhpmbahagaa
