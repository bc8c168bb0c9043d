/- CopyMore: the walk. -/
import Derived.Test.YtnfhlbmapfoifaaR46
import Derived.Test.YtnfhlbmapfoifaaR47
import Derived.Test.YtnfhlbmapfoifaaR48
namespace Go.Proofs.Ytnfhlbmapfoifaa
open Go.RowKit
set_option linter.unusedVariables false
set_option linter.unusedSimpArgs false

theorem own_empty54 {w : World} {B g : Nat} (hB : B ≤ g) (h : w.heap[g]? = some (.cells #[] 54 (0, 0))) : w.ownsRow B 54 5 (.slice (some ⟨g, 0, none⟩) 0 0) 0 [] :=
  ⟨by simp, .inr ⟨g, 0, #[], rfl, hB, h, Nat.le_refl _, by simp [maxLen], by simp, by simp⟩⟩
abbrev moC (p : Prs) (g k : Nat) : Array Value := #[.slice (some ⟨g, 0, none⟩) p.cards.length k, .int .i64 p.llo, .int .i64 p.lhi, .int .i64 p.olo, .int .i64 p.ohi]
/-- What lies in memory of the piles that are made, above world P. -/
structure MoW (p : Prs) (P : World) (b9 b10 b11 g9 g10 k9 k10 : Nat) (c11 : Array Value) (l9 l10 : List Prt) (w : World) : Prop where
  below : Below P.heap.size P w
  h9 : w.heap[b9]? = some (.cells (moC p g9 k9) 26 (0, 0))
  h10 : w.heap[b10]? = some (.cells (moC p g10 k10) 26 (0, 0))
  h11 : w.heap[b11]? = some (.cells c11 26 (0, 0))
  r9 : PrRow g9 l9 w
  r10 : PrRow g10 l10 w
structure MoG (P : World) (b9 b10 b11 g9 g10 : Nat) : Prop where
  l9 : P.heap.size ≤ b9
  l10 : P.heap.size ≤ b10
  l11 : P.heap.size ≤ b11
  m9 : P.heap.size ≤ g9
  m10 : P.heap.size ≤ g10
  n1 : b9 ≠ b10
  n2 : b9 ≠ b11
  n3 : b10 ≠ b11
  n4 : g9 ≠ g10
  n5 : b9 ≠ g9
  n6 : b9 ≠ g10
  n7 : b10 ≠ g9
  n8 : b10 ≠ g10
  n9 : b11 ≠ g9
  n0 : b11 ≠ g10
section
variable {p : Prs} {P w w' : World} {b9 b10 b11 g9 g10 k9 k10 : Nat} {c11 : Array Value} {l9 l10 : List Prt}
theorem MoW.mono (h : MoW p P b9 b10 b11 g9 g10 k9 k10 c11 l9 l10 w) (hb : Below w.heap.size w w') : MoW p P b9 b10 b11 g9 g10 k9 k10 c11 l9 l10 w' :=
  ⟨h.below.trans (hb.mono h.below.size), (hb.block _ (heap_lt h.h9)).trans h.h9, (hb.block _ (heap_lt h.h10)).trans h.h10, (hb.block _ (heap_lt h.h11)).trans h.h11, h.r9.mono hb, h.r10.mono hb⟩
theorem MoW.put9 (h : MoW p P b9 b10 b11 g9 g10 k9 k10 c11 l9 l10 w) (G : MoG P b9 b10 b11 g9 g10) {k e : Nat} (hk : k < l9.length) (he : e < 5) (x : Int) : MoW p P b9 b10 b11 g9 g10 k9 k10 c11 (l9.set k ((gp l9 k).put x e)) l10 (w.setCell ⟨g9, k * 5 + e, none⟩ (.int .i64 x)) :=
  ⟨h.below.setCell (p := ⟨g9, _, none⟩) G.m9 _, (Below.heap_setCell _ _ _ _ G.n5).trans h.h9, (Below.heap_setCell _ _ _ _ G.n7).trans h.h10, (Below.heap_setCell _ _ _ _ G.n9).trans h.h11, h.r9.put hk he x, h.r10.other G.n4 _ _⟩
theorem MoW.put10 (h : MoW p P b9 b10 b11 g9 g10 k9 k10 c11 l9 l10 w) (G : MoG P b9 b10 b11 g9 g10) {k e : Nat} (hk : k < l10.length) (he : e < 5) (x : Int) : MoW p P b9 b10 b11 g9 g10 k9 k10 c11 l9 (l10.set k ((gp l10 k).put x e)) (w.setCell ⟨g10, k * 5 + e, none⟩ (.int .i64 x)) :=
  ⟨h.below.setCell (p := ⟨g10, _, none⟩) G.m10 _, (Below.heap_setCell _ _ _ _ G.n6).trans h.h9, (Below.heap_setCell _ _ _ _ G.n8).trans h.h10, (Below.heap_setCell _ _ _ _ G.n0).trans h.h11, h.r9.other (Ne.symm G.n4) _ _, h.r10.put hk he x⟩
theorem MoW.set11 (h : MoW p P b9 b10 b11 g9 g10 k9 k10 c11 l9 l10 w) (G : MoG P b9 b10 b11 g9 g10) (k : Nat) (x : Value) : MoW p P b9 b10 b11 g9 g10 k9 k10 (c11.setIfInBounds k x) l9 l10 (w.setCell ⟨b11, k, none⟩ x) :=
  ⟨h.below.setCell (p := ⟨b11, _, none⟩) G.l11 _, (Below.heap_setCell _ _ _ _ G.n2).trans h.h9, (Below.heap_setCell _ _ _ _ G.n3).trans h.h10, heap_setCell_at h.h11 _, h.r9.other G.n9 _ _, h.r10.other G.n0 _ _⟩
theorem MoW.other (h : MoW p P b9 b10 b11 g9 g10 k9 k10 c11 l9 l10 w) {g : Nat} (hg : P.heap.size ≤ g) (h1 : g ≠ b9) (h2 : g ≠ b10) (h3 : g ≠ b11) (h4 : g ≠ g9) (h5 : g ≠ g10) (k : Nat) (x : Value) : MoW p P b9 b10 b11 g9 g10 k9 k10 c11 l9 l10 (w.setCell ⟨g, k, none⟩ x) :=
  ⟨h.below.setCell (p := ⟨g, _, none⟩) hg _, (Below.heap_setCell _ _ _ _ (Ne.symm h1)).trans h.h9, (Below.heap_setCell _ _ _ _ (Ne.symm h2)).trans h.h10, (Below.heap_setCell _ _ _ _ (Ne.symm h3)).trans h.h11, h.r9.other h4 _ _, h.r10.other h5 _ _⟩
end
/-- The pile without the mark. -/
structure MoX (p : Prs) (b13 g13 k13 : Nat) (l13 : List Prt) (w : World) : Prop where
  h13 : w.heap[b13]? = some (.cells (moC p g13 k13) 26 (0, 0))
  r13 : PrRow g13 l13 w
theorem MoX.mono {p : Prs} {b13 g13 k13 : Nat} {l13 : List Prt} {w w' : World} (h : MoX p b13 g13 k13 l13 w) (hb : Below w.heap.size w w') : MoX p b13 g13 k13 l13 w' := ⟨(hb.block _ (heap_lt h.h13)).trans h.h13, h.r13.mono hb⟩
theorem MoX.other {p : Prs} {b13 g13 k13 : Nat} {l13 : List Prt} {w : World} (h : MoX p b13 g13 k13 l13 w) {g : Nat} (h1 : g ≠ b13) (h2 : g ≠ g13) (k : Nat) (x : Value) : MoX p b13 g13 k13 l13 (w.setCell ⟨g, k, none⟩ x) := ⟨(Below.heap_setCell _ _ _ _ (Ne.symm h1)).trans h.h13, h.r13.other h2 _ _⟩
theorem mo_cells {p : Prs} {b g k : Nat} {w : World} (h : w.heap[b]? = some (.cells (moC p g k) 26 (0, 0))) : w.cell? ⟨b, 0, none⟩ = some (.slice (some ⟨g, 0, none⟩) p.cards.length k) ∧ w.cell? ⟨b, 1, none⟩ = some (.int .i64 p.llo) ∧ w.cell? ⟨b, 2, none⟩ = some (.int .i64 p.lhi) ∧ w.cell? ⟨b, 3, none⟩ = some (.int .i64 p.olo) ∧ w.cell? ⟨b, 4, none⟩ = some (.int .i64 p.ohi) := by
  refine ⟨?_, ?_, ?_, ?_, ?_⟩ <;> (rw [cell_of_heap h]; rfl)
set_option maxRecDepth 100000 in
set_option maxHeartbeats 4000000 in
theorem copyMore_any {p : Prs} {a : Option Addr} {cap : Nat} {w : World} (ha : IsPrts w a p.cards) {which by_ : Int} (hwh : 0 ≤ which ∧ which ≤ 255) (hby : 0 ≤ by_ ∧ by_ ≤ 255) :
    Calls Try.prog 7 #[p.v a cap, .int .u8 which, .int .u8 by_] w fun e w' => e = .returned (.bool true) ∧ Below w.heap.size w w' := by
  have hb0 : Below w.heap.size w (w.alloc (.cells (p.cells a cap) 26)) := (Below.refl _ w).alloc (Nat.le_refl _) _
  have q0 := World.alloc_heap_new w (.cells (p.cells a cap) 26)
  have HW := Lib.hid (And.intro hb0 (And.intro q0 (ha.mono hb0)))
  have HWB := Lib.hid (And.intro hwh hby)
  have hmf : ∀ (fn : Fn) (first cap : Array Value) (w : World), (Instr.makeFunc fn first cap).run Try.prog w = .ok (.func fn first cap) w := fun _ _ _ _ => rfl
  clear hb0 q0 ha hwh hby
  go_enter Try.func7, Try.ntmps7
  refine wp_seq_hid ?_
  intro K0 HK0
  go_wp2_with fail
  refine HK0.out _ _ ?_
  refine wp_seq_hid ?_
  intro K1 HK1
  revert HW
  generalize w.alloc (.cells (p.cells a cap) 26) = w1
  intro HW
  have KP : Hid (∀ v, Below w1.heap.size w1 v → v.heap[w.heap.size]? = some (.cells (p.cells a cap) 26 (0, 0)) ∧ IsPrts v a p.cards ∧ Below w.heap.size w v) := fun v h => ⟨(h.block _ (heap_lt HW.out.2.1)).trans HW.out.2.1, HW.out.2.2.mono h, HW.out.1.trans (h.mono HW.out.1.size)⟩
  have HWL : Hid (w.heap.size < w1.heap.size) := heap_lt HW.out.2.1
  obtain ⟨k0, k1, k2, k3, k4⟩ := prs_cells (KP.out w1 (Below.refl w1.heap.size w1)).1
  go_wp2_with fail
  refine (great5 (KP.out w1 (Below.refl w1.heap.size w1)).2.1).mono ?_
  rintro e d1 ⟨rfl, hb⟩
  have HP1 := Lib.hid (Below.trans (Below.refl w1.heap.size w1) (hb.mono (Below.size (Below.refl w1.heap.size w1))))
  clear hb k0 k1 k2 k3 k4
  by_cases hg : 16 < p.cards.length
  case pos =>
    rw [decide_eq_true hg]
    go_wp2_with fail
    refine (alive_any _).mono ?_
    rintro e c1 ⟨rfl, hb⟩
    have HX := Lib.hid (Below.trans HP1.out (hb.mono (Below.size HP1.out)))
    clear hb
    go_wp2_with fail
    go_ret
    exact ⟨rfl, (KP.out _ HX.out).2.2⟩
  rw [decide_eq_false hg]
  have HN : Hid (p.cards.length ≤ 16) := by show p.cards.length ≤ 16; omega
  clear hg
  obtain ⟨k0, k1, k2, k3, k4⟩ := prs_cells (KP.out d1 HP1.out).1
  go_wp2_with fail
  refine (prints_any (KP.out d1 HP1.out).2.1 HN.out).mono ?_
  rintro e d2 ⟨rfl, hb⟩
  have HP2 := Lib.hid (Below.trans HP1.out (hb.mono (Below.size HP1.out)))
  clear hb k0 k1 k2 k3 k4
  cases hv : p.valid
  case false =>
    go_wp2_with fail
    refine (alive_any _).mono ?_
    rintro e c1 ⟨rfl, hb⟩
    have HX := Lib.hid (Below.trans HP2.out (hb.mono (Below.size HP2.out)))
    clear hb
    go_wp2_with fail
    go_ret
    exact ⟨rfl, (KP.out _ HX.out).2.2⟩
  have HV := Lib.hid hv
  clear hv
  obtain ⟨k0, k1, k2, k3, k4⟩ := prs_cells (KP.out d2 HP2.out).1
  by_cases hn0 : p.cards.length = 0
  case pos =>
    have hnz : ((p.cards.length : Int) == 0) = true := by simpa using hn0
    have HN0 := Lib.hid hn0
    clear hn0
    go_wp2_with fail
    refine (alive_any _).mono ?_
    rintro e c1 ⟨rfl, hb⟩
    have HX := Lib.hid (Below.trans HP2.out (hb.mono (Below.size HP2.out)))
    clear hb
    go_wp2_with fail
    go_ret
    exact ⟨rfl, (KP.out _ HX.out).2.2⟩
  have hnz : ((p.cards.length : Int) == 0) = false := by simpa using hn0
  have HN0 : Hid (0 < p.cards.length) := by show 0 < p.cards.length; omega
  have HN5 : Hid (p.cards.length ≤ 5) := (valid_parts HV.out).1
  clear hn0
  go_wp2_with fail
  refine HK1.out _ _ ?_
  clear HK1 K1
  clear HK0 K0 hnz
  refine wp_seq_hid ?_
  intro K3 HK3
  go_upto_region 3 with fail
  obtain ⟨kn, hkn⟩ : ∃ kn : Nat, which.tmod (p.cards.length : Int) = (kn : Int) := ⟨(which.tmod (p.cards.length : Int)).toNat, by
    have h0 := Int.tmod_nonneg (p.cards.length : Int) HWB.out.1.1
    omega⟩
  have hkl : kn < p.cards.length := by
    have h0 := Int.tmod_lt_of_pos which (b := (p.cards.length : Int)) (by have := HN0.out; omega)
    omega
  obtain ⟨dn, hdn⟩ : ∃ dn : Nat, by_.tmod 10 = (dn : Int) := ⟨(by_.tmod 10).toNat, by
    have h0 := Int.tmod_nonneg 10 HWB.out.2.1
    omega⟩
  have hdl : dn < 10 := by
    have h0 := Int.tmod_lt_of_pos by_ (b := 10) (by decide)
    omega
  have hw1 : IntKind.i64.wrap which = which := IntWalk.i64_in _ (by have := HWB.out.1; omega)
  have hw2 : IntKind.i64.wrap by_ = by_ := IntWalk.i64_in _ (by have := HWB.out.2; omega)
  have hn1 : ¬ p.cards.length = 0 := by have := HN0.out; omega
  have hn2 : ((p.cards.length : Int) = 0) = False := by simpa using hn1
  have hp2 : (2 : Nat) ^ dn < 2 ^ 10 := Nat.pow_lt_pow_right (by decide) hdl
  have hp3 : (2 : Nat) ^ dn < 1024 := hp2
  have z0 := fun y : Aft d2.heap.size d2 => cell_stays y.h k0
  clear k0 k1 k2 k3 k4
  refine wp_region_aft mixed (by kernel_rfl) ?_
  repeat (go_big_quiet_step (fail))
  refine wpQuiet_nil ?_
  rintro _ ⟨y, rfl⟩
  have hsh : wrap64 ((2 : Int) ^ dn) = ((2 ^ dn : Nat) : Int) := by
    have e : (2 : Int) ^ dn = ((2 ^ dn : Nat) : Int) := by simp
    rw [e]
    have hz : ∀ q : Nat, q < 1024 → wrap64 (q : Int) = (q : Int) := fun q hq => IntWalk.wrap64_in _ (by omega)
    exact hz _ hp3
  rw [hsh]
  obtain ⟨M, hM⟩ : ∃ M : Int, ((2 ^ dn : Nat) : Int) = M := ⟨_, rfl⟩
  rw [hM]
  have HM := Lib.hid (And.intro hM (And.intro hdl hkl))
  have hb := y.h
  revert hb
  generalize y.v = v3
  intro hb
  have HP3 := Lib.hid (Below.trans HP2.out (hb.mono (Below.size HP2.out)))
  clear hb z0 hkn hdn hdl hw1 hw2 hn1 hn2 hp2 hp3 hsh hM hkl
  refine HK3.out _ _ ?_
  clear HK3 K3
  refine wp_seq_hid ?_
  intro K4 HK4
  go_upto_region 4 with fail
  refine mor4 (bx := w.heap.size) (p := p) (av := a) (cap := cap) (KP.out v3 HP3.out).1 ?_
  rintro x58 x59 x60 x9 x10 x11 v4 hb - - - ⟨b9, rfl, l9, q9⟩ ⟨b10, rfl, l10, q10⟩ ⟨b11, rfl, l11, q11⟩ n1 n2 n3
  have n1 : b9 ≠ b10 := fun e => n1 (by rw [e])
  have n2 : b9 ≠ b11 := fun e => n2 (by rw [e])
  have n3 : b10 ≠ b11 := fun e => n3 (by rw [e])
  have H4 := Lib.hid (And.intro hb (And.intro q9 (And.intro q10 q11)))
  have H4G := Lib.hid (And.intro (And.intro l9 (And.intro l10 l11)) (And.intro n1 (And.intro n2 n3)))
  have KQ : Hid (∀ v, Below v3.heap.size v3 v → v.heap[w.heap.size]? = some (.cells (p.cells a cap) 26 (0, 0)) ∧ IsPrts v a p.cards ∧ Below w.heap.size w v) := fun v h => KP.out v (HP3.out.trans (h.mono HP3.out.size))
  clear hb q9 q10 q11 l9 l10 l11 n1 n2 n3
  refine HK4.out _ _ ?_
  clear HK4 K4
  refine wp_seq_hid ?_
  intro K5 HK5
  go_upto_region 5 with fail
  refine wpIn_wide.1 (mor5 (bx := w.heap.size) (b9 := b9) (b10 := b10) (av := a) (n := p.cards.length) (cap := cap)
    (S0 := fun fs ms w => Below v4.heap.size v4 w ∧ (fs = true → v4.heap.size ≤ ms ∧ w.heap[ms]? = some (.cells #[] 54 (0, 0))))
    (S1 := fun fs ms m1 w => Below v4.heap.size v4 w ∧ (v4.heap.size ≤ m1 ∧ w.heap[m1]? = some (.cells #[] 54 (0, 0))) ∧ (fs = true → v4.heap.size ≤ ms ∧ w.heap[ms]? = some (.cells #[] 54 (0, 0)) ∧ ms ≠ m1))
    (S2 := fun fs ms m1 r1 w => Below v4.heap.size v4 w ∧ (v4.heap.size ≤ r1.1 ∧ PrRow r1.1 p.cards w) ∧ (fs = true → v4.heap.size ≤ ms ∧ w.heap[ms]? = some (.cells #[] 54 (0, 0)) ∧ ms ≠ r1.1))
    (S3 := fun fs ms m1 r1 r2 w => Below v4.heap.size v4 w ∧ v4.heap.size ≤ r1.1 ∧ v4.heap.size ≤ r2.1 ∧ r1.1 ≠ r2.1 ∧ PrRow r1.1 p.cards w ∧ PrRow r2.1 p.cards w)
    (S4 := fun fs ms m1 r1 r2 w => ∃ v, (Below v4.heap.size v4 v ∧ v4.heap.size ≤ r1.1 ∧ v4.heap.size ≤ r2.1 ∧ r1.1 ≠ r2.1 ∧ PrRow r1.1 p.cards v ∧ PrRow r2.1 p.cards v) ∧ w = v.setCell ⟨b9, 0, none⟩ (.slice (some ⟨r1.1, 0, none⟩) p.cards.length r1.2))
    (S5 := fun fs ms m1 r1 r2 w => ∃ v, (Below v4.heap.size v4 v ∧ v4.heap.size ≤ r1.1 ∧ v4.heap.size ≤ r2.1 ∧ r1.1 ≠ r2.1 ∧ PrRow r1.1 p.cards v ∧ PrRow r2.1 p.cards v) ∧ w = (v.setCell ⟨b9, 0, none⟩ (.slice (some ⟨r1.1, 0, none⟩) p.cards.length r1.2)).setCell ⟨b10, 0, none⟩ (.slice (some ⟨r2.1, 0, none⟩) p.cards.length r2.2))
    ?h0 ?c0 ?l2 ?c3 ?s0 ?s1 ?s2 ?l6 ?c7 ?c9 ?c11 ?hQ)
  case h0 => exact ⟨(Below.refl _ v4).drew, fun h => by cases h⟩
  case c0 =>
    exact Lib.hid fun fs ms w h => ⟨h.1.alloc h.1.size _, ⟨h.1.size, World.alloc_heap_new w _⟩, fun hf =>
      have h2 := h.2 hf
      ⟨h2.1, (((Below.refl _ w).alloc (Nat.le_refl _) _).block _ (heap_lt h2.2)).trans h2.2, Nat.ne_of_lt (heap_lt h2.2)⟩⟩
  case l2 =>
    exact Lib.hid fun fs ms m1 w h => by
      have hb : Below v4.heap.size v4 w := h.elim (fun h => h.1) (fun h => h.1)
      exact (prs_cells (KQ.out w (H4.out.1.trans (hb.mono H4.out.1.size))).1).1
  case c3 =>
    exact Lib.hid fun fs ms m1 w h => by
      obtain ⟨g, c, w', hr, h1, h2, h3, h4⟩ := copy_prts (W := v4) (cv := cap) HN0.out HN.out h.1 (own_empty54 h.2.1.1 h.2.1.2) (KQ.out w (H4.out.1.trans (h.1.mono H4.out.1.size))).2.1
      refine ⟨(g, c), w', hr, h3, ⟨h1, h2⟩, fun hf => ?_⟩
      obtain ⟨e1, e2, e3⟩ := h.2.2 hf
      have h5 := h4 ms (heap_lt e2) (fun e => e3 (by cases e; rfl))
      exact ⟨e1, h5.1.trans e2, Ne.symm h5.2⟩
  case s0 => exact Lib.hid fun w h => ⟨h.1.alloc h.1.size _, fun _ => ⟨h.1.size, World.alloc_heap_new w _⟩⟩
  case s1 =>
    exact Lib.hid fun m1 w h =>
      have hb := (Below.refl w.heap.size w).alloc (Nat.le_refl _) (.cells #[] 54)
      ⟨h.1.alloc h.1.size _, ⟨h.2.1.1, (hb.block _ (heap_lt h.2.1.2)).trans h.2.1.2⟩, fun _ => ⟨h.1.size, World.alloc_heap_new w _, Ne.symm (Nat.ne_of_lt (heap_lt h.2.1.2))⟩⟩
  case s2 =>
    exact Lib.hid fun m1 r1 w h =>
      have hb := (Below.refl w.heap.size w).alloc (Nat.le_refl _) (.cells #[] 54)
      ⟨h.1.alloc h.1.size _, ⟨h.2.1.1, h.2.1.2.mono hb⟩, fun _ => ⟨h.1.size, World.alloc_heap_new w _, Ne.symm (Nat.ne_of_lt h.2.1.2.lt)⟩⟩
  case l6 =>
    exact Lib.hid fun fs ms m1 r1 w h => by
      have hb : Below v4.heap.size v4 w := h.elim (fun h => h.1) (fun h => h.elim (fun h => h.1) (fun h => h.1))
      exact (prs_cells (KQ.out w (H4.out.1.trans (hb.mono H4.out.1.size))).1).1
  case c7 =>
    exact Lib.hid fun ms m1 r1 w h => by
      obtain ⟨e1, e2, e3⟩ := h.2.2 rfl
      obtain ⟨g, c, w', hr, h1, h2, h3, h4⟩ := copy_prts (W := v4) (cv := cap) HN0.out HN.out h.1 (own_empty54 e1 e2) (KQ.out w (H4.out.1.trans (h.1.mono H4.out.1.size))).2.1
      have h5 := h4 r1.1 h.2.1.2.lt (fun e => e3 (by cases e; rfl))
      refine ⟨(g, c), w', hr, h3, h.2.1.1, h1, Ne.symm h5.2, ?_, h2⟩
      obtain ⟨cur, c1, c2⟩ := h.2.1.2.row
      exact ⟨cur, h5.1.trans c1, c2⟩
  case c9 =>
    exact Lib.hid fun ms m1 r1 r2 w h => by
      have q := (h.1.block _ (heap_lt H4.out.2.1)).trans H4.out.2.1
      exact ⟨⟨_, by rw [cell_of_heap q]; rfl⟩, frozen_of_heap q, w, h, rfl⟩
  case c11 =>
    exact Lib.hid fun ms m1 r1 r2 w h => by
      obtain ⟨v, h, rfl⟩ := h
      have q := (Below.heap_setCell v ⟨b9, 0, none⟩ (.slice (some ⟨r1.1, 0, none⟩) p.cards.length r1.2) b10 (Ne.symm H4G.out.2.1)).trans ((h.1.block _ (heap_lt H4.out.2.2.1)).trans H4.out.2.2.1)
      exact ⟨⟨_, by rw [cell_of_heap q]; rfl⟩, frozen_of_heap q, v, h, rfl⟩
  rintro ms m1 ⟨g9, k9⟩ ⟨g10, k10⟩ v5 ⟨v, ⟨hb, l9, l10, n4, r9, r10⟩, rfl⟩
  have s9 := heap_lt H4.out.2.1
  have s10 := heap_lt H4.out.2.2.1
  have s11 := heap_lt H4.out.2.2.2
  have hbp := H4.out.1.trans (hb.mono H4.out.1.size)
  have sz := H4.out.1.size
  have GG : Hid (MoG v3 b9 b10 b11 g9 g10) := ⟨H4G.out.1.1, H4G.out.1.2.1, H4G.out.1.2.2, Nat.le_trans sz l9, Nat.le_trans sz l10, H4G.out.2.1, H4G.out.2.2.1, H4G.out.2.2.2, n4, Nat.ne_of_lt (Nat.lt_of_lt_of_le s9 l9), Nat.ne_of_lt (Nat.lt_of_lt_of_le s9 l10), Nat.ne_of_lt (Nat.lt_of_lt_of_le s10 l9), Nat.ne_of_lt (Nat.lt_of_lt_of_le s10 l10), Nat.ne_of_lt (Nat.lt_of_lt_of_le s11 l9), Nat.ne_of_lt (Nat.lt_of_lt_of_le s11 l10)⟩
  have HW5 : Hid (MoW p v3 b9 b10 b11 g9 g10 k9 k10 (p.cells a cap) (clrL dn 0 p.cards) p.cards ((v.setCell ⟨b9, 0, none⟩ (.slice (some ⟨g9, 0, none⟩) p.cards.length k9)).setCell ⟨b10, 0, none⟩ (.slice (some ⟨g10, 0, none⟩) p.cards.length k10))) := by
    rw [clrL_zero]
    refine ⟨(hbp.setCell (p := ⟨b9, _, none⟩) GG.out.l9 _).setCell (p := ⟨b10, _, none⟩) GG.out.l10 _, ?_, ?_, ?_, (r9.other GG.out.n5 _ _).other GG.out.n7 _ _, (r10.other GG.out.n6 _ _).other GG.out.n8 _ _⟩
    · exact (Below.heap_setCell _ _ _ _ GG.out.n1).trans (heap_setCell_at ((hb.block _ s9).trans H4.out.2.1) _)
    · exact heap_setCell_at ((Below.heap_setCell _ _ _ _ (Ne.symm GG.out.n1)).trans ((hb.block _ s10).trans H4.out.2.2.1)) _
    · exact (Below.heap_setCell _ _ _ _ (Ne.symm GG.out.n3)).trans ((Below.heap_setCell _ _ _ _ (Ne.symm GG.out.n2)).trans ((hb.block _ s11).trans H4.out.2.2.2))
  clear hb l9 l10 n4 r9 r10 s9 s10 s11 hbp sz
  dsimp only
  revert HW5
  generalize ((v.setCell ⟨b9, 0, none⟩ (.slice (some ⟨g9, 0, none⟩) p.cards.length k9)).setCell ⟨b10, 0, none⟩ (.slice (some ⟨g10, 0, none⟩) p.cards.length k10)) = v6
  intro HW5
  refine HK5.out _ _ ?_
  clear HK5 K5 H4 H4G
  refine wp_seq_hid ?_
  intro K6 HK6
  obtain ⟨x0, -⟩ := mo_cells HW5.out.h9
  have hn5 : p.cards.length ≤ 5 := HN5.out
  go_wp2_with fail
  clear x0
  go_loopw [74] (fun i wr => ∃ (k : Nat), k ≤ p.cards.length ∧ i = .int .i64 k ∧ Hid (MoW p v3 b9 b10 b11 g9 g10 k9 k10 (p.cells a cap) (clrL dn k p.cards) p.cards wr)) (fun i _ => p.cards.length - (intOf i).toNat)
  case atStart => exact ⟨0, by omega, rfl, HW5.out⟩
  case round =>
    obtain ⟨k, hk, rfl, HI⟩ := hrel
    by_cases hlt : k < p.cards.length
    · refine wp_seq_hid ?_
      intro KL7 HKL7
      go_wp2_with fail
      refine HKL7.out _ _ ?_
      clear HKL7 KL7
      refine wp_seq_hid ?_
      intro KLc HKLc
      go_wp2_with fail
      refine HKLc.out _ _ ?_
      clear HKLc KLc
      refine wp_seq_hid ?_
      intro KLB HKLB
      refine wp_block ?_
      refine wp_seq_hid ?_
      intro K8 HK8
      go_wp2_with fail
      refine HK8.out _ _ ?_
      clear HK8 K8
      have hkc : k < (clrL dn k p.cards).length := by rw [clrL_len]; exact hlt
      obtain ⟨x0, -⟩ := mo_cells HI.out.h9
      have x4 := HI.out.r9.cells (e := 4) hkc (by decide)
      have f4 := HI.out.r9.frozen (k * 5 + 4)
      have hok := gp_ok HV.out hlt
      obtain ⟨_, _, m0, m1⟩ := ok_parts hok
      have e4 : (gp (clrL dn k p.cards) k).cell 4 = (gp p.cards k).marks := by rw [clrL_at hlt, if_neg (by omega)]; rfl
      rw [e4] at x4
      have hand : bits .andNot .i64 (gp p.cards k).marks M = ((clrN (gp p.cards k).marks.toNat dn : Nat) : Int) := by
        have e : (gp p.cards k).marks = (((gp p.cards k).marks.toNat : Nat) : Int) := by omega
        have hd2 : (2 : Nat) ^ dn < 2 ^ 10 := Nat.pow_lt_pow_right (by decide) HM.out.2.1
        rw [e, ← HM.out.1, bits_andNot _ _ (by omega) (by omega), Int.toNat_natCast]
        rfl
      have HNX := Lib.hid (HI.out.put9 GG.out hkc (e := 4) (by decide) ((clrN (gp p.cards k).marks.toNat dn : Nat) : Int))
      revert HNX
      rw [clrL_next hlt]
      revert hand x4
      generalize (gp p.cards k).marks = mk
      generalize ((clrN mk.toNat dn : Nat) : Int) = mn
      intro x4 hand HNX
      clear e4 m0 m1 hok
      go_wp2_with fail
      refine HKLB.out _ _ ?_
      clear x0 x4 f4 hand
      go_wp2_with fail
      go_roundw
      case rel => exact ⟨k + 1, by omega, by go_num, HNX.out⟩
      case measure => simp [intOf]; omega
    · have hke : k = p.cards.length := by omega
      have HJ := HI.out
      rw [hke, clrL_all] at HJ
      have HJ := Lib.hid HJ
      clear HI hlt hk
      subst hke
      go_wp2_with fail
      refine HK6.out _ _ ?_
      obtain ⟨v7, hv7⟩ : ∃ v, v = wr := ⟨_, rfl⟩
      subst hv7
      refine wp_seq_hid ?_
      intro K11 HK11
      obtain ⟨x0, x1, x2, x3, x4⟩ := mo_cells HJ.out.h9
      go_wp2_with fail
      have q13 := World.alloc_heap_new v7 (.cells (moC p g9 k9) 26)
      have hb : Below v7.heap.size v7 (v7.alloc (.cells (moC p g9 k9) 26)) := (Below.refl _ _).alloc (Nat.le_refl _) _
      have H11 := Lib.hid (And.intro hb (And.intro q13 (HJ.out.mono hb)))
      clear hb q13 x0 x1 x2 x3 x4
      revert H11
      generalize (v7.alloc (.cells (moC p g9 k9) 26)) = v8
      intro H11
      refine HK11.out _ _ ?_
      clear HK11 K11
      refine wp_seq_hid ?_
      intro K12 HK12
      have hlm : (p.cards.map (Prt.clr dn)).length = p.cards.length := List.length_map ..
      obtain ⟨x0, -⟩ := mo_cells H11.out.2.2.h9
      have hb0 : Below v8.heap.size v8 (v8.alloc (.cells #[] 54)) := (Below.refl _ _).alloc (Nat.le_refl _) _
      obtain ⟨g13, k13, v9, hr, l13, hrow, hb9, -⟩ := copy_prts (W := v8) (cv := k9) (by rw [hlm]; exact HN0.out) (by rw [hlm]; exact HN.out) hb0 (own_none54 (Nat.le_refl _)) (H11.out.2.2.r9.prts.mono hb0)
      rw [hlm] at hr
      have HRUN := Lib.hid hr
      have x0' := cell_stays hb0 x0
      have q13 := (hb9.block _ (heap_lt H11.out.2.1)).trans H11.out.2.1
      have f13 : v9.frozen? ⟨v7.heap.size, 0, none⟩ = false := frozen_of_heap q13
      have y13 : v9.cell? ⟨v7.heap.size, 0, none⟩ = some (.slice (some ⟨g9, 0, none⟩) p.cards.length k9) := by rw [cell_of_heap q13]; rfl
      have hM9 := H11.out.2.2.mono hb9
      have hlt13 := heap_lt q13
      have hl8 := heap_lt H11.out.2.1
      have s9 := heap_lt HJ.out.h9
      have s10 := heap_lt HJ.out.h10
      have s11 := heap_lt HJ.out.h11
      have t9 := HJ.out.r9.lt
      have t10 := HJ.out.r10.lt
      have hX : Hid (MoX p v7.heap.size g13 k13 (p.cards.map (Prt.clr dn)) (v9.setCell ⟨v7.heap.size, 0, none⟩ (.slice (some ⟨g13, 0, none⟩) p.cards.length k13))) := ⟨heap_setCell_at q13 _, hrow.other (by omega) _ _⟩
      have hW9 : Hid (MoW p v3 b9 b10 b11 g9 g10 k9 k10 (p.cells a cap) (p.cards.map (Prt.clr dn)) p.cards (v9.setCell ⟨v7.heap.size, 0, none⟩ (.slice (some ⟨g13, 0, none⟩) p.cards.length k13))) := hM9.other HJ.out.below.size (by omega) (by omega) (by omega) (by omega) (by omega) _ _
      have HNE : Hid ((g9 ≠ v7.heap.size ∧ g10 ≠ v7.heap.size ∧ b11 ≠ v7.heap.size) ∧ g9 ≠ g13 ∧ g10 ≠ g13 ∧ b11 ≠ g13) := ⟨⟨by omega, by omega, by omega⟩, by omega, by omega, by omega⟩
      clear hr l13 hrow hb9 hb0 q13 hM9 hlt13 hl8 s9 s10 s11 t9 t10 hlm
      go_wp2_with (at_builtin; refine wpList_append_run rfl (.tmp 89) (.tmp 91) 22 rfl _ _ _ _ rfl rfl HRUN.out ?_)
      clear x0 x0' f13 y13
      revert hX hW9
      generalize (v9.setCell ⟨v7.heap.size, 0, none⟩ (.slice (some ⟨g13, 0, none⟩) p.cards.length k13)) = v10
      intro hX hW9
      refine HK12.out _ _ ?_
      clear HK12 K12 HRUN
      refine wp_seq_hid ?_
      intro K13 HK13
      have hkl := HM.out.2.2
      have hkc : kn < (p.cards.map (Prt.clr dn)).length := by rw [List.length_map]; exact hkl
      obtain ⟨x0, -⟩ := mo_cells hW9.out.h9
      have x4 := hW9.out.r9.cells (e := 4) hkc (by decide)
      have f4 := hW9.out.r9.frozen (kn * 5 + 4)
      obtain ⟨_, _, m0, m1⟩ := ok_parts (clr_ok dn (gp_ok HV.out hkl))
      have e4 : (gp (p.cards.map (Prt.clr dn)) kn).cell 4 = (gp (p.cards.map (Prt.clr dn)) kn).marks := rfl
      rw [e4] at x4
      have e5 : gp (p.cards.map (Prt.clr dn)) kn = (gp p.cards kn).clr dn := gp_map hkl
      have hor : bits .or .i64 (gp (p.cards.map (Prt.clr dn)) kn).marks M = (((gp (p.cards.map (Prt.clr dn)) kn).marks.toNat ||| 2 ^ dn : Nat) : Int) := by
        rw [e5]
        have e : ((gp p.cards kn).clr dn).marks = ((((gp p.cards kn).clr dn).marks.toNat : Nat) : Int) := by omega
        have hd2 : (2 : Nat) ^ dn < 2 ^ 10 := Nat.pow_lt_pow_right (by decide) HM.out.2.1
        rw [e, ← HM.out.1, bits_or _ _ (by omega) (by omega), Int.toNat_natCast]
      have HNX1 := hW9.out.put9 GG.out hkc (e := 4) (by decide) (((gp (p.cards.map (Prt.clr dn)) kn).marks.toNat ||| 2 ^ dn : Nat) : Int)
      have hL : (p.cards.map (Prt.clr dn)).set kn ((gp (p.cards.map (Prt.clr dn)) kn).put (((gp (p.cards.map (Prt.clr dn)) kn).marks.toNat ||| 2 ^ dn : Nat) : Int) 4) = ((p.clr dn).mrk dn kn).cards := rfl
      rw [hL] at HNX1
      have HNX := Lib.hid HNX1
      clear HNX1
      have HX2 := Lib.hid (hX.out.other HNE.out.1.1 HNE.out.2.1 (kn * 5 + 4) (.int .i64 (((gp (p.cards.map (Prt.clr dn)) kn).marks.toNat ||| 2 ^ dn : Nat) : Int)))
      revert HNX HX2 hor x4
      generalize (gp (p.cards.map (Prt.clr dn)) kn).marks = mk
      generalize ((mk.toNat ||| 2 ^ dn : Nat) : Int) = mn
      intro hc4 hbits HNX HX2
      clear e4 e5 m0 m1 hL
      go_wp2_with fail
      revert HNX HX2
      generalize (v10.setCell ⟨g9, kn * 5 + 4, none⟩ (.int .i64 mn)) = v11
      intro HNX HX2
      clear x0 hc4 f4 hbits hkc hX hW9
      refine HK13.out _ _ ?_
      clear HK13 K13
      refine wp_seq_hid ?_
      intro K14 HK14
      go_upto_region 14 with fail
      have hkc : kn < p.cards.length := by exact HM.out.2.2
      obtain ⟨x0, -⟩ := mo_cells HNX.out.h10
      have xa : v11.cell? ⟨g10, kn * 5 + 1, none⟩ = some (.int .i64 (gp p.cards kn).shi) := HNX.out.r10.cells (e := 1) hkc (by decide)
      have xb : v11.cell? ⟨g10, kn * 5, none⟩ = some (.int .i64 (gp p.cards kn).slo) := HNX.out.r10.cells (e := 0) hkc (by decide)
      have fb : v11.frozen? ⟨g10, kn * 5, none⟩ = false := HNX.out.r10.frozen (kn * 5 + 0)
      obtain ⟨⟨s0, s1, s2⟩, ⟨s3, s4, s5⟩, -⟩ := ok_parts (gp_ok HV.out HM.out.2.2)
      have hpa : (gp p.cards kn).shi = (gp p.cards kn).shi := by rfl
      have hpb : (gp p.cards kn).slo = (gp p.cards kn).slo := by rfl
      rw [hpa] at xa
      rw [hpb] at xb
      have hw2 : IntKind.i64.wrap by_ = by_ := IntWalk.i64_in _ (by have := HWB.out.2; omega)
      obtain ⟨m4, hm4⟩ : ∃ z, by_ % 4 = z := ⟨_, rfl⟩
      have ht : by_.tmod 4 = m4 := by rw [← hm4]; exact Int.tmod_eq_emod_of_nonneg HWB.out.2.1
      have hmb : 0 ≤ m4 ∧ m4 < 4 := by omega
      obtain ⟨mm, hmm⟩ : ∃ z, min (gp p.cards kn).shi ((gp p.cards kn).slo + m4) = z := ⟨_, rfl⟩
      obtain ⟨D1, hD⟩ : ∃ D, D = (p.cards.set kn { gp p.cards kn with slo := min (gp p.cards kn).shi ((gp p.cards kn).slo + by_ % 4) }) := ⟨_, rfl⟩
      have HMM : Hid (p.cards.set kn ((gp p.cards kn).put mm 0) = D1) := by
        rw [Hid, hD, ← hmm, ← hm4]
        rfl
      have HD1 := Lib.hid hD
      clear hm4 hD hpa hpb
      obtain ⟨fa, hfa⟩ : ∃ z, (gp p.cards kn).shi = z := ⟨_, rfl⟩
      obtain ⟨fc, hfc⟩ : ∃ z, (gp p.cards kn).slo = z := ⟨_, rfl⟩
      rw [hfa] at xa hmm
      rw [hfc] at xb hmm
      have sA : 0 ≤ fa ∧ fa ≤ 16384 ∧ 0 ≤ fc ∧ fc ≤ 16384 := by rw [← hfa, ← hfc]; omega
      clear hfa hfc s0 s1 s2 s3 s4 s5
      have hwr : IntKind.i64.wrap (fc + m4) = fc + m4 := IntWalk.i64_in _ (by omega)
      have z0 := fun y : Aft v11.heap.size v11 => cell_stays y.h x0
      have z1 := fun y : Aft v11.heap.size v11 => cell_stays y.h xa
      have z2 := fun y : Aft v11.heap.size v11 => cell_stays y.h xb
      refine wp_region_aft_tail 25 mixed (by kernel_rfl) ?_
      simp only [List.take_succ_cons, List.take_zero, List.drop_succ_cons, List.drop_zero]
      repeat (go_big_quiet_step (fail))
      refine wpQuiet_nil ?_
      rintro _ ⟨y, rfl⟩
      have hb := y.h
      revert hb
      generalize y.v = V
      intro hb
      clear z0 z1 z2 x0 xa xb fb
      have hW2 := HNX.out.mono hb
      have hX2 := Lib.hid (HX2.out.mono hb)
      have xb : V.cell? ⟨g10, kn * 5, none⟩ = some (.int .i64 (gp p.cards kn).slo) := hW2.r10.cells (e := 0) hkc (by decide)
      have fb : V.frozen? ⟨g10, kn * 5, none⟩ = false := hW2.r10.frozen (kn * 5 + 0)
      have HPUT := hW2.put10 GG.out hkc (e := 0) (by decide) mm
      rw [HMM.out] at HPUT
      have HPW : Hid (MoW p v3 b9 b10 b11 g9 g10 k9 k10 (p.cells a cap) ((p.clr dn).mrk dn kn).cards D1 (V.setCell ⟨g10, kn * 5, none⟩ (.int .i64 mm))) := HPUT
      have HPX := Lib.hid (hX2.out.other HNE.out.1.2.1 HNE.out.2.2.1 (kn * 5) (.int .i64 mm))
      clear HPUT HMM hb hW2 hX2 HNX HX2
      go_wp2_with fail
      revert HPW HPX
      generalize (V.setCell ⟨g10, kn * 5, none⟩ (.int .i64 mm)) = v12
      intro HPW HPX
      have HW12 := HPW
      have HX12 := HPX
      clear HPW HPX xb fb hmm hkc hw2 ht hmb sA hwr
      refine HK14.out _ _ ?_
      clear HK14 K14
      refine wp_seq_hid ?_
      intro K15 HK15
      go_upto_region 15 with fail
      have hkc : kn < D1.length := by rw [HD1.out, List.length_set]; exact HM.out.2.2
      obtain ⟨x0, -⟩ := mo_cells HW12.out.h10
      have xa : v12.cell? ⟨g10, kn * 5 + 2, none⟩ = some (.int .i64 (gp D1 kn).wlo) := HW12.out.r10.cells (e := 2) hkc (by decide)
      have xb : v12.cell? ⟨g10, kn * 5 + 3, none⟩ = some (.int .i64 (gp D1 kn).whi) := HW12.out.r10.cells (e := 3) hkc (by decide)
      have fb : v12.frozen? ⟨g10, kn * 5 + 3, none⟩ = false := HW12.out.r10.frozen (kn * 5 + 3)
      obtain ⟨⟨s0, s1, s2⟩, ⟨s3, s4, s5⟩, -⟩ := ok_parts (gp_ok HV.out HM.out.2.2)
      have hpa : (gp D1 kn).wlo = (gp p.cards kn).wlo := by rw [HD1.out, gp_set HM.out.2.2, if_pos rfl]
      have hpb : (gp D1 kn).whi = (gp p.cards kn).whi := by rw [HD1.out, gp_set HM.out.2.2, if_pos rfl]
      rw [hpa] at xa
      rw [hpb] at xb
      have hw2 : IntKind.i64.wrap by_ = by_ := IntWalk.i64_in _ (by have := HWB.out.2; omega)
      obtain ⟨m4, hm4⟩ : ∃ z, by_ % 5 = z := ⟨_, rfl⟩
      have ht : by_.tmod 5 = m4 := by rw [← hm4]; exact Int.tmod_eq_emod_of_nonneg HWB.out.2.1
      have hmb : 0 ≤ m4 ∧ m4 < 5 := by omega
      obtain ⟨mm, hmm⟩ : ∃ z, max (gp p.cards kn).wlo ((gp p.cards kn).whi - m4) = z := ⟨_, rfl⟩
      obtain ⟨D2, hD⟩ : ∃ D, D = (p.thin by_ kn).cards := ⟨_, rfl⟩
      have HMM : Hid (D1.set kn ((gp D1 kn).put mm 3) = D2) := by
        rw [Hid, hD, ← hmm, ← hm4]
        rw [HD1.out, gp_set HM.out.2.2, if_pos rfl, List.set_set]; rfl
      have HD2 := Lib.hid hD
      clear hm4 hD hpa hpb
      obtain ⟨fa, hfa⟩ : ∃ z, (gp p.cards kn).wlo = z := ⟨_, rfl⟩
      obtain ⟨fc, hfc⟩ : ∃ z, (gp p.cards kn).whi = z := ⟨_, rfl⟩
      rw [hfa] at xa hmm
      rw [hfc] at xb hmm
      have sA : 0 ≤ fa ∧ fa ≤ 16384 ∧ 0 ≤ fc ∧ fc ≤ 16384 := by rw [← hfa, ← hfc]; omega
      clear hfa hfc s0 s1 s2 s3 s4 s5
      have hwr : IntKind.i64.wrap (fc - m4) = fc - m4 := IntWalk.i64_in _ (by omega)
      have z0 := fun y : Aft v12.heap.size v12 => cell_stays y.h x0
      have z1 := fun y : Aft v12.heap.size v12 => cell_stays y.h xa
      have z2 := fun y : Aft v12.heap.size v12 => cell_stays y.h xb
      refine wp_region_aft_tail 25 mixed (by kernel_rfl) ?_
      simp only [List.take_succ_cons, List.take_zero, List.drop_succ_cons, List.drop_zero]
      repeat (go_big_quiet_step (fail))
      refine wpQuiet_nil ?_
      rintro _ ⟨y, rfl⟩
      have hb := y.h
      revert hb
      generalize y.v = V
      intro hb
      clear z0 z1 z2 x0 xa xb fb
      have hW2 := HW12.out.mono hb
      have hX2 := Lib.hid (HX12.out.mono hb)
      have xb : V.cell? ⟨g10, kn * 5 + 3, none⟩ = some (.int .i64 (gp D1 kn).whi) := hW2.r10.cells (e := 3) hkc (by decide)
      have fb : V.frozen? ⟨g10, kn * 5 + 3, none⟩ = false := hW2.r10.frozen (kn * 5 + 3)
      have HPUT := hW2.put10 GG.out hkc (e := 3) (by decide) mm
      rw [HMM.out] at HPUT
      have HPW : Hid (MoW p v3 b9 b10 b11 g9 g10 k9 k10 (p.cells a cap) ((p.clr dn).mrk dn kn).cards D2 (V.setCell ⟨g10, kn * 5 + 3, none⟩ (.int .i64 mm))) := HPUT
      have HPX := Lib.hid (hX2.out.other HNE.out.1.2.1 HNE.out.2.2.1 (kn * 5 + 3) (.int .i64 mm))
      clear HPUT HMM hb hW2 hX2 HW12 HX12
      go_wp2_with fail
      revert HPW HPX
      generalize (V.setCell ⟨g10, kn * 5 + 3, none⟩ (.int .i64 mm)) = v13
      intro HPW HPX
      have HW13 := HPW
      have HX13 := HPX
      clear HPW HPX xb fb hmm hkc hw2 ht hmb sA hwr
      refine HK15.out _ _ ?_
      clear HK15 K15
      refine wp_seq_hid ?_
      intro K16 HK16
      go_upto_region 16 with fail
      obtain ⟨_, _, p1, p2⟩ := valid_parts HV.out
      obtain ⟨s0, s1, s2⟩ := span_parts p1
      obtain ⟨s3, s4, s5⟩ := span_parts p2
      have hw2 : IntKind.i64.wrap by_ = by_ := IntWalk.i64_in _ (by have := HWB.out.2; omega)
      have ht2 : by_.tmod 2 = by_ % 2 := Int.tmod_eq_emod_of_nonneg HWB.out.2.1
      have ht3 : by_.tmod 3 = by_ % 3 := Int.tmod_eq_emod_of_nonneg HWB.out.2.1
      refine wpIn_wide.1 (mor16 (bx := w.heap.size) (b11 := b11) (l0 := p.llo) (l1 := p.lhi) (o0 := p.olo) (o1 := p.ohi) (x := min p.lhi (p.llo + by_ % 2)) (y := max p.olo (p.ohi - by_ % 3))
        (R := fun f0 f1 w => (MoW p v3 b9 b10 b11 g9 g10 k9 k10 #[.slice a p.cards.length cap, .int .i64 (if f0 then min p.lhi (p.llo + by_ % 2) else p.llo), .int .i64 p.lhi, .int .i64 p.olo, .int .i64 (if f1 then max p.olo (p.ohi - by_ % 3) else p.ohi)] ((p.clr dn).mrk dn kn).cards D2 w) ∧ MoX p v7.heap.size g13 k13 (p.cards.map (Prt.clr dn)) w)
        hw2 ht2 ht3 (IntWalk.i64_in _ (by omega)) (IntWalk.i64_in _ (by omega)) rfl rfl ?e0 ?e2 ?e5 ?e13 ?e14 ?e17 ?e20 ?e23 ?e29 ?e31 ?e33 ?eQ)
      case e0 => exact ⟨HW13.out.mono (Below.refl _ v13).drew, HX13.out.mono (Below.refl _ v13).drew⟩
      case e2 => exact Lib.hid fun f0 f1 w h => (prs_cells (KQ.out w h.1.below).1).2.2.1
      case e13 => exact Lib.hid fun f0 f1 w h => (prs_cells (KQ.out w h.1.below).1).2.2.1
      case e5 => exact Lib.hid fun f0 f1 w h => (prs_cells (KQ.out w h.1.below).1).2.1
      case e17 => exact Lib.hid fun f0 f1 w h => (prs_cells (KQ.out w h.1.below).1).2.2.2.1
      case e20 => exact Lib.hid fun f0 f1 w h => (prs_cells (KQ.out w h.1.below).1).2.2.2.1
      case e23 => exact Lib.hid fun f0 f1 w h => (prs_cells (KQ.out w h.1.below).1).2.2.2.2
      case e14 => exact Lib.hid fun f0 f1 w h => (span_any _ _ w).mono fun e w' h2 => ⟨h2.1, h.1.mono h2.2, h.2.mono h2.2⟩
      case e29 => exact Lib.hid fun f0 f1 w h => (span_any _ _ w).mono fun e w' h2 => ⟨h2.1, h.1.mono h2.2, h.2.mono h2.2⟩
      case e31 => exact Lib.hid fun f1 w h => ⟨⟨_, by rw [cell_of_heap h.1.h11]; rfl⟩, frozen_of_heap h.1.h11, ⟨_, by rw [cell_of_heap h.1.h11]; rfl⟩, frozen_of_heap h.1.h11, (h.1.set11 GG.out 1 _).set11 GG.out 2 _, (h.2.other HNE.out.1.2.2 HNE.out.2.2.2 _ _).other HNE.out.1.2.2 HNE.out.2.2.2 _ _⟩
      case e33 => exact Lib.hid fun f0 w h => ⟨⟨_, by rw [cell_of_heap h.1.h11]; rfl⟩, frozen_of_heap h.1.h11, ⟨_, by rw [cell_of_heap h.1.h11]; rfl⟩, frozen_of_heap h.1.h11, (h.1.set11 GG.out 3 _).set11 GG.out 4 _, (h.2.other HNE.out.1.2.2 HNE.out.2.2.2 _ _).other HNE.out.1.2.2 HNE.out.2.2.2 _ _⟩
      rintro v14 ⟨hW, hX⟩
      have HW14 : Hid (MoW p v3 b9 b10 b11 g9 g10 k9 k10 ((p.less by_).cells a cap) ((p.clr dn).mrk dn kn).cards (p.thin by_ kn).cards v14) := by rw [← HD2.out]; exact hW
      have HX14 := Lib.hid hX
      clear hW hX s0 s1 s2 s3 s4 s5 p1 p2 hw2 ht2 ht3 HW13 HX13
      refine HK16.out _ _ ?_
      clear HK16 K16
      refine wp_seq_hid ?_
      intro K17 HK17
      obtain ⟨a0, a1, a2, a3, a4⟩ := mo_cells HX14.out.h13
      obtain ⟨d0, d1, d2, d3, d4⟩ := mo_cells HW14.out.h9
      obtain ⟨e0, e1, e2, e3, e4⟩ := mo_cells HW14.out.h10
      obtain ⟨k0, k1, k2, k3, k4⟩ := prs_cells (KQ.out v14 HW14.out.below).1
      have h11 := HW14.out.h11
      have j0 : v14.cell? ⟨b11, 0, none⟩ = some (.slice a p.cards.length cap) := by rw [cell_of_heap h11]; rfl
      have j1 : v14.cell? ⟨b11, 1, none⟩ = some (.int .i64 (p.less by_).llo) := by rw [cell_of_heap h11]; rfl
      have j2 : v14.cell? ⟨b11, 2, none⟩ = some (.int .i64 p.lhi) := by rw [cell_of_heap h11]; rfl
      have j3 : v14.cell? ⟨b11, 3, none⟩ = some (.int .i64 p.olo) := by rw [cell_of_heap h11]; rfl
      have j4 : v14.cell? ⟨b11, 4, none⟩ = some (.int .i64 (p.less by_).ohi) := by rw [cell_of_heap h11]; rfl
      clear h11
      go_wp2_with fail
      have qa := World.alloc_heap_new v14 (.cells #[.slice (some ⟨g13, 0, none⟩) p.cards.length k13, .int .i64 p.llo, .int .i64 p.lhi, .int .i64 p.olo, .int .i64 p.ohi, .slice (some ⟨g9, 0, none⟩) p.cards.length k9, .int .i64 p.llo, .int .i64 p.lhi, .int .i64 p.olo, .int .i64 p.ohi, .slice a p.cards.length cap, .int .i64 p.llo, .int .i64 p.lhi, .int .i64 p.olo, .int .i64 p.ohi, .slice (some ⟨g10, 0, none⟩) p.cards.length k10, .int .i64 p.llo, .int .i64 p.lhi, .int .i64 p.olo, .int .i64 p.ohi, .slice a p.cards.length cap, .int .i64 p.llo, .int .i64 p.lhi, .int .i64 p.olo, .int .i64 p.ohi, .slice a p.cards.length cap, .int .i64 (p.less by_).llo, .int .i64 p.lhi, .int .i64 p.olo, .int .i64 (p.less by_).ohi] 56)
      have hb : Below v14.heap.size v14 (v14.alloc (.cells #[.slice (some ⟨g13, 0, none⟩) p.cards.length k13, .int .i64 p.llo, .int .i64 p.lhi, .int .i64 p.olo, .int .i64 p.ohi, .slice (some ⟨g9, 0, none⟩) p.cards.length k9, .int .i64 p.llo, .int .i64 p.lhi, .int .i64 p.olo, .int .i64 p.ohi, .slice a p.cards.length cap, .int .i64 p.llo, .int .i64 p.lhi, .int .i64 p.olo, .int .i64 p.ohi, .slice (some ⟨g10, 0, none⟩) p.cards.length k10, .int .i64 p.llo, .int .i64 p.lhi, .int .i64 p.olo, .int .i64 p.ohi, .slice a p.cards.length cap, .int .i64 p.llo, .int .i64 p.lhi, .int .i64 p.olo, .int .i64 p.ohi, .slice a p.cards.length cap, .int .i64 (p.less by_).llo, .int .i64 p.lhi, .int .i64 p.olo, .int .i64 (p.less by_).ohi] 56)) := (Below.refl _ _).alloc (Nat.le_refl _) _
      have KD : Hid (∀ v, Below (v14.alloc (.cells #[.slice (some ⟨g13, 0, none⟩) p.cards.length k13, .int .i64 p.llo, .int .i64 p.lhi, .int .i64 p.olo, .int .i64 p.ohi, .slice (some ⟨g9, 0, none⟩) p.cards.length k9, .int .i64 p.llo, .int .i64 p.lhi, .int .i64 p.olo, .int .i64 p.ohi, .slice a p.cards.length cap, .int .i64 p.llo, .int .i64 p.lhi, .int .i64 p.olo, .int .i64 p.ohi, .slice (some ⟨g10, 0, none⟩) p.cards.length k10, .int .i64 p.llo, .int .i64 p.lhi, .int .i64 p.olo, .int .i64 p.ohi, .slice a p.cards.length cap, .int .i64 p.llo, .int .i64 p.lhi, .int .i64 p.olo, .int .i64 p.ohi, .slice a p.cards.length cap, .int .i64 (p.less by_).llo, .int .i64 p.lhi, .int .i64 p.olo, .int .i64 (p.less by_).ohi] 56)).heap.size (v14.alloc (.cells #[.slice (some ⟨g13, 0, none⟩) p.cards.length k13, .int .i64 p.llo, .int .i64 p.lhi, .int .i64 p.olo, .int .i64 p.ohi, .slice (some ⟨g9, 0, none⟩) p.cards.length k9, .int .i64 p.llo, .int .i64 p.lhi, .int .i64 p.olo, .int .i64 p.ohi, .slice a p.cards.length cap, .int .i64 p.llo, .int .i64 p.lhi, .int .i64 p.olo, .int .i64 p.ohi, .slice (some ⟨g10, 0, none⟩) p.cards.length k10, .int .i64 p.llo, .int .i64 p.lhi, .int .i64 p.olo, .int .i64 p.ohi, .slice a p.cards.length cap, .int .i64 p.llo, .int .i64 p.lhi, .int .i64 p.olo, .int .i64 p.ohi, .slice a p.cards.length cap, .int .i64 (p.less by_).llo, .int .i64 p.lhi, .int .i64 p.olo, .int .i64 (p.less by_).ohi] 56)) v → v.heap[w.heap.size]? = some (.cells (p.cells a cap) 26 (0, 0)) ∧ IsPrts v a p.cards ∧ PrRow g13 (p.cards.map (Prt.clr dn)) v ∧ PrRow g9 ((p.clr dn).mrk dn kn).cards v ∧ PrRow g10 (p.thin by_ kn).cards v ∧ v.heap[v14.heap.size]? = some (.cells #[.slice (some ⟨g13, 0, none⟩) p.cards.length k13, .int .i64 p.llo, .int .i64 p.lhi, .int .i64 p.olo, .int .i64 p.ohi, .slice (some ⟨g9, 0, none⟩) p.cards.length k9, .int .i64 p.llo, .int .i64 p.lhi, .int .i64 p.olo, .int .i64 p.ohi, .slice a p.cards.length cap, .int .i64 p.llo, .int .i64 p.lhi, .int .i64 p.olo, .int .i64 p.ohi, .slice (some ⟨g10, 0, none⟩) p.cards.length k10, .int .i64 p.llo, .int .i64 p.lhi, .int .i64 p.olo, .int .i64 p.ohi, .slice a p.cards.length cap, .int .i64 p.llo, .int .i64 p.lhi, .int .i64 p.olo, .int .i64 p.ohi, .slice a p.cards.length cap, .int .i64 (p.less by_).llo, .int .i64 p.lhi, .int .i64 p.olo, .int .i64 (p.less by_).ohi] 56 (0, 0)) ∧ Below w.heap.size w v) := fun v h =>
        have h2 := hb.trans (h.mono hb.size)
        have h3 := KQ.out v (HW14.out.below.trans (h2.mono HW14.out.below.size))
        ⟨h3.1, h3.2.1, HX14.out.r13.mono h2, HW14.out.r9.mono h2, HW14.out.r10.mono h2, (h.block _ (heap_lt qa)).trans qa, h3.2.2⟩
      clear qa hb a0 a1 a2 a3 a4 d0 d1 d2 d3 d4 e0 e1 e2 e3 e4 k0 k1 k2 k3 k4 j0 j1 j2 j3 j4 HW14 HX14
      revert KD
      generalize (v14.alloc (.cells #[.slice (some ⟨g13, 0, none⟩) p.cards.length k13, .int .i64 p.llo, .int .i64 p.lhi, .int .i64 p.olo, .int .i64 p.ohi, .slice (some ⟨g9, 0, none⟩) p.cards.length k9, .int .i64 p.llo, .int .i64 p.lhi, .int .i64 p.olo, .int .i64 p.ohi, .slice a p.cards.length cap, .int .i64 p.llo, .int .i64 p.lhi, .int .i64 p.olo, .int .i64 p.ohi, .slice (some ⟨g10, 0, none⟩) p.cards.length k10, .int .i64 p.llo, .int .i64 p.lhi, .int .i64 p.olo, .int .i64 p.ohi, .slice a p.cards.length cap, .int .i64 p.llo, .int .i64 p.lhi, .int .i64 p.olo, .int .i64 p.ohi, .slice a p.cards.length cap, .int .i64 (p.less by_).llo, .int .i64 p.lhi, .int .i64 p.olo, .int .i64 (p.less by_).ohi] 56)) = v15
      generalize v14.heap.size = ga
      intro KD
      go_loopw [197] (fun i wr => ∃ (j : Nat), j ≤ 3 ∧ i = .int .i64 j ∧ Hid (Below v15.heap.size v15 wr)) (fun i _ => 3 - (intOf i).toNat)
      case atStart => exact ⟨0, by omega, rfl, Below.refl _ _⟩
      case round =>
        obtain ⟨j, hj, rfl, HB⟩ := hrel
        by_cases hlt : j < 3
        · obtain ⟨X, Y, u0, u1, c0, c1, hX, hY, hc, hn, hvX, hvY, hN⟩ : ∃ (X Y : Prs) (u0 u1 : Option Addr) (c0 c1 : Nat), IsPrts wr u0 X.cards ∧ IsPrts wr u1 Y.cards ∧
              ((wr.cell? ⟨ga, j * 10, none⟩ = some (.slice u0 X.cards.length c0) ∧ wr.cell? ⟨ga, j * 10 + 1, none⟩ = some (.int .i64 X.llo) ∧ wr.cell? ⟨ga, j * 10 + 2, none⟩ = some (.int .i64 X.lhi) ∧ wr.cell? ⟨ga, j * 10 + 3, none⟩ = some (.int .i64 X.olo) ∧ wr.cell? ⟨ga, j * 10 + 4, none⟩ = some (.int .i64 X.ohi)) ∧
                (wr.cell? ⟨ga, j * 10 + 5, none⟩ = some (.slice u1 Y.cards.length c1) ∧ wr.cell? ⟨ga, j * 10 + 6, none⟩ = some (.int .i64 Y.llo) ∧ wr.cell? ⟨ga, j * 10 + 7, none⟩ = some (.int .i64 Y.lhi) ∧ wr.cell? ⟨ga, j * 10 + 8, none⟩ = some (.int .i64 Y.olo) ∧ wr.cell? ⟨ga, j * 10 + 9, none⟩ = some (.int .i64 Y.ohi))) ∧ X.cards.length = p.cards.length ∧ X.valid = true ∧ Y.valid = true ∧ Nar Y X := by
            obtain ⟨_, h1, h13, h9, h10, hg, _⟩ := KD.out wr HB.out
            have z9 : (p.clr dn).cards.length = p.cards.length := by simp [Prs.clr]
            have z8 : ((p.clr dn).mrk dn kn).cards.length = p.cards.length := by simp [Prs.mrk, Prs.clr]
            have z7 : (p.thin by_ kn).cards.length = p.cards.length := by simp [Prs.thin]
            have hkl := HM.out.2.2
            have hj3 : j = 0 ∨ j = 1 ∨ j = 2 := by omega
            rcases hj3 with rfl | rfl | rfl
            · exact ⟨p.clr dn, (p.clr dn).mrk dn kn, _, _, k13, k9, h13.prts, h9.prts, ⟨⟨by rw [cell_of_heap hg, z9]; rfl, by rw [cell_of_heap hg]; rfl, by rw [cell_of_heap hg]; rfl, by rw [cell_of_heap hg]; rfl, by rw [cell_of_heap hg]; rfl⟩, by rw [cell_of_heap hg, z8]; rfl, by rw [cell_of_heap hg]; rfl, by rw [cell_of_heap hg]; rfl, by rw [cell_of_heap hg]; rfl, by rw [cell_of_heap hg]; rfl⟩, z9, clr_valid HV.out dn, mrk_valid (clr_valid HV.out dn) HM.out.2.1 (by rw [z9]; exact hkl), mrk_nar HV.out hkl⟩
            · exact ⟨p, p.thin by_ kn, _, _, cap, k10, h1, h10.prts, ⟨⟨by rw [cell_of_heap hg]; rfl, by rw [cell_of_heap hg]; rfl, by rw [cell_of_heap hg]; rfl, by rw [cell_of_heap hg]; rfl, by rw [cell_of_heap hg]; rfl⟩, by rw [cell_of_heap hg, z7]; rfl, by rw [cell_of_heap hg]; rfl, by rw [cell_of_heap hg]; rfl, by rw [cell_of_heap hg]; rfl, by rw [cell_of_heap hg]; rfl⟩, rfl, HV.out, thin_valid HV.out HWB.out.2.1 hkl, thin_nar HV.out HWB.out.2.1 hkl⟩
            · exact ⟨p, p.less by_, _, _, cap, cap, h1, h1, ⟨⟨by rw [cell_of_heap hg]; rfl, by rw [cell_of_heap hg]; rfl, by rw [cell_of_heap hg]; rfl, by rw [cell_of_heap hg]; rfl, by rw [cell_of_heap hg]; rfl⟩, by rw [cell_of_heap hg]; rfl, by rw [cell_of_heap hg]; rfl, by rw [cell_of_heap hg]; rfl, by rw [cell_of_heap hg]; rfl, by rw [cell_of_heap hg]; rfl⟩, rfl, HV.out, less_valid HV.out HWB.out.2.1, less_nar HV.out HWB.out.2.1⟩
          have HXY := Lib.hid (And.intro hX (And.intro hY (And.intro hc (And.intro hn (And.intro hvX (And.intro hvY hN))))))
          clear hX hY hc hn hvX hvY hN
          refine wp_seq_hid ?_
          intro KL18 HKL18
          go_wp2_with fail
          refine HKL18.out _ _ ?_
          clear HKL18 KL18
          refine wp_seq_hid ?_
          intro KLc HKLc
          go_wp2_with fail
          refine HKLc.out _ _ ?_
          clear HKLc KLc
          refine wp_seq_hid ?_
          intro KLB HKLB
          refine wp_block ?_
          refine more19 (p := p) (a := a) (cap := cap) (bx := w.heap.size) (ga := ga) (j := j) (KD.out wr HB.out).1 HXY.out.1 HXY.out.2.1 HXY.out.2.2.1 HXY.out.2.2.2.1 HXY.out.2.2.2.2.1 HXY.out.2.2.2.2.2.1 HXY.out.2.2.2.2.2.2 hlt ?_
          intro y6 y15 y16 y17 y18 y19 y20 y21 y22 y23 y24 y25 y26 y27 y28 y29 y30 y31 y33 y199 y200 y201 y202 y203 y204 y205 y206 y207 y208 y209 y210 y211 y212 y213 y214 y215 y216 y217 y218 y219 y220 y221 y222 y223 y224 y225 y226 y227 y228 y229 y230 y231 y232 y233 y234 y235 y236 y237 y238 y239 y240 y241 y242 y243 y244 y245 y246 y247 y248 y249 y250 y251 y252 y253 y254 y255 y256 y257 y258 y259 y260 y261 y262 y263 y264 y265 y266 y267 y268 y269 y270 y271 y272 y273 y274 y275 y276 y277 y278 y279 y280 y281 y282 y283 y284 y285 y286 y287 y288 y289 y290 y291 y292 y293 y294 y295 y296 y297 y298 y299 y300 y301 y302 y303 y304 y305 y306 y307 w' hb
          have HEND := Lib.hid (HB.out.trans (hb.mono HB.out.size))
          clear hb HXY
          refine HKLB.out _ _ ?_
          go_wp2_with fail
          go_roundw
          case rel => exact ⟨j + 1, by omega, by go_num, HEND.out⟩
          case measure => simp [intOf]; omega
        · have hje : j = 3 := by omega
          subst hje
          go_wp2_with fail
          refine HK17.out _ _ ?_
          go_wp2_with fail
          refine (alive_any _).mono ?_
          rintro e c1 ⟨rfl, hb⟩
          have HX := Lib.hid (HB.out.trans (hb.mono HB.out.size))
          clear hb
          go_wp2_with fail
          go_ret
          exact ⟨rfl, (KD.out _ HX.out).2.2.2.2.2.2⟩
end Go.Proofs.Ytnfhlbmapfoifaa
