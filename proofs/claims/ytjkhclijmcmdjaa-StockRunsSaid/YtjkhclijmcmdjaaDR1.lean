/- How many sheets are good, what a forme gives: in the program and in the reference. What a forme gives; what a plan costs; in the program and in the reference. What a plan costs; whether a list is a plan, and of which view it gives too few, in the reference; the errors. Of which view a plan gives too few; the reference's Check, Cost, Gives. Rows of spans; the reference's Check, Cost, Gives. -/
import Derived.Test.YtjkhclijmcmdjaaC15
namespace Go.Proofs.Ytjkhclijmcmdjaa
open Go.RowKit
set_option linter.unusedVariables false
set_option linter.unusedSimpArgs false
set_option maxHeartbeats 1000000 in
theorem rgood72 {p : Prs} {A : PrsA} {w : World} (S : Spoil p) {n : Int} (h0 : 0 ≤ n) (h1 : n ≤ 2097152) :
    Calls Try.prog 72 #[p.v A, .int .i64 n] w fun e w' => e = .returned (p.good n).v ∧ Below w.heap.size w w' := by
  have e1 := mul_bd h0 h1 (by have := S.lo; have := S.le; omega : 0 ≤ p.shi) S.hi
  have e2 := mul_bd h0 h1 S.lo (by have := S.le; have := S.hi; omega : p.slo ≤ 50)
  have HX := Lib.hid (alloc2 w (p.arr A) #[.int .i64 0, .int .i64 0] 27 23)
  have w1' : IntKind.i64.wrap (n * p.shi) = n * p.shi := IntWalk.i64_in _ (by omega)
  have w2' : IntKind.i64.wrap (n * p.shi + 99) = n * p.shi + 99 := IntWalk.i64_in _ (by omega)
  have w3' : (n * p.shi + 99).tdiv 100 = (n * p.shi + 99) / 100 := Int.tdiv_eq_ediv_of_nonneg (by omega)
  have w4' : IntKind.i64.wrap ((n * p.shi + 99) / 100) = (n * p.shi + 99) / 100 := IntWalk.i64_in _ (by omega)
  have w5' : IntKind.i64.wrap (n - (n * p.shi + 99) / 100) = n - (n * p.shi + 99) / 100 := IntWalk.i64_in _ (by omega)
  have v1 : IntKind.i64.wrap (n * p.slo) = n * p.slo := IntWalk.i64_in _ (by omega)
  have v3 : (n * p.slo).tdiv 100 = n * p.slo / 100 := Int.tdiv_eq_ediv_of_nonneg (by omega)
  have v4 : IntKind.i64.wrap (n * p.slo / 100) = n * p.slo / 100 := IntWalk.i64_in _ (by omega)
  have v5 : IntKind.i64.wrap (n - n * p.slo / 100) = n - n * p.slo / 100 := IntWalk.i64_in _ (by omega)
  go_enter Try.func72, Try.ntmps72
  refine wp_seq_hid ?_
  intro K0 HK0
  go_wp2_with fail
  refine HK0.out _ _ ?_
  clear HK0 K0
  revert HX
  generalize (w.alloc (.cells (p.arr A) 27)).alloc (.cells #[.int .i64 0, .int .i64 0] 23) = W1
  generalize hbx : w.heap.size + 1 = bx
  generalize hbp : w.heap.size = bp
  intro HX
  have pc := prs_cells HX.out.1
  have y2 := pc.c2
  have y3 := pc.c3
  have x0 : W1.cell? ⟨bx, 0, none⟩ = some (.int .i64 0) := by rw [cell_of_heap HX.out.2.1]; rfl
  have x1 : W1.cell? ⟨bx, 1, none⟩ = some (.int .i64 0) := by rw [cell_of_heap HX.out.2.1]; rfl
  have f0 : ∀ k, W1.frozen? ⟨bx, k, none⟩ = false := fun k => frozen_of_heap HX.out.2.1
  clear pc
  go_wp2_with fail
  have h4 := heap_setCell_at (k := 1) (heap_setCell_at (k := 0) HX.out.2.1 (.int .i64 (n - (n * p.shi + 99) / 100))) (.int .i64 (n - n * p.slo / 100))
  refine bodyPost_ret (v := (p.good n).v) (by
    have c0 : ((W1.setCell ⟨bx, 0, none⟩ (.int .i64 (n - (n * p.shi + 99) / 100))).setCell ⟨bx, 1, none⟩ (.int .i64 (n - n * p.slo / 100))).cell? ⟨bx, 0, none⟩ = some (.int .i64 (n - (n * p.shi + 99) / 100)) := by rw [cell_of_heap h4]; rfl
    have c1 : ((W1.setCell ⟨bx, 0, none⟩ (.int .i64 (n - (n * p.shi + 99) / 100))).setCell ⟨bx, 1, none⟩ (.int .i64 (n - n * p.slo / 100))).cell? ⟨bx, 1, none⟩ = some (.int .i64 (n - n * p.slo / 100)) := by rw [cell_of_heap h4]; rfl
    show _ = Result.ok (Value.agg #[.int .i64 (n - (n * p.shi + 99) / 100), .int .i64 (n - n * p.slo / 100)]) _
    simp [results, Try.results72, c0, c1, go_sem]) rfl ⟨rfl, ?_⟩
  exact (HX.out.2.2.setCell (p := ⟨bx, _, none⟩) (by show bp ≤ bx; omega) _).setCell (p := ⟨bx, _, none⟩) (by show bp ≤ bx; omega) _
end Go.Proofs.Ytjkhclijmcmdjaa
namespace Go.Proofs.Ytjkhclijmcmdjaa
open Go.RowKit
set_option linter.unusedVariables false
set_option linter.unusedSimpArgs false
set_option maxHeartbeats 2000000 in
theorem rgives48 {p : Prs} {A : PrsA} {f : Fme} {a : Option Addr} {c v : Nat} {w : World} (S : Spoil p) (hf : IsInts w a f.slots) (F : FmeR f v) :
    Calls Try.prog 48 #[p.v A, f.v a c, .int .i64 v] w fun e w' => e = .returned (p.gives f v).v ∧ Below w.heap.size w w' := by
  have HX := Lib.hid (alloc3 w (p.arr A) (f.arr a c) #[.int .i64 0, .int .i64 0] 27 29 23)
  have HP := Lib.hid (hf.mono (alloc3 w (p.arr A) (f.arr a c) #[.int .i64 0, .int .i64 0] 27 29 23).2.2.2)
  have hbd := gives_bd S F
  have hlt := F.lt
  obtain ⟨t0, t1⟩ := F.times
  have HS := Lib.hid S
  clear hf F S
  go_enter Try.func48, Try.ntmps48
  refine wp_seq_hid ?_
  intro K0 HK0
  go_wp2_with fail
  refine HK0.out _ _ ?_
  clear HK0 K0
  revert HX HP
  generalize ((w.alloc (.cells (p.arr A) 27)).alloc (.cells (f.arr a c) 29)).alloc (.cells #[.int .i64 0, .int .i64 0] 23) = w1
  generalize hbx : w.heap.size + 2 = bx
  generalize hbf : w.heap.size + 1 = bf
  generalize hb0 : w.heap.size = b0
  intro HX HP
  have x1 : w1.cell? ⟨bf, 1, none⟩ = some (.int .i64 f.times) := by rw [cell_of_heap HX.out.2.1]; rfl
  obtain ⟨k0, k1, k2, k3, k4, k5, k6, k7, k8, k9⟩ := prs_cells HX.out.1
  have HBB : Hid (b0 ≤ bf ∧ b0 ≤ bx) := by show b0 ≤ bf ∧ b0 ≤ bx; omega
  clear hbx hbf
  refine wp_seq_hid ?_
  intro K1 HK1
  go_wp2_with fail
  refine (rgood72 HS.out t0 (by omega)).mono ?_
  rintro e w2 ⟨rfl, hb⟩
  have HB := Lib.hid hb
  clear hb x1 k0 k1 k2 k3 k4 k5 k6 k7 k8 k9
  have HGV := Lib.hid (gives_eq p f v)
  obtain ⟨g, hg⟩ : ∃ g, p.good f.times = g := ⟨_, rfl⟩
  rw [hg] at hbd HGV
  rw [hg]
  clear hg
  go_wp2_with fail
  have hn := World.alloc_heap_new w2 (.cells g.arr 23)
  have hbn : Below w2.heap.size w2 (w2.alloc (.cells g.arr 23)) := (Below.refl _ _).alloc (Nat.le_refl _) _
  have HB3 := Lib.hid (HB.out.trans (hbn.mono HB.out.size))
  have HN := Lib.hid hn
  clear hn hbn
  revert HB3 HN
  generalize (w2.alloc (.cells g.arr 23)) = w3
  generalize w2.heap.size = bg
  intro HB3 HN
  refine HK1.out _ _ ?_
  clear HK1 K1
  have hq0 := (HB3.out.block _ (heap_lt HX.out.2.1)).trans HX.out.2.1
  have hq1 := (HB3.out.block _ (heap_lt HX.out.2.2.1)).trans HX.out.2.2.1
  have HQ := Lib.hid hq1
  have x0 : w3.cell? ⟨bf, 0, none⟩ = some (.slice a f.slots.length c) := by rw [cell_of_heap hq0]; rfl
  have g0 : w3.cell? ⟨bg, 0, none⟩ = some (.int .i64 g.lo) := by rw [cell_of_heap HN.out]; rfl
  have g1 : w3.cell? ⟨bg, 1, none⟩ = some (.int .i64 g.hi) := by rw [cell_of_heap HN.out]; rfl
  obtain ⟨ab, ao, hab, hcell⟩ := (HP.out.mono HB3.out) v hlt
  subst hab
  have y0 := fun y : Aft w3.heap.size w3 => cell_stays y.h x0
  have y1 := fun y : Aft w3.heap.size w3 => cell_stays y.h g0
  have y2 := fun y : Aft w3.heap.size w3 => cell_stays y.h g1
  have yc := fun y : Aft w3.heap.size w3 => cell_stays y.h hcell
  clear x0 g0 g1 hcell hq0 hq1
  obtain ⟨s, hs⟩ : ∃ s, gi f.slots v = s := ⟨_, rfl⟩
  rw [hs] at hbd HGV yc
  clear hs
  have v1 : IntKind.i64.wrap (s * g.lo) = s * g.lo := IntWalk.i64_in _ (by omega)
  have v2 : IntKind.i64.wrap (s * g.hi) = s * g.hi := IntWalk.i64_in _ (by omega)
  refine wp_seq_hid ?_
  intro K2 HK2
  refine wp_region_aft_tail 17 mixed (by kernel_rfl) ?_
  simp only [List.take_succ_cons, List.take_zero, List.drop_succ_cons, List.drop_zero]
  repeat (go_big_quiet_step (fail))
  refine wpQuiet_nil ?_
  rintro _ ⟨y, rfl⟩
  have hq := (y.h.block _ (heap_lt HQ.out)).trans HQ.out
  have x0 : y.v.cell? ⟨bx, 0, none⟩ = some (.int .i64 0) := by rw [cell_of_heap hq]; rfl
  have x1 : y.v.cell? ⟨bx, 1, none⟩ = some (.int .i64 0) := by rw [cell_of_heap hq]; rfl
  have f0 : ∀ k, y.v.frozen? ⟨bx, k, none⟩ = false := fun k => frozen_of_heap hq
  have HQ2 := Lib.hid hq
  clear hq y0 y1 y2 yc
  go_wp2_with fail
  refine HK2.out _ _ ?_
  clear x0 x1 f0
  have h4 := heap_setCell_at (k := 1) (heap_setCell_at (k := 0) HQ2.out (.int .i64 (s * g.lo))) (.int .i64 (s * g.hi))
  refine wp_ret ?_
  refine bodyPost_ret (v := .agg #[.int .i64 (s * g.lo), .int .i64 (s * g.hi)]) (res_spn rfl _ rfl (by rw [cell_of_heap h4]; rfl) (by rw [cell_of_heap h4]; rfl)) rfl ⟨by rw [HGV.out], ?_⟩
  have hs1 := HX.out.2.2.2.size
  have hs2 := HB3.out.size
  have hbw : Below b0 w y.v := HX.out.2.2.2.trans ((HB3.out.trans (y.h.mono hs2)).mono (by omega))
  exact (hbw.setCell (p := ⟨bx, _, none⟩) HBB.out.2 _).setCell (p := ⟨bx, _, none⟩) HBB.out.2 _
end Go.Proofs.Ytjkhclijmcmdjaa
namespace Go.Proofs.Ytjkhclijmcmdjaa
open Go.RowKit
set_option linter.unusedVariables false
set_option linter.unusedSimpArgs false
set_option maxHeartbeats 2000000 in
theorem rcost52 {p : Prs} {A : PrsA} {l : List Fme} {a : Option Addr} {c : Nat} {w : World} (ha : IsFmes w a l) (C : CostR p l) :
    Calls Try.prog 52 #[p.v A, .slice a l.length c] w fun e w' => e = .returned (.int .i64 (p.cost l)) ∧ Below w.heap.size w w' := by
  have hb0 : Below w.heap.size w (w.alloc (.cells (p.arr A) 27)) := (Below.refl _ w).alloc (Nat.le_refl _) _
  have q0 := World.alloc_heap_new w (.cells (p.arr A) 27)
  have HX := Lib.hid (And.intro q0 (And.intro hb0 (ha.mono hb0)))
  have HC := Lib.hid C
  have hl := C.len
  obtain ⟨mk0, mk1⟩ := C.make
  clear hb0 q0 ha C
  go_enter Try.func52, Try.ntmps52
  refine wp_seq_hid ?_
  intro K0 HK0
  go_wp2_with fail
  refine HK0.out _ _ ?_
  clear HK0 K0
  revert HX
  generalize w.alloc (.cells (p.arr A) 27) = w1
  generalize w.heap.size = bp
  intro HX
  have HPC := Lib.hid (prs_cells HX.out.1)
  go_wp2_with fail
  go_loopw [5, 6] (fun n i wr => ∃ k : Nat, k ≤ l.length ∧ i = .int .i64 k ∧ n = .int .i64 (p.cost (l.take k)) ∧ Hid (Below w1.heap.size w1 wr)) (fun _ i _ => l.length - (intOf i).toNat)
  case atStart => exact ⟨0, by omega, rfl, rfl, Below.refl _ _⟩
  case round =>
    obtain ⟨k, hk, rfl, rfl, HW⟩ := hrel
    by_cases hlt : k < l.length
    · obtain ⟨b, off, hab, ai, ci, c0, c1, c6⟩ := (HX.out.2.2.mono HW.out) k hlt
      subst hab
      have h1 := HC.out.part k hk
      obtain ⟨h2, h3, h4⟩ := HC.out.one hlt
      have HT := Lib.hid (cost_take (p := p) hlt)
      clear c6 c0
      revert HT h1 h2 h3 h4 c1
      generalize p.cost (l.take k) = n
      generalize gf l k = f
      intro c1 h1 h2 h3 h4 HT
      go_upto_region 5 with fail
      have pc := HPC.out.mono HW.out
      have y4 := fun y : Aft wr.heap.size wr => cell_stays y.h pc.c4
      have y5 := fun y : Aft wr.heap.size wr => cell_stays y.h pc.c5
      have z1 := fun y : Aft wr.heap.size wr => cell_stays y.h c1
      clear pc c1
      obtain ⟨z, hz⟩ : ∃ z, p.sheet * f.times = z := ⟨_, rfl⟩
      rw [hz] at h3 h4
      have v1 : IntKind.i64.wrap (p.sheet * f.times) = z := by rw [hz]; exact IntWalk.i64_in _ (by omega)
      have v2 : IntKind.i64.wrap (n + p.make) = n + p.make := IntWalk.i64_in _ (by omega)
      have v3 : IntKind.i64.wrap (n + p.make + z) = n + p.make + z := IntWalk.i64_in _ (by omega)
      have HZ := Lib.hid hz
      clear hz
      refine wp_region_aft mixed (by kernel_rfl) ?_
      repeat (go_big_quiet_step (fail))
      refine wpQuiet_nil ?_
      rintro _ ⟨y, rfl⟩
      have HB2 := Lib.hid (HW.out.trans (y.h.mono HW.out.size))
      clear y4 y5 z1 v1 v2 v3
      go_wp2_with fail
      go_roundw
      case rel => exact ⟨k + 1, by omega, by go_num, by rw [HT.out, HZ.out, Int.add_assoc], HB2.out⟩
      case measure => simp [intOf]; omega
    · have hke : l.take k = l := List.take_of_length_le (by omega)
      rw [hke]
      clear hke
      go_wp2_with fail
      go_ret
      exact ⟨rfl, HX.out.2.1.trans (HW.out.mono (Nat.le_of_lt (heap_lt HX.out.1)))⟩
set_option maxHeartbeats 1000000 in
theorem rcheck46 {p : Prs} {A : PrsA} {w : World} (hP : IsPrs w p A) (hS : p.Small) (ok : Bool) :
    Calls Try.prog 46 #[p.v A, .bool ok] w fun e w' => e = .returned (.int .i64 (p.openE ok)) ∧ Below w.heap.size w w' := by
  have hb0 : Below w.heap.size w (w.alloc (.cells (p.arr A) 27)) := (Below.refl _ w).alloc (Nat.le_refl _) _
  have q0 := World.alloc_heap_new w (.cells (p.arr A) 27)
  have HX := Lib.hid (And.intro q0 hb0)
  have HC := Lib.hid (rpress33 (hP.mono hb0) hS)
  have HV : Hid (p.openE ok = if !p.valid then 1 else if !ok then 2 else 0) := rfl
  clear hb0 q0 hP hS
  go_enter Try.func46, Try.ntmps46
  refine wp_seq_hid ?_
  intro K0 HK0
  go_wp2_with fail
  refine HK0.out _ _ ?_
  clear HK0 K0
  revert HX HC
  generalize w.alloc (.cells (p.arr A) 27) = w1
  generalize w.heap.size = bp
  intro HX HC
  obtain ⟨m0, m1, m2, m3, m4, m5, m6, m7, m8, m9⟩ := prs_cells HX.out.1
  obtain ⟨v, hv⟩ : ∃ v, p.valid = v := ⟨_, rfl⟩
  rw [hv] at HC HV
  clear hv
  cases v <;> cases ok
  all_goals
    go_wp2_with fail
    refine HC.out.mono ?_
    rintro e w2 ⟨rfl, hb⟩
    have HB := Lib.hid (HX.out.2.trans (hb.mono (Nat.le_of_lt (heap_lt HX.out.1))))
    clear hb m0 m1 m2 m3 m4 m5 m6 m7 m8 m9
    go_wp2_with fail
    go_ret
    exact ⟨ret_int (by rw [HV.out]; rfl), HB.out⟩
end Go.Proofs.Ytjkhclijmcmdjaa
namespace Go.Proofs.Ytjkhclijmcmdjaa
open Go.RowKit
set_option linter.unusedVariables false
set_option linter.unusedSimpArgs false
/-- A press's cells, in each world behind. -/
structure PrsY (w : World) (b : Nat) (p : Prs) (A : PrsA) : Prop where
  y0 : ∀ y : Aft w.heap.size w, y.v.cell? ⟨b, 0, none⟩ = some (.int .i64 p.room)
  y1 : ∀ y : Aft w.heap.size w, y.v.cell? ⟨b, 1, none⟩ = some (.int .i64 p.formes)
  y2 : ∀ y : Aft w.heap.size w, y.v.cell? ⟨b, 2, none⟩ = some (.int .i64 p.slo)
  y3 : ∀ y : Aft w.heap.size w, y.v.cell? ⟨b, 3, none⟩ = some (.int .i64 p.shi)
  y4 : ∀ y : Aft w.heap.size w, y.v.cell? ⟨b, 4, none⟩ = some (.int .i64 p.make)
  y5 : ∀ y : Aft w.heap.size w, y.v.cell? ⟨b, 5, none⟩ = some (.int .i64 p.sheet)
  y6 : ∀ y : Aft w.heap.size w, y.v.cell? ⟨b, 6, none⟩ = some (.slice A.aw p.wanted.length A.cw)
  y7 : ∀ y : Aft w.heap.size w, y.v.cell? ⟨b, 7, none⟩ = some (.int .i64 p.paper)
  y8 : ∀ y : Aft w.heap.size w, y.v.cell? ⟨b, 8, none⟩ = some (.int .i64 p.money)
  y9 : ∀ y : Aft w.heap.size w, y.v.cell? ⟨b, 9, none⟩ = some (.slice A.ad p.deals.length A.cd)
theorem prs_aft {w : World} {b : Nat} {p : Prs} {A : PrsA} (h : PrsC w b p A) : PrsY w b p A :=
  ⟨fun y => cell_stays y.h h.c0, fun y => cell_stays y.h h.c1, fun y => cell_stays y.h h.c2, fun y => cell_stays y.h h.c3, fun y => cell_stays y.h h.c4, fun y => cell_stays y.h h.c5, fun y => cell_stays y.h h.c6, fun y => cell_stays y.h h.c7, fun y => cell_stays y.h h.c8, fun y => cell_stays y.h h.c9⟩
def fewV (p : Prs) (l : List Fme) : Int := match p.few l with
  | some v => (v : Int)
  | none => -1
set_option maxHeartbeats 4000000 in
theorem rfew50 {p : Prs} {A : PrsA} {l : List Fme} {a : Option Addr} {c : Nat} {w : World} (hP : IsPrs w p A) (S : Spoil p) (hw : p.wanted.length ≤ 20) (ha : IsFmes w a l) (R : PlanR p l) :
    Calls Try.prog 50 #[p.v A, .slice a l.length c] w fun e w' => e = .returned (.int .i64 (fewV p l)) ∧ Below w.heap.size w w' := by
  have hb0 : Below w.heap.size w (w.alloc (.cells (p.arr A) 27)) := (Below.refl _ w).alloc (Nat.le_refl _) _
  have q0 := World.alloc_heap_new w (.cells (p.arr A) 27)
  have HX := Lib.hid (And.intro q0 (And.intro hb0 (And.intro (hP.mono hb0) (ha.mono hb0))))
  have HR := Lib.hid (And.intro R S)
  have hl := R.len
  clear hb0 q0 ha hP R S
  go_enter Try.func50, Try.ntmps50
  refine wp_seq_hid ?_
  intro K0 HK0
  go_wp2_with fail
  refine HK0.out _ _ ?_
  clear HK0 K0
  revert HX
  generalize w.alloc (.cells (p.arr A) 27) = w1
  generalize w.heap.size = bp
  intro HX
  have HPC := Lib.hid (prs_cells HX.out.1)
  refine wp_seq_hid ?_
  intro K1 HK1
  have z6 := HPC.out.c6
  go_wp2_with fail
  go_loopw [5] (fun i wr => ∃ v : Nat, v ≤ p.wanted.length ∧ i = .int .i64 v ∧ Hid (∀ u, u < v → gi p.wanted u ≤ p.least l u) ∧ Hid (Below w1.heap.size w1 wr)) (fun i _ => p.wanted.length - (intOf i).toNat)
  case atStart => exact ⟨0, by omega, rfl, fun u hu => by omega, Below.refl _ _⟩
  case round =>
    obtain ⟨v, hv, rfl, HU, HB⟩ := hrel
    have z6' := cell_stays HB.out z6
    clear z6
    by_cases hlt : v < p.wanted.length
    · go_wp2_with fail
      clear z6'
      go_loopw [6, 7] (fun n i wr => ∃ k : Nat, k ≤ l.length ∧ i = .int .i64 k ∧ n = .int .i64 (p.least (l.take k) v) ∧ Hid (Below w1.heap.size w1 wr)) (fun _ i _ => l.length - (intOf i).toNat)
      case atStart => exact ⟨0, by omega, rfl, rfl, HB.out⟩
      case round =>
        obtain ⟨k, hk, rfl, rfl, HW⟩ := hrel
        by_cases hlk : k < l.length
        · obtain ⟨b, off, hab, ai, ci, c0, c1, c6⟩ := (HX.out.2.2.2.mono HW.out) k hlk
          subst hab
          have h1 := HR.out.1.part HR.out.2 hlt k hk
          have hF := HR.out.1.fme hlk hlt
          have h2 := gives_bd HR.out.2 hF
          have HT := Lib.hid (least_take (p := p) hlk v)
          have HC := Lib.hid (fun y : Aft wr.heap.size wr => rgives48 (p := p) (A := A) (c := ci) HR.out.2 (c6.mono y.h) hF)
          have HGE := gives_eq p (gf l k) v
          rw [HGE] at HC
          clear hF HGE c6
          revert HT h1 h2 HC c0 c1
          generalize p.least (l.take k) v = n
          generalize gi (gf l k).slots v * (p.good (gf l k).times).lo = z
          generalize gi (gf l k).slots v * (p.good (gf l k).times).hi = z'
          generalize gf l k = f
          intro c0 c1 h1 h2 HT HC
          have HC2 : Hid (∀ y : Aft wr.heap.size wr, Calls Try.prog 48 #[p.v A, f.v ai ci, .int .i64 v] y.v fun e w' => e = .returned (.agg #[.int .i64 z, .int .i64 z']) ∧ Below y.v.heap.size y.v w') := HC.out
          clear HC
          obtain ⟨y0, y1, y2, y3, y4, y5, y6, y7, y8, y9⟩ := prs_aft (HPC.out.mono HW.out)
          have x0 := fun y : Aft wr.heap.size wr => cell_stays y.h c0
          have x1 := fun y : Aft wr.heap.size wr => cell_stays y.h c1
          clear c0 c1
          have v1 : IntKind.i64.wrap (n + z) = n + z := IntWalk.i64_in _ (by omega)
          have hfd := field23 z z'
          go_upto_region 8 with fail
          refine wp_region_aft mixed (by kernel_rfl) ?_
          repeat (go_big_quiet_step ((go_at_call 48; exact calls_aft (HC2.out _))))
          refine wpQuiet_nil ?_
          rintro _ ⟨y, rfl⟩
          have HB2 := Lib.hid (HW.out.trans (y.h.mono HW.out.size))
          clear y0 y1 y2 y3 y4 y5 y6 y7 y8 y9 x0 x1 v1 hfd
          go_wp2_with fail
          go_roundw
          case rel => exact ⟨k + 1, by omega, by go_num, by rw [HT.out], HB2.out⟩
          case measure => simp [intOf]; omega
        · have hke : l.take k = l := List.take_of_length_le (by omega)
          rw [hke]
          clear hke
          have z6 := (HPC.out.mono HW.out).c6
          obtain ⟨b, off, hab, hcell⟩ := (HX.out.2.2.1.wanted.mono HW.out) v hlt
          rw [hab] at z6
          have HAB := Lib.hid hab
          clear hab
          by_cases hfw : p.least l v < gi p.wanted v
          · have HF := Lib.hid (few_some hlt hfw HU.out)
            have hd : decide (p.least l v < gi p.wanted v) = true := by simpa using hfw
            clear hfw
            revert hd hcell
            generalize p.least l v = n
            generalize gi p.wanted v = x
            intro hcell hd
            go_wp2_with fail
            go_ret
            exact ⟨ret_int (by unfold fewV; rw [HF.out]), HX.out.2.1.trans (HW.out.mono (Nat.le_of_lt (heap_lt HX.out.1)))⟩
          · have HF := Lib.hid hfw
            have hd : decide (p.least l v < gi p.wanted v) = false := by simpa using hfw
            clear hfw
            have HU2 : Hid (∀ u, u < v + 1 → gi p.wanted u ≤ p.least l u) := fun u hu => by
              by_cases e : u = v
              · subst e; exact Int.not_lt.1 HF.out
              · exact HU.out u (by omega)
            revert hd hcell
            generalize p.least l v = n
            generalize gi p.wanted v = x
            intro hcell hd
            go_wp2_with fail
            go_roundw
            case rel => exact ⟨v + 1, by omega, by go_num, HU2.out, HW.out⟩
            case measure => simp [intOf]; omega
    · have HF : Hid (p.few l = none) := few_none (fun u hu => HU.out u (by omega))
      go_wp2_with fail
      refine HK1.out _ _ ?_
      go_wp2_with fail
      go_ret
      exact ⟨ret_int (by unfold fewV; rw [HF.out]), HX.out.2.1.trans (HB.out.mono (Nat.le_of_lt (heap_lt HX.out.1)))⟩
end Go.Proofs.Ytjkhclijmcmdjaa
namespace Go.Proofs.Ytjkhclijmcmdjaa
open Go.RowKit
set_option linter.unusedVariables false
set_option linter.unusedSimpArgs false
theorem openE_zero {p : Prs} {ok : Bool} (h : p.openE ok = 0) : p.valid = true ∧ ok = true := by
  unfold Prs.openE at h
  cases hv : p.valid
  · rw [hv] at h; simp at h
  · rw [hv] at h
    cases ok
    · simp at h
    · exact ⟨rfl, rfl⟩
set_option maxHeartbeats 2000000 in
theorem rcost20 {p : Prs} {A : PrsA} {l : List Fme} {a : Option Addr} {c : Nat} {w : World} (hP : IsPrs w p A) (hS : p.Small) (ha : IsFmes w a l) (hl : l.length ≤ 1000) (hs : ∀ f ∈ l, f.slots.length ≤ 1000) :
    Calls Try.prog 20 #[p.v A, .slice a l.length c] w fun e w' => e = .returned (.tuple #[.int .i64 (costE p l).1, .int .i64 (costE p l).2]) ∧ Below w.heap.size w w' := by
  have hb0 : Below w.heap.size w (w.alloc (.cells (p.arr A) 27)) := (Below.refl _ w).alloc (Nat.le_refl _) _
  have q0 := World.alloc_heap_new w (.cells (p.arr A) 27)
  have HX := Lib.hid (And.intro q0 (And.intro hb0 (And.intro (hP.mono hb0) (ha.mono hb0))))
  have HS := Lib.hid (And.intro hS hs)
  clear hb0 q0 hP ha hS hs
  go_enter Try.func20, Try.ntmps20
  refine wp_seq_hid ?_
  intro K0 HK0
  go_wp2_with fail
  refine HK0.out _ _ ?_
  clear HK0 K0
  revert HX
  generalize w.alloc (.cells (p.arr A) 27) = w1
  generalize w.heap.size = bp
  intro HX
  obtain ⟨y0, y1, y2, y3, y4, y5, y6, y7, y8, y9⟩ := prs_aft (prs_cells HX.out.1)
  have C34 := Lib.hid (fun y : Aft w1.heap.size w1 => rplan34 (p := p) (A := A) (c := c) (HX.out.2.2.2.mono y.h) hl HS.out.2)
  have C46 := Lib.hid (fun y : Aft w1.heap.size w1 => rcheck46 (HX.out.2.2.1.mono y.h) HS.out.1 (planOk p l))
  refine wp_seq_hid ?_
  intro K1 HK1
  refine wp_region_aft mixed (by kernel_rfl) ?_
  repeat (go_big_quiet_step (first | (go_at_call 34; exact calls_aft (C34.out _)) | (go_at_call 46; exact calls_aft (C46.out _))))
  refine wpQuiet_nil ?_
  rintro _ ⟨y, rfl⟩
  refine HK1.out _ _ ?_
  have HB := Lib.hid (HX.out.2.1.trans (y.h.mono (Nat.le_of_lt (heap_lt HX.out.1))))
  have HF := Lib.hid (HX.out.2.2.2.mono y.h)
  obtain ⟨m0, m1, m2, m3, m4, m5, m6, m7, m8, m9⟩ := (prs_cells HX.out.1).mono y.h
  clear y0 y1 y2 y3 y4 y5 y6 y7 y8 y9 C34 C46 HK1 K1
  by_cases h0 : p.openE (planOk p l) = 0
  · have HE : Hid (costE p l = (p.cost l, 0)) := by show costE p l = _; unfold costE; simp only; rw [if_pos h0]
    obtain ⟨hv, hp⟩ := openE_zero h0
    have C52 := Lib.hid (rcost52 (p := p) (A := A) (c := c) HF.out (costR_of hv hp))
    rw [h0]
    clear h0 hv hp
    go_wp2_with fail
    refine C52.out.mono ?_
    rintro e w3 ⟨rfl, hb⟩
    have hsz := HB.out.size
    have hlt := y.h.size
    have hl1 := heap_lt HX.out.1
    have HB3 := Lib.hid (HB.out.trans (hb.mono (by omega)))
    clear hb m0 m1 m2 m3 m4 m5 m6 m7 m8 m9 hsz hlt hl1
    go_wp2_with fail
    go_ret2
    exact ⟨by rw [HE.out]; rfl, HB3.out⟩
  · have HE : Hid (costE p l = (0, p.openE (planOk p l))) := by show costE p l = _; unfold costE; simp only; rw [if_neg h0]
    revert HE
    generalize p.openE (planOk p l) = E at h0
    intro HE
    have hb : (E != 0) = true := by simpa using h0
    clear h0
    go_wp2_with fail
    go_ret2
    exact ⟨by rw [HE.out]; rfl, HB.out⟩
set_option maxHeartbeats 2000000 in
theorem rcheck18 {p : Prs} {A : PrsA} {l : List Fme} {a : Option Addr} {c : Nat} {w : World} (hP : IsPrs w p A) (hS : p.Small) (ha : IsFmes w a l) (hl : l.length ≤ 1000) (hs : ∀ f ∈ l, f.slots.length ≤ 1000) :
    Calls Try.prog 18 #[p.v A, .slice a l.length c] w fun e w' => e = .returned (.tuple #[.int .i64 (checkE p l).1, .int .i64 (checkE p l).2]) ∧ Below w.heap.size w w' := by
  have hb0 : Below w.heap.size w (w.alloc (.cells (p.arr A) 27)) := (Below.refl _ w).alloc (Nat.le_refl _) _
  have q0 := World.alloc_heap_new w (.cells (p.arr A) 27)
  have HX := Lib.hid (And.intro q0 (And.intro hb0 (And.intro (hP.mono hb0) (ha.mono hb0))))
  have HS := Lib.hid (And.intro hS hs)
  have hw20 := hS.wanted
  clear hb0 q0 hP ha hS hs
  go_enter Try.func18, Try.ntmps18
  refine wp_seq_hid ?_
  intro K0 HK0
  go_wp2_with fail
  refine HK0.out _ _ ?_
  clear HK0 K0
  revert HX
  generalize w.alloc (.cells (p.arr A) 27) = w1
  generalize w.heap.size = bp
  intro HX
  obtain ⟨y0, y1, y2, y3, y4, y5, y6, y7, y8, y9⟩ := prs_aft (prs_cells HX.out.1)
  have C34 := Lib.hid (fun y : Aft w1.heap.size w1 => rplan34 (p := p) (A := A) (c := c) (HX.out.2.2.2.mono y.h) hl HS.out.2)
  have C46 := Lib.hid (fun y : Aft w1.heap.size w1 => rcheck46 (HX.out.2.2.1.mono y.h) HS.out.1 (planOk p l))
  refine wp_seq_hid ?_
  intro K1 HK1
  refine wp_region_aft mixed (by kernel_rfl) ?_
  repeat (go_big_quiet_step (first | (go_at_call 34; exact calls_aft (C34.out _)) | (go_at_call 46; exact calls_aft (C46.out _))))
  refine wpQuiet_nil ?_
  rintro _ ⟨y, rfl⟩
  refine HK1.out _ _ ?_
  have HB := Lib.hid (HX.out.2.1.trans (y.h.mono (Nat.le_of_lt (heap_lt HX.out.1))))
  have HF := Lib.hid (And.intro (HX.out.2.2.2.mono y.h) (HX.out.2.2.1.mono y.h))
  obtain ⟨m0, m1, m2, m3, m4, m5, m6, m7, m8, m9⟩ := (prs_cells HX.out.1).mono y.h
  clear y0 y1 y2 y3 y4 y5 y6 y7 y8 y9 C34 C46 HK1 K1
  by_cases h0 : p.openE (planOk p l) = 0
  · obtain ⟨hv, hp⟩ := openE_zero h0
    have C50 := rfew50 (p := p) (A := A) (c := c) HF.out.2 (spoil_of hv) hw20 HF.out.1 (planR_of hv hp)
    have HFW : Hid (fewV p l = match p.few l with | some v => (v : Int) | none => -1) := rfl
    have HE : Hid (checkE p l = match p.few l with | some v => ((v : Int), 10) | none => (0, 0)) := by show checkE p l = _; unfold checkE; simp only; rw [if_pos h0]; cases p.few l <;> rfl
    rw [h0]
    clear h0 hv hp
    cases hf : p.few l with
    | some v =>
      have hc : fewV p l = (v : Int) := by rw [HFW.out, hf]
      rw [hc] at C50
      rw [hf] at HE
      have H50 := Lib.hid C50
      clear hc C50 hf HFW
      go_wp2_with fail
      refine H50.out.mono ?_
      rintro e w3 ⟨rfl, hb⟩
      have hsz := HB.out.size
      have hlt := y.h.size
      have hl1 := heap_lt HX.out.1
      have HB3 := Lib.hid (HB.out.trans (hb.mono (by omega)))
      clear hb m0 m1 m2 m3 m4 m5 m6 m7 m8 m9 hsz hlt hl1
      go_wp2_with fail
      go_ret2
      exact ⟨by rw [HE.out]; rfl, HB3.out⟩
    | none =>
      have hc : fewV p l = -1 := by rw [HFW.out, hf]
      rw [hc] at C50
      rw [hf] at HE
      have H50 := Lib.hid C50
      clear hc C50 hf HFW
      go_wp2_with fail
      refine H50.out.mono ?_
      rintro e w3 ⟨rfl, hb⟩
      have hsz := HB.out.size
      have hlt := y.h.size
      have hl1 := heap_lt HX.out.1
      have HB3 := Lib.hid (HB.out.trans (hb.mono (by omega)))
      clear hb m0 m1 m2 m3 m4 m5 m6 m7 m8 m9 hsz hlt hl1
      go_wp2_with fail
      go_ret2
      exact ⟨by rw [HE.out]; rfl, HB3.out⟩
  · have HE : Hid (checkE p l = (0, p.openE (planOk p l))) := by show checkE p l = _; unfold checkE; simp only; rw [if_neg h0]
    revert HE
    generalize p.openE (planOk p l) = E at h0
    intro HE
    have hb : (E != 0) = true := by simpa using h0
    clear h0
    go_wp2_with fail
    go_ret2
    exact ⟨by rw [HE.out]; rfl, HB.out⟩
set_option maxHeartbeats 4000000 in
theorem rgives16 {p : Prs} {A : PrsA} {f : Fme} {a : Option Addr} {c : Nat} {w : World} (hP : IsPrs w p A) (hS : p.Small) (hf : IsInts w a f.slots) (hl : f.slots.length ≤ 1000) :
    Calls Try.prog 16 #[p.v A, f.v a c] w fun e w' => ∃ av cv, e = .returned (.tuple #[.slice av (givesE p f).1.length cv, .int .i64 (givesE p f).2]) ∧ IsSpns w' av (givesE p f).1 ∧ Below w.heap.size w w' := by
  have HX := Lib.hid (alloc2 w (p.arr A) (f.arr a c) 27 29)
  have HF := Lib.hid (And.intro (hP.mono (alloc2 w (p.arr A) (f.arr a c) 27 29).2.2) (hf.mono (alloc2 w (p.arr A) (f.arr a c) 27 29).2.2))
  have HS := Lib.hid hS
  have hw20 := hS.wanted
  clear hP hf hS
  go_enter Try.func16, Try.ntmps16
  refine wp_seq_hid ?_
  intro K0 HK0
  go_wp2_with fail
  refine HK0.out _ _ ?_
  clear HK0 K0
  revert HX HF
  generalize (w.alloc (.cells (p.arr A) 27)).alloc (.cells (f.arr a c) 29) = w1
  generalize hbf : w.heap.size + 1 = bf
  generalize hbp : w.heap.size = bp
  intro HX HF
  clear hbf hbp
  have x0 : w1.cell? ⟨bf, 0, none⟩ = some (.slice a f.slots.length c) := by rw [cell_of_heap HX.out.2.1]; rfl
  have x1 : w1.cell? ⟨bf, 1, none⟩ = some (.int .i64 f.times) := by rw [cell_of_heap HX.out.2.1]; rfl
  have z0 := fun y : Aft w1.heap.size w1 => cell_stays y.h x0
  have z1 := fun y : Aft w1.heap.size w1 => cell_stays y.h x1
  obtain ⟨y0, y1, y2, y3, y4, y5, y6, y7, y8, y9⟩ := prs_aft (prs_cells HX.out.1)
  have C47 := Lib.hid (fun y : Aft w1.heap.size w1 => forme47 (p := p) (A := A) (c := c) (HF.out.2.mono y.h) hl)
  have C46 := Lib.hid (fun y : Aft w1.heap.size w1 => rcheck46 (HF.out.1.mono y.h) HS.out (fmeOk p f))
  refine wp_seq_hid ?_
  intro K1 HK1
  refine wp_region_aft mixed (by kernel_rfl) ?_
  repeat (go_big_quiet_step (first | (go_at_call 47; exact calls_aft (C47.out _)) | (go_at_call 46; exact calls_aft (C46.out _))))
  refine wpQuiet_nil ?_
  rintro _ ⟨y, rfl⟩
  refine HK1.out _ _ ?_
  have HB := Lib.hid (HX.out.2.2.trans (y.h.mono (Nat.le_of_lt (heap_lt HX.out.1))))
  have HFY := Lib.hid (And.intro (HF.out.1.mono y.h) (And.intro (HF.out.2.mono y.h) (And.intro ((y.h.block _ (heap_lt HX.out.1)).trans HX.out.1) ((y.h.block _ (heap_lt HX.out.2.1)).trans HX.out.2.1))))
  have HLT : Hid (bp ≤ y.v.heap.size) := Nat.le_trans (Nat.le_of_lt (heap_lt HX.out.1)) y.h.size
  revert HB HFY HLT
  clear y0 y1 y2 y3 y4 y5 y6 y7 y8 y9 z0 z1 x0 x1 C47 C46 HK1 K1
  generalize y.v = w2
  intro HB HFY HLT
  by_cases h0 : p.openE (fmeOk p f) = 0
  · obtain ⟨hv, hp⟩ := openE_zero h0
    have HE : Hid (givesE p f = (gvL p f p.wanted.length, 0)) := by show givesE p f = _; unfold givesE; simp only; rw [if_pos h0]; rfl
    have HV := Lib.hid (And.intro hv hp)
    rw [h0]
    clear h0 hv hp
    refine wp_seq_hid ?_
    intro K2 HK2
    go_wp2_with fail
    refine HK2.out _ _ ?_
    clear HK2 K2
    refine wp_seq_hid ?_
    intro K4 HK4
    go_wp2_with fail
    refine HK4.out _ _ ?_
    clear HK4 K4
    refine wp_seq_hid ?_
    intro K5 HK5
    have m6 := (prs_cells HFY.out.2.2.1).c6
    go_wp2_with fail
    clear m6
    go_loopw [7, 8] (fun o i wr => ∃ (k : Nat) (v : Value), k ≤ p.wanted.length ∧ i = .int .i64 k ∧ o = v ∧ Hid (wr.ownsRow w2.heap.size 23 2 v (gvL p f k).length (spV (gvL p f k))) ∧ Hid (Below w2.heap.size w2 wr)) (fun _ i _ => p.wanted.length - (intOf i).toNat)
    case atStart => exact ⟨0, _, by omega, rfl, rfl, ⟨rfl, .inl ⟨rfl, rfl⟩⟩, Below.refl _ _⟩
    case round =>
      obtain ⟨k, v, hk, rfl, rfl, HO, HW⟩ := hrel
      obtain ⟨m0, m1, m2, m3, m4, m5, m6, m7, m8, m9⟩ := (prs_cells HFY.out.2.2.1).mono HW.out
      have hq := (HW.out.block _ (heap_lt HFY.out.2.2.2)).trans HFY.out.2.2.2
      have x0 : wr.cell? ⟨bf, 0, none⟩ = some (.slice a f.slots.length c) := by rw [cell_of_heap hq]; rfl
      have x1 : wr.cell? ⟨bf, 1, none⟩ = some (.int .i64 f.times) := by rw [cell_of_heap hq]; rfl
      clear hq
      by_cases hlt : k < p.wanted.length
      · have HC := Lib.hid (rgives48 (p := p) (A := A) (c := c) (v := k) (spoil_of HV.out.1) (HFY.out.2.1.mono HW.out) (fmeR_of HV.out.2 hlt))
        go_wp2_with fail
        refine HC.out.mono ?_
        rintro e w5 ⟨rfl, hb⟩
        have hsz := HW.out.size
        obtain ⟨v', w', hr, hown, hbw, hge⟩ := append_spn (W := w2) (w := w5) (B := w2.heap.size) (HW.out.trans (hb.mono hsz)) (Nat.le_trans hsz hb.size) (by rw [gvL_len]; omega) (own_below HO.out hb) (p.gives f k)
        have HRUN := Lib.hid hr
        have HOWN : Hid (w'.ownsRow w2.heap.size 23 2 v' (gvL p f (k + 1)).length (spV (gvL p f (k + 1)))) := by rw [Hid, gvL_succ]; exact hown
        have HB3 := Lib.hid hbw
        clear hb hr hown hbw hge m0 m1 m2 m3 m4 m5 m6 m7 m8 m9 x0 x1 hsz
        go_wp2_with (at_builtin; refine wpList_append_run rfl (.tmp 24) (.tmp 29) 33 rfl _ _ _ _ rfl rfl HRUN.out ?_)
        go_wp2_with fail
        go_roundw
        case rel => exact ⟨k + 1, v', by omega, by go_num, rfl, HOWN.out, HB3.out⟩
        case measure => simp [intOf]; omega
      · have hke : k = p.wanted.length := by omega
        have hown := HO.out
        rw [hke] at hown
        obtain ⟨av, cv, rfl, _⟩ := own_slice hown
        have HI := Lib.hid (own_spns hown)
        clear hown hke
        go_wp2_with fail
        refine HK5.out _ _ ?_
        go_wp2_with fail
        go_ret2
        have hll := gvL_len p f k
        refine ⟨av, cv, ?_, by rw [HE.out]; exact HI.out, HB.out.trans (HW.out.mono HLT.out)⟩
        rw [HE.out]
        have : k = p.wanted.length := by omega
        subst this
        rfl
  · have HE : Hid (givesE p f = ([], p.openE (fmeOk p f))) := by show givesE p f = _; unfold givesE; simp only; rw [if_neg h0]
    revert HE
    generalize p.openE (fmeOk p f) = E at h0
    intro HE
    have hb : (E != 0) = true := by simpa using h0
    clear h0
    go_wp2_with fail
    go_ret2
    exact ⟨none, 0, by rw [HE.out]; rfl, by rw [HE.out]; exact fun i hi => by simp at hi, HB.out⟩
end Go.Proofs.Ytjkhclijmcmdjaa
