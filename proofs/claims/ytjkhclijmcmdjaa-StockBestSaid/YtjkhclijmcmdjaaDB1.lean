/- How many sheets are good, what a forme gives: in the program and in the reference. What a forme gives; what a plan costs; in the program and in the reference. What a plan costs; whether a list is a plan, and of which view it gives too few, in the reference; the errors. Of which view a plan gives too few; the reference's Check, Cost, Gives. Lists gathered by append, handed on and returned; the drawn region of the reference's slots. The reference's slots. The reference's formes: how many sheets suffice, and lists of formes that grow. The reference's formes. The reference's Best: the drawn regions that look at a plan; plain forms. The reference's Best: its plans, one by one. The reference's Best. The cheapest plan: plain law. What is looked at has a plan that is no worse than any. The reference's cheapest plan is the program's: plain law. StockBest's walk. The row's last step where the call leaves a world of which only what lay there before is known. Presses and formes that are handed in, opened. -/
import Derived.Test.YtjkhclijmcmdjaaC15
import Derived.Below
import Derived.ChangeSame
import Derived.ProofKit
import Derived.Test.YtjkhclijmcmdjaaProg
import Derived.Deep.Slices
import Derived.Deep.Fields
import Derived.Lib.SmallJoins
import Derived.Carry
import Derived.OpenShut
namespace Go.Proofs.Ytjkhclijmcmdjaa
open Go.RowKit
set_option linter.unusedVariables false
set_option linter.unusedSimpArgs false
set_option maxHeartbeats 1000000 in
theorem rgood72 {p : Prs} {A : PrsA} {w : World} (S : Spoil p) {n : Int} (h0 : 0 ≤ n) (h1 : n ≤ 2097152) :
    Calls Try.prog 72 #[p.v A, .int .i64 n] w fun e w' => e = .returned (p.good n).v ∧ Below w.heap.size w w' := by
  have e1 := mul_bd h0 h1 (by have := S.lo; have := S.le; omega : 0 ≤ p.shi) S.hi
  have e2 := mul_bd h0 h1 S.lo (by have := S.le; have := S.hi; omega : p.slo ≤ 50)
  have HX := Lib.hid (alloc2 w (p.arr A) #[.int .i64 0, .int .i64 0] 27 23)
  have w1' : IntKind.i64.wrap (n * p.shi) = n * p.shi := IntWalk.i64_in _ (by omega)
  have w2' : IntKind.i64.wrap (n * p.shi + 99) = n * p.shi + 99 := IntWalk.i64_in _ (by omega)
  have w3' : (n * p.shi + 99).tdiv 100 = (n * p.shi + 99) / 100 := Int.tdiv_eq_ediv_of_nonneg (by omega)
  have w4' : IntKind.i64.wrap ((n * p.shi + 99) / 100) = (n * p.shi + 99) / 100 := IntWalk.i64_in _ (by omega)
  have w5' : IntKind.i64.wrap (n - (n * p.shi + 99) / 100) = n - (n * p.shi + 99) / 100 := IntWalk.i64_in _ (by omega)
  have v1 : IntKind.i64.wrap (n * p.slo) = n * p.slo := IntWalk.i64_in _ (by omega)
  have v3 : (n * p.slo).tdiv 100 = n * p.slo / 100 := Int.tdiv_eq_ediv_of_nonneg (by omega)
  have v4 : IntKind.i64.wrap (n * p.slo / 100) = n * p.slo / 100 := IntWalk.i64_in _ (by omega)
  have v5 : IntKind.i64.wrap (n - n * p.slo / 100) = n - n * p.slo / 100 := IntWalk.i64_in _ (by omega)
  go_enter Try.func72, Try.ntmps72
  refine wp_seq_hid ?_
  intro K0 HK0
  go_wp2_with fail
  refine HK0.out _ _ ?_
  clear HK0 K0
  revert HX
  generalize (w.alloc (.cells (p.arr A) 27)).alloc (.cells #[.int .i64 0, .int .i64 0] 23) = W1
  generalize hbx : w.heap.size + 1 = bx
  generalize hbp : w.heap.size = bp
  intro HX
  have pc := prs_cells HX.out.1
  have y2 := pc.c2
  have y3 := pc.c3
  have x0 : W1.cell? ⟨bx, 0, none⟩ = some (.int .i64 0) := by rw [cell_of_heap HX.out.2.1]; rfl
  have x1 : W1.cell? ⟨bx, 1, none⟩ = some (.int .i64 0) := by rw [cell_of_heap HX.out.2.1]; rfl
  have f0 : ∀ k, W1.frozen? ⟨bx, k, none⟩ = false := fun k => frozen_of_heap HX.out.2.1
  clear pc
  go_wp2_with fail
  have h4 := heap_setCell_at (k := 1) (heap_setCell_at (k := 0) HX.out.2.1 (.int .i64 (n - (n * p.shi + 99) / 100))) (.int .i64 (n - n * p.slo / 100))
  refine bodyPost_ret (v := (p.good n).v) (by
    have c0 : ((W1.setCell ⟨bx, 0, none⟩ (.int .i64 (n - (n * p.shi + 99) / 100))).setCell ⟨bx, 1, none⟩ (.int .i64 (n - n * p.slo / 100))).cell? ⟨bx, 0, none⟩ = some (.int .i64 (n - (n * p.shi + 99) / 100)) := by rw [cell_of_heap h4]; rfl
    have c1 : ((W1.setCell ⟨bx, 0, none⟩ (.int .i64 (n - (n * p.shi + 99) / 100))).setCell ⟨bx, 1, none⟩ (.int .i64 (n - n * p.slo / 100))).cell? ⟨bx, 1, none⟩ = some (.int .i64 (n - n * p.slo / 100)) := by rw [cell_of_heap h4]; rfl
    show _ = Result.ok (Value.agg #[.int .i64 (n - (n * p.shi + 99) / 100), .int .i64 (n - n * p.slo / 100)]) _
    simp [results, Try.results72, c0, c1, go_sem]) rfl ⟨rfl, ?_⟩
  exact (HX.out.2.2.setCell (p := ⟨bx, _, none⟩) (by show bp ≤ bx; omega) _).setCell (p := ⟨bx, _, none⟩) (by show bp ≤ bx; omega) _
end Go.Proofs.Ytjkhclijmcmdjaa
namespace Go.Proofs.Ytjkhclijmcmdjaa
open Go.RowKit
set_option linter.unusedVariables false
set_option linter.unusedSimpArgs false
set_option maxHeartbeats 2000000 in
theorem rgives48 {p : Prs} {A : PrsA} {f : Fme} {a : Option Addr} {c v : Nat} {w : World} (S : Spoil p) (hf : IsInts w a f.slots) (F : FmeR f v) :
    Calls Try.prog 48 #[p.v A, f.v a c, .int .i64 v] w fun e w' => e = .returned (p.gives f v).v ∧ Below w.heap.size w w' := by
  have HX := Lib.hid (alloc3 w (p.arr A) (f.arr a c) #[.int .i64 0, .int .i64 0] 27 29 23)
  have HP := Lib.hid (hf.mono (alloc3 w (p.arr A) (f.arr a c) #[.int .i64 0, .int .i64 0] 27 29 23).2.2.2)
  have hbd := gives_bd S F
  have hlt := F.lt
  obtain ⟨t0, t1⟩ := F.times
  have HS := Lib.hid S
  clear hf F S
  go_enter Try.func48, Try.ntmps48
  refine wp_seq_hid ?_
  intro K0 HK0
  go_wp2_with fail
  refine HK0.out _ _ ?_
  clear HK0 K0
  revert HX HP
  generalize ((w.alloc (.cells (p.arr A) 27)).alloc (.cells (f.arr a c) 29)).alloc (.cells #[.int .i64 0, .int .i64 0] 23) = w1
  generalize hbx : w.heap.size + 2 = bx
  generalize hbf : w.heap.size + 1 = bf
  generalize hb0 : w.heap.size = b0
  intro HX HP
  have x1 : w1.cell? ⟨bf, 1, none⟩ = some (.int .i64 f.times) := by rw [cell_of_heap HX.out.2.1]; rfl
  obtain ⟨k0, k1, k2, k3, k4, k5, k6, k7, k8, k9⟩ := prs_cells HX.out.1
  have HBB : Hid (b0 ≤ bf ∧ b0 ≤ bx) := by show b0 ≤ bf ∧ b0 ≤ bx; omega
  clear hbx hbf
  refine wp_seq_hid ?_
  intro K1 HK1
  go_wp2_with fail
  refine (rgood72 HS.out t0 (by omega)).mono ?_
  rintro e w2 ⟨rfl, hb⟩
  have HB := Lib.hid hb
  clear hb x1 k0 k1 k2 k3 k4 k5 k6 k7 k8 k9
  have HGV := Lib.hid (gives_eq p f v)
  obtain ⟨g, hg⟩ : ∃ g, p.good f.times = g := ⟨_, rfl⟩
  rw [hg] at hbd HGV
  rw [hg]
  clear hg
  go_wp2_with fail
  have hn := World.alloc_heap_new w2 (.cells g.arr 23)
  have hbn : Below w2.heap.size w2 (w2.alloc (.cells g.arr 23)) := (Below.refl _ _).alloc (Nat.le_refl _) _
  have HB3 := Lib.hid (HB.out.trans (hbn.mono HB.out.size))
  have HN := Lib.hid hn
  clear hn hbn
  revert HB3 HN
  generalize (w2.alloc (.cells g.arr 23)) = w3
  generalize w2.heap.size = bg
  intro HB3 HN
  refine HK1.out _ _ ?_
  clear HK1 K1
  have hq0 := (HB3.out.block _ (heap_lt HX.out.2.1)).trans HX.out.2.1
  have hq1 := (HB3.out.block _ (heap_lt HX.out.2.2.1)).trans HX.out.2.2.1
  have HQ := Lib.hid hq1
  have x0 : w3.cell? ⟨bf, 0, none⟩ = some (.slice a f.slots.length c) := by rw [cell_of_heap hq0]; rfl
  have g0 : w3.cell? ⟨bg, 0, none⟩ = some (.int .i64 g.lo) := by rw [cell_of_heap HN.out]; rfl
  have g1 : w3.cell? ⟨bg, 1, none⟩ = some (.int .i64 g.hi) := by rw [cell_of_heap HN.out]; rfl
  obtain ⟨ab, ao, hab, hcell⟩ := (HP.out.mono HB3.out) v hlt
  subst hab
  have y0 := fun y : Aft w3.heap.size w3 => cell_stays y.h x0
  have y1 := fun y : Aft w3.heap.size w3 => cell_stays y.h g0
  have y2 := fun y : Aft w3.heap.size w3 => cell_stays y.h g1
  have yc := fun y : Aft w3.heap.size w3 => cell_stays y.h hcell
  clear x0 g0 g1 hcell hq0 hq1
  obtain ⟨s, hs⟩ : ∃ s, gi f.slots v = s := ⟨_, rfl⟩
  rw [hs] at hbd HGV yc
  clear hs
  have v1 : IntKind.i64.wrap (s * g.lo) = s * g.lo := IntWalk.i64_in _ (by omega)
  have v2 : IntKind.i64.wrap (s * g.hi) = s * g.hi := IntWalk.i64_in _ (by omega)
  refine wp_seq_hid ?_
  intro K2 HK2
  refine wp_region_aft_tail 17 mixed (by kernel_rfl) ?_
  simp only [List.take_succ_cons, List.take_zero, List.drop_succ_cons, List.drop_zero]
  repeat (go_big_quiet_step (fail))
  refine wpQuiet_nil ?_
  rintro _ ⟨y, rfl⟩
  have hq := (y.h.block _ (heap_lt HQ.out)).trans HQ.out
  have x0 : y.v.cell? ⟨bx, 0, none⟩ = some (.int .i64 0) := by rw [cell_of_heap hq]; rfl
  have x1 : y.v.cell? ⟨bx, 1, none⟩ = some (.int .i64 0) := by rw [cell_of_heap hq]; rfl
  have f0 : ∀ k, y.v.frozen? ⟨bx, k, none⟩ = false := fun k => frozen_of_heap hq
  have HQ2 := Lib.hid hq
  clear hq y0 y1 y2 yc
  go_wp2_with fail
  refine HK2.out _ _ ?_
  clear x0 x1 f0
  have h4 := heap_setCell_at (k := 1) (heap_setCell_at (k := 0) HQ2.out (.int .i64 (s * g.lo))) (.int .i64 (s * g.hi))
  refine wp_ret ?_
  refine bodyPost_ret (v := .agg #[.int .i64 (s * g.lo), .int .i64 (s * g.hi)]) (res_spn rfl _ rfl (by rw [cell_of_heap h4]; rfl) (by rw [cell_of_heap h4]; rfl)) rfl ⟨by rw [HGV.out], ?_⟩
  have hs1 := HX.out.2.2.2.size
  have hs2 := HB3.out.size
  have hbw : Below b0 w y.v := HX.out.2.2.2.trans ((HB3.out.trans (y.h.mono hs2)).mono (by omega))
  exact (hbw.setCell (p := ⟨bx, _, none⟩) HBB.out.2 _).setCell (p := ⟨bx, _, none⟩) HBB.out.2 _
end Go.Proofs.Ytjkhclijmcmdjaa
namespace Go.Proofs.Ytjkhclijmcmdjaa
open Go.RowKit
set_option linter.unusedVariables false
set_option linter.unusedSimpArgs false
set_option maxHeartbeats 2000000 in
theorem rcost52 {p : Prs} {A : PrsA} {l : List Fme} {a : Option Addr} {c : Nat} {w : World} (ha : IsFmes w a l) (C : CostR p l) :
    Calls Try.prog 52 #[p.v A, .slice a l.length c] w fun e w' => e = .returned (.int .i64 (p.cost l)) ∧ Below w.heap.size w w' := by
  have hb0 : Below w.heap.size w (w.alloc (.cells (p.arr A) 27)) := (Below.refl _ w).alloc (Nat.le_refl _) _
  have q0 := World.alloc_heap_new w (.cells (p.arr A) 27)
  have HX := Lib.hid (And.intro q0 (And.intro hb0 (ha.mono hb0)))
  have HC := Lib.hid C
  have hl := C.len
  obtain ⟨mk0, mk1⟩ := C.make
  clear hb0 q0 ha C
  go_enter Try.func52, Try.ntmps52
  refine wp_seq_hid ?_
  intro K0 HK0
  go_wp2_with fail
  refine HK0.out _ _ ?_
  clear HK0 K0
  revert HX
  generalize w.alloc (.cells (p.arr A) 27) = w1
  generalize w.heap.size = bp
  intro HX
  have HPC := Lib.hid (prs_cells HX.out.1)
  go_wp2_with fail
  go_loopw [5, 6] (fun n i wr => ∃ k : Nat, k ≤ l.length ∧ i = .int .i64 k ∧ n = .int .i64 (p.cost (l.take k)) ∧ Hid (Below w1.heap.size w1 wr)) (fun _ i _ => l.length - (intOf i).toNat)
  case atStart => exact ⟨0, by omega, rfl, rfl, Below.refl _ _⟩
  case round =>
    obtain ⟨k, hk, rfl, rfl, HW⟩ := hrel
    by_cases hlt : k < l.length
    · obtain ⟨b, off, hab, ai, ci, c0, c1, c6⟩ := (HX.out.2.2.mono HW.out) k hlt
      subst hab
      have h1 := HC.out.part k hk
      obtain ⟨h2, h3, h4⟩ := HC.out.one hlt
      have HT := Lib.hid (cost_take (p := p) hlt)
      clear c6 c0
      revert HT h1 h2 h3 h4 c1
      generalize p.cost (l.take k) = n
      generalize gf l k = f
      intro c1 h1 h2 h3 h4 HT
      go_upto_region 5 with fail
      have pc := HPC.out.mono HW.out
      have y4 := fun y : Aft wr.heap.size wr => cell_stays y.h pc.c4
      have y5 := fun y : Aft wr.heap.size wr => cell_stays y.h pc.c5
      have z1 := fun y : Aft wr.heap.size wr => cell_stays y.h c1
      clear pc c1
      obtain ⟨z, hz⟩ : ∃ z, p.sheet * f.times = z := ⟨_, rfl⟩
      rw [hz] at h3 h4
      have v1 : IntKind.i64.wrap (p.sheet * f.times) = z := by rw [hz]; exact IntWalk.i64_in _ (by omega)
      have v2 : IntKind.i64.wrap (n + p.make) = n + p.make := IntWalk.i64_in _ (by omega)
      have v3 : IntKind.i64.wrap (n + p.make + z) = n + p.make + z := IntWalk.i64_in _ (by omega)
      have HZ := Lib.hid hz
      clear hz
      refine wp_region_aft mixed (by kernel_rfl) ?_
      repeat (go_big_quiet_step (fail))
      refine wpQuiet_nil ?_
      rintro _ ⟨y, rfl⟩
      have HB2 := Lib.hid (HW.out.trans (y.h.mono HW.out.size))
      clear y4 y5 z1 v1 v2 v3
      go_wp2_with fail
      go_roundw
      case rel => exact ⟨k + 1, by omega, by go_num, by rw [HT.out, HZ.out, Int.add_assoc], HB2.out⟩
      case measure => simp [intOf]; omega
    · have hke : l.take k = l := List.take_of_length_le (by omega)
      rw [hke]
      clear hke
      go_wp2_with fail
      go_ret
      exact ⟨rfl, HX.out.2.1.trans (HW.out.mono (Nat.le_of_lt (heap_lt HX.out.1)))⟩
set_option maxHeartbeats 1000000 in
theorem rcheck46 {p : Prs} {A : PrsA} {w : World} (hP : IsPrs w p A) (hS : p.Small) (ok : Bool) :
    Calls Try.prog 46 #[p.v A, .bool ok] w fun e w' => e = .returned (.int .i64 (p.openE ok)) ∧ Below w.heap.size w w' := by
  have hb0 : Below w.heap.size w (w.alloc (.cells (p.arr A) 27)) := (Below.refl _ w).alloc (Nat.le_refl _) _
  have q0 := World.alloc_heap_new w (.cells (p.arr A) 27)
  have HX := Lib.hid (And.intro q0 hb0)
  have HC := Lib.hid (rpress33 (hP.mono hb0) hS)
  have HV : Hid (p.openE ok = if !p.valid then 1 else if !ok then 2 else 0) := rfl
  clear hb0 q0 hP hS
  go_enter Try.func46, Try.ntmps46
  refine wp_seq_hid ?_
  intro K0 HK0
  go_wp2_with fail
  refine HK0.out _ _ ?_
  clear HK0 K0
  revert HX HC
  generalize w.alloc (.cells (p.arr A) 27) = w1
  generalize w.heap.size = bp
  intro HX HC
  obtain ⟨m0, m1, m2, m3, m4, m5, m6, m7, m8, m9⟩ := prs_cells HX.out.1
  obtain ⟨v, hv⟩ : ∃ v, p.valid = v := ⟨_, rfl⟩
  rw [hv] at HC HV
  clear hv
  cases v <;> cases ok
  all_goals
    go_wp2_with fail
    refine HC.out.mono ?_
    rintro e w2 ⟨rfl, hb⟩
    have HB := Lib.hid (HX.out.2.trans (hb.mono (Nat.le_of_lt (heap_lt HX.out.1))))
    clear hb m0 m1 m2 m3 m4 m5 m6 m7 m8 m9
    go_wp2_with fail
    go_ret
    exact ⟨ret_int (by rw [HV.out]; rfl), HB.out⟩
end Go.Proofs.Ytjkhclijmcmdjaa
namespace Go.Proofs.Ytjkhclijmcmdjaa
open Go.RowKit
set_option linter.unusedVariables false
set_option linter.unusedSimpArgs false
/-- A press's cells, in each world behind. -/
structure PrsY (w : World) (b : Nat) (p : Prs) (A : PrsA) : Prop where
  y0 : ∀ y : Aft w.heap.size w, y.v.cell? ⟨b, 0, none⟩ = some (.int .i64 p.room)
  y1 : ∀ y : Aft w.heap.size w, y.v.cell? ⟨b, 1, none⟩ = some (.int .i64 p.formes)
  y2 : ∀ y : Aft w.heap.size w, y.v.cell? ⟨b, 2, none⟩ = some (.int .i64 p.slo)
  y3 : ∀ y : Aft w.heap.size w, y.v.cell? ⟨b, 3, none⟩ = some (.int .i64 p.shi)
  y4 : ∀ y : Aft w.heap.size w, y.v.cell? ⟨b, 4, none⟩ = some (.int .i64 p.make)
  y5 : ∀ y : Aft w.heap.size w, y.v.cell? ⟨b, 5, none⟩ = some (.int .i64 p.sheet)
  y6 : ∀ y : Aft w.heap.size w, y.v.cell? ⟨b, 6, none⟩ = some (.slice A.aw p.wanted.length A.cw)
  y7 : ∀ y : Aft w.heap.size w, y.v.cell? ⟨b, 7, none⟩ = some (.int .i64 p.paper)
  y8 : ∀ y : Aft w.heap.size w, y.v.cell? ⟨b, 8, none⟩ = some (.int .i64 p.money)
  y9 : ∀ y : Aft w.heap.size w, y.v.cell? ⟨b, 9, none⟩ = some (.slice A.ad p.deals.length A.cd)
theorem prs_aft {w : World} {b : Nat} {p : Prs} {A : PrsA} (h : PrsC w b p A) : PrsY w b p A :=
  ⟨fun y => cell_stays y.h h.c0, fun y => cell_stays y.h h.c1, fun y => cell_stays y.h h.c2, fun y => cell_stays y.h h.c3, fun y => cell_stays y.h h.c4, fun y => cell_stays y.h h.c5, fun y => cell_stays y.h h.c6, fun y => cell_stays y.h h.c7, fun y => cell_stays y.h h.c8, fun y => cell_stays y.h h.c9⟩
def fewV (p : Prs) (l : List Fme) : Int := match p.few l with
  | some v => (v : Int)
  | none => -1
set_option maxHeartbeats 4000000 in
theorem rfew50 {p : Prs} {A : PrsA} {l : List Fme} {a : Option Addr} {c : Nat} {w : World} (hP : IsPrs w p A) (S : Spoil p) (hw : p.wanted.length ≤ 20) (ha : IsFmes w a l) (R : PlanR p l) :
    Calls Try.prog 50 #[p.v A, .slice a l.length c] w fun e w' => e = .returned (.int .i64 (fewV p l)) ∧ Below w.heap.size w w' := by
  have hb0 : Below w.heap.size w (w.alloc (.cells (p.arr A) 27)) := (Below.refl _ w).alloc (Nat.le_refl _) _
  have q0 := World.alloc_heap_new w (.cells (p.arr A) 27)
  have HX := Lib.hid (And.intro q0 (And.intro hb0 (And.intro (hP.mono hb0) (ha.mono hb0))))
  have HR := Lib.hid (And.intro R S)
  have hl := R.len
  clear hb0 q0 ha hP R S
  go_enter Try.func50, Try.ntmps50
  refine wp_seq_hid ?_
  intro K0 HK0
  go_wp2_with fail
  refine HK0.out _ _ ?_
  clear HK0 K0
  revert HX
  generalize w.alloc (.cells (p.arr A) 27) = w1
  generalize w.heap.size = bp
  intro HX
  have HPC := Lib.hid (prs_cells HX.out.1)
  refine wp_seq_hid ?_
  intro K1 HK1
  have z6 := HPC.out.c6
  go_wp2_with fail
  go_loopw [5] (fun i wr => ∃ v : Nat, v ≤ p.wanted.length ∧ i = .int .i64 v ∧ Hid (∀ u, u < v → gi p.wanted u ≤ p.least l u) ∧ Hid (Below w1.heap.size w1 wr)) (fun i _ => p.wanted.length - (intOf i).toNat)
  case atStart => exact ⟨0, by omega, rfl, fun u hu => by omega, Below.refl _ _⟩
  case round =>
    obtain ⟨v, hv, rfl, HU, HB⟩ := hrel
    have z6' := cell_stays HB.out z6
    clear z6
    by_cases hlt : v < p.wanted.length
    · go_wp2_with fail
      clear z6'
      go_loopw [6, 7] (fun n i wr => ∃ k : Nat, k ≤ l.length ∧ i = .int .i64 k ∧ n = .int .i64 (p.least (l.take k) v) ∧ Hid (Below w1.heap.size w1 wr)) (fun _ i _ => l.length - (intOf i).toNat)
      case atStart => exact ⟨0, by omega, rfl, rfl, HB.out⟩
      case round =>
        obtain ⟨k, hk, rfl, rfl, HW⟩ := hrel
        by_cases hlk : k < l.length
        · obtain ⟨b, off, hab, ai, ci, c0, c1, c6⟩ := (HX.out.2.2.2.mono HW.out) k hlk
          subst hab
          have h1 := HR.out.1.part HR.out.2 hlt k hk
          have hF := HR.out.1.fme hlk hlt
          have h2 := gives_bd HR.out.2 hF
          have HT := Lib.hid (least_take (p := p) hlk v)
          have HC := Lib.hid (fun y : Aft wr.heap.size wr => rgives48 (p := p) (A := A) (c := ci) HR.out.2 (c6.mono y.h) hF)
          have HGE := gives_eq p (gf l k) v
          rw [HGE] at HC
          clear hF HGE c6
          revert HT h1 h2 HC c0 c1
          generalize p.least (l.take k) v = n
          generalize gi (gf l k).slots v * (p.good (gf l k).times).lo = z
          generalize gi (gf l k).slots v * (p.good (gf l k).times).hi = z'
          generalize gf l k = f
          intro c0 c1 h1 h2 HT HC
          have HC2 : Hid (∀ y : Aft wr.heap.size wr, Calls Try.prog 48 #[p.v A, f.v ai ci, .int .i64 v] y.v fun e w' => e = .returned (.agg #[.int .i64 z, .int .i64 z']) ∧ Below y.v.heap.size y.v w') := HC.out
          clear HC
          obtain ⟨y0, y1, y2, y3, y4, y5, y6, y7, y8, y9⟩ := prs_aft (HPC.out.mono HW.out)
          have x0 := fun y : Aft wr.heap.size wr => cell_stays y.h c0
          have x1 := fun y : Aft wr.heap.size wr => cell_stays y.h c1
          clear c0 c1
          have v1 : IntKind.i64.wrap (n + z) = n + z := IntWalk.i64_in _ (by omega)
          have hfd := field23 z z'
          go_upto_region 8 with fail
          refine wp_region_aft mixed (by kernel_rfl) ?_
          repeat (go_big_quiet_step ((go_at_call 48; exact calls_aft (HC2.out _))))
          refine wpQuiet_nil ?_
          rintro _ ⟨y, rfl⟩
          have HB2 := Lib.hid (HW.out.trans (y.h.mono HW.out.size))
          clear y0 y1 y2 y3 y4 y5 y6 y7 y8 y9 x0 x1 v1 hfd
          go_wp2_with fail
          go_roundw
          case rel => exact ⟨k + 1, by omega, by go_num, by rw [HT.out], HB2.out⟩
          case measure => simp [intOf]; omega
        · have hke : l.take k = l := List.take_of_length_le (by omega)
          rw [hke]
          clear hke
          have z6 := (HPC.out.mono HW.out).c6
          obtain ⟨b, off, hab, hcell⟩ := (HX.out.2.2.1.wanted.mono HW.out) v hlt
          rw [hab] at z6
          have HAB := Lib.hid hab
          clear hab
          by_cases hfw : p.least l v < gi p.wanted v
          · have HF := Lib.hid (few_some hlt hfw HU.out)
            have hd : decide (p.least l v < gi p.wanted v) = true := by simpa using hfw
            clear hfw
            revert hd hcell
            generalize p.least l v = n
            generalize gi p.wanted v = x
            intro hcell hd
            go_wp2_with fail
            go_ret
            exact ⟨ret_int (by unfold fewV; rw [HF.out]), HX.out.2.1.trans (HW.out.mono (Nat.le_of_lt (heap_lt HX.out.1)))⟩
          · have HF := Lib.hid hfw
            have hd : decide (p.least l v < gi p.wanted v) = false := by simpa using hfw
            clear hfw
            have HU2 : Hid (∀ u, u < v + 1 → gi p.wanted u ≤ p.least l u) := fun u hu => by
              by_cases e : u = v
              · subst e; exact Int.not_lt.1 HF.out
              · exact HU.out u (by omega)
            revert hd hcell
            generalize p.least l v = n
            generalize gi p.wanted v = x
            intro hcell hd
            go_wp2_with fail
            go_roundw
            case rel => exact ⟨v + 1, by omega, by go_num, HU2.out, HW.out⟩
            case measure => simp [intOf]; omega
    · have HF : Hid (p.few l = none) := few_none (fun u hu => HU.out u (by omega))
      go_wp2_with fail
      refine HK1.out _ _ ?_
      go_wp2_with fail
      go_ret
      exact ⟨ret_int (by unfold fewV; rw [HF.out]), HX.out.2.1.trans (HB.out.mono (Nat.le_of_lt (heap_lt HX.out.1)))⟩
end Go.Proofs.Ytjkhclijmcmdjaa
namespace Go.Proofs.Ytjkhclijmcmdjaa
open Go.RowKit
set_option linter.unusedVariables false
set_option linter.unusedSimpArgs false
/-- Numbers that lie in memory of their own stay. -/
theorem WyPost.ints {B B' : Nat} {l l0 : List (List Int)} {A A' : World} {vo v' : Value} {n : Nat} {vp : Value} {xs : List Value} (h : WyPost B l A vo v' A') (hr : RowsAt A B vo l0) (hp : A.ownsRow B' 3 1 vp n xs) : A'.ownsRow B' 3 1 vp n xs := by
  obtain ⟨vs, h1, _⟩ := hr
  refine own_blocks hp (fun g hg => h.grown.block g (hp.lt g hg).2 (fun e => own_apart hp h1 (by decide) g hg e.symm))
/-- One list more. -/
theorem rows_add {A V : World} {B : Nat} {vo vp : Value} {acc : List (List Int)} {pre : List Int} (hR : RowsAt A B vo acc) (hb : Below A.heap.size A V) (hvp : A.ownsRow B 3 1 vp pre.length (pre.map (Value.int .i64))) (hB : B ≤ A.heap.size) (hi : acc.length ≤ 1000000) :
    ∃ v' w', (Builtin.append_ #[115, 115] 115 #[vo, .slice (some ⟨V.heap.size, 0, none⟩) 1 1]).run Try.prog (V.alloc (.cells #[vp] 24)) = .ok v' w' ∧ WyPost B (acc ++ [pre]) A vo v' w' := by
  obtain ⟨i0, hi0, hz0, hz1, hz2⟩ := info_parts infoR
  obtain ⟨vs, h4, h5⟩ := hR.below hb
  have hvc := own_below hvp hb
  have hone : vp.oneCell' = true := by
    rcases hvc.2 with ⟨rfl, _⟩ | ⟨g, cap, cur, rfl, _⟩ <;> rfl
  have hV1 := World.alloc_heap_new V (.cells #[vp] 24)
  have hAV := hb.size
  obtain ⟨v', w', hr, hn, hg, hor, _⟩ := append_keep (P := Try.prog) (w := V.alloc (.cells #[vp] 24)) B 115 115 24 i0 _ 24 Try.underlying115 hi0 hz0 hz1 hz2 rfl vo acc.length vs (own_blocks h4 (fun g hg => Below.heap_alloc _ _ _ (h4.lt g hg).2)) ⟨V.heap.size, 0, none⟩ vp (by rw [cell_of_heap hV1]; rfl) hone (by simp [maxLen]; omega) (by omega) (by simp; omega)
  have hVw : V.heap.size < w'.heap.size := by have := hg.size; simp at this; omega
  have hk1 : ∀ k, k < V.heap.size → vo.ownBlock ≠ some k → w'.heap[k]? = V.heap[k]? := fun k hk hne => (hg.block k (by simp; omega) (fun e => hne e.symm)).trans (Below.heap_alloc _ _ _ hk)
  refine ⟨v', w', hr, ⟨⟨vs ++ [vp], by rw [List.length_append]; exact hn, by simp [h5.1], fun j y hy => ?_⟩, ⟨hg.os.trans hb.os, hg.tape.trans hb.tape, hg.output.trans hb.output, by omega, fun k hk hne => (hk1 k (by omega) (fun e => hne e.symm)).trans (hb.block k hk)⟩, fun g hg' => ?_⟩⟩
  · rcases Nat.lt_trichotomy j vs.length with hj | hj | hj
    · rw [List.getElem?_append_left (by rw [← h5.1]; exact hj)] at hy
      obtain ⟨c', hc1, hc2⟩ := h5.2 j y hy
      exact ⟨c', by rw [List.getElem?_append_left hj]; exact hc1, own_blocks hc2 (fun g hg' => hk1 g (hc2.lt g hg').2 (own_apart hc2 h4 (by decide) g hg'))⟩
    · have hj2 : j = acc.length := by rw [← h5.1]; exact hj
      rw [hj2, List.getElem?_append_right (Nat.le_refl _)] at hy
      simp at hy
      subst hy
      refine ⟨vp, by rw [hj]; simp, own_blocks hvc (fun g hg' => hk1 g (hvc.lt g hg').2 (own_apart hvc h4 (by decide) g hg'))⟩
    · rw [List.getElem?_eq_none (by simp [← h5.1]; omega)] at hy
      cases hy
  · rcases hor with e | e
    · rw [e] at hg'; exact .inl hg'
    · rw [e] at hg'
      cases hg'
      exact .inr (by simp; omega)
/-- A fresh copy. -/
theorem copy_new {W w : World} {av : Option Addr} {pre : List Int} {cv : Nat} {xs : Value} (hk : pre.length ≤ 16) (hb : Below W.heap.size W w) (hx : w.ownsRow W.heap.size 3 1 xs 0 []) (hi : IsInts w av pre) :
    ∃ (r1 : Option Addr × Nat) (w' : World), (Builtin.append_ #[24, 24] 24 #[xs, .slice av pre.length cv]).run Try.prog w = .ok (.slice r1.1 pre.length r1.2) w' ∧ Below W.heap.size W w' ∧ w'.ownsRow W.heap.size 3 1 (.slice r1.1 pre.length r1.2) pre.length (pre.map (Value.int .i64)) ∧
      (∀ k, k < w.heap.size → xs.ownBlock ≠ some k → w'.heap[k]? = w.heap[k]? ∧ (Value.slice r1.1 pre.length r1.2).ownBlock ≠ some k) := by
  obtain ⟨i0, hi0, hz0, hz1, hz2⟩ := info_parts infoI
  obtain ⟨v', w', hr, hn, hg, hor⟩ := append_rows_at (P := Try.prog) (w := w) W.heap.size 24 24 3 i0 _ 1 8 Try.underlying24 hi0 hz0 hz1 hz2 rfl (by decide) xs 0 [] hx av pre.length cv (pre.map (Value.int .i64)) (by simp) (ints_news hi) (by intro u hu; simp at hu; obtain ⟨x, _, rfl⟩ := hu; rfl) (by simp [maxLen]; omega) (by omega) hb.size
  rw [Nat.zero_add, List.nil_append] at hn
  obtain ⟨a', c', rfl, _⟩ := own_slice hn
  refine ⟨(a', c'), w', hr, hb.grown hg hb.size (fun k hk => (hx.lt k hk).1), hn, fun k hk hne => ⟨hg.block k hk (fun e => hne e.symm), fun e => ?_⟩⟩
  rcases hor with h | h
  · rw [h] at e; exact hne e
  · rw [h] at e; cases e; omega
/-- And one number more. -/
theorem copy_more {W w : World} {pre : List Int} {f : Int} {r1 : Option Addr × Nat} {ms : Nat} (hk : pre.length ≤ 16) (hb : Below W.heap.size W w) (hx : w.ownsRow W.heap.size 3 1 (.slice r1.1 pre.length r1.2) pre.length (pre.map (Value.int .i64))) (hm : w.heap[ms]? = some (.cells #[.int .i64 f] 3 (0, 0))) :
    ∃ (r2 : Option Addr × Nat) (w' : World), (Builtin.append_ #[24, 24] 24 #[.slice r1.1 pre.length r1.2, .slice (some ⟨ms, 0, none⟩) 1 1]).run Try.prog w = .ok (.slice r2.1 (pre.length + 1) r2.2) w' ∧ Below W.heap.size W w' ∧ w'.ownsRow W.heap.size 3 1 (.slice r2.1 (pre.length + 1) r2.2) (pre ++ [f]).length ((pre ++ [f]).map (Value.int .i64)) := by
  obtain ⟨i0, hi0, hz0, hz1, hz2⟩ := info_parts infoI
  obtain ⟨v', w', hr, hn, hg, _⟩ := append_keep (P := Try.prog) (w := w) W.heap.size 24 24 3 i0 _ 8 Try.underlying24 hi0 hz0 hz1 hz2 rfl _ _ _ hx ⟨ms, 0, none⟩ (.int .i64 f) (by rw [cell_of_heap hm]; rfl) rfl (by simp [maxLen]; omega) (by omega) hb.size
  obtain ⟨a', c', rfl, _⟩ := own_slice hn
  refine ⟨(a', c'), w', hr, hb.grown hg hb.size (fun k hk => (hx.lt k hk).1), ?_⟩
  have e : (pre ++ [f]).length = pre.length + 1 := by simp
  have e2 : (pre ++ [f]).map (Value.int .i64) = pre.map (Value.int .i64) ++ [.int .i64 f] := by simp
  rw [e, e2]
  exact hn
theorem ownsRow_zero {w : World} {B : Nat} (h : B ≤ w.heap.size) : (w.alloc (.cells #[] 3)).ownsRow B 3 1 (.slice (some ⟨w.heap.size, 0, none⟩) 0 0) 0 [] := World.ownsRow_made (e := 3) (size := 1) w #[] 0 (base := B) h (by simp [maxLen]) (by simp)
theorem rows_nil {w : World} : RowsAt w w.heap.size (.slice none 0 0) [] := ⟨[], World.ownsRow_nil w _ _ _, rfl, fun i x h => by simp at h⟩
theorem rows_int {w : World} {B : Nat} {v : Value} {l : List (List Int)} (h : RowsAt w B v l) : ∃ a c, v = .slice a l.length c := by
  obtain ⟨vs, h1, _⟩ := h
  obtain ⟨a, c, e, _⟩ := own_slice h1
  exact ⟨a, c, e⟩
structure slo8F (p : Prs) (A : PrsA) (bx : Nat) (av : Option Addr) (k : Nat) (cv : Nat) (vo : Value) (j : Nat) (left : Nat) (rm : Nat) (S0 : Bool → Nat → World → Prop) (S1 : Bool → Nat → Value → World → Prop) (S2 : Bool → Nat → Value → Option Addr × Nat → World → Prop) (S3 : Bool → Nat → Value → Option Addr × Nat → Option Addr × Nat → World → Prop) (S4 : Bool → Nat → Value → Option Addr × Nat → Option Addr × Nat → Value → World → Prop) (d : Nat → Bool) (x30 x31 x32 x33 x34 x35 x36 x37 x38 x39 x40 x41 x3 : Value) (ms : Nat) (r1 : Option Addr × Nat) (r2 : Option Addr × Nat) (w : World) : Prop where
  q3 : d 3 = true → d 1 = true ∧ d 2 = true
  q5 : d 5 = true → d 4 = true
  q6 : d 6 = true → d 3 = true ∧ d 5 = true
  q9 : d 9 = true → d 7 = true ∧ d 8 = true
  q11 : d 11 = true → d 0 = true ∧ d 6 = true ∧ d 9 = true ∧ d 10 = true
  q12 : d 12 = true → d 0 = true ∧ d 1 = true ∧ d 2 = true ∧ d 3 = true ∧ d 4 = true ∧ d 5 = true ∧ d 6 = true ∧ d 7 = true ∧ d 8 = true ∧ d 9 = true ∧ d 10 = true ∧ d 11 = true
  f0 : d 0 = true → x30 = p.v A
  f2 : d 2 = true → x32 = .slice av k cv
  f3 : d 3 = true → x33 = .slice r1.1 k r1.2
  f4 : d 4 = true → x34 = .int .i64 (j : Int)
  f5 : d 5 = true → x35 = .slice (some ⟨ms, 0, none⟩) 1 1
  f6 : d 6 = true → x36 = .slice r2.1 (k + 1) r2.2
  f7 : d 7 = true → x37 = .int .i64 (left : Int)
  f8 : d 8 = true → x38 = .int .i64 (j : Int)
  f9 : d 9 = true → x39 = .int .i64 (rm : Int)
  f10 : d 10 = true → x40 = vo
  f12 : d 12 = true → x3 = x41
  g12 : d 12 = false → vo = x3
  st0 : d 1 = false → S0 (d 5) ms w
  st1 : d 1 = true → d 3 = false → S1 (d 5) ms x31 w
  st2 : d 3 = true → d 6 = false → S2 (d 5) ms x31 r1 w
  st3 : d 6 = true → d 11 = false → S3 (d 5) ms x31 r1 r2 w
  st4 : d 11 = true → S4 (d 5) ms x31 r1 r2 x41 w
  mz : d 5 = false → ms = 0
noncomputable def slo8C : Code := (Try.f88.body.bind (regionAt 8)).getD .skip
set_option maxRecDepth 100000 in
set_option maxHeartbeats 4000000 in
theorem slo8 {p : Prs} {A : PrsA} {bx : Nat} {av : Option Addr} {k : Nat} {cv : Nat} {vo : Value} {j : Nat} {left : Nat} {rm : Nat} {S0 : Bool → Nat → World → Prop} {S1 : Bool → Nat → Value → World → Prop} {S2 : Bool → Nat → Value → Option Addr × Nat → World → Prop} {S3 : Bool → Nat → Value → Option Addr × Nat → Option Addr × Nat → World → Prop} {S4 : Bool → Nat → Value → Option Addr × Nat → Option Addr × Nat → Value → World → Prop} {Q : Exit → Act → World → Prop} {W1 : World} (hrm : IntKind.i64.wrap ((left : Int) - (j : Int)) = (rm : Int)) (h0 : S0 false 0 W1.drew)
    (kl0 : Hid (∀ (fs : Bool) (ms : Nat) (x31 : Value) (r1 : Option Addr × Nat) (r2 : Option Addr × Nat) (w : World), (S0 fs ms w ∨ S1 fs ms x31 w ∨ S2 fs ms x31 r1 w ∨ S3 fs ms x31 r1 r2 w) → w.cell? ⟨bx, 0, none⟩ = some (.int .i64 p.room) ∧ w.cell? ⟨bx, 1, none⟩ = some (.int .i64 p.formes) ∧ w.cell? ⟨bx, 2, none⟩ = some (.int .i64 p.slo) ∧ w.cell? ⟨bx, 3, none⟩ = some (.int .i64 p.shi) ∧ w.cell? ⟨bx, 4, none⟩ = some (.int .i64 p.make) ∧ w.cell? ⟨bx, 5, none⟩ = some (.int .i64 p.sheet) ∧ w.cell? ⟨bx, 6, none⟩ = some (.slice A.aw p.wanted.length A.cw) ∧ w.cell? ⟨bx, 7, none⟩ = some (.int .i64 p.paper) ∧ w.cell? ⟨bx, 8, none⟩ = some (.int .i64 p.money) ∧ w.cell? ⟨bx, 9, none⟩ = some (.slice A.ad p.deals.length A.cd)))
    (kc1 : Hid (∀ (fs : Bool) (ms : Nat) (w : World), S0 fs ms w → S1 fs ms (.slice (some ⟨w.heap.size, 0, none⟩) 0 0) (w.alloc (.cells #[] 3))))
    (kc3 : Hid (∀ (fs : Bool) (ms : Nat) (x31 : Value) (w : World), S1 fs ms x31 w → ∃ (r1 : Option Addr × Nat) (w' : World), (Builtin.append_ #[24, 24] 24 #[x31, .slice av k cv]).run Try.prog w = .ok (.slice r1.1 k r1.2) w' ∧ S2 fs ms x31 r1 w'))
    (ks0 : Hid (∀ (w : World), S0 false 0 w → S0 true w.heap.size (w.alloc (.cells #[.int .i64 (j : Int)] 3))))
    (ks1 : Hid (∀ (x31 : Value) (w : World), S1 false 0 x31 w → S1 true w.heap.size x31 (w.alloc (.cells #[.int .i64 (j : Int)] 3))))
    (ks2 : Hid (∀ (x31 : Value) (r1 : Option Addr × Nat) (w : World), S2 false 0 x31 r1 w → S2 true w.heap.size x31 r1 (w.alloc (.cells #[.int .i64 (j : Int)] 3))))
    (kc6 : Hid (∀ (ms : Nat) (x31 : Value) (r1 : Option Addr × Nat) (w : World), S2 true ms x31 r1 w → ∃ (r2 : Option Addr × Nat) (w' : World), (Builtin.append_ #[24, 24] 24 #[.slice r1.1 k r1.2, .slice (some ⟨ms, 0, none⟩) 1 1]).run Try.prog w = .ok (.slice r2.1 (k + 1) r2.2) w' ∧ S3 true ms x31 r1 r2 w'))
    (kc11 : Hid (∀ (ms : Nat) (x31 : Value) (r1 : Option Addr × Nat) (r2 : Option Addr × Nat) (w : World), S3 true ms x31 r1 r2 w → Calls Try.prog 88 #[p.v A, .slice r2.1 (k + 1) r2.2, .int .i64 (rm : Int), vo] w fun e w' => ∃ x41 : Value, e = .returned (x41) ∧ S4 true ms x31 r1 r2 x41 w'))
    {s0 s5 s6 s7 s8 s10 s11 s12 s13 s14 s15 s16 s17 s18 s19 s20 s21 s22 s23 s24 s25 s26 s27 s28 s29 s30 s31 s32 s33 s34 s35 s36 s37 s38 s39 s40 s41 s42 : Value} {dd : List Deferred}
    (hQ : ∀ (ms : Nat) (x31 : Value) (r1 : Option Addr × Nat) (r2 : Option Addr × Nat) (x41 : Value) (w' : World), S4 true ms x31 r1 r2 x41 w' → Q .normal { tmps := #[s0, .slice av k cv, .int .i64 (left : Int), x41, .pointer (some ⟨bx, 0, none⟩), s5, s6, s7, s8, .int .i64 (j : Int), s10, s11, s12, s13, s14, s15, s16, s17, s18, s19, s20, s21, s22, s23, s24, s25, s26, s27, s28, s29, p.v A, x31, .slice av k cv, .slice r1.1 k r1.2, .int .i64 (j : Int), .slice (some ⟨ms, 0, none⟩) 1 1, .slice r2.1 (k + 1) r2.2, .int .i64 (left : Int), .int .i64 (j : Int), .int .i64 (rm : Int), vo, x41, s42], defers := dd } w') :
    Code.wpIn (wideAt none) 0 Try.prog slo8C Q { tmps := #[s0, .slice av k cv, .int .i64 (left : Int), vo, .pointer (some ⟨bx, 0, none⟩), s5, s6, s7, s8, .int .i64 (j : Int), s10, s11, s12, s13, s14, s15, s16, s17, s18, s19, s20, s21, s22, s23, s24, s25, s26, s27, s28, s29, s30, s31, s32, s33, s34, s35, s36, s37, s38, s39, s40, s41, s42], defers := dd } W1 := by
  have HQ := Lib.hid hQ
  clear hQ
  conv => arg 4; whnf
  refine wpIn_region_invG mixed (by kernel_rfl) (fun d_ a_ w' => ∃ (x30 : Value) (x31 : Value) (x32 : Value) (x33 : Value) (x34 : Value) (x35 : Value) (x36 : Value) (x37 : Value) (x38 : Value) (x39 : Value) (x40 : Value) (x41 : Value) (x3 : Value) (ms : Nat) (r1 : Option Addr × Nat) (r2 : Option Addr × Nat), a_ = { tmps := #[s0, .slice av k cv, .int .i64 (left : Int), x3, .pointer (some ⟨bx, 0, none⟩), s5, s6, s7, s8, .int .i64 (j : Int), s10, s11, s12, s13, s14, s15, s16, s17, s18, s19, s20, s21, s22, s23, s24, s25, s26, s27, s28, s29, x30, x31, x32, x33, x34, x35, x36, x37, x38, x39, x40, x41, s42], defers := dd } ∧ slo8F p A bx av k cv vo j left rm S0 S1 S2 S3 S4 d_ x30 x31 x32 x33 x34 x35 x36 x37 x38 x39 x40 x41 x3 ms r1 r2 w') ?_ ?_ ?_
  · refine ⟨s30, s31, s32, s33, s34, s35, s36, s37, s38, s39, s40, s41, (vo), 0, default, default, rfl, ?_⟩
    constructor <;> first | rfl | (intro _; rfl) | (intro h; cases h; done) | (intro _; exact h0) | exact h0
  · refine ⟨?_, ?_, ?_, ?_, ?_, ?_, ?_, ?_, ?_, ?_, ?_, ?_, ?_, trivial⟩
    all_goals
      rintro d_ a_ w1 K hd_ hdep ⟨x30, x31, x32, x33, x34, x35, x36, x37, x38, x39, x40, x41, x3, ms, r1, r2, rfl, F⟩ HK
      simp [Region.binds] at hdep
    · have hst : S0 (d_ 5) ms w1 ∨ S1 (d_ 5) ms x31 w1 ∨ S2 (d_ 5) ms x31 r1 w1 ∨ S3 (d_ 5) ms x31 r1 r2 w1 := by
        cases e1 : d_ 1 with
        | false => exact .inl ((F.st0 e1))
        | true =>
          cases e2 : d_ 3 with
          | false => exact .inr (.inl ((F.st1 e1 e2)))
          | true =>
            cases e3 : d_ 6 with
            | false => exact .inr (.inr (.inl ((F.st2 e2 e3))))
            | true =>
              have n_ : d_ 11 = false := by
                cases e_ : d_ 11 with
                | false => rfl
                | true => have h2 := (F.q11 e_).1; rw [show d_ 0 = false from hd_] at h2; cases h2
              exact .inr (.inr (.inr ((F.st3 e3 n_))))
      have kk := kl0.out (d_ 5) ms x31 r1 r2 w1 hst
      obtain ⟨kk0, kk1, kk2, kk3, kk4, kk5, kk6, kk7, kk8, kk9⟩ := kk
      clear hst
      have HF : Hid (slo8F p A bx av k cv vo j left rm S0 S1 S2 S3 S4 (upd d_ 0) (p.v A) x31 x32 x33 x34 x35 x36 x37 x38 x39 x40 x41 x3 ms r1 r2 w1) := ⟨F.q3, F.q5, F.q6, F.q9, fun h => ⟨rfl, (F.q11 h).2.1, (F.q11 h).2.2.1, (F.q11 h).2.2.2⟩, fun h => ⟨rfl, (F.q12 h).2.1, (F.q12 h).2.2.1, (F.q12 h).2.2.2.1, (F.q12 h).2.2.2.2.1, (F.q12 h).2.2.2.2.2.1, (F.q12 h).2.2.2.2.2.2.1, (F.q12 h).2.2.2.2.2.2.2.1, (F.q12 h).2.2.2.2.2.2.2.2.1, (F.q12 h).2.2.2.2.2.2.2.2.2.1, (F.q12 h).2.2.2.2.2.2.2.2.2.2.1, (F.q12 h).2.2.2.2.2.2.2.2.2.2.2⟩, fun _ => rfl, F.f2, F.f3, F.f4, F.f5, F.f6, F.f7, F.f8, F.f9, F.f10, F.f12, F.g12, F.st0, F.st1, F.st2, F.st3, F.st4, F.mz⟩
      clear F
      go_simp
      exact HK.out _ _ ⟨_, _, _, _, _, _, _, _, _, _, _, _, _, _, _, _, rfl, HF.out⟩
    · have hS := F.st0  hd_
      have hres := kc1.out (d_ 5) ms w1 hS
      have HF : Hid (slo8F p A bx av k cv vo j left rm S0 S1 S2 S3 S4 (upd d_ 1) x30 ((.slice (some ⟨w1.heap.size, 0, none⟩) 0 0)) x32 x33 x34 x35 x36 x37 x38 x39 x40 x41 x3 ms r1 r2 (w1.alloc (.cells #[] 3))) := ⟨fun h => ⟨rfl, (F.q3 h).2⟩, F.q5, F.q6, F.q9, F.q11, fun h => ⟨(F.q12 h).1, rfl, (F.q12 h).2.2.1, (F.q12 h).2.2.2.1, (F.q12 h).2.2.2.2.1, (F.q12 h).2.2.2.2.2.1, (F.q12 h).2.2.2.2.2.2.1, (F.q12 h).2.2.2.2.2.2.2.1, (F.q12 h).2.2.2.2.2.2.2.2.1, (F.q12 h).2.2.2.2.2.2.2.2.2.1, (F.q12 h).2.2.2.2.2.2.2.2.2.2.1, (F.q12 h).2.2.2.2.2.2.2.2.2.2.2⟩, F.f0, F.f2, F.f3, F.f4, F.f5, F.f6, F.f7, F.f8, F.f9, F.f10, F.f12, F.g12, fun h => (by simp [upd] at h), fun _ _ => hres, fun h _ => (by have h2 : d_ 1 = true := (F.q3 h).1; rw [show d_ 1 = false from hd_] at h2; cases h2), fun h _ => (by have h2 : d_ 1 = true := (F.q3 (F.q6 h).1).1; rw [show d_ 1 = false from hd_] at h2; cases h2), fun h => (by have h2 : d_ 1 = true := (F.q3 (F.q6 (F.q11 h).2.1).1).1; rw [show d_ 1 = false from hd_] at h2; cases h2), F.mz⟩
      clear F hS hres
      go_simp
      exact HK.out _ _ ⟨_, _, _, _, _, _, _, _, _, _, _, _, _, _, _, _, rfl, HF.out⟩
    · have HF : Hid (slo8F p A bx av k cv vo j left rm S0 S1 S2 S3 S4 (upd d_ 2) x30 x31 (.slice av k cv) x33 x34 x35 x36 x37 x38 x39 x40 x41 x3 ms r1 r2 w1) := ⟨fun h => ⟨(F.q3 h).1, rfl⟩, F.q5, F.q6, F.q9, F.q11, fun h => ⟨(F.q12 h).1, (F.q12 h).2.1, rfl, (F.q12 h).2.2.2.1, (F.q12 h).2.2.2.2.1, (F.q12 h).2.2.2.2.2.1, (F.q12 h).2.2.2.2.2.2.1, (F.q12 h).2.2.2.2.2.2.2.1, (F.q12 h).2.2.2.2.2.2.2.2.1, (F.q12 h).2.2.2.2.2.2.2.2.2.1, (F.q12 h).2.2.2.2.2.2.2.2.2.2.1, (F.q12 h).2.2.2.2.2.2.2.2.2.2.2⟩, F.f0, fun _ => rfl, F.f3, F.f4, F.f5, F.f6, F.f7, F.f8, F.f9, F.f10, F.f12, F.g12, F.st0, F.st1, F.st2, F.st3, F.st4, F.mz⟩
      clear F
      go_simp
      exact HK.out _ _ ⟨_, _, _, _, _, _, _, _, _, _, _, _, _, _, _, _, rfl, HF.out⟩
    · have hS := F.st1 (by simp [hdep] : d_ 1 = true) hd_
      obtain rfl := F.f2 (by simp [hdep])
      obtain ⟨v_, w_, hr, hres⟩ := kc3.out (d_ 5) ms x31 w1 hS
      rw [if_pos (by rfl)]
      refine wpIn_append_run (.tmp 31) (.tmp 32) 24 rfl _ _ _ _ rfl rfl hr ?_
      exact HK.out _ _ ⟨_, _, _, _, _, _, _, _, _, _, _, _, _, ms, v_, r2, rfl, ⟨fun _ => ⟨(show _ from (by simp [hdep] : d_ 1 = true)), (show _ from (by simp [hdep] : d_ 2 = true))⟩, F.q5, fun h => ⟨rfl, (F.q6 h).2⟩, F.q9, F.q11, fun h => ⟨(F.q12 h).1, (F.q12 h).2.1, (F.q12 h).2.2.1, rfl, (F.q12 h).2.2.2.2.1, (F.q12 h).2.2.2.2.2.1, (F.q12 h).2.2.2.2.2.2.1, (F.q12 h).2.2.2.2.2.2.2.1, (F.q12 h).2.2.2.2.2.2.2.2.1, (F.q12 h).2.2.2.2.2.2.2.2.2.1, (F.q12 h).2.2.2.2.2.2.2.2.2.2.1, (F.q12 h).2.2.2.2.2.2.2.2.2.2.2⟩, F.f0, F.f2, fun _ => rfl, F.f4, F.f5, F.f6, F.f7, F.f8, F.f9, F.f10, F.f12, F.g12, fun h => (by have h2 : d_ 1 = false := h; rw [(by simp [hdep] : d_ 1 = true)] at h2; cases h2), fun _ h => (by simp [upd] at h), fun _ _ => hres, fun h _ => (by have h2 : d_ 3 = true := (F.q6 h).1; rw [show d_ 3 = false from hd_] at h2; cases h2), fun h => (by have h2 : d_ 3 = true := (F.q6 (F.q11 h).2.1).1; rw [show d_ 3 = false from hd_] at h2; cases h2), F.mz⟩⟩
    · have HF : Hid (slo8F p A bx av k cv vo j left rm S0 S1 S2 S3 S4 (upd d_ 4) x30 x31 x32 x33 (.int .i64 (j : Int)) x35 x36 x37 x38 x39 x40 x41 x3 ms r1 r2 w1) := ⟨F.q3, fun h => rfl, F.q6, F.q9, F.q11, fun h => ⟨(F.q12 h).1, (F.q12 h).2.1, (F.q12 h).2.2.1, (F.q12 h).2.2.2.1, rfl, (F.q12 h).2.2.2.2.2.1, (F.q12 h).2.2.2.2.2.2.1, (F.q12 h).2.2.2.2.2.2.2.1, (F.q12 h).2.2.2.2.2.2.2.2.1, (F.q12 h).2.2.2.2.2.2.2.2.2.1, (F.q12 h).2.2.2.2.2.2.2.2.2.2.1, (F.q12 h).2.2.2.2.2.2.2.2.2.2.2⟩, F.f0, F.f2, F.f3, fun _ => rfl, F.f5, F.f6, F.f7, F.f8, F.f9, F.f10, F.f12, F.g12, F.st0, F.st1, F.st2, F.st3, F.st4, F.mz⟩
      clear F
      go_simp
      exact HK.out _ _ ⟨_, _, _, _, _, _, _, _, _, _, _, _, _, _, _, _, rfl, HF.out⟩
    · obtain rfl := F.f4 (by simp [hdep])
      have HF : Hid (slo8F p A bx av k cv vo j left rm S0 S1 S2 S3 S4 (upd d_ 5) x30 x31 x32 x33 (.int .i64 (j : Int)) (.slice (some ⟨w1.heap.size, 0, none⟩) 1 1) x36 x37 x38 x39 x40 x41 x3 w1.heap.size r1 r2 (w1.alloc (.cells #[.int .i64 (j : Int)] 3))) := ⟨F.q3, fun _ => (show _ from (by simp [hdep] : d_ 4 = true)), fun h => ⟨(F.q6 h).1, rfl⟩, F.q9, F.q11, fun h => ⟨(F.q12 h).1, (F.q12 h).2.1, (F.q12 h).2.2.1, (F.q12 h).2.2.2.1, (F.q12 h).2.2.2.2.1, rfl, (F.q12 h).2.2.2.2.2.2.1, (F.q12 h).2.2.2.2.2.2.2.1, (F.q12 h).2.2.2.2.2.2.2.2.1, (F.q12 h).2.2.2.2.2.2.2.2.2.1, (F.q12 h).2.2.2.2.2.2.2.2.2.2.1, (F.q12 h).2.2.2.2.2.2.2.2.2.2.2⟩, F.f0, F.f2, F.f3, F.f4, fun _ => rfl, F.f6, F.f7, F.f8, F.f9, F.f10, F.f12, F.g12, fun b => ks0.out w1 (by have h := F.st0 b; rw [show d_ 5 = false from hd_, F.mz hd_] at h; exact h), fun a b => ks1.out x31 w1 (by have h := F.st1 a b; rw [show d_ 5 = false from hd_, F.mz hd_] at h; exact h), fun a b => ks2.out x31 r1 w1 (by have h := F.st2 a b; rw [show d_ 5 = false from hd_, F.mz hd_] at h; exact h), fun a b => (by have h2 : d_ 5 = true := (F.q6 a).2; rw [show d_ 5 = false from hd_] at h2; cases h2), fun a => (by have h2 : d_ 5 = true := (F.q6 (F.q11 a).2.1).2; rw [show d_ 5 = false from hd_] at h2; cases h2), fun h => (by simp [upd] at h)⟩
      clear F
      go_simp
      exact HK.out _ _ ⟨_, _, _, _, _, _, _, _, _, _, _, _, _, _, _, _, rfl, HF.out⟩
    · have hS := F.st2 (by simp [hdep] : d_ 3 = true) hd_
      rw [show d_ 5 = true from (by simp [hdep] : d_ 5 = true)] at hS
      obtain rfl := F.f3 (by simp [hdep])
      obtain rfl := F.f5 (by simp [hdep])
      obtain ⟨v_, w_, hr, hres⟩ := kc6.out ms x31 r1 w1 hS
      rw [if_pos (by rfl)]
      refine wpIn_append_run (.tmp 33) (.tmp 35) 24 rfl _ _ _ _ rfl rfl hr ?_
      exact HK.out _ _ ⟨_, _, _, _, _, _, _, _, _, _, _, _, _, ms, r1, v_, rfl, ⟨F.q3, F.q5, fun _ => ⟨(show _ from (by simp [hdep] : d_ 3 = true)), (show _ from (by simp [hdep] : d_ 5 = true))⟩, F.q9, fun h => ⟨(F.q11 h).1, rfl, (F.q11 h).2.2.1, (F.q11 h).2.2.2⟩, fun h => ⟨(F.q12 h).1, (F.q12 h).2.1, (F.q12 h).2.2.1, (F.q12 h).2.2.2.1, (F.q12 h).2.2.2.2.1, (F.q12 h).2.2.2.2.2.1, rfl, (F.q12 h).2.2.2.2.2.2.2.1, (F.q12 h).2.2.2.2.2.2.2.2.1, (F.q12 h).2.2.2.2.2.2.2.2.2.1, (F.q12 h).2.2.2.2.2.2.2.2.2.2.1, (F.q12 h).2.2.2.2.2.2.2.2.2.2.2⟩, F.f0, F.f2, F.f3, F.f4, F.f5, fun _ => rfl, F.f7, F.f8, F.f9, F.f10, F.f12, F.g12, fun h => (by have h2 : d_ 1 = false := h; rw [(F.q3 (by simp [hdep] : d_ 3 = true)).1] at h2; cases h2), fun _ h => (by have h2 : d_ 3 = false := h; rw [(by simp [hdep] : d_ 3 = true)] at h2; cases h2), fun _ h => (by simp [upd] at h), fun _ _ => (by rw [show upd d_ 6 5 = true from (by simp [hdep] : d_ 5 = true)]; exact hres), fun h => (by have h2 : d_ 6 = true := (F.q11 h).2.1; rw [show d_ 6 = false from hd_] at h2; cases h2), F.mz⟩⟩
    · have HF : Hid (slo8F p A bx av k cv vo j left rm S0 S1 S2 S3 S4 (upd d_ 7) x30 x31 x32 x33 x34 x35 x36 (.int .i64 (left : Int)) x38 x39 x40 x41 x3 ms r1 r2 w1) := ⟨F.q3, F.q5, F.q6, fun h => ⟨rfl, (F.q9 h).2⟩, F.q11, fun h => ⟨(F.q12 h).1, (F.q12 h).2.1, (F.q12 h).2.2.1, (F.q12 h).2.2.2.1, (F.q12 h).2.2.2.2.1, (F.q12 h).2.2.2.2.2.1, (F.q12 h).2.2.2.2.2.2.1, rfl, (F.q12 h).2.2.2.2.2.2.2.2.1, (F.q12 h).2.2.2.2.2.2.2.2.2.1, (F.q12 h).2.2.2.2.2.2.2.2.2.2.1, (F.q12 h).2.2.2.2.2.2.2.2.2.2.2⟩, F.f0, F.f2, F.f3, F.f4, F.f5, F.f6, fun _ => rfl, F.f8, F.f9, F.f10, F.f12, F.g12, F.st0, F.st1, F.st2, F.st3, F.st4, F.mz⟩
      clear F
      go_simp
      exact HK.out _ _ ⟨_, _, _, _, _, _, _, _, _, _, _, _, _, _, _, _, rfl, HF.out⟩
    · have HF : Hid (slo8F p A bx av k cv vo j left rm S0 S1 S2 S3 S4 (upd d_ 8) x30 x31 x32 x33 x34 x35 x36 x37 (.int .i64 (j : Int)) x39 x40 x41 x3 ms r1 r2 w1) := ⟨F.q3, F.q5, F.q6, fun h => ⟨(F.q9 h).1, rfl⟩, F.q11, fun h => ⟨(F.q12 h).1, (F.q12 h).2.1, (F.q12 h).2.2.1, (F.q12 h).2.2.2.1, (F.q12 h).2.2.2.2.1, (F.q12 h).2.2.2.2.2.1, (F.q12 h).2.2.2.2.2.2.1, (F.q12 h).2.2.2.2.2.2.2.1, rfl, (F.q12 h).2.2.2.2.2.2.2.2.2.1, (F.q12 h).2.2.2.2.2.2.2.2.2.2.1, (F.q12 h).2.2.2.2.2.2.2.2.2.2.2⟩, F.f0, F.f2, F.f3, F.f4, F.f5, F.f6, F.f7, fun _ => rfl, F.f9, F.f10, F.f12, F.g12, F.st0, F.st1, F.st2, F.st3, F.st4, F.mz⟩
      clear F
      go_simp
      exact HK.out _ _ ⟨_, _, _, _, _, _, _, _, _, _, _, _, _, _, _, _, rfl, HF.out⟩
    · obtain rfl := F.f7 (by simp [hdep])
      obtain rfl := F.f8 (by simp [hdep])
      have HF : Hid (slo8F p A bx av k cv vo j left rm S0 S1 S2 S3 S4 (upd d_ 9) x30 x31 x32 x33 x34 x35 x36 (.int .i64 (left : Int)) (.int .i64 (j : Int)) (.int .i64 (rm : Int)) x40 x41 x3 ms r1 r2 w1) := ⟨F.q3, F.q5, F.q6, fun _ => ⟨(show _ from (by simp [hdep] : d_ 7 = true)), (show _ from (by simp [hdep] : d_ 8 = true))⟩, fun h => ⟨(F.q11 h).1, (F.q11 h).2.1, rfl, (F.q11 h).2.2.2⟩, fun h => ⟨(F.q12 h).1, (F.q12 h).2.1, (F.q12 h).2.2.1, (F.q12 h).2.2.2.1, (F.q12 h).2.2.2.2.1, (F.q12 h).2.2.2.2.2.1, (F.q12 h).2.2.2.2.2.2.1, (F.q12 h).2.2.2.2.2.2.2.1, (F.q12 h).2.2.2.2.2.2.2.2.1, rfl, (F.q12 h).2.2.2.2.2.2.2.2.2.2.1, (F.q12 h).2.2.2.2.2.2.2.2.2.2.2⟩, F.f0, F.f2, F.f3, F.f4, F.f5, F.f6, F.f7, F.f8, fun _ => rfl, F.f10, F.f12, F.g12, F.st0, F.st1, F.st2, F.st3, F.st4, F.mz⟩
      clear F
      go_simp
      exact HK.out _ _ ⟨_, _, _, _, _, _, _, _, _, _, _, _, _, _, _, _, rfl, HF.out⟩
    · have n12_ : d_ 12 = false := by
        cases e_ : d_ 12 with
        | false => rfl
        | true => have h2 := (F.q12 e_).2.2.2.2.2.2.2.2.2.2.1; rw [show d_ 10 = false from hd_] at h2; cases h2
      have g12_ := F.g12 n12_
      subst g12_
      have HF : Hid (slo8F p A bx av k cv vo j left rm S0 S1 S2 S3 S4 (upd d_ 10) x30 x31 x32 x33 x34 x35 x36 x37 x38 x39 (vo) x41 (vo) ms r1 r2 w1) := ⟨F.q3, F.q5, F.q6, F.q9, fun h => ⟨(F.q11 h).1, (F.q11 h).2.1, (F.q11 h).2.2.1, rfl⟩, fun h => ⟨(F.q12 h).1, (F.q12 h).2.1, (F.q12 h).2.2.1, (F.q12 h).2.2.2.1, (F.q12 h).2.2.2.2.1, (F.q12 h).2.2.2.2.2.1, (F.q12 h).2.2.2.2.2.2.1, (F.q12 h).2.2.2.2.2.2.2.1, (F.q12 h).2.2.2.2.2.2.2.2.1, (F.q12 h).2.2.2.2.2.2.2.2.2.1, rfl, (F.q12 h).2.2.2.2.2.2.2.2.2.2.2⟩, F.f0, F.f2, F.f3, F.f4, F.f5, F.f6, F.f7, F.f8, F.f9, fun _ => rfl, F.f12, F.g12, F.st0, F.st1, F.st2, F.st3, F.st4, F.mz⟩
      clear F
      go_simp
      exact HK.out _ _ ⟨_, _, _, _, _, _, _, _, _, _, _, _, _, _, _, _, rfl, HF.out⟩
    · have hS := F.st3 (by simp [hdep] : d_ 6 = true) hd_
      rw [show d_ 5 = true from (F.q6 (by simp [hdep] : d_ 6 = true)).2] at hS
      obtain rfl := F.f0 (by simp [hdep])
      obtain rfl := F.f6 (by simp [hdep])
      obtain rfl := F.f9 (by simp [hdep])
      obtain rfl := F.f10 (by simp [hdep])
      have hc := kc11.out ms x31 r1 r2 w1 hS
      have HF := Lib.hid F
      clear F
      go_simp
      refine ⟨trivial, rfl, wideAt_calls (hc.mono ?_)⟩
      rintro e w5 ⟨v_, rfl, hres⟩
      exact HK.out _ _ ⟨_, _, _, _, _, _, _, _, _, _, _, _, _, ms, r1, r2, rfl, ⟨HF.out.q3, HF.out.q5, HF.out.q6, HF.out.q9, fun _ => ⟨(show _ from (by simp [hdep] : d_ 0 = true)), (show _ from (by simp [hdep] : d_ 6 = true)), (show _ from (by simp [hdep] : d_ 9 = true)), (show _ from (by simp [hdep] : d_ 10 = true))⟩, fun h => ⟨(HF.out.q12 h).1, (HF.out.q12 h).2.1, (HF.out.q12 h).2.2.1, (HF.out.q12 h).2.2.2.1, (HF.out.q12 h).2.2.2.2.1, (HF.out.q12 h).2.2.2.2.2.1, (HF.out.q12 h).2.2.2.2.2.2.1, (HF.out.q12 h).2.2.2.2.2.2.2.1, (HF.out.q12 h).2.2.2.2.2.2.2.2.1, (HF.out.q12 h).2.2.2.2.2.2.2.2.2.1, (HF.out.q12 h).2.2.2.2.2.2.2.2.2.2.1, rfl⟩, HF.out.f0, HF.out.f2, HF.out.f3, HF.out.f4, HF.out.f5, HF.out.f6, HF.out.f7, HF.out.f8, HF.out.f9, HF.out.f10, fun h => (by have h2 : d_ 11 = true := (HF.out.q12 h).2.2.2.2.2.2.2.2.2.2.2; rw [show d_ 11 = false from hd_] at h2; cases h2), HF.out.g12, fun h => (by have h2 : d_ 1 = false := h; rw [(HF.out.q3 (HF.out.q6 (by simp [hdep] : d_ 6 = true)).1).1] at h2; cases h2), fun _ h => (by have h2 : d_ 3 = false := h; rw [(HF.out.q6 (by simp [hdep] : d_ 6 = true)).1] at h2; cases h2), fun _ h => (by have h2 : d_ 6 = false := h; rw [(by simp [hdep] : d_ 6 = true)] at h2; cases h2), fun _ h => (by simp [upd] at h), fun _ => (by rw [show upd d_ 11 5 = true from (HF.out.q6 (by simp [hdep] : d_ 6 = true)).2]; exact hres), HF.out.mz⟩⟩
    · have HF : Hid (slo8F p A bx av k cv vo j left rm S0 S1 S2 S3 S4 (upd d_ 12) x30 x31 x32 x33 x34 x35 x36 x37 x38 x39 x40 x41 (x41) ms r1 r2 w1) := ⟨F.q3, F.q5, F.q6, F.q9, F.q11, fun _ => ⟨(show _ from (by simp [hdep] : d_ 0 = true)), (show _ from (by simp [hdep] : d_ 1 = true)), (show _ from (by simp [hdep] : d_ 2 = true)), (show _ from (by simp [hdep] : d_ 3 = true)), (show _ from (by simp [hdep] : d_ 4 = true)), (show _ from (by simp [hdep] : d_ 5 = true)), (show _ from (by simp [hdep] : d_ 6 = true)), (show _ from (by simp [hdep] : d_ 7 = true)), (show _ from (by simp [hdep] : d_ 8 = true)), (show _ from (by simp [hdep] : d_ 9 = true)), (show _ from (by simp [hdep] : d_ 10 = true)), (show _ from (by simp [hdep] : d_ 11 = true))⟩, F.f0, F.f2, F.f3, F.f4, F.f5, F.f6, F.f7, F.f8, F.f9, F.f10, fun _ => rfl, fun h => (by simp [upd] at h), F.st0, F.st1, F.st2, F.st3, F.st4, F.mz⟩
      clear F
      go_simp
      exact HK.out _ _ ⟨_, _, _, _, _, _, _, _, _, _, _, _, _, _, _, _, rfl, HF.out⟩
  · rintro d_ a_ w1 hall ⟨x30, x31, x32, x33, x34, x35, x36, x37, x38, x39, x40, x41, x3, ms, r1, r2, rfl, F⟩
    have hall' : ∀ k, k < 13 → d_ k = true := hall
    obtain rfl := F.f0 (hall' 0 (by decide))
    obtain rfl := F.f2 (hall' 2 (by decide))
    obtain rfl := F.f3 (hall' 3 (by decide))
    obtain rfl := F.f4 (hall' 4 (by decide))
    obtain rfl := F.f5 (hall' 5 (by decide))
    obtain rfl := F.f6 (hall' 6 (by decide))
    obtain rfl := F.f7 (hall' 7 (by decide))
    obtain rfl := F.f8 (hall' 8 (by decide))
    obtain rfl := F.f9 (hall' 9 (by decide))
    obtain rfl := F.f10 (hall' 10 (by decide))
    have h_ := (F.f12 (hall' 12 (by decide))).symm
    subst h_
    have hst := F.st4 (hall' 11 (by decide))
    rw [show d_ 5 = true from hall' 5 (by decide)] at hst
    exact HQ.out ms x31 r1 r2 x41 w1 hst
end Go.Proofs.Ytjkhclijmcmdjaa
namespace Go.Proofs.Ytjkhclijmcmdjaa
open Go.RowKit
set_option linter.unusedVariables false
set_option linter.unusedSimpArgs false
def accS (D : Nat → List (List Int)) (acc : List (List Int)) (j : Nat) : List (List Int) := acc ++ (List.range j).flatMap D
theorem accS_zero (D : Nat → List (List Int)) (acc : List (List Int)) : accS D acc 0 = acc := by simp [accS]
theorem accS_succ (D : Nat → List (List Int)) (acc : List (List Int)) (j : Nat) : accS D acc (j + 1) = accS D acc j ++ D j := by
  unfold accS
  rw [List.range_succ, List.flatMap_append]
  simp
theorem accS_mono (D : Nat → List (List Int)) (acc : List (List Int)) (j : Nat) : ∀ m, (accS D acc j).length ≤ (accS D acc (j + m)).length
  | 0 => Nat.le_refl _
  | m + 1 => by
    have h1 := accS_mono D acc j m
    rw [show j + (m + 1) = j + m + 1 from rfl, accS_succ, List.length_append]
    omega
theorem accS_le (D : Nat → List (List Int)) (acc : List (List Int)) {j n : Nat} (h : j < n) : (accS D acc j).length + (D j).length ≤ (accS D acc n).length := by
  have h1 := accS_mono D acc (j + 1) (n - (j + 1))
  rw [show j + 1 + (n - (j + 1)) = n by omega, accS_succ, List.length_append] at h1
  exact h1
set_option maxRecDepth 100000 in
set_option maxHeartbeats 4000000 in
theorem sl_leaf {W0 : World} {p : Prs} {PA : PrsA} {pre : List Int} {left : Nat} {acc : List (List Int)} {A : World} {vp vo : Value} (hl : pre.length = p.wanted.length) (hw : p.wanted.length ≤ 20) (hlr : left ≤ 6) (hr : 0 ≤ p.room ∧ p.room ≤ 6) (hacc : acc.length ≤ 1000000) (hA : Below W0.heap.size W0 A) (hR : RowsAt A W0.heap.size vo acc) (hown : A.ownsRow W0.heap.size 3 1 vp pre.length (pre.map (Value.int .i64))) :
    Calls Try.prog 88 #[p.v PA, vp, .int .i64 (left : Int), vo] A fun e A' => ∃ v', e = .returned v' ∧ WyPost W0.heap.size (acc ++ slotsF p.room 0 pre left) A vo v' A' := by
  have hb0 : Below A.heap.size A (A.alloc (.cells (p.arr PA) 27)) := (Below.refl _ A).alloc (Nat.le_refl _) _
  have q0 := World.alloc_heap_new A (.cells (p.arr PA) 27)
  have s0 : (A.alloc (.cells (p.arr PA) 27)).heap.size = A.heap.size + 1 := World.size_alloc ..
  obtain ⟨av, cv, rfl, _⟩ := own_slice hown
  obtain ⟨ao, co, rfl⟩ := rows_int hR
  have HH := Lib.hid (And.intro hb0 (And.intro q0 (And.intro s0 (And.intro hA (And.intro hR (And.intro hown hacc))))))
  clear hb0 q0 s0 hA hR hown hacc
  go_enter Try.func88, Try.ntmps88
  refine wp_seq_hid ?_
  intro K0 HK0
  go_wp2_with fail
  refine HK0.out _ _ ?_
  clear HK0 K0
  revert HH
  generalize A.alloc (.cells (p.arr PA) 27) = A1
  intro HH
  have HA1 := Lib.hid (And.intro (HH.out.2.2.2.2.1.below HH.out.1) (And.intro (HH.out.2.2.2.1.trans (HH.out.1.mono HH.out.2.2.2.1.size)) (own_below HH.out.2.2.2.2.2.1 HH.out.1)))
  have pc := prs_cells HH.out.2.1
  have c0 := pc.c0
  have c6 := pc.c6
  clear pc
  have hd1 : (((pre.length : Int)) == ((p.wanted.length : Int))) = true := by simp [hl]
  clear hl
  refine wp_seq_hid ?_
  intro K1 HK1
  by_cases hlt : (left : Int) < p.room
  · have HE : Hid (acc ++ slotsF p.room 0 pre left = acc ++ [pre]) := by rw [Hid]; unfold slotsF; rw [if_pos hlt]
    rw [HE.out]
    clear HE
    obtain ⟨v1, w1, hrun, hpost⟩ := rows_add HA1.out.1 (Below.refl _ _) HA1.out.2.2 HA1.out.2.1.size HH.out.2.2.2.2.2.2
    have HR := Lib.hid hrun
    have HQ := Lib.hid hpost
    clear hrun hpost
    have hd2 : decide ((left : Int) < p.room) = true := by simpa using hlt
    clear hlt
    go_upto_region 3 with fail
    go_wp2_with (at_builtin; refine wpList_append_run rfl (.tmp 20) (.tmp 22) 115 rfl (.slice ao acc.length co) (.slice (some ⟨A1.heap.size, 0, none⟩) 1 1) v1 w1 rfl rfl HR.out ?_)
    go_ret
    exact ⟨_, rfl, WyPost.after HH.out.1 HQ.out⟩
  · have HE : Hid (acc ++ slotsF p.room 0 pre left = acc) := by rw [Hid]; unfold slotsF; rw [if_neg hlt, List.append_nil]
    rw [HE.out]
    clear HE
    have hd2 : decide ((left : Int) < p.room) = false := by simpa using hlt
    clear hlt
    go_wp2_with fail
    go_ret
    exact ⟨_, rfl, WyPost.after HH.out.1 (WyPost.refl HA1.out.1)⟩
set_option maxRecDepth 100000 in
set_option maxHeartbeats 4000000 in
theorem sl_step {W0 : World} {p : Prs} {PA : PrsA} {D : Nat → List (List Int)} {pre : List Int} {left : Nat} {acc : List (List Int)} {A : World} {vp vo : Value} (hl : pre.length < p.wanted.length) (hw : p.wanted.length ≤ 4) (hlr : left ≤ 6)
    (hcall : ∀ j, j < left + 1 → ∀ (acc : List (List Int)) (A : World) (vp vo : Value), acc.length + (D j).length ≤ 1000000 → Below W0.heap.size W0 A → RowsAt A W0.heap.size vo acc → A.ownsRow W0.heap.size 3 1 vp (pre ++ [(j : Int)]).length ((pre ++ [(j : Int)]).map (Value.int .i64)) →
      Calls Try.prog 88 #[p.v PA, vp, .int .i64 ((left - j : Nat) : Int), vo] A fun e A' => ∃ v', e = .returned v' ∧ WyPost W0.heap.size (acc ++ D j) A vo v' A')
    (hacc : (accS D acc (left + 1)).length ≤ 1000000) (hA : Below W0.heap.size W0 A) (hR : RowsAt A W0.heap.size vo acc) (hown : A.ownsRow W0.heap.size 3 1 vp pre.length (pre.map (Value.int .i64))) :
    Calls Try.prog 88 #[p.v PA, vp, .int .i64 (left : Int), vo] A fun e A' => ∃ v', e = .returned v' ∧ WyPost W0.heap.size (accS D acc (left + 1)) A vo v' A' := by
  have hb0 : Below A.heap.size A (A.alloc (.cells (p.arr PA) 27)) := (Below.refl _ A).alloc (Nat.le_refl _) _
  have q0 := World.alloc_heap_new A (.cells (p.arr PA) 27)
  have s0 : (A.alloc (.cells (p.arr PA) 27)).heap.size = A.heap.size + 1 := World.size_alloc ..
  obtain ⟨av, cv, rfl, _⟩ := own_slice hown
  obtain ⟨ao, co, rfl⟩ := rows_int hR
  have HH := Lib.hid (And.intro hb0 (And.intro q0 (And.intro s0 (And.intro hA (And.intro hR (And.intro hown hacc))))))
  have HIH := Lib.hid hcall
  clear hcall hb0 q0 s0 hA hR hown hacc
  go_enter Try.func88, Try.ntmps88
  refine wp_seq_hid ?_
  intro K0 HK0
  go_wp2_with fail
  refine HK0.out _ _ ?_
  clear HK0 K0
  revert HH
  generalize A.alloc (.cells (p.arr PA) 27) = A1
  intro HH
  have HA1 := Lib.hid (And.intro (HH.out.2.2.2.2.1.below HH.out.1) (And.intro (HH.out.2.2.2.1.trans (HH.out.1.mono HH.out.2.2.2.1.size)) (own_below HH.out.2.2.2.2.2.1 HH.out.1)))
  have c6 := (prs_cells HH.out.2.1).c6
  have hd1 : (((pre.length : Int)) == ((p.wanted.length : Int))) = false := by simp; omega
  refine wp_seq_hid ?_
  intro K1 HK1
  go_wp2_with fail
  refine HK1.out _ _ ?_
  clear HK1 K1 c6 hd1
  have hpl : pre.length ≤ 4 := by omega
  go_wp2_with fail
  clear hl hw
  go_loopw [3, 9] (fun o q wr => ∃ (j : Nat) (ao' : Option Addr) (co' : Nat), j ≤ left + 1 ∧ q = .int .i64 (j : Int) ∧ o = .slice ao' (accS D acc j).length co' ∧ Hid (WyPost W0.heap.size (accS D acc j) A1 (.slice ao acc.length co) o wr)) (fun o q _ => (left : Int) + 1 - intOf q |>.toNat)
  case atStart => exact ⟨0, ao, co, by omega, by go_num, by rw [accS_zero], by rw [Hid, accS_zero]; exact WyPost.refl HA1.out.1⟩
  case round =>
    obtain ⟨j, ao', co', hj, rfl, rfl, HW⟩ := hrel
    have hbw := HW.out.below HA1.out.1 HA1.out.2.1.size
    have hq := (HW.out.grown.block A.heap.size (by have := HH.out.2.2.1; omega) (fun e => by have := (HH.out.2.2.2.2.1.lt e.symm).2; omega)).trans HH.out.2.1
    have HB := Lib.hid (HA1.out.2.1.trans hbw)
    have HQ2 := Lib.hid hq
    have hown' := HW.out.ints HA1.out.1 HA1.out.2.2
    have HO := Lib.hid hown'
    clear hbw hq hown'
    by_cases hlt : j < left + 1
    · have HS : Hid (accS D acc (j + 1) = accS D acc j ++ D j) := accS_succ D acc j
      have HL : Hid ((accS D acc j).length + (D j).length ≤ 1000000) := by
        have h1 := accS_le D acc hlt
        have h2 := HH.out.2.2.2.2.2.2
        rw [Hid]
        omega
      have HC := Lib.hid (HIH.out j hlt)
      go_upto_region 8 with fail
      have HJ := Lib.hid (And.intro hj hlt)
      have hrm : IntKind.i64.wrap ((left : Int) - (j : Int)) = ((left - j : Nat) : Int) := by rw [IntWalk.i64_in _ (by omega)]; omega
      have hW0 : Below wr.heap.size wr wr := Below.refl _ wr
      have kp : ∀ v, Below wr.heap.size wr v → PrsC v A.heap.size p PA := fun v h => prs_cells ((h.block _ (heap_lt HQ2.out)).trans HQ2.out)
      refine wpIn_wide.1 (slo8 (p := p) (A := PA) (bx := A.heap.size) (av := av) (k := pre.length) (cv := cv) (vo := .slice ao' (accS D acc j).length co') (j := j) (left := left) (rm := left - j)
        (S0 := fun fs ms w => Below wr.heap.size wr w ∧ (fs = true → wr.heap.size ≤ ms ∧ w.heap[ms]? = some (.cells #[.int .i64 (j : Int)] 3 (0, 0))))
        (S1 := fun fs ms xs w => Below wr.heap.size wr w ∧ w.ownsRow wr.heap.size 3 1 xs 0 [] ∧ (fs = true → xs.ownBlock ≠ some ms ∧ w.heap[ms]? = some (.cells #[.int .i64 (j : Int)] 3 (0, 0))))
        (S2 := fun fs ms xs r1 w => Below wr.heap.size wr w ∧ w.ownsRow wr.heap.size 3 1 (.slice r1.1 pre.length r1.2) pre.length (pre.map (Value.int .i64)) ∧ (fs = true → w.heap[ms]? = some (.cells #[.int .i64 (j : Int)] 3 (0, 0))))
        (S3 := fun fs ms xs r1 r2 w => Below wr.heap.size wr w ∧ w.ownsRow wr.heap.size 3 1 (.slice r2.1 (pre.length + 1) r2.2) (pre ++ [(j : Int)]).length ((pre ++ [(j : Int)]).map (Value.int .i64)))
        (S4 := fun fs ms xs r1 r2 x41 w => WyPost W0.heap.size (accS D acc (j + 1)) wr (.slice ao' (accS D acc j).length co') x41 w)
        hrm ?h0 ?l0 ?c1 ?c3 ?s0 ?s1 ?s2 ?c6 ?c8 ?hQ)
      case h0 => exact ⟨hW0.drew, fun h => by cases h⟩
      case l0 =>
        intro fs ms xs r1 r2 w h
        have k := kp w (by rcases h with h | h | h | h <;> exact h.1)
        exact ⟨k.c0, k.c1, k.c2, k.c3, k.c4, k.c5, k.c6, k.c7, k.c8, k.c9⟩
      case c1 => exact fun fs ms w h => ⟨h.1.alloc h.1.size _, ownsRow_zero h.1.size, fun hf => ⟨fun e => by have e' : some w.heap.size = some ms := e; cases e'; have := heap_lt (h.2 hf).2; omega, (Below.heap_alloc w _ ms (heap_lt (h.2 hf).2)).trans (h.2 hf).2⟩⟩
      case c3 =>
        intro fs ms xs w h
        obtain ⟨r1, w', hrun, hb', ho', hk⟩ := copy_new (cv := cv) (by omega) h.1 h.2.1 ((own_ints HO.out).mono h.1)
        exact ⟨r1, w', hrun, hb', ho', fun hf => (hk ms (heap_lt (h.2.2 hf).2) (h.2.2 hf).1).1.trans (h.2.2 hf).2⟩
      case s0 => exact fun w h => ⟨h.1.alloc h.1.size _, fun _ => ⟨h.1.size, World.alloc_heap_new _ _⟩⟩
      case s1 => exact fun xs w h => ⟨h.1.alloc h.1.size _, h.2.1.alloc _, fun _ => ⟨fun e => by have := (h.2.1.lt _ e).2; omega, World.alloc_heap_new _ _⟩⟩
      case s2 => exact fun xs r1 w h => ⟨h.1.alloc h.1.size _, h.2.1.alloc _, fun _ => World.alloc_heap_new _ _⟩
      case c6 =>
        intro ms xs r1 w h
        obtain ⟨r2, w', hrun, hb', ho'⟩ := copy_more (by omega) h.1 h.2.1 (h.2.2 rfl)
        exact ⟨r2, w', hrun, hb', ho'⟩
      case c8 =>
        intro ms xs r1 r2 w h
        have hwr : W0.heap.size ≤ wr.heap.size := HB.out.size
        refine (HC.out (accS D acc j) w (.slice r2.1 (pre.length + 1) r2.2) (.slice ao' (accS D acc j).length co') HL.out (HB.out.trans (h.1.mono hwr)) (HW.out.rows.below h.1) (own_base h.2 hwr)).mono ?_
        rintro e w' ⟨v', rfl, hp⟩
        exact ⟨v', rfl, by rw [HS.out]; exact WyPost.after h.1 hp⟩
      case hQ =>
        intro ms xs r1 r2 x41 w' h
        have h2 := HW.out.trans h
        obtain ⟨a2, c2, rfl⟩ := rows_int h.rows
        have H2 := Lib.hid h2
        clear h h2 kp hW0 hrm
        go_wp2_with fail
        go_roundw
        case rel => exact ⟨j + 1, a2, c2, by have := HJ.out; omega, by go_num, rfl, H2.out⟩
        case measure => have := HJ.out; simp [intOf]; omega
    · obtain rfl : j = left + 1 := by omega
      go_wp2_with fail
      go_ret
      exact ⟨_, rfl, WyPost.after HH.out.1 HW.out⟩
theorem slots88 {W0 : World} {p : Prs} {PA : PrsA} (hw : p.wanted.length ≤ 4) (hr : 0 ≤ p.room ∧ p.room ≤ 6) : ∀ (d : Nat) (pre : List Int) (left : Nat) (acc : List (List Int)) (A : World) (vp vo : Value), pre.length + d = p.wanted.length → left ≤ 6 →
    acc.length + (slotsF p.room d pre left).length ≤ 1000000 → Below W0.heap.size W0 A → RowsAt A W0.heap.size vo acc → A.ownsRow W0.heap.size 3 1 vp pre.length (pre.map (Value.int .i64)) →
    Calls Try.prog 88 #[p.v PA, vp, .int .i64 (left : Int), vo] A fun e A' => ∃ v', e = .returned v' ∧ WyPost W0.heap.size (acc ++ slotsF p.room d pre left) A vo v' A' := by
  intro d
  induction d with
  | zero => exact fun pre left acc A vp vo hl hlr hacc hA hR hown => sl_leaf (by omega) (by omega) hlr hr (by omega) hA hR hown
  | succ d ih =>
    intro pre left acc A vp vo hl hlr hacc hA hR hown
    have e : accS (slF p.room d pre left) acc (left + 1) = acc ++ slotsF p.room (d + 1) pre left := rfl
    rw [← e]
    refine sl_step (by omega) hw hlr (fun j hj acc A vp vo h1 h2 h3 h4 => ?_) (by rw [e, List.length_append]; exact hacc) hA hR hown
    exact ih (pre ++ [(j : Int)]) (left - j) acc A vp vo (by simp; omega) (by omega) h1 h2 h3 h4
end Go.Proofs.Ytjkhclijmcmdjaa
namespace Go.Proofs.Ytjkhclijmcmdjaa
open Go.RowKit
set_option linter.unusedVariables false
set_option linter.unusedSimpArgs false
theorem room_bd {p : Prs} (hV : p.valid = true) : 1 ≤ p.room ∧ p.room ≤ 6 := by
  simp [Prs.valid, Prs.sizeOk, inR] at hV
  omega
theorem most_up {p : Prs} (hV : p.valid = true) {m : Nat} (h1 : 1 ≤ m) (h2 : (m : Int) ≤ p.most) (h : ∀ v, v < p.wanted.length → gi p.wanted v ≤ (p.good (m : Int)).lo) : (m : Int) = p.most := by
  have h0 := wants_ne hV
  obtain ⟨⟨v, hv, e⟩, _⟩ := maxL_mem (l := p.wanted) (by intro e; rw [e] at h0; simp at h0)
  have h3 := h v hv
  rw [← e] at h3
  have h4 := (enough_spec p (maxL p.wanted)).2.1
  have h5 : ¬ m < p.enoughN (maxL p.wanted) := fun hm => h4 m hm h3
  unfold Prs.most at h2 ⊢
  rw [enough_eq] at h2 ⊢
  omega
def Prs.fam (p : Prs) (s : List Int) : List Fme := (List.range p.most.toNat).map fun (n : Nat) => ⟨s, (n : Int) + 1⟩
def Prs.fmesR (p : Prs) : List Fme := p.slots.flatMap p.fam
def Prs.fmesAt (p : Prs) (i j : Nat) : List Fme := (p.slots.take i).flatMap p.fam ++ (List.range j).map fun (n : Nat) => ⟨gl p.slots i, (n : Int) + 1⟩
theorem fmesAt_zero (p : Prs) : p.fmesAt 0 0 = [] := by simp [Prs.fmesAt]
theorem fmesAt_step (p : Prs) (i j : Nat) : p.fmesAt i (j + 1) = p.fmesAt i j ++ [⟨gl p.slots i, (j : Int) + 1⟩] := by
  unfold Prs.fmesAt
  rw [List.range_succ, List.map_append, ← List.append_assoc]
  rfl
theorem fmesAt_next (p : Prs) {i : Nat} (h : i < p.slots.length) : p.fmesAt i p.most.toNat = p.fmesAt (i + 1) 0 := by
  unfold Prs.fmesAt
  rw [List.take_add_one, List.getElem?_eq_getElem h, List.flatMap_append]
  simp [Prs.fam, gl, h]
theorem fmesAt_end (p : Prs) : p.fmesAt p.slots.length 0 = p.fmesR := by simp [Prs.fmesAt, Prs.fmesR]
theorem fmesAt_len (p : Prs) (i j : Nat) : (p.fmesAt i j).length ≤ i * p.most.toNat + j := by
  unfold Prs.fmesAt
  rw [List.length_append, List.length_map, List.length_range]
  have h := flatMap_le p.fam p.most.toNat (p.slots.take i) (fun x _ => by simp [Prs.fam])
  have h2 : (p.slots.take i).length * p.most.toNat ≤ i * p.most.toNat := Nat.mul_le_mul_right _ (by rw [List.length_take]; omega)
  omega
theorem fmesAt_bd {p : Prs} (hV : p.valid = true) {i j : Nat} (hi : i ≤ p.slots.length) (hj : (j : Int) ≤ p.most) : (p.fmesAt i j).length ≤ 700000 := by
  have h1 := fmesAt_len p i j
  have h2 := slots_len hV
  have h3 := most_bd hV
  have h4 : i * p.most.toNat ≤ 2401 * 268 := Nat.mul_le_mul (by omega) (by omega)
  omega
/-- All slots, from the reference. -/
theorem slots88n {p : Prs} {A : PrsA} (hV : p.valid = true) (w : World) : Calls Try.prog 88 #[p.v A, .slice none 0 0, .int .i64 p.room, .slice none 0 0] w fun e w' => ∃ a c, e = .returned (.slice a p.slots.length c) ∧ AllI w.heap.size w' a p.slots ∧ Below w.heap.size w w' := by
  have h1 := wants_ne hV
  have h2 := room_bd hV
  have h3 := slots_len hV
  have e : ((p.room.toNat : Nat) : Int) = p.room := by omega
  have h := slots88 (W0 := w) (p := p) (PA := A) h1.2 (by omega) p.wanted.length [] p.room.toNat [] w (.slice none 0 0) (.slice none 0 0) (by simp) (by omega) (by have : (slotsF p.room p.wanted.length [] p.room.toNat).length ≤ 2401 := h3
                                                                                                                                                                   simp; omega) (Below.refl _ w) rows_nil (World.ownsRow_nil w _ _ _)
  rw [e] at h
  refine h.mono ?_
  rintro r w' ⟨v', rfl, hp⟩
  rw [List.nil_append] at hp
  obtain ⟨vs, k1, k2⟩ := hp.rows
  obtain ⟨a, c, e2, _, _, k3⟩ := rows_all (L := p.slots) k1 k2
  exact ⟨a, c, by rw [e2], k3, hp.below rows_nil (Nat.le_refl _)⟩
end Go.Proofs.Ytjkhclijmcmdjaa
namespace Go.Proofs.Ytjkhclijmcmdjaa
open Go.RowKit
set_option linter.unusedVariables false
set_option linter.unusedSimpArgs false
set_option maxRecDepth 100000 in
set_option maxHeartbeats 1500000 in
theorem formes56 {p : Prs} {A : PrsA} {w : World} (hV : p.valid = true) (hP : IsPrs w p A) :
    Calls Try.prog 56 #[p.v A] w fun e w' => ∃ a c, e = .returned (.slice a p.fmesR.length c) ∧ IsFmes w' a p.fmesR ∧ Below w.heap.size w w' := by
  have hb0 : Below w.heap.size w (w.alloc (.cells (p.arr A) 27)) := (Below.refl _ w).alloc (Nat.le_refl _) _
  have q0 := World.alloc_heap_new w (.cells (p.arr A) 27)
  have HX := Lib.hid (And.intro q0 (And.intro hb0 (hP.mono hb0)))
  have HV := Lib.hid hV
  have hw := wants_ne hV
  have hroom := room_bd hV
  have hmo := most_bd hV
  obtain ⟨M, hM⟩ : ∃ M : Nat, (M : Int) = p.most := ⟨p.most.toNat, by omega⟩
  have HM := Lib.hid hM
  rw [← hM] at hmo
  clear hb0 q0 hP hM hV
  go_enter Try.func56, Try.ntmps56
  refine wp_seq_hid ?_
  intro K0 HK0
  go_wp2_with fail
  refine HK0.out _ _ ?_
  clear HK0 K0
  revert HX
  generalize w.alloc (.cells (p.arr A) 27) = w1
  generalize w.heap.size = bp
  intro HX
  have HPC := Lib.hid (prs_cells HX.out.1)
  refine wp_seq_hid ?_
  intro K1 HK1
  go_wp2_with fail
  refine HK1.out _ _ ?_
  clear HK1 K1
  refine wp_seq_hid ?_
  intro K2 HK2
  have z6 := HPC.out.c6
  go_wp2_with fail
  go_loopw [3, 4] (fun m i wr => ∃ (k v : Nat), v ≤ p.wanted.length ∧ 1 ≤ k ∧ k ≤ M ∧ i = .int .i64 (v : Int) ∧ m = .int .i64 (k : Int) ∧ Hid (∀ u, u < v → gi p.wanted u ≤ (p.good (k : Int)).lo) ∧ Hid (Below w1.heap.size w1 wr)) (fun _ i _ => p.wanted.length - (intOf i).toNat)
  case atStart => exact ⟨1, 0, by omega, by omega, by omega, by go_num, by go_num, fun u hu => by omega, Below.refl _ _⟩
  case round =>
    obtain ⟨k, v, hv, hk1, hk2, rfl, rfl, HU, HB⟩ := hrel
    have z6' := cell_stays HB.out z6
    clear z6
    by_cases hlt : v < p.wanted.length
    · go_wp2_with fail
      clear z6'
      obtain ⟨wo, hwo⟩ : ∃ x : World, x = wr := ⟨_, rfl⟩
      subst hwo
      go_loopw [3] (fun m wr => ∃ (k : Nat), 1 ≤ k ∧ k ≤ M ∧ m = .int .i64 (k : Int) ∧ Hid (∀ u, u < v → gi p.wanted u ≤ (p.good (k : Int)).lo) ∧ Hid (Below w1.heap.size w1 wr)) (fun m _ => M + 1 - (intOf m).toNat)
      case atStart => exact ⟨k, hk1, hk2, rfl, HU.out, HB.out⟩
      case round =>
        clear HB HU hk1 hk2
        obtain ⟨k, hk1, hk2, rfl, HU, HW⟩ := hrel
        have HC := Lib.hid (fun y : Aft wr.heap.size wr => rgood72 (p := p) (A := A) (w := y.v) (spoil_of HV.out) (show (0 : Int) ≤ (k : Int) by omega) (show (k : Int) ≤ 2097152 by omega))
        obtain ⟨b, off, hab, hcell⟩ := (HX.out.2.2.wanted.mono HW.out) v hlt
        obtain ⟨y0, y1, y2, y3, y4, y5, y6, y7, y8, y9⟩ := prs_aft (HPC.out.mono HW.out)
        have hpv : p.v A = .agg #[.int .i64 p.room, .int .i64 p.formes, .int .i64 p.slo, .int .i64 p.shi, .int .i64 p.make, .int .i64 p.sheet, .slice (some ⟨b, off, none⟩) p.wanted.length A.cw, .int .i64 p.paper, .int .i64 p.money, .slice A.ad p.deals.length A.cd] := by
          unfold Prs.v Prs.arr
          rw [hab]
        rw [hab] at y6
        have HPV := Lib.hid hpv
        clear hab hpv
        have x0 := fun y : Aft wr.heap.size wr => cell_stays y.h hcell
        clear hcell
        have HG := Lib.hid (most_good HV.out hlt)
        by_cases hfw : (p.good (k : Int)).lo < gi p.wanted v
        · have HK : Hid (k + 1 ≤ M) := by
            rw [Hid]
            have h1 := HG.out
            rw [← HM.out] at h1
            by_cases e : k = M
            · subst e; omega
            · omega
          have HU2 : Hid (∀ u, u < v → gi p.wanted u ≤ (p.good ((k + 1 : Nat) : Int)).lo) := fun u hu => Int.le_trans (HU.out u hu) (good_le (spoil_of HV.out) (by omega))
          have hd : decide ((p.good (k : Int)).lo < gi p.wanted v) = true := by simpa using hfw
          clear hfw
          revert hd x0 HC
          generalize (p.good (k : Int)) = gd
          obtain ⟨z, z'⟩ := gd
          generalize gi p.wanted v = x
          intro HC x0 hd_
          have hd : decide (z < x) = true := hd_
          clear hd_
          have HC2 : Hid (∀ y : Aft wr.heap.size wr, Calls Try.prog 72 #[.agg #[.int .i64 p.room, .int .i64 p.formes, .int .i64 p.slo, .int .i64 p.shi, .int .i64 p.make, .int .i64 p.sheet, .slice (some ⟨b, off, none⟩) p.wanted.length A.cw, .int .i64 p.paper, .int .i64 p.money, .slice A.ad p.deals.length A.cd], .int .i64 (k : Int)] y.v fun e w' => e = .returned (.agg #[.int .i64 z, .int .i64 z']) ∧ Below y.v.heap.size y.v w') := fun y => by rw [← HPV.out]; exact HC.out y
          clear HC
          have hfd := field23 z z'
          go_upto_region 5 with fail
          refine wp_region_aft mixed (by kernel_rfl) ?_
          repeat (go_big_quiet_step ((go_at_call 72; exact calls_aft (HC2.out _))))
          refine wpQuiet_nil ?_
          rintro _ ⟨y, rfl⟩
          have HB2 := Lib.hid (HW.out.trans (y.h.mono HW.out.size))
          clear y0 y1 y2 y3 y4 y5 y6 y7 y8 y9 x0 hfd
          go_wp2_with fail
          go_roundw
          case rel => exact ⟨k + 1, by omega, HK.out, by go_num, HU2.out, HB2.out⟩
          case measure => have := HK.out; simp [intOf]; omega
        · have HU2 : Hid (∀ u, u < v + 1 → gi p.wanted u ≤ (p.good (k : Int)).lo) := fun u hu => by
            by_cases e : u = v
            · subst e; exact Int.not_lt.1 hfw
            · exact HU.out u (by omega)
          have hd : decide ((p.good (k : Int)).lo < gi p.wanted v) = false := by simpa using hfw
          clear hfw
          revert hd x0 HC
          generalize (p.good (k : Int)) = gd
          obtain ⟨z, z'⟩ := gd
          generalize gi p.wanted v = x
          intro HC x0 hd_
          have hd : decide (z < x) = false := hd_
          clear hd_
          have HC2 : Hid (∀ y : Aft wr.heap.size wr, Calls Try.prog 72 #[.agg #[.int .i64 p.room, .int .i64 p.formes, .int .i64 p.slo, .int .i64 p.shi, .int .i64 p.make, .int .i64 p.sheet, .slice (some ⟨b, off, none⟩) p.wanted.length A.cw, .int .i64 p.paper, .int .i64 p.money, .slice A.ad p.deals.length A.cd], .int .i64 (k : Int)] y.v fun e w' => e = .returned (.agg #[.int .i64 z, .int .i64 z']) ∧ Below y.v.heap.size y.v w') := fun y => by rw [← HPV.out]; exact HC.out y
          clear HC
          have hfd := field23 z z'
          go_upto_region 5 with fail
          refine wp_region_aft mixed (by kernel_rfl) ?_
          repeat (go_big_quiet_step ((go_at_call 72; exact calls_aft (HC2.out _))))
          refine wpQuiet_nil ?_
          rintro _ ⟨y, rfl⟩
          have HB2 := Lib.hid (HW.out.trans (y.h.mono HW.out.size))
          clear y0 y1 y2 y3 y4 y5 y6 y7 y8 y9 x0 hfd
          go_wp2_with fail
          go_roundw
          case rel => exact ⟨k, v + 1, by omega, hk1, hk2, by go_num, rfl, HU2.out, HB2.out⟩
          case measure => simp [intOf]; omega
    · obtain rfl : v = p.wanted.length := by omega
      have HK : Hid ((k : Int) = p.most) := most_up HV.out hk1 (by rw [← HM.out]; omega) (fun u hu => HU.out u hu)
      obtain rfl : M = k := by have h1 := HK.out; rw [← HM.out] at h1; omega
      clear HK HU
      go_wp2_with fail
      refine HK2.out _ _ ?_
      clear hmo hk1 hk2 hv
      have HC8 := Lib.hid (slots88n (A := A) HV.out wr)
      obtain ⟨c0, c1, c2, c3, c4, c5, c6, c7, c8, c9⟩ := HPC.out.mono HB.out
      go_wp2_with fail
      refine HC8.out.mono ?_
      rintro e w5 ⟨a5, cc5, rfl, hA5, hb5⟩
      have HA5 := Lib.hid hA5
      have HB5 := Lib.hid (HB.out.trans (hb5.mono HB.out.size))
      clear hA5 hb5 c0 c1 c2 c3 c4 c5 c6 c7 c8 c9 HC8
      have hsl := slots_len HV.out
      have hM2 : M ≤ 268 := by have h1 := (most_bd HV.out).2; rw [← HM.out] at h1; omega
      go_wp2_with fail
      go_loopw [6, 7] (fun t i wr => ∃ (k : Nat) (a' : Option Addr) (c' : Nat), k ≤ p.slots.length ∧ i = .int .i64 (k : Int) ∧ t = .slice a' (p.fmesAt k 0).length c' ∧ Hid (FmsI w5 (p.fmesAt k 0) (.slice a' (p.fmesAt k 0).length c') wr)) (fun _ i _ => p.slots.length - (intOf i).toNat)
      case atStart => exact ⟨0, none, 0, by omega, by go_num, by rw [fmesAt_zero]; rfl, by rw [Hid, fmesAt_zero]; exact FmsI.nil w5⟩
      case round =>
        obtain ⟨i, a', c', hi, rfl, rfl, HF⟩ := hrel
        by_cases hlt : i < p.slots.length
        · obtain ⟨b, off, ai, ci, hab, hcell, hints⟩ := HA5.out.at hlt
          subst hab
          have HCE := Lib.hid hcell
          have HIN := Lib.hid hints
          clear hcell hints
          go_wp2_with fail
          obtain ⟨wo, hwo⟩ : ∃ x : World, x = wr := ⟨_, rfl⟩
          subst hwo
          go_loopw [6, 8] (fun t n wr => ∃ (j : Nat) (a' : Option Addr) (c' : Nat), j ≤ M ∧ n = .int .i64 ((j : Int) + 1) ∧ t = .slice a' (p.fmesAt i j).length c' ∧ Hid (FmsI w5 (p.fmesAt i j) (.slice a' (p.fmesAt i j).length c') wr)) (fun _ n _ => M + 1 - (intOf n).toNat)
          case atStart => exact ⟨0, a', c', by omega, by go_num, rfl, HF.out⟩
          case round =>
            clear HF
            obtain ⟨j, a2, c2, hj, rfl, rfl, HF⟩ := hrel
            by_cases hjl : j < M
            · have HL : Hid ((p.fmesAt i j).length ≤ 700000) := fmesAt_bd HV.out hi (by rw [← HM.out]; omega)
              have HS : Hid (p.fmesAt i (j + 1) = p.fmesAt i j ++ [⟨gl p.slots i, (j : Int) + 1⟩]) := fmesAt_step p i j
              have HSL : Hid ((p.fmesAt i (j + 1)).length = (p.fmesAt i j).length + 1) := by rw [Hid, HS.out]; simp
              have hc := cell_stays HF.out.1 HCE.out
              obtain ⟨a3, c3, w3, hrun, hF3⟩ := FmsI.more (ms := wr.heap.size) (w := wr.alloc (.cells #[.slice ai (gl p.slots i).length ci, .int .i64 ((j : Int) + 1)] 29)) (HF.out.below ((Below.refl _ wr).alloc (Nat.le_refl _) _)) HL.out (World.alloc_heap_new ..) HIN.out
              have HR := Lib.hid hrun
              have HF3 := Lib.hid hF3
              clear hrun hF3
              go_wp2_with (at_builtin; refine wpList_append_run rfl (.tmp 43) (.tmp 50) 30 rfl _ _ _ _ rfl rfl HR.out ?_)
              go_roundw
              case rel => exact ⟨j + 1, a3, c3, by omega, by go_num, by rw [HSL.out], by rw [Hid, HSL.out, HS.out]; exact HF3.out⟩
              case measure => simp [intOf]; omega
            · obtain rfl : M = j := by omega
              have HS : Hid (p.fmesAt i M = p.fmesAt (i + 1) 0) := by
                rw [Hid, ← fmesAt_next p hlt, ← HM.out]
                simp
              rw [HS.out] at HF ⊢
              go_wp2_with fail
              go_roundw
              case rel => exact ⟨i + 1, a2, c2, by omega, by go_num, rfl, HF.out⟩
              case measure => simp [intOf]; omega
        · obtain rfl : i = p.slots.length := by omega
          rw [fmesAt_end] at HF ⊢
          go_wp2_with fail
          go_ret
          exact ⟨a', c', rfl, HF.out.fmes, HX.out.2.1.trans ((HB5.out.trans (HF.out.1.mono HB5.out.size)).mono (Nat.le_of_lt (heap_lt HX.out.1)))⟩
end Go.Proofs.Ytjkhclijmcmdjaa
namespace Go.Proofs.Ytjkhclijmcmdjaa
open Go.RowKit
set_option linter.unusedVariables false
set_option linter.unusedSimpArgs false
/-- Is a plan taken? -/
def Prs.takes (p : Prs) (st : List Fme × Bool) (x : List Fme) : Bool := (!st.2 || decide (p.cost x < p.cost st.1)) && decide (fewV p x < 0)
def Prs.stepB (p : Prs) (st : List Fme × Bool) (x : List Fme) : List Fme × Bool := if p.takes st x then (x, true) else st
def Prs.startB (p : Prs) : List Fme × Bool := ([], decide (fewV p [] < 0))
def Prs.oneB (p : Prs) : List Fme × Bool := (p.fmesR.map fun f => [f]).foldl p.stepB p.startB
def Prs.rowB (p : Prs) (st : List Fme × Bool) (f : Fme) : List Fme × Bool := (p.fmesR.map fun g => [f, g]).foldl p.stepB st
def Prs.allB (p : Prs) : List Fme × Bool := if p.formes > 1 then p.fmesR.foldl p.rowB p.oneB else p.oneB
def bestR (p : Prs) : List Fme × Int × Int :=
  let e := p.openE true
  if e = 0 then (if p.allB.2 then (p.allB.1, p.cost p.allB.1, 0) else ([], 0, 10)) else ([], 0, e)
noncomputable def btr11C : Code := (Try.f24.body.bind (regionAt 11)).getD .skip
set_option maxRecDepth 100000 in
set_option maxHeartbeats 1000000 in
theorem btr11 {p : Prs} {A : PrsA} {bp nx cx nb cb : Nat} {ax ab : Option Addr} {X B fw : Int} {found res : Bool} {W1 : World} {Q : Exit → Act → World → Prop} (hPC : PrsC W1 bp p A) (hres : res = ((!found || decide (X < B)) && decide (fw < 0)))
    (h1 : Hid (∀ y : Aft W1.heap.size W1, Calls Try.prog 52 #[p.v A, .slice ax nx cx] y.v fun e w' => e = .returned (.int .i64 X) ∧ Below y.v.heap.size y.v w'))
    (h2 : Hid (∀ y : Aft W1.heap.size W1, Calls Try.prog 52 #[p.v A, .slice ab nb cb] y.v fun e w' => e = .returned (.int .i64 B) ∧ Below y.v.heap.size y.v w'))
    (h3 : Hid (∀ y : Aft W1.heap.size W1, Calls Try.prog 50 #[p.v A, .slice ax nx cx] y.v fun e w' => e = .returned (.int .i64 fw) ∧ Below y.v.heap.size y.v w'))
    {s0 s2 s3 s4 s5 s8 s9 s11 s12 s13 s14 s15 s16 s17 s18 s19 s20 s21 s22 s23 s24 s25 s26 s27 s28 s29 s30 s31 s32 s33 s34 s35 s36 s37 s38 s39 s40 s41 s42 s43 s44 s45 s46 s47 s48 s49 s50 s51 s52 s53 s54 s55 s56 s57 s58 s59 s60 s61 s62 s63 s64 s65 s66 s67 s68 s69 s70 s71 s72 s73 s74 s75 s76 s77 s78 s79 s80 s81 s82 s83 s84 s85 s86 s87 s88 s89 s90 s91 s92 s93 s94 s95 s96 s97 s98 s99 s100 s101 s102 : Value} {dd : List Deferred}
    (hQ : ∀ (x35 x36 x37 x38 x39 x40 x41 x42 x43 x44 x45 x46 x47 x48 x49 x50 : Value) (y : Aft W1.heap.size W1), Q .normal { tmps := List.toArray (s0 :: .pointer (some ⟨bp, 0, none⟩) :: s2 :: s3 :: s4 :: s5 :: .slice ab nb cb :: .bool found :: s8 :: s9 :: .slice ax nx cx :: s11 :: s12 :: s13 :: s14 :: s15 :: s16 :: s17 :: s18 :: s19 :: s20 :: s21 :: s22 :: s23 :: s24 :: s25 :: s26 :: s27 :: s28 :: s29 :: s30 :: s31 :: s32 :: s33 :: s34 :: x35 :: x36 :: x37 :: x38 :: x39 :: x40 :: x41 :: x42 :: x43 :: x44 :: x45 :: x46 :: x47 :: x48 :: x49 :: x50 :: .bool res :: s52 :: s53 :: s54 :: s55 :: s56 :: s57 :: s58 :: s59 :: s60 :: s61 :: s62 :: s63 :: s64 :: s65 :: s66 :: s67 :: s68 :: s69 :: s70 :: s71 :: s72 :: s73 :: s74 :: s75 :: s76 :: s77 :: s78 :: s79 :: s80 :: s81 :: s82 :: s83 :: s84 :: s85 :: s86 :: s87 :: s88 :: s89 :: s90 :: s91 :: s92 :: s93 :: s94 :: s95 :: s96 :: s97 :: s98 :: s99 :: s100 :: s101 :: s102 :: []), defers := dd } y.v) :
    Code.wp Try.prog btr11C Q { tmps := List.toArray (s0 :: .pointer (some ⟨bp, 0, none⟩) :: s2 :: s3 :: s4 :: s5 :: .slice ab nb cb :: .bool found :: s8 :: s9 :: .slice ax nx cx :: s11 :: s12 :: s13 :: s14 :: s15 :: s16 :: s17 :: s18 :: s19 :: s20 :: s21 :: s22 :: s23 :: s24 :: s25 :: s26 :: s27 :: s28 :: s29 :: s30 :: s31 :: s32 :: s33 :: s34 :: s35 :: s36 :: s37 :: s38 :: s39 :: s40 :: s41 :: s42 :: s43 :: s44 :: s45 :: s46 :: s47 :: s48 :: s49 :: s50 :: s51 :: s52 :: s53 :: s54 :: s55 :: s56 :: s57 :: s58 :: s59 :: s60 :: s61 :: s62 :: s63 :: s64 :: s65 :: s66 :: s67 :: s68 :: s69 :: s70 :: s71 :: s72 :: s73 :: s74 :: s75 :: s76 :: s77 :: s78 :: s79 :: s80 :: s81 :: s82 :: s83 :: s84 :: s85 :: s86 :: s87 :: s88 :: s89 :: s90 :: s91 :: s92 :: s93 :: s94 :: s95 :: s96 :: s97 :: s98 :: s99 :: s100 :: s101 :: s102 :: []), defers := dd } W1 := by
  have HQ := Lib.hid hQ
  clear hQ
  conv => arg 2; whnf
  obtain ⟨y0, y1, y2, y3, y4, y5, y6, y7, y8, y9⟩ := prs_aft hPC
  cases hd3 : decide (fw < 0) with
  | true =>
    cases found with
    | false =>
      obtain rfl : res = true := by rw [hres]; simp [hd3]
      clear hres
      refine wp_region_aft mixed (by kernel_rfl) ?_
      repeat (go_big_quiet_step (fail))
      go_big_quiet_step ((go_at_call 50; exact calls_aft (h3.out _)))
      repeat (go_big_quiet_step (fail))
      refine wpQuiet_nil ?_
      rintro _ ⟨y, rfl⟩
      exact HQ.out _ _ _ _ _ _ _ _ _ _ _ _ _ _ _ _ y
    | true =>
      cases hd1 : decide (X < B) with
      | true =>
        obtain rfl : res = true := by rw [hres]; simp [hd1, hd3]
        clear hres
        refine wp_region_aft mixed (by kernel_rfl) ?_
        repeat (go_big_quiet_step (fail))
        go_big_quiet_step ((go_at_call 52; exact calls_aft (h1.out _)))
        repeat (go_big_quiet_step (fail))
        go_big_quiet_step ((go_at_call 52; exact calls_aft (h2.out _)))
        repeat (go_big_quiet_step (fail))
        go_big_quiet_step ((go_at_call 50; exact calls_aft (h3.out _)))
        repeat (go_big_quiet_step (fail))
        refine wpQuiet_nil ?_
        rintro _ ⟨y, rfl⟩
        exact HQ.out _ _ _ _ _ _ _ _ _ _ _ _ _ _ _ _ y
      | false =>
        obtain rfl : res = false := by rw [hres]; simp [hd1, hd3]
        clear hres
        refine wp_region_aft mixed (by kernel_rfl) ?_
        repeat (go_big_quiet_step (fail))
        go_big_quiet_step ((go_at_call 52; exact calls_aft (h1.out _)))
        repeat (go_big_quiet_step (fail))
        go_big_quiet_step ((go_at_call 52; exact calls_aft (h2.out _)))
        repeat (go_big_quiet_step (fail))
        refine wpQuiet_nil ?_
        rintro _ ⟨y, rfl⟩
        exact HQ.out _ _ _ _ _ _ _ _ _ _ _ _ _ _ _ _ y
  | false =>
    cases found with
    | false =>
      obtain rfl : res = false := by rw [hres]; simp [hd3]
      clear hres
      refine wp_region_aft mixed (by kernel_rfl) ?_
      repeat (go_big_quiet_step (fail))
      go_big_quiet_step ((go_at_call 50; exact calls_aft (h3.out _)))
      repeat (go_big_quiet_step (fail))
      refine wpQuiet_nil ?_
      rintro _ ⟨y, rfl⟩
      exact HQ.out _ _ _ _ _ _ _ _ _ _ _ _ _ _ _ _ y
    | true =>
      cases hd1 : decide (X < B) with
      | true =>
        obtain rfl : res = false := by rw [hres]; simp [hd1, hd3]
        clear hres
        refine wp_region_aft mixed (by kernel_rfl) ?_
        repeat (go_big_quiet_step (fail))
        go_big_quiet_step ((go_at_call 52; exact calls_aft (h1.out _)))
        repeat (go_big_quiet_step (fail))
        go_big_quiet_step ((go_at_call 52; exact calls_aft (h2.out _)))
        repeat (go_big_quiet_step (fail))
        go_big_quiet_step ((go_at_call 50; exact calls_aft (h3.out _)))
        repeat (go_big_quiet_step (fail))
        refine wpQuiet_nil ?_
        rintro _ ⟨y, rfl⟩
        exact HQ.out _ _ _ _ _ _ _ _ _ _ _ _ _ _ _ _ y
      | false =>
        obtain rfl : res = false := by rw [hres]; simp [hd1, hd3]
        clear hres
        refine wp_region_aft mixed (by kernel_rfl) ?_
        repeat (go_big_quiet_step (fail))
        go_big_quiet_step ((go_at_call 52; exact calls_aft (h1.out _)))
        repeat (go_big_quiet_step (fail))
        go_big_quiet_step ((go_at_call 52; exact calls_aft (h2.out _)))
        repeat (go_big_quiet_step (fail))
        refine wpQuiet_nil ?_
        rintro _ ⟨y, rfl⟩
        exact HQ.out _ _ _ _ _ _ _ _ _ _ _ _ _ _ _ _ y
noncomputable def btr20C : Code := (Try.f24.body.bind (regionAt 20)).getD .skip
set_option maxRecDepth 100000 in
set_option maxHeartbeats 1000000 in
theorem btr20 {p : Prs} {A : PrsA} {bp nx cx nb cb : Nat} {ax ab : Option Addr} {X B fw : Int} {found res : Bool} {W1 : World} {Q : Exit → Act → World → Prop} (hPC : PrsC W1 bp p A) (hres : res = ((!found || decide (X < B)) && decide (fw < 0)))
    (h1 : Hid (∀ y : Aft W1.heap.size W1, Calls Try.prog 52 #[p.v A, .slice ax nx cx] y.v fun e w' => e = .returned (.int .i64 X) ∧ Below y.v.heap.size y.v w'))
    (h2 : Hid (∀ y : Aft W1.heap.size W1, Calls Try.prog 52 #[p.v A, .slice ab nb cb] y.v fun e w' => e = .returned (.int .i64 B) ∧ Below y.v.heap.size y.v w'))
    (h3 : Hid (∀ y : Aft W1.heap.size W1, Calls Try.prog 50 #[p.v A, .slice ax nx cx] y.v fun e w' => e = .returned (.int .i64 fw) ∧ Below y.v.heap.size y.v w'))
    {s0 s2 s3 s4 s5 s8 s9 s10 s11 s12 s14 s15 s16 s17 s18 s19 s20 s21 s22 s23 s24 s25 s26 s27 s28 s29 s30 s31 s32 s33 s34 s35 s36 s37 s38 s39 s40 s41 s42 s43 s44 s45 s46 s47 s48 s49 s50 s51 s52 s53 s54 s55 s56 s57 s58 s59 s60 s61 s62 s63 s64 s65 s66 s67 s68 s69 s70 s71 s72 s73 s74 s75 s76 s77 s78 s79 s80 s81 s82 s83 s84 s85 s86 s87 s88 s89 s90 s91 s92 s93 s94 s95 s96 s97 s98 s99 s100 s101 s102 : Value} {dd : List Deferred}
    (hQ : ∀ (x79 x80 x81 x82 x83 x84 x85 x86 x87 x88 x89 x90 x91 x92 x93 x94 : Value) (y : Aft W1.heap.size W1), Q .normal { tmps := List.toArray (s0 :: .pointer (some ⟨bp, 0, none⟩) :: s2 :: s3 :: s4 :: s5 :: .slice ab nb cb :: .bool found :: s8 :: s9 :: s10 :: s11 :: s12 :: .slice ax nx cx :: s14 :: s15 :: s16 :: s17 :: s18 :: s19 :: s20 :: s21 :: s22 :: s23 :: s24 :: s25 :: s26 :: s27 :: s28 :: s29 :: s30 :: s31 :: s32 :: s33 :: s34 :: s35 :: s36 :: s37 :: s38 :: s39 :: s40 :: s41 :: s42 :: s43 :: s44 :: s45 :: s46 :: s47 :: s48 :: s49 :: s50 :: s51 :: s52 :: s53 :: s54 :: s55 :: s56 :: s57 :: s58 :: s59 :: s60 :: s61 :: s62 :: s63 :: s64 :: s65 :: s66 :: s67 :: s68 :: s69 :: s70 :: s71 :: s72 :: s73 :: s74 :: s75 :: s76 :: s77 :: s78 :: x79 :: x80 :: x81 :: x82 :: x83 :: x84 :: x85 :: x86 :: x87 :: x88 :: x89 :: x90 :: x91 :: x92 :: x93 :: x94 :: .bool res :: s96 :: s97 :: s98 :: s99 :: s100 :: s101 :: s102 :: []), defers := dd } y.v) :
    Code.wp Try.prog btr20C Q { tmps := List.toArray (s0 :: .pointer (some ⟨bp, 0, none⟩) :: s2 :: s3 :: s4 :: s5 :: .slice ab nb cb :: .bool found :: s8 :: s9 :: s10 :: s11 :: s12 :: .slice ax nx cx :: s14 :: s15 :: s16 :: s17 :: s18 :: s19 :: s20 :: s21 :: s22 :: s23 :: s24 :: s25 :: s26 :: s27 :: s28 :: s29 :: s30 :: s31 :: s32 :: s33 :: s34 :: s35 :: s36 :: s37 :: s38 :: s39 :: s40 :: s41 :: s42 :: s43 :: s44 :: s45 :: s46 :: s47 :: s48 :: s49 :: s50 :: s51 :: s52 :: s53 :: s54 :: s55 :: s56 :: s57 :: s58 :: s59 :: s60 :: s61 :: s62 :: s63 :: s64 :: s65 :: s66 :: s67 :: s68 :: s69 :: s70 :: s71 :: s72 :: s73 :: s74 :: s75 :: s76 :: s77 :: s78 :: s79 :: s80 :: s81 :: s82 :: s83 :: s84 :: s85 :: s86 :: s87 :: s88 :: s89 :: s90 :: s91 :: s92 :: s93 :: s94 :: s95 :: s96 :: s97 :: s98 :: s99 :: s100 :: s101 :: s102 :: []), defers := dd } W1 := by
  have HQ := Lib.hid hQ
  clear hQ
  conv => arg 2; whnf
  obtain ⟨y0, y1, y2, y3, y4, y5, y6, y7, y8, y9⟩ := prs_aft hPC
  cases hd3 : decide (fw < 0) with
  | true =>
    cases found with
    | false =>
      obtain rfl : res = true := by rw [hres]; simp [hd3]
      clear hres
      refine wp_region_aft mixed (by kernel_rfl) ?_
      repeat (go_big_quiet_step (fail))
      go_big_quiet_step ((go_at_call 50; exact calls_aft (h3.out _)))
      repeat (go_big_quiet_step (fail))
      refine wpQuiet_nil ?_
      rintro _ ⟨y, rfl⟩
      exact HQ.out _ _ _ _ _ _ _ _ _ _ _ _ _ _ _ _ y
    | true =>
      cases hd1 : decide (X < B) with
      | true =>
        obtain rfl : res = true := by rw [hres]; simp [hd1, hd3]
        clear hres
        refine wp_region_aft mixed (by kernel_rfl) ?_
        repeat (go_big_quiet_step (fail))
        go_big_quiet_step ((go_at_call 52; exact calls_aft (h1.out _)))
        repeat (go_big_quiet_step (fail))
        go_big_quiet_step ((go_at_call 52; exact calls_aft (h2.out _)))
        repeat (go_big_quiet_step (fail))
        go_big_quiet_step ((go_at_call 50; exact calls_aft (h3.out _)))
        repeat (go_big_quiet_step (fail))
        refine wpQuiet_nil ?_
        rintro _ ⟨y, rfl⟩
        exact HQ.out _ _ _ _ _ _ _ _ _ _ _ _ _ _ _ _ y
      | false =>
        obtain rfl : res = false := by rw [hres]; simp [hd1, hd3]
        clear hres
        refine wp_region_aft mixed (by kernel_rfl) ?_
        repeat (go_big_quiet_step (fail))
        go_big_quiet_step ((go_at_call 52; exact calls_aft (h1.out _)))
        repeat (go_big_quiet_step (fail))
        go_big_quiet_step ((go_at_call 52; exact calls_aft (h2.out _)))
        repeat (go_big_quiet_step (fail))
        refine wpQuiet_nil ?_
        rintro _ ⟨y, rfl⟩
        exact HQ.out _ _ _ _ _ _ _ _ _ _ _ _ _ _ _ _ y
  | false =>
    cases found with
    | false =>
      obtain rfl : res = false := by rw [hres]; simp [hd3]
      clear hres
      refine wp_region_aft mixed (by kernel_rfl) ?_
      repeat (go_big_quiet_step (fail))
      go_big_quiet_step ((go_at_call 50; exact calls_aft (h3.out _)))
      repeat (go_big_quiet_step (fail))
      refine wpQuiet_nil ?_
      rintro _ ⟨y, rfl⟩
      exact HQ.out _ _ _ _ _ _ _ _ _ _ _ _ _ _ _ _ y
    | true =>
      cases hd1 : decide (X < B) with
      | true =>
        obtain rfl : res = false := by rw [hres]; simp [hd1, hd3]
        clear hres
        refine wp_region_aft mixed (by kernel_rfl) ?_
        repeat (go_big_quiet_step (fail))
        go_big_quiet_step ((go_at_call 52; exact calls_aft (h1.out _)))
        repeat (go_big_quiet_step (fail))
        go_big_quiet_step ((go_at_call 52; exact calls_aft (h2.out _)))
        repeat (go_big_quiet_step (fail))
        go_big_quiet_step ((go_at_call 50; exact calls_aft (h3.out _)))
        repeat (go_big_quiet_step (fail))
        refine wpQuiet_nil ?_
        rintro _ ⟨y, rfl⟩
        exact HQ.out _ _ _ _ _ _ _ _ _ _ _ _ _ _ _ _ y
      | false =>
        obtain rfl : res = false := by rw [hres]; simp [hd1, hd3]
        clear hres
        refine wp_region_aft mixed (by kernel_rfl) ?_
        repeat (go_big_quiet_step (fail))
        go_big_quiet_step ((go_at_call 52; exact calls_aft (h1.out _)))
        repeat (go_big_quiet_step (fail))
        go_big_quiet_step ((go_at_call 52; exact calls_aft (h2.out _)))
        repeat (go_big_quiet_step (fail))
        refine wpQuiet_nil ?_
        rintro _ ⟨y, rfl⟩
        exact HQ.out _ _ _ _ _ _ _ _ _ _ _ _ _ _ _ _ y
end Go.Proofs.Ytjkhclijmcmdjaa
namespace Go.Proofs.Ytjkhclijmcmdjaa
open Go.RowKit
set_option linter.unusedVariables false
set_option linter.unusedSimpArgs false
def Prs.oneAt (p : Prs) (i : Nat) : List Fme × Bool := ((p.fmesR.take i).map fun f => [f]).foldl p.stepB p.startB
theorem oneAt_succ (p : Prs) {i : Nat} (h : i < p.fmesR.length) : p.oneAt (i + 1) = p.stepB (p.oneAt i) [gf p.fmesR i] := by
  unfold Prs.oneAt
  rw [List.take_succ_eq_append_getElem h, List.map_append, List.foldl_append]
  simp [gf, h]
theorem oneAt_end (p : Prs) : p.oneAt p.fmesR.length = p.oneB := by unfold Prs.oneAt Prs.oneB; rw [List.take_length]
def Prs.colAt (p : Prs) (i : Nat) : List Fme × Bool := (p.fmesR.take i).foldl p.rowB p.oneB
theorem colAt_zero (p : Prs) : p.colAt 0 = p.oneB := rfl
theorem colAt_end (p : Prs) : p.colAt p.fmesR.length = p.fmesR.foldl p.rowB p.oneB := by unfold Prs.colAt; rw [List.take_length]
def Prs.cellAt (p : Prs) (i k : Nat) : List Fme × Bool := ((p.fmesR.take k).map fun g => [gf p.fmesR i, g]).foldl p.stepB (p.colAt i)
theorem cellAt_succ (p : Prs) (i : Nat) {k : Nat} (h : k < p.fmesR.length) : p.cellAt i (k + 1) = p.stepB (p.cellAt i k) [gf p.fmesR i, gf p.fmesR k] := by
  unfold Prs.cellAt
  rw [List.take_succ_eq_append_getElem h, List.map_append, List.foldl_append]
  simp [gf, h]
theorem cellAt_end (p : Prs) {i : Nat} (h : i < p.fmesR.length) : p.cellAt i p.fmesR.length = p.colAt (i + 1) := by
  unfold Prs.cellAt Prs.colAt
  rw [List.take_length, List.take_succ_eq_append_getElem h, List.foldl_append]
  simp [gf, h, Prs.rowB]
/-- Plans that are looked at. -/
structure PlOf (p : Prs) (l : List Fme) : Prop where
  plan : PlanR p l
  cost : CostR p l
theorem fmesR_ok {p : Prs} (hV : p.valid = true) {f : Fme} (h : f ∈ p.fmesR) : fmeOk p f = true := by
  unfold Prs.fmesR Prs.fam at h
  rw [List.mem_flatMap] at h
  obtain ⟨s, hs, h⟩ := h
  rw [List.mem_map] at h
  obtain ⟨n, hn, rfl⟩ := h
  have h1 := most_bd hV
  have h2 : n < p.most.toNat := by simpa using hn
  exact slots_fme hV hs (by omega) (by omega)
theorem gf_mem {l : List Fme} {i : Nat} (h : i < l.length) : gf l i ∈ l := by
  have e : gf l i = l[i] := by simp [gf, h]
  rw [e]
  exact List.getElem_mem h
theorem plOf_of {p : Prs} (hV : p.valid = true) {l : List Fme} (hl : l.length ≤ 2) (h : ∀ f ∈ l, fmeOk p f = true) : PlOf p l := by
  refine ⟨⟨hl, h⟩, (pence_of hV).1, (pence_of hV).2.1, hl, fun f hf => ?_⟩
  have := h f hf
  unfold fmeOk at this
  simp only [Bool.and_eq_true, inR, decide_eq_true_eq] at this
  omega
theorem plOf_one {p : Prs} (hV : p.valid = true) {i : Nat} (h : i < p.fmesR.length) : PlOf p [gf p.fmesR i] := plOf_of hV (by simp) (fun f hf => by
  rw [List.mem_singleton] at hf; subst hf; exact fmesR_ok hV (gf_mem h))
theorem plOf_two {p : Prs} (hV : p.valid = true) {i k : Nat} (h : i < p.fmesR.length) (h2 : k < p.fmesR.length) : PlOf p [gf p.fmesR i, gf p.fmesR k] := plOf_of hV (by simp) (fun f hf => by
  simp only [List.mem_cons, List.mem_nil_iff, or_false] at hf
  rcases hf with rfl | rfl
  · exact fmesR_ok hV (gf_mem h)
  · exact fmesR_ok hV (gf_mem h2))
theorem fmesR_len {p : Prs} (hV : p.valid = true) : p.fmesR.length ≤ 700000 := by
  rw [← fmesAt_end]
  exact fmesAt_bd hV (Nat.le_refl _) (by have := most_bd hV; omega)
/-- The drawn region that lays a plan of two. -/
structure btr19F (b : Nat) (off : Nat) (n : Nat) (c : Nat) (i : Nat) (k : Nat) (as_ : Option Addr) (ns : Nat) (cs : Nat) (n1 : Int) (at_ : Option Addr) (nt : Nat) (ct : Nat) (n2 : Int) (S0 : World → Prop) (S1 : Nat → World → Prop) (d : Nat → Bool) (x70 x71 x72 x73 x74 x75 x76 x77 x78 x13 : Value) (r2 : Nat) (w : World) : Prop where
  q2 : d 2 = true → d 0 = true ∧ d 1 = true
  q3 : d 3 = true → d 2 = true
  q6 : d 6 = true → d 4 = true ∧ d 5 = true
  q7 : d 7 = true → d 6 = true
  q8 : d 8 = true → d 3 = true ∧ d 7 = true
  q9 : d 9 = true → d 0 = true ∧ d 1 = true ∧ d 2 = true ∧ d 3 = true ∧ d 4 = true ∧ d 5 = true ∧ d 6 = true ∧ d 7 = true ∧ d 8 = true
  f0 : d 0 = true → x70 = .slice (some ⟨b, off, none⟩) n c
  f1 : d 1 = true → x71 = .int .i64 ((i : Int))
  f2 : d 2 = true → x72 = .pointer (some ⟨b, off + i * 2, none⟩)
  f3 : d 3 = true → x73 = .agg #[.slice as_ ns cs, .int .i64 (n1)]
  f4 : d 4 = true → x74 = .slice (some ⟨b, off, none⟩) n c
  f5 : d 5 = true → x75 = .int .i64 ((k : Int))
  f6 : d 6 = true → x76 = .pointer (some ⟨b, off + k * 2, none⟩)
  f7 : d 7 = true → x77 = .agg #[.slice at_ nt ct, .int .i64 (n2)]
  f8 : d 8 = true → x78 = .slice (some ⟨r2, 0, none⟩) 2 2
  f9 : d 9 = true → x13 = .slice (some ⟨r2, 0, none⟩) 2 2
  st0 : d 8 = false → S0 w
  st1 : d 8 = true → S1 r2 w
noncomputable def btr19C : Code := (Try.f24.body.bind (regionAt 19)).getD .skip
set_option maxRecDepth 100000 in
set_option maxHeartbeats 4000000 in
theorem btr19 {b : Nat} {off : Nat} {n : Nat} {c : Nat} {i : Nat} {k : Nat} {as_ : Option Addr} {ns : Nat} {cs : Nat} {n1 : Int} {at_ : Option Addr} {nt : Nat} {ct : Nat} {n2 : Int} {S0 : World → Prop} {S1 : Nat → World → Prop} {Q : Exit → Act → World → Prop} {W1 : World} (hi : i < n) (hk : k < n) (h0 : S0 W1.drew)
    (kl3 : Hid (∀ (w : World), (S0 w) → w.cell? ⟨b, off + i * 2, none⟩ = some (.slice as_ ns cs) ∧ w.cell? ⟨b, off + i * 2 + 1, none⟩ = some (.int .i64 (n1))))
    (kl7 : Hid (∀ (w : World), (S0 w) → w.cell? ⟨b, off + k * 2, none⟩ = some (.slice at_ nt ct) ∧ w.cell? ⟨b, off + k * 2 + 1, none⟩ = some (.int .i64 (n2))))
    (kc8 : Hid (∀ (w : World), S0 w → S1 w.heap.size (w.alloc (.cells #[.slice as_ ns cs, .int .i64 (n1), .slice at_ nt ct, .int .i64 (n2)] 29))))
    {s0 s1 s2 s3 s4 s5 s6 s7 s9 s10 s13 s14 s15 s16 s17 s18 s19 s20 s21 s22 s23 s24 s25 s26 s27 s28 s29 s30 s31 s32 s33 s34 s35 s36 s37 s38 s39 s40 s41 s42 s43 s44 s45 s46 s47 s48 s49 s50 s51 s52 s53 s54 s55 s56 s57 s58 s59 s60 s61 s62 s63 s64 s65 s66 s67 s68 s69 s70 s71 s72 s73 s74 s75 s76 s77 s78 s79 s80 s81 s82 s83 s84 s85 s86 s87 s88 s89 s90 s91 s92 s93 s94 s95 s96 s97 s98 s99 s100 s101 s102 : Value} {dd : List Deferred}
    (hQ : ∀ (r2 : Nat) (w' : World), S1 r2 w' → Q .normal { tmps := List.toArray (s0 :: s1 :: s2 :: s3 :: s4 :: s5 :: s6 :: s7 :: .slice (some ⟨b, off, none⟩) n c :: s9 :: s10 :: .int .i64 ((i : Int)) :: .int .i64 ((k : Int)) :: .slice (some ⟨r2, 0, none⟩) 2 2 :: s14 :: s15 :: s16 :: s17 :: s18 :: s19 :: s20 :: s21 :: s22 :: s23 :: s24 :: s25 :: s26 :: s27 :: s28 :: s29 :: s30 :: s31 :: s32 :: s33 :: s34 :: s35 :: s36 :: s37 :: s38 :: s39 :: s40 :: s41 :: s42 :: s43 :: s44 :: s45 :: s46 :: s47 :: s48 :: s49 :: s50 :: s51 :: s52 :: s53 :: s54 :: s55 :: s56 :: s57 :: s58 :: s59 :: s60 :: s61 :: s62 :: s63 :: s64 :: s65 :: s66 :: s67 :: s68 :: s69 :: .slice (some ⟨b, off, none⟩) n c :: .int .i64 ((i : Int)) :: .pointer (some ⟨b, off + i * 2, none⟩) :: .agg #[.slice as_ ns cs, .int .i64 (n1)] :: .slice (some ⟨b, off, none⟩) n c :: .int .i64 ((k : Int)) :: .pointer (some ⟨b, off + k * 2, none⟩) :: .agg #[.slice at_ nt ct, .int .i64 (n2)] :: .slice (some ⟨r2, 0, none⟩) 2 2 :: s79 :: s80 :: s81 :: s82 :: s83 :: s84 :: s85 :: s86 :: s87 :: s88 :: s89 :: s90 :: s91 :: s92 :: s93 :: s94 :: s95 :: s96 :: s97 :: s98 :: s99 :: s100 :: s101 :: s102 :: []), defers := dd } w') :
    Code.wpIn (wideAt none) 0 Try.prog btr19C Q { tmps := List.toArray (s0 :: s1 :: s2 :: s3 :: s4 :: s5 :: s6 :: s7 :: .slice (some ⟨b, off, none⟩) n c :: s9 :: s10 :: .int .i64 ((i : Int)) :: .int .i64 ((k : Int)) :: s13 :: s14 :: s15 :: s16 :: s17 :: s18 :: s19 :: s20 :: s21 :: s22 :: s23 :: s24 :: s25 :: s26 :: s27 :: s28 :: s29 :: s30 :: s31 :: s32 :: s33 :: s34 :: s35 :: s36 :: s37 :: s38 :: s39 :: s40 :: s41 :: s42 :: s43 :: s44 :: s45 :: s46 :: s47 :: s48 :: s49 :: s50 :: s51 :: s52 :: s53 :: s54 :: s55 :: s56 :: s57 :: s58 :: s59 :: s60 :: s61 :: s62 :: s63 :: s64 :: s65 :: s66 :: s67 :: s68 :: s69 :: s70 :: s71 :: s72 :: s73 :: s74 :: s75 :: s76 :: s77 :: s78 :: s79 :: s80 :: s81 :: s82 :: s83 :: s84 :: s85 :: s86 :: s87 :: s88 :: s89 :: s90 :: s91 :: s92 :: s93 :: s94 :: s95 :: s96 :: s97 :: s98 :: s99 :: s100 :: s101 :: s102 :: []), defers := dd } W1 := by
  have HQ := Lib.hid hQ
  clear hQ
  conv => arg 4; whnf
  refine wpIn_region_invG mixed (by kernel_rfl) (fun d_ a_ w' => ∃ (x70 : Value) (x71 : Value) (x72 : Value) (x73 : Value) (x74 : Value) (x75 : Value) (x76 : Value) (x77 : Value) (x78 : Value) (x13 : Value) (r2 : Nat), a_ = { tmps := List.toArray (s0 :: s1 :: s2 :: s3 :: s4 :: s5 :: s6 :: s7 :: .slice (some ⟨b, off, none⟩) n c :: s9 :: s10 :: .int .i64 ((i : Int)) :: .int .i64 ((k : Int)) :: x13 :: s14 :: s15 :: s16 :: s17 :: s18 :: s19 :: s20 :: s21 :: s22 :: s23 :: s24 :: s25 :: s26 :: s27 :: s28 :: s29 :: s30 :: s31 :: s32 :: s33 :: s34 :: s35 :: s36 :: s37 :: s38 :: s39 :: s40 :: s41 :: s42 :: s43 :: s44 :: s45 :: s46 :: s47 :: s48 :: s49 :: s50 :: s51 :: s52 :: s53 :: s54 :: s55 :: s56 :: s57 :: s58 :: s59 :: s60 :: s61 :: s62 :: s63 :: s64 :: s65 :: s66 :: s67 :: s68 :: s69 :: x70 :: x71 :: x72 :: x73 :: x74 :: x75 :: x76 :: x77 :: x78 :: s79 :: s80 :: s81 :: s82 :: s83 :: s84 :: s85 :: s86 :: s87 :: s88 :: s89 :: s90 :: s91 :: s92 :: s93 :: s94 :: s95 :: s96 :: s97 :: s98 :: s99 :: s100 :: s101 :: s102 :: []), defers := dd } ∧ btr19F b off n c i k as_ ns cs n1 at_ nt ct n2 S0 S1 d_ x70 x71 x72 x73 x74 x75 x76 x77 x78 x13 r2 w') ?_ ?_ ?_
  · refine ⟨s70, s71, s72, s73, s74, s75, s76, s77, s78, s13, 0, rfl, ?_⟩
    constructor <;> first | rfl | (intro _; rfl) | (intro h; cases h; done) | (intro _; exact h0) | exact h0
  · refine ⟨?_, ?_, ?_, ?_, ?_, ?_, ?_, ?_, ?_, ?_, trivial⟩
    all_goals
      rintro d_ a_ w1 K hd_ hdep ⟨x70, x71, x72, x73, x74, x75, x76, x77, x78, x13, r2, rfl, F⟩ HK
      simp [Region.binds] at hdep
    · have HF : Hid (btr19F b off n c i k as_ ns cs n1 at_ nt ct n2 S0 S1 (upd d_ 0) (.slice (some ⟨b, off, none⟩) n c) x71 x72 x73 x74 x75 x76 x77 x78 x13 r2 w1) := ⟨fun h => ⟨rfl, (F.q2 h).2⟩, F.q3, F.q6, F.q7, F.q8, fun h => ⟨rfl, (F.q9 h).2.1, (F.q9 h).2.2.1, (F.q9 h).2.2.2.1, (F.q9 h).2.2.2.2.1, (F.q9 h).2.2.2.2.2.1, (F.q9 h).2.2.2.2.2.2.1, (F.q9 h).2.2.2.2.2.2.2.1, (F.q9 h).2.2.2.2.2.2.2.2⟩, fun _ => rfl, F.f1, F.f2, F.f3, F.f4, F.f5, F.f6, F.f7, F.f8, F.f9, F.st0, F.st1⟩
      clear F
      go_simp
      exact HK.out _ _ ⟨_, _, _, _, _, _, _, _, _, _, _, rfl, HF.out⟩
    · have HF : Hid (btr19F b off n c i k as_ ns cs n1 at_ nt ct n2 S0 S1 (upd d_ 1) x70 (.int .i64 ((i : Int))) x72 x73 x74 x75 x76 x77 x78 x13 r2 w1) := ⟨fun h => ⟨(F.q2 h).1, rfl⟩, F.q3, F.q6, F.q7, F.q8, fun h => ⟨(F.q9 h).1, rfl, (F.q9 h).2.2.1, (F.q9 h).2.2.2.1, (F.q9 h).2.2.2.2.1, (F.q9 h).2.2.2.2.2.1, (F.q9 h).2.2.2.2.2.2.1, (F.q9 h).2.2.2.2.2.2.2.1, (F.q9 h).2.2.2.2.2.2.2.2⟩, F.f0, fun _ => rfl, F.f2, F.f3, F.f4, F.f5, F.f6, F.f7, F.f8, F.f9, F.st0, F.st1⟩
      clear F
      go_simp
      exact HK.out _ _ ⟨_, _, _, _, _, _, _, _, _, _, _, rfl, HF.out⟩
    · obtain rfl := F.f0 (by simp [hdep])
      obtain rfl := F.f1 (by simp [hdep])
      have HF : Hid (btr19F b off n c i k as_ ns cs n1 at_ nt ct n2 S0 S1 (upd d_ 2) (.slice (some ⟨b, off, none⟩) n c) (.int .i64 ((i : Int))) (.pointer (some ⟨b, off + i * 2, none⟩)) x73 x74 x75 x76 x77 x78 x13 r2 w1) := ⟨fun _ => ⟨(show _ from (by simp [hdep] : d_ 0 = true)), (show _ from (by simp [hdep] : d_ 1 = true))⟩, fun h => rfl, F.q6, F.q7, F.q8, fun h => ⟨(F.q9 h).1, (F.q9 h).2.1, rfl, (F.q9 h).2.2.2.1, (F.q9 h).2.2.2.2.1, (F.q9 h).2.2.2.2.2.1, (F.q9 h).2.2.2.2.2.2.1, (F.q9 h).2.2.2.2.2.2.2.1, (F.q9 h).2.2.2.2.2.2.2.2⟩, F.f0, F.f1, fun _ => rfl, F.f3, F.f4, F.f5, F.f6, F.f7, F.f8, F.f9, F.st0, F.st1⟩
      clear F
      go_simp
      exact HK.out _ _ ⟨_, _, _, _, _, _, _, _, _, _, _, rfl, HF.out⟩
    · have hst : S0 w1 := by
        have n_ : d_ 8 = false := by
          cases e_ : d_ 8 with
          | false => rfl
          | true => have h2 := (F.q8 e_).1; rw [show d_ 3 = false from hd_] at h2; cases h2
        exact (F.st0 n_)
      have kk := kl3.out w1 hst
      obtain ⟨kk0, kk1⟩ := kk
      clear hst
      obtain rfl := F.f2 (by simp [hdep])
      have HF : Hid (btr19F b off n c i k as_ ns cs n1 at_ nt ct n2 S0 S1 (upd d_ 3) x70 x71 (.pointer (some ⟨b, off + i * 2, none⟩)) (.agg #[.slice as_ ns cs, .int .i64 (n1)]) x74 x75 x76 x77 x78 x13 r2 w1) := ⟨F.q2, fun _ => (show _ from (by simp [hdep] : d_ 2 = true)), F.q6, F.q7, fun h => ⟨rfl, (F.q8 h).2⟩, fun h => ⟨(F.q9 h).1, (F.q9 h).2.1, (F.q9 h).2.2.1, rfl, (F.q9 h).2.2.2.2.1, (F.q9 h).2.2.2.2.2.1, (F.q9 h).2.2.2.2.2.2.1, (F.q9 h).2.2.2.2.2.2.2.1, (F.q9 h).2.2.2.2.2.2.2.2⟩, F.f0, F.f1, F.f2, fun _ => rfl, F.f4, F.f5, F.f6, F.f7, F.f8, F.f9, F.st0, F.st1⟩
      clear F
      go_simp
      exact HK.out _ _ ⟨_, _, _, _, _, _, _, _, _, _, _, rfl, HF.out⟩
    · have HF : Hid (btr19F b off n c i k as_ ns cs n1 at_ nt ct n2 S0 S1 (upd d_ 4) x70 x71 x72 x73 (.slice (some ⟨b, off, none⟩) n c) x75 x76 x77 x78 x13 r2 w1) := ⟨F.q2, F.q3, fun h => ⟨rfl, (F.q6 h).2⟩, F.q7, F.q8, fun h => ⟨(F.q9 h).1, (F.q9 h).2.1, (F.q9 h).2.2.1, (F.q9 h).2.2.2.1, rfl, (F.q9 h).2.2.2.2.2.1, (F.q9 h).2.2.2.2.2.2.1, (F.q9 h).2.2.2.2.2.2.2.1, (F.q9 h).2.2.2.2.2.2.2.2⟩, F.f0, F.f1, F.f2, F.f3, fun _ => rfl, F.f5, F.f6, F.f7, F.f8, F.f9, F.st0, F.st1⟩
      clear F
      go_simp
      exact HK.out _ _ ⟨_, _, _, _, _, _, _, _, _, _, _, rfl, HF.out⟩
    · have HF : Hid (btr19F b off n c i k as_ ns cs n1 at_ nt ct n2 S0 S1 (upd d_ 5) x70 x71 x72 x73 x74 (.int .i64 ((k : Int))) x76 x77 x78 x13 r2 w1) := ⟨F.q2, F.q3, fun h => ⟨(F.q6 h).1, rfl⟩, F.q7, F.q8, fun h => ⟨(F.q9 h).1, (F.q9 h).2.1, (F.q9 h).2.2.1, (F.q9 h).2.2.2.1, (F.q9 h).2.2.2.2.1, rfl, (F.q9 h).2.2.2.2.2.2.1, (F.q9 h).2.2.2.2.2.2.2.1, (F.q9 h).2.2.2.2.2.2.2.2⟩, F.f0, F.f1, F.f2, F.f3, F.f4, fun _ => rfl, F.f6, F.f7, F.f8, F.f9, F.st0, F.st1⟩
      clear F
      go_simp
      exact HK.out _ _ ⟨_, _, _, _, _, _, _, _, _, _, _, rfl, HF.out⟩
    · obtain rfl := F.f4 (by simp [hdep])
      obtain rfl := F.f5 (by simp [hdep])
      have HF : Hid (btr19F b off n c i k as_ ns cs n1 at_ nt ct n2 S0 S1 (upd d_ 6) x70 x71 x72 x73 (.slice (some ⟨b, off, none⟩) n c) (.int .i64 ((k : Int))) (.pointer (some ⟨b, off + k * 2, none⟩)) x77 x78 x13 r2 w1) := ⟨F.q2, F.q3, fun _ => ⟨(show _ from (by simp [hdep] : d_ 4 = true)), (show _ from (by simp [hdep] : d_ 5 = true))⟩, fun h => rfl, F.q8, fun h => ⟨(F.q9 h).1, (F.q9 h).2.1, (F.q9 h).2.2.1, (F.q9 h).2.2.2.1, (F.q9 h).2.2.2.2.1, (F.q9 h).2.2.2.2.2.1, rfl, (F.q9 h).2.2.2.2.2.2.2.1, (F.q9 h).2.2.2.2.2.2.2.2⟩, F.f0, F.f1, F.f2, F.f3, F.f4, F.f5, fun _ => rfl, F.f7, F.f8, F.f9, F.st0, F.st1⟩
      clear F
      go_simp
      exact HK.out _ _ ⟨_, _, _, _, _, _, _, _, _, _, _, rfl, HF.out⟩
    · have hst : S0 w1 := by
        have n_ : d_ 8 = false := by
          cases e_ : d_ 8 with
          | false => rfl
          | true => have h2 := (F.q8 e_).2; rw [show d_ 7 = false from hd_] at h2; cases h2
        exact (F.st0 n_)
      have kk := kl7.out w1 hst
      obtain ⟨kk0, kk1⟩ := kk
      clear hst
      obtain rfl := F.f6 (by simp [hdep])
      have HF : Hid (btr19F b off n c i k as_ ns cs n1 at_ nt ct n2 S0 S1 (upd d_ 7) x70 x71 x72 x73 x74 x75 (.pointer (some ⟨b, off + k * 2, none⟩)) (.agg #[.slice at_ nt ct, .int .i64 (n2)]) x78 x13 r2 w1) := ⟨F.q2, F.q3, F.q6, fun _ => (show _ from (by simp [hdep] : d_ 6 = true)), fun h => ⟨(F.q8 h).1, rfl⟩, fun h => ⟨(F.q9 h).1, (F.q9 h).2.1, (F.q9 h).2.2.1, (F.q9 h).2.2.2.1, (F.q9 h).2.2.2.2.1, (F.q9 h).2.2.2.2.2.1, (F.q9 h).2.2.2.2.2.2.1, rfl, (F.q9 h).2.2.2.2.2.2.2.2⟩, F.f0, F.f1, F.f2, F.f3, F.f4, F.f5, F.f6, fun _ => rfl, F.f8, F.f9, F.st0, F.st1⟩
      clear F
      go_simp
      exact HK.out _ _ ⟨_, _, _, _, _, _, _, _, _, _, _, rfl, HF.out⟩
    · have hS := F.st0  hd_
      obtain rfl := F.f3 (by simp [hdep])
      obtain rfl := F.f7 (by simp [hdep])
      have hres := kc8.out w1 hS
      have HF : Hid (btr19F b off n c i k as_ ns cs n1 at_ nt ct n2 S0 S1 (upd d_ 8) x70 x71 x72 (.agg #[.slice as_ ns cs, .int .i64 (n1)]) x74 x75 x76 (.agg #[.slice at_ nt ct, .int .i64 (n2)]) ((.slice (some ⟨w1.heap.size, 0, none⟩) 2 2)) x13 w1.heap.size (w1.alloc (.cells #[.slice as_ ns cs, .int .i64 (n1), .slice at_ nt ct, .int .i64 (n2)] 29))) := ⟨F.q2, F.q3, F.q6, F.q7, fun _ => ⟨(show _ from (by simp [hdep] : d_ 3 = true)), (show _ from (by simp [hdep] : d_ 7 = true))⟩, fun h => ⟨(F.q9 h).1, (F.q9 h).2.1, (F.q9 h).2.2.1, (F.q9 h).2.2.2.1, (F.q9 h).2.2.2.2.1, (F.q9 h).2.2.2.2.2.1, (F.q9 h).2.2.2.2.2.2.1, (F.q9 h).2.2.2.2.2.2.2.1, rfl⟩, F.f0, F.f1, F.f2, F.f3, F.f4, F.f5, F.f6, F.f7, fun _ => rfl, fun h => (by have h2 : d_ 8 = true := (F.q9 h).2.2.2.2.2.2.2.2; rw [show d_ 8 = false from hd_] at h2; cases h2), fun h => (by simp [upd] at h), fun _ => hres⟩
      clear F hS hres
      go_simp
      exact HK.out _ _ ⟨_, _, _, _, _, _, _, _, _, _, _, rfl, HF.out⟩
    · obtain rfl := F.f8 (by simp [hdep])
      have HF : Hid (btr19F b off n c i k as_ ns cs n1 at_ nt ct n2 S0 S1 (upd d_ 9) x70 x71 x72 x73 x74 x75 x76 x77 (.slice (some ⟨r2, 0, none⟩) 2 2) (.slice (some ⟨r2, 0, none⟩) 2 2) r2 w1) := ⟨F.q2, F.q3, F.q6, F.q7, F.q8, fun _ => ⟨(show _ from (by simp [hdep] : d_ 0 = true)), (show _ from (by simp [hdep] : d_ 1 = true)), (show _ from (by simp [hdep] : d_ 2 = true)), (show _ from (by simp [hdep] : d_ 3 = true)), (show _ from (by simp [hdep] : d_ 4 = true)), (show _ from (by simp [hdep] : d_ 5 = true)), (show _ from (by simp [hdep] : d_ 6 = true)), (show _ from (by simp [hdep] : d_ 7 = true)), (show _ from (by simp [hdep] : d_ 8 = true))⟩, F.f0, F.f1, F.f2, F.f3, F.f4, F.f5, F.f6, F.f7, F.f8, fun _ => rfl, F.st0, F.st1⟩
      clear F
      go_simp
      exact HK.out _ _ ⟨_, _, _, _, _, _, _, _, _, _, _, rfl, HF.out⟩
  · rintro d_ a_ w1 hall ⟨x70, x71, x72, x73, x74, x75, x76, x77, x78, x13, r2, rfl, F⟩
    have hall' : ∀ k, k < 10 → d_ k = true := hall
    obtain rfl := F.f0 (hall' 0 (by decide))
    obtain rfl := F.f1 (hall' 1 (by decide))
    obtain rfl := F.f2 (hall' 2 (by decide))
    obtain rfl := F.f3 (hall' 3 (by decide))
    obtain rfl := F.f4 (hall' 4 (by decide))
    obtain rfl := F.f5 (hall' 5 (by decide))
    obtain rfl := F.f6 (hall' 6 (by decide))
    obtain rfl := F.f7 (hall' 7 (by decide))
    obtain rfl := F.f8 (hall' 8 (by decide))
    obtain rfl := F.f9 (hall' 9 (by decide))
    have hst := F.st1 (hall' 8 (by decide))
    exact HQ.out r2 w1 hst
end Go.Proofs.Ytjkhclijmcmdjaa
namespace Go.Proofs.Ytjkhclijmcmdjaa
open Go.RowKit
set_option linter.unusedVariables false
set_option linter.unusedSimpArgs false
set_option maxRecDepth 100000 in
set_option maxHeartbeats 2000000 in
theorem best24 {p : Prs} {A : PrsA} {w : World} (hP : IsPrs w p A) (hS : p.Small) :
    Calls Try.prog 24 #[p.v A] w fun e w' => ∃ a c, e = .returned (.tuple #[.slice a (bestR p).1.length c, .int .i64 (bestR p).2.1, .int .i64 (bestR p).2.2]) ∧ IsFmes w' a (bestR p).1 ∧ Below w.heap.size w w' := by
  have hb0 : Below w.heap.size w (w.alloc (.cells (p.arr A) 27)) := (Below.refl _ w).alloc (Nat.le_refl _) _
  have q0 := World.alloc_heap_new w (.cells (p.arr A) 27)
  have HX := Lib.hid (And.intro q0 (And.intro hb0 (hP.mono hb0)))
  have HS := Lib.hid hS
  clear hb0 q0 hP hS
  go_enter Try.func24, Try.ntmps24
  refine wp_seq_hid ?_
  intro K0 HK0
  go_wp2_with fail
  refine HK0.out _ _ ?_
  clear HK0 K0
  revert HX
  generalize w.alloc (.cells (p.arr A) 27) = w1
  generalize w.heap.size = bp
  intro HX
  have HPC := Lib.hid (prs_cells HX.out.1)
  have HC := Lib.hid (rcheck46 (w := w1) HX.out.2.2 HS.out true)
  obtain ⟨c0, c1, c2, c3, c4, c5, c6, c7, c8, c9⟩ := HPC.out
  go_wp2_with fail
  refine HC.out.mono ?_
  rintro e w2 ⟨rfl, hb2⟩
  have HB2 := Lib.hid hb2
  clear hb2 HC c0 c1 c2 c3 c4 c5 c6 c7 c8 c9
  by_cases hV : p.valid = true
  · have he : p.openE true = 0 := by simp [Prs.openE, hV]
    rw [he]
    have HBE : Hid (bestR p = (if p.allB.2 then (p.allB.1, p.cost p.allB.1, 0) else ([], 0, 10))) := by
      rw [Hid]; unfold bestR; simp [he]
    have HV := Lib.hid hV
    clear he hV
    have HC := Lib.hid (rfew50 (c := 0) (w := w2) (HX.out.2.2.mono HB2.out) (spoil_of HV.out) (by have := wants_ne HV.out; omega) (fmes_nil w2) (plOf_of HV.out (l := []) (by simp) (fun f h => by simp at h)).plan)
    obtain ⟨c0, c1, c2, c3, c4, c5, c6, c7, c8, c9⟩ := HPC.out.mono HB2.out
    go_wp2_with fail
    refine HC.out.mono ?_
    rintro e w3 ⟨rfl, hb3⟩
    have HB3 := Lib.hid (HB2.out.trans (hb3.mono HB2.out.size))
    clear hb3 HC c0 c1 c2 c3 c4 c5 c6 c7 c8 c9
    have HC := Lib.hid (formes56 (w := w3) HV.out (HX.out.2.2.mono HB3.out))
    obtain ⟨c0, c1, c2, c3, c4, c5, c6, c7, c8, c9⟩ := HPC.out.mono HB3.out
    have HST : Hid (p.oneAt 0 = ([], decide (fewV p [] < 0))) := rfl
    go_wp2_with fail
    refine HC.out.mono ?_
    rintro e w5 ⟨a8, cc8, rfl, hA8, hb5⟩
    have HB5 := Lib.hid (HB3.out.trans (hb5.mono HB3.out.size))
    have HA8 := Lib.hid hA8
    clear hA8 hb5 HC c0 c1 c2 c3 c4 c5 c6 c7 c8 c9
    have hN := fmesR_len HV.out
    have HP5 := Lib.hid (HPC.out.mono HB5.out)
    have HI5 := Lib.hid (HX.out.2.2.mono HB5.out)
    go_wp2_with fail
    go_loopw [6, 7, 9] (fun t f i wr => ∃ (k : Nat) (ab : Option Addr) (cb : Nat) (lb : List Fme) (fb : Bool), k ≤ p.fmesR.length ∧ i = .int .i64 (k : Int) ∧ t = .slice ab lb.length cb ∧ f = .bool fb ∧ Hid (p.oneAt k = (lb, fb)) ∧ Hid (IsFmes wr ab lb) ∧ Hid (PlOf p lb) ∧ Hid (Below w5.heap.size w5 wr)) (fun _ _ i _ => p.fmesR.length - (intOf i).toNat)
    case atStart => exact ⟨0, none, 0, [], decide (fewV p [] < 0), by omega, by go_num, rfl, rfl, HST.out, fmes_nil _, plOf_of HV.out (by simp) (fun f h => by simp at h), Below.refl _ _⟩
    case round =>
      clear HST
      obtain ⟨i, ab, cb, lb, fb, hi, rfl, rfl, rfl, HST, HL, HPL, HW⟩ := hrel
      by_cases hlt : i < p.fmesR.length
      · obtain ⟨b, off, hab, ai, ci, hc0, hc1, hint⟩ := (HA8.out.mono HW.out) i hlt
        subst hab
        have HPX := Lib.hid (plOf_one HV.out hlt)
        have HSU := Lib.hid (oneAt_succ p hlt)
        rw [HST.out] at HSU
        revert hc0 hc1 hint HPX HSU
        generalize gf p.fmesR i = fx
        intro hc0 hc1 hint HPX HSU
        have hal : Below wr.heap.size wr (wr.alloc (.cells #[.slice ai fx.slots.length ci, .int .i64 fx.times] 29)) := (Below.refl _ wr).alloc (Nat.le_refl _) _
        have HFX := Lib.hid (fmes_one (g := wr.heap.size) (World.alloc_heap_new wr (.cells #[.slice ai fx.slots.length ci, .int .i64 fx.times] 29)) (hint.mono hal))
        have HAL := Lib.hid hal
        clear hint hal
        go_upto_region 11 with fail
        revert HFX HAL
        generalize wr.alloc (.cells #[.slice ai fx.slots.length ci, .int .i64 fx.times] 29) = wa
        intro HFX HAL
        have HWA := Lib.hid (HW.out.trans (HAL.out.mono HW.out.size))
        clear hc0 hc1
        refine btr11 (p := p) (A := A) (bp := bp) (nx := 1) (cx := 1) (X := p.cost [fx]) (B := p.cost lb) (fw := fewV p [fx]) (found := fb) (res := p.takes (lb, fb) [fx]) (HP5.out.mono HWA.out) rfl
          (fun y => rcost52 (HFX.out.mono y.h) HPX.out.cost) (fun y => rcost52 ((HL.out.mono HAL.out).mono y.h) HPL.out.cost) (fun y => rfew50 ((HI5.out.mono HWA.out).mono y.h) (spoil_of HV.out) (by have := wants_ne HV.out; omega) (HFX.out.mono y.h) HPX.out.plan) ?_
        intro _ _ _ _ _ _ _ _ _ _ _ _ _ _ _ _ y
        have HY := Lib.hid (HWA.out.trans (y.h.mono HWA.out.size))
        cases htk : p.takes (lb, fb) [fx] with
        | true =>
          have HR : Hid (p.oneAt (i + 1) = ([fx], true)) := by rw [Hid, HSU.out, Prs.stepB, if_pos htk]
          clear htk HSU
          go_wp2_with fail
          go_roundw
          case rel => exact ⟨i + 1, _, 1, [fx], true, by omega, by go_num, rfl, rfl, HR.out, HFX.out.mono y.h, HPX.out, HY.out⟩
          case measure => simp [intOf]; omega
        | false =>
          have HR : Hid (p.oneAt (i + 1) = (lb, fb)) := by rw [Hid, HSU.out, Prs.stepB, if_neg (by rw [htk]; simp)]
          clear htk HSU
          go_wp2_with fail
          go_roundw
          case rel => exact ⟨i + 1, ab, cb, lb, fb, by omega, by go_num, rfl, rfl, HR.out, (HL.out.mono HAL.out).mono y.h, HPL.out, HY.out⟩
          case measure => simp [intOf]; omega
      · obtain rfl : i = p.fmesR.length := by omega
        have HST2 : Hid (p.colAt 0 = (lb, fb)) := by rw [Hid, colAt_zero, ← oneAt_end]; exact HST.out
        clear HST hi
        go_wp2_with fail
        go_loopw [6, 7, 11] (fun t f i wr => ∃ (k : Nat) (ab : Option Addr) (cb : Nat) (lb : List Fme) (fb : Bool), k ≤ p.fmesR.length ∧ (¬ 1 < p.formes → k = 0) ∧ i = .int .i64 (k : Int) ∧ t = .slice ab lb.length cb ∧ f = .bool fb ∧ Hid (p.colAt k = (lb, fb)) ∧ Hid (IsFmes wr ab lb) ∧ Hid (PlOf p lb) ∧ Hid (Below w5.heap.size w5 wr)) (fun _ _ i _ => p.fmesR.length - (intOf i).toNat)
        case atStart => exact ⟨0, ab, cb, lb, fb, by omega, fun _ => rfl, by go_num, rfl, rfl, HST2.out, HL.out, HPL.out, HW.out⟩
        case round =>
          clear HST2 HL HPL HW
          obtain ⟨i, ab, cb, lb, fb, hi, hz, rfl, rfl, rfl, HST, HL, HPL, HW⟩ := hrel
          have c1 := (HP5.out.mono HW.out).c1
          by_cases hlt : i < p.fmesR.length
          · by_cases hf : 1 < p.formes
            · obtain ⟨b, off, hab, ai, ci, hc0, hc1, hint⟩ := HA8.out i hlt
              subst hab
              have HCI := Lib.hid (And.intro hc0 (And.intro hc1 hint))
              have HZ := Lib.hid hz
              have HF := Lib.hid hf
              clear hc0 hc1 hint hz
              go_wp2_with fail
              clear c1 hf
              obtain ⟨wo, hwo⟩ : ∃ x : World, x = wr := ⟨_, rfl⟩
              subst hwo
              go_loopw [6, 7, 12] (fun t f i' wr => ∃ (k : Nat) (ab : Option Addr) (cb : Nat) (lb : List Fme) (fb : Bool), k ≤ p.fmesR.length ∧ i' = .int .i64 (k : Int) ∧ t = .slice ab lb.length cb ∧ f = .bool fb ∧ Hid (p.cellAt i k = (lb, fb)) ∧ Hid (IsFmes wr ab lb) ∧ Hid (PlOf p lb) ∧ Hid (Below w5.heap.size w5 wr)) (fun _ _ i _ => p.fmesR.length - (intOf i).toNat)
              case atStart => exact ⟨0, ab, cb, lb, fb, by omega, by go_num, rfl, rfl, HST.out, HL.out, HPL.out, HW.out⟩
              case round =>
                clear HST HL HPL HW
                obtain ⟨k, ab, cb, lb, fb, hk, rfl, rfl, rfl, HST, HL, HPL, HW⟩ := hrel
                by_cases hkl : k < p.fmesR.length
                · obtain ⟨b2, off2, hab, ai2, ci2, hd0, hd1, hint2⟩ := HA8.out k hkl
                  cases hab
                  have HCK := Lib.hid (And.intro hd0 (And.intro hd1 hint2))
                  clear hd0 hd1 hint2
                  have HPX := Lib.hid (plOf_two HV.out hlt hkl)
                  have HSU := Lib.hid (cellAt_succ p i hkl)
                  rw [HST.out] at HSU
                  have HLK := Lib.hid (And.intro hlt hkl)
                  have HCI2 := HCI
                  revert HCI2 HCK HPX HSU
                  generalize gf p.fmesR i = fx
                  generalize gf p.fmesR k = fy
                  intro HCK HPX HSU HCI2
                  go_upto_region 19 with fail
                  refine wpIn_wide.1 (btr19 (b := b) (off := off) (n := p.fmesR.length) (c := cc8) (i := i) (k := k) (as_ := ai) (ns := fx.slots.length) (cs := ci) (n1 := fx.times) (at_ := ai2) (nt := fy.slots.length) (ct := ci2) (n2 := fy.times)
                    (S0 := fun w => Below wr.heap.size wr w) (S1 := fun r w => Below wr.heap.size wr w ∧ w.heap[r]? = some (.cells #[.slice ai fx.slots.length ci, .int .i64 fx.times, .slice ai2 fy.slots.length ci2, .int .i64 fy.times] 29 (0, 0))) hlt hkl ?h0 ?l3 ?l7 ?c8 ?hQ)
                  case h0 => exact (Below.refl _ wr).drew
                  case l3 => exact fun w h => ⟨cell_stays (HW.out.trans (h.mono HW.out.size)) HCI2.out.1, cell_stays (HW.out.trans (h.mono HW.out.size)) HCI2.out.2.1⟩
                  case l7 => exact fun w h => ⟨cell_stays (HW.out.trans (h.mono HW.out.size)) HCK.out.1, cell_stays (HW.out.trans (h.mono HW.out.size)) HCK.out.2.1⟩
                  case c8 => exact fun w h => ⟨h.alloc h.size _, World.alloc_heap_new _ _⟩
                  case hQ =>
                    intro g wa h
                    have HAL := Lib.hid h.1
                    have HWA := Lib.hid (HW.out.trans (h.1.mono HW.out.size))
                    have HFX := Lib.hid (fmes_two h.2 (HCI2.out.2.2.mono HWA.out) (HCK.out.2.2.mono HWA.out))
                    clear h
                    go_upto_region 20 with fail
                    refine btr20 (p := p) (A := A) (bp := bp) (nx := 2) (cx := 2) (X := p.cost [fx, fy]) (B := p.cost lb) (fw := fewV p [fx, fy]) (found := fb) (res := p.takes (lb, fb) [fx, fy]) (HP5.out.mono HWA.out) rfl
                      (fun y => rcost52 (HFX.out.mono y.h) HPX.out.cost) (fun y => rcost52 ((HL.out.mono HAL.out).mono y.h) HPL.out.cost) (fun y => rfew50 ((HI5.out.mono HWA.out).mono y.h) (spoil_of HV.out) (by have := wants_ne HV.out; omega) (HFX.out.mono y.h) HPX.out.plan) ?_
                    intro _ _ _ _ _ _ _ _ _ _ _ _ _ _ _ _ y
                    have HY := Lib.hid (HWA.out.trans (y.h.mono HWA.out.size))
                    cases htk : p.takes (lb, fb) [fx, fy] with
                    | true =>
                      have HR : Hid (p.cellAt i (k + 1) = ([fx, fy], true)) := by rw [Hid, HSU.out, Prs.stepB, if_pos htk]
                      clear htk HSU
                      go_wp2_with fail
                      go_roundw
                      case rel => exact ⟨k + 1, _, 2, [fx, fy], true, by omega, by go_num, rfl, rfl, HR.out, HFX.out.mono y.h, HPX.out, HY.out⟩
                      case measure => simp [intOf]; omega
                    | false =>
                      have HR : Hid (p.cellAt i (k + 1) = (lb, fb)) := by rw [Hid, HSU.out, Prs.stepB, if_neg (by rw [htk]; simp)]
                      clear htk HSU
                      go_wp2_with fail
                      go_roundw
                      case rel => exact ⟨k + 1, ab, cb, lb, fb, by omega, by go_num, rfl, rfl, HR.out, (HL.out.mono HAL.out).mono y.h, HPL.out, HY.out⟩
                      case measure => simp [intOf]; omega
                · obtain rfl : k = p.fmesR.length := by omega
                  have HST2 : Hid (p.colAt (i + 1) = (lb, fb)) := by rw [Hid, ← cellAt_end p hlt]; exact HST.out
                  clear HST
                  go_wp2_with fail
                  go_roundw
                  case rel => exact ⟨i + 1, ab, cb, lb, fb, by omega, fun h => absurd HF.out h, by go_num, rfl, rfl, HST2.out, HL.out, HPL.out, HW.out⟩
                  case measure => simp [intOf]; omega
            · obtain rfl := hz hf
              have HBR : Hid (p.allB = (lb, fb)) := by rw [Hid, Prs.allB, if_neg hf, ← colAt_zero]; exact HST.out
              have HRE : Hid (bestR p = (if fb then (lb, p.cost lb, 0) else ([], 0, 10))) := by rw [Hid, HBE.out, HBR.out]
              clear HBR HBE HST
              cases fb with
              | false =>
                have HRE2 : Hid (bestR p = ([], 0, 10)) := HRE.out
                clear HRE
                go_wp2_with fail
                go_ret3
                rw [HRE2.out]
                (first | exact ⟨none, 0, rfl, fmes_nil _, HX.out.2.1.trans ((HB5.out.trans (HW.out.mono HB5.out.size)).mono (Nat.le_of_lt (heap_lt HX.out.1)))⟩ | exact ⟨none, ⟨0, rfl⟩, fmes_nil _, HX.out.2.1.trans ((HB5.out.trans (HW.out.mono HB5.out.size)).mono (Nat.le_of_lt (heap_lt HX.out.1)))⟩)
              | true =>
                have HRE2 : Hid (bestR p = (lb, p.cost lb, 0)) := HRE.out
                clear HRE
                have HC := Lib.hid (rcost52 (c := cb) (p := p) (A := A) HL.out HPL.out.cost)
                obtain ⟨c0, c1', c2, c3, c4, c5, c6, c7, c8, c9⟩ := HP5.out.mono HW.out
                go_wp2_with fail
                refine HC.out.mono ?_
                rintro e w7 ⟨rfl, hb7⟩
                have HB7 := Lib.hid (HW.out.trans (hb7.mono HW.out.size))
                have HL7 := Lib.hid (HL.out.mono hb7)
                clear hb7 HC c0 c1' c2 c3 c4 c5 c6 c7 c8 c9
                go_wp2_with fail
                go_ret3
                rw [HRE2.out]
                exact ⟨ab, cb, rfl, HL7.out, HX.out.2.1.trans ((HB5.out.trans (HB7.out.mono HB5.out.size)).mono (Nat.le_of_lt (heap_lt HX.out.1)))⟩
          · have HBR : Hid (p.allB = (lb, fb)) := by
              by_cases hf : 1 < p.formes
              · obtain rfl : i = p.fmesR.length := by omega
                rw [Hid, Prs.allB, if_pos hf, ← colAt_end]
                exact HST.out
              · have h0 := hz hf
                rw [Hid, Prs.allB, if_neg hf, ← colAt_zero, ← h0]
                exact HST.out
            have HRE : Hid (bestR p = (if fb then (lb, p.cost lb, 0) else ([], 0, 10))) := by rw [Hid, HBE.out, HBR.out]
            clear HBR HBE HST
            cases fb with
            | false =>
              have HRE2 : Hid (bestR p = ([], 0, 10)) := HRE.out
              clear HRE
              go_wp2_with fail
              go_ret3
              rw [HRE2.out]
              (first | exact ⟨none, 0, rfl, fmes_nil _, HX.out.2.1.trans ((HB5.out.trans (HW.out.mono HB5.out.size)).mono (Nat.le_of_lt (heap_lt HX.out.1)))⟩ | exact ⟨none, ⟨0, rfl⟩, fmes_nil _, HX.out.2.1.trans ((HB5.out.trans (HW.out.mono HB5.out.size)).mono (Nat.le_of_lt (heap_lt HX.out.1)))⟩)
            | true =>
              have HRE2 : Hid (bestR p = (lb, p.cost lb, 0)) := HRE.out
              clear HRE
              have HC := Lib.hid (rcost52 (c := cb) (p := p) (A := A) HL.out HPL.out.cost)
              obtain ⟨c0, c1', c2, c3, c4, c5, c6, c7, c8, c9⟩ := HP5.out.mono HW.out
              go_wp2_with fail
              refine HC.out.mono ?_
              rintro e w7 ⟨rfl, hb7⟩
              have HB7 := Lib.hid (HW.out.trans (hb7.mono HW.out.size))
              have HL7 := Lib.hid (HL.out.mono hb7)
              clear hb7 HC c0 c1' c2 c3 c4 c5 c6 c7 c8 c9
              go_wp2_with fail
              go_ret3
              rw [HRE2.out]
              exact ⟨ab, cb, rfl, HL7.out, HX.out.2.1.trans ((HB5.out.trans (HB7.out.mono HB5.out.size)).mono (Nat.le_of_lt (heap_lt HX.out.1)))⟩
  · have he : p.openE true = 1 := by simp [Prs.openE, hV]
    have HBE : Hid (bestR p = ([], 0, 1)) := by rw [Hid]; unfold bestR; simp [he]
    rw [he]
    clear he hV
    go_wp2_with fail
    go_ret3
    rw [HBE.out]
    (first | exact ⟨none, 0, rfl, fmes_nil _, HX.out.2.1.trans (HB2.out.mono (Nat.le_of_lt (heap_lt HX.out.1)))⟩ | exact ⟨none, ⟨0, rfl⟩, fmes_nil _, HX.out.2.1.trans (HB2.out.mono (Nat.le_of_lt (heap_lt HX.out.1)))⟩)
end Go.Proofs.Ytjkhclijmcmdjaa
namespace Go.Proofs.Ytjkhclijmcmdjaa
set_option linter.unusedVariables false
set_option linter.unusedSimpArgs false
theorem cmpI_zero {a b : Int} (h : cmpI a b = 0) : a = b := by
  unfold cmpI at h
  by_cases h1 : a < b
  · simp [h1] at h
  · by_cases h2 : b < a
    · simp [h1, h2] at h
    · omega
theorem cmpL_eq : ∀ {a b : List Int}, cmpL a b = 0 → a = b
  | [], [], _ => rfl
  | [], _ :: _, h => by simp [cmpL] at h
  | _ :: _, [], h => by simp [cmpL] at h
  | x :: a, y :: b, h => by
    unfold cmpL at h
    by_cases h0 : cmpI x y = 0
    · rw [if_neg (by omega)] at h
      rw [cmpI_zero h0, cmpL_eq h]
    · rw [if_pos h0] at h; exact absurd h h0
end Go.Proofs.Ytjkhclijmcmdjaa
namespace Go.Proofs.Ytjkhclijmcmdjaa
set_option linter.unusedVariables false
set_option linter.unusedSimpArgs false
theorem fewV_neg {p : Prs} {l : List Fme} : fewV p l < 0 ↔ p.few l = none := by
  unfold fewV
  cases p.few l with
  | none => simp
  | some v => simp
theorem takes_iff {p : Prs} {st : List Fme × Bool} {x : List Fme} : p.takes st x = true ↔ (st.2 = true → p.cost x < p.cost st.1) ∧ p.few x = none := by
  unfold Prs.takes
  rw [Bool.and_eq_true, decide_eq_true_eq, fewV_neg]
  cases st.2 <;> simp
theorem foldB (p : Prs) : ∀ (L : List (List Fme)) (st : List Fme × Bool),
    (L.foldl p.stepB st = st ∧ ∀ x ∈ L, p.few x = none → st.2 = true ∧ p.cost st.1 ≤ p.cost x) ∨
    ((L.foldl p.stepB st).2 = true ∧ ∃ L1 L2, L = L1 ++ (L.foldl p.stepB st).1 :: L2 ∧ p.few (L.foldl p.stepB st).1 = none ∧ (st.2 = true → p.cost (L.foldl p.stepB st).1 < p.cost st.1) ∧
      (∀ x ∈ L1, p.few x = none → p.cost (L.foldl p.stepB st).1 < p.cost x) ∧ ∀ x ∈ L2, p.few x = none → p.cost (L.foldl p.stepB st).1 ≤ p.cost x)
  | [], st => .inl ⟨rfl, fun x h => by cases h⟩
  | y :: r, st => by
    rw [List.foldl_cons]
    by_cases h : p.takes st y = true
    · have e : p.stepB st y = (y, true) := by unfold Prs.stepB; rw [if_pos h]
      rw [takes_iff] at h
      rw [e]
      right
      rcases foldB p r (y, true) with ⟨h1, h2⟩ | ⟨h0, L1, L2, h1, h2, h3, h4, h5⟩
      · rw [h1]
        exact ⟨rfl, [], r, rfl, h.2, h.1, (fun x hx => by cases hx), fun x hx hf => (h2 x hx hf).2⟩
      · refine ⟨h0, y :: L1, L2, by rw [List.cons_append, ← h1], h2, fun hs => ?_, fun x hx hf => ?_, h5⟩
        · have a1 := h3 rfl
          have a2 := h.1 hs
          exact Int.lt_trans a1 a2
        · rcases List.mem_cons.1 hx with rfl | hx
          · exact h3 rfl
          · exact h4 x hx hf
    · have e : p.stepB st y = st := by unfold Prs.stepB; rw [if_neg h]
      rw [takes_iff] at h
      rw [e]
      have hy : p.few y = none → st.2 = true ∧ p.cost st.1 ≤ p.cost y := fun hf => by
        by_cases hs : st.2 = true
        · refine ⟨hs, Int.not_lt.1 fun hc => h ⟨fun _ => hc, hf⟩⟩
        · exact absurd ⟨fun a => absurd a hs, hf⟩ h
      rcases foldB p r st with ⟨h1, h2⟩ | ⟨h0, L1, L2, h1, h2, h3, h4, h5⟩
      · left
        exact ⟨h1, fun x hx hf => by
          rcases List.mem_cons.1 hx with rfl | hx
          · exact hy hf
          · exact h2 x hx hf⟩
      · right
        refine ⟨h0, y :: L1, L2, by rw [List.cons_append, ← h1], h2, h3, fun x hx hf => ?_, h5⟩
        rcases List.mem_cons.1 hx with rfl | hx
        · obtain ⟨a1, a2⟩ := hy hf
          have a3 := h3 a1
          omega
        · exact h4 x hx hf
def Prs.pairsR (p : Prs) : List (List Fme) := if p.formes > 1 then p.fmesR.flatMap fun f => p.fmesR.map fun g => [f, g] else []
def Prs.allR (p : Prs) : List (List Fme) := [] :: ((p.fmesR.map fun f => [f]) ++ p.pairsR)
theorem allB_fold (p : Prs) : p.allB = p.allR.foldl p.stepB ([], false) := by
  have e0 : p.startB = p.stepB ([], false) [] := by
    unfold Prs.startB Prs.stepB Prs.takes
    by_cases h : fewV p [] < 0
    · simp [h]
    · simp [h]
  unfold Prs.allR
  rw [List.foldl_cons, List.foldl_append, ← e0]
  unfold Prs.allB Prs.pairsR
  show _ = List.foldl p.stepB p.oneB _
  split
  · rw [List.foldl_flatMap]
    rfl
  · rfl
theorem fmesR_iff {p : Prs} (hV : p.valid = true) {f : Fme} : f ∈ p.fmesR ↔ fmeOk p f = true ∧ f.times ≤ p.most := by
  have hm := most_bd hV
  constructor
  · intro h
    unfold Prs.fmesR at h
    rw [List.mem_flatMap] at h
    obtain ⟨s, hs, hf⟩ := h
    unfold Prs.fam at hf
    rw [List.mem_map] at hf
    obtain ⟨n, hn, rfl⟩ := hf
    rw [List.mem_range] at hn
    exact ⟨slots_fme hV hs (by omega) (by omega), by show (n : Int) + 1 ≤ p.most; omega⟩
  · intro h
    have ht := (fme_parts h.1).2.2.2
    unfold Prs.fmesR
    rw [List.mem_flatMap]
    refine ⟨f.slots, slots_all hV h.1, ?_⟩
    unfold Prs.fam
    rw [List.mem_map]
    exact ⟨f.times.toNat - 1, by rw [List.mem_range]; omega, by
      have : ((f.times.toNat - 1 : Nat) : Int) + 1 = f.times := by omega
      rw [this]⟩
def numsF (f : Fme) : List Int := f.slots ++ [f.times]
theorem numsF_one (f : Fme) : numsL [f] = numsF f := nums_one f
theorem numsF_two (f g : Fme) : numsL [f, g] = numsF f ++ numsF g := by rw [nums_two]; simp [numsF]
theorem numsF_len {p : Prs} {f : Fme} (h : fmeOk p f = true) : (numsF f).length = p.wanted.length + 1 := by
  unfold numsF
  rw [List.length_append, (fme_parts h).1]
  rfl
theorem fmesR_sorted {p : Prs} (hV : p.valid = true) : p.fmesR.Pairwise fun f g => cmpL (numsF f) (numsF g) < 0 := by
  unfold Prs.fmesR
  rw [List.pairwise_flatMap]
  refine ⟨fun s _ => ?_, ?_⟩
  · unfold Prs.fam
    rw [List.pairwise_map]
    refine List.Pairwise.imp ?_ List.pairwise_lt_range
    intro a b hab
    show cmpL (s ++ [(a : Int) + 1]) (s ++ [(b : Int) + 1]) < 0
    rw [cmpL_pre, keyL_lt]
    left; omega
  · refine List.Pairwise.imp_of_mem ?_ (slots_sorted p)
    intro a b ha hb hab f hf g hg
    unfold Prs.fam at hf hg
    rw [List.mem_map] at hf hg
    obtain ⟨n, _, rfl⟩ := hf
    obtain ⟨m, _, rfl⟩ := hg
    exact cmpL_app _ _ (by rw [(slots_ok hV ha).1, (slots_ok hV hb).1]) hab
/-- One plan comes before another one, whatever they cost. -/
def Lt2 (x y : List Fme) : Prop := x.length < y.length ∨ x.length = y.length ∧ cmpL (numsL x) (numsL y) < 0
theorem allR_sorted {p : Prs} (hV : p.valid = true) : p.allR.Pairwise Lt2 := by
  have hS := fmesR_sorted hV
  unfold Prs.allR
  rw [List.pairwise_cons]
  have h1 : ∀ x ∈ p.fmesR.map (fun f => [f]), x.length = 1 := fun x hx => by
    rw [List.mem_map] at hx
    obtain ⟨f, _, rfl⟩ := hx
    rfl
  have h2 : ∀ x ∈ p.pairsR, x.length = 2 := fun x hx => by
    unfold Prs.pairsR at hx
    split at hx
    · rw [List.mem_flatMap] at hx
      obtain ⟨f, _, hx⟩ := hx
      rw [List.mem_map] at hx
      obtain ⟨g, _, rfl⟩ := hx
      rfl
    · cases hx
  refine ⟨fun x hx => ?_, ?_⟩
  · left
    rcases List.mem_append.1 hx with h | h
    · have := h1 x h; simp; omega
    · have := h2 x h; simp; omega
  · rw [List.pairwise_append]
    refine ⟨?_, ?_, fun x hx y hy => ?_⟩
    · rw [List.pairwise_map]
      exact hS.imp fun h => .inr ⟨rfl, by rw [numsF_one, numsF_one]; exact h⟩
    · unfold Prs.pairsR
      split
      · rw [List.pairwise_flatMap]
        refine ⟨fun f hf => ?_, ?_⟩
        · rw [List.pairwise_map]
          exact hS.imp fun h => .inr ⟨rfl, by rw [numsF_two, numsF_two, cmpL_pre]; exact h⟩
        · refine hS.imp_of_mem ?_
          intro f g hf hg h x hx y hy
          rw [List.mem_map] at hx hy
          obtain ⟨u, _, rfl⟩ := hx
          obtain ⟨v, _, rfl⟩ := hy
          refine .inr ⟨rfl, ?_⟩
          rw [numsF_two, numsF_two]
          exact cmpL_app _ _ (by rw [numsF_len ((fmesR_iff hV).1 hf).1, numsF_len ((fmesR_iff hV).1 hg).1]) h
      · exact List.Pairwise.nil
    · left
      rw [h1 x hx, h2 y hy]
      omega
theorem allR_in {p : Prs} (hV : p.valid = true) {l : List Fme} (h : p.Sure l) (hm : ∀ f ∈ l, f.times ≤ p.most) : l ∈ p.allR := by
  unfold Prs.allR
  match l, h with
  | [], _ => simp
  | [f], h =>
    refine List.mem_cons_of_mem _ (List.mem_append_left _ ?_)
    rw [List.mem_map]
    exact ⟨f, (fmesR_iff hV).2 ⟨h.2.1 f (by simp), hm f (by simp)⟩, rfl⟩
  | [f, g], h =>
    refine List.mem_cons_of_mem _ (List.mem_append_right _ ?_)
    unfold Prs.pairsR
    rw [if_pos (by have := h.1; simp at this; omega), List.mem_flatMap]
    refine ⟨f, (fmesR_iff hV).2 ⟨h.2.1 f (by simp), hm f (by simp)⟩, ?_⟩
    rw [List.mem_map]
    exact ⟨g, (fmesR_iff hV).2 ⟨h.2.1 g (by simp), hm g (by simp)⟩, rfl⟩
  | f :: g :: x :: r, h => have h1 := h.1; have h2 := formes_of hV; simp at h1; omega
theorem allR_ok {p : Prs} (hV : p.valid = true) {l : List Fme} (h : l ∈ p.allR) (hf : p.few l = none) : p.Sure l := by
  have h2 := formes_of hV
  unfold Prs.allR at h
  rcases List.mem_cons.1 h with rfl | h
  · exact ⟨by simp; omega, (fun f hf => by cases hf), hf⟩
  · rcases List.mem_append.1 h with h | h
    · rw [List.mem_map] at h
      obtain ⟨f, hf1, rfl⟩ := h
      exact ⟨by simp; omega, fun g hg => by rw [List.mem_singleton.1 hg]; exact ((fmesR_iff hV).1 hf1).1, hf⟩
    · unfold Prs.pairsR at h
      split at h
      · rw [List.mem_flatMap] at h
        obtain ⟨f, hf1, h⟩ := h
        rw [List.mem_map] at h
        obtain ⟨g, hg1, rfl⟩ := h
        refine ⟨by simp; omega, fun x hx => ?_, hf⟩
        rcases List.mem_cons.1 hx with rfl | hx
        · exact ((fmesR_iff hV).1 hf1).1
        · rw [List.mem_singleton.1 hx]; exact ((fmesR_iff hV).1 hg1).1
      · cases h
/-- What the reference's plan is. -/
theorem ref_law {p : Prs} (hV : p.valid = true) : (p.allB.2 = false ∧ ∀ l, ¬ p.Sure l) ∨ (p.allB.2 = true ∧ p.Sure p.allB.1 ∧ ∀ l, p.Sure l → cmpL (p.key p.allB.1) (p.key l) ≤ 0) := by
  rw [allB_fold]
  have hcap : ∀ l, p.Sure l → ∃ x ∈ p.allR, p.few x = none ∧ cmpL (p.key x) (p.key l) ≤ 0 := fun l h => by
    obtain ⟨h1, h2⟩ := cap_sure hV h
    exact ⟨_, allR_in hV h1 (fun f hf => by
      rw [List.mem_map] at hf
      obtain ⟨g, _, rfl⟩ := hf
      exact (cap_le g).2), h1.2.2, h2⟩
  rcases foldB p p.allR ([], false) with ⟨h1, h2⟩ | ⟨h0, L1, L2, h1, h2, _, h4, h5⟩
  · left
    rw [h1]
    refine ⟨rfl, fun l h => ?_⟩
    obtain ⟨x, hx, hf, _⟩ := hcap l h
    cases (h2 x hx hf).1
  · right
    have hmem : (p.allR.foldl p.stepB ([], false)).1 ∈ p.allR := by
      have e : (p.allR.foldl p.stepB ([], false)).1 ∈ L1 ++ (p.allR.foldl p.stepB ([], false)).1 :: L2 := by simp
      rw [← h1] at e
      exact e
    refine ⟨h0, allR_ok hV hmem h2, fun l h => ?_⟩
    obtain ⟨x, hx, hf, hk⟩ := hcap l h
    refine cmpL_trans ?_ hk
    have hS := allR_sorted hV
    rw [h1] at hS hx
    rw [List.pairwise_append, List.pairwise_cons] at hS
    rw [key_le]
    rcases List.mem_append.1 hx with hx | hx
    · exact .inl (h4 x hx hf)
    · rcases List.mem_cons.1 hx with rfl | hx
      · exact .inr ⟨rfl, .inr ⟨rfl, by rw [cmpL_refl]; omega⟩⟩
      · have h6 := h5 x hx hf
        have h7 : Lt2 _ x := hS.2.1.1 x hx
        unfold Lt2 at h7
        by_cases h8 : p.cost (p.allR.foldl p.stepB ([], false)).1 = p.cost x
        · refine .inr ⟨h8, ?_⟩
          rcases h7 with h7 | h7
          · exact .inl h7
          · exact .inr ⟨h7.1, by omega⟩
        · left; omega
theorem sure_inj {p : Prs} (hV : p.valid = true) {x y : List Fme} (hx : p.Sure x) (hy : p.Sure y) (hl : x.length = y.length) (hn : numsL x = numsL y) : x = y := by
  have fin : ∀ {f g : Fme}, fmeOk p f = true → fmeOk p g = true → numsF f = numsF g → f = g := fun {f g} hf hg h => by
    unfold numsF at h
    have h1 := List.append_inj h (by rw [(fme_parts hf).1, (fme_parts hg).1])
    cases f; cases g
    simp at h1
    rw [h1.1, h1.2]
  match x, y, hx, hy, hl with
  | [], [], _, _, _ => rfl
  | [f], [g], hx, hy, _ =>
    rw [numsF_one, numsF_one] at hn
    rw [fin (hx.2.1 f (by simp)) (hy.2.1 g (by simp)) hn]
  | [f, f'], [g, g'], hx, hy, _ =>
    rw [numsF_two, numsF_two] at hn
    have a1 := hx.2.1 f (by simp)
    have a2 := hy.2.1 g (by simp)
    obtain ⟨h1, h2⟩ := List.append_inj hn (by rw [numsF_len a1, numsF_len a2])
    rw [fin a1 a2 h1, fin (hx.2.1 f' (by simp)) (hy.2.1 g' (by simp)) h2]
  | f :: g :: z :: r, _, hx, _, _ => have h1 := hx.1; have h2 := formes_of hV; simp at h1; omega
theorem key_inj {p : Prs} (hV : p.valid = true) {x y : List Fme} (hx : p.Sure x) (hy : p.Sure y) (h1 : cmpL (p.key x) (p.key y) ≤ 0) (h2 : cmpL (p.key y) (p.key x) ≤ 0) : x = y := by
  have h3 := cmpL_neg (p.key x) (p.key y)
  have h4 := cmpL_eq (show cmpL (p.key x) (p.key y) = 0 by omega)
  unfold Prs.key at h4
  simp only [List.cons.injEq] at h4
  exact sure_inj hV hx hy (by omega) h4.2.2
/-- The reference's cheapest plan is the program's. -/
theorem bestR_eq (p : Prs) : bestR p = bestE p := by
  unfold bestR bestE
  by_cases hV : p.valid = true
  · have e : p.openE true = 0 := by unfold Prs.openE; simp [hV]
    simp only [e, ↓reduceIte]
    rcases ref_law hV with ⟨h1, h2⟩ | ⟨h1, h2, h3⟩ <;> rcases best_law hV with ⟨g1, g2⟩ | ⟨b, g1, g2, g3⟩
    · rw [g1, h1]; rfl
    · exact absurd g2 (h2 b)
    · exact absurd h2 (g2 _)
    · rw [g1, h1, key_inj hV h2 g2 (h3 b g2) (g3 _ h2)]; rfl
  · have e : p.openE true = 1 := by unfold Prs.openE; simp [hV]
    simp only [e]
    rfl
end Go.Proofs.Ytjkhclijmcmdjaa
namespace Go.Proofs.Ytjkhclijmcmdjaa
open Go.RowKit
set_option linter.unusedVariables false
set_option linter.unusedSimpArgs false
theorem best_small {p : Prs} : (bestE p).1.length ≤ 2 ∧ ∀ f ∈ (bestE p).1, f.slots.length ≤ 4 := by
  unfold bestE
  by_cases hV : p.valid = true
  · have e : p.openE true = 0 := by unfold Prs.openE; simp [hV]
    simp only [e, ↓reduceIte]
    rcases best_law hV with ⟨g1, _⟩ | ⟨b, g1, g2, _⟩
    · rw [g1]; simp
    · rw [g1]
      have h1 := g2.1
      have h2 := formes_of hV
      have h3 := wanted_of hV
      refine ⟨by show b.length ≤ 2; omega, fun f hf => ?_⟩
      have := (fme_parts (g2.2.1 f hf)).1
      omega
  · have e : p.openE true = 1 := by unfold Prs.openE; simp [hV]
    simp only [e]
    simp
set_option maxRecDepth 100000 in
set_option maxHeartbeats 4000000 in
theorem stockBest_any {p : Prs} {A : PrsA} {w : World} (hP : IsPrs w p A) :
    Calls Try.prog 4 #[p.v A] w fun e w' => e = .returned (.bool true) ∧ Below w.heap.size w w' := by
  have hb0 : Below w.heap.size w (w.alloc (.cells (p.arr A) 27)) := (Below.refl _ w).alloc (Nat.le_refl _) _
  have q0 := World.alloc_heap_new w (.cells (p.arr A) 27)
  have HW := Lib.hid (And.intro hb0 (And.intro q0 (hP.mono hb0)))
  clear hb0 q0 hP
  go_enter Try.func4, Try.ntmps4
  refine wp_seq_hid ?_
  intro K0 HK0
  go_wp2_with fail
  refine HK0.out _ _ ?_
  clear HK0 K0
  refine wp_seq_hid ?_
  intro K1 HK1
  revert HW
  generalize w.alloc (.cells (p.arr A) 27) = w1
  intro HW
  have KP : Hid (∀ v, Below w1.heap.size w1 v → PrsC v w.heap.size p A ∧ IsPrs v p A ∧ Below w.heap.size w v) := fun v h => ⟨prs_cells ((h.block _ (heap_lt HW.out.2.1)).trans HW.out.2.1), HW.out.2.2.mono h, HW.out.1.trans (h.mono HW.out.1.size)⟩
  have HB := Lib.hid (Below.refl w1.heap.size w1)
  obtain ⟨l, n, x, hE⟩ : ∃ l n x, bestE p = (l, n, x) := ⟨_, _, _, rfl⟩
  have hsm := best_small (p := p)
  rw [hE] at hsm
  have HSM := Lib.hid hsm
  have C23 : Hid (∀ v, Below w1.heap.size w1 v → p.Small → Calls Try.prog 23 #[p.v A] v fun e w' => ∃ a c, e = .returned (.tuple #[.slice a l.length c, .int .i64 n, .int .i64 x]) ∧ IsFmes w' a l ∧ Below v.heap.size v w') := fun v h hs => by
    have G := best23 (KP.out v h).2.1 hs
    rw [hE] at G
    exact G
  have C24 : Hid (∀ v, Below w1.heap.size w1 v → p.Small → Calls Try.prog 24 #[p.v A] v fun e w' => ∃ a c, e = .returned (.tuple #[.slice a l.length c, .int .i64 n, .int .i64 x]) ∧ IsFmes w' a l ∧ Below v.heap.size v w') := fun v h hs => by
    have G := best24 (KP.out v h).2.1 hs
    rw [bestR_eq, hE] at G
    exact G
  clear hE hsm
  obtain ⟨k0, k1, k2, k3, k4, k5, k6, k7, k8, k9⟩ := (KP.out w1 HB.out).1
  go_wp2_with fail
  refine (far13 (l := []) (a := none) (c := 0) (KP.out w1 HB.out).2.1 (fmes_nil _)).mono ?_
  rintro e b1 ⟨rfl, hb⟩
  have HX := Lib.hid (HB.out.trans (hb.mono HB.out.size))
  clear hb HB k0 k1 k2 k3 k4 k5 k6 k7 k8 k9
  have HB := HX
  clear HX
  cases hf : farB p []
  case true =>
    go_wp2_with fail
    refine (awake14 (w := _)).mono ?_
    rintro e c1 ⟨rfl, hb⟩
    have HX := Lib.hid (HB.out.trans (hb.mono HB.out.size))
    clear hb
    go_wp2_with fail
    go_ret
    exact ⟨rfl, (KP.out _ HX.out).2.2⟩
  have HS := Lib.hid (far_small hf).1
  clear hf
  obtain ⟨k0, k1, k2, k3, k4, k5, k6, k7, k8, k9⟩ := (KP.out b1 HB.out).1
  go_wp2_with fail
  refine (heavy22 (r := 3) (n := 4) (KP.out b1 HB.out).2.1 HS.out).mono ?_
  rintro e b2 ⟨rfl, hb⟩
  have HX := Lib.hid (HB.out.trans (hb.mono HB.out.size))
  clear hb HB k0 k1 k2 k3 k4 k5 k6 k7 k8 k9
  have HB := HX
  clear HX
  cases hh : heavyB p 3 4
  case true =>
    go_wp2_with fail
    refine (awake14 (w := _)).mono ?_
    rintro e c1 ⟨rfl, hb⟩
    have HX := Lib.hid (HB.out.trans (hb.mono HB.out.size))
    clear hb
    go_wp2_with fail
    go_ret
    exact ⟨rfl, (KP.out _ HX.out).2.2⟩
  clear hh
  go_wp2_with fail
  refine HK1.out _ _ ?_
  clear HK1 K1
  refine wp_seq_hid ?_
  intro K2 HK2
  obtain ⟨k0, k1, k2, k3, k4, k5, k6, k7, k8, k9⟩ := (KP.out b2 HB.out).1
  go_wp2_with fail
  refine (C23.out _ HB.out HS.out).mono ?_
  rintro e b3 ⟨a1, c1, rfl, hf1, hb⟩
  have HX := Lib.hid (And.intro (HB.out.trans (hb.mono HB.out.size)) hf1)
  clear hb HB k0 k1 k2 k3 k4 k5 k6 k7 k8 k9 hf1
  have HB := HX
  clear HX
  go_wp2_with fail
  refine HK2.out _ _ ?_
  clear HK2 K2
  refine wp_seq_hid ?_
  intro K3 HK3
  obtain ⟨k0, k1, k2, k3, k4, k5, k6, k7, k8, k9⟩ := (KP.out b3 HB.out.1).1
  go_wp2_with fail
  refine (C24.out _ HB.out.1 HS.out).mono ?_
  rintro e b4 ⟨a2, c2, rfl, hf2, hb⟩
  have HX := Lib.hid (And.intro (HB.out.1.trans (hb.mono HB.out.1.size)) (And.intro (HB.out.2.mono hb) hf2))
  clear hb HB k0 k1 k2 k3 k4 k5 k6 k7 k8 k9 hf2
  have HB := HX
  clear HX
  go_wp2_with fail
  refine HK3.out _ _ ?_
  clear HK3 K3
  have G := formes25 (ca := c1) (cb := c2) HB.out.2.1 HB.out.2.2 (by have := HSM.out.1; omega) (by have := HSM.out.1; omega) (fun f hf => by have := HSM.out.2 f hf; omega) (fun f hf => by have := HSM.out.2 f hf; omega)
  rw [decide_eq_true rfl] at G
  go_wp2_with fail
  refine (G).mono ?_
  rintro e b5 ⟨rfl, hb⟩
  have HX := Lib.hid (And.intro (HB.out.1.trans (hb.mono HB.out.1.size)) (And.intro (HB.out.2.1.mono hb) (HB.out.2.2.mono hb)))
  clear hb HB G
  have HB := HX
  clear HX
  go_wp2_with fail
  refine (awake14 (w := _)).mono ?_
  rintro e c1 ⟨rfl, hb⟩
  have HX := Lib.hid (HB.out.1.trans (hb.mono HB.out.1.size))
  clear hb
  go_wp2_with fail
  go_ret
  exact ⟨rfl, (KP.out _ HX.out).2.2⟩
end Go.Proofs.Ytjkhclijmcmdjaa
namespace Go.Proofs.Ytjkhclijmcmdjaa
open Go.RowKit Go.WideShapes Go.ChangeShapes
section
variable {H : Type} {enc : TypeId × Value → H} {P : Program}
end
end Go.Proofs.Ytjkhclijmcmdjaa
namespace Go.Proofs.Ytjkhclijmcmdjaa
open Go.ChangeShapes Go.WideShapes Go.ChangeAt Go.Deep Go.RowKit Go.Joins
set_option linter.unusedVariables false
theorem Try.laidOut : laidOutB Try.prog = true := by kernel_rfl
section
variable {H : Type} {enc : TypeId × Value → H} {w : World} {base : Nat} {spare : Nat → Bool} {held : Bool}
end
end Go.Proofs.Ytjkhclijmcmdjaa
