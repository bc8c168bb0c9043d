/- A glacier that is opened. How far away a thing was in both pairs. How far a thing moved. How far a thing moved: the door. How far a thing moved. Sample functions. The rows of the examples. The pair of the examples; its things. A view of the glacier of the examples. The glacier of the examples. -/
import Derived.Test.YtbnhngfegnhaiaaC9
namespace Go.Proofs.Ytbnhngfegnhaiaa
open Go.RowKit
set_option linter.unusedVariables false
set_option linter.unusedSimpArgs false
theorem range_block {w : World} {b : Nat} {l : List Value} {t : TypeId} {fr : Nat × Nat} (hb : w.heap[b]? = some (.cells l.toArray t fr)) : w.rangeAt b 0 l := fun j v hv => by
  rw [Nat.zero_add]
  have e : w.cell? ⟨b, j, none⟩ = l.toArray[j]? := cell_of_heap hb
  rw [e]
  simpa using hv
theorem info28 : (Try.prog.info? 28).map (·.size) = some 18 := by kernel_rfl
theorem wpList_load_gla {ops : Array Oper} {rest : List Oper} {op : Oper} {a : Act} {w : World} {Q : Exit → Act → World → Prop} {b : Nat} {g : Gla} {a1 a2 : Option Addr} {c1 c2 : Nat} {ty : TypeId} {fr : Nat × Nat} (hq : w.heap[b]? = some (.cells (g.arr a1 c1 a2 c2) ty fr)) (hgd : op.guard = none) (x : Operand) (ho : op.op = .load 28 x)
    (hx : a.eval x = .pointer (some ⟨b, 0, none⟩)) (h : wpList Try.prog ops Q rest (a.put op.dst (g.v a1 c1 a2 c2)) w) : wpList Try.prog ops Q (op :: rest) a w :=
  wpList_load_mid hgd 28 x ho b 0 hx _ _ (range_block hq) Try.underlying28 rfl info28 h
theorem cf55 (args : Array Value) (w : World) : (callFunc 55 args).run Try.prog w = .ok (.enter 55 args) w := by simp [callFunc, Try.func55, Try.f55, go_sem]
theorem cf56 (args : Array Value) (w : World) : (callFunc 56 args).run Try.prog w = .ok (.enter 56 args) w := by simp [callFunc, Try.func56, Try.f56, go_sem]
theorem need38_yes (e : Int) (w : World) : Calls Try.prog 38 #[.bool true, .int .i64 e] w fun en w' => en = .returned (.tuple #[]) ∧ w = w' := by
  go_enter Try.func38, Try.ntmps38
  go_wp2
  go_end0
  exact ⟨rfl, rfl⟩
theorem need38_no (e : Int) (w : World) : Calls Try.prog 38 #[.bool false, .int .i64 e] w fun en w' => en = .panicked [{ v := .iface 81 (.agg #[.int .i64 e]), recovered := false }] ∧ w = w' := by
  go_enter Try.func38, Try.ntmps38
  go_wp2
  exact ⟨rfl, rfl, rfl⟩
theorem powerE_two {p : Par} (h : p.valid = true) : (powerE p).2 = 0 ∨ (powerE p).2 = 4 := by
  unfold powerE
  rw [h]
  simp only [if_true]
  cases p.look p.things p.all
  · exact .inr rfl
  · exact .inl rfl
/-- The error of a valid glacier. -/
def errG (g : Gla) : Int := if (powerE g.first).2 ≠ 0 then (powerE g.first).2 else (powerE g.second).2
/-- What stays while a glacier is opened. -/
structure OpI (w0 : World) (bg be : Nat) (g : Gla) (a1 : Option Addr) (c1 : Nat) (a2 : Option Addr) (c2 : Nat) (x y : Int) (v : World) : Prop where
  below : Below w0.heap.size w0 v
  h : v.heap[bg]? = some (.cells (g.arr a1 c1 a2 c2) 84 (0, 0))
  box : v.heap[w0.heap.size]? = some (.cells (g.arr a1 c1 a2 c2) 28 (0, 0))
  errs : v.heap[be]? = some (.cells #[.int .i64 x, .int .i64 y] 85 (0, 0))
theorem OpI.mono {w0 v v' : World} {bg be : Nat} {g : Gla} {a1 a2 : Option Addr} {c1 c2 : Nat} {x y : Int} (h : OpI w0 bg be g a1 c1 a2 c2 x y v) (hb : Below v.heap.size v v') : OpI w0 bg be g a1 c1 a2 c2 x y v' :=
  ⟨h.below.trans (hb.mono h.below.size), (hb.block _ (heap_lt h.h)).trans h.h, (hb.block _ (heap_lt h.box)).trans h.box, (hb.block _ (heap_lt h.errs)).trans h.errs⟩
theorem OpI.gla {w0 v : World} {bg be : Nat} {g : Gla} {a1 a2 : Option Addr} {c1 c2 : Nat} {x y : Int} (h : OpI w0 bg be g a1 c1 a2 c2 x y v) (hT : IsThs w0 a1 g.first.things ∧ IsThs w0 a2 g.second.things) : IsGla v bg g a1 c1 a2 c2 := ⟨h.h, hT.1.mono h.below, hT.2.mono h.below⟩
theorem OpI.put0 {w0 v : World} {bg be : Nat} {g : Gla} {a1 a2 : Option Addr} {c1 c2 : Nat} {x y : Int} (h : OpI w0 bg be g a1 c1 a2 c2 x y v) (hne : bg ≠ be) (hb : w0.heap.size < be) (z : Int) : OpI w0 bg be g a1 c1 a2 c2 z y (v.setCell ⟨be, 0, none⟩ (.int .i64 z)) :=
  ⟨h.below.setCell (p := ⟨be, 0, none⟩) (by show _ ≤ be; omega) _, (Below.heap_setCell _ _ _ _ hne).trans h.h, (Below.heap_setCell _ _ _ _ (by show _ ≠ be; omega)).trans h.box, heap_setCell_at (k := 0) h.errs _⟩
theorem OpI.put1 {w0 v : World} {bg be : Nat} {g : Gla} {a1 a2 : Option Addr} {c1 c2 : Nat} {x y : Int} (h : OpI w0 bg be g a1 c1 a2 c2 x y v) (hne : bg ≠ be) (hb : w0.heap.size < be) (z : Int) : OpI w0 bg be g a1 c1 a2 c2 x z (v.setCell ⟨be, 1, none⟩ (.int .i64 z)) :=
  ⟨h.below.setCell (p := ⟨be, 1, none⟩) (by show _ ≤ be; omega) _, (Below.heap_setCell _ _ _ _ hne).trans h.h, (Below.heap_setCell _ _ _ _ (by show _ ≠ be; omega)).trans h.box, heap_setCell_at (k := 1) h.errs _⟩
set_option maxRecDepth 100000 in
set_option maxHeartbeats 8000000 in
theorem open17 {g : Gla} {a1 a2 : Option Addr} {c1 c2 : Nat} {w : World} (hv : g.valid = true) (h1 : IsThs w a1 g.first.things) (h2 : IsThs w a2 g.second.things) :
    Calls Try.prog 17 #[g.v a1 c1 a2 c2, .bool true] w fun e w' => Below w.heap.size w w' ∧ ((errG g ≠ 0 ∧ e = .panicked [{ v := .iface 81 (.agg #[.int .i64 (errG g)]), recovered := false }]) ∨ (errG g = 0 ∧ ∃ bg, e = .returned (.pointer (some ⟨bg, 0, none⟩)) ∧ w.heap.size ≤ bg ∧ IsGla w' bg g a1 c1 a2 c2)) := by
  have HX := Lib.hid (And.intro (World.alloc_heap_new w (.cells (g.arr a1 c1 a2 c2) 28)) (alloc_below w (.cells (g.arr a1 c1 a2 c2) 28)))
  have HTH := Lib.hid (And.intro h1 h2)
  have HV := Lib.hid hv
  clear h1 h2 hv
  go_enter Try.func17, Try.ntmps17
  refine wp_seq_hid ?_
  intro K0 HK0
  go_wp2_with fail
  refine HK0.out _ _ ?_
  clear HK0 K0
  revert HX
  generalize w.alloc (.cells (g.arr a1 c1 a2 c2) 28) = w1
  intro HX
  refine wp_seq_hid ?_
  intro K1 HK1
  go_wp2_with (refine wpList_load_gla HX.out.1 rfl _ (by rfl) (by rfl) ?_)
  refine HK1.out _ _ ?_
  clear HK1 K1
  have HI : Hid (OpI w w1.heap.size (w1.heap.size + 1) g a1 c1 a2 c2 0 0 ((w1.alloc (.cells (g.arr a1 c1 a2 c2) 84)).alloc (.cells #[.int .i64 0, .int .i64 0] 85)) ∧ w.heap.size ≤ w1.heap.size) := by
    obtain ⟨q1, q2, q3⟩ := alloc2 w1 (g.arr a1 c1 a2 c2) #[.int .i64 0, .int .i64 0] 84 85
    exact ⟨⟨HX.out.2.trans (q3.mono HX.out.2.size), q1, (q3.block _ (heap_lt HX.out.1)).trans HX.out.1, q2⟩, HX.out.2.size⟩
  clear HX
  refine wp_seq_hid ?_
  intro K2 HK2
  go_wp2_with fail
  refine HK2.out _ _ ?_
  clear HK2 K2
  revert HI
  generalize (w1.alloc (.cells (g.arr a1 c1 a2 c2) 84)).alloc (.cells #[.int .i64 0, .int .i64 0] 85) = w2
  generalize hbe : w1.heap.size + 1 = be
  generalize hbg : w1.heap.size = bg
  intro HI
  have HBE : Hid (w.heap.size ≤ bg ∧ bg ≠ be ∧ w.heap.size < be) := by
    have h := HI.out.2
    exact ⟨by omega, by omega, by omega⟩
  have HO := Lib.hid HI.out.1
  clear HI hbe hbg
  have HLEN : Hid (g.first.things.length ≤ 1000000 ∧ g.second.things.length ≤ 1000000) := by
    have h := HV.out
    unfold Gla.valid at h
    simp only [Bool.and_eq_true] at h
    have h1 := (nums_of h.1.1.1.1).len
    have h2 := (nums_of h.1.1.1.2).len
    exact ⟨by omega, by omega⟩
  refine wp_seq_hid ?_
  intro K3 HK3
  have cfa := cf55
  have cfb := cf56
  have ix0 : ∀ w : World, (Instr.index 87 (.agg #[.func (.func 55) #[] #[], .func (.func 56) #[] #[]]) (.int .i64 0)).run Try.prog w = .ok (.func (.func 55) #[] #[]) w := fun _ => by kernel_rfl
  have ix1 : ∀ w : World, (Instr.index 87 (.agg #[.func (.func 55) #[] #[], .func (.func 56) #[] #[]]) (.int .i64 1)).run Try.prog w = .ok (.func (.func 56) #[] #[]) w := fun _ => by kernel_rfl
  go_wp2_with fail
  refine (views36 w2).mono ?_
  rintro e w3 ⟨rfl, hb⟩
  have HO3 := Lib.hid (HO.out.mono hb)
  clear hb HO
  go_wp2_with fail
  go_loopw [16] (fun i wr => ∃ k : Int, (k = 0 ∨ k = 1 ∨ k = 2) ∧ i = .int .i64 k ∧ Hid (OpI w bg be g a1 c1 a2 c2 (if 1 ≤ k then (powerE g.first).2 else 0) (if 2 ≤ k then (powerE g.second).2 else 0) wr)) (fun i _ => 2 - (intOf i).toNat)
  case atStart => exact ⟨0, .inl rfl, rfl, HO3⟩
  case round =>
    obtain ⟨k, hk, rfl, HW⟩ := hrel
    clear HO3
    rcases hk with rfl | rfl | rfl
    · obtain HO := Lib.hid HW.out
      clear HW
      go_wp2_with fail
      refine (first55 (HO.out.gla HTH.out)).mono ?_
      rintro e v1 ⟨rfl, hb⟩
      have HO1 := Lib.hid (HO.out.mono hb)
      clear hb HO
      go_wp2_with fail
      refine (power9 (HO1.out.gla HTH.out).first HLEN.out.1).mono ?_
      rintro e v2 ⟨rfl, hb⟩
      have HO2 := Lib.hid (HO1.out.mono hb)
      clear hb HO1
      have y0 : ∃ u, v2.cell? ⟨be, 0, none⟩ = some u := ⟨_, by rw [cell_of_heap HO2.out.errs]; rfl⟩
      obtain ⟨u, y0⟩ := y0
      have f0 : ∀ k, v2.frozen? ⟨be, k, none⟩ = false := fun k => frozen_of_heap HO2.out.errs
      go_wp2_with fail
      clear y0 f0
      go_roundw
      case rel => exact ⟨1, .inr (.inl rfl), rfl, HO2.out.put0 HBE.out.2.1 HBE.out.2.2 _⟩
      case measure => simp [intOf]
    · obtain HO := Lib.hid HW.out
      clear HW
      go_wp2_with fail
      refine (second56 (HO.out.gla HTH.out)).mono ?_
      rintro e v1 ⟨rfl, hb⟩
      have HO1 := Lib.hid (HO.out.mono hb)
      clear hb HO
      go_wp2_with fail
      refine (power9 (HO1.out.gla HTH.out).second HLEN.out.2).mono ?_
      rintro e v2 ⟨rfl, hb⟩
      have HO2 := Lib.hid (HO1.out.mono hb)
      clear hb HO1
      have y0 : ∃ u, v2.cell? ⟨be, 1, none⟩ = some u := ⟨_, by rw [cell_of_heap HO2.out.errs]; rfl⟩
      obtain ⟨u, y0⟩ := y0
      have f0 : ∀ k, v2.frozen? ⟨be, k, none⟩ = false := fun k => frozen_of_heap HO2.out.errs
      go_wp2_with fail
      clear y0 f0
      go_roundw
      case rel => exact ⟨2, .inr (.inr rfl), rfl, HO2.out.put1 HBE.out.2.1 HBE.out.2.2 _⟩
      case measure => simp [intOf]
    · go_wp2_with fail
      refine HK3.out _ _ ?_
      have HO := Lib.hid (show OpI w bg be g a1 c1 a2 c2 (powerE g.first).2 (powerE g.second).2 wr from by simpa using HW.out)
      clear HW cfa cfb ix0 ix1
      have HG : Hid (errG g = if (powerE g.first).2 ≠ 0 then (powerE g.first).2 else (powerE g.second).2) := rfl
      have hE1 : (powerE g.first).2 = 0 ∨ (powerE g.first).2 = 4 := by
        have h := HV.out
        unfold Gla.valid at h
        simp only [Bool.and_eq_true] at h
        exact powerE_two h.1.1.1.1
      have hE2 : (powerE g.second).2 = 0 ∨ (powerE g.second).2 = 4 := by
        have h := HV.out
        unfold Gla.valid at h
        simp only [Bool.and_eq_true] at h
        exact powerE_two h.1.1.1.2
      revert HO HG hE1 hE2
      generalize (powerE g.first).2 = e1
      generalize (powerE g.second).2 = e2
      intro HO HG hE1 hE2
      have HD : Hid (g.first.things.length = g.second.things.length ∧ inR g.day1 0 65536 = true ∧ inR g.day2 0 65536 = true ∧ g.day1 < g.day2) := by
        have h := HV.out
        unfold Gla.valid inR at h
        simp only [Bool.and_eq_true, decide_eq_true_eq] at h
        refine ⟨h.1.1.2, ?_, ?_, by omega⟩ <;> simp [inR] <;> omega
      have hl1 : ((g.first.things.length : Int) == (g.second.things.length : Int)) = true := by rw [HD.out.1]; simp
      have hl2 : (g.first.things.length == g.second.things.length) = true := by rw [HD.out.1]; simp
      have hdd : g.day1 < g.day2 := HD.out.2.2.2
      have k7 : wr.cell? ⟨w.heap.size, 7, none⟩ = some (.slice a1 g.first.things.length c1) := by rw [cell_of_heap HO.out.box]; rfl
      have k15 : wr.cell? ⟨w.heap.size, 15, none⟩ = some (.slice a2 g.second.things.length c2) := by rw [cell_of_heap HO.out.box]; rfl
      have k16 : wr.cell? ⟨w.heap.size, 16, none⟩ = some (.int .i64 g.day1) := by rw [cell_of_heap HO.out.box]; rfl
      have k17 : wr.cell? ⟨w.heap.size, 17, none⟩ = some (.int .i64 g.day2) := by rw [cell_of_heap HO.out.box]; rfl
      refine wp_seq_hid ?_
      intro K8 HK8
      go_wp2_with fail
      refine (within37 _ _ _ _).mono ?_
      rintro e v1 ⟨rfl, rfl⟩
      rw [HD.out.2.1]
      go_wp2_with fail
      refine (within37 _ _ _ _).mono ?_
      rintro e v1 ⟨rfl, rfl⟩
      rw [HD.out.2.2.1]
      go_wp2_with fail
      refine HK8.out _ _ ?_
      clear hl1 hl2 k7 k15 k16 k17
      have m0 : wr.cell? ⟨be, 0, none⟩ = some (.int .i64 e1) := by rw [cell_of_heap HO.out.errs]; rfl
      have m1 : wr.cell? ⟨be, 1, none⟩ = some (.int .i64 e2) := by rw [cell_of_heap HO.out.errs]; rfl
      have n1 : (e1 != 1) = true := by rcases hE1 with rfl | rfl <;> rfl
      have n2 : (e2 != 1) = true := by rcases hE2 with rfl | rfl <;> rfl
      refine wp_seq_hid ?_
      intro K9 HK9
      go_wp2_with fail
      refine (need38_yes _ _).mono ?_
      rintro e v1 ⟨rfl, rfl⟩
      go_wp2_with fail
      refine HK9.out _ _ ?_
      clear n1 n2
      refine wp_seq_hid ?_
      intro K10 HK10
      go_wp2_with fail
      refine (need38_yes _ _).mono ?_
      rintro e v1 ⟨rfl, rfl⟩
      go_wp2_with fail
      refine HK10.out _ _ ?_
      have HE := Lib.hid (And.intro hE1 hE2)
      clear hE1 hE2
      have ix0 : ∀ w : World, (Instr.index 85 (.agg #[.int .i64 e1, .int .i64 e2]) (.int .i64 0)).run Try.prog w = .ok (.int .i64 e1) w := fun _ => by kernel_rfl
      have ix1 : ∀ w : World, (Instr.index 85 (.agg #[.int .i64 e1, .int .i64 e2]) (.int .i64 1)).run Try.prog w = .ok (.int .i64 e2) w := fun _ => by kernel_rfl
      refine wp_seq_hid ?_
      intro K11 HK11
      go_wp2_with fail
      clear m0 m1
      go_loopw [71] (fun i wx => ∃ k : Int, (k = 0 ∨ k = 1 ∨ k = 2) ∧ i = .int .i64 k ∧ Hid ((1 ≤ k → e1 = 0) ∧ (2 ≤ k → e2 = 0)) ∧ Hid (wr = wx)) (fun i _ => 2 - (intOf i).toNat)
      case atStart => exact ⟨0, .inl rfl, rfl, ⟨fun h => by omega, fun h => by omega⟩, rfl⟩
      case round =>
        obtain ⟨k, hk, rfl, HW, HX⟩ := hrel
        obtain rfl := HX.out
        rcases hk with rfl | rfl | rfl
        · by_cases hz : e1 = 0
          · have hzb : (e1 == 0) = true := by simp [hz]
            have HZ := Lib.hid hz
            clear hz
            go_wp2_with fail
            refine (need38_yes _ _).mono ?_
            rintro e v1 ⟨rfl, rfl⟩
            clear hzb
            go_wp2_with fail
            go_roundw
            case rel => exact ⟨1, .inr (.inl rfl), rfl, ⟨fun _ => HZ.out, fun h => by omega⟩, by first | exact Lib.hid trivial | rfl⟩
            case measure => simp [intOf]
          · have hzb : (e1 == 0) = false := by simp [hz]
            have HZ := Lib.hid hz
            clear hz
            go_wp2_with fail
            refine (need38_no _ _).mono ?_
            rintro e v1 ⟨rfl, rfl⟩
            clear hzb
            go_wp2_with fail
            exact ⟨rfl, HO.out.below, .inl ⟨by rw [HG.out, if_pos HZ.out]; exact HZ.out, by rw [HG.out, if_pos HZ.out]⟩⟩
        · have HY : Hid (errG g = e2) := by rw [Hid, HG.out, HW.out.1 (by omega)]; rfl
          by_cases hz : e2 = 0
          · have hzb : (e2 == 0) = true := by simp [hz]
            have HZ := Lib.hid hz
            clear hz
            go_wp2_with fail
            refine (need38_yes _ _).mono ?_
            rintro e v1 ⟨rfl, rfl⟩
            clear hzb
            go_wp2_with fail
            go_roundw
            case rel => exact ⟨2, .inr (.inr rfl), rfl, ⟨fun _ => HW.out.1 (by omega), fun h => HZ.out⟩, by first | exact Lib.hid trivial | rfl⟩
            case measure => simp [intOf]
          · have hzb : (e2 == 0) = false := by simp [hz]
            have HZ := Lib.hid hz
            clear hz
            go_wp2_with fail
            refine (need38_no _ _).mono ?_
            rintro e v1 ⟨rfl, rfl⟩
            clear hzb
            go_wp2_with fail
            exact ⟨rfl, HO.out.below, .inl ⟨by rw [HY.out]; exact HZ.out, by rw [HY.out]⟩⟩
        · have HY : Hid (errG g = 0) := by rw [Hid, HG.out, HW.out.1 (by omega), HW.out.2 (by omega)]; rfl
          go_wp2_with fail
          refine HK11.out _ _ ?_
          go_wp2_with fail
          go_ret
          exact ⟨HO.out.below, .inr ⟨HY.out, bg, rfl, HBE.out.1, HO.out.gla HTH.out⟩⟩
end Go.Proofs.Ytbnhngfegnhaiaa
namespace Go.Proofs.Ytbnhngfegnhaiaa
open Go.RowKit
set_option linter.unusedVariables false
set_option linter.unusedSimpArgs false
structure FarI (w0 : World) (b4 bg : Nat) (g : Gla) (a1 : Option Addr) (c1 : Nat) (a2 : Option Addr) (c2 : Nat) (x y : Spn) (v : World) : Prop where
  below : Below w0.heap.size w0 v
  gla : IsGla v bg g a1 c1 a2 c2
  arr : v.heap[b4]? = some (.cells #[.int .i64 x.lo, .int .i64 x.hi, .int .i64 y.lo, .int .i64 y.hi] 91 (0, 0))
theorem FarI.mono {w0 v v' : World} {b4 bg : Nat} {g : Gla} {a1 a2 : Option Addr} {c1 c2 : Nat} {x y : Spn} (h : FarI w0 b4 bg g a1 c1 a2 c2 x y v) (hb : Below v.heap.size v v') : FarI w0 b4 bg g a1 c1 a2 c2 x y v' :=
  ⟨h.below.trans (hb.mono h.below.size), h.gla.mono hb, (hb.block _ (heap_lt h.arr)).trans h.arr⟩
theorem res_c4t {fn : Func} {u v : Tmp} (h : fn.results = #[.cell u 91, .tmp v]) (tmps : Array Value) {w : World} {b : Nat} {x y : Spn} {z : Value} (hp : tmps.getD u undef = .pointer (some ⟨b, 0, none⟩)) (hv : tmps.getD v undef = z) (hq : w.heap[b]? = some (.cells #[.int .i64 x.lo, .int .i64 x.hi, .int .i64 y.lo, .int .i64 y.hi] 91 (0, 0))) :
    (results fn tmps).run Try.prog w = .ok (.tuple #[.agg #[.int .i64 x.lo, .int .i64 x.hi, .int .i64 y.lo, .int .i64 y.hi], z]) w := by
  have hp' : tmps[u]?.getD undef = .pointer (some ⟨b, 0, none⟩) := by simpa using hp
  have hv' : tmps[v]?.getD undef = z := by simpa using hv
  have k0 : w.cell? ⟨b, 0, none⟩ = some (.int .i64 x.lo) := by rw [cell_of_heap hq]; rfl
  have k1 : w.cell? ⟨b, 1, none⟩ = some (.int .i64 x.hi) := by rw [cell_of_heap hq]; rfl
  have k2 : w.cell? ⟨b, 2, none⟩ = some (.int .i64 y.lo) := by rw [cell_of_heap hq]; rfl
  have k3 : w.cell? ⟨b, 3, none⟩ = some (.int .i64 y.hi) := by rw [cell_of_heap hq]; rfl
  simp [results, h, hp', hv', k0, k1, k2, k3, go_sem]
theorem FarI.put0 {w0 v : World} {b4 bg : Nat} {g : Gla} {a1 a2 : Option Addr} {c1 c2 : Nat} {x y : Spn} (h : FarI w0 b4 bg g a1 c1 a2 c2 x y v) (hG : IsGla w0 bg g a1 c1 a2 c2) (hb : w0.heap.size ≤ b4) (o : Obj) (z : Spn) : FarI w0 b4 bg g a1 c1 a2 c2 z y (((v.setCell ⟨b4, 0, none⟩ (.int .i64 z.lo)).setCell ⟨b4, 1, none⟩ (.int .i64 z.hi)).alloc o) := by
  have h1 := (h.below.setCell (p := ⟨b4, 0, none⟩) hb (.int .i64 z.lo)).setCell (p := ⟨b4, 1, none⟩) hb (.int .i64 z.hi)
  have h3 := heap_setCell_at (k := 0) h.arr (.int .i64 z.lo)
  have h4 : FarI w0 b4 bg g a1 c1 a2 c2 z y ((v.setCell ⟨b4, 0, none⟩ (.int .i64 z.lo)).setCell ⟨b4, 1, none⟩ (.int .i64 z.hi)) := ⟨h1, hG.mono h1, heap_setCell_at (k := 1) h3 (.int .i64 z.hi)⟩
  exact h4.mono (alloc_below _ o)
theorem FarI.put1 {w0 v : World} {b4 bg : Nat} {g : Gla} {a1 a2 : Option Addr} {c1 c2 : Nat} {x y : Spn} (h : FarI w0 b4 bg g a1 c1 a2 c2 x y v) (hG : IsGla w0 bg g a1 c1 a2 c2) (hb : w0.heap.size ≤ b4) (o : Obj) (z : Spn) : FarI w0 b4 bg g a1 c1 a2 c2 x z (((v.setCell ⟨b4, 2, none⟩ (.int .i64 z.lo)).setCell ⟨b4, 3, none⟩ (.int .i64 z.hi)).alloc o) := by
  have h1 := (h.below.setCell (p := ⟨b4, 2, none⟩) hb (.int .i64 z.lo)).setCell (p := ⟨b4, 3, none⟩) hb (.int .i64 z.hi)
  have h3 := heap_setCell_at (k := 2) h.arr (.int .i64 z.lo)
  have h4 : FarI w0 b4 bg g a1 c1 a2 c2 x z ((v.setCell ⟨b4, 2, none⟩ (.int .i64 z.lo)).setCell ⟨b4, 3, none⟩ (.int .i64 z.hi)) := ⟨h1, hG.mono h1, heap_setCell_at (k := 3) h3 (.int .i64 z.hi)⟩
  exact h4.mono (alloc_below _ o)
theorem FarI.same {w0 v : World} {b4 bg : Nat} {g : Gla} {a1 a2 : Option Addr} {c1 c2 : Nat} {x y : Spn} (h : FarI w0 b4 bg g a1 c1 a2 c2 x y v) (hG : IsGla w0 bg g a1 c1 a2 c2) (hb : w0.heap.size ≤ b4) : FarI w0 b4 bg g a1 c1 a2 c2 x y ((((v.setCell ⟨b4, 0, none⟩ (.int .i64 x.lo)).setCell ⟨b4, 1, none⟩ (.int .i64 x.hi)).setCell ⟨b4, 2, none⟩ (.int .i64 y.lo)).setCell ⟨b4, 3, none⟩ (.int .i64 y.hi)) := by
  have h1 := (((h.below.setCell (p := ⟨b4, 0, none⟩) hb (.int .i64 x.lo)).setCell (p := ⟨b4, 1, none⟩) hb (.int .i64 x.hi)).setCell (p := ⟨b4, 2, none⟩) hb (.int .i64 y.lo)).setCell (p := ⟨b4, 3, none⟩) hb (.int .i64 y.hi)
  have h3 := heap_setCell_at (k := 0) h.arr (.int .i64 x.lo)
  have h4 := heap_setCell_at (k := 1) h3 (.int .i64 x.hi)
  have h5 := heap_setCell_at (k := 2) h4 (.int .i64 y.lo)
  exact ⟨h1, hG.mono h1, heap_setCell_at (k := 3) h5 (.int .i64 y.hi)⟩
set_option maxRecDepth 100000 in
set_option maxHeartbeats 8000000 in
theorem far39 {g : Gla} {a1 a2 : Option Addr} {c1 c2 : Nat} {bg : Nat} {n : Int} {w : World} (hG : IsGla w bg g a1 c1 a2 c2) (hl : g.first.things.length ≤ 1000000 ∧ g.second.things.length ≤ 1000000) :
    Calls Try.prog 39 #[.pointer (some ⟨bg, 0, none⟩), .int .i64 n] w fun e w' => e = .returned (.tuple #[.agg #[.int .i64 (distE g.first n).1.lo, .int .i64 (distE g.first n).1.hi, .int .i64 (distE g.second n).1.lo, .int .i64 (distE g.second n).1.hi], .bool (((distE g.first n).2 == 0) && ((distE g.second n).2 == 0))]) ∧ Below w.heap.size w w' := by
  have HX : Hid (FarI w w.heap.size bg g a1 c1 a2 c2 ⟨0, 0⟩ ⟨0, 0⟩ (w.alloc (.cells #[.int .i64 0, .int .i64 0, .int .i64 0, .int .i64 0] 91))) := ⟨alloc_below _ _, hG.mono (alloc_below _ _), World.alloc_heap_new _ _⟩
  have HG := Lib.hid hG
  have HL := Lib.hid hl
  clear hG hl
  go_enter Try.func39, Try.ntmps39
  refine wp_seq_hid ?_
  intro K0 HK0
  go_wp2_with fail
  refine HK0.out _ _ ?_
  clear HK0 K0
  refine wp_seq_hid ?_
  intro K1 HK1
  go_wp2_with fail
  refine HK1.out _ _ ?_
  clear HK1 K1
  revert HX
  generalize w.alloc (.cells #[.int .i64 0, .int .i64 0, .int .i64 0, .int .i64 0] 91) = w1
  generalize hb4 : w.heap.size = b4
  intro HX
  have HB4 := Lib.hid hb4
  clear hb4
  have D1 := Lib.hid (fun (w : World) (h : IsThs w a1 g.first.things) => distance7 (c := c1) (n := n) h HL.out.1)
  have D2 := Lib.hid (fun (w : World) (h : IsThs w a2 g.second.things) => distance7 (c := c2) (n := n) h HL.out.2)
  revert D1 D2
  generalize distE g.first n = d1
  generalize distE g.second n = d2
  obtain ⟨x1, e1⟩ := d1
  obtain ⟨x2, e2⟩ := d2
  intro D1 D2
  refine wp_seq_hid ?_
  intro K3 HK3
  have cfa := cf55
  have cfb := cf56
  have ix0 : ∀ w : World, (Instr.index 87 (.agg #[.func (.func 55) #[] #[], .func (.func 56) #[] #[]]) (.int .i64 0)).run Try.prog w = .ok (.func (.func 55) #[] #[]) w := fun _ => by kernel_rfl
  have ix1 : ∀ w : World, (Instr.index 87 (.agg #[.func (.func 55) #[] #[], .func (.func 56) #[] #[]]) (.int .i64 1)).run Try.prog w = .ok (.func (.func 56) #[] #[]) w := fun _ => by kernel_rfl
  go_wp2_with fail
  refine (views36 w1).mono ?_
  rintro e w3 ⟨rfl, hb⟩
  have HO3 := Lib.hid (HX.out.mono hb)
  clear hb HX
  go_wp2_with fail
  go_loopw [5, 11] (fun z i wr => ∃ k : Int, (k = 0 ∨ k = 1 ∨ k = 2) ∧ i = .int .i64 k ∧ z = .bool ((decide (k < 1) || e1 == 0) && (decide (k < 2) || e2 == 0)) ∧ Hid (FarI w b4 bg g a1 c1 a2 c2 (if 1 ≤ k then x1 else ⟨0, 0⟩) (if 2 ≤ k then x2 else ⟨0, 0⟩) wr)) (fun _ i _ => 2 - (intOf i).toNat)
  case atStart => exact ⟨0, .inl rfl, rfl, rfl, HO3⟩
  case round =>
    obtain ⟨k, hk, rfl, rfl, HW⟩ := hrel
    clear HO3
    rcases hk with rfl | rfl | rfl
    · have HO := Lib.hid HW.out
      clear HW
      go_wp2_with fail
      refine (first55 HO.out.gla).mono ?_
      rintro e v1 ⟨rfl, hb⟩
      have HO1 := Lib.hid (HO.out.mono hb)
      clear hb HO
      go_wp2_with fail
      refine (D1.out _ HO1.out.gla.first).mono ?_
      rintro e v2 ⟨rfl, hb⟩
      have HO2 := Lib.hid (HO1.out.mono hb)
      clear hb HO1
      have m0 : v2.cell? ⟨b4, 0, none⟩ = some (.int .i64 0) := by rw [cell_of_heap HO2.out.arr]; rfl
      have m1 : v2.cell? ⟨b4, 1, none⟩ = some (.int .i64 0) := by rw [cell_of_heap HO2.out.arr]; rfl
      have f0 : ∀ k, v2.frozen? ⟨b4, k, none⟩ = false := fun k => frozen_of_heap HO2.out.arr
      have hlt := heap_lt HO2.out.arr
      go_wp2_with fail
      clear m0 m1 f0 hlt
      go_roundw
      case rel => exact ⟨1, .inr (.inl rfl), rfl, by simp, HO2.out.put0 HG.out (by rw [HB4.out]; exact Nat.le_refl _) _ x1⟩
      case measure => simp [intOf]
    · have HO : Hid (FarI w b4 bg g a1 c1 a2 c2 x1 ⟨0, 0⟩ wr) := HW.out
      have hsl : ((decide ((1 : Int) < 1) || e1 == 0) && (decide ((1 : Int) < 2) || e2 == 0)) = (e1 == 0) := by simp
      rw [hsl]
      clear HW hsl
      cases he : (e1 == 0)
      all_goals
        have HE := Lib.hid he
        clear he
        go_wp2_with fail
        refine (second56 HO.out.gla).mono ?_
        rintro e v1 ⟨rfl, hb⟩
        have HO1 := Lib.hid (HO.out.mono hb)
        clear hb HO
        go_wp2_with fail
        refine (D2.out _ HO1.out.gla.second).mono ?_
        rintro e v2 ⟨rfl, hb⟩
        have HO2 := Lib.hid (HO1.out.mono hb)
        clear hb HO1
        have m0 : v2.cell? ⟨b4, 2, none⟩ = some (.int .i64 0) := by rw [cell_of_heap HO2.out.arr]; rfl
        have m1 : v2.cell? ⟨b4, 3, none⟩ = some (.int .i64 0) := by rw [cell_of_heap HO2.out.arr]; rfl
        have f0 : ∀ k, v2.frozen? ⟨b4, k, none⟩ = false := fun k => frozen_of_heap HO2.out.arr
        have hlt := heap_lt HO2.out.arr
        go_wp2_with fail
        clear m0 m1 f0 hlt
        go_roundw
        case rel => exact ⟨2, .inr (.inr rfl), rfl, by simp, HO2.out.put1 HG.out (by rw [HB4.out]; exact Nat.le_refl _) _ x2⟩
        case measure => simp [intOf]
    · have HO : Hid (FarI w b4 bg g a1 c1 a2 c2 x1 x2 wr) := HW.out
      have hsl : ((decide ((2 : Int) < 1) || e1 == 0) && (decide ((2 : Int) < 2) || e2 == 0)) = ((e1 == 0) && (e2 == 0)) := by simp
      rw [hsl]
      clear HW hsl
      obtain ⟨z, hz⟩ : ∃ z, z = ((e1 == 0) && (e2 == 0)) := ⟨_, rfl⟩
      rw [← hz]
      have HZ := Lib.hid hz
      clear hz
      go_wp2_with fail
      refine HK3.out _ _ ?_
      have m0 : wr.cell? ⟨b4, 0, none⟩ = some (.int .i64 x1.lo) := by rw [cell_of_heap HO.out.arr]; rfl
      have m1 : wr.cell? ⟨b4, 1, none⟩ = some (.int .i64 x1.hi) := by rw [cell_of_heap HO.out.arr]; rfl
      have m2 : wr.cell? ⟨b4, 2, none⟩ = some (.int .i64 x2.lo) := by rw [cell_of_heap HO.out.arr]; rfl
      have m3 : wr.cell? ⟨b4, 3, none⟩ = some (.int .i64 x2.hi) := by rw [cell_of_heap HO.out.arr]; rfl
      have f0 : ∀ k, wr.frozen? ⟨b4, k, none⟩ = false := fun k => frozen_of_heap HO.out.arr
      go_wp2_with fail
      have h4 := HO.out.same HG.out (by rw [HB4.out]; exact Nat.le_refl _)
      exact bodyPost_ret (res_c4t rfl _ rfl rfl h4.arr) rfl ⟨by rw [← HZ.out]; rfl, by have := h4.below; rwa [HB4.out] at this⟩
end Go.Proofs.Ytbnhngfegnhaiaa
namespace Go.Proofs.Ytbnhngfegnhaiaa
open Go.RowKit
set_option linter.unusedVariables false
set_option linter.unusedSimpArgs false
theorem meth55 (v : Value) (w : World) : (method 278 55 v "pairworks/years.answer").run Try.prog w = .ok (103, v) w := by kernel_rfl
theorem cf103 (args : Array Value) (w : World) : (callFunc 103 args).run Try.prog w = .ok (.enter 103 args) w := by simp [callFunc, Try.func103, Try.f103, go_sem]
set_option maxRecDepth 100000 in
set_option maxHeartbeats 8000000 in
theorem ask19 {g : Gla} {a1 a2 : Option Addr} {c1 c2 : Nat} {bg : Nat} {n : Int} {w : World} (hG : IsGla w bg g a1 c1 a2 c2) (hl : g.first.things.length ≤ 1000000 ∧ g.second.things.length ≤ 1000000) (hf1 : (distE g.first n).1.Far) (hf2 : (distE g.second n).1.Far) :
    Calls Try.prog 19 #[.pointer (some ⟨bg, 0, none⟩), .int .i64 n, .iface 55 (.agg #[])] w fun e w' => Below w.heap.size w w' ∧ ((((distE g.first n).2 == 0) && ((distE g.second n).2 == 0)) = false ∧ e = .panicked [{ v := .iface 81 (.agg #[.int .i64 11]), recovered := false }] ∨ (((distE g.first n).2 == 0) && ((distE g.second n).2 == 0)) = true ∧ e = .returned ((distE g.second n).1.less (distE g.first n).1).v) := by
  have HX := Lib.hid (And.intro (World.alloc_heap_new w (.cells #[.int .i64 0, .int .i64 0] 49)) (alloc_below w (.cells #[.int .i64 0, .int .i64 0] 49)))
  have HF := Lib.hid (far39 (n := n) (hG.mono HX.out.2) hl)
  have HM := Lib.hid (fun y z w => moved103 hf1 hf2 y z w)
  clear hG hl hf1 hf2
  revert HF HM
  generalize distE g.first n = d1
  generalize distE g.second n = d2
  obtain ⟨x1, e1⟩ := d1
  obtain ⟨x2, e2⟩ := d2
  intro HF HM
  go_enter Try.func19, Try.ntmps19
  refine wp_seq_hid ?_
  intro K0 HK0
  go_wp2_with fail
  refine HK0.out _ _ ?_
  clear HK0 K0
  revert HX HF
  generalize w.alloc (.cells #[.int .i64 0, .int .i64 0] 49) = w1
  generalize hb6 : w.heap.size = b6
  intro HX HF
  refine wp_seq_hid ?_
  intro K1 HK1
  go_wp2_with fail
  refine HF.out.mono ?_
  clear HF
  rintro e w2 ⟨rfl, hb⟩
  have HB := Lib.hid (And.intro hb hb6)
  clear hb hb6
  cases hz : ((e1 == 0) && (e2 == 0))
  · have HZ := Lib.hid hz
    clear hz
    go_wp2_with fail
    refine HK1.out _ _ ?_
    clear HK1 K1
    refine wp_seq_hid ?_
    intro K2 HK2
    go_wp2_with fail
    refine (need38_no _ _).mono ?_
    rintro e w3 ⟨rfl, rfl⟩
    go_wp2_with fail
    have h2 : b6 ≤ w1.heap.size := by have := HX.out.2.size; rw [HB.out.2] at this; exact this
    have h3 := HX.out.2.trans (HB.out.1.mono h2)
    exact ⟨rfl, h3.alloc (Nat.le_trans h2 HB.out.1.size) _, .inl ⟨HZ.out, rfl⟩⟩
  · have HZ := Lib.hid hz
    clear hz
    have HY : Hid ((w2.alloc (.cells #[.int .i64 x1.lo, .int .i64 x1.hi, .int .i64 x2.lo, .int .i64 x2.hi] 91)).heap[w2.heap.size]? = some (.cells #[.int .i64 x1.lo, .int .i64 x1.hi, .int .i64 x2.lo, .int .i64 x2.hi] 91 (0, 0)) ∧ Below w2.heap.size w2 (w2.alloc (.cells #[.int .i64 x1.lo, .int .i64 x1.hi, .int .i64 x2.lo, .int .i64 x2.hi] 91))) := ⟨World.alloc_heap_new _ _, alloc_below _ _⟩
    go_wp2_with fail
    refine HK1.out _ _ ?_
    clear HK1 K1
    revert HY
    generalize hw3 : w2.alloc (.cells #[.int .i64 x1.lo, .int .i64 x1.hi, .int .i64 x2.lo, .int .i64 x2.hi] 91) = w3
    generalize hb7 : w2.heap.size = b7
    intro HY
    have HB3 : Hid (Below b6 w w3 ∧ w3.heap[b6]? = some (.cells #[.int .i64 0, .int .i64 0] 49 (0, 0)) ∧ b6 ≤ w3.heap.size) := by
      have h1 : Below w2.heap.size w2 w3 := by rw [hb7]; exact HY.out.2
      have h2 := HB.out.1.trans (h1.mono HB.out.1.size)
      have h0 : b6 ≤ w1.heap.size := by have := HX.out.2.size; rw [HB.out.2] at this; exact this
      have h3 := HX.out.2.trans (h2.mono h0)
      exact ⟨h3, (h2.block _ (heap_lt HX.out.1)).trans HX.out.1, Nat.le_trans h0 h2.size⟩
    have HY1 := Lib.hid HY.out.1
    clear hw3 hb7 HY HB HX
    refine wp_seq_hid ?_
    intro K2 HK2
    go_wp2_with fail
    refine (need38_yes _ _).mono ?_
    rintro e w4 ⟨rfl, rfl⟩
    go_wp2_with fail
    refine HK2.out _ _ ?_
    clear HK2 K2
    have m0 : w3.cell? ⟨b7, 0, none⟩ = some (.int .i64 x1.lo) := by rw [cell_of_heap HY1.out]; rfl
    have m1 : w3.cell? ⟨b7, 1, none⟩ = some (.int .i64 x1.hi) := by rw [cell_of_heap HY1.out]; rfl
    have m2 : w3.cell? ⟨b7, 2, none⟩ = some (.int .i64 x2.lo) := by rw [cell_of_heap HY1.out]; rfl
    have m3 : w3.cell? ⟨b7, 3, none⟩ = some (.int .i64 x2.hi) := by rw [cell_of_heap HY1.out]; rfl
    refine wp_seq_hid ?_
    intro K3 HK3

    have cf2 := cf103
    have cf := meth55
    go_wp2_with fail
    refine (HM.out _ _ _).mono ?_
    clear m0 m1 m2 m3 cf cf2
    rintro e w5 ⟨rfl, hb⟩
    have HB5 := Lib.hid (And.intro (HB3.out.1.trans (hb.mono HB3.out.2.2)) ((hb.block _ (heap_lt HB3.out.2.1)).trans HB3.out.2.1))
    clear hb
    have y0 : w5.cell? ⟨b6, 0, none⟩ = some (.int .i64 0) := by rw [cell_of_heap HB5.out.2]; rfl
    have y1 : w5.cell? ⟨b6, 1, none⟩ = some (.int .i64 0) := by rw [cell_of_heap HB5.out.2]; rfl
    have f0 : ∀ k, w5.frozen? ⟨b6, k, none⟩ = false := fun k => frozen_of_heap HB5.out.2
    go_wp2_with fail
    refine HK3.out _ _ ?_
    go_wp2_with fail
    have h4 := (heap_setCell_at (k := 1) (heap_setCell_at (k := 0) HB5.out.2 (.int .i64 (x2.less x1).lo)) (.int .i64 (x2.less x1).hi))
    exact bodyPost_ret (res_c2y (by decide) rfl _ rfl (by rw [cell_of_heap h4]; rfl) (by rw [cell_of_heap h4]; rfl)) rfl ⟨(HB5.out.1.setCell (p := ⟨b6, _, none⟩) (Nat.le_refl _) _).setCell (p := ⟨b6, _, none⟩) (Nat.le_refl _) _, .inr ⟨HZ.out, rfl⟩⟩
end Go.Proofs.Ytbnhngfegnhaiaa
namespace Go.Proofs.Ytbnhngfegnhaiaa
open Go.RowKit
set_option linter.unusedVariables false
set_option linter.unusedSimpArgs false
theorem wpIn_load_gla {m : Nat} {o : Oper} {a : Act} {w : World} {K : Act → World → Prop} {Q : Exit → Act → World → Prop} {b : Nat} {g : Gla} {a1 a2 : Option Addr} {c1 c2 : Nat} {ty : TypeId} {fr : Nat × Nat} (hq : w.heap[b]? = some (.cells (g.arr a1 c1 a2 c2) ty fr)) (x : Operand) (ho : o.op = .load 28 x)
    (hx : a.eval x = .pointer (some ⟨b, 0, none⟩)) (h : K (a.put o.dst (g.v a1 c1 a2 c2)) w) : o.wpIn (wideAt none) m Try.prog a w K Q := by
  refine ⟨fun _ _ => trivial, ?_⟩
  show o.uponIn _ _ Try.prog a K Q ((execOp a.eval o).run Try.prog w)
  unfold execOp
  have hr := run_loadAt_mid w b 0 28 _ _ (range_block hq) Try.underlying28 rfl info28
  simp only [ho, hx, Sem.run_bind, hr, Sem.run_pure, Result.andThen_ok]
  exact h
structure mov2F (g : Gla) (a1 : Option Addr) (c1 : Nat) (a2 : Option Addr) (c2 : Nat) (b2 : Nat) (b4 : Nat) (b5 : Nat) (n : Int) (z1 : Int) (z2 : Int) (S0 : World → Prop) (S1 : Unit → World → Prop) (S2 : Unit → Nat → World → Prop) (S3 : Unit → Nat → Unit → World → Prop) (S4 : Unit → Nat → Unit → World → Prop) (S5 : Unit → Nat → Unit → World → Prop) (d : Nat → Bool) (x7 x8 x9 x10 x11 x12 x13 x14 x15 : Value) (u : Unit) (bg : Nat) (u2 : Unit) (w : World) : Prop where
  q3 : d 3 = true → d 1 = true ∧ d 2 = true
  q4 : d 4 = true → d 0 = true ∧ d 3 = true
  q7 : d 7 = true → d 6 = true
  q8 : d 8 = true → d 4 = true ∧ d 5 = true ∧ d 7 = true
  q9 : d 9 = true → d 0 = true ∧ d 1 = true ∧ d 2 = true ∧ d 3 = true ∧ d 4 = true ∧ d 5 = true ∧ d 6 = true ∧ d 7 = true ∧ d 8 = true
  q10 : d 10 = true → d 0 = true ∧ d 1 = true ∧ d 2 = true ∧ d 3 = true ∧ d 4 = true ∧ d 5 = true ∧ d 6 = true ∧ d 7 = true ∧ d 8 = true ∧ d 9 = true
  f0 : d 0 = true → x7 = g.v a1 c1 a2 c2
  f1 : d 1 = true → x8 = g.v a1 c1 a2 c2
  f2 : d 2 = true → x9 = .int .i64 n
  f3 : d 3 = true → x10 = .bool true
  f4 : d 4 = true → x11 = .pointer (some ⟨bg, 0, none⟩)
  f5 : d 5 = true → x12 = .int .i64 n
  f6 : d 6 = true → x13 = .agg #[]
  f7 : d 7 = true → x14 = .iface 55 (.agg #[])
  f8 : d 8 = true → x15 = .agg #[.int .i64 z1, .int .i64 z2]
  st0 : d 3 = false → S0 w
  st1 : d 3 = true → d 4 = false → S1 u w
  st2 : d 4 = true → d 8 = false → S2 u bg w
  st3 : d 8 = true → d 9 = false → S3 u bg u2 w
  st4 : d 9 = true → d 10 = false → S4 u bg u2 w
  st5 : d 10 = true → S5 u bg u2 w
noncomputable def mov2C : Code := (Try.f6.body.bind (regionAt 2)).getD .skip
set_option maxRecDepth 100000 in
set_option maxHeartbeats 4000000 in
theorem mov2 {g : Gla} {a1 : Option Addr} {c1 : Nat} {a2 : Option Addr} {c2 : Nat} {b2 : Nat} {b4 : Nat} {b5 : Nat} {n : Int} {z1 : Int} {z2 : Int} {S0 : World → Prop} {S1 : Unit → World → Prop} {S2 : Unit → Nat → World → Prop} {S3 : Unit → Nat → Unit → World → Prop} {S4 : Unit → Nat → Unit → World → Prop} {S5 : Unit → Nat → Unit → World → Prop} {Q : Exit → Act → World → Prop} {W1 : World} (h0 : S0 W1.drew)
    (kl0 : Hid (∀ (u : Unit) (w : World), (S0 w ∨ S1 u w) → w.heap[b2]? = some (.cells (g.arr a1 c1 a2 c2) 28 (0, 0))))
    (kl1 : Hid (∀ (w : World), (S0 w) → w.heap[b2]? = some (.cells (g.arr a1 c1 a2 c2) 28 (0, 0))))
    (kc3 : Hid (∀ (w : World), S0 w → Calls Try.prog 18 #[g.v a1 c1 a2 c2, .int .i64 n] w fun e w' => ∃ u : Unit, e = .returned (.bool true) ∧ S1 u w'))
    (kc4 : Hid (∀ (u : Unit) (w : World), S1 u w → Calls Try.prog 17 #[g.v a1 c1 a2 c2, .bool true] w fun e w' => ∃ bg : Nat, e = .returned (.pointer (some ⟨bg, 0, none⟩)) ∧ S2 u bg w'))
    (kc8 : Hid (∀ (u : Unit) (bg : Nat) (w : World), S2 u bg w → Calls Try.prog 19 #[.pointer (some ⟨bg, 0, none⟩), .int .i64 n, .iface 55 (.agg #[])] w fun e w' => ∃ u2 : Unit, e = .returned (.agg #[.int .i64 z1, .int .i64 z2]) ∧ S3 u bg u2 w'))
    (kc9 : Hid (∀ (u : Unit) (bg : Nat) (u2 : Unit) (w : World), S3 u bg u2 w → (∃ u, w.cell? ⟨b4, 0, none⟩ = some u) ∧ w.frozen? ⟨b4, 0, none⟩ = false ∧ (∃ u, w.cell? ⟨b4, 1, none⟩ = some u) ∧ w.frozen? ⟨b4, 1, none⟩ = false ∧ S4 u bg u2 ((w.setCell ⟨b4, 0, none⟩ (.int .i64 z1)).setCell ⟨b4, 1, none⟩ (.int .i64 z2))))
    (kc10 : Hid (∀ (u : Unit) (bg : Nat) (u2 : Unit) (w : World), S4 u bg u2 w → (∃ u, w.cell? ⟨b5, 0, none⟩ = some u) ∧ w.frozen? ⟨b5, 0, none⟩ = false ∧ S5 u bg u2 (w.setCell ⟨b5, 0, none⟩ (.int .i64 0))))
    {s0 s3 s6 s7 s8 s9 s10 s11 s12 s13 s14 s15 : Value} {dd : List Deferred}
    (hQ : ∀ (u : Unit) (bg : Nat) (u2 : Unit) (w' : World), S5 u bg u2 w' → Q .normal { tmps := #[s0, .int .i64 n, .pointer (some ⟨b2, 0, none⟩), s3, .pointer (some ⟨b4, 0, none⟩), .pointer (some ⟨b5, 0, none⟩), s6, g.v a1 c1 a2 c2, g.v a1 c1 a2 c2, .int .i64 n, .bool true, .pointer (some ⟨bg, 0, none⟩), .int .i64 n, .agg #[], .iface 55 (.agg #[]), .agg #[.int .i64 z1, .int .i64 z2]], defers := dd } w') :
    Code.wpIn (wideAt none) 0 Try.prog mov2C Q { tmps := #[s0, .int .i64 n, .pointer (some ⟨b2, 0, none⟩), s3, .pointer (some ⟨b4, 0, none⟩), .pointer (some ⟨b5, 0, none⟩), s6, s7, s8, s9, s10, s11, s12, s13, s14, s15], defers := dd } W1 := by
  have HQ := Lib.hid hQ
  clear hQ
  conv => arg 4; whnf
  refine wpIn_region_invG mixed (by kernel_rfl) (fun d_ a_ w' => ∃ (x7 : Value) (x8 : Value) (x9 : Value) (x10 : Value) (x11 : Value) (x12 : Value) (x13 : Value) (x14 : Value) (x15 : Value) (u : Unit) (bg : Nat) (u2 : Unit), a_ = { tmps := #[s0, .int .i64 n, .pointer (some ⟨b2, 0, none⟩), s3, .pointer (some ⟨b4, 0, none⟩), .pointer (some ⟨b5, 0, none⟩), s6, x7, x8, x9, x10, x11, x12, x13, x14, x15], defers := dd } ∧ mov2F g a1 c1 a2 c2 b2 b4 b5 n z1 z2 S0 S1 S2 S3 S4 S5 d_ x7 x8 x9 x10 x11 x12 x13 x14 x15 u bg u2 w') ?_ ?_ ?_
  · refine ⟨s7, s8, s9, s10, s11, s12, s13, s14, s15, default, 0, default, rfl, ?_⟩
    constructor <;> first | rfl | (intro _; rfl) | (intro h; cases h; done) | (intro _; exact h0) | exact h0
  · refine ⟨?_, ?_, ?_, ?_, ?_, ?_, ?_, ?_, ?_, ?_, ?_, trivial⟩
    all_goals
      rintro d_ a_ w1 K hd_ hdep ⟨x7, x8, x9, x10, x11, x12, x13, x14, x15, u, bg, u2, rfl, F⟩ HK
      simp [Region.binds] at hdep
    · have hst : S0 w1 ∨ S1 u w1 := by
        cases e1 : d_ 3 with
        | false => exact .inl ((F.st0 e1))
        | true =>
          have n_ : d_ 4 = false := by
            cases e_ : d_ 4 with
            | false => rfl
            | true => have h2 := (F.q4 e_).1; rw [show d_ 0 = false from hd_] at h2; cases h2
          exact .inr ((F.st1 e1 n_))
      have kk := kl0.out u w1 hst
      clear hst
      have HF : Hid (mov2F g a1 c1 a2 c2 b2 b4 b5 n z1 z2 S0 S1 S2 S3 S4 S5 (upd d_ 0) (g.v a1 c1 a2 c2) x8 x9 x10 x11 x12 x13 x14 x15 u bg u2 w1) := ⟨F.q3, fun h => andM0 (F.q4 h) rfl, F.q7, F.q8, fun h => andM0 (F.q9 h) rfl, fun h => andM0 (F.q10 h) rfl, fun _ => rfl, F.f1, F.f2, F.f3, F.f4, F.f5, F.f6, F.f7, F.f8, F.st0, F.st1, F.st2, F.st3, F.st4, F.st5⟩
      clear F
      refine wpIn_load_gla kk _ (by rfl) (by rfl) ?_
      exact HK.out _ _ ⟨_, _, _, _, _, _, _, _, _, _, _, _, rfl, HF.out⟩
    · have hst : S0 w1 := by
        have n_ : d_ 3 = false := by
          cases e_ : d_ 3 with
          | false => rfl
          | true => have h2 := (F.q3 e_).1; rw [show d_ 1 = false from hd_] at h2; cases h2
        exact (F.st0 n_)
      have kk := kl1.out w1 hst
      clear hst
      have HF : Hid (mov2F g a1 c1 a2 c2 b2 b4 b5 n z1 z2 S0 S1 S2 S3 S4 S5 (upd d_ 1) x7 (g.v a1 c1 a2 c2) x9 x10 x11 x12 x13 x14 x15 u bg u2 w1) := ⟨fun h => andM0 (F.q3 h) rfl, F.q4, F.q7, F.q8, fun h => andM1 (F.q9 h) rfl, fun h => andM1 (F.q10 h) rfl, F.f0, fun _ => rfl, F.f2, F.f3, F.f4, F.f5, F.f6, F.f7, F.f8, F.st0, F.st1, F.st2, F.st3, F.st4, F.st5⟩
      clear F
      refine wpIn_load_gla kk _ (by rfl) (by rfl) ?_
      exact HK.out _ _ ⟨_, _, _, _, _, _, _, _, _, _, _, _, rfl, HF.out⟩
    · have HF : Hid (mov2F g a1 c1 a2 c2 b2 b4 b5 n z1 z2 S0 S1 S2 S3 S4 S5 (upd d_ 2) x7 x8 (.int .i64 n) x10 x11 x12 x13 x14 x15 u bg u2 w1) := ⟨fun h => andL1 (F.q3 h) rfl, F.q4, F.q7, F.q8, fun h => andM2 (F.q9 h) rfl, fun h => andM2 (F.q10 h) rfl, F.f0, F.f1, fun _ => rfl, F.f3, F.f4, F.f5, F.f6, F.f7, F.f8, F.st0, F.st1, F.st2, F.st3, F.st4, F.st5⟩
      clear F
      go_simp
      exact HK.out _ _ ⟨_, _, _, _, _, _, _, _, _, _, _, _, rfl, HF.out⟩
    · have hS := F.st0  hd_
      obtain rfl := F.f1 (by simp [hdep])
      obtain rfl := F.f2 (by simp [hdep])
      have hc := kc3.out w1 hS
      have HF := Lib.hid F
      clear F
      go_simp
      refine ⟨trivial, rfl, wideAt_calls (hc.mono ?_)⟩
      rintro e w5 ⟨v_, rfl, hres⟩
      exact HK.out _ _ ⟨_, _, _, _, _, _, _, _, _, v_, bg, u2, rfl, ⟨fun _ => ⟨(show _ from (by simp [hdep] : d_ 1 = true)), (show _ from (by simp [hdep] : d_ 2 = true))⟩, fun h => ⟨(HF.out.q4 h).1, rfl⟩, HF.out.q7, HF.out.q8, fun h => ⟨(HF.out.q9 h).1, (HF.out.q9 h).2.1, (HF.out.q9 h).2.2.1, rfl, (HF.out.q9 h).2.2.2.2.1, (HF.out.q9 h).2.2.2.2.2.1, (HF.out.q9 h).2.2.2.2.2.2.1, (HF.out.q9 h).2.2.2.2.2.2.2.1, (HF.out.q9 h).2.2.2.2.2.2.2.2⟩, fun h => ⟨(HF.out.q10 h).1, (HF.out.q10 h).2.1, (HF.out.q10 h).2.2.1, rfl, (HF.out.q10 h).2.2.2.2.1, (HF.out.q10 h).2.2.2.2.2.1, (HF.out.q10 h).2.2.2.2.2.2.1, (HF.out.q10 h).2.2.2.2.2.2.2.1, (HF.out.q10 h).2.2.2.2.2.2.2.2.1, (HF.out.q10 h).2.2.2.2.2.2.2.2.2⟩, HF.out.f0, HF.out.f1, HF.out.f2, fun _ => rfl, HF.out.f4, HF.out.f5, HF.out.f6, HF.out.f7, HF.out.f8, fun h => (by simp [upd] at h), fun _ _ => hres, fun h _ => (by have h2 : d_ 3 = true := (HF.out.q4 h).2; rw [show d_ 3 = false from hd_] at h2; cases h2), fun h _ => (by have h2 : d_ 3 = true := (HF.out.q4 (HF.out.q8 h).1).2; rw [show d_ 3 = false from hd_] at h2; cases h2), fun h _ => (by have h2 : d_ 3 = true := (HF.out.q9 h).2.2.2.1; rw [show d_ 3 = false from hd_] at h2; cases h2), fun h => (by have h2 : d_ 3 = true := (HF.out.q10 h).2.2.2.1; rw [show d_ 3 = false from hd_] at h2; cases h2)⟩⟩
    · have hS := F.st1 (by simp [hdep] : d_ 3 = true) hd_
      obtain rfl := F.f0 (by simp [hdep])
      obtain rfl := F.f3 (by simp [hdep])
      have hc := kc4.out u w1 hS
      have HF := Lib.hid F
      clear F
      go_simp
      refine ⟨trivial, rfl, wideAt_calls (hc.mono ?_)⟩
      rintro e w5 ⟨v_, rfl, hres⟩
      exact HK.out _ _ ⟨_, _, _, _, _, _, _, _, _, u, v_, u2, rfl, ⟨HF.out.q3, fun _ => ⟨(show _ from (by simp [hdep] : d_ 0 = true)), (show _ from (by simp [hdep] : d_ 3 = true))⟩, HF.out.q7, fun h => ⟨rfl, (HF.out.q8 h).2.1, (HF.out.q8 h).2.2⟩, fun h => ⟨(HF.out.q9 h).1, (HF.out.q9 h).2.1, (HF.out.q9 h).2.2.1, (HF.out.q9 h).2.2.2.1, rfl, (HF.out.q9 h).2.2.2.2.2.1, (HF.out.q9 h).2.2.2.2.2.2.1, (HF.out.q9 h).2.2.2.2.2.2.2.1, (HF.out.q9 h).2.2.2.2.2.2.2.2⟩, fun h => ⟨(HF.out.q10 h).1, (HF.out.q10 h).2.1, (HF.out.q10 h).2.2.1, (HF.out.q10 h).2.2.2.1, rfl, (HF.out.q10 h).2.2.2.2.2.1, (HF.out.q10 h).2.2.2.2.2.2.1, (HF.out.q10 h).2.2.2.2.2.2.2.1, (HF.out.q10 h).2.2.2.2.2.2.2.2.1, (HF.out.q10 h).2.2.2.2.2.2.2.2.2⟩, HF.out.f0, HF.out.f1, HF.out.f2, HF.out.f3, fun _ => rfl, HF.out.f5, HF.out.f6, HF.out.f7, HF.out.f8, fun h => (by have h2 : d_ 3 = false := h; rw [(by simp [hdep] : d_ 3 = true)] at h2; cases h2), fun _ h => (by simp [upd] at h), fun _ _ => hres, fun h _ => (by have h2 : d_ 4 = true := (HF.out.q8 h).1; rw [show d_ 4 = false from hd_] at h2; cases h2), fun h _ => (by have h2 : d_ 4 = true := (HF.out.q9 h).2.2.2.2.1; rw [show d_ 4 = false from hd_] at h2; cases h2), fun h => (by have h2 : d_ 4 = true := (HF.out.q10 h).2.2.2.2.1; rw [show d_ 4 = false from hd_] at h2; cases h2)⟩⟩
    · have HF : Hid (mov2F g a1 c1 a2 c2 b2 b4 b5 n z1 z2 S0 S1 S2 S3 S4 S5 (upd d_ 5) x7 x8 x9 x10 x11 (.int .i64 n) x13 x14 x15 u bg u2 w1) := ⟨F.q3, F.q4, F.q7, fun h => andM1 (F.q8 h) rfl, fun h => andM5 (F.q9 h) rfl, fun h => andM5 (F.q10 h) rfl, F.f0, F.f1, F.f2, F.f3, F.f4, fun _ => rfl, F.f6, F.f7, F.f8, F.st0, F.st1, F.st2, F.st3, F.st4, F.st5⟩
      clear F
      go_simp
      exact HK.out _ _ ⟨_, _, _, _, _, _, _, _, _, _, _, _, rfl, HF.out⟩
    · have HF : Hid (mov2F g a1 c1 a2 c2 b2 b4 b5 n z1 z2 S0 S1 S2 S3 S4 S5 (upd d_ 6) x7 x8 x9 x10 x11 x12 (.agg #[]) x14 x15 u bg u2 w1) := ⟨F.q3, F.q4, fun h => rfl, F.q8, fun h => andM6 (F.q9 h) rfl, fun h => andM6 (F.q10 h) rfl, F.f0, F.f1, F.f2, F.f3, F.f4, F.f5, fun _ => rfl, F.f7, F.f8, F.st0, F.st1, F.st2, F.st3, F.st4, F.st5⟩
      clear F
      go_simp
      exact HK.out _ _ ⟨_, _, _, _, _, _, _, _, _, _, _, _, rfl, HF.out⟩
    · obtain rfl := F.f6 (by simp [hdep])
      have HF : Hid (mov2F g a1 c1 a2 c2 b2 b4 b5 n z1 z2 S0 S1 S2 S3 S4 S5 (upd d_ 7) x7 x8 x9 x10 x11 x12 (.agg #[]) (.iface 55 (.agg #[])) x15 u bg u2 w1) := ⟨F.q3, F.q4, fun _ => (show _ from (by simp [hdep] : d_ 6 = true)), fun h => andL2 (F.q8 h) rfl, fun h => andM7 (F.q9 h) rfl, fun h => andM7 (F.q10 h) rfl, F.f0, F.f1, F.f2, F.f3, F.f4, F.f5, F.f6, fun _ => rfl, F.f8, F.st0, F.st1, F.st2, F.st3, F.st4, F.st5⟩
      clear F
      go_simp
      exact HK.out _ _ ⟨_, _, _, _, _, _, _, _, _, _, _, _, rfl, HF.out⟩
    · have hS := F.st2 (by simp [hdep] : d_ 4 = true) hd_
      obtain rfl := F.f4 (by simp [hdep])
      obtain rfl := F.f5 (by simp [hdep])
      obtain rfl := F.f7 (by simp [hdep])
      have hc := kc8.out u bg w1 hS
      have HF := Lib.hid F
      clear F
      go_simp
      refine ⟨trivial, rfl, wideAt_calls (hc.mono ?_)⟩
      rintro e w5 ⟨v_, rfl, hres⟩
      exact HK.out _ _ ⟨_, _, _, _, _, _, _, _, _, u, bg, v_, rfl, ⟨HF.out.q3, HF.out.q4, HF.out.q7, fun _ => ⟨(show _ from (by simp [hdep] : d_ 4 = true)), (show _ from (by simp [hdep] : d_ 5 = true)), (show _ from (by simp [hdep] : d_ 7 = true))⟩, fun h => ⟨(HF.out.q9 h).1, (HF.out.q9 h).2.1, (HF.out.q9 h).2.2.1, (HF.out.q9 h).2.2.2.1, (HF.out.q9 h).2.2.2.2.1, (HF.out.q9 h).2.2.2.2.2.1, (HF.out.q9 h).2.2.2.2.2.2.1, (HF.out.q9 h).2.2.2.2.2.2.2.1, rfl⟩, fun h => ⟨(HF.out.q10 h).1, (HF.out.q10 h).2.1, (HF.out.q10 h).2.2.1, (HF.out.q10 h).2.2.2.1, (HF.out.q10 h).2.2.2.2.1, (HF.out.q10 h).2.2.2.2.2.1, (HF.out.q10 h).2.2.2.2.2.2.1, (HF.out.q10 h).2.2.2.2.2.2.2.1, rfl, (HF.out.q10 h).2.2.2.2.2.2.2.2.2⟩, HF.out.f0, HF.out.f1, HF.out.f2, HF.out.f3, HF.out.f4, HF.out.f5, HF.out.f6, HF.out.f7, fun _ => rfl, fun h => (by have h2 : d_ 3 = false := h; rw [(HF.out.q4 (by simp [hdep] : d_ 4 = true)).2] at h2; cases h2), fun _ h => (by have h2 : d_ 4 = false := h; rw [(by simp [hdep] : d_ 4 = true)] at h2; cases h2), fun _ h => (by simp [upd] at h), fun _ _ => hres, fun h _ => (by have h2 : d_ 8 = true := (HF.out.q9 h).2.2.2.2.2.2.2.2; rw [show d_ 8 = false from hd_] at h2; cases h2), fun h => (by have h2 : d_ 8 = true := (HF.out.q10 h).2.2.2.2.2.2.2.2.1; rw [show d_ 8 = false from hd_] at h2; cases h2)⟩⟩
    · have hS := F.st3 (by simp [hdep] : d_ 8 = true) hd_
      obtain rfl := F.f8 (by simp [hdep])
      obtain ⟨⟨ku0, kcell0⟩, kfr0, ⟨ku1, kcell1⟩, kfr1, hres⟩ := kc9.out u bg u2 w1 hS
      have HF : Hid (mov2F g a1 c1 a2 c2 b2 b4 b5 n z1 z2 S0 S1 S2 S3 S4 S5 (upd d_ 9) x7 x8 x9 x10 x11 x12 x13 x14 (.agg #[.int .i64 z1, .int .i64 z2]) u bg u2 ((w1.setCell ⟨b4, 0, none⟩ (.int .i64 z1)).setCell ⟨b4, 1, none⟩ (.int .i64 z2))) := ⟨F.q3, F.q4, F.q7, F.q8, fun _ => ⟨(show _ from (by simp [hdep] : d_ 0 = true)), (show _ from (by simp [hdep] : d_ 1 = true)), (show _ from (by simp [hdep] : d_ 2 = true)), (show _ from (by simp [hdep] : d_ 3 = true)), (show _ from (by simp [hdep] : d_ 4 = true)), (show _ from (by simp [hdep] : d_ 5 = true)), (show _ from (by simp [hdep] : d_ 6 = true)), (show _ from (by simp [hdep] : d_ 7 = true)), (show _ from (by simp [hdep] : d_ 8 = true))⟩, fun h => andL9 (F.q10 h) rfl, F.f0, F.f1, F.f2, F.f3, F.f4, F.f5, F.f6, F.f7, F.f8, fun h => (by have h2 : d_ 3 = false := h; rw [(by simp [hdep] : d_ 3 = true)] at h2; cases h2), fun _ h => (by have h2 : d_ 4 = false := h; rw [(by simp [hdep] : d_ 4 = true)] at h2; cases h2), fun _ h => (by have h2 : d_ 8 = false := h; rw [(by simp [hdep] : d_ 8 = true)] at h2; cases h2), fun _ h => (by simp [upd] at h), fun _ _ => hres, fun h => (by have h2 : d_ 9 = true := (F.q10 h).2.2.2.2.2.2.2.2.2; rw [show d_ 9 = false from hd_] at h2; cases h2)⟩
      clear F hS hres
      go_simp
      exact HK.out _ _ ⟨_, _, _, _, _, _, _, _, _, _, _, _, rfl, HF.out⟩
    · have hS := F.st4 (by simp [hdep] : d_ 9 = true) hd_
      obtain ⟨⟨ku0, kcell0⟩, kfr0, hres⟩ := kc10.out u bg u2 w1 hS
      have HF : Hid (mov2F g a1 c1 a2 c2 b2 b4 b5 n z1 z2 S0 S1 S2 S3 S4 S5 (upd d_ 10) x7 x8 x9 x10 x11 x12 x13 x14 x15 u bg u2 (w1.setCell ⟨b5, 0, none⟩ (.int .i64 0))) := ⟨F.q3, F.q4, F.q7, F.q8, F.q9, fun _ => ⟨(show _ from (by simp [hdep] : d_ 0 = true)), (show _ from (by simp [hdep] : d_ 1 = true)), (show _ from (by simp [hdep] : d_ 2 = true)), (show _ from (by simp [hdep] : d_ 3 = true)), (show _ from (by simp [hdep] : d_ 4 = true)), (show _ from (by simp [hdep] : d_ 5 = true)), (show _ from (by simp [hdep] : d_ 6 = true)), (show _ from (by simp [hdep] : d_ 7 = true)), (show _ from (by simp [hdep] : d_ 8 = true)), (show _ from (by simp [hdep] : d_ 9 = true))⟩, F.f0, F.f1, F.f2, F.f3, F.f4, F.f5, F.f6, F.f7, F.f8, fun h => (by have h2 : d_ 3 = false := h; rw [(by simp [hdep] : d_ 3 = true)] at h2; cases h2), fun _ h => (by have h2 : d_ 4 = false := h; rw [(by simp [hdep] : d_ 4 = true)] at h2; cases h2), fun _ h => (by have h2 : d_ 8 = false := h; rw [(by simp [hdep] : d_ 8 = true)] at h2; cases h2), fun _ h => (by have h2 : d_ 9 = false := h; rw [(by simp [hdep] : d_ 9 = true)] at h2; cases h2), fun _ h => (by simp [upd] at h), fun _ => hres⟩
      clear F hS hres
      go_simp
      exact HK.out _ _ ⟨_, _, _, _, _, _, _, _, _, _, _, _, rfl, HF.out⟩
  · rintro d_ a_ w1 hall ⟨x7, x8, x9, x10, x11, x12, x13, x14, x15, u, bg, u2, rfl, F⟩
    have hall' : ∀ k, k < 11 → d_ k = true := hall
    obtain rfl := F.f0 (hall' 0 (by decide))
    obtain rfl := F.f1 (hall' 1 (by decide))
    obtain rfl := F.f2 (hall' 2 (by decide))
    obtain rfl := F.f3 (hall' 3 (by decide))
    obtain rfl := F.f4 (hall' 4 (by decide))
    obtain rfl := F.f5 (hall' 5 (by decide))
    obtain rfl := F.f6 (hall' 6 (by decide))
    obtain rfl := F.f7 (hall' 7 (by decide))
    obtain rfl := F.f8 (hall' 8 (by decide))
    have hst := F.st5 (hall' 10 (by decide))
    exact HQ.out u bg u2 w1 hst
structure mov2pF (g : Gla) (a1 : Option Addr) (c1 : Nat) (a2 : Option Addr) (c2 : Nat) (b2 : Nat) (b4 : Nat) (b5 : Nat) (n : Int) (x : Int) (S0 : World → Prop) (S1 : Unit → World → Prop) (S2 : Unit → World → Prop) (d : Nat → Bool) (x7 x8 x9 x10 x11 x12 x13 x14 x15 : Value) (u : Unit) (w : World) : Prop where
  q3 : d 3 = true → d 1 = true ∧ d 2 = true
  q4 : d 4 = true → d 0 = true ∧ d 3 = true
  q7 : d 7 = true → d 6 = true
  q8 : d 8 = true → d 4 = true ∧ d 5 = true ∧ d 7 = true
  q9 : d 9 = true → d 0 = true ∧ d 1 = true ∧ d 2 = true ∧ d 3 = true ∧ d 4 = true ∧ d 5 = true ∧ d 6 = true ∧ d 7 = true ∧ d 8 = true
  q10 : d 10 = true → d 0 = true ∧ d 1 = true ∧ d 2 = true ∧ d 3 = true ∧ d 4 = true ∧ d 5 = true ∧ d 6 = true ∧ d 7 = true ∧ d 8 = true ∧ d 9 = true
  f0 : d 0 = true → x7 = g.v a1 c1 a2 c2
  f1 : d 1 = true → x8 = g.v a1 c1 a2 c2
  f2 : d 2 = true → x9 = .int .i64 n
  f3 : d 3 = true → x10 = .bool true
  f5 : d 5 = true → x12 = .int .i64 n
  f6 : d 6 = true → x13 = .agg #[]
  f7 : d 7 = true → x14 = .iface 55 (.agg #[])
  st0 : d 3 = false → S0 w
  st1 : d 3 = true → d 4 = false → S1 u w
  np : d 4 = false
noncomputable def mov2pC : Code := (Try.f6.body.bind (regionAt 2)).getD .skip
set_option maxRecDepth 100000 in
set_option maxHeartbeats 4000000 in
theorem mov2p {g : Gla} {a1 : Option Addr} {c1 : Nat} {a2 : Option Addr} {c2 : Nat} {b2 : Nat} {b4 : Nat} {b5 : Nat} {n : Int} {x : Int} {S0 : World → Prop} {S1 : Unit → World → Prop} {S2 : Unit → World → Prop} {Q : Exit → Act → World → Prop} {W1 : World} (h0 : S0 W1.drew)
    (kl0 : Hid (∀ (u : Unit) (w : World), (S0 w ∨ S1 u w) → w.heap[b2]? = some (.cells (g.arr a1 c1 a2 c2) 28 (0, 0))))
    (kl1 : Hid (∀ (w : World), (S0 w) → w.heap[b2]? = some (.cells (g.arr a1 c1 a2 c2) 28 (0, 0))))
    (kc3 : Hid (∀ (w : World), S0 w → Calls Try.prog 18 #[g.v a1 c1 a2 c2, .int .i64 n] w fun e w' => ∃ u : Unit, e = .returned (.bool true) ∧ S1 u w'))
    (kc4 : Hid (∀ (u : Unit) (w : World), S1 u w → Calls Try.prog 17 #[g.v a1 c1 a2 c2, .bool true] w fun e w' => e = .panicked [{ v := .iface 81 (.agg #[.int .i64 x]), recovered := false }] ∧ S2 u w'))
    {s0 s3 s6 s7 s8 s9 s10 s11 s12 s13 s14 s15 : Value} {dd : List Deferred}
    (hQ : ∀ (x7 : Value) (x8 : Value) (x9 : Value) (x10 : Value) (x11 : Value) (x12 : Value) (x13 : Value) (x14 : Value) (x15 : Value) (u : Unit) (w' : World), S2 u w' → Q (.panic [{ v := .iface 81 (.agg #[.int .i64 x]), recovered := false }]) { tmps := #[s0, .int .i64 n, .pointer (some ⟨b2, 0, none⟩), s3, .pointer (some ⟨b4, 0, none⟩), .pointer (some ⟨b5, 0, none⟩), s6, x7, x8, x9, x10, x11, x12, x13, x14, x15], defers := dd } w') :
    Code.wpIn (wideAt none) 0 Try.prog mov2pC Q { tmps := #[s0, .int .i64 n, .pointer (some ⟨b2, 0, none⟩), s3, .pointer (some ⟨b4, 0, none⟩), .pointer (some ⟨b5, 0, none⟩), s6, s7, s8, s9, s10, s11, s12, s13, s14, s15], defers := dd } W1 := by
  have HQ := Lib.hid hQ
  clear hQ
  conv => arg 4; whnf
  refine wpIn_region_invG mixed (by kernel_rfl) (fun d_ a_ w' => ∃ (x7 : Value) (x8 : Value) (x9 : Value) (x10 : Value) (x11 : Value) (x12 : Value) (x13 : Value) (x14 : Value) (x15 : Value) (u : Unit), a_ = { tmps := #[s0, .int .i64 n, .pointer (some ⟨b2, 0, none⟩), s3, .pointer (some ⟨b4, 0, none⟩), .pointer (some ⟨b5, 0, none⟩), s6, x7, x8, x9, x10, x11, x12, x13, x14, x15], defers := dd } ∧ mov2pF g a1 c1 a2 c2 b2 b4 b5 n x S0 S1 S2 d_ x7 x8 x9 x10 x11 x12 x13 x14 x15 u w') ?_ ?_ ?_
  · refine ⟨s7, s8, s9, s10, s11, s12, s13, s14, s15, default, rfl, ?_⟩
    constructor <;> first | rfl | (intro _; rfl) | (intro h; cases h; done) | (intro _; exact h0) | exact h0
  · refine ⟨?_, ?_, ?_, ?_, ?_, ?_, ?_, ?_, ?_, ?_, ?_, trivial⟩
    all_goals
      rintro d_ a_ w1 K hd_ hdep ⟨x7, x8, x9, x10, x11, x12, x13, x14, x15, u, rfl, F⟩ HK
      simp [Region.binds] at hdep
    · have hst : S0 w1 ∨ S1 u w1 := by
        cases e1 : d_ 3 with
        | false => exact .inl ((F.st0 e1))
        | true =>
          have n_ : d_ 4 = false := by
            cases e_ : d_ 4 with
            | false => rfl
            | true => have h2 := (F.q4 e_).1; rw [show d_ 0 = false from hd_] at h2; cases h2
          exact .inr ((F.st1 e1 n_))
      have kk := kl0.out u w1 hst
      clear hst
      have HF : Hid (mov2pF g a1 c1 a2 c2 b2 b4 b5 n x S0 S1 S2 (upd d_ 0) (g.v a1 c1 a2 c2) x8 x9 x10 x11 x12 x13 x14 x15 u w1) := ⟨F.q3, fun h => andM0 (F.q4 h) rfl, F.q7, F.q8, fun h => andM0 (F.q9 h) rfl, fun h => andM0 (F.q10 h) rfl, fun _ => rfl, F.f1, F.f2, F.f3, F.f5, F.f6, F.f7, F.st0, F.st1, F.np⟩
      clear F
      refine wpIn_load_gla kk _ (by rfl) (by rfl) ?_
      exact HK.out _ _ ⟨_, _, _, _, _, _, _, _, _, _, rfl, HF.out⟩
    · have hst : S0 w1 := by
        have n_ : d_ 3 = false := by
          cases e_ : d_ 3 with
          | false => rfl
          | true => have h2 := (F.q3 e_).1; rw [show d_ 1 = false from hd_] at h2; cases h2
        exact (F.st0 n_)
      have kk := kl1.out w1 hst
      clear hst
      have HF : Hid (mov2pF g a1 c1 a2 c2 b2 b4 b5 n x S0 S1 S2 (upd d_ 1) x7 (g.v a1 c1 a2 c2) x9 x10 x11 x12 x13 x14 x15 u w1) := ⟨fun h => andM0 (F.q3 h) rfl, F.q4, F.q7, F.q8, fun h => andM1 (F.q9 h) rfl, fun h => andM1 (F.q10 h) rfl, F.f0, fun _ => rfl, F.f2, F.f3, F.f5, F.f6, F.f7, F.st0, F.st1, F.np⟩
      clear F
      refine wpIn_load_gla kk _ (by rfl) (by rfl) ?_
      exact HK.out _ _ ⟨_, _, _, _, _, _, _, _, _, _, rfl, HF.out⟩
    · have HF : Hid (mov2pF g a1 c1 a2 c2 b2 b4 b5 n x S0 S1 S2 (upd d_ 2) x7 x8 (.int .i64 n) x10 x11 x12 x13 x14 x15 u w1) := ⟨fun h => andL1 (F.q3 h) rfl, F.q4, F.q7, F.q8, fun h => andM2 (F.q9 h) rfl, fun h => andM2 (F.q10 h) rfl, F.f0, F.f1, fun _ => rfl, F.f3, F.f5, F.f6, F.f7, F.st0, F.st1, F.np⟩
      clear F
      go_simp
      exact HK.out _ _ ⟨_, _, _, _, _, _, _, _, _, _, rfl, HF.out⟩
    · have hS := F.st0  hd_
      obtain rfl := F.f1 (by simp [hdep])
      obtain rfl := F.f2 (by simp [hdep])
      have hc := kc3.out w1 hS
      have HF := Lib.hid F
      clear F
      go_simp
      refine ⟨trivial, rfl, wideAt_calls (hc.mono ?_)⟩
      rintro e w5 ⟨v_, rfl, hres⟩
      exact HK.out _ _ ⟨_, _, _, _, _, _, _, _, _, v_, rfl, ⟨fun _ => ⟨(show _ from (by simp [hdep] : d_ 1 = true)), (show _ from (by simp [hdep] : d_ 2 = true))⟩, fun h => ⟨(HF.out.q4 h).1, rfl⟩, HF.out.q7, HF.out.q8, fun h => ⟨(HF.out.q9 h).1, (HF.out.q9 h).2.1, (HF.out.q9 h).2.2.1, rfl, (HF.out.q9 h).2.2.2.2.1, (HF.out.q9 h).2.2.2.2.2.1, (HF.out.q9 h).2.2.2.2.2.2.1, (HF.out.q9 h).2.2.2.2.2.2.2.1, (HF.out.q9 h).2.2.2.2.2.2.2.2⟩, fun h => ⟨(HF.out.q10 h).1, (HF.out.q10 h).2.1, (HF.out.q10 h).2.2.1, rfl, (HF.out.q10 h).2.2.2.2.1, (HF.out.q10 h).2.2.2.2.2.1, (HF.out.q10 h).2.2.2.2.2.2.1, (HF.out.q10 h).2.2.2.2.2.2.2.1, (HF.out.q10 h).2.2.2.2.2.2.2.2.1, (HF.out.q10 h).2.2.2.2.2.2.2.2.2⟩, HF.out.f0, HF.out.f1, HF.out.f2, fun _ => rfl, HF.out.f5, HF.out.f6, HF.out.f7, fun h => (by simp [upd] at h), fun _ _ => hres, HF.out.np⟩⟩
    · have hS := F.st1 (by simp [hdep] : d_ 3 = true) hd_
      obtain rfl := F.f0 (by simp [hdep])
      obtain rfl := F.f3 (by simp [hdep])
      have hc := kc4.out u w1 hS
      clear F hS
      go_simp
      refine ⟨trivial, rfl, wideAt_calls (hc.mono ?_)⟩
      rintro e w5 ⟨rfl, hres⟩
      exact HQ.out _ _ _ _ _ _ _ _ _ _ w5 hres
    · have HF : Hid (mov2pF g a1 c1 a2 c2 b2 b4 b5 n x S0 S1 S2 (upd d_ 5) x7 x8 x9 x10 x11 (.int .i64 n) x13 x14 x15 u w1) := ⟨F.q3, F.q4, F.q7, fun h => andM1 (F.q8 h) rfl, fun h => andM5 (F.q9 h) rfl, fun h => andM5 (F.q10 h) rfl, F.f0, F.f1, F.f2, F.f3, fun _ => rfl, F.f6, F.f7, F.st0, F.st1, F.np⟩
      clear F
      go_simp
      exact HK.out _ _ ⟨_, _, _, _, _, _, _, _, _, _, rfl, HF.out⟩
    · have HF : Hid (mov2pF g a1 c1 a2 c2 b2 b4 b5 n x S0 S1 S2 (upd d_ 6) x7 x8 x9 x10 x11 x12 (.agg #[]) x14 x15 u w1) := ⟨F.q3, F.q4, fun h => rfl, F.q8, fun h => andM6 (F.q9 h) rfl, fun h => andM6 (F.q10 h) rfl, F.f0, F.f1, F.f2, F.f3, F.f5, fun _ => rfl, F.f7, F.st0, F.st1, F.np⟩
      clear F
      go_simp
      exact HK.out _ _ ⟨_, _, _, _, _, _, _, _, _, _, rfl, HF.out⟩
    · obtain rfl := F.f6 (by simp [hdep])
      have HF : Hid (mov2pF g a1 c1 a2 c2 b2 b4 b5 n x S0 S1 S2 (upd d_ 7) x7 x8 x9 x10 x11 x12 (.agg #[]) (.iface 55 (.agg #[])) x15 u w1) := ⟨F.q3, F.q4, fun _ => (show _ from (by simp [hdep] : d_ 6 = true)), fun h => andL2 (F.q8 h) rfl, fun h => andM7 (F.q9 h) rfl, fun h => andM7 (F.q10 h) rfl, F.f0, F.f1, F.f2, F.f3, F.f5, F.f6, fun _ => rfl, F.st0, F.st1, F.np⟩
      clear F
      go_simp
      exact HK.out _ _ ⟨_, _, _, _, _, _, _, _, _, _, rfl, HF.out⟩
    · have h2 : d_ 4 = true := (by simp [hdep] : d_ 4 = true)
      rw [F.np] at h2
      cases h2
    · have h2 : d_ 4 = true := (by simp [hdep] : d_ 4 = true)
      rw [F.np] at h2
      cases h2
    · have h2 : d_ 4 = true := (by simp [hdep] : d_ 4 = true)
      rw [F.np] at h2
      cases h2
  · rintro d_ a_ w1 hall ⟨x7, x8, x9, x10, x11, x12, x13, x14, x15, u, rfl, F⟩
    have hall' : ∀ k, k < 11 → d_ k = true := hall
    have h2 := hall' 4 (by decide)
    rw [F.np] at h2
    cases h2
structure mov2qF (g : Gla) (a1 : Option Addr) (c1 : Nat) (a2 : Option Addr) (c2 : Nat) (b2 : Nat) (b4 : Nat) (b5 : Nat) (n : Int) (x : Int) (S0 : World → Prop) (S1 : Unit → World → Prop) (S2 : Unit → Nat → World → Prop) (S3 : Unit → Nat → World → Prop) (d : Nat → Bool) (x7 x8 x9 x10 x11 x12 x13 x14 x15 : Value) (u : Unit) (bg : Nat) (w : World) : Prop where
  q3 : d 3 = true → d 1 = true ∧ d 2 = true
  q4 : d 4 = true → d 0 = true ∧ d 3 = true
  q7 : d 7 = true → d 6 = true
  q8 : d 8 = true → d 4 = true ∧ d 5 = true ∧ d 7 = true
  q9 : d 9 = true → d 0 = true ∧ d 1 = true ∧ d 2 = true ∧ d 3 = true ∧ d 4 = true ∧ d 5 = true ∧ d 6 = true ∧ d 7 = true ∧ d 8 = true
  q10 : d 10 = true → d 0 = true ∧ d 1 = true ∧ d 2 = true ∧ d 3 = true ∧ d 4 = true ∧ d 5 = true ∧ d 6 = true ∧ d 7 = true ∧ d 8 = true ∧ d 9 = true
  f0 : d 0 = true → x7 = g.v a1 c1 a2 c2
  f1 : d 1 = true → x8 = g.v a1 c1 a2 c2
  f2 : d 2 = true → x9 = .int .i64 n
  f3 : d 3 = true → x10 = .bool true
  f4 : d 4 = true → x11 = .pointer (some ⟨bg, 0, none⟩)
  f5 : d 5 = true → x12 = .int .i64 n
  f6 : d 6 = true → x13 = .agg #[]
  f7 : d 7 = true → x14 = .iface 55 (.agg #[])
  st0 : d 3 = false → S0 w
  st1 : d 3 = true → d 4 = false → S1 u w
  st2 : d 4 = true → d 8 = false → S2 u bg w
  np : d 8 = false
noncomputable def mov2qC : Code := (Try.f6.body.bind (regionAt 2)).getD .skip
set_option maxRecDepth 100000 in
set_option maxHeartbeats 4000000 in
theorem mov2q {g : Gla} {a1 : Option Addr} {c1 : Nat} {a2 : Option Addr} {c2 : Nat} {b2 : Nat} {b4 : Nat} {b5 : Nat} {n : Int} {x : Int} {S0 : World → Prop} {S1 : Unit → World → Prop} {S2 : Unit → Nat → World → Prop} {S3 : Unit → Nat → World → Prop} {Q : Exit → Act → World → Prop} {W1 : World} (h0 : S0 W1.drew)
    (kl0 : Hid (∀ (u : Unit) (w : World), (S0 w ∨ S1 u w) → w.heap[b2]? = some (.cells (g.arr a1 c1 a2 c2) 28 (0, 0))))
    (kl1 : Hid (∀ (w : World), (S0 w) → w.heap[b2]? = some (.cells (g.arr a1 c1 a2 c2) 28 (0, 0))))
    (kc3 : Hid (∀ (w : World), S0 w → Calls Try.prog 18 #[g.v a1 c1 a2 c2, .int .i64 n] w fun e w' => ∃ u : Unit, e = .returned (.bool true) ∧ S1 u w'))
    (kc4 : Hid (∀ (u : Unit) (w : World), S1 u w → Calls Try.prog 17 #[g.v a1 c1 a2 c2, .bool true] w fun e w' => ∃ bg : Nat, e = .returned (.pointer (some ⟨bg, 0, none⟩)) ∧ S2 u bg w'))
    (kc8 : Hid (∀ (u : Unit) (bg : Nat) (w : World), S2 u bg w → Calls Try.prog 19 #[.pointer (some ⟨bg, 0, none⟩), .int .i64 n, .iface 55 (.agg #[])] w fun e w' => e = .panicked [{ v := .iface 81 (.agg #[.int .i64 x]), recovered := false }] ∧ S3 u bg w'))
    {s0 s3 s6 s7 s8 s9 s10 s11 s12 s13 s14 s15 : Value} {dd : List Deferred}
    (hQ : ∀ (x7 : Value) (x8 : Value) (x9 : Value) (x10 : Value) (x11 : Value) (x12 : Value) (x13 : Value) (x14 : Value) (x15 : Value) (u : Unit) (bg : Nat) (w' : World), S3 u bg w' → Q (.panic [{ v := .iface 81 (.agg #[.int .i64 x]), recovered := false }]) { tmps := #[s0, .int .i64 n, .pointer (some ⟨b2, 0, none⟩), s3, .pointer (some ⟨b4, 0, none⟩), .pointer (some ⟨b5, 0, none⟩), s6, x7, x8, x9, x10, x11, x12, x13, x14, x15], defers := dd } w') :
    Code.wpIn (wideAt none) 0 Try.prog mov2qC Q { tmps := #[s0, .int .i64 n, .pointer (some ⟨b2, 0, none⟩), s3, .pointer (some ⟨b4, 0, none⟩), .pointer (some ⟨b5, 0, none⟩), s6, s7, s8, s9, s10, s11, s12, s13, s14, s15], defers := dd } W1 := by
  have HQ := Lib.hid hQ
  clear hQ
  conv => arg 4; whnf
  refine wpIn_region_invG mixed (by kernel_rfl) (fun d_ a_ w' => ∃ (x7 : Value) (x8 : Value) (x9 : Value) (x10 : Value) (x11 : Value) (x12 : Value) (x13 : Value) (x14 : Value) (x15 : Value) (u : Unit) (bg : Nat), a_ = { tmps := #[s0, .int .i64 n, .pointer (some ⟨b2, 0, none⟩), s3, .pointer (some ⟨b4, 0, none⟩), .pointer (some ⟨b5, 0, none⟩), s6, x7, x8, x9, x10, x11, x12, x13, x14, x15], defers := dd } ∧ mov2qF g a1 c1 a2 c2 b2 b4 b5 n x S0 S1 S2 S3 d_ x7 x8 x9 x10 x11 x12 x13 x14 x15 u bg w') ?_ ?_ ?_
  · refine ⟨s7, s8, s9, s10, s11, s12, s13, s14, s15, default, 0, rfl, ?_⟩
    constructor <;> first | rfl | (intro _; rfl) | (intro h; cases h; done) | (intro _; exact h0) | exact h0
  · refine ⟨?_, ?_, ?_, ?_, ?_, ?_, ?_, ?_, ?_, ?_, ?_, trivial⟩
    all_goals
      rintro d_ a_ w1 K hd_ hdep ⟨x7, x8, x9, x10, x11, x12, x13, x14, x15, u, bg, rfl, F⟩ HK
      simp [Region.binds] at hdep
    · have hst : S0 w1 ∨ S1 u w1 := by
        cases e1 : d_ 3 with
        | false => exact .inl ((F.st0 e1))
        | true =>
          have n_ : d_ 4 = false := by
            cases e_ : d_ 4 with
            | false => rfl
            | true => have h2 := (F.q4 e_).1; rw [show d_ 0 = false from hd_] at h2; cases h2
          exact .inr ((F.st1 e1 n_))
      have kk := kl0.out u w1 hst
      clear hst
      have HF : Hid (mov2qF g a1 c1 a2 c2 b2 b4 b5 n x S0 S1 S2 S3 (upd d_ 0) (g.v a1 c1 a2 c2) x8 x9 x10 x11 x12 x13 x14 x15 u bg w1) := ⟨F.q3, fun h => andM0 (F.q4 h) rfl, F.q7, F.q8, fun h => andM0 (F.q9 h) rfl, fun h => andM0 (F.q10 h) rfl, fun _ => rfl, F.f1, F.f2, F.f3, F.f4, F.f5, F.f6, F.f7, F.st0, F.st1, F.st2, F.np⟩
      clear F
      refine wpIn_load_gla kk _ (by rfl) (by rfl) ?_
      exact HK.out _ _ ⟨_, _, _, _, _, _, _, _, _, _, _, rfl, HF.out⟩
    · have hst : S0 w1 := by
        have n_ : d_ 3 = false := by
          cases e_ : d_ 3 with
          | false => rfl
          | true => have h2 := (F.q3 e_).1; rw [show d_ 1 = false from hd_] at h2; cases h2
        exact (F.st0 n_)
      have kk := kl1.out w1 hst
      clear hst
      have HF : Hid (mov2qF g a1 c1 a2 c2 b2 b4 b5 n x S0 S1 S2 S3 (upd d_ 1) x7 (g.v a1 c1 a2 c2) x9 x10 x11 x12 x13 x14 x15 u bg w1) := ⟨fun h => andM0 (F.q3 h) rfl, F.q4, F.q7, F.q8, fun h => andM1 (F.q9 h) rfl, fun h => andM1 (F.q10 h) rfl, F.f0, fun _ => rfl, F.f2, F.f3, F.f4, F.f5, F.f6, F.f7, F.st0, F.st1, F.st2, F.np⟩
      clear F
      refine wpIn_load_gla kk _ (by rfl) (by rfl) ?_
      exact HK.out _ _ ⟨_, _, _, _, _, _, _, _, _, _, _, rfl, HF.out⟩
    · have HF : Hid (mov2qF g a1 c1 a2 c2 b2 b4 b5 n x S0 S1 S2 S3 (upd d_ 2) x7 x8 (.int .i64 n) x10 x11 x12 x13 x14 x15 u bg w1) := ⟨fun h => andL1 (F.q3 h) rfl, F.q4, F.q7, F.q8, fun h => andM2 (F.q9 h) rfl, fun h => andM2 (F.q10 h) rfl, F.f0, F.f1, fun _ => rfl, F.f3, F.f4, F.f5, F.f6, F.f7, F.st0, F.st1, F.st2, F.np⟩
      clear F
      go_simp
      exact HK.out _ _ ⟨_, _, _, _, _, _, _, _, _, _, _, rfl, HF.out⟩
    · have hS := F.st0  hd_
      obtain rfl := F.f1 (by simp [hdep])
      obtain rfl := F.f2 (by simp [hdep])
      have hc := kc3.out w1 hS
      have HF := Lib.hid F
      clear F
      go_simp
      refine ⟨trivial, rfl, wideAt_calls (hc.mono ?_)⟩
      rintro e w5 ⟨v_, rfl, hres⟩
      exact HK.out _ _ ⟨_, _, _, _, _, _, _, _, _, v_, bg, rfl, ⟨fun _ => ⟨(show _ from (by simp [hdep] : d_ 1 = true)), (show _ from (by simp [hdep] : d_ 2 = true))⟩, fun h => ⟨(HF.out.q4 h).1, rfl⟩, HF.out.q7, HF.out.q8, fun h => ⟨(HF.out.q9 h).1, (HF.out.q9 h).2.1, (HF.out.q9 h).2.2.1, rfl, (HF.out.q9 h).2.2.2.2.1, (HF.out.q9 h).2.2.2.2.2.1, (HF.out.q9 h).2.2.2.2.2.2.1, (HF.out.q9 h).2.2.2.2.2.2.2.1, (HF.out.q9 h).2.2.2.2.2.2.2.2⟩, fun h => ⟨(HF.out.q10 h).1, (HF.out.q10 h).2.1, (HF.out.q10 h).2.2.1, rfl, (HF.out.q10 h).2.2.2.2.1, (HF.out.q10 h).2.2.2.2.2.1, (HF.out.q10 h).2.2.2.2.2.2.1, (HF.out.q10 h).2.2.2.2.2.2.2.1, (HF.out.q10 h).2.2.2.2.2.2.2.2.1, (HF.out.q10 h).2.2.2.2.2.2.2.2.2⟩, HF.out.f0, HF.out.f1, HF.out.f2, fun _ => rfl, HF.out.f4, HF.out.f5, HF.out.f6, HF.out.f7, fun h => (by simp [upd] at h), fun _ _ => hres, fun h _ => (by have h2 : d_ 3 = true := (HF.out.q4 h).2; rw [show d_ 3 = false from hd_] at h2; cases h2), HF.out.np⟩⟩
    · have hS := F.st1 (by simp [hdep] : d_ 3 = true) hd_
      obtain rfl := F.f0 (by simp [hdep])
      obtain rfl := F.f3 (by simp [hdep])
      have hc := kc4.out u w1 hS
      have HF := Lib.hid F
      clear F
      go_simp
      refine ⟨trivial, rfl, wideAt_calls (hc.mono ?_)⟩
      rintro e w5 ⟨v_, rfl, hres⟩
      exact HK.out _ _ ⟨_, _, _, _, _, _, _, _, _, u, v_, rfl, ⟨HF.out.q3, fun _ => ⟨(show _ from (by simp [hdep] : d_ 0 = true)), (show _ from (by simp [hdep] : d_ 3 = true))⟩, HF.out.q7, fun h => ⟨rfl, (HF.out.q8 h).2.1, (HF.out.q8 h).2.2⟩, fun h => ⟨(HF.out.q9 h).1, (HF.out.q9 h).2.1, (HF.out.q9 h).2.2.1, (HF.out.q9 h).2.2.2.1, rfl, (HF.out.q9 h).2.2.2.2.2.1, (HF.out.q9 h).2.2.2.2.2.2.1, (HF.out.q9 h).2.2.2.2.2.2.2.1, (HF.out.q9 h).2.2.2.2.2.2.2.2⟩, fun h => ⟨(HF.out.q10 h).1, (HF.out.q10 h).2.1, (HF.out.q10 h).2.2.1, (HF.out.q10 h).2.2.2.1, rfl, (HF.out.q10 h).2.2.2.2.2.1, (HF.out.q10 h).2.2.2.2.2.2.1, (HF.out.q10 h).2.2.2.2.2.2.2.1, (HF.out.q10 h).2.2.2.2.2.2.2.2.1, (HF.out.q10 h).2.2.2.2.2.2.2.2.2⟩, HF.out.f0, HF.out.f1, HF.out.f2, HF.out.f3, fun _ => rfl, HF.out.f5, HF.out.f6, HF.out.f7, fun h => (by have h2 : d_ 3 = false := h; rw [(by simp [hdep] : d_ 3 = true)] at h2; cases h2), fun _ h => (by simp [upd] at h), fun _ _ => hres, HF.out.np⟩⟩
    · have HF : Hid (mov2qF g a1 c1 a2 c2 b2 b4 b5 n x S0 S1 S2 S3 (upd d_ 5) x7 x8 x9 x10 x11 (.int .i64 n) x13 x14 x15 u bg w1) := ⟨F.q3, F.q4, F.q7, fun h => andM1 (F.q8 h) rfl, fun h => andM5 (F.q9 h) rfl, fun h => andM5 (F.q10 h) rfl, F.f0, F.f1, F.f2, F.f3, F.f4, fun _ => rfl, F.f6, F.f7, F.st0, F.st1, F.st2, F.np⟩
      clear F
      go_simp
      exact HK.out _ _ ⟨_, _, _, _, _, _, _, _, _, _, _, rfl, HF.out⟩
    · have HF : Hid (mov2qF g a1 c1 a2 c2 b2 b4 b5 n x S0 S1 S2 S3 (upd d_ 6) x7 x8 x9 x10 x11 x12 (.agg #[]) x14 x15 u bg w1) := ⟨F.q3, F.q4, fun h => rfl, F.q8, fun h => andM6 (F.q9 h) rfl, fun h => andM6 (F.q10 h) rfl, F.f0, F.f1, F.f2, F.f3, F.f4, F.f5, fun _ => rfl, F.f7, F.st0, F.st1, F.st2, F.np⟩
      clear F
      go_simp
      exact HK.out _ _ ⟨_, _, _, _, _, _, _, _, _, _, _, rfl, HF.out⟩
    · obtain rfl := F.f6 (by simp [hdep])
      have HF : Hid (mov2qF g a1 c1 a2 c2 b2 b4 b5 n x S0 S1 S2 S3 (upd d_ 7) x7 x8 x9 x10 x11 x12 (.agg #[]) (.iface 55 (.agg #[])) x15 u bg w1) := ⟨F.q3, F.q4, fun _ => (show _ from (by simp [hdep] : d_ 6 = true)), fun h => andL2 (F.q8 h) rfl, fun h => andM7 (F.q9 h) rfl, fun h => andM7 (F.q10 h) rfl, F.f0, F.f1, F.f2, F.f3, F.f4, F.f5, F.f6, fun _ => rfl, F.st0, F.st1, F.st2, F.np⟩
      clear F
      go_simp
      exact HK.out _ _ ⟨_, _, _, _, _, _, _, _, _, _, _, rfl, HF.out⟩
    · have hS := F.st2 (by simp [hdep] : d_ 4 = true) hd_
      obtain rfl := F.f4 (by simp [hdep])
      obtain rfl := F.f5 (by simp [hdep])
      obtain rfl := F.f7 (by simp [hdep])
      have hc := kc8.out u bg w1 hS
      clear F hS
      go_simp
      refine ⟨trivial, rfl, wideAt_calls (hc.mono ?_)⟩
      rintro e w5 ⟨rfl, hres⟩
      exact HQ.out _ _ _ _ _ _ _ _ _ _ _ w5 hres
    · have h2 : d_ 8 = true := (by simp [hdep] : d_ 8 = true)
      rw [F.np] at h2
      cases h2
    · have h2 : d_ 8 = true := (by simp [hdep] : d_ 8 = true)
      rw [F.np] at h2
      cases h2
  · rintro d_ a_ w1 hall ⟨x7, x8, x9, x10, x11, x12, x13, x14, x15, u, bg, rfl, F⟩
    have hall' : ∀ k, k < 11 → d_ k = true := hall
    have h2 := hall' 8 (by decide)
    rw [F.np] at h2
    cases h2
end Go.Proofs.Ytbnhngfegnhaiaa
namespace Go.Proofs.Ytbnhngfegnhaiaa
open Go.RowKit
set_option linter.unusedVariables false
set_option linter.unusedSimpArgs false
theorem caught_nil (pe : Value) (w : World) : Calls Try.prog 16 #[.nilIface, pe] w fun e w' => e = .returned (.tuple #[]) ∧ w = w' := by
  go_enter Try.func16, Try.ntmps16
  go_wp2
  refine bodyPost_ret (results_none rfl _ _ _) rfl ?_
  exact ⟨rfl, rfl⟩
theorem assert81 (v : Value) (w : World) : (Instr.typeAssert (.iface 81 v) 20 81 true).run Try.prog w = .ok (.tuple #[v, .bool true]) w := by
  simp [Instr.typeAssert, run_underlying Try.underlying81, Result.andThen]
/-- The world behind a call that caught (years). -/
def caughtY (w : World) (be : Nat) (x : Int) : World := (w.alloc (.cells #[.int .i64 x] 81)).setCell ⟨be, 0, none⟩ (.int .i64 x)
theorem caught_misfit (x : Int) {b : Nat} {v : Value} {w : World} (hc : w.cell? ⟨b, 0, none⟩ = some v) (hf : w.frozen? ⟨b, 0, none⟩ = false) :
    Calls Try.prog 16 #[.iface 81 (.agg #[.int .i64 x]), .pointer (some ⟨b, 0, none⟩)] w fun e w' => e = .returned (.tuple #[]) ∧ w' = (w.alloc (.cells #[.int .i64 x] 81)).setCell ⟨b, 0, none⟩ (.int .i64 x) := by
  have hb := lt_of_cell hc
  have ha := assert81 (.agg #[.int .i64 x])
  go_enter Try.func16, Try.ntmps16
  go_wp2
  go_end0
  refine ⟨rfl, ?_⟩
  rw [World.setCell_alloc_past _ _ _ _ hb]
theorem recov15_ok (pe : Value) (w : World) : CallsD Try.prog 15 #[pe] .returning w fun e u' w' => e = .returned (.tuple #[]) ∧ u' = .returning ∧ w = w' := by
  refine callsD_of_wpS Try.func15 rfl fun c₀ cs hu => ?_
  apply wpS_region
  simp [wpOpsS, go_sem, recoverD, hu, Try.ntmps15]
  refine (caught_nil pe w).mono ?_
  rintro e w' ⟨rfl, rfl⟩
  simp [bodyPostS, results, Try.results15]
  rw [← hu]
theorem recov15_no (x : Int) {b : Nat} {v : Value} {w : World} (hc : w.cell? ⟨b, 0, none⟩ = some v) (hf : w.frozen? ⟨b, 0, none⟩ = false) :
    CallsD Try.prog 15 #[.pointer (some ⟨b, 0, none⟩)] (.panicking [{ v := .iface 81 (.agg #[.int .i64 x]), recovered := false }]) w fun e u' w' =>
      e = .returned (.tuple #[]) ∧ u' = .panicking [{ v := .iface 81 (.agg #[.int .i64 x]), recovered := true }] ∧ w' = caughtY w b x := by
  refine callsD_of_wpS Try.func15 rfl fun c₀ cs hu => ?_
  apply wpS_region
  simp [wpOpsS, go_sem, recoverD, hu, Try.ntmps15]
  refine (caught_misfit x hc hf).mono ?_
  rintro e w' ⟨rfl, rfl⟩
  simp [bodyPostS, results, Try.results15, caughtY]
theorem cf15 (args : Array Value) (w : World) : (callFunc 15 args).run Try.prog w = .ok (.enter 15 args) w := by simp [callFunc, Try.func15, Try.f15, go_sem]
theorem caughtY_heap {w : World} {be : Nat} {x y : Int} (h : w.heap[be]? = some (.cells #[.int .i64 y] 36 (0, 0))) : (caughtY w be x).heap[be]? = some (.cells #[.int .i64 x] 36 (0, 0)) := by
  have h2 : (w.alloc (.cells #[.int .i64 x] 81)).heap[be]? = some (.cells #[.int .i64 y] 36 (0, 0)) := (Below.heap_alloc _ _ _ (heap_lt h)).trans h
  exact heap_setCell_at (k := 0) h2 (.int .i64 x)
theorem caughtY_other {w : World} {be k : Nat} {x : Int} (hk : k < w.heap.size) (hne : k ≠ be) : (caughtY w be x).heap[k]? = w.heap[k]? :=
  (Below.heap_setCell _ _ _ _ hne).trans (Below.heap_alloc _ _ _ hk)
theorem caughtY_below {B : Nat} {A w : World} {be : Nat} {x : Int} (hb : Below B A w) (hB : B ≤ be) (hw : B ≤ w.heap.size) : Below B A (caughtY w be x) :=
  (hb.alloc hw _).setCell (p := ⟨be, _, none⟩) hB _
theorem doorY_ok {fn : Func} {tmps : Array Value} {R : Ending → World → Prop} {be : Nat} {w : World} {v : Value} (hv : (results fn tmps).run Try.prog w = .ok v w) (hR : R (.returned v) w) : bodyPostX Try.prog fn R .ret { tmps := tmps, defers := [{ target := .fn (.func 15) #[.pointer (some ⟨be, 0, none⟩)], args := #[] }] } w :=
  ⟨[], _, rfl, leaves_ok (recov15_ok _ _) cf15 hv hR⟩
theorem doorY_no {fn : Func} {tmps : Array Value} {R : Ending → World → Prop} {be : Nat} {x y : Int} {w : World} {v : Value} (h : w.heap[be]? = some (.cells #[.int .i64 y] 36 (0, 0))) (hv : (results fn tmps).run Try.prog (caughtY w be x) = .ok v (caughtY w be x)) (hR : R (.returned v) (caughtY w be x)) :
    bodyPostX Try.prog fn R (.panic [{ v := .iface 81 (.agg #[.int .i64 x]), recovered := false }]) { tmps := tmps, defers := [{ target := .fn (.func 15) #[.pointer (some ⟨be, 0, none⟩)], args := #[] }] } w :=
  ⟨[], _, rfl, leaves_no (recov15_no x (v := .int .i64 y) (by rw [cell_of_heap h]; rfl) (frozen_of_heap h)) rfl cf15 hv hR⟩
theorem res_c2e' {fn : Func} {u v : Tmp} (h : fn.results = #[.cell u 23, .cell v 36]) (tmps : Array Value) {w : World} {b be : Nat} {q : Spn} {x : Int} (hp : tmps.getD u undef = .pointer (some ⟨b, 0, none⟩)) (hq : tmps.getD v undef = .pointer (some ⟨be, 0, none⟩)) (h1 : w.heap[b]? = some (.cells q.arr 23 (0, 0))) (h2 : w.heap[be]? = some (.cells #[.int .i64 x] 36 (0, 0))) :
    (results fn tmps).run Try.prog w = .ok (.tuple #[q.v, .int .i64 x]) w :=
  res_c2e h tmps hp hq (by rw [cell_of_heap h1]; rfl) (by rw [cell_of_heap h1]; rfl) (by rw [cell_of_heap h2]; rfl)
theorem movedE_no {g : Gla} {k : Nat} (hv : g.valid = true) (hk : k < g.first.things.length) (h : errG g ≠ 0) : movedE g k = (⟨0, 0⟩, errG g) := by
  have e : inR (k : Int) 0 ((g.first.things.length : Int) - 1) = true := by simp [inR]; omega
  unfold movedE errG at *
  rw [hv, e]
  by_cases h1 : (powerE g.first).2 ≠ 0
  · simp [h1]
  · simp only [h1, if_false] at h ⊢
    simp [h]
theorem movedE_ref {g : Gla} {k : Nat} (hv : g.valid = true) (hk : k < g.first.things.length) (h : errG g = 0) (h2 : (((distE g.first k).2 == 0) && ((distE g.second k).2 == 0)) = false) : movedE g k = (⟨0, 0⟩, 11) := by
  have e : inR (k : Int) 0 ((g.first.things.length : Int) - 1) = true := by simp [inR]; omega
  unfold movedE errG at *
  rw [hv, e]
  by_cases h1 : (powerE g.first).2 ≠ 0
  · rw [if_pos h1] at h
    exact absurd h h1
  · rw [if_neg h1] at h
    have h3 : (distE g.first k).2 ≠ 0 ∨ (distE g.second k).2 ≠ 0 := by
      simp only [Bool.and_eq_false_iff, beq_eq_false_iff_ne] at h2
      exact h2
    simp [h1, h, h3]
theorem movedE_yes {g : Gla} {k : Nat} (hv : g.valid = true) (hk : k < g.first.things.length) (h : errG g = 0) (h2 : (((distE g.first k).2 == 0) && ((distE g.second k).2 == 0)) = true) : movedE g k = ((distE g.second k).1.less (distE g.first k).1, 0) := by
  have e : inR (k : Int) 0 ((g.first.things.length : Int) - 1) = true := by simp [inR]; omega
  unfold movedE errG at *
  rw [hv, e]
  by_cases h1 : (powerE g.first).2 ≠ 0
  · rw [if_pos h1] at h
    exact absurd h h1
  · rw [if_neg h1] at h
    simp only [Bool.and_eq_true, beq_iff_eq] at h2
    simp [h1, h, h2.1, h2.2, Spn.less]
theorem distE_far {p : Par} {k : Nat} (hv : p.valid = true) (hk : k < p.things.length) : (distE p k).1.Far := by
  have hN := nums_of hv
  have e : inR (k : Int) 0 ((p.things.length : Int) - 1) = true := by simp [inR]; omega
  have z : (⟨0, 0⟩ : Spn).Far := ⟨⟨by decide, by decide⟩, ⟨by decide, by decide⟩⟩
  unfold distE
  rw [hv, e]
  cases hl : p.look p.things p.all with
  | none => exact z
  | some q =>
    simp only [Int.toNat_natCast]
    have hb := look_bd hN hl
    cases hs : (p.still (gt p.things k) q).2
    · exact z
    · have ht : (gt p.things k).far = 0 ∨ inR (gt p.things k).far p.near p.far = true := by
        have h := hN.things _ (gt_mem hk)
        unfold thgOk at h
        simp only [Bool.and_eq_true, Bool.or_eq_true, decide_eq_true_eq] at h
        exact h.2
      have ha := away_is hN ⟨hb.1, hb.2.1⟩ hs ht
      have n1 := hN.n1
      have n3 := hN.n3
      exact ⟨⟨by show _ ≤ (p.away _ q).lo; omega, by show (p.away _ q).lo ≤ _; omega⟩, ⟨by show _ ≤ (p.away _ q).hi; omega, by show (p.away _ q).hi ≤ _; omega⟩⟩
set_option maxRecDepth 100000 in
set_option maxHeartbeats 8000000 in
theorem moved6 {g : Gla} {a1 a2 : Option Addr} {c1 c2 : Nat} {k : Nat} {w : World} (hv : g.valid = true) (hk : k < g.first.things.length) (h1 : IsThs w a1 g.first.things) (h2 : IsThs w a2 g.second.things) :
    Calls Try.prog 6 #[g.v a1 c1 a2 c2, .int .i64 k] w fun e w' => e = .returned (.tuple #[(movedE g k).1.v, .int .i64 (movedE g k).2]) ∧ Below w.heap.size w w' := by
  have HX := Lib.hid (alloc3 w (g.arr a1 c1 a2 c2) #[.int .i64 0, .int .i64 0] #[.int .i64 0] 28 23 36 _ rfl)
  have HT := Lib.hid (And.intro (h1.mono HX.out.2.2.2) (And.intro (h2.mono HX.out.2.2.2) HX.out.2.2.2.size))
  have HV : Hid ((g.valid = true ∧ k < g.first.things.length) ∧ (g.first.things.length ≤ 1000000 ∧ g.second.things.length ≤ 1000000) ∧ (distE g.first k).1.Far ∧ (distE g.second k).1.Far ∧ inR (k : Int) 0 ((g.first.things.length : Int) - 1) = true) := by
    have h := hv
    unfold Gla.valid at h
    simp only [Bool.and_eq_true, decide_eq_true_eq] at h
    obtain ⟨⟨⟨⟨v1, v2⟩, vl⟩, _⟩, _⟩ := h
    have l1 := (nums_of v1).len
    have l2 := (nums_of v2).len
    exact ⟨⟨hv, hk⟩, ⟨by omega, by omega⟩, distE_far v1 hk, distE_far v2 (by omega), by simp [inR]; omega⟩
  clear h1 h2 hv hk
  refine calls_of_wp_x Try.func6 rfl ?_
  simp only [Try.ntmps6, List.size_toArray, List.length_cons, List.length_nil, Nat.reduceAdd, Nat.reduceSub, Array.replicate_succ, Array.replicate_zero, List.push_toArray, List.append_toArray, List.nil_append, List.cons_append]
  conv => arg 2; whnf
  refine wp_seq_hid ?_
  intro K0 HK0
  go_wp2_with fail
  refine HK0.out _ _ ?_
  clear HK0 K0
  revert HX HT
  generalize ((w.alloc (.cells (g.arr a1 c1 a2 c2) 28)).alloc (.cells #[.int .i64 0, .int .i64 0] 23)).alloc (.cells #[.int .i64 0] 36) = w1
  generalize hbe : w.heap.size + 2 = be
  generalize hbs : w.heap.size + 1 = bs
  generalize hbp : w.heap.size = bp
  intro HX HT
  have HA : Hid (bp ≤ bs ∧ bp ≤ be ∧ bs ≠ be) := ⟨by omega, by omega, by omega⟩
  clear hbe hbs hbp
  refine wp_seq_hid ?_
  intro K1 HK1
  go_wp2_with fail
  refine HK1.out _ _ ?_
  clear HK1 K1
  have KF : Hid (∀ v, Below w1.heap.size w1 v → v.heap[bp]? = some (.cells (g.arr a1 c1 a2 c2) 28 (0, 0)) ∧ v.heap[bs]? = some (.cells #[.int .i64 0, .int .i64 0] 23 (0, 0)) ∧ v.heap[be]? = some (.cells #[.int .i64 0] 36 (0, 0)) ∧ Below bp w v ∧ bp ≤ v.heap.size ∧ IsThs v a1 g.first.things ∧ IsThs v a2 g.second.things) := fun v hv =>
    ⟨(hv.block _ (heap_lt HX.out.1)).trans HX.out.1, (hv.block _ (heap_lt HX.out.2.1)).trans HX.out.2.1, (hv.block _ (heap_lt HX.out.2.2.1)).trans HX.out.2.2.1, HX.out.2.2.2.trans (hv.mono HT.out.2.2), Nat.le_trans HT.out.2.2 hv.size, HT.out.1.mono hv, HT.out.2.1.mono hv⟩
  clear HX HT
  refine wp_seq_hid ?_
  intro K2 HK2
  by_cases he : errG g = 0
  · have HE := Lib.hid he
    clear he
    cases hs : (((distE g.first k).2 == 0) && ((distE g.second k).2 == 0))
    · have HM := Lib.hid (movedE_ref HV.out.1.1 HV.out.1.2 HE.out hs)
      have HS := Lib.hid hs
      clear hs
      refine wpIn_wide.1 (mov2q (g := g) (a1 := a1) (c1 := c1) (a2 := a2) (c2 := c2) (b2 := bp) (b4 := bs) (b5 := be) (n := k) (x := 11)
        (S0 := fun v => Below w1.heap.size w1 v) (S1 := fun _ v => Below w1.heap.size w1 v) (S2 := fun _ bg v => Below w1.heap.size w1 v ∧ IsGla v bg g a1 c1 a2 c2) (S3 := fun _ bg v => Below w1.heap.size w1 v)
        ?h0 ?l0 ?l1 ?c3 ?c4 ?c8 ?hQ)
      case h0 => exact (Below.refl _ _).drew
      case l0 =>
        rintro u v (h | h)
        · exact (KF.out v h).1
        · exact (KF.out v h).1
      case l1 => exact fun v h => (KF.out v h).1
      case c3 =>
        intro v h
        refine (isThing18 (n := k) HV.out.2.1.1 v).mono ?_
        rintro e v' ⟨rfl, hb⟩
        exact ⟨(), by rw [HV.out.2.2.2.2], h.trans (hb.mono h.size)⟩
      case c4 =>
        intro u v h
        refine (open17 HV.out.1.1 (KF.out v h).2.2.2.2.2.1 (KF.out v h).2.2.2.2.2.2).mono ?_
        rintro e v' ⟨hb, (⟨hz, rfl⟩ | ⟨hz, bg, rfl, _, hg⟩)⟩
        · exact absurd HE.out hz
        · exact ⟨bg, rfl, h.trans (hb.mono h.size), hg⟩
      case c8 =>
        intro u bg v h
        refine (ask19 h.2 HV.out.2.1 HV.out.2.2.1 HV.out.2.2.2.1).mono ?_
        rintro e v' ⟨hb, (⟨hz, rfl⟩ | ⟨hz, rfl⟩)⟩
        · exact ⟨rfl, h.1.trans (hb.mono h.1.size)⟩
        · rw [HS.out] at hz
          cases hz
      intro x7 x8 x9 x10 x11 x12 x13 x14 x15 u bg w2 h
      obtain ⟨_, g1, g2, g3, g4, _, _⟩ := KF.out w2 h
      have hc := (caughtY_other (be := be) (x := 11) (heap_lt g1) HA.out.2.2).trans g1
      exact doorY_no g2 (res_c2e' (q := ⟨0, 0⟩) rfl _ rfl rfl hc (caughtY_heap g2)) ⟨by rw [HM.out], caughtY_below g3 HA.out.2.1 g4⟩
    · have HM := Lib.hid (movedE_yes HV.out.1.1 HV.out.1.2 HE.out hs)
      have HS := Lib.hid hs
      clear hs
      refine wpIn_wide.1 (mov2 (g := g) (a1 := a1) (c1 := c1) (a2 := a2) (c2 := c2) (b2 := bp) (b4 := bs) (b5 := be) (n := k) (z1 := ((distE g.second k).1.less (distE g.first k).1).lo) (z2 := ((distE g.second k).1.less (distE g.first k).1).hi)
        (S0 := fun v => Below w1.heap.size w1 v) (S1 := fun _ v => Below w1.heap.size w1 v) (S2 := fun _ bg v => Below w1.heap.size w1 v ∧ IsGla v bg g a1 c1 a2 c2) (S3 := fun _ bg _ v => Below w1.heap.size w1 v) (S4 := fun _ bg _ v => Below bp w v ∧ v.heap[bs]? = some (.cells ((distE g.second k).1.less (distE g.first k).1).arr 23 (0, 0)) ∧ v.heap[be]? = some (.cells #[.int .i64 0] 36 (0, 0))) (S5 := fun _ bg _ v => Below bp w v ∧ v.heap[bs]? = some (.cells ((distE g.second k).1.less (distE g.first k).1).arr 23 (0, 0)) ∧ v.heap[be]? = some (.cells #[.int .i64 0] 36 (0, 0)))
        ?h0_b ?l0_b ?l1_b ?c3_b ?c4_b ?c8_b ?c9_b ?c10_b ?hQ_b)
      case h0_b => exact (Below.refl _ _).drew
      case l0_b =>
        rintro u v (h | h)
        · exact (KF.out v h).1
        · exact (KF.out v h).1
      case l1_b => exact fun v h => (KF.out v h).1
      case c3_b =>
        intro v h
        refine (isThing18 (n := k) HV.out.2.1.1 v).mono ?_
        rintro e v' ⟨rfl, hb⟩
        exact ⟨(), by rw [HV.out.2.2.2.2], h.trans (hb.mono h.size)⟩
      case c4_b =>
        intro u v h
        refine (open17 HV.out.1.1 (KF.out v h).2.2.2.2.2.1 (KF.out v h).2.2.2.2.2.2).mono ?_
        rintro e v' ⟨hb, (⟨hz, rfl⟩ | ⟨hz, bg, rfl, _, hg⟩)⟩
        · exact absurd HE.out hz
        · exact ⟨bg, rfl, h.trans (hb.mono h.size), hg⟩
      case c8_b =>
        intro u bg v h
        refine (ask19 h.2 HV.out.2.1 HV.out.2.2.1 HV.out.2.2.2.1).mono ?_
        rintro e v' ⟨hb, (⟨hz, rfl⟩ | ⟨hz, rfl⟩)⟩
        · rw [HS.out] at hz
          cases hz
        · exact ⟨(), rfl, h.1.trans (hb.mono h.1.size)⟩
      case c9_b =>
        intro u bg u2 v h
        obtain ⟨_, g1, g2, g3, g4, _, _⟩ := KF.out v h
        refine ⟨⟨_, by rw [cell_of_heap g1]; rfl⟩, frozen_of_heap g1, ⟨_, by rw [cell_of_heap g1]; rfl⟩, frozen_of_heap g1, (g3.setCell (p := ⟨bs, 0, none⟩) HA.out.1 _).setCell (p := ⟨bs, 1, none⟩) HA.out.1 _, heap_setCell_at (k := 1) (heap_setCell_at (k := 0) g1 _) _, ?_⟩
        rw [Below.heap_setCell _ _ _ _ (Ne.symm HA.out.2.2), Below.heap_setCell _ _ _ _ (Ne.symm HA.out.2.2)]
        exact g2
      case c10_b =>
        intro u bg u2 v h
        refine ⟨⟨_, by rw [cell_of_heap h.2.2]; rfl⟩, frozen_of_heap h.2.2, h.1.setCell (p := ⟨be, 0, none⟩) HA.out.2.1 _, ?_, heap_setCell_at (k := 0) h.2.2 _⟩
        rw [Below.heap_setCell _ _ _ _ HA.out.2.2]
        exact h.2.1
      intro u bg u2 w2 h
      refine HK2.out _ _ ?_
      have HF := Lib.hid h
      clear h
      go_wp2_with fail
      exact doorY_ok (res_c2e' rfl _ rfl rfl HF.out.2.1 HF.out.2.2) ⟨by rw [HM.out], HF.out.1⟩
  · have HE := Lib.hid he
    have HM := Lib.hid (movedE_no HV.out.1.1 HV.out.1.2 he)
    clear he
    refine wpIn_wide.1 (mov2p (g := g) (a1 := a1) (c1 := c1) (a2 := a2) (c2 := c2) (b2 := bp) (b4 := bs) (b5 := be) (n := k) (x := errG g)
      (S0 := fun v => Below w1.heap.size w1 v) (S1 := fun _ v => Below w1.heap.size w1 v) (S2 := fun _ v => Below w1.heap.size w1 v)
      ?h0_c ?l0_c ?l1_c ?c3_c ?c4_c ?hQ_c)
    case h0_c => exact (Below.refl _ _).drew
    case l0_c =>
      rintro u v (h | h)
      · exact (KF.out v h).1
      · exact (KF.out v h).1
    case l1_c => exact fun v h => (KF.out v h).1
    case c3_c =>
      intro v h
      refine (isThing18 (n := k) HV.out.2.1.1 v).mono ?_
      rintro e v' ⟨rfl, hb⟩
      exact ⟨(), by rw [HV.out.2.2.2.2], h.trans (hb.mono h.size)⟩
    case c4_c =>
      intro u v h
      refine (open17 HV.out.1.1 (KF.out v h).2.2.2.2.2.1 (KF.out v h).2.2.2.2.2.2).mono ?_
      rintro e v' ⟨hb, (⟨hz, rfl⟩ | ⟨hz, bg, rfl, _, hg⟩)⟩
      · exact ⟨rfl, h.trans (hb.mono h.size)⟩
      · exact absurd hz HE.out
    intro x7 x8 x9 x10 x11 x12 x13 x14 x15 u w2 h
    obtain ⟨_, g1, g2, g3, g4, _, _⟩ := KF.out w2 h
    have hc := (caughtY_other (be := be) (x := errG g) (heap_lt g1) HA.out.2.2).trans g1
    exact doorY_no g2 (res_c2e' (q := ⟨0, 0⟩) rfl _ rfl rfl hc (caughtY_heap g2)) ⟨by rw [HM.out], caughtY_below g3 HA.out.2.1 g4⟩
end Go.Proofs.Ytbnhngfegnhaiaa
namespace Go.Proofs.Ytbnhngfegnhaiaa
open Go.RowKit
set_option linter.unusedVariables false
set_option linter.unusedSimpArgs false
theorem span13 {a b : Int} {w : World} : Calls Try.prog 13 #[.int .i64 a, .int .i64 b] w fun e w' => e = .returned (.agg #[.int .i64 a, .int .i64 b]) ∧ Below w.heap.size w w' := by
  have HX := Lib.hid (And.intro (World.alloc_heap_new w (.cells #[.int .i64 0, .int .i64 0] 23)) (alloc_below w (.cells #[.int .i64 0, .int .i64 0] 23)))
  go_enter Try.func13, Try.ntmps13
  refine wp_seq_hid ?_
  intro K0 HK0
  go_wp2_with fail
  refine HK0.out _ _ ?_
  clear HK0 K0
  revert HX
  generalize w.alloc (.cells #[.int .i64 0, .int .i64 0] 23) = w1
  generalize hb : w.heap.size = b1
  intro HX
  have s0 : w1.cell? ⟨b1, 0, none⟩ = some (.int .i64 0) := by rw [cell_of_heap HX.out.1]; rfl
  have s1 : w1.cell? ⟨b1, 1, none⟩ = some (.int .i64 0) := by rw [cell_of_heap HX.out.1]; rfl
  have f0 : ∀ k, w1.frozen? ⟨b1, k, none⟩ = false := fun k => frozen_of_heap HX.out.1
  go_wp2_with fail
  have h4 := heap_setCell_at (k := 1) (heap_setCell_at (k := 0) HX.out.1 (.int .i64 a)) (.int .i64 b)
  exact bodyPost_ret (res_c2 (by decide) rfl _ rfl (by rw [cell_of_heap h4]; rfl) (by rw [cell_of_heap h4]; rfl)) rfl ⟨rfl, ((HX.out.2.setCell (p := ⟨b1, 0, none⟩) (Nat.le_refl _) _).setCell (p := ⟨b1, 1, none⟩) (Nat.le_refl _) _)⟩
theorem res_c4m {fn : Func} {u : Tmp} (h : fn.results = #[.cell u 111]) (tmps : Array Value) {w : World} {b : Nat} {x0 x1 x2 x3 : Value} (hp : tmps.getD u undef = .pointer (some ⟨b, 0, none⟩)) (hq : w.heap[b]? = some (.cells #[x0, x1, x2, x3] 111 (0, 0))) :
    (results fn tmps).run Try.prog w = .ok (.agg #[x0, x1, x2, x3]) w := by
  have hp' : tmps[u]?.getD undef = .pointer (some ⟨b, 0, none⟩) := by simpa using hp
  have h0 : w.cell? ⟨b, 0, none⟩ = some x0 := by rw [cell_of_heap hq]; rfl
  have h1 : w.cell? ⟨b, 1, none⟩ = some x1 := by rw [cell_of_heap hq]; rfl
  have h2 : w.cell? ⟨b, 2, none⟩ = some x2 := by rw [cell_of_heap hq]; rfl
  have h3 : w.cell? ⟨b, 3, none⟩ = some x3 := by rw [cell_of_heap hq]; rfl
  simp [results, h, hp', h0, h1, h2, h3, go_sem]
set_option maxHeartbeats 1000000 in
theorem mark48 {a b c d : Int} {w : World} : Calls Try.prog 48 #[.int .i64 a, .int .i64 b, .int .i64 c, .int .i64 d] w fun e w' => e = .returned (.agg (mrkE a b c d).arr) ∧ Below w.heap.size w w' := by
  have HX := Lib.hid (And.intro (World.alloc_heap_new w (.cells #[.int .i64 0, .int .i64 0, .int .i64 0, .int .i64 0] 111)) (alloc_below w (.cells #[.int .i64 0, .int .i64 0, .int .i64 0, .int .i64 0] 111)))
  go_enter Try.func48, Try.ntmps48
  refine wp_seq_hid ?_
  intro K0 HK0
  go_wp2_with fail
  refine HK0.out _ _ ?_
  clear HK0 K0
  revert HX
  generalize w.alloc (.cells #[.int .i64 0, .int .i64 0, .int .i64 0, .int .i64 0] 111) = w1
  generalize hb : w.heap.size = b1
  intro HX
  have HLT : Hid (b1 ≤ w1.heap.size) := Nat.le_of_lt (heap_lt HX.out.1)
  clear hb
  refine wp_seq_hid ?_
  intro K1 HK1
  go_wp2_with fail
  refine span13.mono ?_
  rintro e w2 ⟨rfl, hb2⟩
  have HB2 := Lib.hid hb2
  clear hb2
  go_wp2_with fail
  refine span13.mono ?_
  rintro e w3 ⟨rfl, hb3⟩
  have HB := Lib.hid (HB2.out.trans (hb3.mono HB2.out.size))
  clear hb3 HB2
  have hq := (HB.out.block _ (heap_lt HX.out.1)).trans HX.out.1
  have HQ := Lib.hid hq
  have s0 : w3.cell? ⟨b1, 0, none⟩ = some (.int .i64 0) := by rw [cell_of_heap hq]; rfl
  have s1 : w3.cell? ⟨b1, 1, none⟩ = some (.int .i64 0) := by rw [cell_of_heap hq]; rfl
  have s2 : w3.cell? ⟨b1, 2, none⟩ = some (.int .i64 0) := by rw [cell_of_heap hq]; rfl
  have s3 : w3.cell? ⟨b1, 3, none⟩ = some (.int .i64 0) := by rw [cell_of_heap hq]; rfl
  have f0 : ∀ k, w3.frozen? ⟨b1, k, none⟩ = false := fun k => frozen_of_heap hq
  clear hq
  go_wp2_with fail
  refine HK1.out _ _ ?_
  go_wp2_with fail
  have h4 := heap_setCell_at (k := 3) (heap_setCell_at (k := 2) (heap_setCell_at (k := 1) (heap_setCell_at (k := 0) HQ.out (.int .i64 a)) (.int .i64 b)) (.int .i64 c)) (.int .i64 d)
  have hb := HX.out.2.trans (HB.out.mono HLT.out)
  exact bodyPost_ret (res_c4m rfl _ rfl h4) rfl ⟨rfl, (((hb.setCell (p := ⟨b1, 0, none⟩) (Nat.le_refl _) _).setCell (p := ⟨b1, 1, none⟩) (Nat.le_refl _) _).setCell (p := ⟨b1, 2, none⟩) (Nat.le_refl _) _).setCell (p := ⟨b1, 3, none⟩) (Nat.le_refl _) _⟩
end Go.Proofs.Ytbnhngfegnhaiaa
namespace Go.Proofs.Ytbnhngfegnhaiaa
open Go.RowKit
set_option linter.unusedVariables false
set_option linter.unusedSimpArgs false
theorem res_c5r {fn : Func} {u : Tmp} (h : fn.results = #[.cell u 77]) (tmps : Array Value) {w : World} {b : Nat} {x0 x1 x2 x3 x4 : Value} (hp : tmps.getD u undef = .pointer (some ⟨b, 0, none⟩)) (hq : w.heap[b]? = some (.cells #[x0, x1, x2, x3, x4] 77 (0, 0))) :
    (results fn tmps).run Try.prog w = .ok (.agg #[x0, x1, x2, x3, x4]) w := by
  have hp' : tmps[u]?.getD undef = .pointer (some ⟨b, 0, none⟩) := by simpa using hp
  have h0 : w.cell? ⟨b, 0, none⟩ = some x0 := by rw [cell_of_heap hq]; rfl
  have h1 : w.cell? ⟨b, 1, none⟩ = some x1 := by rw [cell_of_heap hq]; rfl
  have h2 : w.cell? ⟨b, 2, none⟩ = some x2 := by rw [cell_of_heap hq]; rfl
  have h3 : w.cell? ⟨b, 3, none⟩ = some x3 := by rw [cell_of_heap hq]; rfl
  have h4 : w.cell? ⟨b, 4, none⟩ = some x4 := by rw [cell_of_heap hq]; rfl
  simp [results, h, hp', h0, h1, h2, h3, h4, go_sem]
def marksA (l : List Mrk) : Array Value := (l.flatMap fun m => [.int .i64 m.pos.lo, .int .i64 m.pos.hi, .int .i64 m.tone.lo, .int .i64 m.tone.hi]).toArray
theorem marksA_at : ∀ (l : List Mrk) (i k : Nat) (v : Value), (gm l i).arr[k]? = some v → i < l.length → k < 4 → (l.flatMap fun m => [Value.int .i64 m.pos.lo, .int .i64 m.pos.hi, .int .i64 m.tone.lo, .int .i64 m.tone.hi])[i * 4 + k]? = some v
  | [], i, k, v, _, h, _ => by simp at h
  | m :: l, 0, k, v, h, _, hk => by
    rw [List.flatMap_cons, List.getElem?_append_left (by simp; omega)]
    obtain _ | _ | _ | _ | k := k
    · exact h
    · exact h
    · exact h
    · exact h
    · omega
  | m :: l, i + 1, k, v, h, hi, hk => by
    rw [List.flatMap_cons, List.getElem?_append_right (by simp; omega)]
    have e : (i + 1) * 4 + k - [Value.int .i64 m.pos.lo, .int .i64 m.pos.hi, .int .i64 m.tone.lo, .int .i64 m.tone.hi].length = i * 4 + k := by simp; omega
    rw [e]
    exact marksA_at l i k v h (by simpa using hi) hk
theorem marks_is {w : World} {b : Nat} {l : List Mrk} {ty : TypeId} (h : w.heap[b]? = some (.cells (marksA l) ty (0, 0))) : IsMks w (some ⟨b, 0, none⟩) l := fun i hi => by
  have hc : ∀ k v, (gm l i).arr[k]? = some v → k < 4 → w.cell? ⟨b, 0 + i * 4 + k, none⟩ = some v := fun k v hv hk => by
    rw [cell_of_heap h, Nat.zero_add]
    show (marksA l)[i * 4 + k]? = some v
    unfold marksA
    rw [List.getElem?_toArray]
    exact marksA_at l i k v hv hi hk
  exact ⟨b, 0, rfl, hc 0 _ rfl (by omega), hc 1 _ rfl (by omega), hc 2 _ rfl (by omega), hc 3 _ rfl (by omega)⟩
attribute [local go_sem] Oper.semAt_some
theorem cf48 (args : Array Value) (w : World) : (callFunc 48 args).run Try.prog w = .ok (.enter 48 args) w := by simp [callFunc, Try.func48, Try.f48, go_sem]
set_option maxRecDepth 100000 in
set_option maxHeartbeats 8000000 in
theorem rows34 {w : World} : Calls Try.prog 34 #[] w fun e w' => ∃ al ar, e = .returned (rows02.v al 3 ar 4) ∧ IsMks w' al rows02.left ∧ IsMks w' ar rows02.right ∧ Below w.heap.size w w' := by
  have cf := cf48
  have HX := Lib.hid (And.intro (World.alloc_heap_new w (.cells #[.slice none 0 0, .slice none 0 0, .int .i64 0, .int .i64 0, .int .i64 0] 77)) (alloc_below w (.cells #[.slice none 0 0, .slice none 0 0, .int .i64 0, .int .i64 0, .int .i64 0] 77)))
  go_enter Try.func34, Try.ntmps34
  refine wp_seq_hid ?_
  intro K0 HK0
  go_wp2_with fail
  refine HK0.out _ _ ?_
  clear HK0 K0
  revert HX
  generalize w.alloc (.cells #[.slice none 0 0, .slice none 0 0, .int .i64 0, .int .i64 0, .int .i64 0] 77) = w0
  generalize hb : w.heap.size = b0
  intro HX
  have HLT : Hid (b0 < w0.heap.size) := heap_lt HX.out.1
  clear hb
  refine wp_seq_hid ?_
  intro K1 HK1
  go_wp2_with fail
  refine HK1.out _ _ ?_
  clear HK1 K1
  refine wp_seq_hid ?_
  intro K2 HK2
  go_wp2_with fail
  refine mark48.mono ?_
  rintro e w1 ⟨rfl, hb1⟩
  have HB1 := Lib.hid (hb1)
  clear hb1
  go_wp2_with fail
  refine mark48.mono ?_
  rintro e w2 ⟨rfl, hb2⟩
  have HB2 := Lib.hid ((HB1.out.trans (hb2.mono HB1.out.size)))
  clear hb2 HB1
  go_wp2_with fail
  refine mark48.mono ?_
  rintro e w3 ⟨rfl, hb3⟩
  have HB3 := Lib.hid ((HB2.out.trans (hb3.mono HB2.out.size)))
  clear hb3 HB2
  go_wp2_with fail
  have HS : Hid ((w3.alloc (.cells (marksA rows02.left) 111)).heap[w3.heap.size]? = some (.cells (marksA rows02.left) 111 (0, 0)) ∧ Below w3.heap.size w3 (w3.alloc (.cells (marksA rows02.left) 111)) ∧ (w3.alloc (.cells (marksA rows02.left) 111)).heap.size = w3.heap.size + 1) := ⟨World.alloc_heap_new _ _, alloc_below _ _, by simp⟩
  change Calls Try.prog 48 _ (w3.alloc (.cells (marksA rows02.left) 111)) _
  revert HS
  generalize w3.alloc (.cells (marksA rows02.left) 111) = w4
  generalize hb3 : w3.heap.size = b3
  intro HS
  have HB3L : Hid (w0.heap.size ≤ b3) := by have h := HB3.out.size; rw [Hid]; omega
  have HB4 := Lib.hid (HB3.out.trans (by have h := HS.out.2.1; rw [← hb3] at h; exact h.mono HB3.out.size))
  have HL4 : Hid (b3 < w4.heap.size) := heap_lt HS.out.1
  clear hb3 HB3
  refine mark48.mono ?_
  rintro e w5 ⟨rfl, hb⟩
  have HC5 := Lib.hid hb
  clear hb
  go_wp2_with fail
  refine mark48.mono ?_
  rintro e w6 ⟨rfl, hb6⟩
  have HC6 := Lib.hid (HC5.out.trans (hb6.mono HC5.out.size))
  clear hb6 HC5
  go_wp2_with fail
  refine mark48.mono ?_
  rintro e w7 ⟨rfl, hb7⟩
  have HC7 := Lib.hid (HC6.out.trans (hb7.mono HC6.out.size))
  clear hb7 HC6
  go_wp2_with fail
  refine mark48.mono ?_
  rintro e w8 ⟨rfl, hb8⟩
  have HC8 := Lib.hid (HC7.out.trans (hb8.mono HC7.out.size))
  clear hb8 HC7
  go_wp2_with fail
  have HT : Hid ((w8.alloc (.cells (marksA rows02.right) 111)).heap[w8.heap.size]? = some (.cells (marksA rows02.right) 111 (0, 0)) ∧ Below w8.heap.size w8 (w8.alloc (.cells (marksA rows02.right) 111))) := ⟨World.alloc_heap_new _ _, alloc_below _ _⟩
  change Calls Try.prog 13 _ (w8.alloc (.cells (marksA rows02.right) 111)) _
  revert HT
  generalize w8.alloc (.cells (marksA rows02.right) 111) = w9
  generalize hb8 : w8.heap.size = b8
  intro HT
  have HB8L : Hid (w0.heap.size ≤ b8) := by have h := HC8.out.size; have h2 := HB4.out.size; rw [Hid]; omega
  have HC9 : Hid (Below w4.heap.size w4 w9) := HC8.out.trans (by have h := HT.out.2; rw [← hb8] at h; exact h.mono HC8.out.size)
  clear hb8 HC8
  refine span13.mono ?_
  rintro e w10 ⟨rfl, hb⟩
  have HC10 : Hid (Below w4.heap.size w4 w10) := HC9.out.trans (hb.mono HC9.out.size)
  have HR : Hid (w10.heap[b8]? = some (.cells (marksA rows02.right) 111 (0, 0))) := (hb.block _ (heap_lt HT.out.1)).trans HT.out.1
  have HQL : Hid (w10.heap[b3]? = some (.cells (marksA rows02.left) 111 (0, 0))) := (HC10.out.block _ (heap_lt HS.out.1)).trans HS.out.1
  have HB10 : Hid (Below w0.heap.size w0 w10) := HB4.out.trans (HC10.out.mono HB4.out.size)
  clear hb HC9 HC10 HT HS HB4
  have hq := (HB10.out.block _ (heap_lt HX.out.1)).trans HX.out.1
  have HQ := Lib.hid hq
  have s0 : w10.cell? ⟨b0, 0, none⟩ = some (.slice none 0 0) := by rw [cell_of_heap hq]; rfl
  have s1 : w10.cell? ⟨b0, 1, none⟩ = some (.slice none 0 0) := by rw [cell_of_heap hq]; rfl
  have s2 : w10.cell? ⟨b0, 2, none⟩ = some (.int .i64 0) := by rw [cell_of_heap hq]; rfl
  have s3 : w10.cell? ⟨b0, 3, none⟩ = some (.int .i64 0) := by rw [cell_of_heap hq]; rfl
  have s4 : w10.cell? ⟨b0, 4, none⟩ = some (.int .i64 0) := by rw [cell_of_heap hq]; rfl
  have f0 : ∀ k, w10.frozen? ⟨b0, k, none⟩ = false := fun k => frozen_of_heap hq
  clear hq
  go_wp2_with fail
  refine HK2.out _ _ ?_
  go_wp2_with fail
  have h4 := heap_setCell_at (k := 4) (heap_setCell_at (k := 3) (heap_setCell_at (k := 2) (heap_setCell_at (k := 1) (heap_setCell_at (k := 0) HQ.out (.slice (some ⟨b3, 0, none⟩) 3 3)) (.slice (some ⟨b8, 0, none⟩) 4 4)) (.int .i64 5)) (.int .i64 20)) (.int .i64 1)
  have hlt := HLT.out
  have hb3 : w0.heap.size ≤ b3 := HB3L.out
  have hb8 : w0.heap.size ≤ b8 := HB8L.out
  have hb := (((((HX.out.2.trans (HB10.out.mono (Nat.le_of_lt hlt))).setCell (p := ⟨b0, 0, none⟩) (Nat.le_refl _) (.slice (some ⟨b3, 0, none⟩) 3 3)).setCell (p := ⟨b0, 1, none⟩) (Nat.le_refl _) (.slice (some ⟨b8, 0, none⟩) 4 4)).setCell (p := ⟨b0, 2, none⟩) (Nat.le_refl _) (.int .i64 5)).setCell (p := ⟨b0, 3, none⟩) (Nat.le_refl _) (.int .i64 20)).setCell (p := ⟨b0, 4, none⟩) (Nat.le_refl _) (.int .i64 1)
  have hne : ∀ k x, k ≠ b0 → w10.heap[k]? = some x → (((((w10.setCell ⟨b0, 0, none⟩ (.slice (some ⟨b3, 0, none⟩) 3 3)).setCell ⟨b0, 1, none⟩ (.slice (some ⟨b8, 0, none⟩) 4 4)).setCell ⟨b0, 2, none⟩ (.int .i64 5)).setCell ⟨b0, 3, none⟩ (.int .i64 20)).setCell ⟨b0, 4, none⟩ (.int .i64 1)).heap[k]? = some x := fun k x hk h => by
    rw [Below.heap_setCell _ _ _ _ hk, Below.heap_setCell _ _ _ _ hk, Below.heap_setCell _ _ _ _ hk, Below.heap_setCell _ _ _ _ hk, Below.heap_setCell _ _ _ _ hk]
    exact h
  exact bodyPost_ret (res_c5r rfl _ rfl h4) rfl ⟨some ⟨b3, 0, none⟩, some ⟨b8, 0, none⟩, rfl, marks_is (hne _ _ (by omega) HQL.out), marks_is (hne _ _ (by omega) HR.out), hb⟩
end Go.Proofs.Ytbnhngfegnhaiaa
namespace Go.Proofs.Ytbnhngfegnhaiaa
open Go.RowKit
set_option linter.unusedVariables false
set_option linter.unusedSimpArgs false
theorem res_mid {fn : Func} {u : Tmp} {t : TypeId} {cs : List Value} {d : TypeDesc} {ty : TypeId} {fr : Nat × Nat} (h : fn.results = #[.cell u t]) (tmps : Array Value) {w : World} {b : Nat} (hp : tmps.getD u undef = .pointer (some ⟨b, 0, none⟩)) (hq : w.heap[b]? = some (.cells cs.toArray ty fr))
    (hu : Try.prog.underlying t = some d) (hd : d.isRow = true) (hi : (Try.prog.info? t).map (·.size) = some cs.length) : (results fn tmps).run Try.prog w = .ok (.agg cs.toArray) w :=
  res_cell h tmps hp (run_loadVar_mid (P := Try.prog) w b 0 t cs d (range_of hq) hu hd hi)
theorem there_of {w : World} {b n : Nat} {c : Array Value} {t : TypeId} (h : w.heap[b]? = some (.cells c t (0, 0))) (hn : n ≤ c.size) : w.there b 0 n := fun j hj => ⟨by
  rw [Nat.zero_add, cell_of_heap h]
  simp
  omega, frozen_of_heap h⟩
theorem info26 : (Try.prog.info? 26).map (·.size) = some 8 := by kernel_rfl
theorem info34 : (Try.prog.info? 34).map (·.size) = some 9 := by kernel_rfl
def pairL (p : Par) (a : Option Addr) (c : Nat) : List Value := [.int .i64 p.focal.lo, .int .i64 p.focal.hi, .int .i64 p.base.lo, .int .i64 p.base.hi, .int .i64 p.tilt, .int .i64 p.near, .int .i64 p.far, .slice a p.things.length c]
def thgL (t : Thg) : List Value := [.int .i64 t.left.x.lo, .int .i64 t.left.x.hi, .int .i64 t.left.y.lo, .int .i64 t.left.y.hi, .int .i64 t.right.x.lo, .int .i64 t.right.x.hi, .int .i64 t.right.y.lo, .int .i64 t.right.y.hi, .int .i64 t.far]
theorem pair_one (p : Par) (a : Option Addr) (c : Nat) : (pairL p a c).toArray.all (·.oneCell') = true := by simp [pairL, Value.oneCell']
theorem thg_one (t : Thg) : (thgL t).toArray.all (·.oneCell') = true := by simp [thgL, Value.oneCell']
set_option maxHeartbeats 4000000 in
theorem pair32 {w : World} : Calls Try.prog 32 #[] w fun e w' => e = .returned (pair02.v none 0) ∧ Below w.heap.size w w' := by
  have HX := Lib.hid (And.intro (World.alloc_heap_new w (.cells par0A 26)) (alloc_below w (.cells par0A 26)))
  go_enter Try.func32, Try.ntmps32
  refine wp_seq_hid ?_
  intro K0 HK0
  go_wp2_with fail
  refine HK0.out _ _ ?_
  clear HK0 K0
  change Code.wp Try.prog _ _ _ (w.alloc (.cells par0A 26))
  revert HX
  generalize w.alloc (.cells par0A 26) = w1
  generalize hb : w.heap.size = b1
  intro HX
  have HLT : Hid (b1 ≤ w1.heap.size) := Nat.le_of_lt (heap_lt HX.out.1)
  clear hb
  refine wp_seq_hid ?_
  intro K1 HK1
  go_wp2_with fail
  refine span13.mono ?_
  rintro e w2 ⟨rfl, hb2⟩
  have HB2 := Lib.hid hb2
  clear hb2
  go_wp2_with fail
  refine span13.mono ?_
  rintro e w3 ⟨rfl, hb3⟩
  have HB := Lib.hid (HB2.out.trans (hb3.mono HB2.out.size))
  clear hb3 HB2
  have HQ := Lib.hid ((HB.out.block _ (heap_lt HX.out.1)).trans HX.out.1)
  go_wp2_with (refine wpList_store_mid rfl 26 _ _ (by rfl) b1 0 (pairL pair02 none 0).toArray (by rfl) (by rfl) (there_of HQ.out (by decide)) info26 (pair_one _ _ _) ?_)
  refine HK1.out _ _ ?_
  go_wp2_with fail
  have h4 := heap_setCells_all (vs := pairL pair02 none 0) HQ.out (by decide)
  have hb := HX.out.2.trans (HB.out.mono HLT.out)
  exact bodyPost_ret (res_mid rfl _ rfl h4 Try.underlying26 rfl info26) rfl ⟨rfl, below_setCells (Nat.le_refl _) _ _ _ hb⟩
def thg0A : Array Value := #[.int .i64 0, .int .i64 0, .int .i64 0, .int .i64 0, .int .i64 0, .int .i64 0, .int .i64 0, .int .i64 0, .int .i64 0]
set_option maxHeartbeats 4000000 in
theorem thing30 {f a b c d e g j i : Int} {w : World} : Calls Try.prog 30 #[.int .i64 f, .int .i64 a, .int .i64 b, .int .i64 c, .int .i64 d, .int .i64 e, .int .i64 g, .int .i64 j, .int .i64 i] w fun en w' => en = .returned (thgE f a b c d e g j i).v ∧ Below w.heap.size w w' := by
  have HX := Lib.hid (And.intro (World.alloc_heap_new w (.cells thg0A 34)) (alloc_below w (.cells thg0A 34)))
  go_enter Try.func30, Try.ntmps30
  refine wp_seq_hid ?_
  intro K0 HK0
  go_wp2_with fail
  refine HK0.out _ _ ?_
  clear HK0 K0
  change Code.wp Try.prog _ _ _ (w.alloc (.cells thg0A 34))
  revert HX
  generalize w.alloc (.cells thg0A 34) = w1
  generalize hb : w.heap.size = b1
  intro HX
  have HLT : Hid (b1 ≤ w1.heap.size) := Nat.le_of_lt (heap_lt HX.out.1)
  clear hb
  refine wp_seq_hid ?_
  intro K1 HK1
  go_wp2_with fail
  refine span13.mono ?_
  rintro en w2 ⟨rfl, hb2⟩
  have HB2 := Lib.hid hb2
  clear hb2
  go_wp2_with fail
  refine span13.mono ?_
  rintro en w3 ⟨rfl, hb3⟩
  have HB3 := Lib.hid (HB2.out.trans (hb3.mono HB2.out.size))
  clear hb3 HB2
  go_wp2_with fail
  refine span13.mono ?_
  rintro en w4 ⟨rfl, hb4⟩
  have HB4 := Lib.hid (HB3.out.trans (hb4.mono HB3.out.size))
  clear hb4 HB3
  go_wp2_with fail
  refine span13.mono ?_
  rintro en w5 ⟨rfl, hb5⟩
  have HB := Lib.hid (HB4.out.trans (hb5.mono HB4.out.size))
  clear hb5 HB4
  have HQ := Lib.hid ((HB.out.block _ (heap_lt HX.out.1)).trans HX.out.1)
  go_wp2_with (refine wpList_store_mid rfl 34 _ _ (by rfl) b1 0 (thgL (thgE f a b c d e g j i)).toArray (by rfl) (by rfl) (there_of HQ.out (Nat.le_refl 9)) info34 (thg_one _) ?_)
  refine HK1.out _ _ ?_
  go_wp2_with fail
  have h4 := heap_setCells_all (vs := thgL (thgE f a b c d e g j i)) HQ.out (by rfl)
  have hb := HX.out.2.trans (HB.out.mono HLT.out)
  exact bodyPost_ret (res_mid rfl _ rfl h4 Try.underlying34 rfl info34) rfl ⟨rfl, below_setCells (Nat.le_refl _) _ _ _ hb⟩
end Go.Proofs.Ytbnhngfegnhaiaa
namespace Go.Proofs.Ytbnhngfegnhaiaa
open Go.RowKit
set_option linter.unusedVariables false
set_option linter.unusedSimpArgs false
theorem cf30 (args : Array Value) (w : World) : (callFunc 30 args).run Try.prog w = .ok (.enter 30 args) w := by simp [callFunc, Try.func30, Try.f30, go_sem]
attribute [local go_sem] Oper.semAt_some
structure vie2F (x : Int) (bx : Nat) (b4 : Nat) (S0 : World → Prop) (S1 : Unit → World → Prop) (S2 : Unit → Unit → World → Prop) (S3 : Unit → Unit → Nat → World → Prop) (S4 : Unit → Unit → Nat → World → Prop) (d : Nat → Bool) (x6 x7 x8 x9 x10 x11 x12 x13 : Value) (u : Unit) (u2 : Unit) (g : Nat) (w : World) : Prop where
  q1 : d 1 = true → d 0 = true
  q5 : d 5 = true → d 1 = true ∧ d 2 = true ∧ d 3 = true ∧ d 4 = true
  q6 : d 6 = true → d 1 = true ∧ d 5 = true
  q7 : d 7 = true → d 0 = true ∧ d 1 = true ∧ d 2 = true ∧ d 3 = true ∧ d 4 = true ∧ d 5 = true ∧ d 6 = true
  q8 : d 8 = true → d 0 = true ∧ d 1 = true ∧ d 2 = true ∧ d 3 = true ∧ d 4 = true ∧ d 5 = true ∧ d 6 = true ∧ d 7 = true
  f0 : d 0 = true → x6 = .func (.func 30) #[] #[]
  f1 : d 1 = true → x7 = .agg #[.int .i64 100, .int .i64 101, .int .i64 0, .int .i64 1, .int .i64 (-96), .int .i64 (-95), .int .i64 0, .int .i64 2, .int .i64 3000]
  f2 : d 2 = true → x8 = .func (.func 30) #[] #[]
  f3 : d 3 = true → x9 = .int .i64 x
  f4 : d 4 = true → x10 = .int .i64 x
  f5 : d 5 = true → x11 = .agg #[.int .i64 x, .int .i64 x, .int .i64 10, .int .i64 12, .int .i64 (-10), .int .i64 (-8), .int .i64 14, .int .i64 15, .int .i64 0]
  f6 : d 6 = true → x12 = .slice (some ⟨g, 0, none⟩) 2 2
  f7 : d 7 = true → x13 = .pointer (some ⟨b4, 7, none⟩)
  st0 : d 1 = false → S0 w
  st1 : d 1 = true → d 5 = false → S1 u w
  st2 : d 5 = true → d 6 = false → S2 u u2 w
  st3 : d 6 = true → d 8 = false → S3 u u2 g w
  st4 : d 8 = true → S4 u u2 g w
noncomputable def vie2C : Code := (Try.f31.body.bind (regionAt 2)).getD .skip
set_option maxRecDepth 100000 in
set_option maxHeartbeats 4000000 in
theorem vie2 {x : Int} {bx : Nat} {b4 : Nat} {S0 : World → Prop} {S1 : Unit → World → Prop} {S2 : Unit → Unit → World → Prop} {S3 : Unit → Unit → Nat → World → Prop} {S4 : Unit → Unit → Nat → World → Prop} {Q : Exit → Act → World → Prop} {W1 : World} (h0 : S0 W1.drew)
    (kl0 : Hid (∀ (w : World), (S0 w) → w.cell? ⟨bx, 0, none⟩ = some (.func (.func 30) #[] #[])))
    (kc1 : Hid (∀ (w : World), S0 w → Calls Try.prog 30 #[.int .i64 3000, .int .i64 100, .int .i64 101, .int .i64 0, .int .i64 1, .int .i64 (-96), .int .i64 (-95), .int .i64 0, .int .i64 2] w fun e w' => ∃ u : Unit, e = .returned (.agg #[.int .i64 100, .int .i64 101, .int .i64 0, .int .i64 1, .int .i64 (-96), .int .i64 (-95), .int .i64 0, .int .i64 2, .int .i64 3000]) ∧ S1 u w'))
    (kl2 : Hid (∀ (u : Unit) (w : World), (S0 w ∨ S1 u w) → w.cell? ⟨bx, 0, none⟩ = some (.func (.func 30) #[] #[])))
    (kc5 : Hid (∀ (u : Unit) (w : World), S1 u w → Calls Try.prog 30 #[.int .i64 0, .int .i64 x, .int .i64 x, .int .i64 10, .int .i64 12, .int .i64 (-10), .int .i64 (-8), .int .i64 14, .int .i64 15] w fun e w' => ∃ u2 : Unit, e = .returned (.agg #[.int .i64 x, .int .i64 x, .int .i64 10, .int .i64 12, .int .i64 (-10), .int .i64 (-8), .int .i64 14, .int .i64 15, .int .i64 0]) ∧ S2 u u2 w'))
    (kc6 : Hid (∀ (u : Unit) (u2 : Unit) (w : World), S2 u u2 w → S3 u u2 w.heap.size (w.alloc (.cells #[.int .i64 100, .int .i64 101, .int .i64 0, .int .i64 1, .int .i64 (-96), .int .i64 (-95), .int .i64 0, .int .i64 2, .int .i64 3000, .int .i64 x, .int .i64 x, .int .i64 10, .int .i64 12, .int .i64 (-10), .int .i64 (-8), .int .i64 14, .int .i64 15, .int .i64 0] 34))))
    (kc8 : Hid (∀ (u : Unit) (u2 : Unit) (g : Nat) (w : World), S3 u u2 g w → (∃ u, w.cell? ⟨b4, 7, none⟩ = some u) ∧ w.frozen? ⟨b4, 7, none⟩ = false ∧ S4 u u2 g (w.setCell ⟨b4, 7, none⟩ (.slice (some ⟨g, 0, none⟩) 2 2))))
    {s2 s3 s5 s6 s7 s8 s9 s10 s11 s12 s13 s14 : Value} {dd : List Deferred}
    (hQ : ∀ (u : Unit) (u2 : Unit) (g : Nat) (w' : World), S4 u u2 g w' → Q .normal { tmps := #[.int .i64 x, .pointer (some ⟨bx, 0, none⟩), s2, s3, .pointer (some ⟨b4, 0, none⟩), s5, .func (.func 30) #[] #[], .agg #[.int .i64 100, .int .i64 101, .int .i64 0, .int .i64 1, .int .i64 (-96), .int .i64 (-95), .int .i64 0, .int .i64 2, .int .i64 3000], .func (.func 30) #[] #[], .int .i64 x, .int .i64 x, .agg #[.int .i64 x, .int .i64 x, .int .i64 10, .int .i64 12, .int .i64 (-10), .int .i64 (-8), .int .i64 14, .int .i64 15, .int .i64 0], .slice (some ⟨g, 0, none⟩) 2 2, .pointer (some ⟨b4, 7, none⟩), s14], defers := dd } w') :
    Code.wpIn (wideAt none) 0 Try.prog vie2C Q { tmps := #[.int .i64 x, .pointer (some ⟨bx, 0, none⟩), s2, s3, .pointer (some ⟨b4, 0, none⟩), s5, s6, s7, s8, s9, s10, s11, s12, s13, s14], defers := dd } W1 := by
  have HQ := Lib.hid hQ
  clear hQ
  conv => arg 4; whnf
  refine wpIn_region_invG mixed (by kernel_rfl) (fun d_ a_ w' => ∃ (x6 : Value) (x7 : Value) (x8 : Value) (x9 : Value) (x10 : Value) (x11 : Value) (x12 : Value) (x13 : Value) (u : Unit) (u2 : Unit) (g : Nat), a_ = { tmps := #[.int .i64 x, .pointer (some ⟨bx, 0, none⟩), s2, s3, .pointer (some ⟨b4, 0, none⟩), s5, x6, x7, x8, x9, x10, x11, x12, x13, s14], defers := dd } ∧ vie2F x bx b4 S0 S1 S2 S3 S4 d_ x6 x7 x8 x9 x10 x11 x12 x13 u u2 g w') ?_ ?_ ?_
  · refine ⟨s6, s7, s8, s9, s10, s11, s12, s13, default, default, 0, rfl, ?_⟩
    constructor <;> first | rfl | (intro _; rfl) | (intro h; cases h; done) | (intro _; exact h0) | exact h0
  · refine ⟨?_, ?_, ?_, ?_, ?_, ?_, ?_, ?_, ?_, trivial⟩
    all_goals
      rintro d_ a_ w1 K hd_ hdep ⟨x6, x7, x8, x9, x10, x11, x12, x13, u, u2, g, rfl, F⟩ HK
      simp [Region.binds] at hdep
    · have hst : S0 w1 := by
        have n_ : d_ 1 = false := by
          cases e_ : d_ 1 with
          | false => rfl
          | true => have h2 := (F.q1 e_); rw [show d_ 0 = false from hd_] at h2; cases h2
        exact (F.st0 n_)
      have kk := kl0.out w1 hst
      clear hst
      have HF : Hid (vie2F x bx b4 S0 S1 S2 S3 S4 (upd d_ 0) (.func (.func 30) #[] #[]) x7 x8 x9 x10 x11 x12 x13 u u2 g w1) := ⟨fun h => rfl, F.q5, F.q6, fun h => andM0 (F.q7 h) rfl, fun h => andM0 (F.q8 h) rfl, fun _ => rfl, F.f1, F.f2, F.f3, F.f4, F.f5, F.f6, F.f7, F.st0, F.st1, F.st2, F.st3, F.st4⟩
      clear F
      go_simp
      exact HK.out _ _ ⟨_, _, _, _, _, _, _, _, _, _, _, rfl, HF.out⟩
    · have hS := F.st0  hd_
      obtain rfl := F.f0 (by simp [hdep])
      have hc := kc1.out w1 hS
      have HF := Lib.hid F
      clear F
      have cf := cf30
      go_simp
      refine ⟨trivial, rfl, wideAt_calls (hc.mono ?_)⟩
      rintro e w5 ⟨v_, rfl, hres⟩
      exact HK.out _ _ ⟨_, _, _, _, _, _, _, _, v_, u2, g, rfl, ⟨fun _ => (show _ from (by simp [hdep] : d_ 0 = true)), fun h => ⟨rfl, (HF.out.q5 h).2.1, (HF.out.q5 h).2.2.1, (HF.out.q5 h).2.2.2⟩, fun h => ⟨rfl, (HF.out.q6 h).2⟩, fun h => ⟨(HF.out.q7 h).1, rfl, (HF.out.q7 h).2.2.1, (HF.out.q7 h).2.2.2.1, (HF.out.q7 h).2.2.2.2.1, (HF.out.q7 h).2.2.2.2.2.1, (HF.out.q7 h).2.2.2.2.2.2⟩, fun h => ⟨(HF.out.q8 h).1, rfl, (HF.out.q8 h).2.2.1, (HF.out.q8 h).2.2.2.1, (HF.out.q8 h).2.2.2.2.1, (HF.out.q8 h).2.2.2.2.2.1, (HF.out.q8 h).2.2.2.2.2.2.1, (HF.out.q8 h).2.2.2.2.2.2.2⟩, HF.out.f0, fun _ => rfl, HF.out.f2, HF.out.f3, HF.out.f4, HF.out.f5, HF.out.f6, HF.out.f7, fun h => (by simp [upd] at h), fun _ _ => hres, fun h _ => (by have h2 : d_ 1 = true := (HF.out.q5 h).1; rw [show d_ 1 = false from hd_] at h2; cases h2), fun h _ => (by have h2 : d_ 1 = true := (HF.out.q6 h).1; rw [show d_ 1 = false from hd_] at h2; cases h2), fun h => (by have h2 : d_ 1 = true := (HF.out.q8 h).2.1; rw [show d_ 1 = false from hd_] at h2; cases h2)⟩⟩
    · have hst : S0 w1 ∨ S1 u w1 := by
        cases e1 : d_ 1 with
        | false => exact .inl ((F.st0 e1))
        | true =>
          have n_ : d_ 5 = false := by
            cases e_ : d_ 5 with
            | false => rfl
            | true => have h2 := (F.q5 e_).2.1; rw [show d_ 2 = false from hd_] at h2; cases h2
          exact .inr ((F.st1 e1 n_))
      have kk := kl2.out u w1 hst
      clear hst
      have HF : Hid (vie2F x bx b4 S0 S1 S2 S3 S4 (upd d_ 2) x6 x7 (.func (.func 30) #[] #[]) x9 x10 x11 x12 x13 u u2 g w1) := ⟨F.q1, fun h => andM1 (F.q5 h) rfl, F.q6, fun h => andM2 (F.q7 h) rfl, fun h => andM2 (F.q8 h) rfl, F.f0, F.f1, fun _ => rfl, F.f3, F.f4, F.f5, F.f6, F.f7, F.st0, F.st1, F.st2, F.st3, F.st4⟩
      clear F
      go_simp
      exact HK.out _ _ ⟨_, _, _, _, _, _, _, _, _, _, _, rfl, HF.out⟩
    · have HF : Hid (vie2F x bx b4 S0 S1 S2 S3 S4 (upd d_ 3) x6 x7 x8 (.int .i64 x) x10 x11 x12 x13 u u2 g w1) := ⟨F.q1, fun h => andM2 (F.q5 h) rfl, F.q6, fun h => andM3 (F.q7 h) rfl, fun h => andM3 (F.q8 h) rfl, F.f0, F.f1, F.f2, fun _ => rfl, F.f4, F.f5, F.f6, F.f7, F.st0, F.st1, F.st2, F.st3, F.st4⟩
      clear F
      go_simp
      exact HK.out _ _ ⟨_, _, _, _, _, _, _, _, _, _, _, rfl, HF.out⟩
    · have HF : Hid (vie2F x bx b4 S0 S1 S2 S3 S4 (upd d_ 4) x6 x7 x8 x9 (.int .i64 x) x11 x12 x13 u u2 g w1) := ⟨F.q1, fun h => andL3 (F.q5 h) rfl, F.q6, fun h => andM4 (F.q7 h) rfl, fun h => andM4 (F.q8 h) rfl, F.f0, F.f1, F.f2, F.f3, fun _ => rfl, F.f5, F.f6, F.f7, F.st0, F.st1, F.st2, F.st3, F.st4⟩
      clear F
      go_simp
      exact HK.out _ _ ⟨_, _, _, _, _, _, _, _, _, _, _, rfl, HF.out⟩
    · have hS := F.st1 (by simp [hdep] : d_ 1 = true) hd_
      obtain rfl := F.f2 (by simp [hdep])
      obtain rfl := F.f3 (by simp [hdep])
      obtain rfl := F.f4 (by simp [hdep])
      have hc := kc5.out u w1 hS
      have HF := Lib.hid F
      clear F
      have cf := cf30
      go_simp
      refine ⟨trivial, rfl, wideAt_calls (hc.mono ?_)⟩
      rintro e w5 ⟨v_, rfl, hres⟩
      exact HK.out _ _ ⟨_, _, _, _, _, _, _, _, u, v_, g, rfl, ⟨HF.out.q1, fun _ => ⟨(show _ from (by simp [hdep] : d_ 1 = true)), (show _ from (by simp [hdep] : d_ 2 = true)), (show _ from (by simp [hdep] : d_ 3 = true)), (show _ from (by simp [hdep] : d_ 4 = true))⟩, fun h => ⟨(HF.out.q6 h).1, rfl⟩, fun h => ⟨(HF.out.q7 h).1, (HF.out.q7 h).2.1, (HF.out.q7 h).2.2.1, (HF.out.q7 h).2.2.2.1, (HF.out.q7 h).2.2.2.2.1, rfl, (HF.out.q7 h).2.2.2.2.2.2⟩, fun h => ⟨(HF.out.q8 h).1, (HF.out.q8 h).2.1, (HF.out.q8 h).2.2.1, (HF.out.q8 h).2.2.2.1, (HF.out.q8 h).2.2.2.2.1, rfl, (HF.out.q8 h).2.2.2.2.2.2.1, (HF.out.q8 h).2.2.2.2.2.2.2⟩, HF.out.f0, HF.out.f1, HF.out.f2, HF.out.f3, HF.out.f4, fun _ => rfl, HF.out.f6, HF.out.f7, fun h => (by have h2 : d_ 1 = false := h; rw [(by simp [hdep] : d_ 1 = true)] at h2; cases h2), fun _ h => (by simp [upd] at h), fun _ _ => hres, fun h _ => (by have h2 : d_ 5 = true := (HF.out.q6 h).2; rw [show d_ 5 = false from hd_] at h2; cases h2), fun h => (by have h2 : d_ 5 = true := (HF.out.q8 h).2.2.2.2.2.1; rw [show d_ 5 = false from hd_] at h2; cases h2)⟩⟩
    · have hS := F.st2 (by simp [hdep] : d_ 5 = true) hd_
      obtain rfl := F.f1 (by simp [hdep])
      obtain rfl := F.f5 (by simp [hdep])
      have hres := kc6.out u u2 w1 hS
      have HF : Hid (vie2F x bx b4 S0 S1 S2 S3 S4 (upd d_ 6) x6 (.agg #[.int .i64 100, .int .i64 101, .int .i64 0, .int .i64 1, .int .i64 (-96), .int .i64 (-95), .int .i64 0, .int .i64 2, .int .i64 3000]) x8 x9 x10 (.agg #[.int .i64 x, .int .i64 x, .int .i64 10, .int .i64 12, .int .i64 (-10), .int .i64 (-8), .int .i64 14, .int .i64 15, .int .i64 0]) ((.slice (some ⟨w1.heap.size, 0, none⟩) 2 2)) x13 u u2 w1.heap.size (w1.alloc (.cells #[.int .i64 100, .int .i64 101, .int .i64 0, .int .i64 1, .int .i64 (-96), .int .i64 (-95), .int .i64 0, .int .i64 2, .int .i64 3000, .int .i64 x, .int .i64 x, .int .i64 10, .int .i64 12, .int .i64 (-10), .int .i64 (-8), .int .i64 14, .int .i64 15, .int .i64 0] 34))) := ⟨F.q1, F.q5, fun _ => ⟨(show _ from (by simp [hdep] : d_ 1 = true)), (show _ from (by simp [hdep] : d_ 5 = true))⟩, fun h => andL6 (F.q7 h) rfl, fun h => andM6 (F.q8 h) rfl, F.f0, F.f1, F.f2, F.f3, F.f4, F.f5, fun _ => rfl, F.f7, fun h => (by have h2 : d_ 1 = false := h; rw [(by simp [hdep] : d_ 1 = true)] at h2; cases h2), fun _ h => (by have h2 : d_ 5 = false := h; rw [(by simp [hdep] : d_ 5 = true)] at h2; cases h2), fun _ h => (by simp [upd] at h), fun _ _ => hres, fun h => (by have h2 : d_ 6 = true := (F.q8 h).2.2.2.2.2.2.1; rw [show d_ 6 = false from hd_] at h2; cases h2)⟩
      clear F hS hres
      go_simp
      exact HK.out _ _ ⟨_, _, _, _, _, _, _, _, _, _, _, rfl, HF.out⟩
    · have HF : Hid (vie2F x bx b4 S0 S1 S2 S3 S4 (upd d_ 7) x6 x7 x8 x9 x10 x11 x12 (.pointer (some ⟨b4, 7, none⟩)) u u2 g w1) := ⟨F.q1, F.q5, F.q6, fun _ => ⟨(show _ from (by simp [hdep] : d_ 0 = true)), (show _ from (by simp [hdep] : d_ 1 = true)), (show _ from (by simp [hdep] : d_ 2 = true)), (show _ from (by simp [hdep] : d_ 3 = true)), (show _ from (by simp [hdep] : d_ 4 = true)), (show _ from (by simp [hdep] : d_ 5 = true)), (show _ from (by simp [hdep] : d_ 6 = true))⟩, fun h => andL7 (F.q8 h) rfl, F.f0, F.f1, F.f2, F.f3, F.f4, F.f5, F.f6, fun _ => rfl, F.st0, F.st1, F.st2, F.st3, F.st4⟩
      clear F
      go_simp
      exact HK.out _ _ ⟨_, _, _, _, _, _, _, _, _, _, _, rfl, HF.out⟩
    · have hS := F.st3 (by simp [hdep] : d_ 6 = true) hd_
      obtain rfl := F.f6 (by simp [hdep])
      obtain rfl := F.f7 (by simp [hdep])
      obtain ⟨⟨ku0, kcell0⟩, kfr0, hres⟩ := kc8.out u u2 g w1 hS
      have HF : Hid (vie2F x bx b4 S0 S1 S2 S3 S4 (upd d_ 8) x6 x7 x8 x9 x10 x11 (.slice (some ⟨g, 0, none⟩) 2 2) (.pointer (some ⟨b4, 7, none⟩)) u u2 g (w1.setCell ⟨b4, 7, none⟩ (.slice (some ⟨g, 0, none⟩) 2 2))) := ⟨F.q1, F.q5, F.q6, F.q7, fun _ => ⟨(show _ from (by simp [hdep] : d_ 0 = true)), (show _ from (by simp [hdep] : d_ 1 = true)), (show _ from (by simp [hdep] : d_ 2 = true)), (show _ from (by simp [hdep] : d_ 3 = true)), (show _ from (by simp [hdep] : d_ 4 = true)), (show _ from (by simp [hdep] : d_ 5 = true)), (show _ from (by simp [hdep] : d_ 6 = true)), (show _ from (by simp [hdep] : d_ 7 = true))⟩, F.f0, F.f1, F.f2, F.f3, F.f4, F.f5, F.f6, F.f7, fun h => (by have h2 : d_ 1 = false := h; rw [(by simp [hdep] : d_ 1 = true)] at h2; cases h2), fun _ h => (by have h2 : d_ 5 = false := h; rw [(by simp [hdep] : d_ 5 = true)] at h2; cases h2), fun _ h => (by have h2 : d_ 6 = false := h; rw [(by simp [hdep] : d_ 6 = true)] at h2; cases h2), fun _ h => (by simp [upd] at h), fun _ => hres⟩
      clear F hS hres
      go_simp
      exact HK.out _ _ ⟨_, _, _, _, _, _, _, _, _, _, _, rfl, HF.out⟩
  · rintro d_ a_ w1 hall ⟨x6, x7, x8, x9, x10, x11, x12, x13, u, u2, g, rfl, F⟩
    have hall' : ∀ k, k < 9 → d_ k = true := hall
    obtain rfl := F.f0 (hall' 0 (by decide))
    obtain rfl := F.f1 (hall' 1 (by decide))
    obtain rfl := F.f2 (hall' 2 (by decide))
    obtain rfl := F.f3 (hall' 3 (by decide))
    obtain rfl := F.f4 (hall' 4 (by decide))
    obtain rfl := F.f5 (hall' 5 (by decide))
    obtain rfl := F.f6 (hall' 6 (by decide))
    obtain rfl := F.f7 (hall' 7 (by decide))
    have hst := F.st4 (hall' 8 (by decide))
    exact HQ.out u u2 g w1 hst
theorem heap_setCells_other {b k : Nat} (hk : k ≠ b) : ∀ (vs : List Value) (o : Nat) (w : World), (w.setCells b o vs).heap[k]? = w.heap[k]?
  | [], _, _ => rfl
  | v :: vs, o, w => by
    show ((w.setCell ⟨b, o, none⟩ v).setCells b (o + 1) vs).heap[k]? = _
    rw [heap_setCells_other hk vs (o + 1) _]
    exact Below.heap_setCell _ _ _ _ hk
theorem view_ths {w : World} {b : Nat} {x : Int} {ty : TypeId} (h : w.heap[b]? = some (.cells #[.int .i64 100, .int .i64 101, .int .i64 0, .int .i64 1, .int .i64 (-96), .int .i64 (-95), .int .i64 0, .int .i64 2, .int .i64 3000, .int .i64 x, .int .i64 x, .int .i64 10, .int .i64 12, .int .i64 (-10), .int .i64 (-8), .int .i64 14, .int .i64 15, .int .i64 0] ty (0, 0))) : IsThs w (some ⟨b, 0, none⟩) (view05 x).things := fun i hi => by
  have hi : i < 2 := hi
  refine ⟨b, 0, rfl, ?_⟩
  obtain _ | _ | i := i
  · refine ⟨?_, ?_, ?_, ?_, ?_, ?_, ?_, ?_, ?_⟩ <;> (rw [cell_of_heap h]; rfl)
  · refine ⟨?_, ?_, ?_, ?_, ?_, ?_, ?_, ?_, ?_⟩ <;> (rw [cell_of_heap h]; rfl)
  · omega
set_option maxRecDepth 100000 in
set_option maxHeartbeats 8000000 in
theorem view31 {x : Int} {bx : Nat} {w : World} (hbx : w.heap[bx]? = some (.cells #[.func (.func 30) #[] #[]] 70 (0, 0))) : Calls Try.prog 31 #[.int .i64 x, .pointer (some ⟨bx, 0, none⟩)] w fun e w' => ∃ a, e = .returned ((view05 x).v a 2) ∧ IsThs w' a (view05 x).things ∧ Below w.heap.size w w' ∧ ∃ g, a = some ⟨g, 0, none⟩ ∧ w.heap.size ≤ g := by
  have HBX := Lib.hid hbx
  have HX := Lib.hid (And.intro (World.alloc_heap_new w (.cells par0A 26)) (alloc_below w (.cells par0A 26)))
  clear hbx
  go_enter Try.func31, Try.ntmps31
  refine wp_seq_hid ?_
  intro K0 HK0
  go_wp2_with fail
  refine HK0.out _ _ ?_
  clear HK0 K0
  change Code.wp Try.prog _ _ _ (w.alloc (.cells par0A 26))
  revert HX
  generalize w.alloc (.cells par0A 26) = w1
  generalize hb : w.heap.size = b1
  intro HX
  have HB := Lib.hid hb
  have HLT : Hid (b1 < w1.heap.size) := (heap_lt HX.out.1)
  clear hb
  refine wp_seq_hid ?_
  intro K1 HK1
  go_wp2_with fail
  refine pair32.mono ?_
  rintro e w2 ⟨rfl, hb2⟩
  have HB2 := Lib.hid hb2
  clear hb2
  have HY := Lib.hid (And.intro (World.alloc_heap_new w2 (.cells (pair02.arr none 0) 26)) (alloc_below w2 (.cells (pair02.arr none 0) 26)))
  go_wp2_with fail
  refine HK1.out _ _ ?_
  clear HK1 K1
  change Code.wp Try.prog _ _ _ (w2.alloc (.cells (pair02.arr none 0) 26))
  revert HY
  generalize w2.alloc (.cells (pair02.arr none 0) 26) = w3
  generalize hb4 : w2.heap.size = b4
  intro HY
  have HB3 : Hid (Below w1.heap.size w1 w3) := HB2.out.trans (by have h := HY.out.2; rw [← hb4] at h; exact h.mono HB2.out.size)
  have HL4 : Hid (b1 < b4) := by have h1 := HLT.out; have h2 := HB2.out.size; rw [Hid]; omega
  clear hb4 HB2
  have HBX3 : Hid (w3.heap[bx]? = some (.cells #[.func (.func 30) #[] #[]] 70 (0, 0)) ∧ bx ≠ b1 ∧ bx < b1) := by
    have h1 := heap_lt HBX.out
    have h2 : bx < b1 := by rw [← HB.out]; exact h1
    have hb := HX.out.2.trans (HB3.out.mono (Nat.le_of_lt HLT.out))
    exact ⟨(hb.block _ h2).trans HBX.out, by omega, h2⟩
  refine wp_seq_hid ?_
  intro K2 HK2
  refine wpIn_wide.1 (vie2 (x := x) (bx := bx) (b4 := b4) (S0 := fun v => Below w3.heap.size w3 v) (S1 := fun _ v => Below w3.heap.size w3 v) (S2 := fun _ _ v => Below w3.heap.size w3 v)
    (S3 := fun _ _ g v => Below w3.heap.size w3 v ∧ w3.heap.size ≤ g ∧ v.heap[g]? = some (.cells #[.int .i64 100, .int .i64 101, .int .i64 0, .int .i64 1, .int .i64 (-96), .int .i64 (-95), .int .i64 0, .int .i64 2, .int .i64 3000, .int .i64 x, .int .i64 x, .int .i64 10, .int .i64 12, .int .i64 (-10), .int .i64 (-8), .int .i64 14, .int .i64 15, .int .i64 0] 34 (0, 0)))
    (S4 := fun _ _ g v => ∃ v', (Below w3.heap.size w3 v' ∧ w3.heap.size ≤ g ∧ v'.heap[g]? = some (.cells #[.int .i64 100, .int .i64 101, .int .i64 0, .int .i64 1, .int .i64 (-96), .int .i64 (-95), .int .i64 0, .int .i64 2, .int .i64 3000, .int .i64 x, .int .i64 x, .int .i64 10, .int .i64 12, .int .i64 (-10), .int .i64 (-8), .int .i64 14, .int .i64 15, .int .i64 0] 34 (0, 0))) ∧ v = v'.setCell ⟨b4, 7, none⟩ (.slice (some ⟨g, 0, none⟩) 2 2)) ?h0 ?l0 ?c1 ?l2 ?c5 ?c6 ?c8 ?hQ)
  case h0 => exact (Below.refl _ _).drew
  case l0 => exact fun v h => by rw [cell_of_heap ((h.block _ (heap_lt HBX3.out.1)).trans HBX3.out.1)]; rfl
  case l2 =>
    rintro u v (h | h)
    · rw [cell_of_heap ((h.block _ (heap_lt HBX3.out.1)).trans HBX3.out.1)]; rfl
    · rw [cell_of_heap ((h.block _ (heap_lt HBX3.out.1)).trans HBX3.out.1)]; rfl
  case c1 =>
    intro v h
    refine thing30.mono ?_
    rintro e v' ⟨rfl, hb⟩
    exact ⟨(), rfl, h.trans (hb.mono h.size)⟩
  case c5 =>
    intro u v h
    refine thing30.mono ?_
    rintro e v' ⟨rfl, hb⟩
    exact ⟨(), rfl, h.trans (hb.mono h.size)⟩
  case c6 => exact fun u u2 v h => ⟨h.trans ((alloc_below v _).mono h.size), h.size, World.alloc_heap_new _ _⟩
  case c8 =>
    intro u u2 g v h
    have e := (h.1.block _ (heap_lt HY.out.1)).trans HY.out.1
    exact ⟨⟨_, by rw [cell_of_heap e]; rfl⟩, frozen_of_heap e, v, h, rfl⟩
  case hQ =>
    rintro u u2 g v ⟨v', ⟨h1, h2, h3⟩, rfl⟩
    have hl4 := heap_lt HY.out.1
    have e4 := (h1.block _ hl4).trans HY.out.1
    have e5 := heap_setCell_at (k := 7) e4 (.slice (some ⟨g, 0, none⟩) 2 2)
    have hg : (v'.setCell ⟨b4, 7, none⟩ (.slice (some ⟨g, 0, none⟩) 2 2)).heap[g]? = some (.cells #[.int .i64 100, .int .i64 101, .int .i64 0, .int .i64 1, .int .i64 (-96), .int .i64 (-95), .int .i64 0, .int .i64 2, .int .i64 3000, .int .i64 x, .int .i64 x, .int .i64 10, .int .i64 12, .int .i64 (-10), .int .i64 (-8), .int .i64 14, .int .i64 15, .int .i64 0] 34 (0, 0)) := (Below.heap_setCell _ _ _ _ (show g ≠ b4 by omega)).trans h3
    have hl := HLT.out
    have hl2 := HL4.out
    have HG1 : Hid (b1 ≤ g) := by rw [Hid]; omega
    have hb0 : Below b1 w v' := HX.out.2.trans ((HB3.out.mono (Nat.le_of_lt hl)).trans (h1.mono (by omega)))
    have hb : Below b1 w (v'.setCell ⟨b4, 7, none⟩ (.slice (some ⟨g, 0, none⟩) 2 2)) := hb0.setCell (p := ⟨b4, 7, none⟩) (Nat.le_of_lt hl2) _
    have e1 : (v'.setCell ⟨b4, 7, none⟩ (.slice (some ⟨g, 0, none⟩) 2 2)).heap[b1]? = some (.cells par0A 26 (0, 0)) := by
      rw [Below.heap_setCell _ _ _ _ (show b1 ≠ b4 by omega)]
      exact ((HB3.out.trans (h1.mono (by have := HB3.out.size; omega))).block _ hl).trans HX.out.1
    have HZ := Lib.hid (And.intro e5 (And.intro hg (And.intro hb (And.intro e1 (show g ≠ b1 by omega)))))
    clear e4 e5 hg hb0 hb e1 h1 h2 h3
    refine HK2.out _ _ ?_
    clear HK2 K2
    revert HZ
    generalize v'.setCell ⟨b4, 7, none⟩ (.slice (some ⟨g, 0, none⟩) 2 2) = w5
    intro HZ
    refine wp_seq_hid ?_
    intro K3 HK3
    go_wp2_with (first | (refine wpList_load_mid rfl 26 _ (by rfl) b4 0 (by rfl) (pairL (view05 x) (some ⟨g, 0, none⟩) 2) _ (range_of HZ.out.1) Try.underlying26 rfl info26 ?_) | (refine wpList_store_mid rfl 26 _ _ (by rfl) b1 0 (pairL (view05 x) (some ⟨g, 0, none⟩) 2).toArray (by rfl) (by rfl) (there_of HZ.out.2.2.2.1 (Nat.le_refl 8)) info26 (pair_one _ _ _) ?_))
    refine HK3.out _ _ ?_
    go_wp2_with fail
    have h4 := heap_setCells_all (vs := pairL (view05 x) (some ⟨g, 0, none⟩) 2) HZ.out.2.2.2.1 (by rfl)
    have hbf := below_setCells (B := b1) (b := b1) (Nat.le_refl _) (pairL (view05 x) (some ⟨g, 0, none⟩) 2) 0 _ HZ.out.2.2.1
    have hgf := (heap_setCells_other HZ.out.2.2.2.2 (pairL (view05 x) (some ⟨g, 0, none⟩) 2) 0 w5).trans HZ.out.2.1
    exact bodyPost_ret (res_mid rfl _ rfl h4 Try.underlying26 rfl info26) rfl ⟨some ⟨g, 0, none⟩, rfl, view_ths hgf, hbf, g, rfl, HG1.out⟩
end Go.Proofs.Ytbnhngfegnhaiaa
namespace Go.Proofs.Ytbnhngfegnhaiaa
open Go.RowKit
set_option linter.unusedVariables false
set_option linter.unusedSimpArgs false
theorem cf31 (args : Array Value) (w : World) : (callFunc 31 args).run Try.prog w = .ok (.enter 31 args) w := by simp [callFunc, Try.func31, Try.f31, go_sem]
def gla0A : Array Value := #[.int .i64 0, .int .i64 0, .int .i64 0, .int .i64 0, .int .i64 0, .int .i64 0, .int .i64 0, .slice none 0 0, .int .i64 0, .int .i64 0, .int .i64 0, .int .i64 0, .int .i64 0, .int .i64 0, .int .i64 0, .slice none 0 0, .int .i64 0, .int .i64 0]
def glaL (g : Gla) (a1 : Option Addr) (c1 : Nat) (a2 : Option Addr) (c2 : Nat) : List Value := (g.arr a1 c1 a2 c2).toList
theorem gla_one (g : Gla) (a1 : Option Addr) (c1 : Nat) (a2 : Option Addr) (c2 : Nat) : (glaL g a1 c1 a2 c2).toArray.all (·.oneCell') = true := by simp [glaL, Value.oneCell']
theorem cell_kept {w w' : World} {b o : Nat} (h : w'.heap[b]? = w.heap[b]?) : w'.cell? ⟨b, o, none⟩ = w.cell? ⟨b, o, none⟩ := by
  simp [World.cell?, h]
theorem IsThs.kept {w w' : World} {g : Nat} {l : List Thg} (h : IsThs w (some ⟨g, 0, none⟩) l) (hb : w'.heap[g]? = w.heap[g]?) : IsThs w' (some ⟨g, 0, none⟩) l := fun i hi => by
  obtain ⟨b, off, e, c0, c1, c2, c3, c4, c5, c6, c7, c8⟩ := h i hi
  simp only [Option.some.injEq, Addr.mk.injEq] at e
  obtain ⟨rfl, rfl, _⟩ := e
  exact ⟨g, 0, rfl, (cell_kept hb).trans c0, (cell_kept hb).trans c1, (cell_kept hb).trans c2, (cell_kept hb).trans c3, (cell_kept hb).trans c4, (cell_kept hb).trans c5, (cell_kept hb).trans c6, (cell_kept hb).trans c7, (cell_kept hb).trans c8⟩
attribute [local go_sem] Oper.semAt_some
set_option maxRecDepth 100000 in
set_option maxHeartbeats 8000000 in
theorem glacier12 {w : World} : Calls Try.prog 12 #[] w fun e w' => ∃ a1 a2, e = .returned (glacier05.v a1 2 a2 2) ∧ IsThs w' a1 glacier05.first.things ∧ IsThs w' a2 glacier05.second.things ∧ Below w.heap.size w w' := by
  have hmf : ∀ (fn : Fn) (first cap : Array Value) (w : World), (Instr.makeFunc fn first cap).run Try.prog w = .ok (.func fn first cap) w := fun _ _ _ _ => rfl
  have cf := cf31
  have HX := Lib.hid (alloc2 w gla0A #[.func (.func 30) #[] #[]] 28 70)
  go_enter Try.func12, Try.ntmps12
  refine wp_seq_hid ?_
  intro K0 HK0
  go_wp2_with fail
  refine HK0.out _ _ ?_
  clear HK0 K0
  refine wp_seq_hid ?_
  intro K1 HK1
  go_wp2_with fail
  refine HK1.out _ _ ?_
  clear HK1 K1
  change Code.wp Try.prog _ _ _ ((w.alloc (.cells gla0A 28)).alloc (.cells #[.func (.func 30) #[] #[]] 70))
  revert HX
  generalize (w.alloc (.cells gla0A 28)).alloc (.cells #[.func (.func 30) #[] #[]] 70) = w1
  generalize hb0 : w.heap.size = b0
  intro HX
  have HLT : Hid (b0 + 1 < w1.heap.size) := (heap_lt HX.out.2.1)
  clear hb0
  refine wp_seq_hid ?_
  intro K2 HK2
  go_wp2_with fail
  refine HK2.out _ _ ?_
  clear HK2 K2
  refine wp_seq_hid ?_
  intro K3 HK3
  go_wp2_with fail
  refine (view31 HX.out.2.1).mono ?_
  rintro e w2 ⟨a1, rfl, h1, hb, hg1⟩
  have H1 := Lib.hid (And.intro h1 (And.intro hb hg1))
  clear h1 hb hg1
  go_wp2_with fail
  refine (view31 ((H1.out.2.1.block _ HLT.out).trans HX.out.2.1)).mono ?_
  rintro e w3 ⟨a2, rfl, h2, hb, hg2⟩
  have hq := H1.out.2.1.trans (hb.mono H1.out.2.1.size)
  have hz3 : ∃ g, a2 = some ⟨g, 0, none⟩ ∧ w1.heap.size ≤ g := by
    obtain ⟨g, e1, e2⟩ := hg2
    exact ⟨g, e1, Nat.le_trans H1.out.2.1.size e2⟩
  have H2 := Lib.hid (And.intro (H1.out.1.mono hb) (And.intro h2 (And.intro hq (And.intro ((hq.block _ (heap_lt HX.out.1)).trans HX.out.1) (And.intro H1.out.2.2 hz3)))))
  clear h2 hb hq H1 hg2 hz3
  go_wp2_with (refine wpList_store_mid rfl 28 _ _ (by rfl) b0 0 (glaL glacier05 a1 2 a2 2).toArray (by rfl) (by rfl) (there_of H2.out.2.2.2.1 (Nat.le_refl 18)) info28 (gla_one _ _ _ _ _) ?_)
  refine HK3.out _ _ ?_
  go_wp2_with fail
  have h4 := heap_setCells_all (vs := glaL glacier05 a1 2 a2 2) H2.out.2.2.2.1 (by rfl)
  have hlt := HLT.out
  have hb := below_setCells (B := b0) (b := b0) (Nat.le_refl _) (glaL glacier05 a1 2 a2 2) 0 _ (HX.out.2.2.trans (H2.out.2.2.1.mono (by omega)))
  obtain ⟨g1, hg1, hg2⟩ := H2.out.2.2.2.2.1
  obtain ⟨g3, hg3, hg4⟩ := H2.out.2.2.2.2.2
  subst hg1 hg3
  exact bodyPost_ret (res_mid rfl _ rfl h4 Try.underlying28 rfl info28) rfl ⟨some ⟨g1, 0, none⟩, some ⟨g3, 0, none⟩, rfl, H2.out.1.kept (heap_setCells_other (by omega) _ _ _), H2.out.2.1.kept (heap_setCells_other (by omega) _ _ _), hb⟩
end Go.Proofs.Ytbnhngfegnhaiaa
