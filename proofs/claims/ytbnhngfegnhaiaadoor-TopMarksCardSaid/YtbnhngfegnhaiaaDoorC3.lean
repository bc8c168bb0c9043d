/- What two marks must have in common. Do two marks break a rule? Do two marks fit? Rows that are looked at. The most pairs: the table. The most pairs. -/
import Derived.Test.YtbnhngfegnhaiaaDoorC2
namespace Go.Proofs.YtbnhngfegnhaiaaDoor
open Go.RowKit
set_option linter.unusedVariables false
set_option linter.unusedSimpArgs false
theorem cf63 (args : Array Value) (w : World) : (callFunc 93 args).run Tryd.prog w = .ok (.enter 93 args) w := by simp [callFunc, Tryd.func93, Tryd.f93, go_sem]
theorem cf64 (args : Array Value) (w : World) : (callFunc 94 args).run Tryd.prog w = .ok (.enter 94 args) w := by simp [callFunc, Tryd.func94, Tryd.f94, go_sem]
theorem cf65 (args : Array Value) (w : World) : (callFunc 95 args).run Tryd.prog w = .ok (.enter 95 args) w := by simp [callFunc, Tryd.func95, Tryd.f95, go_sem]
theorem cf67 (args : Array Value) (w : World) : (callFunc 97 args).run Tryd.prog w = .ok (.enter 97 args) w := by simp [callFunc, Tryd.func97, Tryd.f97, go_sem]
set_option maxRecDepth 100000 in
set_option maxHeartbeats 2000000 in
theorem both68 (a b : Spn) (w : World) : Calls Tryd.prog 78 #[a.v, b.v] w fun e w' => e = .returned (a.cut b).v ∧ Below w.heap.size w w' := by
  have HX := Lib.hid (alloc3 w a.arr b.arr #[.int .i64 0, .int .i64 0] 24 24 24 _ rfl)
  go_enter Tryd.func78, Tryd.ntmps78
  refine wp_seq_hid ?_
  intro K0 HK0
  go_wp2_with fail
  refine HK0.out _ _ ?_
  clear HK0 K0
  revert HX
  generalize (((w.alloc (.cells a.arr 24)).alloc (.cells b.arr 24)).alloc (.cells #[.int .i64 0, .int .i64 0] 24)) = w1
  intro HX
  have b0_0 : w1.cell? ⟨w.heap.size, 0, none⟩ = some (.int .i64 a.lo) := by rw [cell_of_heap HX.out.1]; rfl
  have b0_1 : w1.cell? ⟨w.heap.size, 1, none⟩ = some (.int .i64 a.hi) := by rw [cell_of_heap HX.out.1]; rfl
  have b1_0 : w1.cell? ⟨w.heap.size + 1, 0, none⟩ = some (.int .i64 b.lo) := by rw [cell_of_heap HX.out.2.1]; rfl
  have b1_1 : w1.cell? ⟨w.heap.size + 1, 1, none⟩ = some (.int .i64 b.hi) := by rw [cell_of_heap HX.out.2.1]; rfl
  have HR := Lib.hid HX.out.2.2.1
  have y0 : w1.cell? ⟨w.heap.size + 2, 0, none⟩ = some (.int .i64 0) := by rw [cell_of_heap HR.out]; rfl
  have y1 : w1.cell? ⟨w.heap.size + 2, 1, none⟩ = some (.int .i64 0) := by rw [cell_of_heap HR.out]; rfl
  have f0 : ∀ k, w1.frozen? ⟨w.heap.size + 2, k, none⟩ = false := fun k => frozen_of_heap HR.out
  go_wp2_with fail
  have h4 := (heap_setCell_at (k := 1) (heap_setCell_at (k := 0) HR.out (.int .i64 (max a.lo b.lo))) (.int .i64 (min a.hi b.hi)))
  exact bodyPost_ret (res_c2 (by decide) rfl _ rfl (by rw [cell_of_heap h4]; rfl) (by rw [cell_of_heap h4]; rfl)) rfl ⟨rfl, ((HX.out.2.2.2.setCell (p := ⟨w.heap.size + 2, _, none⟩) (by show w.heap.size ≤ w.heap.size + 2; omega) _).setCell (p := ⟨w.heap.size + 2, _, none⟩) (by show w.heap.size ≤ w.heap.size + 2; omega) _)⟩
set_option maxRecDepth 100000 in
set_option maxHeartbeats 2000000 in
theorem tone63 (m : Mrk) (w : World) : Calls Tryd.prog 93 #[m.v] w fun e w' => e = .returned m.tone.v ∧ Below w.heap.size w w' := by
  have HX := Lib.hid (alloc2 w m.arr #[.int .i64 0, .int .i64 0] 30 24)
  go_enter Tryd.func93, Tryd.ntmps93
  refine wp_seq_hid ?_
  intro K0 HK0
  go_wp2_with fail
  refine HK0.out _ _ ?_
  clear HK0 K0
  revert HX
  generalize ((w.alloc (.cells m.arr 30)).alloc (.cells #[.int .i64 0, .int .i64 0] 24)) = w1
  intro HX
  have k0 : w1.cell? ⟨w.heap.size, 2, none⟩ = some (.int .i64 m.tone.lo) := by rw [cell_of_heap HX.out.1]; rfl
  have k1 : w1.cell? ⟨w.heap.size, 3, none⟩ = some (.int .i64 m.tone.hi) := by rw [cell_of_heap HX.out.1]; rfl
  have HR := Lib.hid HX.out.2.1
  have y0 : w1.cell? ⟨w.heap.size + 1, 0, none⟩ = some (.int .i64 0) := by rw [cell_of_heap HR.out]; rfl
  have y1 : w1.cell? ⟨w.heap.size + 1, 1, none⟩ = some (.int .i64 0) := by rw [cell_of_heap HR.out]; rfl
  have f0 : ∀ k, w1.frozen? ⟨w.heap.size + 1, k, none⟩ = false := fun k => frozen_of_heap HR.out
  go_wp2_with fail
  have h4 := (heap_setCell_at (k := 1) (heap_setCell_at (k := 0) HR.out (.int .i64 m.tone.lo)) (.int .i64 m.tone.hi))
  exact bodyPost_ret (res_c2 (by decide) rfl _ rfl (by rw [cell_of_heap h4]; rfl) (by rw [cell_of_heap h4]; rfl)) rfl ⟨rfl, ((HX.out.2.2.setCell (p := ⟨w.heap.size + 1, _, none⟩) (by show w.heap.size ≤ w.heap.size + 1; omega) _).setCell (p := ⟨w.heap.size + 1, _, none⟩) (by show w.heap.size ≤ w.heap.size + 1; omega) _)⟩
set_option maxRecDepth 100000 in
set_option maxHeartbeats 2000000 in
theorem pos65 (m : Mrk) (w : World) : Calls Tryd.prog 95 #[m.v] w fun e w' => e = .returned m.pos.v ∧ Below w.heap.size w w' := by
  have HX := Lib.hid (alloc2 w m.arr #[.int .i64 0, .int .i64 0] 30 24)
  go_enter Tryd.func95, Tryd.ntmps95
  refine wp_seq_hid ?_
  intro K0 HK0
  go_wp2_with fail
  refine HK0.out _ _ ?_
  clear HK0 K0
  revert HX
  generalize ((w.alloc (.cells m.arr 30)).alloc (.cells #[.int .i64 0, .int .i64 0] 24)) = w1
  intro HX
  have k0 : w1.cell? ⟨w.heap.size, 0, none⟩ = some (.int .i64 m.pos.lo) := by rw [cell_of_heap HX.out.1]; rfl
  have k1 : w1.cell? ⟨w.heap.size, 1, none⟩ = some (.int .i64 m.pos.hi) := by rw [cell_of_heap HX.out.1]; rfl
  have HR := Lib.hid HX.out.2.1
  have y0 : w1.cell? ⟨w.heap.size + 1, 0, none⟩ = some (.int .i64 0) := by rw [cell_of_heap HR.out]; rfl
  have y1 : w1.cell? ⟨w.heap.size + 1, 1, none⟩ = some (.int .i64 0) := by rw [cell_of_heap HR.out]; rfl
  have f0 : ∀ k, w1.frozen? ⟨w.heap.size + 1, k, none⟩ = false := fun k => frozen_of_heap HR.out
  go_wp2_with fail
  have h4 := (heap_setCell_at (k := 1) (heap_setCell_at (k := 0) HR.out (.int .i64 m.pos.lo)) (.int .i64 m.pos.hi))
  exact bodyPost_ret (res_c2 (by decide) rfl _ rfl (by rw [cell_of_heap h4]; rfl) (by rw [cell_of_heap h4]; rfl)) rfl ⟨rfl, ((HX.out.2.2.setCell (p := ⟨w.heap.size + 1, _, none⟩) (by show w.heap.size ≤ w.heap.size + 1; omega) _).setCell (p := ⟨w.heap.size + 1, _, none⟩) (by show w.heap.size ≤ w.heap.size + 1; omega) _)⟩
set_option maxRecDepth 100000 in
set_option maxHeartbeats 2000000 in
theorem away64 {r : Rws} {m : Mrk} {al ar : Option Addr} {cl cr bx : Nat} {w : World} (hm : m.Sm) (hr : r.Nums) (hx : w.heap[bx]? = some (.cells (r.arr al cl ar cr) 26 (0, 0))) : Calls Tryd.prog 94 #[m.v, .pointer (some ⟨bx, 0, none⟩)] w fun e w' => e = .returned (r.away m).v ∧ Below w.heap.size w w' := by
  have x1 : IntKind.i64.wrap (m.pos.lo - r.shift.hi) = m.pos.lo - r.shift.hi := IntWalk.i64_in _ (by have := hm.a; have := hr.s1; have := hr.s2; have := hr.s3; omega)
  have x2 : IntKind.i64.wrap (m.pos.hi - r.shift.lo) = m.pos.hi - r.shift.lo := IntWalk.i64_in _ (by have := hm.b; have := hr.s1; have := hr.s2; have := hr.s3; omega)
  have HX := Lib.hid (alloc2 w m.arr #[.int .i64 0, .int .i64 0] 30 24)
  have HQ := Lib.hid ((HX.out.2.2.block _ (heap_lt hx)).trans hx)
  clear hm hr hx
  go_enter Tryd.func94, Tryd.ntmps94
  refine wp_seq_hid ?_
  intro K0 HK0
  go_wp2_with fail
  refine HK0.out _ _ ?_
  clear HK0 K0
  revert HX HQ
  generalize ((w.alloc (.cells m.arr 30)).alloc (.cells #[.int .i64 0, .int .i64 0] 24)) = w1
  intro HX HQ
  have k0 : w1.cell? ⟨w.heap.size, 0, none⟩ = some (.int .i64 m.pos.lo) := by rw [cell_of_heap HX.out.1]; rfl
  have k1 : w1.cell? ⟨w.heap.size, 1, none⟩ = some (.int .i64 m.pos.hi) := by rw [cell_of_heap HX.out.1]; rfl
  have k2 : w1.cell? ⟨bx, 2, none⟩ = some (.int .i64 r.shift.lo) := by rw [cell_of_heap HQ.out]; rfl
  have k3 : w1.cell? ⟨bx, 3, none⟩ = some (.int .i64 r.shift.hi) := by rw [cell_of_heap HQ.out]; rfl
  have HR := Lib.hid HX.out.2.1
  have y0 : w1.cell? ⟨w.heap.size + 1, 0, none⟩ = some (.int .i64 0) := by rw [cell_of_heap HR.out]; rfl
  have y1 : w1.cell? ⟨w.heap.size + 1, 1, none⟩ = some (.int .i64 0) := by rw [cell_of_heap HR.out]; rfl
  have f0 : ∀ k, w1.frozen? ⟨w.heap.size + 1, k, none⟩ = false := fun k => frozen_of_heap HR.out
  go_wp2_with fail
  have h4 := (heap_setCell_at (k := 1) (heap_setCell_at (k := 0) HR.out (.int .i64 (m.pos.lo - r.shift.hi))) (.int .i64 (m.pos.hi - r.shift.lo)))
  exact bodyPost_ret (res_c2 (by decide) rfl _ rfl (by rw [cell_of_heap h4]; rfl) (by rw [cell_of_heap h4]; rfl)) rfl ⟨rfl, ((HX.out.2.2.setCell (p := ⟨w.heap.size + 1, _, none⟩) (by show w.heap.size ≤ w.heap.size + 1; omega) _).setCell (p := ⟨w.heap.size + 1, _, none⟩) (by show w.heap.size ≤ w.heap.size + 1; omega) _)⟩
structure rul0F (b3 : Nat) (ba : Nat) (bb : Nat) (bx : Nat) (t0 : Int) (t1 : Int) (t2 : Int) (t3 : Int) (u0 : Int) (u1 : Int) (u2 : Int) (u3 : Int) (x1 : Int) (y1 : Int) (x2 : Int) (y2 : Int) (z1 : Int) (z2 : Int) (S0 : Bool → Nat → World → Prop) (S1 : Bool → Nat → Unit → World → Prop) (S2 : Bool → Nat → Unit → Unit → World → Prop) (S3 : Bool → Nat → Unit → Unit → Unit → World → Prop) (S4 : Bool → Nat → Unit → Unit → Unit → World → Prop) (d : Nat → Bool) (x6 x7 x8 x9 x10 x11 x12 x13 x14 x5 : Value) (ms : Nat) (v1 : Unit) (v2 : Unit) (v3 : Unit) (w : World) : Prop where
  q1 : d 1 = true → d 0 = true
  q3 : d 3 = true → d 1 = true ∧ d 2 = true
  q5 : d 5 = true → d 4 = true
  q7 : d 7 = true → d 3 = true ∧ d 5 = true ∧ d 6 = true
  q8 : d 8 = true → d 3 = true ∧ d 7 = true
  q10 : d 10 = true → d 0 = true ∧ d 1 = true ∧ d 2 = true ∧ d 3 = true ∧ d 4 = true ∧ d 5 = true ∧ d 6 = true ∧ d 7 = true ∧ d 8 = true ∧ d 9 = true
  f0 : d 0 = true → x6 = .pointer (some ⟨b3, 0, none⟩)
  f1 : d 1 = true → x7 = .func (.func 93) #[] #[]
  f2 : d 2 = true → x8 = .agg #[.int .i64 t0, .int .i64 t1, .int .i64 t2, .int .i64 t3]
  f3 : d 3 = true → x9 = .agg #[.int .i64 x1, .int .i64 y1]
  f4 : d 4 = true → x10 = .pointer (some ⟨b3, 1, none⟩)
  f5 : d 5 = true → x11 = .func (.func 93) #[] #[]
  f6 : d 6 = true → x12 = .agg #[.int .i64 u0, .int .i64 u1, .int .i64 u2, .int .i64 u3]
  f7 : d 7 = true → x13 = .agg #[.int .i64 x2, .int .i64 y2]
  f8 : d 8 = true → x14 = .agg #[.int .i64 z1, .int .i64 z2]
  f9 : d 9 = true → x5 = .pointer (some ⟨ms, 0, none⟩)
  st0 : d 3 = false → S0 (d 9) ms w
  st1 : d 3 = true → d 7 = false → S1 (d 9) ms v1 w
  st2 : d 7 = true → d 8 = false → S2 (d 9) ms v1 v2 w
  st3 : d 8 = true → d 10 = false → S3 (d 9) ms v1 v2 v3 w
  st4 : d 10 = true → S4 (d 9) ms v1 v2 v3 w
  mz : d 9 = false → ms = 0
noncomputable def rul0C : Code := (Tryd.f97.body.bind (regionAt 1)).getD .skip
set_option maxRecDepth 100000 in
set_option maxHeartbeats 4000000 in
theorem rul0 {b3 : Nat} {ba : Nat} {bb : Nat} {bx : Nat} {t0 : Int} {t1 : Int} {t2 : Int} {t3 : Int} {u0 : Int} {u1 : Int} {u2 : Int} {u3 : Int} {x1 : Int} {y1 : Int} {x2 : Int} {y2 : Int} {z1 : Int} {z2 : Int} {S0 : Bool → Nat → World → Prop} {S1 : Bool → Nat → Unit → World → Prop} {S2 : Bool → Nat → Unit → Unit → World → Prop} {S3 : Bool → Nat → Unit → Unit → Unit → World → Prop} {S4 : Bool → Nat → Unit → Unit → Unit → World → Prop} {Q : Exit → Act → World → Prop} {W1 : World} (h0 : S0 false 0 W1.drew)
    (kl1 : Hid (∀ (fs : Bool) (ms : Nat) (w : World), (S0 fs ms w) → w.cell? ⟨b3, 0, none⟩ = some (.func (.func 93) #[] #[])))
    (kl2 : Hid (∀ (fs : Bool) (ms : Nat) (w : World), (S0 fs ms w) → w.cell? ⟨ba, 0, none⟩ = some (.int .i64 t0) ∧ w.cell? ⟨ba, 1, none⟩ = some (.int .i64 t1) ∧ w.cell? ⟨ba, 2, none⟩ = some (.int .i64 t2) ∧ w.cell? ⟨ba, 3, none⟩ = some (.int .i64 t3)))
    (kc3 : Hid (∀ (fs : Bool) (ms : Nat) (w : World), S0 fs ms w → Calls Tryd.prog 93 #[.agg #[.int .i64 t0, .int .i64 t1, .int .i64 t2, .int .i64 t3]] w fun e w' => ∃ v1 : Unit, e = .returned (.agg #[.int .i64 x1, .int .i64 y1]) ∧ S1 fs ms v1 w'))
    (kl5 : Hid (∀ (fs : Bool) (ms : Nat) (v1 : Unit) (w : World), (S0 fs ms w ∨ S1 fs ms v1 w) → w.cell? ⟨b3, 1, none⟩ = some (.func (.func 93) #[] #[])))
    (kl6 : Hid (∀ (fs : Bool) (ms : Nat) (v1 : Unit) (w : World), (S0 fs ms w ∨ S1 fs ms v1 w) → w.cell? ⟨bb, 0, none⟩ = some (.int .i64 u0) ∧ w.cell? ⟨bb, 1, none⟩ = some (.int .i64 u1) ∧ w.cell? ⟨bb, 2, none⟩ = some (.int .i64 u2) ∧ w.cell? ⟨bb, 3, none⟩ = some (.int .i64 u3)))
    (kc7 : Hid (∀ (fs : Bool) (ms : Nat) (v1 : Unit) (w : World), S1 fs ms v1 w → Calls Tryd.prog 93 #[.agg #[.int .i64 u0, .int .i64 u1, .int .i64 u2, .int .i64 u3]] w fun e w' => ∃ v2 : Unit, e = .returned (.agg #[.int .i64 x2, .int .i64 y2]) ∧ S2 fs ms v1 v2 w'))
    (kc8 : Hid (∀ (fs : Bool) (ms : Nat) (v1 : Unit) (v2 : Unit) (w : World), S2 fs ms v1 v2 w → Calls Tryd.prog 78 #[.agg #[.int .i64 x1, .int .i64 y1], .agg #[.int .i64 x2, .int .i64 y2]] w fun e w' => ∃ v3 : Unit, e = .returned (.agg #[.int .i64 z1, .int .i64 z2]) ∧ S3 fs ms v1 v2 v3 w'))
    (ks0 : Hid (∀ (w : World), S0 false 0 w → S0 true w.heap.size (w.alloc (.cells #[.int .i64 0, .int .i64 0] 24))))
    (ks1 : Hid (∀ (v1 : Unit) (w : World), S1 false 0 v1 w → S1 true w.heap.size v1 (w.alloc (.cells #[.int .i64 0, .int .i64 0] 24))))
    (ks2 : Hid (∀ (v1 : Unit) (v2 : Unit) (w : World), S2 false 0 v1 v2 w → S2 true w.heap.size v1 v2 (w.alloc (.cells #[.int .i64 0, .int .i64 0] 24))))
    (ks3 : Hid (∀ (v1 : Unit) (v2 : Unit) (v3 : Unit) (w : World), S3 false 0 v1 v2 v3 w → S3 true w.heap.size v1 v2 v3 (w.alloc (.cells #[.int .i64 0, .int .i64 0] 24))))
    (kc10 : Hid (∀ (ms : Nat) (v1 : Unit) (v2 : Unit) (v3 : Unit) (w : World), S3 true ms v1 v2 v3 w → (∃ u, w.cell? ⟨ms, 0, none⟩ = some u) ∧ w.frozen? ⟨ms, 0, none⟩ = false ∧ (∃ u, w.cell? ⟨ms, 1, none⟩ = some u) ∧ w.frozen? ⟨ms, 1, none⟩ = false ∧ S4 true ms v1 v2 v3 ((w.setCell ⟨ms, 0, none⟩ (.int .i64 z1)).setCell ⟨ms, 1, none⟩ (.int .i64 z2))))
    {s0 s4 s5 s6 s7 s8 s9 s10 s11 s12 s13 s14 s15 s16 s17 s18 s19 : Value} {dd : List Deferred}
    (hQ : ∀ (ms : Nat) (v1 : Unit) (v2 : Unit) (v3 : Unit) (w' : World), S4 true ms v1 v2 v3 w' → Q .normal { tmps := #[s0, .pointer (some ⟨ba, 0, none⟩), .pointer (some ⟨bb, 0, none⟩), .pointer (some ⟨b3, 0, none⟩), s4, .pointer (some ⟨ms, 0, none⟩), .pointer (some ⟨b3, 0, none⟩), .func (.func 93) #[] #[], .agg #[.int .i64 t0, .int .i64 t1, .int .i64 t2, .int .i64 t3], .agg #[.int .i64 x1, .int .i64 y1], .pointer (some ⟨b3, 1, none⟩), .func (.func 93) #[] #[], .agg #[.int .i64 u0, .int .i64 u1, .int .i64 u2, .int .i64 u3], .agg #[.int .i64 x2, .int .i64 y2], .agg #[.int .i64 z1, .int .i64 z2], s15, s16, s17, s18, s19], defers := dd } w') :
    Code.wpIn (wideAt none) 0 Tryd.prog rul0C Q { tmps := #[s0, .pointer (some ⟨ba, 0, none⟩), .pointer (some ⟨bb, 0, none⟩), .pointer (some ⟨b3, 0, none⟩), s4, s5, s6, s7, s8, s9, s10, s11, s12, s13, s14, s15, s16, s17, s18, s19], defers := dd } W1 := by
  have HQ := Lib.hid hQ
  clear hQ
  conv => arg 4; whnf
  refine wpIn_region_invG mixed (by kernel_rfl) (fun d_ a_ w' => ∃ (x6 : Value) (x7 : Value) (x8 : Value) (x9 : Value) (x10 : Value) (x11 : Value) (x12 : Value) (x13 : Value) (x14 : Value) (x5 : Value) (ms : Nat) (v1 : Unit) (v2 : Unit) (v3 : Unit), a_ = { tmps := #[s0, .pointer (some ⟨ba, 0, none⟩), .pointer (some ⟨bb, 0, none⟩), .pointer (some ⟨b3, 0, none⟩), s4, x5, x6, x7, x8, x9, x10, x11, x12, x13, x14, s15, s16, s17, s18, s19], defers := dd } ∧ rul0F b3 ba bb bx t0 t1 t2 t3 u0 u1 u2 u3 x1 y1 x2 y2 z1 z2 S0 S1 S2 S3 S4 d_ x6 x7 x8 x9 x10 x11 x12 x13 x14 x5 ms v1 v2 v3 w') ?_ ?_ ?_
  · refine ⟨s6, s7, s8, s9, s10, s11, s12, s13, s14, s5, 0, default, default, default, rfl, ?_⟩
    constructor <;> first | rfl | (intro _; rfl) | (intro h; cases h; done) | (intro _; exact h0) | exact h0
  · refine ⟨?_, ?_, ?_, ?_, ?_, ?_, ?_, ?_, ?_, ?_, ?_, trivial⟩
    all_goals
      rintro d_ a_ w1 K hd_ hdep ⟨x6, x7, x8, x9, x10, x11, x12, x13, x14, x5, ms, v1, v2, v3, rfl, F⟩ HK
      simp [Region.binds] at hdep
    · have HF : Hid (rul0F b3 ba bb bx t0 t1 t2 t3 u0 u1 u2 u3 x1 y1 x2 y2 z1 z2 S0 S1 S2 S3 S4 (upd d_ 0) (.pointer (some ⟨b3, 0, none⟩)) x7 x8 x9 x10 x11 x12 x13 x14 x5 ms v1 v2 v3 w1) := ⟨fun h => rfl, F.q3, F.q5, F.q7, F.q8, fun h => andM0 (F.q10 h) rfl, fun _ => rfl, F.f1, F.f2, F.f3, F.f4, F.f5, F.f6, F.f7, F.f8, F.f9, F.st0, F.st1, F.st2, F.st3, F.st4, F.mz⟩
      clear F
      go_simp
      exact HK.out _ _ ⟨_, _, _, _, _, _, _, _, _, _, _, _, _, _, rfl, HF.out⟩
    · have hst : S0 (d_ 9) ms w1 := by
        have n_ : d_ 3 = false := by
          cases e_ : d_ 3 with
          | false => rfl
          | true => have h2 := (F.q3 e_).1; rw [show d_ 1 = false from hd_] at h2; cases h2
        exact (F.st0 n_)
      have kk := kl1.out (d_ 9) ms w1 hst
      clear hst
      obtain rfl := F.f0 (by simp [hdep])
      have HF : Hid (rul0F b3 ba bb bx t0 t1 t2 t3 u0 u1 u2 u3 x1 y1 x2 y2 z1 z2 S0 S1 S2 S3 S4 (upd d_ 1) (.pointer (some ⟨b3, 0, none⟩)) (.func (.func 93) #[] #[]) x8 x9 x10 x11 x12 x13 x14 x5 ms v1 v2 v3 w1) := ⟨fun _ => (show _ from (by simp [hdep] : d_ 0 = true)), fun h => andM0 (F.q3 h) rfl, F.q5, F.q7, F.q8, fun h => andM1 (F.q10 h) rfl, F.f0, fun _ => rfl, F.f2, F.f3, F.f4, F.f5, F.f6, F.f7, F.f8, F.f9, F.st0, F.st1, F.st2, F.st3, F.st4, F.mz⟩
      clear F
      go_simp
      exact HK.out _ _ ⟨_, _, _, _, _, _, _, _, _, _, _, _, _, _, rfl, HF.out⟩
    · have hst : S0 (d_ 9) ms w1 := by
        have n_ : d_ 3 = false := by
          cases e_ : d_ 3 with
          | false => rfl
          | true => have h2 := (F.q3 e_).2; rw [show d_ 2 = false from hd_] at h2; cases h2
        exact (F.st0 n_)
      have kk := kl2.out (d_ 9) ms w1 hst
      obtain ⟨kk0, kk1, kk2, kk3⟩ := kk
      clear hst
      have HF : Hid (rul0F b3 ba bb bx t0 t1 t2 t3 u0 u1 u2 u3 x1 y1 x2 y2 z1 z2 S0 S1 S2 S3 S4 (upd d_ 2) x6 x7 (.agg #[.int .i64 t0, .int .i64 t1, .int .i64 t2, .int .i64 t3]) x9 x10 x11 x12 x13 x14 x5 ms v1 v2 v3 w1) := ⟨F.q1, fun h => andL1 (F.q3 h) rfl, F.q5, F.q7, F.q8, fun h => andM2 (F.q10 h) rfl, F.f0, F.f1, fun _ => rfl, F.f3, F.f4, F.f5, F.f6, F.f7, F.f8, F.f9, F.st0, F.st1, F.st2, F.st3, F.st4, F.mz⟩
      clear F
      go_simp
      exact HK.out _ _ ⟨_, _, _, _, _, _, _, _, _, _, _, _, _, _, rfl, HF.out⟩
    · have hS := F.st0  hd_
      obtain rfl := F.f1 (by simp [hdep])
      obtain rfl := F.f2 (by simp [hdep])
      have hc := kc3.out (d_ 9) ms w1 hS
      have HF := Lib.hid F
      clear F
      have cf := cf63
      go_simp
      refine ⟨trivial, rfl, wideAt_calls (hc.mono ?_)⟩
      rintro e w5 ⟨v_, rfl, hres⟩
      exact HK.out _ _ ⟨_, _, _, _, _, _, _, _, _, _, ms, v_, v2, v3, rfl, ⟨HF.out.q1, fun _ => ⟨(show _ from (by simp [hdep] : d_ 1 = true)), (show _ from (by simp [hdep] : d_ 2 = true))⟩, HF.out.q5, fun h => ⟨rfl, (HF.out.q7 h).2.1, (HF.out.q7 h).2.2⟩, fun h => ⟨rfl, (HF.out.q8 h).2⟩, fun h => ⟨(HF.out.q10 h).1, (HF.out.q10 h).2.1, (HF.out.q10 h).2.2.1, rfl, (HF.out.q10 h).2.2.2.2.1, (HF.out.q10 h).2.2.2.2.2.1, (HF.out.q10 h).2.2.2.2.2.2.1, (HF.out.q10 h).2.2.2.2.2.2.2.1, (HF.out.q10 h).2.2.2.2.2.2.2.2.1, (HF.out.q10 h).2.2.2.2.2.2.2.2.2⟩, HF.out.f0, HF.out.f1, HF.out.f2, fun _ => rfl, HF.out.f4, HF.out.f5, HF.out.f6, HF.out.f7, HF.out.f8, HF.out.f9, fun h => (by simp [upd] at h), fun _ _ => hres, fun h _ => (by have h2 : d_ 3 = true := (HF.out.q7 h).1; rw [show d_ 3 = false from hd_] at h2; cases h2), fun h _ => (by have h2 : d_ 3 = true := (HF.out.q8 h).1; rw [show d_ 3 = false from hd_] at h2; cases h2), fun h => (by have h2 : d_ 3 = true := (HF.out.q10 h).2.2.2.1; rw [show d_ 3 = false from hd_] at h2; cases h2), HF.out.mz⟩⟩
    · have HF : Hid (rul0F b3 ba bb bx t0 t1 t2 t3 u0 u1 u2 u3 x1 y1 x2 y2 z1 z2 S0 S1 S2 S3 S4 (upd d_ 4) x6 x7 x8 x9 (.pointer (some ⟨b3, 1, none⟩)) x11 x12 x13 x14 x5 ms v1 v2 v3 w1) := ⟨F.q1, F.q3, fun h => rfl, F.q7, F.q8, fun h => andM4 (F.q10 h) rfl, F.f0, F.f1, F.f2, F.f3, fun _ => rfl, F.f5, F.f6, F.f7, F.f8, F.f9, F.st0, F.st1, F.st2, F.st3, F.st4, F.mz⟩
      clear F
      go_simp
      exact HK.out _ _ ⟨_, _, _, _, _, _, _, _, _, _, _, _, _, _, rfl, HF.out⟩
    · have hst : S0 (d_ 9) ms w1 ∨ S1 (d_ 9) ms v1 w1 := by
        cases e1 : d_ 3 with
        | false => exact .inl ((F.st0 e1))
        | true =>
          have n_ : d_ 7 = false := by
            cases e_ : d_ 7 with
            | false => rfl
            | true => have h2 := (F.q7 e_).2.1; rw [show d_ 5 = false from hd_] at h2; cases h2
          exact .inr ((F.st1 e1 n_))
      have kk := kl5.out (d_ 9) ms v1 w1 hst
      clear hst
      obtain rfl := F.f4 (by simp [hdep])
      have HF : Hid (rul0F b3 ba bb bx t0 t1 t2 t3 u0 u1 u2 u3 x1 y1 x2 y2 z1 z2 S0 S1 S2 S3 S4 (upd d_ 5) x6 x7 x8 x9 (.pointer (some ⟨b3, 1, none⟩)) (.func (.func 93) #[] #[]) x12 x13 x14 x5 ms v1 v2 v3 w1) := ⟨F.q1, F.q3, fun _ => (show _ from (by simp [hdep] : d_ 4 = true)), fun h => andM1 (F.q7 h) rfl, F.q8, fun h => andM5 (F.q10 h) rfl, F.f0, F.f1, F.f2, F.f3, F.f4, fun _ => rfl, F.f6, F.f7, F.f8, F.f9, F.st0, F.st1, F.st2, F.st3, F.st4, F.mz⟩
      clear F
      go_simp
      exact HK.out _ _ ⟨_, _, _, _, _, _, _, _, _, _, _, _, _, _, rfl, HF.out⟩
    · have hst : S0 (d_ 9) ms w1 ∨ S1 (d_ 9) ms v1 w1 := by
        cases e1 : d_ 3 with
        | false => exact .inl ((F.st0 e1))
        | true =>
          have n_ : d_ 7 = false := by
            cases e_ : d_ 7 with
            | false => rfl
            | true => have h2 := (F.q7 e_).2.2; rw [show d_ 6 = false from hd_] at h2; cases h2
          exact .inr ((F.st1 e1 n_))
      have kk := kl6.out (d_ 9) ms v1 w1 hst
      obtain ⟨kk0, kk1, kk2, kk3⟩ := kk
      clear hst
      have HF : Hid (rul0F b3 ba bb bx t0 t1 t2 t3 u0 u1 u2 u3 x1 y1 x2 y2 z1 z2 S0 S1 S2 S3 S4 (upd d_ 6) x6 x7 x8 x9 x10 x11 (.agg #[.int .i64 u0, .int .i64 u1, .int .i64 u2, .int .i64 u3]) x13 x14 x5 ms v1 v2 v3 w1) := ⟨F.q1, F.q3, F.q5, fun h => andL2 (F.q7 h) rfl, F.q8, fun h => andM6 (F.q10 h) rfl, F.f0, F.f1, F.f2, F.f3, F.f4, F.f5, fun _ => rfl, F.f7, F.f8, F.f9, F.st0, F.st1, F.st2, F.st3, F.st4, F.mz⟩
      clear F
      go_simp
      exact HK.out _ _ ⟨_, _, _, _, _, _, _, _, _, _, _, _, _, _, rfl, HF.out⟩
    · have hS := F.st1 (by simp [hdep] : d_ 3 = true) hd_
      obtain rfl := F.f5 (by simp [hdep])
      obtain rfl := F.f6 (by simp [hdep])
      have hc := kc7.out (d_ 9) ms v1 w1 hS
      have HF := Lib.hid F
      clear F
      have cf := cf63
      go_simp
      refine ⟨trivial, rfl, wideAt_calls (hc.mono ?_)⟩
      rintro e w5 ⟨v_, rfl, hres⟩
      exact HK.out _ _ ⟨_, _, _, _, _, _, _, _, _, _, ms, v1, v_, v3, rfl, ⟨HF.out.q1, HF.out.q3, HF.out.q5, fun _ => ⟨(show _ from (by simp [hdep] : d_ 3 = true)), (show _ from (by simp [hdep] : d_ 5 = true)), (show _ from (by simp [hdep] : d_ 6 = true))⟩, fun h => ⟨(HF.out.q8 h).1, rfl⟩, fun h => ⟨(HF.out.q10 h).1, (HF.out.q10 h).2.1, (HF.out.q10 h).2.2.1, (HF.out.q10 h).2.2.2.1, (HF.out.q10 h).2.2.2.2.1, (HF.out.q10 h).2.2.2.2.2.1, (HF.out.q10 h).2.2.2.2.2.2.1, rfl, (HF.out.q10 h).2.2.2.2.2.2.2.2.1, (HF.out.q10 h).2.2.2.2.2.2.2.2.2⟩, HF.out.f0, HF.out.f1, HF.out.f2, HF.out.f3, HF.out.f4, HF.out.f5, HF.out.f6, fun _ => rfl, HF.out.f8, HF.out.f9, fun h => (by have h2 : d_ 3 = false := h; rw [(by simp [hdep] : d_ 3 = true)] at h2; cases h2), fun _ h => (by simp [upd] at h), fun _ _ => hres, fun h _ => (by have h2 : d_ 7 = true := (HF.out.q8 h).2; rw [show d_ 7 = false from hd_] at h2; cases h2), fun h => (by have h2 : d_ 7 = true := (HF.out.q10 h).2.2.2.2.2.2.2.1; rw [show d_ 7 = false from hd_] at h2; cases h2), HF.out.mz⟩⟩
    · have hS := F.st2 (by simp [hdep] : d_ 7 = true) hd_
      obtain rfl := F.f3 (by simp [hdep])
      obtain rfl := F.f7 (by simp [hdep])
      have hc := kc8.out (d_ 9) ms v1 v2 w1 hS
      have HF := Lib.hid F
      clear F
      go_simp
      refine ⟨trivial, rfl, wideAt_calls (hc.mono ?_)⟩
      rintro e w5 ⟨v_, rfl, hres⟩
      exact HK.out _ _ ⟨_, _, _, _, _, _, _, _, _, _, ms, v1, v2, v_, rfl, ⟨HF.out.q1, HF.out.q3, HF.out.q5, HF.out.q7, fun _ => ⟨(show _ from (by simp [hdep] : d_ 3 = true)), (show _ from (by simp [hdep] : d_ 7 = true))⟩, fun h => ⟨(HF.out.q10 h).1, (HF.out.q10 h).2.1, (HF.out.q10 h).2.2.1, (HF.out.q10 h).2.2.2.1, (HF.out.q10 h).2.2.2.2.1, (HF.out.q10 h).2.2.2.2.2.1, (HF.out.q10 h).2.2.2.2.2.2.1, (HF.out.q10 h).2.2.2.2.2.2.2.1, rfl, (HF.out.q10 h).2.2.2.2.2.2.2.2.2⟩, HF.out.f0, HF.out.f1, HF.out.f2, HF.out.f3, HF.out.f4, HF.out.f5, HF.out.f6, HF.out.f7, fun _ => rfl, HF.out.f9, fun h => (by have h2 : d_ 3 = false := h; rw [(by simp [hdep] : d_ 3 = true)] at h2; cases h2), fun _ h => (by have h2 : d_ 7 = false := h; rw [(by simp [hdep] : d_ 7 = true)] at h2; cases h2), fun _ h => (by simp [upd] at h), fun _ _ => hres, fun h => (by have h2 : d_ 8 = true := (HF.out.q10 h).2.2.2.2.2.2.2.2.1; rw [show d_ 8 = false from hd_] at h2; cases h2), HF.out.mz⟩⟩
    · have HF : Hid (rul0F b3 ba bb bx t0 t1 t2 t3 u0 u1 u2 u3 x1 y1 x2 y2 z1 z2 S0 S1 S2 S3 S4 (upd d_ 9) x6 x7 x8 x9 x10 x11 x12 x13 x14 (.pointer (some ⟨w1.heap.size, 0, none⟩)) w1.heap.size v1 v2 v3 (w1.alloc (.cells #[.int .i64 0, .int .i64 0] 24))) := ⟨F.q1, F.q3, F.q5, F.q7, F.q8, fun h => andL9 (F.q10 h) rfl, F.f0, F.f1, F.f2, F.f3, F.f4, F.f5, F.f6, F.f7, F.f8, fun _ => rfl, fun b => ks0.out w1 (by have h := F.st0 b; rw [show d_ 9 = false from hd_, F.mz hd_] at h; exact h), fun a b => ks1.out v1 w1 (by have h := F.st1 a b; rw [show d_ 9 = false from hd_, F.mz hd_] at h; exact h), fun a b => ks2.out v1 v2 w1 (by have h := F.st2 a b; rw [show d_ 9 = false from hd_, F.mz hd_] at h; exact h), fun a b => ks3.out v1 v2 v3 w1 (by have h := F.st3 a b; rw [show d_ 9 = false from hd_, F.mz hd_] at h; exact h), fun a => (by have h2 : d_ 9 = true := (F.q10 a).2.2.2.2.2.2.2.2.2; rw [show d_ 9 = false from hd_] at h2; cases h2), fun h => (by simp [upd] at h)⟩
      clear F
      go_simp
      exact HK.out _ _ ⟨_, _, _, _, _, _, _, _, _, _, _, _, _, _, rfl, HF.out⟩
    · have hS := F.st3 (by simp [hdep] : d_ 8 = true) hd_
      rw [show d_ 9 = true from (by simp [hdep] : d_ 9 = true)] at hS
      obtain rfl := F.f8 (by simp [hdep])
      obtain rfl := F.f9 (by simp [hdep])
      obtain ⟨⟨ku0, kcell0⟩, kfr0, ⟨ku1, kcell1⟩, kfr1, hres⟩ := kc10.out ms v1 v2 v3 w1 hS
      have HF : Hid (rul0F b3 ba bb bx t0 t1 t2 t3 u0 u1 u2 u3 x1 y1 x2 y2 z1 z2 S0 S1 S2 S3 S4 (upd d_ 10) x6 x7 x8 x9 x10 x11 x12 x13 (.agg #[.int .i64 z1, .int .i64 z2]) (.pointer (some ⟨ms, 0, none⟩)) ms v1 v2 v3 ((w1.setCell ⟨ms, 0, none⟩ (.int .i64 z1)).setCell ⟨ms, 1, none⟩ (.int .i64 z2))) := ⟨F.q1, F.q3, F.q5, F.q7, F.q8, fun _ => ⟨(show _ from (by simp [hdep] : d_ 0 = true)), (show _ from (by simp [hdep] : d_ 1 = true)), (show _ from (by simp [hdep] : d_ 2 = true)), (show _ from (by simp [hdep] : d_ 3 = true)), (show _ from (by simp [hdep] : d_ 4 = true)), (show _ from (by simp [hdep] : d_ 5 = true)), (show _ from (by simp [hdep] : d_ 6 = true)), (show _ from (by simp [hdep] : d_ 7 = true)), (show _ from (by simp [hdep] : d_ 8 = true)), (show _ from (by simp [hdep] : d_ 9 = true))⟩, F.f0, F.f1, F.f2, F.f3, F.f4, F.f5, F.f6, F.f7, F.f8, F.f9, fun h => (by have h2 : d_ 3 = false := h; rw [(by simp [hdep] : d_ 3 = true)] at h2; cases h2), fun _ h => (by have h2 : d_ 7 = false := h; rw [(by simp [hdep] : d_ 7 = true)] at h2; cases h2), fun _ h => (by have h2 : d_ 8 = false := h; rw [(by simp [hdep] : d_ 8 = true)] at h2; cases h2), fun _ h => (by simp [upd] at h), fun _ => (by rw [show upd d_ 10 9 = true from (by simp [hdep] : d_ 9 = true)]; exact hres), F.mz⟩
      clear F hS hres
      go_simp
      exact HK.out _ _ ⟨_, _, _, _, _, _, _, _, _, _, _, _, _, _, rfl, HF.out⟩
  · rintro d_ a_ w1 hall ⟨x6, x7, x8, x9, x10, x11, x12, x13, x14, x5, ms, v1, v2, v3, rfl, F⟩
    have hall' : ∀ k, k < 11 → d_ k = true := hall
    obtain rfl := F.f0 (hall' 0 (by decide))
    obtain rfl := F.f1 (hall' 1 (by decide))
    obtain rfl := F.f2 (hall' 2 (by decide))
    obtain rfl := F.f3 (hall' 3 (by decide))
    obtain rfl := F.f4 (hall' 4 (by decide))
    obtain rfl := F.f5 (hall' 5 (by decide))
    obtain rfl := F.f6 (hall' 6 (by decide))
    obtain rfl := F.f7 (hall' 7 (by decide))
    obtain rfl := F.f8 (hall' 8 (by decide))
    obtain rfl := F.f9 (hall' 9 (by decide))
    have hst := F.st4 (hall' 10 (by decide))
    rw [show d_ 9 = true from hall' 9 (by decide)] at hst
    exact HQ.out ms v1 v2 v3 w1 hst
structure rul1F (b3 : Nat) (ba : Nat) (bb : Nat) (bx : Nat) (t0 : Int) (t1 : Int) (t2 : Int) (t3 : Int) (u0 : Int) (u1 : Int) (u2 : Int) (u3 : Int) (x1 : Int) (y1 : Int) (x2 : Int) (y2 : Int) (z1 : Int) (z2 : Int) (S0 : Bool → Nat → World → Prop) (S1 : Bool → Nat → Unit → World → Prop) (S2 : Bool → Nat → Unit → Unit → World → Prop) (S3 : Bool → Nat → Unit → Unit → Unit → World → Prop) (S4 : Bool → Nat → Unit → Unit → Unit → World → Prop) (d : Nat → Bool) (x6 x7 x8 x9 x10 x11 x12 x13 x14 x5 : Value) (ms : Nat) (v1 : Unit) (v2 : Unit) (v3 : Unit) (w : World) : Prop where
  q1 : d 1 = true → d 0 = true
  q3 : d 3 = true → d 1 = true ∧ d 2 = true
  q5 : d 5 = true → d 4 = true
  q7 : d 7 = true → d 3 = true ∧ d 5 = true ∧ d 6 = true
  q8 : d 8 = true → d 3 = true ∧ d 7 = true
  q10 : d 10 = true → d 0 = true ∧ d 1 = true ∧ d 2 = true ∧ d 3 = true ∧ d 4 = true ∧ d 5 = true ∧ d 6 = true ∧ d 7 = true ∧ d 8 = true ∧ d 9 = true
  f0 : d 0 = true → x6 = .pointer (some ⟨b3, 0, none⟩)
  f1 : d 1 = true → x7 = .func (.func 94) #[] #[.pointer (some ⟨bx, 0, none⟩)]
  f2 : d 2 = true → x8 = .agg #[.int .i64 t0, .int .i64 t1, .int .i64 t2, .int .i64 t3]
  f3 : d 3 = true → x9 = .agg #[.int .i64 x1, .int .i64 y1]
  f4 : d 4 = true → x10 = .pointer (some ⟨b3, 1, none⟩)
  f5 : d 5 = true → x11 = .func (.func 95) #[] #[]
  f6 : d 6 = true → x12 = .agg #[.int .i64 u0, .int .i64 u1, .int .i64 u2, .int .i64 u3]
  f7 : d 7 = true → x13 = .agg #[.int .i64 x2, .int .i64 y2]
  f8 : d 8 = true → x14 = .agg #[.int .i64 z1, .int .i64 z2]
  f9 : d 9 = true → x5 = .pointer (some ⟨ms, 0, none⟩)
  st0 : d 3 = false → S0 (d 9) ms w
  st1 : d 3 = true → d 7 = false → S1 (d 9) ms v1 w
  st2 : d 7 = true → d 8 = false → S2 (d 9) ms v1 v2 w
  st3 : d 8 = true → d 10 = false → S3 (d 9) ms v1 v2 v3 w
  st4 : d 10 = true → S4 (d 9) ms v1 v2 v3 w
  mz : d 9 = false → ms = 0
noncomputable def rul1C : Code := (Tryd.f97.body.bind (regionAt 1)).getD .skip
set_option maxRecDepth 100000 in
set_option maxHeartbeats 4000000 in
theorem rul1 {b3 : Nat} {ba : Nat} {bb : Nat} {bx : Nat} {t0 : Int} {t1 : Int} {t2 : Int} {t3 : Int} {u0 : Int} {u1 : Int} {u2 : Int} {u3 : Int} {x1 : Int} {y1 : Int} {x2 : Int} {y2 : Int} {z1 : Int} {z2 : Int} {S0 : Bool → Nat → World → Prop} {S1 : Bool → Nat → Unit → World → Prop} {S2 : Bool → Nat → Unit → Unit → World → Prop} {S3 : Bool → Nat → Unit → Unit → Unit → World → Prop} {S4 : Bool → Nat → Unit → Unit → Unit → World → Prop} {Q : Exit → Act → World → Prop} {W1 : World} (h0 : S0 false 0 W1.drew)
    (kl1 : Hid (∀ (fs : Bool) (ms : Nat) (w : World), (S0 fs ms w) → w.cell? ⟨b3, 0, none⟩ = some (.func (.func 94) #[] #[.pointer (some ⟨bx, 0, none⟩)])))
    (kl2 : Hid (∀ (fs : Bool) (ms : Nat) (w : World), (S0 fs ms w) → w.cell? ⟨ba, 0, none⟩ = some (.int .i64 t0) ∧ w.cell? ⟨ba, 1, none⟩ = some (.int .i64 t1) ∧ w.cell? ⟨ba, 2, none⟩ = some (.int .i64 t2) ∧ w.cell? ⟨ba, 3, none⟩ = some (.int .i64 t3)))
    (kc3 : Hid (∀ (fs : Bool) (ms : Nat) (w : World), S0 fs ms w → Calls Tryd.prog 94 #[.agg #[.int .i64 t0, .int .i64 t1, .int .i64 t2, .int .i64 t3], .pointer (some ⟨bx, 0, none⟩)] w fun e w' => ∃ v1 : Unit, e = .returned (.agg #[.int .i64 x1, .int .i64 y1]) ∧ S1 fs ms v1 w'))
    (kl5 : Hid (∀ (fs : Bool) (ms : Nat) (v1 : Unit) (w : World), (S0 fs ms w ∨ S1 fs ms v1 w) → w.cell? ⟨b3, 1, none⟩ = some (.func (.func 95) #[] #[])))
    (kl6 : Hid (∀ (fs : Bool) (ms : Nat) (v1 : Unit) (w : World), (S0 fs ms w ∨ S1 fs ms v1 w) → w.cell? ⟨bb, 0, none⟩ = some (.int .i64 u0) ∧ w.cell? ⟨bb, 1, none⟩ = some (.int .i64 u1) ∧ w.cell? ⟨bb, 2, none⟩ = some (.int .i64 u2) ∧ w.cell? ⟨bb, 3, none⟩ = some (.int .i64 u3)))
    (kc7 : Hid (∀ (fs : Bool) (ms : Nat) (v1 : Unit) (w : World), S1 fs ms v1 w → Calls Tryd.prog 95 #[.agg #[.int .i64 u0, .int .i64 u1, .int .i64 u2, .int .i64 u3]] w fun e w' => ∃ v2 : Unit, e = .returned (.agg #[.int .i64 x2, .int .i64 y2]) ∧ S2 fs ms v1 v2 w'))
    (kc8 : Hid (∀ (fs : Bool) (ms : Nat) (v1 : Unit) (v2 : Unit) (w : World), S2 fs ms v1 v2 w → Calls Tryd.prog 78 #[.agg #[.int .i64 x1, .int .i64 y1], .agg #[.int .i64 x2, .int .i64 y2]] w fun e w' => ∃ v3 : Unit, e = .returned (.agg #[.int .i64 z1, .int .i64 z2]) ∧ S3 fs ms v1 v2 v3 w'))
    (ks0 : Hid (∀ (w : World), S0 false 0 w → S0 true w.heap.size (w.alloc (.cells #[.int .i64 0, .int .i64 0] 24))))
    (ks1 : Hid (∀ (v1 : Unit) (w : World), S1 false 0 v1 w → S1 true w.heap.size v1 (w.alloc (.cells #[.int .i64 0, .int .i64 0] 24))))
    (ks2 : Hid (∀ (v1 : Unit) (v2 : Unit) (w : World), S2 false 0 v1 v2 w → S2 true w.heap.size v1 v2 (w.alloc (.cells #[.int .i64 0, .int .i64 0] 24))))
    (ks3 : Hid (∀ (v1 : Unit) (v2 : Unit) (v3 : Unit) (w : World), S3 false 0 v1 v2 v3 w → S3 true w.heap.size v1 v2 v3 (w.alloc (.cells #[.int .i64 0, .int .i64 0] 24))))
    (kc10 : Hid (∀ (ms : Nat) (v1 : Unit) (v2 : Unit) (v3 : Unit) (w : World), S3 true ms v1 v2 v3 w → (∃ u, w.cell? ⟨ms, 0, none⟩ = some u) ∧ w.frozen? ⟨ms, 0, none⟩ = false ∧ (∃ u, w.cell? ⟨ms, 1, none⟩ = some u) ∧ w.frozen? ⟨ms, 1, none⟩ = false ∧ S4 true ms v1 v2 v3 ((w.setCell ⟨ms, 0, none⟩ (.int .i64 z1)).setCell ⟨ms, 1, none⟩ (.int .i64 z2))))
    {s0 s4 s5 s6 s7 s8 s9 s10 s11 s12 s13 s14 s15 s16 s17 s18 s19 : Value} {dd : List Deferred}
    (hQ : ∀ (ms : Nat) (v1 : Unit) (v2 : Unit) (v3 : Unit) (w' : World), S4 true ms v1 v2 v3 w' → Q .normal { tmps := #[s0, .pointer (some ⟨ba, 0, none⟩), .pointer (some ⟨bb, 0, none⟩), .pointer (some ⟨b3, 0, none⟩), s4, .pointer (some ⟨ms, 0, none⟩), .pointer (some ⟨b3, 0, none⟩), .func (.func 94) #[] #[.pointer (some ⟨bx, 0, none⟩)], .agg #[.int .i64 t0, .int .i64 t1, .int .i64 t2, .int .i64 t3], .agg #[.int .i64 x1, .int .i64 y1], .pointer (some ⟨b3, 1, none⟩), .func (.func 95) #[] #[], .agg #[.int .i64 u0, .int .i64 u1, .int .i64 u2, .int .i64 u3], .agg #[.int .i64 x2, .int .i64 y2], .agg #[.int .i64 z1, .int .i64 z2], s15, s16, s17, s18, s19], defers := dd } w') :
    Code.wpIn (wideAt none) 0 Tryd.prog rul1C Q { tmps := #[s0, .pointer (some ⟨ba, 0, none⟩), .pointer (some ⟨bb, 0, none⟩), .pointer (some ⟨b3, 0, none⟩), s4, s5, s6, s7, s8, s9, s10, s11, s12, s13, s14, s15, s16, s17, s18, s19], defers := dd } W1 := by
  have HQ := Lib.hid hQ
  clear hQ
  conv => arg 4; whnf
  refine wpIn_region_invG mixed (by kernel_rfl) (fun d_ a_ w' => ∃ (x6 : Value) (x7 : Value) (x8 : Value) (x9 : Value) (x10 : Value) (x11 : Value) (x12 : Value) (x13 : Value) (x14 : Value) (x5 : Value) (ms : Nat) (v1 : Unit) (v2 : Unit) (v3 : Unit), a_ = { tmps := #[s0, .pointer (some ⟨ba, 0, none⟩), .pointer (some ⟨bb, 0, none⟩), .pointer (some ⟨b3, 0, none⟩), s4, x5, x6, x7, x8, x9, x10, x11, x12, x13, x14, s15, s16, s17, s18, s19], defers := dd } ∧ rul1F b3 ba bb bx t0 t1 t2 t3 u0 u1 u2 u3 x1 y1 x2 y2 z1 z2 S0 S1 S2 S3 S4 d_ x6 x7 x8 x9 x10 x11 x12 x13 x14 x5 ms v1 v2 v3 w') ?_ ?_ ?_
  · refine ⟨s6, s7, s8, s9, s10, s11, s12, s13, s14, s5, 0, default, default, default, rfl, ?_⟩
    constructor <;> first | rfl | (intro _; rfl) | (intro h; cases h; done) | (intro _; exact h0) | exact h0
  · refine ⟨?_, ?_, ?_, ?_, ?_, ?_, ?_, ?_, ?_, ?_, ?_, trivial⟩
    all_goals
      rintro d_ a_ w1 K hd_ hdep ⟨x6, x7, x8, x9, x10, x11, x12, x13, x14, x5, ms, v1, v2, v3, rfl, F⟩ HK
      simp [Region.binds] at hdep
    · have HF : Hid (rul1F b3 ba bb bx t0 t1 t2 t3 u0 u1 u2 u3 x1 y1 x2 y2 z1 z2 S0 S1 S2 S3 S4 (upd d_ 0) (.pointer (some ⟨b3, 0, none⟩)) x7 x8 x9 x10 x11 x12 x13 x14 x5 ms v1 v2 v3 w1) := ⟨fun h => rfl, F.q3, F.q5, F.q7, F.q8, fun h => andM0 (F.q10 h) rfl, fun _ => rfl, F.f1, F.f2, F.f3, F.f4, F.f5, F.f6, F.f7, F.f8, F.f9, F.st0, F.st1, F.st2, F.st3, F.st4, F.mz⟩
      clear F
      go_simp
      exact HK.out _ _ ⟨_, _, _, _, _, _, _, _, _, _, _, _, _, _, rfl, HF.out⟩
    · have hst : S0 (d_ 9) ms w1 := by
        have n_ : d_ 3 = false := by
          cases e_ : d_ 3 with
          | false => rfl
          | true => have h2 := (F.q3 e_).1; rw [show d_ 1 = false from hd_] at h2; cases h2
        exact (F.st0 n_)
      have kk := kl1.out (d_ 9) ms w1 hst
      clear hst
      obtain rfl := F.f0 (by simp [hdep])
      have HF : Hid (rul1F b3 ba bb bx t0 t1 t2 t3 u0 u1 u2 u3 x1 y1 x2 y2 z1 z2 S0 S1 S2 S3 S4 (upd d_ 1) (.pointer (some ⟨b3, 0, none⟩)) (.func (.func 94) #[] #[.pointer (some ⟨bx, 0, none⟩)]) x8 x9 x10 x11 x12 x13 x14 x5 ms v1 v2 v3 w1) := ⟨fun _ => (show _ from (by simp [hdep] : d_ 0 = true)), fun h => andM0 (F.q3 h) rfl, F.q5, F.q7, F.q8, fun h => andM1 (F.q10 h) rfl, F.f0, fun _ => rfl, F.f2, F.f3, F.f4, F.f5, F.f6, F.f7, F.f8, F.f9, F.st0, F.st1, F.st2, F.st3, F.st4, F.mz⟩
      clear F
      go_simp
      exact HK.out _ _ ⟨_, _, _, _, _, _, _, _, _, _, _, _, _, _, rfl, HF.out⟩
    · have hst : S0 (d_ 9) ms w1 := by
        have n_ : d_ 3 = false := by
          cases e_ : d_ 3 with
          | false => rfl
          | true => have h2 := (F.q3 e_).2; rw [show d_ 2 = false from hd_] at h2; cases h2
        exact (F.st0 n_)
      have kk := kl2.out (d_ 9) ms w1 hst
      obtain ⟨kk0, kk1, kk2, kk3⟩ := kk
      clear hst
      have HF : Hid (rul1F b3 ba bb bx t0 t1 t2 t3 u0 u1 u2 u3 x1 y1 x2 y2 z1 z2 S0 S1 S2 S3 S4 (upd d_ 2) x6 x7 (.agg #[.int .i64 t0, .int .i64 t1, .int .i64 t2, .int .i64 t3]) x9 x10 x11 x12 x13 x14 x5 ms v1 v2 v3 w1) := ⟨F.q1, fun h => andL1 (F.q3 h) rfl, F.q5, F.q7, F.q8, fun h => andM2 (F.q10 h) rfl, F.f0, F.f1, fun _ => rfl, F.f3, F.f4, F.f5, F.f6, F.f7, F.f8, F.f9, F.st0, F.st1, F.st2, F.st3, F.st4, F.mz⟩
      clear F
      go_simp
      exact HK.out _ _ ⟨_, _, _, _, _, _, _, _, _, _, _, _, _, _, rfl, HF.out⟩
    · have hS := F.st0  hd_
      obtain rfl := F.f1 (by simp [hdep])
      obtain rfl := F.f2 (by simp [hdep])
      have hc := kc3.out (d_ 9) ms w1 hS
      have HF := Lib.hid F
      clear F
      have cf := cf64
      go_simp
      refine ⟨trivial, rfl, wideAt_calls (hc.mono ?_)⟩
      rintro e w5 ⟨v_, rfl, hres⟩
      exact HK.out _ _ ⟨_, _, _, _, _, _, _, _, _, _, ms, v_, v2, v3, rfl, ⟨HF.out.q1, fun _ => ⟨(show _ from (by simp [hdep] : d_ 1 = true)), (show _ from (by simp [hdep] : d_ 2 = true))⟩, HF.out.q5, fun h => ⟨rfl, (HF.out.q7 h).2.1, (HF.out.q7 h).2.2⟩, fun h => ⟨rfl, (HF.out.q8 h).2⟩, fun h => ⟨(HF.out.q10 h).1, (HF.out.q10 h).2.1, (HF.out.q10 h).2.2.1, rfl, (HF.out.q10 h).2.2.2.2.1, (HF.out.q10 h).2.2.2.2.2.1, (HF.out.q10 h).2.2.2.2.2.2.1, (HF.out.q10 h).2.2.2.2.2.2.2.1, (HF.out.q10 h).2.2.2.2.2.2.2.2.1, (HF.out.q10 h).2.2.2.2.2.2.2.2.2⟩, HF.out.f0, HF.out.f1, HF.out.f2, fun _ => rfl, HF.out.f4, HF.out.f5, HF.out.f6, HF.out.f7, HF.out.f8, HF.out.f9, fun h => (by simp [upd] at h), fun _ _ => hres, fun h _ => (by have h2 : d_ 3 = true := (HF.out.q7 h).1; rw [show d_ 3 = false from hd_] at h2; cases h2), fun h _ => (by have h2 : d_ 3 = true := (HF.out.q8 h).1; rw [show d_ 3 = false from hd_] at h2; cases h2), fun h => (by have h2 : d_ 3 = true := (HF.out.q10 h).2.2.2.1; rw [show d_ 3 = false from hd_] at h2; cases h2), HF.out.mz⟩⟩
    · have HF : Hid (rul1F b3 ba bb bx t0 t1 t2 t3 u0 u1 u2 u3 x1 y1 x2 y2 z1 z2 S0 S1 S2 S3 S4 (upd d_ 4) x6 x7 x8 x9 (.pointer (some ⟨b3, 1, none⟩)) x11 x12 x13 x14 x5 ms v1 v2 v3 w1) := ⟨F.q1, F.q3, fun h => rfl, F.q7, F.q8, fun h => andM4 (F.q10 h) rfl, F.f0, F.f1, F.f2, F.f3, fun _ => rfl, F.f5, F.f6, F.f7, F.f8, F.f9, F.st0, F.st1, F.st2, F.st3, F.st4, F.mz⟩
      clear F
      go_simp
      exact HK.out _ _ ⟨_, _, _, _, _, _, _, _, _, _, _, _, _, _, rfl, HF.out⟩
    · have hst : S0 (d_ 9) ms w1 ∨ S1 (d_ 9) ms v1 w1 := by
        cases e1 : d_ 3 with
        | false => exact .inl ((F.st0 e1))
        | true =>
          have n_ : d_ 7 = false := by
            cases e_ : d_ 7 with
            | false => rfl
            | true => have h2 := (F.q7 e_).2.1; rw [show d_ 5 = false from hd_] at h2; cases h2
          exact .inr ((F.st1 e1 n_))
      have kk := kl5.out (d_ 9) ms v1 w1 hst
      clear hst
      obtain rfl := F.f4 (by simp [hdep])
      have HF : Hid (rul1F b3 ba bb bx t0 t1 t2 t3 u0 u1 u2 u3 x1 y1 x2 y2 z1 z2 S0 S1 S2 S3 S4 (upd d_ 5) x6 x7 x8 x9 (.pointer (some ⟨b3, 1, none⟩)) (.func (.func 95) #[] #[]) x12 x13 x14 x5 ms v1 v2 v3 w1) := ⟨F.q1, F.q3, fun _ => (show _ from (by simp [hdep] : d_ 4 = true)), fun h => andM1 (F.q7 h) rfl, F.q8, fun h => andM5 (F.q10 h) rfl, F.f0, F.f1, F.f2, F.f3, F.f4, fun _ => rfl, F.f6, F.f7, F.f8, F.f9, F.st0, F.st1, F.st2, F.st3, F.st4, F.mz⟩
      clear F
      go_simp
      exact HK.out _ _ ⟨_, _, _, _, _, _, _, _, _, _, _, _, _, _, rfl, HF.out⟩
    · have hst : S0 (d_ 9) ms w1 ∨ S1 (d_ 9) ms v1 w1 := by
        cases e1 : d_ 3 with
        | false => exact .inl ((F.st0 e1))
        | true =>
          have n_ : d_ 7 = false := by
            cases e_ : d_ 7 with
            | false => rfl
            | true => have h2 := (F.q7 e_).2.2; rw [show d_ 6 = false from hd_] at h2; cases h2
          exact .inr ((F.st1 e1 n_))
      have kk := kl6.out (d_ 9) ms v1 w1 hst
      obtain ⟨kk0, kk1, kk2, kk3⟩ := kk
      clear hst
      have HF : Hid (rul1F b3 ba bb bx t0 t1 t2 t3 u0 u1 u2 u3 x1 y1 x2 y2 z1 z2 S0 S1 S2 S3 S4 (upd d_ 6) x6 x7 x8 x9 x10 x11 (.agg #[.int .i64 u0, .int .i64 u1, .int .i64 u2, .int .i64 u3]) x13 x14 x5 ms v1 v2 v3 w1) := ⟨F.q1, F.q3, F.q5, fun h => andL2 (F.q7 h) rfl, F.q8, fun h => andM6 (F.q10 h) rfl, F.f0, F.f1, F.f2, F.f3, F.f4, F.f5, fun _ => rfl, F.f7, F.f8, F.f9, F.st0, F.st1, F.st2, F.st3, F.st4, F.mz⟩
      clear F
      go_simp
      exact HK.out _ _ ⟨_, _, _, _, _, _, _, _, _, _, _, _, _, _, rfl, HF.out⟩
    · have hS := F.st1 (by simp [hdep] : d_ 3 = true) hd_
      obtain rfl := F.f5 (by simp [hdep])
      obtain rfl := F.f6 (by simp [hdep])
      have hc := kc7.out (d_ 9) ms v1 w1 hS
      have HF := Lib.hid F
      clear F
      have cf := cf65
      go_simp
      refine ⟨trivial, rfl, wideAt_calls (hc.mono ?_)⟩
      rintro e w5 ⟨v_, rfl, hres⟩
      exact HK.out _ _ ⟨_, _, _, _, _, _, _, _, _, _, ms, v1, v_, v3, rfl, ⟨HF.out.q1, HF.out.q3, HF.out.q5, fun _ => ⟨(show _ from (by simp [hdep] : d_ 3 = true)), (show _ from (by simp [hdep] : d_ 5 = true)), (show _ from (by simp [hdep] : d_ 6 = true))⟩, fun h => ⟨(HF.out.q8 h).1, rfl⟩, fun h => ⟨(HF.out.q10 h).1, (HF.out.q10 h).2.1, (HF.out.q10 h).2.2.1, (HF.out.q10 h).2.2.2.1, (HF.out.q10 h).2.2.2.2.1, (HF.out.q10 h).2.2.2.2.2.1, (HF.out.q10 h).2.2.2.2.2.2.1, rfl, (HF.out.q10 h).2.2.2.2.2.2.2.2.1, (HF.out.q10 h).2.2.2.2.2.2.2.2.2⟩, HF.out.f0, HF.out.f1, HF.out.f2, HF.out.f3, HF.out.f4, HF.out.f5, HF.out.f6, fun _ => rfl, HF.out.f8, HF.out.f9, fun h => (by have h2 : d_ 3 = false := h; rw [(by simp [hdep] : d_ 3 = true)] at h2; cases h2), fun _ h => (by simp [upd] at h), fun _ _ => hres, fun h _ => (by have h2 : d_ 7 = true := (HF.out.q8 h).2; rw [show d_ 7 = false from hd_] at h2; cases h2), fun h => (by have h2 : d_ 7 = true := (HF.out.q10 h).2.2.2.2.2.2.2.1; rw [show d_ 7 = false from hd_] at h2; cases h2), HF.out.mz⟩⟩
    · have hS := F.st2 (by simp [hdep] : d_ 7 = true) hd_
      obtain rfl := F.f3 (by simp [hdep])
      obtain rfl := F.f7 (by simp [hdep])
      have hc := kc8.out (d_ 9) ms v1 v2 w1 hS
      have HF := Lib.hid F
      clear F
      go_simp
      refine ⟨trivial, rfl, wideAt_calls (hc.mono ?_)⟩
      rintro e w5 ⟨v_, rfl, hres⟩
      exact HK.out _ _ ⟨_, _, _, _, _, _, _, _, _, _, ms, v1, v2, v_, rfl, ⟨HF.out.q1, HF.out.q3, HF.out.q5, HF.out.q7, fun _ => ⟨(show _ from (by simp [hdep] : d_ 3 = true)), (show _ from (by simp [hdep] : d_ 7 = true))⟩, fun h => ⟨(HF.out.q10 h).1, (HF.out.q10 h).2.1, (HF.out.q10 h).2.2.1, (HF.out.q10 h).2.2.2.1, (HF.out.q10 h).2.2.2.2.1, (HF.out.q10 h).2.2.2.2.2.1, (HF.out.q10 h).2.2.2.2.2.2.1, (HF.out.q10 h).2.2.2.2.2.2.2.1, rfl, (HF.out.q10 h).2.2.2.2.2.2.2.2.2⟩, HF.out.f0, HF.out.f1, HF.out.f2, HF.out.f3, HF.out.f4, HF.out.f5, HF.out.f6, HF.out.f7, fun _ => rfl, HF.out.f9, fun h => (by have h2 : d_ 3 = false := h; rw [(by simp [hdep] : d_ 3 = true)] at h2; cases h2), fun _ h => (by have h2 : d_ 7 = false := h; rw [(by simp [hdep] : d_ 7 = true)] at h2; cases h2), fun _ h => (by simp [upd] at h), fun _ _ => hres, fun h => (by have h2 : d_ 8 = true := (HF.out.q10 h).2.2.2.2.2.2.2.2.1; rw [show d_ 8 = false from hd_] at h2; cases h2), HF.out.mz⟩⟩
    · have HF : Hid (rul1F b3 ba bb bx t0 t1 t2 t3 u0 u1 u2 u3 x1 y1 x2 y2 z1 z2 S0 S1 S2 S3 S4 (upd d_ 9) x6 x7 x8 x9 x10 x11 x12 x13 x14 (.pointer (some ⟨w1.heap.size, 0, none⟩)) w1.heap.size v1 v2 v3 (w1.alloc (.cells #[.int .i64 0, .int .i64 0] 24))) := ⟨F.q1, F.q3, F.q5, F.q7, F.q8, fun h => andL9 (F.q10 h) rfl, F.f0, F.f1, F.f2, F.f3, F.f4, F.f5, F.f6, F.f7, F.f8, fun _ => rfl, fun b => ks0.out w1 (by have h := F.st0 b; rw [show d_ 9 = false from hd_, F.mz hd_] at h; exact h), fun a b => ks1.out v1 w1 (by have h := F.st1 a b; rw [show d_ 9 = false from hd_, F.mz hd_] at h; exact h), fun a b => ks2.out v1 v2 w1 (by have h := F.st2 a b; rw [show d_ 9 = false from hd_, F.mz hd_] at h; exact h), fun a b => ks3.out v1 v2 v3 w1 (by have h := F.st3 a b; rw [show d_ 9 = false from hd_, F.mz hd_] at h; exact h), fun a => (by have h2 : d_ 9 = true := (F.q10 a).2.2.2.2.2.2.2.2.2; rw [show d_ 9 = false from hd_] at h2; cases h2), fun h => (by simp [upd] at h)⟩
      clear F
      go_simp
      exact HK.out _ _ ⟨_, _, _, _, _, _, _, _, _, _, _, _, _, _, rfl, HF.out⟩
    · have hS := F.st3 (by simp [hdep] : d_ 8 = true) hd_
      rw [show d_ 9 = true from (by simp [hdep] : d_ 9 = true)] at hS
      obtain rfl := F.f8 (by simp [hdep])
      obtain rfl := F.f9 (by simp [hdep])
      obtain ⟨⟨ku0, kcell0⟩, kfr0, ⟨ku1, kcell1⟩, kfr1, hres⟩ := kc10.out ms v1 v2 v3 w1 hS
      have HF : Hid (rul1F b3 ba bb bx t0 t1 t2 t3 u0 u1 u2 u3 x1 y1 x2 y2 z1 z2 S0 S1 S2 S3 S4 (upd d_ 10) x6 x7 x8 x9 x10 x11 x12 x13 (.agg #[.int .i64 z1, .int .i64 z2]) (.pointer (some ⟨ms, 0, none⟩)) ms v1 v2 v3 ((w1.setCell ⟨ms, 0, none⟩ (.int .i64 z1)).setCell ⟨ms, 1, none⟩ (.int .i64 z2))) := ⟨F.q1, F.q3, F.q5, F.q7, F.q8, fun _ => ⟨(show _ from (by simp [hdep] : d_ 0 = true)), (show _ from (by simp [hdep] : d_ 1 = true)), (show _ from (by simp [hdep] : d_ 2 = true)), (show _ from (by simp [hdep] : d_ 3 = true)), (show _ from (by simp [hdep] : d_ 4 = true)), (show _ from (by simp [hdep] : d_ 5 = true)), (show _ from (by simp [hdep] : d_ 6 = true)), (show _ from (by simp [hdep] : d_ 7 = true)), (show _ from (by simp [hdep] : d_ 8 = true)), (show _ from (by simp [hdep] : d_ 9 = true))⟩, F.f0, F.f1, F.f2, F.f3, F.f4, F.f5, F.f6, F.f7, F.f8, F.f9, fun h => (by have h2 : d_ 3 = false := h; rw [(by simp [hdep] : d_ 3 = true)] at h2; cases h2), fun _ h => (by have h2 : d_ 7 = false := h; rw [(by simp [hdep] : d_ 7 = true)] at h2; cases h2), fun _ h => (by have h2 : d_ 8 = false := h; rw [(by simp [hdep] : d_ 8 = true)] at h2; cases h2), fun _ h => (by simp [upd] at h), fun _ => (by rw [show upd d_ 10 9 = true from (by simp [hdep] : d_ 9 = true)]; exact hres), F.mz⟩
      clear F hS hres
      go_simp
      exact HK.out _ _ ⟨_, _, _, _, _, _, _, _, _, _, _, _, _, _, rfl, HF.out⟩
  · rintro d_ a_ w1 hall ⟨x6, x7, x8, x9, x10, x11, x12, x13, x14, x5, ms, v1, v2, v3, rfl, F⟩
    have hall' : ∀ k, k < 11 → d_ k = true := hall
    obtain rfl := F.f0 (hall' 0 (by decide))
    obtain rfl := F.f1 (hall' 1 (by decide))
    obtain rfl := F.f2 (hall' 2 (by decide))
    obtain rfl := F.f3 (hall' 3 (by decide))
    obtain rfl := F.f4 (hall' 4 (by decide))
    obtain rfl := F.f5 (hall' 5 (by decide))
    obtain rfl := F.f6 (hall' 6 (by decide))
    obtain rfl := F.f7 (hall' 7 (by decide))
    obtain rfl := F.f8 (hall' 8 (by decide))
    obtain rfl := F.f9 (hall' 9 (by decide))
    have hst := F.st4 (hall' 10 (by decide))
    rw [show d_ 9 = true from hall' 9 (by decide)] at hst
    exact HQ.out ms v1 v2 v3 w1 hst
end Go.Proofs.YtbnhngfegnhaiaaDoor
namespace Go.Proofs.YtbnhngfegnhaiaaDoor
open Go.RowKit
set_option linter.unusedVariables false
set_option linter.unusedSimpArgs false
/-- A span's block that may have been laid. -/
def FreshS (W : World) (fs : Bool) (ms : Nat) (v : World) : Prop := fs = true → W.heap.size ≤ ms ∧ v.heap[ms]? = some (.cells #[.int .i64 0, .int .i64 0] 24 (0, 0))
theorem FreshS.no (W v : World) (ms : Nat) : FreshS W false ms v := fun h => by cases h
theorem FreshS.mono {W v v' : World} {fs : Bool} {ms : Nat} (h : FreshS W fs ms v) (hb : Below v.heap.size v v') : FreshS W fs ms v' := fun e => ⟨(h e).1, (hb.block _ (heap_lt (h e).2)).trans (h e).2⟩
theorem FreshS.yes {W v : World} (hv : W.heap.size ≤ v.heap.size) : FreshS W true v.heap.size (v.alloc (.cells #[.int .i64 0, .int .i64 0] 24)) := fun _ => ⟨hv, World.alloc_heap_new _ _⟩
theorem FreshS.put {W v : World} {ms : Nat} (h : FreshS W true ms v) (hb : Below W.heap.size W v) (z1 z2 : Value) : (∃ u, v.cell? ⟨ms, 0, none⟩ = some u) ∧ v.frozen? ⟨ms, 0, none⟩ = false ∧ (∃ u, v.cell? ⟨ms, 1, none⟩ = some u) ∧ v.frozen? ⟨ms, 1, none⟩ = false ∧ Below W.heap.size W ((v.setCell ⟨ms, 0, none⟩ z1).setCell ⟨ms, 1, none⟩ z2) ∧ ((v.setCell ⟨ms, 0, none⟩ z1).setCell ⟨ms, 1, none⟩ z2).heap[ms]? = some (.cells #[z1, z2] 24 (0, 0)) := by
  obtain ⟨h1, h2⟩ := h rfl
  exact ⟨⟨_, by rw [cell_of_heap h2]; rfl⟩, frozen_of_heap h2, ⟨_, by rw [cell_of_heap h2]; rfl⟩, frozen_of_heap h2, (hb.setCell (p := ⟨ms, 0, none⟩) h1 _).setCell (p := ⟨ms, 1, none⟩) h1 _, heap_setCell_at (k := 1) (heap_setCell_at (k := 0) h2 z1) z2⟩
set_option maxRecDepth 100000 in
set_option maxHeartbeats 4000000 in
theorem rule0 {a b : Mrk} {ba bb : Nat} {w : World} (ha : w.heap[ba]? = some (.cells a.arr 30 (0, 0))) (hb : w.heap[bb]? = some (.cells b.arr 30 (0, 0))) :
    Calls Tryd.prog 97 #[.agg #[.func (.func 93) #[] #[], .func (.func 93) #[] #[]], .pointer (some ⟨ba, 0, none⟩), .pointer (some ⟨bb, 0, none⟩)] w fun e w' => e = .returned (.bool (!(a.tone.cut b.tone).is)) ∧ Below w.heap.size w w' := by
  have HX := Lib.hid (And.intro (World.alloc_heap_new w (.cells #[.func (.func 93) #[] #[], .func (.func 93) #[] #[]] 169)) (alloc_below w (.cells #[.func (.func 93) #[] #[], .func (.func 93) #[] #[]] 169)))
  have HA := Lib.hid (And.intro ((HX.out.2.block _ (heap_lt ha)).trans ha) ((HX.out.2.block _ (heap_lt hb)).trans hb))
  clear ha hb
  go_enter Tryd.func97, Tryd.ntmps97
  refine wp_seq_hid ?_
  intro K0 HK0
  go_wp2_with fail
  refine HK0.out _ _ ?_
  clear HK0 K0
  revert HX HA
  generalize w.alloc (.cells #[.func (.func 93) #[] #[], .func (.func 93) #[] #[]] 169) = w1
  intro HX HA
  have KF : Hid (∀ v, Below w1.heap.size w1 v → v.heap[w.heap.size]? = some (.cells #[.func (.func 93) #[] #[], .func (.func 93) #[] #[]] 169 (0, 0)) ∧ v.heap[ba]? = some (.cells a.arr 30 (0, 0)) ∧ v.heap[bb]? = some (.cells b.arr 30 (0, 0))) := fun v hv => ⟨(hv.block _ (heap_lt HX.out.1)).trans HX.out.1, (hv.block _ (heap_lt HA.out.1)).trans HA.out.1, (hv.block _ (heap_lt HA.out.2)).trans HA.out.2⟩
  refine wp_seq_hid ?_
  intro K1 HK1
  refine wpIn_wide.1 (rul0 (b3 := w.heap.size) (ba := ba) (bb := bb) (bx := 0) (t0 := a.pos.lo) (t1 := a.pos.hi) (t2 := a.tone.lo) (t3 := a.tone.hi) (u0 := b.pos.lo) (u1 := b.pos.hi) (u2 := b.tone.lo) (u3 := b.tone.hi) (x1 := a.tone.lo) (y1 := a.tone.hi) (x2 := b.tone.lo) (y2 := b.tone.hi) (z1 := (a.tone.cut b.tone).lo) (z2 := (a.tone.cut b.tone).hi)
    (S0 := fun fs ms v => Below w1.heap.size w1 v ∧ FreshS w1 fs ms v) (S1 := fun fs ms _ v => Below w1.heap.size w1 v ∧ FreshS w1 fs ms v) (S2 := fun fs ms _ _ v => Below w1.heap.size w1 v ∧ FreshS w1 fs ms v) (S3 := fun fs ms _ _ _ v => Below w1.heap.size w1 v ∧ FreshS w1 fs ms v) (S4 := fun fs ms _ _ _ v => Below w1.heap.size w1 v ∧ v.heap[ms]? = some (.cells (a.tone.cut b.tone).arr 24 (0, 0)))
    ?h0 ?l1 ?l2 ?c3 ?l5 ?l6 ?c7 ?c8 ?s0 ?s1 ?s2 ?s3 ?c10 ?hQ)
  case h0 => exact ⟨(Below.refl _ _).drew, FreshS.no _ _ _⟩
  case l1 => exact fun fs ms v h => by rw [cell_of_heap (KF.out v h.1).1]; rfl
  case l2 =>
    intro fs ms v h
    have hq := (KF.out v h.1).2.1
    refine ⟨?_, ?_, ?_, ?_⟩ <;> (rw [cell_of_heap hq]; rfl)
  case c3 =>
    intro fs ms v h
    refine (tone63 a v).mono ?_
    rintro e v' ⟨rfl, hb⟩
    exact ⟨(), rfl, h.1.trans (hb.mono h.1.size), h.2.mono hb⟩
  case l5 =>
    rintro fs ms _ v (h | h)
    · rw [cell_of_heap (KF.out v h.1).1]; rfl
    · rw [cell_of_heap (KF.out v h.1).1]; rfl
  case l6 =>
    rintro fs ms _ v (h | h)
    · have hq := (KF.out v h.1).2.2
      refine ⟨?_, ?_, ?_, ?_⟩ <;> (rw [cell_of_heap hq]; rfl)
    · have hq := (KF.out v h.1).2.2
      refine ⟨?_, ?_, ?_, ?_⟩ <;> (rw [cell_of_heap hq]; rfl)
  case c7 =>
    intro fs ms _ v h
    refine (tone63 b v).mono ?_
    rintro e v' ⟨rfl, hb⟩
    exact ⟨(), rfl, h.1.trans (hb.mono h.1.size), h.2.mono hb⟩
  case c8 =>
    intro fs ms _ _ v h
    refine (both68 a.tone b.tone v).mono ?_
    rintro e v' ⟨rfl, hb⟩
    exact ⟨(), rfl, h.1.trans (hb.mono h.1.size), h.2.mono hb⟩
  case s0 => exact fun v h => ⟨h.1.alloc h.1.size _, FreshS.yes h.1.size⟩
  case s1 => exact fun _ v h => ⟨h.1.alloc h.1.size _, FreshS.yes h.1.size⟩
  case s2 => exact fun _ _ v h => ⟨h.1.alloc h.1.size _, FreshS.yes h.1.size⟩
  case s3 => exact fun _ _ _ v h => ⟨h.1.alloc h.1.size _, FreshS.yes h.1.size⟩
  case c10 =>
    intro ms _ _ _ v h
    obtain ⟨g1, g2, g3, g4, g5, g6⟩ := h.2.put h.1 (.int .i64 (a.tone.cut b.tone).lo) (.int .i64 (a.tone.cut b.tone).hi)
    exact ⟨g1, g2, g3, g4, g5, g6⟩
  intro ms _ _ _ w2 h
  have HF := Lib.hid h
  clear h
  refine HK1.out _ _ ?_
  have m0 : w2.cell? ⟨ms, 0, none⟩ = some (.int .i64 (a.tone.cut b.tone).lo) := by rw [cell_of_heap HF.out.2]; rfl
  have m1 : w2.cell? ⟨ms, 1, none⟩ = some (.int .i64 (a.tone.cut b.tone).hi) := by rw [cell_of_heap HF.out.2]; rfl
  have HZ : Hid ((!(a.tone.cut b.tone).is) = decide ((a.tone.cut b.tone).hi < (a.tone.cut b.tone).lo)) := by
    unfold Spn.is
    rw [Hid, Bool.eq_iff_iff]
    simp
  revert m0 m1 HZ
  generalize (a.tone.cut b.tone).lo = zl
  generalize (a.tone.cut b.tone).hi = zh
  intro m0 m1 HZ
  go_wp2_with fail
  go_ret
  exact ⟨ret_bool HZ.out.symm, HX.out.2.trans (HF.out.1.mono HX.out.2.size)⟩
set_option maxRecDepth 100000 in
set_option maxHeartbeats 4000000 in
theorem rule1 {a b : Mrk} {ba bb : Nat} {r : Rws} {al ar : Option Addr} {cl cr bx : Nat} {w : World} (hs : a.Sm) (hn : r.Nums) (hx : w.heap[bx]? = some (.cells (r.arr al cl ar cr) 26 (0, 0))) (ha : w.heap[ba]? = some (.cells a.arr 30 (0, 0))) (hb : w.heap[bb]? = some (.cells b.arr 30 (0, 0))) :
    Calls Tryd.prog 97 #[.agg #[.func (.func 94) #[] #[.pointer (some ⟨bx, 0, none⟩)], .func (.func 95) #[] #[]], .pointer (some ⟨ba, 0, none⟩), .pointer (some ⟨bb, 0, none⟩)] w fun e w' => e = .returned (.bool (!((r.away a).cut b.pos).is)) ∧ Below w.heap.size w w' := by
  have HX := Lib.hid (And.intro (World.alloc_heap_new w (.cells #[.func (.func 94) #[] #[.pointer (some ⟨bx, 0, none⟩)], .func (.func 95) #[] #[]] 169)) (alloc_below w (.cells #[.func (.func 94) #[] #[.pointer (some ⟨bx, 0, none⟩)], .func (.func 95) #[] #[]] 169)))
  have HA := Lib.hid (And.intro ((HX.out.2.block _ (heap_lt ha)).trans ha) ((HX.out.2.block _ (heap_lt hb)).trans hb))
  have HXX := Lib.hid ((HX.out.2.block _ (heap_lt hx)).trans hx)
  have HS := Lib.hid (And.intro hs hn)
  clear hx hs hn
  clear ha hb
  go_enter Tryd.func97, Tryd.ntmps97
  refine wp_seq_hid ?_
  intro K0 HK0
  go_wp2_with fail
  refine HK0.out _ _ ?_
  clear HK0 K0
  revert HX HA HXX
  generalize w.alloc (.cells #[.func (.func 94) #[] #[.pointer (some ⟨bx, 0, none⟩)], .func (.func 95) #[] #[]] 169) = w1
  intro HX HA HXX
  have KF : Hid (∀ v, Below w1.heap.size w1 v → v.heap[w.heap.size]? = some (.cells #[.func (.func 94) #[] #[.pointer (some ⟨bx, 0, none⟩)], .func (.func 95) #[] #[]] 169 (0, 0)) ∧ v.heap[ba]? = some (.cells a.arr 30 (0, 0)) ∧ v.heap[bb]? = some (.cells b.arr 30 (0, 0)) ∧ v.heap[bx]? = some (.cells (r.arr al cl ar cr) 26 (0, 0))) := fun v hv => ⟨(hv.block _ (heap_lt HX.out.1)).trans HX.out.1, (hv.block _ (heap_lt HA.out.1)).trans HA.out.1, (hv.block _ (heap_lt HA.out.2)).trans HA.out.2, (hv.block _ (heap_lt HXX.out)).trans HXX.out⟩
  refine wp_seq_hid ?_
  intro K1 HK1
  refine wpIn_wide.1 (rul1 (b3 := w.heap.size) (ba := ba) (bb := bb) (bx := bx) (t0 := a.pos.lo) (t1 := a.pos.hi) (t2 := a.tone.lo) (t3 := a.tone.hi) (u0 := b.pos.lo) (u1 := b.pos.hi) (u2 := b.tone.lo) (u3 := b.tone.hi) (x1 := (r.away a).lo) (y1 := (r.away a).hi) (x2 := b.pos.lo) (y2 := b.pos.hi) (z1 := ((r.away a).cut b.pos).lo) (z2 := ((r.away a).cut b.pos).hi)
    (S0 := fun fs ms v => Below w1.heap.size w1 v ∧ FreshS w1 fs ms v) (S1 := fun fs ms _ v => Below w1.heap.size w1 v ∧ FreshS w1 fs ms v) (S2 := fun fs ms _ _ v => Below w1.heap.size w1 v ∧ FreshS w1 fs ms v) (S3 := fun fs ms _ _ _ v => Below w1.heap.size w1 v ∧ FreshS w1 fs ms v) (S4 := fun fs ms _ _ _ v => Below w1.heap.size w1 v ∧ v.heap[ms]? = some (.cells ((r.away a).cut b.pos).arr 24 (0, 0)))
    ?h0 ?l1 ?l2 ?c3 ?l5 ?l6 ?c7 ?c8 ?s0 ?s1 ?s2 ?s3 ?c10 ?hQ)
  case h0 => exact ⟨(Below.refl _ _).drew, FreshS.no _ _ _⟩
  case l1 => exact fun fs ms v h => by rw [cell_of_heap (KF.out v h.1).1]; rfl
  case l2 =>
    intro fs ms v h
    have hq := (KF.out v h.1).2.1
    refine ⟨?_, ?_, ?_, ?_⟩ <;> (rw [cell_of_heap hq]; rfl)
  case c3 =>
    intro fs ms v h
    refine (away64 HS.out.1 HS.out.2 (KF.out v h.1).2.2.2).mono ?_
    rintro e v' ⟨rfl, hb⟩
    exact ⟨(), rfl, h.1.trans (hb.mono h.1.size), h.2.mono hb⟩
  case l5 =>
    rintro fs ms _ v (h | h)
    · rw [cell_of_heap (KF.out v h.1).1]; rfl
    · rw [cell_of_heap (KF.out v h.1).1]; rfl
  case l6 =>
    rintro fs ms _ v (h | h)
    · have hq := (KF.out v h.1).2.2.1
      refine ⟨?_, ?_, ?_, ?_⟩ <;> (rw [cell_of_heap hq]; rfl)
    · have hq := (KF.out v h.1).2.2.1
      refine ⟨?_, ?_, ?_, ?_⟩ <;> (rw [cell_of_heap hq]; rfl)
  case c7 =>
    intro fs ms _ v h
    refine (pos65 b v).mono ?_
    rintro e v' ⟨rfl, hb⟩
    exact ⟨(), rfl, h.1.trans (hb.mono h.1.size), h.2.mono hb⟩
  case c8 =>
    intro fs ms _ _ v h
    refine (both68 (r.away a) b.pos v).mono ?_
    rintro e v' ⟨rfl, hb⟩
    exact ⟨(), rfl, h.1.trans (hb.mono h.1.size), h.2.mono hb⟩
  case s0 => exact fun v h => ⟨h.1.alloc h.1.size _, FreshS.yes h.1.size⟩
  case s1 => exact fun _ v h => ⟨h.1.alloc h.1.size _, FreshS.yes h.1.size⟩
  case s2 => exact fun _ _ v h => ⟨h.1.alloc h.1.size _, FreshS.yes h.1.size⟩
  case s3 => exact fun _ _ _ v h => ⟨h.1.alloc h.1.size _, FreshS.yes h.1.size⟩
  case c10 =>
    intro ms _ _ _ v h
    obtain ⟨g1, g2, g3, g4, g5, g6⟩ := h.2.put h.1 (.int .i64 ((r.away a).cut b.pos).lo) (.int .i64 ((r.away a).cut b.pos).hi)
    exact ⟨g1, g2, g3, g4, g5, g6⟩
  intro ms _ _ _ w2 h
  have HF := Lib.hid h
  clear h
  refine HK1.out _ _ ?_
  have m0 : w2.cell? ⟨ms, 0, none⟩ = some (.int .i64 ((r.away a).cut b.pos).lo) := by rw [cell_of_heap HF.out.2]; rfl
  have m1 : w2.cell? ⟨ms, 1, none⟩ = some (.int .i64 ((r.away a).cut b.pos).hi) := by rw [cell_of_heap HF.out.2]; rfl
  have HZ : Hid ((!((r.away a).cut b.pos).is) = decide (((r.away a).cut b.pos).hi < ((r.away a).cut b.pos).lo)) := by
    unfold Spn.is
    rw [Hid, Bool.eq_iff_iff]
    simp
  revert m0 m1 HZ
  generalize ((r.away a).cut b.pos).lo = zl
  generalize ((r.away a).cut b.pos).hi = zh
  intro m0 m1 HZ
  go_wp2_with fail
  go_ret
  exact ⟨ret_bool HZ.out.symm, HX.out.2.trans (HF.out.1.mono HX.out.2.size)⟩
end Go.Proofs.YtbnhngfegnhaiaaDoor
namespace Go.Proofs.YtbnhngfegnhaiaaDoor
open Go.RowKit
set_option linter.unusedVariables false
set_option linter.unusedSimpArgs false
/-- What stays while rules are asked. -/
structure RulI (r : Rws) (al : Option Addr) (cl : Nat) (ar : Option Addr) (cr : Nat) (a b : Mrk) (ba bb bs bx : Nat) (w : World) : Prop where
  ha : w.heap[ba]? = some (.cells a.arr 30 (0, 0))
  hb : w.heap[bb]? = some (.cells b.arr 30 (0, 0))
  hs : w.heap[bs]? = some (.cells #[.func (.func 93) #[] #[], .func (.func 93) #[] #[], .func (.func 94) #[] #[.pointer (some ⟨bx, 0, none⟩)], .func (.func 95) #[] #[]] 169 (0, 0))
  hx : w.heap[bx]? = some (.cells (r.arr al cl ar cr) 26 (0, 0))
theorem RulI.mono {r : Rws} {al ar : Option Addr} {cl cr : Nat} {a b : Mrk} {ba bb bs bx : Nat} {w w' : World} (h : RulI r al cl ar cr a b ba bb bs bx w) (hb : Below w.heap.size w w') : RulI r al cl ar cr a b ba bb bs bx w' :=
  ⟨(hb.block _ (heap_lt h.ha)).trans h.ha, (hb.block _ (heap_lt h.hb)).trans h.hb, (hb.block _ (heap_lt h.hs)).trans h.hs, (hb.block _ (heap_lt h.hx)).trans h.hx⟩
def idxE (x y : Bool) : Int := if x then 0 else if y then 1 else -1
set_option maxRecDepth 100000 in
set_option maxHeartbeats 4000000 in
theorem index80 {r : Rws} {al ar : Option Addr} {cl cr : Nat} {a b : Mrk} {ba bb bs bx : Nat} {w : World} (h : RulI r al cl ar cr a b ba bb bs bx w) (ha : a.Sm) (hn : r.Nums) :
    Calls Tryd.prog 110 #[.slice (some ⟨bs, 0, none⟩) 2 2, .func (.func 97) #[] #[.pointer (some ⟨ba, 0, none⟩), .pointer (some ⟨bb, 0, none⟩)]] w fun e w' => e = .returned (.int .i64 (idxE (!(a.tone.cut b.tone).is) (!((r.away a).cut b.pos).is))) ∧ Below w.heap.size w w' := by
  have H := Lib.hid h
  have C0 := Lib.hid (fun (v : World) (hv : RulI r al cl ar cr a b ba bb bs bx v) => rule0 hv.ha hv.hb)
  have C1 := Lib.hid (fun (v : World) (hv : RulI r al cl ar cr a b ba bb bs bx v) => rule1 ha hn hv.hx hv.ha hv.hb)
  have cf := cf67
  clear h ha hn
  revert C0 C1
  generalize (!(a.tone.cut b.tone).is) = x
  generalize (!((r.away a).cut b.pos).is) = y
  intro C0 C1
  go_enter Tryd.func110, Tryd.ntmps110
  go_wp2_with fail
  go_loopw [8] (fun i wr => ∃ k : Int, (k = 0 ∨ k = 1 ∨ k = 2) ∧ i = .int .i64 k ∧ Hid ((1 ≤ k → x = false) ∧ (2 ≤ k → y = false) ∧ Below w.heap.size w wr)) (fun i _ => 2 - (intOf i).toNat)
  case atStart => exact ⟨0, .inl rfl, rfl, ⟨fun h => by omega, fun h => by omega, Below.refl _ _⟩⟩
  case round =>
    obtain ⟨k, hk, rfl, HW⟩ := hrel
    rcases hk with rfl | rfl | rfl
    · have HR := Lib.hid (H.out.mono HW.out.2.2)
      have s0 : wr.cell? ⟨bs, 0, none⟩ = some (.func (.func 93) #[] #[]) := by rw [cell_of_heap HR.out.hs]; rfl
      have s1 : wr.cell? ⟨bs, 1, none⟩ = some (.func (.func 93) #[] #[]) := by rw [cell_of_heap HR.out.hs]; rfl
      cases hz : x
      · rw [hz] at C0
        have HZ := Lib.hid hz
        clear hz
        go_wp2_with fail
        refine (C0.out _ HR.out).mono ?_
        rintro e w' ⟨rfl, hb⟩
        have HB2 := Lib.hid (HW.out.2.2.trans (hb.mono HW.out.2.2.size))
        clear hb s0 s1
        go_wp2_with fail
        go_roundw
        case rel => exact ⟨1, .inr (.inl rfl), rfl, ⟨fun _ => by first | trivial | exact HZ.out, fun h => by omega, HB2.out⟩⟩
        case measure => simp [intOf]
      · rw [hz] at C0
        have HZ := Lib.hid hz
        clear hz
        go_wp2_with fail
        refine (C0.out _ HR.out).mono ?_
        rintro e w' ⟨rfl, hb⟩
        have HB2 := Lib.hid (HW.out.2.2.trans (hb.mono HW.out.2.2.size))
        clear hb s0 s1
        go_wp2_with fail
        go_ret
        exact ⟨ret_int (by unfold idxE; rw [HZ.out]; rfl), HB2.out⟩
    · have HR := Lib.hid (H.out.mono HW.out.2.2)
      have s0 : wr.cell? ⟨bs, 2, none⟩ = some (.func (.func 94) #[] #[.pointer (some ⟨bx, 0, none⟩)]) := by rw [cell_of_heap HR.out.hs]; rfl
      have s1 : wr.cell? ⟨bs, 3, none⟩ = some (.func (.func 95) #[] #[]) := by rw [cell_of_heap HR.out.hs]; rfl
      cases hz : y
      · rw [hz] at C1
        have HZ := Lib.hid hz
        clear hz
        go_wp2_with fail
        refine (C1.out _ HR.out).mono ?_
        rintro e w' ⟨rfl, hb⟩
        have HB2 := Lib.hid (HW.out.2.2.trans (hb.mono HW.out.2.2.size))
        clear hb s0 s1
        go_wp2_with fail
        go_roundw
        case rel => exact ⟨2, .inr (.inr rfl), rfl, ⟨fun _ => HW.out.1 (by omega), fun _ => by first | trivial | exact HZ.out, HB2.out⟩⟩
        case measure => simp [intOf]
      · rw [hz] at C1
        have HZ := Lib.hid hz
        clear hz
        go_wp2_with fail
        refine (C1.out _ HR.out).mono ?_
        rintro e w' ⟨rfl, hb⟩
        have HB2 := Lib.hid (HW.out.2.2.trans (hb.mono HW.out.2.2.size))
        clear hb s0 s1
        go_wp2_with fail
        go_ret
        exact ⟨ret_int (by unfold idxE; rw [HW.out.1 (by omega), HZ.out]; rfl), HB2.out⟩
    · go_wp2_with fail
      go_ret
      exact ⟨ret_int (by unfold idxE; rw [HW.out.1 (by omega), HW.out.2.1 (by omega)]; rfl), HW.out.2.2⟩
theorem has66 {r : Rws} {al ar : Option Addr} {cl cr : Nat} {a b : Mrk} {ba bb bs bx : Nat} {w : World} (h : RulI r al cl ar cr a b ba bb bs bx w) (ha : a.Sm) (hn : r.Nums) :
    Calls Tryd.prog 96 #[.slice (some ⟨bs, 0, none⟩) 2 2, .func (.func 97) #[] #[.pointer (some ⟨ba, 0, none⟩), .pointer (some ⟨bb, 0, none⟩)]] w fun e w' => e = .returned (.bool (!fitM r a b)) ∧ Below w.heap.size w w' := by
  have HC := Lib.hid (index80 h ha hn)
  have HZ : Hid (decide (0 ≤ idxE (!(a.tone.cut b.tone).is) (!((r.away a).cut b.pos).is)) = !fitM r a b) := by
    unfold fitM idxE
    rw [Hid]
    cases (a.tone.cut b.tone).is <;> cases ((r.away a).cut b.pos).is <;> rfl
  clear h ha hn
  revert HC HZ
  generalize idxE (!(a.tone.cut b.tone).is) (!((r.away a).cut b.pos).is) = z
  intro HC HZ
  go_enter Tryd.func96, Tryd.ntmps96
  go_wp2_with fail
  refine HC.out.mono ?_
  rintro e w' ⟨rfl, hb⟩
  have HB2 := Lib.hid hb
  clear hb
  go_wp2_with fail
  go_ret
  exact ⟨ret_bool HZ.out, HB2.out⟩
end Go.Proofs.YtbnhngfegnhaiaaDoor
namespace Go.Proofs.YtbnhngfegnhaiaaDoor
open Go.RowKit
set_option linter.unusedVariables false
set_option linter.unusedSimpArgs false
/-- The cells of rows that are looked at. -/
def tabL (T : Nat → Bool) : List Value := (List.range 100).map fun j => .bool (T j)
def rowsL (r : Rws) (al : Option Addr) (cl : Nat) (ar : Option Addr) (cr : Nat) (T : Nat → Bool) (need : Int) : List Value :=
  [.slice al r.left.length cl, .slice ar r.right.length cr, .int .i64 r.shift.lo, .int .i64 r.shift.hi, .int .i64 r.hidden] ++ (tabL T ++ [.int .i64 need])
theorem tabL_len (T : Nat → Bool) : (tabL T).length = 100 := by simp [tabL]
theorem tabL_get (T : Nat → Bool) {j : Nat} (h : j < 100) : (tabL T)[j]? = some (.bool (T j)) := by simp [tabL, h]
theorem tabL_set (T : Nat → Bool) {j : Nat} (h : j < 100) (v : Bool) : (tabL T).set j (.bool v) = tabL fun x => if x = j then v else T x := by
  apply List.ext_getElem?
  intro k
  by_cases hk : k < 100
  · rw [tabL_get _ hk, List.getElem?_set]
    by_cases he : j = k
    · subst he
      rw [if_pos rfl, if_pos (by rw [tabL_len]; exact h), if_pos rfl]
    · rw [if_neg he, tabL_get _ hk, if_neg (fun h => he h.symm)]
  · rw [List.getElem?_eq_none (by rw [List.length_set, tabL_len]; omega), List.getElem?_eq_none (by rw [tabL_len]; omega)]
theorem rowsL_len (r : Rws) (al : Option Addr) (cl : Nat) (ar : Option Addr) (cr : Nat) (T : Nat → Bool) (need : Int) : (rowsL r al cl ar cr T need).length = 106 := by
  simp [rowsL, tabL_len]
theorem rowsL_tab (r : Rws) (al : Option Addr) (cl : Nat) (ar : Option Addr) (cr : Nat) (T : Nat → Bool) (need : Int) {j : Nat} (h : j < 100) : (rowsL r al cl ar cr T need)[5 + j]? = some (.bool (T j)) := by
  unfold rowsL
  rw [List.getElem?_append_right (by show 5 ≤ 5 + j; omega), List.getElem?_append_left (by rw [tabL_len]; show 5 + j - 5 < 100; omega)]
  show (tabL T)[5 + j - 5]? = _
  rw [show 5 + j - 5 = j by omega]
  exact tabL_get T h
theorem rowsL_need (r : Rws) (al : Option Addr) (cl : Nat) (ar : Option Addr) (cr : Nat) (T : Nat → Bool) (need : Int) : (rowsL r al cl ar cr T need)[105]? = some (.int .i64 need) := by
  unfold rowsL
  rw [List.getElem?_append_right (by show 5 ≤ 105; omega), List.getElem?_append_right (by rw [tabL_len]; show 100 ≤ 105 - 5; omega), tabL_len]
  rfl
theorem rowsL_set (r : Rws) (al : Option Addr) (cl : Nat) (ar : Option Addr) (cr : Nat) (T : Nat → Bool) (need : Int) {j : Nat} (h : j < 100) (v : Bool) : (rowsL r al cl ar cr T need).set (5 + j) (.bool v) = rowsL r al cl ar cr (fun x => if x = j then v else T x) need := by
  unfold rowsL
  rw [List.set_append, if_neg (by show ¬ 5 + j < 5; omega), List.set_append, if_pos (by rw [tabL_len]; show 5 + j - 5 < 100; omega)]
  show _ ++ ((tabL T).set (5 + j - 5) (.bool v) ++ _) = _
  rw [show 5 + j - 5 = j by omega, tabL_set T h]
/-- Rows that are looked at, in memory. -/
structure IsRws (w : World) (b : Nat) (r : Rws) (al : Option Addr) (cl : Nat) (ar : Option Addr) (cr : Nat) (T : Nat → Bool) (need : Int) : Prop where
  h : w.heap[b]? = some (.cells (rowsL r al cl ar cr T need).toArray 130 (0, 0))
  lm : IsMks w al r.left
  rm : IsMks w ar r.right
theorem IsRws.mono {w w' : World} {b : Nat} {r : Rws} {al ar : Option Addr} {cl cr : Nat} {T : Nat → Bool} {need : Int} (h : IsRws w b r al cl ar cr T need) (hb : Below w.heap.size w w') : IsRws w' b r al cl ar cr T need := ⟨(hb.block _ (heap_lt h.h)).trans h.h, h.lm.mono hb, h.rm.mono hb⟩
theorem IsRws.tab {w : World} {b : Nat} {r : Rws} {al ar : Option Addr} {cl cr : Nat} {T : Nat → Bool} {need : Int} (h : IsRws w b r al cl ar cr T need) {j : Nat} (hj : j < 100) : w.cell? ⟨b, 5 + j, none⟩ = some (.bool (T j)) := by
  rw [cell_of_heap h.h, List.getElem?_toArray, rowsL_tab _ _ _ _ _ _ _ hj]
theorem IsRws.need {w : World} {b : Nat} {r : Rws} {al ar : Option Addr} {cl cr : Nat} {T : Nat → Bool} {need : Int} (h : IsRws w b r al cl ar cr T need) : w.cell? ⟨b, 105, none⟩ = some (.int .i64 need) := by
  rw [cell_of_heap h.h, List.getElem?_toArray, rowsL_need]
theorem IsRws.left {w : World} {b : Nat} {r : Rws} {al ar : Option Addr} {cl cr : Nat} {T : Nat → Bool} {need : Int} (h : IsRws w b r al cl ar cr T need) : w.cell? ⟨b, 0, none⟩ = some (.slice al r.left.length cl) := by
  rw [cell_of_heap h.h]; rfl
theorem IsRws.right {w : World} {b : Nat} {r : Rws} {al ar : Option Addr} {cl cr : Nat} {T : Nat → Bool} {need : Int} (h : IsRws w b r al cl ar cr T need) : w.cell? ⟨b, 1, none⟩ = some (.slice ar r.right.length cr) := by
  rw [cell_of_heap h.h]; rfl
structure lok11F (b3 : Nat) (i : Nat) (k : Nat) (bs : Nat) (ba : Nat) (bb : Nat) (z : Bool) (S0 : World → Prop) (S1 : Unit → World → Prop) (S2 : Unit → World → Prop) (d : Nat → Bool) (x49 x50 x51 x52 x53 x54 x55 x56 x57 x58 x59 : Value) (u1 : Unit) (w : World) : Prop where
  q5 : d 5 = true → d 3 = true ∧ d 4 = true
  q6 : d 6 = true → d 5 = true
  q7 : d 7 = true → d 0 = true
  q8 : d 8 = true → d 7 = true
  q9 : d 9 = true → d 1 = true ∧ d 8 = true
  q10 : d 10 = true → d 0 = true ∧ d 1 = true ∧ d 2 = true ∧ d 3 = true ∧ d 4 = true ∧ d 5 = true ∧ d 6 = true ∧ d 9 = true
  q11 : d 11 = true → d 0 = true ∧ d 1 = true ∧ d 2 = true ∧ d 3 = true ∧ d 4 = true ∧ d 5 = true ∧ d 6 = true ∧ d 10 = true
  f0 : d 0 = true → x49 = .pointer (some ⟨b3, 0, none⟩)
  f1 : d 1 = true → x50 = .int .i64 i
  f2 : d 2 = true → x51 = .int .i64 k
  f3 : d 3 = true → x52 = .slice (some ⟨bs, 0, none⟩) 2 2
  f4 : d 4 = true → x53 = .func (.func 97) #[] #[.pointer (some ⟨ba, 0, none⟩), .pointer (some ⟨bb, 0, none⟩)]
  f5 : d 5 = true → x54 = .bool (!z)
  f6 : d 6 = true → x55 = .bool z
  f7 : d 7 = true → x56 = .pointer (some ⟨b3, 0, none⟩)
  f8 : d 8 = true → x57 = .pointer (some ⟨b3, 5, none⟩)
  f9 : d 9 = true → x58 = .pointer (some ⟨b3, 5 + i * 10, none⟩)
  f10 : d 10 = true → x59 = .pointer (some ⟨b3, 5 + i * 10 + k, none⟩)
  st0 : d 5 = false → S0 w
  st1 : d 5 = true → d 11 = false → S1 u1 w
  st2 : d 11 = true → S2 u1 w
noncomputable def lok11C : Code := (Tryd.f59.body.bind (regionAt 11)).getD .skip
set_option maxRecDepth 100000 in
set_option maxHeartbeats 4000000 in
theorem lok11 {b3 : Nat} {i : Nat} {k : Nat} {bs : Nat} {ba : Nat} {bb : Nat} {z : Bool} {S0 : World → Prop} {S1 : Unit → World → Prop} {S2 : Unit → World → Prop} {Q : Exit → Act → World → Prop} {W1 : World} (hi1 : (0 : Int) ≤ i) (hi2 : (i : Int) < 10) (hk1 : (0 : Int) ≤ k) (hk2 : (k : Int) < 10) (h0 : S0 W1.drew)
    (kc5 : Hid (∀ (w : World), S0 w → Calls Tryd.prog 96 #[.slice (some ⟨bs, 0, none⟩) 2 2, .func (.func 97) #[] #[.pointer (some ⟨ba, 0, none⟩), .pointer (some ⟨bb, 0, none⟩)]] w fun e w' => ∃ u1 : Unit, e = .returned (.bool (!z)) ∧ S1 u1 w'))
    (kc11 : Hid (∀ (u1 : Unit) (w : World), S1 u1 w → (∃ u, w.cell? ⟨b3, 5 + i * 10 + k, none⟩ = some u) ∧ w.frozen? ⟨b3, 5 + i * 10 + k, none⟩ = false ∧ S2 u1 (w.setCell ⟨b3, 5 + i * 10 + k, none⟩ (.bool z))))
    {s0 s1 s2 s4 s5 s11 s12 s13 s14 s15 s16 s17 s18 s19 s20 s21 s22 s23 s24 s25 s26 s27 s28 s29 s30 s31 s32 s33 s34 s35 s36 s37 s38 s39 s40 s41 s42 s43 s44 s45 s46 s47 s48 s49 s50 s51 s52 s53 s54 s55 s56 s57 s58 s59 s60 s61 s62 : Value} {dd : List Deferred}
    (hQ : ∀ (u1 : Unit) (w' : World), S2 u1 w' → Q .normal { tmps := #[s0, s1, s2, .pointer (some ⟨b3, 0, none⟩), s4, s5, .slice (some ⟨bs, 0, none⟩) 2 2, .int .i64 i, .pointer (some ⟨ba, 0, none⟩), .int .i64 k, .pointer (some ⟨bb, 0, none⟩), s11, s12, s13, s14, s15, s16, s17, s18, s19, s20, s21, s22, s23, s24, s25, s26, s27, s28, s29, s30, s31, s32, s33, s34, s35, s36, s37, s38, s39, s40, s41, s42, s43, s44, s45, s46, s47, s48, .pointer (some ⟨b3, 0, none⟩), .int .i64 i, .int .i64 k, .slice (some ⟨bs, 0, none⟩) 2 2, .func (.func 97) #[] #[.pointer (some ⟨ba, 0, none⟩), .pointer (some ⟨bb, 0, none⟩)], .bool (!z), .bool z, .pointer (some ⟨b3, 0, none⟩), .pointer (some ⟨b3, 5, none⟩), .pointer (some ⟨b3, 5 + i * 10, none⟩), .pointer (some ⟨b3, 5 + i * 10 + k, none⟩), s60, s61, s62], defers := dd } w') :
    Code.wpIn (wideAt none) 0 Tryd.prog lok11C Q { tmps := #[s0, s1, s2, .pointer (some ⟨b3, 0, none⟩), s4, s5, .slice (some ⟨bs, 0, none⟩) 2 2, .int .i64 i, .pointer (some ⟨ba, 0, none⟩), .int .i64 k, .pointer (some ⟨bb, 0, none⟩), s11, s12, s13, s14, s15, s16, s17, s18, s19, s20, s21, s22, s23, s24, s25, s26, s27, s28, s29, s30, s31, s32, s33, s34, s35, s36, s37, s38, s39, s40, s41, s42, s43, s44, s45, s46, s47, s48, s49, s50, s51, s52, s53, s54, s55, s56, s57, s58, s59, s60, s61, s62], defers := dd } W1 := by
  have HQ := Lib.hid hQ
  clear hQ
  conv => arg 4; whnf
  refine wpIn_region_invG mixed (by kernel_rfl) (fun d_ a_ w' => ∃ (x49 : Value) (x50 : Value) (x51 : Value) (x52 : Value) (x53 : Value) (x54 : Value) (x55 : Value) (x56 : Value) (x57 : Value) (x58 : Value) (x59 : Value) (u1 : Unit), a_ = { tmps := #[s0, s1, s2, .pointer (some ⟨b3, 0, none⟩), s4, s5, .slice (some ⟨bs, 0, none⟩) 2 2, .int .i64 i, .pointer (some ⟨ba, 0, none⟩), .int .i64 k, .pointer (some ⟨bb, 0, none⟩), s11, s12, s13, s14, s15, s16, s17, s18, s19, s20, s21, s22, s23, s24, s25, s26, s27, s28, s29, s30, s31, s32, s33, s34, s35, s36, s37, s38, s39, s40, s41, s42, s43, s44, s45, s46, s47, s48, x49, x50, x51, x52, x53, x54, x55, x56, x57, x58, x59, s60, s61, s62], defers := dd } ∧ lok11F b3 i k bs ba bb z S0 S1 S2 d_ x49 x50 x51 x52 x53 x54 x55 x56 x57 x58 x59 u1 w') ?_ ?_ ?_
  · refine ⟨s49, s50, s51, s52, s53, s54, s55, s56, s57, s58, s59, default, rfl, ?_⟩
    constructor <;> first | rfl | (intro _; rfl) | (intro h; cases h; done) | (intro _; exact h0) | exact h0
  · refine ⟨?_, ?_, ?_, ?_, ?_, ?_, ?_, ?_, ?_, ?_, ?_, ?_, trivial⟩
    all_goals
      rintro d_ a_ w1 K hd_ hdep ⟨x49, x50, x51, x52, x53, x54, x55, x56, x57, x58, x59, u1, rfl, F⟩ HK
      simp [Region.binds] at hdep
    · have HF : Hid (lok11F b3 i k bs ba bb z S0 S1 S2 (upd d_ 0) (.pointer (some ⟨b3, 0, none⟩)) x50 x51 x52 x53 x54 x55 x56 x57 x58 x59 u1 w1) := ⟨F.q5, F.q6, fun h => rfl, F.q8, F.q9, fun h => andM0 (F.q10 h) rfl, fun h => andM0 (F.q11 h) rfl, fun _ => rfl, F.f1, F.f2, F.f3, F.f4, F.f5, F.f6, F.f7, F.f8, F.f9, F.f10, F.st0, F.st1, F.st2⟩
      clear F
      go_simp
      exact HK.out _ _ ⟨_, _, _, _, _, _, _, _, _, _, _, _, rfl, HF.out⟩
    · have HF : Hid (lok11F b3 i k bs ba bb z S0 S1 S2 (upd d_ 1) x49 (.int .i64 i) x51 x52 x53 x54 x55 x56 x57 x58 x59 u1 w1) := ⟨F.q5, F.q6, F.q7, F.q8, fun h => andM0 (F.q9 h) rfl, fun h => andM1 (F.q10 h) rfl, fun h => andM1 (F.q11 h) rfl, F.f0, fun _ => rfl, F.f2, F.f3, F.f4, F.f5, F.f6, F.f7, F.f8, F.f9, F.f10, F.st0, F.st1, F.st2⟩
      clear F
      go_simp
      exact HK.out _ _ ⟨_, _, _, _, _, _, _, _, _, _, _, _, rfl, HF.out⟩
    · have HF : Hid (lok11F b3 i k bs ba bb z S0 S1 S2 (upd d_ 2) x49 x50 (.int .i64 k) x52 x53 x54 x55 x56 x57 x58 x59 u1 w1) := ⟨F.q5, F.q6, F.q7, F.q8, F.q9, fun h => andM2 (F.q10 h) rfl, fun h => andM2 (F.q11 h) rfl, F.f0, F.f1, fun _ => rfl, F.f3, F.f4, F.f5, F.f6, F.f7, F.f8, F.f9, F.f10, F.st0, F.st1, F.st2⟩
      clear F
      go_simp
      exact HK.out _ _ ⟨_, _, _, _, _, _, _, _, _, _, _, _, rfl, HF.out⟩
    · have HF : Hid (lok11F b3 i k bs ba bb z S0 S1 S2 (upd d_ 3) x49 x50 x51 (.slice (some ⟨bs, 0, none⟩) 2 2) x53 x54 x55 x56 x57 x58 x59 u1 w1) := ⟨fun h => andM0 (F.q5 h) rfl, F.q6, F.q7, F.q8, F.q9, fun h => andM3 (F.q10 h) rfl, fun h => andM3 (F.q11 h) rfl, F.f0, F.f1, F.f2, fun _ => rfl, F.f4, F.f5, F.f6, F.f7, F.f8, F.f9, F.f10, F.st0, F.st1, F.st2⟩
      clear F
      go_simp
      exact HK.out _ _ ⟨_, _, _, _, _, _, _, _, _, _, _, _, rfl, HF.out⟩
    · have HF : Hid (lok11F b3 i k bs ba bb z S0 S1 S2 (upd d_ 4) x49 x50 x51 x52 (.func (.func 97) #[] #[.pointer (some ⟨ba, 0, none⟩), .pointer (some ⟨bb, 0, none⟩)]) x54 x55 x56 x57 x58 x59 u1 w1) := ⟨fun h => andL1 (F.q5 h) rfl, F.q6, F.q7, F.q8, F.q9, fun h => andM4 (F.q10 h) rfl, fun h => andM4 (F.q11 h) rfl, F.f0, F.f1, F.f2, F.f3, fun _ => rfl, F.f5, F.f6, F.f7, F.f8, F.f9, F.f10, F.st0, F.st1, F.st2⟩
      clear F
      go_simp
      exact HK.out _ _ ⟨_, _, _, _, _, _, _, _, _, _, _, _, rfl, HF.out⟩
    · have hS := F.st0  hd_
      obtain rfl := F.f3 (by simp [hdep])
      obtain rfl := F.f4 (by simp [hdep])
      have hc := kc5.out w1 hS
      have HF := Lib.hid F
      clear F
      go_simp
      refine ⟨trivial, rfl, wideAt_calls (hc.mono ?_)⟩
      rintro e w5 ⟨v_, rfl, hres⟩
      exact HK.out _ _ ⟨_, _, _, _, _, _, _, _, _, _, _, v_, rfl, ⟨fun _ => ⟨(show _ from (by simp [hdep] : d_ 3 = true)), (show _ from (by simp [hdep] : d_ 4 = true))⟩, fun h => rfl, HF.out.q7, HF.out.q8, HF.out.q9, fun h => ⟨(HF.out.q10 h).1, (HF.out.q10 h).2.1, (HF.out.q10 h).2.2.1, (HF.out.q10 h).2.2.2.1, (HF.out.q10 h).2.2.2.2.1, rfl, (HF.out.q10 h).2.2.2.2.2.2.1, (HF.out.q10 h).2.2.2.2.2.2.2⟩, fun h => ⟨(HF.out.q11 h).1, (HF.out.q11 h).2.1, (HF.out.q11 h).2.2.1, (HF.out.q11 h).2.2.2.1, (HF.out.q11 h).2.2.2.2.1, rfl, (HF.out.q11 h).2.2.2.2.2.2.1, (HF.out.q11 h).2.2.2.2.2.2.2⟩, HF.out.f0, HF.out.f1, HF.out.f2, HF.out.f3, HF.out.f4, fun _ => rfl, HF.out.f6, HF.out.f7, HF.out.f8, HF.out.f9, HF.out.f10, fun h => (by simp [upd] at h), fun _ _ => hres, fun h => (by have h2 : d_ 5 = true := (HF.out.q11 h).2.2.2.2.2.1; rw [show d_ 5 = false from hd_] at h2; cases h2)⟩⟩
    · obtain rfl := F.f5 (by simp [hdep])
      have HF : Hid (lok11F b3 i k bs ba bb z S0 S1 S2 (upd d_ 6) x49 x50 x51 x52 x53 (.bool (!z)) (.bool z) x56 x57 x58 x59 u1 w1) := ⟨F.q5, fun _ => (show _ from (by simp [hdep] : d_ 5 = true)), F.q7, F.q8, F.q9, fun h => andM6 (F.q10 h) rfl, fun h => andM6 (F.q11 h) rfl, F.f0, F.f1, F.f2, F.f3, F.f4, F.f5, fun _ => rfl, F.f7, F.f8, F.f9, F.f10, F.st0, F.st1, F.st2⟩
      clear F
      go_simp
      exact HK.out _ _ ⟨_, _, _, _, _, _, _, _, _, _, _, _, rfl, HF.out⟩
    · obtain rfl := F.f0 (by simp [hdep])
      have HF : Hid (lok11F b3 i k bs ba bb z S0 S1 S2 (upd d_ 7) (.pointer (some ⟨b3, 0, none⟩)) x50 x51 x52 x53 x54 x55 (.pointer (some ⟨b3, 0, none⟩)) x57 x58 x59 u1 w1) := ⟨F.q5, F.q6, fun _ => (show _ from (by simp [hdep] : d_ 0 = true)), fun h => rfl, F.q9, F.q10, F.q11, F.f0, F.f1, F.f2, F.f3, F.f4, F.f5, F.f6, fun _ => rfl, F.f8, F.f9, F.f10, F.st0, F.st1, F.st2⟩
      clear F
      go_simp
      exact HK.out _ _ ⟨_, _, _, _, _, _, _, _, _, _, _, _, rfl, HF.out⟩
    · obtain rfl := F.f7 (by simp [hdep])
      have HF : Hid (lok11F b3 i k bs ba bb z S0 S1 S2 (upd d_ 8) x49 x50 x51 x52 x53 x54 x55 (.pointer (some ⟨b3, 0, none⟩)) (.pointer (some ⟨b3, 5, none⟩)) x58 x59 u1 w1) := ⟨F.q5, F.q6, F.q7, fun _ => (show _ from (by simp [hdep] : d_ 7 = true)), fun h => andL1 (F.q9 h) rfl, F.q10, F.q11, F.f0, F.f1, F.f2, F.f3, F.f4, F.f5, F.f6, F.f7, fun _ => rfl, F.f9, F.f10, F.st0, F.st1, F.st2⟩
      clear F
      go_simp
      exact HK.out _ _ ⟨_, _, _, _, _, _, _, _, _, _, _, _, rfl, HF.out⟩
    · obtain rfl := F.f1 (by simp [hdep])
      obtain rfl := F.f8 (by simp [hdep])
      have HF : Hid (lok11F b3 i k bs ba bb z S0 S1 S2 (upd d_ 9) x49 (.int .i64 i) x51 x52 x53 x54 x55 x56 (.pointer (some ⟨b3, 5, none⟩)) (.pointer (some ⟨b3, 5 + i * 10, none⟩)) x59 u1 w1) := ⟨F.q5, F.q6, F.q7, F.q8, fun _ => ⟨(show _ from (by simp [hdep] : d_ 1 = true)), (show _ from (by simp [hdep] : d_ 8 = true))⟩, fun h => andL7 (F.q10 h) rfl, F.q11, F.f0, F.f1, F.f2, F.f3, F.f4, F.f5, F.f6, F.f7, F.f8, fun _ => rfl, F.f10, F.st0, F.st1, F.st2⟩
      clear F
      go_simp
      exact HK.out _ _ ⟨_, _, _, _, _, _, _, _, _, _, _, _, rfl, HF.out⟩
    · obtain rfl := F.f2 (by simp [hdep])
      obtain rfl := F.f9 (by simp [hdep])
      have HF : Hid (lok11F b3 i k bs ba bb z S0 S1 S2 (upd d_ 10) x49 x50 (.int .i64 k) x52 x53 x54 x55 x56 x57 (.pointer (some ⟨b3, 5 + i * 10, none⟩)) (.pointer (some ⟨b3, 5 + i * 10 + k, none⟩)) u1 w1) := ⟨F.q5, F.q6, F.q7, F.q8, F.q9, fun _ => ⟨(show _ from (by simp [hdep] : d_ 0 = true)), (show _ from (by simp [hdep] : d_ 1 = true)), (show _ from (by simp [hdep] : d_ 2 = true)), (show _ from (by simp [hdep] : d_ 3 = true)), (show _ from (by simp [hdep] : d_ 4 = true)), (show _ from (by simp [hdep] : d_ 5 = true)), (show _ from (by simp [hdep] : d_ 6 = true)), (show _ from (by simp [hdep] : d_ 9 = true))⟩, fun h => andL7 (F.q11 h) rfl, F.f0, F.f1, F.f2, F.f3, F.f4, F.f5, F.f6, F.f7, F.f8, F.f9, fun _ => rfl, F.st0, F.st1, F.st2⟩
      clear F
      go_simp
      exact HK.out _ _ ⟨_, _, _, _, _, _, _, _, _, _, _, _, rfl, HF.out⟩
    · have hS := F.st1 (by simp [hdep] : d_ 5 = true) hd_
      obtain rfl := F.f6 (by simp [hdep])
      obtain rfl := F.f10 (by simp [hdep])
      obtain ⟨⟨ku0, kcell0⟩, kfr0, hres⟩ := kc11.out u1 w1 hS
      have HF : Hid (lok11F b3 i k bs ba bb z S0 S1 S2 (upd d_ 11) x49 x50 x51 x52 x53 x54 (.bool z) x56 x57 x58 (.pointer (some ⟨b3, 5 + i * 10 + k, none⟩)) u1 (w1.setCell ⟨b3, 5 + i * 10 + k, none⟩ (.bool z))) := ⟨F.q5, F.q6, F.q7, F.q8, F.q9, F.q10, fun _ => ⟨(show _ from (by simp [hdep] : d_ 0 = true)), (show _ from (by simp [hdep] : d_ 1 = true)), (show _ from (by simp [hdep] : d_ 2 = true)), (show _ from (by simp [hdep] : d_ 3 = true)), (show _ from (by simp [hdep] : d_ 4 = true)), (show _ from (by simp [hdep] : d_ 5 = true)), (show _ from (by simp [hdep] : d_ 6 = true)), (show _ from (by simp [hdep] : d_ 10 = true))⟩, F.f0, F.f1, F.f2, F.f3, F.f4, F.f5, F.f6, F.f7, F.f8, F.f9, F.f10, fun h => (by have h2 : d_ 5 = false := h; rw [(by simp [hdep] : d_ 5 = true)] at h2; cases h2), fun _ h => (by simp [upd] at h), fun _ => hres⟩
      clear F hS hres
      go_simp
      exact HK.out _ _ ⟨_, _, _, _, _, _, _, _, _, _, _, _, rfl, HF.out⟩
  · rintro d_ a_ w1 hall ⟨x49, x50, x51, x52, x53, x54, x55, x56, x57, x58, x59, u1, rfl, F⟩
    have hall' : ∀ k, k < 12 → d_ k = true := hall
    obtain rfl := F.f0 (hall' 0 (by decide))
    obtain rfl := F.f1 (hall' 1 (by decide))
    obtain rfl := F.f2 (hall' 2 (by decide))
    obtain rfl := F.f3 (hall' 3 (by decide))
    obtain rfl := F.f4 (hall' 4 (by decide))
    obtain rfl := F.f5 (hall' 5 (by decide))
    obtain rfl := F.f6 (hall' 6 (by decide))
    obtain rfl := F.f7 (hall' 7 (by decide))
    obtain rfl := F.f8 (hall' 8 (by decide))
    obtain rfl := F.f9 (hall' 9 (by decide))
    obtain rfl := F.f10 (hall' 10 (by decide))
    have hst := F.st2 (hall' 11 (by decide))
    exact HQ.out u1 w1 hst
theorem zero130 : Tryd.zeroCells130 = (([Value.slice none 0 0, .slice none 0 0, .int .i64 0, .int .i64 0, .int .i64 0] : List Value) ++ (tabL (fun _ => false) ++ [Value.int .i64 0])).toArray := by rfl
theorem build130 (r : Rws) (al : Option Addr) (cl : Nat) (ar : Option Addr) (cr : Nat) (need : Int) : ((((((Tryd.zeroCells130.setIfInBounds 0 (.slice al r.left.length cl)).setIfInBounds 1 (.slice ar r.right.length cr)).setIfInBounds 2 (.int .i64 r.shift.lo)).setIfInBounds 3 (.int .i64 r.shift.hi)).setIfInBounds 4 (.int .i64 r.hidden)).setIfInBounds 105 (.int .i64 need)) = (rowsL r al cl ar cr (fun _ => false) need).toArray := by
  rw [zero130]
  simp only [List.setIfInBounds_toArray]
  congr 1
/-- The table when some rows, and some of the next one, are through. -/
def tI (r : Rws) (i k : Nat) : Nat → Bool := fun j => r.fit (j / 10) (j % 10) && (decide (j / 10 < i) || (decide (j / 10 = i) && decide (j % 10 < k)))
theorem tI_zero (r : Rws) : tI r 0 0 = fun _ => false := by
  funext j
  simp [tI]
theorem tI_next (r : Rws) (i : Nat) : tI r i r.right.length = tI r (i + 1) 0 := by
  funext j
  unfold tI
  by_cases h : j % 10 < r.right.length
  · by_cases h1 : j / 10 < i
    · simp [h1, show j / 10 < i + 1 by omega]
    · by_cases h2 : j / 10 = i
      · simp [h2, h]
      · simp [h1, h2, show ¬ j / 10 < i + 1 by omega]
  · have : r.fit (j / 10) (j % 10) = false := by simp [Rws.fit, h]
    simp [this]
theorem tI_end (r : Rws) : tI r r.left.length 0 = fun j => r.fit (j / 10) (j % 10) := by
  funext j
  unfold tI
  by_cases h : j / 10 < r.left.length
  · simp [h]
  · have : r.fit (j / 10) (j % 10) = false := by simp [Rws.fit, h]
    simp [this]
theorem tI_set (r : Rws) {i k : Nat} (hi : i < r.left.length) (hk : k < r.right.length) (hk2 : k < 10) : (fun x => if x = i * 10 + k then fitM r (gm r.left i) (gm r.right k) else tI r i k x) = tI r i (k + 1) := by
  funext x
  by_cases hx : x = i * 10 + k
  · rw [if_pos hx]
    unfold tI Rws.fit
    have h1 : x / 10 = i := by omega
    have h2 : x % 10 = k := by omega
    rw [h1, h2]
    simp [hi, hk]
  · rw [if_neg hx]
    unfold tI
    by_cases h1 : x / 10 = i
    · have h2 : x % 10 ≠ k := fun h2 => hx (by omega)
      have h3 : decide (x % 10 < k + 1) = decide (x % 10 < k) := by
        rw [Bool.eq_iff_iff]
        simp
        omega
      rw [h3]
    · simp [h1]
/-- What stays while rows are looked at. -/
structure LokI (w0 : World) (b3 bs : Nat) (r : Rws) (al : Option Addr) (cl : Nat) (ar : Option Addr) (cr : Nat) (T : Nat → Bool) (v : World) : Prop where
  below : Below w0.heap.size w0 v
  box : v.heap[w0.heap.size]? = some (.cells (r.arr al cl ar cr) 26 (0, 0))
  tab : v.heap[b3]? = some (.cells (rowsL r al cl ar cr T r.need).toArray 130 (0, 0))
  rules : v.heap[bs]? = some (.cells #[.func (.func 93) #[] #[], .func (.func 93) #[] #[], .func (.func 94) #[] #[.pointer (some ⟨w0.heap.size, 0, none⟩)], .func (.func 95) #[] #[]] 169 (0, 0))
theorem LokI.mono {w0 v v' : World} {b3 bs : Nat} {r : Rws} {al ar : Option Addr} {cl cr : Nat} {T : Nat → Bool} (h : LokI w0 b3 bs r al cl ar cr T v) (hb : Below v.heap.size v v') : LokI w0 b3 bs r al cl ar cr T v' :=
  ⟨h.below.trans (hb.mono h.below.size), (hb.block _ (heap_lt h.box)).trans h.box, (hb.block _ (heap_lt h.tab)).trans h.tab, (hb.block _ (heap_lt h.rules)).trans h.rules⟩
theorem LokI.put {w0 v : World} {b3 bs : Nat} {r : Rws} {al ar : Option Addr} {cl cr : Nat} {T : Nat → Bool} (h : LokI w0 b3 bs r al cl ar cr T v) (h3 : w0.heap.size < b3) {j : Nat} (hj : j < 100) (z : Bool) :
    LokI w0 b3 bs r al cl ar cr (fun x => if x = j then z else T x) (v.setCell ⟨b3, 5 + j, none⟩ (.bool z)) := by
  have hne : bs ≠ b3 := by
    intro e
    subst e
    have h1 := h.tab
    rw [h.rules] at h1
    simp only [Option.some.injEq, Obj.cells.injEq] at h1
    exact absurd h1.2.1 (by decide)
  refine ⟨h.below.setCell (p := ⟨b3, 5 + j, none⟩) (by show _ ≤ b3; omega) _, (Below.heap_setCell _ _ _ _ (by show _ ≠ b3; omega)).trans h.box, ?_, (Below.heap_setCell _ _ _ _ hne).trans h.rules⟩
  have h1 := heap_setCell_at (k := 5 + j) h.tab (.bool z)
  rw [List.setIfInBounds_toArray, rowsL_set _ _ _ _ _ _ _ hj] at h1
  exact h1
set_option maxRecDepth 100000 in
set_option maxHeartbeats 8000000 in
theorem look46 {r : Rws} {al ar : Option Addr} {cl cr : Nat} {w : World} (hn : r.Nums) (h1 : IsMks w al r.left) (h2 : IsMks w ar r.right) :
    Calls Tryd.prog 59 #[r.v al cl ar cr] w fun e w' => ∃ b, e = .returned (.pointer (some ⟨b, 0, none⟩)) ∧ w.heap.size ≤ b ∧ IsRws w' b r al cl ar cr (fun j => r.fit (j / 10) (j % 10)) r.need ∧ Below w.heap.size w w' := by
  have HX := Lib.hid (And.intro (World.alloc_heap_new w (.cells (r.arr al cl ar cr) 26)) (alloc_below w (.cells (r.arr al cl ar cr) 26)))
  have HM := Lib.hid (And.intro h1 h2)
  have HN := Lib.hid hn
  have l1 : r.left.length ≤ 10 := hn.l1
  have l2 : r.right.length ≤ 10 := hn.l2
  have d1 : 0 ≤ r.hidden := hn.h1
  have d2 : r.hidden ≤ 20 := hn.h2
  clear h1 h2 hn
  go_enter Tryd.func59, Tryd.ntmps59
  refine wp_seq_hid ?_
  intro K0 HK0
  go_wp2_with fail
  refine HK0.out _ _ ?_
  clear HK0 K0
  revert HX
  generalize w.alloc (.cells (r.arr al cl ar cr) 26) = w1
  intro HX
  have k0 : w1.cell? ⟨w.heap.size, 0, none⟩ = some (.slice al r.left.length cl) := by rw [cell_of_heap HX.out.1]; rfl
  have k1 : w1.cell? ⟨w.heap.size, 1, none⟩ = some (.slice ar r.right.length cr) := by rw [cell_of_heap HX.out.1]; rfl
  have k2 : w1.cell? ⟨w.heap.size, 2, none⟩ = some (.int .i64 r.shift.lo) := by rw [cell_of_heap HX.out.1]; rfl
  have k3 : w1.cell? ⟨w.heap.size, 3, none⟩ = some (.int .i64 r.shift.hi) := by rw [cell_of_heap HX.out.1]; rfl
  have k4 : w1.cell? ⟨w.heap.size, 4, none⟩ = some (.int .i64 r.hidden) := by rw [cell_of_heap HX.out.1]; rfl
  refine wp_seq_hid ?_
  intro K1 HK1
  go_wp2_with fail
  rw [build130]
  refine HK1.out _ _ ?_
  clear HK1 K1 k0 k1 k2 k3 k4
  have HQ := Lib.hid (And.intro (World.alloc_heap_new w1 (.cells (rowsL r al cl ar cr (fun _ => false) r.need).toArray 130)) (alloc_below w1 (.cells (rowsL r al cl ar cr (fun _ => false) r.need).toArray 130)))
  have hnd : ((r.left.length : Int) + r.right.length - r.hidden + 1).tdiv 2 = r.need := rfl
  rw [hnd]
  clear hnd
  revert HQ
  generalize w1.alloc (.cells (rowsL r al cl ar cr (fun _ => false) r.need).toArray 130) = w2
  generalize Value.agg (rowsL r al cl ar cr (fun _ => false) r.need).toArray = big
  intro HQ
  refine wp_seq_hid ?_
  intro K2 HK2
  go_wp2_with fail
  refine HK2.out _ _ ?_
  clear HK2 K2
  refine wp_seq_hid ?_
  intro K3 HK3
  go_wp2_with fail
  refine HK3.out _ _ ?_
  clear HK3 K3
  have HQ4 := Lib.hid (And.intro (World.alloc_heap_new w2 (.cells #[.func (.func 93) #[] #[], .func (.func 93) #[] #[], .func (.func 94) #[] #[.pointer (some ⟨w.heap.size, 0, none⟩)], .func (.func 95) #[] #[]] 169)) (alloc_below w2 (.cells #[.func (.func 93) #[] #[], .func (.func 93) #[] #[], .func (.func 94) #[] #[.pointer (some ⟨w.heap.size, 0, none⟩)], .func (.func 95) #[] #[]] 169)))
  refine wp_seq_hid ?_
  intro K4 HK4
  go_wp2_with fail
  refine HK4.out _ _ ?_
  clear HK4 K4
  revert HQ4
  generalize w2.alloc (.cells #[.func (.func 93) #[] #[], .func (.func 93) #[] #[], .func (.func 94) #[] #[.pointer (some ⟨w.heap.size, 0, none⟩)], .func (.func 95) #[] #[]] 169) = w3
  intro HQ4
  have HO : Hid (LokI w w1.heap.size w2.heap.size r al cl ar cr (tI r 0 0) w3 ∧ w.heap.size < w1.heap.size) := by
    rw [tI_zero]
    have h1 := HQ.out.2.trans (HQ4.out.2.mono HQ.out.2.size)
    exact ⟨⟨HX.out.2.trans (h1.mono HX.out.2.size), (h1.block _ (heap_lt HX.out.1)).trans HX.out.1, (HQ4.out.2.block _ (heap_lt HQ.out.1)).trans HQ.out.1, HQ4.out.1⟩, heap_lt HX.out.1⟩
  clear HX HQ HQ4
  revert HO
  generalize w1.heap.size = b3
  generalize w2.heap.size = bs
  intro HO
  have H3 := Lib.hid HO.out.2
  replace HO := Lib.hid HO.out.1
  have k0 : w3.cell? ⟨w.heap.size, 0, none⟩ = some (.slice al r.left.length cl) := by rw [cell_of_heap HO.out.box]; rfl
  refine wp_seq_hid ?_
  intro K5 HK5
  go_wp2_with fail
  clear k0
  go_loopw [36] (fun q wr => ∃ i : Nat, i ≤ r.left.length ∧ q = .int .i64 i ∧ Hid (LokI w b3 bs r al cl ar cr (tI r i 0) wr)) (fun q _ => r.left.length - (intOf q).toNat)
  case atStart => exact ⟨0, by omega, rfl, HO⟩
  case round =>
    obtain ⟨i, hi, rfl, HW⟩ := hrel
    clear HO
    by_cases hlt : i < r.left.length
    · obtain ⟨b, off, hab, c0, c1, c2, c3⟩ := (HM.out.1.mono HW.out.below) i hlt
      subst hab
      have HSA := Lib.hid (mrk_small (HN.out.lm _ (gm_mem hlt)))
      have HQA := Lib.hid (And.intro (World.alloc_heap_new wr (.cells (gm r.left i).arr 30)) (HW.out.mono (alloc_below wr (.cells (gm r.left i).arr 30))))
      have HTS := Lib.hid (fun k hk hk2 => tI_set r (i := i) (k := k) hlt hk hk2)
      revert HSA HQA HTS c0 c1 c2 c3
      generalize gm r.left i = x
      intro c0 c1 c2 c3 HSA HQA HTS
      have HBA := Lib.hid HQA.out.1
      have HO2 := Lib.hid HQA.out.2
      clear HQA HW
      have l3 : i < 10 := by omega
      go_upto_region 8 with fail
      clear c0 c1 c2 c3
      revert HBA HO2
      generalize wr.alloc (.cells x.arr 30) = w4
      generalize wr.heap.size = ba
      intro HBA HO2
      have k1 : w4.cell? ⟨w.heap.size, 1, none⟩ = some (.slice ar r.right.length cr) := by rw [cell_of_heap HO2.out.box]; rfl
      go_wp2_with fail
      clear k1
      go_loopw [44] (fun q wy => ∃ k : Nat, k ≤ r.right.length ∧ q = .int .i64 k ∧ Hid (LokI w b3 bs r (some ⟨b, off, none⟩) cl ar cr (tI r i k) wy ∧ wy.heap[ba]? = some (.cells x.arr 30 (0, 0)))) (fun q _ => r.right.length - (intOf q).toNat)
      case atStart => exact ⟨0, by omega, rfl, HO2.out, HBA.out⟩
      case round =>
        obtain ⟨k, hk, rfl, HY⟩ := hrel
        clear HBA HO2
        by_cases hlk : k < r.right.length
        · obtain ⟨b2, off2, hab2, c0, c1, c2, c3⟩ := (HM.out.2.mono HY.out.1.below) k hlk
          subst hab2
          have HSB := Lib.hid (And.intro (World.alloc_heap_new wr (.cells (gm r.right k).arr 30)) (And.intro (HY.out.1.mono (alloc_below wr (.cells (gm r.right k).arr 30))) ((alloc_below wr (.cells (gm r.right k).arr 30)).block _ (heap_lt HY.out.2) |>.trans HY.out.2)))
          have HT := Lib.hid (HTS.out k hlk (by omega))
          revert HSB HT c0 c1 c2 c3
          generalize gm r.right k = y
          intro c0 c1 c2 c3 HSB HT
          go_upto_region 11 with fail
          clear c0 c1 c2 c3 HY
          revert HSB
          generalize wr.alloc (.cells y.arr 30) = w5
          generalize wr.heap.size = bb
          intro HSB
          have KR : Hid (∀ v, Below w5.heap.size w5 v → LokI w b3 bs r (some ⟨b, off, none⟩) cl (some ⟨b2, off2, none⟩) cr (tI r i k) v ∧ v.heap[ba]? = some (.cells x.arr 30 (0, 0)) ∧ RulI r (some ⟨b, off, none⟩) cl (some ⟨b2, off2, none⟩) cr x y ba bb bs w.heap.size v) := fun v hv =>
            ⟨HSB.out.2.1.mono hv, (hv.block _ (heap_lt HSB.out.2.2)).trans HSB.out.2.2, (hv.block _ (heap_lt HSB.out.2.2)).trans HSB.out.2.2, (hv.block _ (heap_lt HSB.out.1)).trans HSB.out.1, (HSB.out.2.1.mono hv).rules, (HSB.out.2.1.mono hv).box⟩
          clear HSB
          refine wpIn_wide.1 (lok11 (b3 := b3) (i := i) (k := k) (bs := bs) (ba := ba) (bb := bb) (z := fitM r x y)
            (S0 := fun v => Below w5.heap.size w5 v) (S1 := fun _ v => Below w5.heap.size w5 v) (S2 := fun _ v => LokI w b3 bs r (some ⟨b, off, none⟩) cl (some ⟨b2, off2, none⟩) cr (tI r i (k + 1)) v ∧ v.heap[ba]? = some (.cells x.arr 30 (0, 0)))
            (by omega) (by omega) (by omega) (by omega) ?h0 ?c5 ?c11 ?hQ)
          case h0 => exact (Below.refl _ _).drew
          case c5 =>
            intro v h
            refine (has66 (KR.out v h).2.2 HSA.out HN.out).mono ?_
            rintro e v' ⟨rfl, hb⟩
            exact ⟨(), rfl, h.trans (hb.mono h.size)⟩
          case c11 =>
            intro u v h
            obtain ⟨g1, g2, g3⟩ := KR.out v h
            have hc : v.cell? ⟨b3, 5 + i * 10 + k, none⟩ = some (.bool (tI r i k (i * 10 + k))) := by
              rw [cell_of_heap g1.tab, List.getElem?_toArray, Nat.add_assoc, rowsL_tab _ _ _ _ _ _ _ (by omega)]
            refine ⟨⟨_, hc⟩, frozen_of_heap g1.tab, ?_, ?_⟩
            · have h1 := g1.put H3.out (j := i * 10 + k) (by omega) (fitM r x y)
              rw [HT.out, ← Nat.add_assoc] at h1
              exact h1
            · rw [Below.heap_setCell _ _ _ _ (fun e => ?_)]
              · exact g2
              · have e2 : ba = b3 := e
                rw [e2] at g2
                rw [g1.tab] at g2
                simp only [Option.some.injEq, Obj.cells.injEq] at g2
                exact absurd g2.2.1 (by decide)
          intro u w6 h
          have HF := Lib.hid h
          clear h KR
          go_wp2_with fail
          go_roundw
          case rel => exact ⟨k + 1, by omega, by go_num, HF.out⟩
          case measure => simp [intOf]; omega
        · obtain rfl : k = r.right.length := by omega
          have HY2 : Hid (LokI w b3 bs r (some ⟨b, off, none⟩) cl ar cr (tI r (i + 1) 0) wr) := by
            have h := HY.out.1
            rw [tI_next] at h
            exact h
          clear HY
          go_wp2_with fail
          go_roundw
          case rel => exact ⟨i + 1, by omega, by go_num, HY2.out⟩
          case measure => simp [intOf]; omega
    · obtain rfl : i = r.left.length := by omega
      have HW2 : Hid (LokI w b3 bs r al cl ar cr (fun j => r.fit (j / 10) (j % 10)) wr) := by
        have h := HW.out
        rw [tI_end] at h
        exact h
      clear HW
      go_wp2_with fail
      refine HK5.out _ _ ?_
      go_wp2_with fail
      go_ret
      exact ⟨b3, rfl, Nat.le_of_lt H3.out, ⟨HW2.out.tab, HM.out.1.mono HW2.out.below, HM.out.2.mono HW2.out.below⟩, HW2.out.below⟩
end Go.Proofs.YtbnhngfegnhaiaaDoor
namespace Go.Proofs.YtbnhngfegnhaiaaDoor
open Go.RowKit
set_option linter.unusedVariables false
set_option linter.unusedSimpArgs false
theorem heap_setCells_same {b : Nat} {c : Array Value} {t : TypeId} {f : Nat × Nat} : ∀ (vs : List Value) (o : Nat) (w : World), w.heap[b]? = some (.cells c t f) → (∀ j v, vs[j]? = some v → c[o + j]? = some v) → (w.setCells b o vs).heap[b]? = some (.cells c t f)
  | [], _, _, h, _ => h
  | v :: vs, o, w, h, hv => by
    show ((w.setCell ⟨b, o, none⟩ v).setCells b (o + 1) vs).heap[b]? = _
    have h0 := hv 0 v rfl
    have h1 : (w.setCell ⟨b, o, none⟩ v).heap[b]? = some (.cells c t f) := by
      have := heap_setCell_at (k := o) h v
      rw [this]
      congr 2
      apply Array.ext_getElem?
      intro i
      rw [Array.getElem?_setIfInBounds]
      split
      · next e =>
        subst e
        split
        · exact h0.symm
        · next h2 => rw [Array.getElem?_eq_none (by omega)]
      · rfl
    exact heap_setCells_same vs (o + 1) _ h1 (fun j u hj => by rw [show o + 1 + j = o + (j + 1) by omega]; exact hv (j + 1) u hj)
theorem below_setCells {B : Nat} {A : World} {b : Nat} (hB : B ≤ b) : ∀ (vs : List Value) (o : Nat) (w : World), Below B A w → Below B A (w.setCells b o vs)
  | [], _, _, h => h
  | v :: vs, o, w, h => below_setCells hB vs (o + 1) _ (h.setCell (p := ⟨b, o, none⟩) hB v)
/-- A table of numbers. -/
def numL (U : Nat → Int) : List Value := (List.range 121).map fun j => .int .i64 (U j)
theorem numL_len (U : Nat → Int) : (numL U).length = 121 := by simp [numL]
theorem numL_get (U : Nat → Int) {j : Nat} (h : j < 121) : (numL U)[j]? = some (.int .i64 (U j)) := by simp [numL, h]
theorem numL_set (U : Nat → Int) {j : Nat} (h : j < 121) (v : Int) : (numL U).set j (.int .i64 v) = numL fun x => if x = j then v else U x := by
  apply List.ext_getElem?
  intro k
  by_cases hk : k < 121
  · rw [numL_get _ hk, List.getElem?_set]
    by_cases he : j = k
    · subst he
      rw [if_pos rfl, if_pos (by rw [numL_len]; exact h), if_pos rfl]
    · rw [if_neg he, numL_get _ hk, if_neg (fun h => he h.symm)]
  · rw [List.getElem?_eq_none (by rw [List.length_set, numL_len]; omega), List.getElem?_eq_none (by rw [numL_len]; omega)]
theorem numL_one (U : Nat → Int) : (numL U).toArray.all (·.oneCell') = true := all_oneCell_toArray fun v hv => by
  unfold numL at hv
  rw [List.mem_map] at hv
  obtain ⟨j, _, rfl⟩ := hv
  rfl
theorem num_cell {w : World} {b : Nat} {U : Nat → Int} {t : TypeId} {f : Nat × Nat} (h : w.heap[b]? = some (.cells (numL U).toArray t f)) {j : Nat} (hj : j < 121) : w.cell? ⟨b, j, none⟩ = some (.int .i64 (U j)) := by
  rw [cell_of_heap h, List.getElem?_toArray, numL_get U hj]
theorem info156 : (Tryd.prog.info? 72).map (·.size) = some 121 := by kernel_rfl
/-- The table, when some rows from the last one on, and some of the next one, are through. -/
def dI (F : Nat → Nat → Bool) (n m i k : Nat) : Nat → Int := fun j => if i < j / 11 ∨ (j / 11 = i ∧ k ≤ j % 11) then (mst F n m (n - j / 11) (m - j % 11) : Int) else 0
theorem mst_zero (F : Nat → Nat → Bool) (n m b : Nat) : mst F n m 0 b = 0 := rfl
theorem mst_zero' (F : Nat → Nat → Bool) (n m : Nat) : ∀ a, mst F n m a 0 = 0
  | 0 => rfl
  | _ + 1 => rfl
theorem mst_step (F : Nat → Nat → Bool) {n m i k : Nat} (hi : i < n) (hk : k < m) : mst F n m (n - i) (m - k) = if F i k then max (max (mst F n m (n - (i + 1)) (m - k)) (mst F n m (n - i) (m - (k + 1)))) (1 + mst F n m (n - (i + 1)) (m - (k + 1))) else max (mst F n m (n - (i + 1)) (m - k)) (mst F n m (n - i) (m - (k + 1))) := by
  have e1 : n - i = (n - (i + 1)) + 1 := by omega
  have e2 : m - k = (m - (k + 1)) + 1 := by omega
  rw [e1, e2]
  show rowB (F (n - (n - (i + 1) + 1))) m (mst F n m (n - (i + 1))) (m - (k + 1) + 1) = _
  unfold rowB
  have e3 : n - (n - (i + 1) + 1) = i := by omega
  have e4 : m - (m - (k + 1) + 1) = k := by omega
  rw [e3, e4]
  have e5 : rowB (F i) m (mst F n m (n - (i + 1))) (m - (k + 1)) = mst F n m (n - (i + 1) + 1) (m - (k + 1)) := by
    show _ = rowB (F (n - (n - (i + 1) + 1))) m (mst F n m (n - (i + 1))) (m - (k + 1))
    rw [e3]
  rw [e5]
theorem dI_start (F : Nat → Nat → Bool) (n m : Nat) : dI F n m n 0 = fun _ => 0 := by
  funext j
  unfold dI
  split
  · next h =>
    have : n - j / 11 = 0 := by omega
    rw [this, mst_zero]
    rfl
  · rfl
theorem dI_row (F : Nat → Nat → Bool) (n m i : Nat) : dI F n m i m = dI F n m (i + 1) 0 := by
  funext j
  unfold dI
  by_cases h1 : i + 1 < j / 11
  · rw [if_pos (.inl (by omega)), if_pos (.inl h1)]
  · by_cases h2 : j / 11 = i + 1
    · rw [if_pos (.inl (by omega)), if_pos (.inr ⟨h2, Nat.zero_le _⟩)]
    · rw [if_neg (c := i + 1 < j / 11 ∨ (j / 11 = i + 1 ∧ 0 ≤ j % 11)) (by omega)]
      split
      · next h =>
        have : m - j % 11 = 0 := by omega
        rw [this, mst_zero']
        rfl
      · rfl
theorem dI_at (F : Nat → Nat → Bool) (n m : Nat) {i k a b : Nat} (hb : b < 11) (h : i < a ∨ (a = i ∧ k ≤ b)) : dI F n m i k (a * 11 + b) = (mst F n m (n - a) (m - b) : Int) := by
  unfold dI
  have e1 : (a * 11 + b) / 11 = a := by omega
  have e2 : (a * 11 + b) % 11 = b := by omega
  rw [e1, e2, if_pos h]
theorem dI_set (F : Nat → Nat → Bool) (n m : Nat) {i k : Nat} (hk : k < 11) : (fun x => if x = i * 11 + k then (mst F n m (n - i) (m - k) : Int) else dI F n m i (k + 1) x) = dI F n m i k := by
  funext x
  by_cases hx : x = i * 11 + k
  · rw [if_pos hx, hx, dI_at F n m hk (.inr ⟨rfl, Nat.le_refl _⟩)]
  · rw [if_neg hx]
    unfold dI
    have h : (i < x / 11 ∨ (x / 11 = i ∧ k + 1 ≤ x % 11)) ↔ (i < x / 11 ∨ (x / 11 = i ∧ k ≤ x % 11)) := by omega
    by_cases h2 : i < x / 11 ∨ (x / 11 = i ∧ k ≤ x % 11)
    · rw [if_pos h2, if_pos (h.2 h2)]
    · rw [if_neg h2, if_neg (fun h3 => h2 (h.1 h3))]
structure mos7F (b2 : Nat) (i : Nat) (k : Nat) (p : Nat) (q : Nat) (x : Int) (y : Int) (S0 : World → Prop) (S1 : World → Prop) (d : Nat → Bool) (x27 x28 x29 x30 x31 x32 x33 x34 x35 x36 x37 x38 x39 x40 x41 x42 x43 : Value) (w : World) : Prop where
  q3 : d 3 = true → d 2 = true
  q5 : d 5 = true → d 3 = true
  q6 : d 6 = true → d 4 = true ∧ d 5 = true
  q7 : d 7 = true → d 6 = true
  q10 : d 10 = true → d 9 = true
  q11 : d 11 = true → d 8 = true
  q12 : d 12 = true → d 10 = true ∧ d 11 = true
  q13 : d 13 = true → d 12 = true
  q14 : d 14 = true → d 7 = true ∧ d 13 = true
  q15 : d 15 = true → d 0 = true
  q16 : d 16 = true → d 0 = true ∧ d 1 = true ∧ d 2 = true ∧ d 3 = true ∧ d 4 = true ∧ d 5 = true ∧ d 6 = true ∧ d 7 = true ∧ d 8 = true ∧ d 9 = true ∧ d 10 = true ∧ d 11 = true ∧ d 12 = true ∧ d 13 = true ∧ d 14 = true ∧ d 15 = true
  q17 : d 17 = true → d 0 = true ∧ d 1 = true ∧ d 2 = true ∧ d 3 = true ∧ d 4 = true ∧ d 5 = true ∧ d 6 = true ∧ d 7 = true ∧ d 8 = true ∧ d 9 = true ∧ d 10 = true ∧ d 11 = true ∧ d 12 = true ∧ d 13 = true ∧ d 14 = true ∧ d 16 = true
  f0 : d 0 = true → x27 = .int .i64 i
  f1 : d 1 = true → x28 = .int .i64 k
  f2 : d 2 = true → x29 = .int .i64 i
  f3 : d 3 = true → x30 = .int .i64 p
  f4 : d 4 = true → x31 = .int .i64 k
  f5 : d 5 = true → x32 = .pointer (some ⟨b2, p * 11, none⟩)
  f6 : d 6 = true → x33 = .pointer (some ⟨b2, p * 11 + k, none⟩)
  f7 : d 7 = true → x34 = .int .i64 x
  f8 : d 8 = true → x35 = .int .i64 i
  f9 : d 9 = true → x36 = .int .i64 k
  f10 : d 10 = true → x37 = .int .i64 q
  f11 : d 11 = true → x38 = .pointer (some ⟨b2, i * 11, none⟩)
  f12 : d 12 = true → x39 = .pointer (some ⟨b2, i * 11 + q, none⟩)
  f13 : d 13 = true → x40 = .int .i64 y
  f14 : d 14 = true → x41 = .int .i64 (max x y)
  f15 : d 15 = true → x42 = .pointer (some ⟨b2, i * 11, none⟩)
  f16 : d 16 = true → x43 = .pointer (some ⟨b2, i * 11 + k, none⟩)
  st0 : d 17 = false → S0 w
  st1 : d 17 = true → S1 w
noncomputable def mos7C : Code := (Tryd.f29.body.bind (regionAt 7)).getD .skip
set_option maxRecDepth 100000 in
set_option maxHeartbeats 4000000 in
theorem mos7 {b2 : Nat} {i : Nat} {k : Nat} {p : Nat} {q : Nat} {x : Int} {y : Int} {S0 : World → Prop} {S1 : World → Prop} {Q : Exit → Act → World → Prop} {W1 : World} (hwi : IntKind.i64.wrap ((i : Int) + 1) = (p : Int)) (hwk : IntKind.i64.wrap ((k : Int) + 1) = (q : Int)) (hi1 : (0 : Int) ≤ i) (hi2 : (i : Int) < 11) (hk1 : (0 : Int) ≤ k) (hk2 : (k : Int) < 11) (hp1 : (0 : Int) ≤ p) (hp2 : (p : Int) < 11) (hq1 : (0 : Int) ≤ q) (hq2 : (q : Int) < 11) (h0 : S0 W1.drew)
    (kl7 : Hid (∀ (w : World), (S0 w) → w.cell? ⟨b2, p * 11 + k, none⟩ = some (.int .i64 x)))
    (kl13 : Hid (∀ (w : World), (S0 w) → w.cell? ⟨b2, i * 11 + q, none⟩ = some (.int .i64 y)))
    (kc17 : Hid (∀ (w : World), S0 w → (∃ u, w.cell? ⟨b2, i * 11 + k, none⟩ = some u) ∧ w.frozen? ⟨b2, i * 11 + k, none⟩ = false ∧ S1 (w.setCell ⟨b2, i * 11 + k, none⟩ (.int .i64 (max x y)))))
    {s0 s1 s5 s6 s7 s8 s9 s10 s11 s12 s13 s14 s15 s16 s17 s18 s19 s20 s21 s22 s23 s24 s25 s26 s27 s28 s29 s30 s31 s32 s33 s34 s35 s36 s37 s38 s39 s40 s41 s42 s43 s44 s45 s46 s47 s48 s49 s50 s51 s52 s53 s54 s55 s56 s57 s58 s59 s60 s61 s62 s63 s64 s65 s66 s67 s68 s69 s70 : Value} {dd : List Deferred}
    (hQ : ∀ (w' : World), S1 w' → Q .normal { tmps := List.toArray (s0 :: s1 :: .pointer (some ⟨b2, 0, none⟩) :: .int .i64 i :: .int .i64 k :: s5 :: s6 :: s7 :: s8 :: s9 :: s10 :: s11 :: s12 :: s13 :: s14 :: s15 :: s16 :: s17 :: s18 :: s19 :: s20 :: s21 :: s22 :: s23 :: s24 :: s25 :: s26 :: .int .i64 i :: .int .i64 k :: .int .i64 i :: .int .i64 p :: .int .i64 k :: .pointer (some ⟨b2, p * 11, none⟩) :: .pointer (some ⟨b2, p * 11 + k, none⟩) :: .int .i64 x :: .int .i64 i :: .int .i64 k :: .int .i64 q :: .pointer (some ⟨b2, i * 11, none⟩) :: .pointer (some ⟨b2, i * 11 + q, none⟩) :: .int .i64 y :: .int .i64 (max x y) :: .pointer (some ⟨b2, i * 11, none⟩) :: .pointer (some ⟨b2, i * 11 + k, none⟩) :: s44 :: s45 :: s46 :: s47 :: s48 :: s49 :: s50 :: s51 :: s52 :: s53 :: s54 :: s55 :: s56 :: s57 :: s58 :: s59 :: s60 :: s61 :: s62 :: s63 :: s64 :: s65 :: s66 :: s67 :: s68 :: s69 :: s70 :: []), defers := dd } w') :
    Code.wpIn (wideAt none) 0 Tryd.prog mos7C Q { tmps := List.toArray (s0 :: s1 :: .pointer (some ⟨b2, 0, none⟩) :: .int .i64 i :: .int .i64 k :: s5 :: s6 :: s7 :: s8 :: s9 :: s10 :: s11 :: s12 :: s13 :: s14 :: s15 :: s16 :: s17 :: s18 :: s19 :: s20 :: s21 :: s22 :: s23 :: s24 :: s25 :: s26 :: s27 :: s28 :: s29 :: s30 :: s31 :: s32 :: s33 :: s34 :: s35 :: s36 :: s37 :: s38 :: s39 :: s40 :: s41 :: s42 :: s43 :: s44 :: s45 :: s46 :: s47 :: s48 :: s49 :: s50 :: s51 :: s52 :: s53 :: s54 :: s55 :: s56 :: s57 :: s58 :: s59 :: s60 :: s61 :: s62 :: s63 :: s64 :: s65 :: s66 :: s67 :: s68 :: s69 :: s70 :: []), defers := dd } W1 := by
  have HQ := Lib.hid hQ
  clear hQ
  conv => arg 4; whnf
  refine wpIn_region_invG mixed (by kernel_rfl) (fun d_ a_ w' => ∃ (x27 : Value) (x28 : Value) (x29 : Value) (x30 : Value) (x31 : Value) (x32 : Value) (x33 : Value) (x34 : Value) (x35 : Value) (x36 : Value) (x37 : Value) (x38 : Value) (x39 : Value) (x40 : Value) (x41 : Value) (x42 : Value) (x43 : Value), a_ = { tmps := List.toArray (s0 :: s1 :: .pointer (some ⟨b2, 0, none⟩) :: .int .i64 i :: .int .i64 k :: s5 :: s6 :: s7 :: s8 :: s9 :: s10 :: s11 :: s12 :: s13 :: s14 :: s15 :: s16 :: s17 :: s18 :: s19 :: s20 :: s21 :: s22 :: s23 :: s24 :: s25 :: s26 :: x27 :: x28 :: x29 :: x30 :: x31 :: x32 :: x33 :: x34 :: x35 :: x36 :: x37 :: x38 :: x39 :: x40 :: x41 :: x42 :: x43 :: s44 :: s45 :: s46 :: s47 :: s48 :: s49 :: s50 :: s51 :: s52 :: s53 :: s54 :: s55 :: s56 :: s57 :: s58 :: s59 :: s60 :: s61 :: s62 :: s63 :: s64 :: s65 :: s66 :: s67 :: s68 :: s69 :: s70 :: []), defers := dd } ∧ mos7F b2 i k p q x y S0 S1 d_ x27 x28 x29 x30 x31 x32 x33 x34 x35 x36 x37 x38 x39 x40 x41 x42 x43 w') ?_ ?_ ?_
  · refine ⟨s27, s28, s29, s30, s31, s32, s33, s34, s35, s36, s37, s38, s39, s40, s41, s42, s43, rfl, ?_⟩
    constructor <;> first | rfl | (intro _; rfl) | (intro h; cases h; done) | (intro _; exact h0) | exact h0
  · refine ⟨?_, ?_, ?_, ?_, ?_, ?_, ?_, ?_, ?_, ?_, ?_, ?_, ?_, ?_, ?_, ?_, ?_, ?_, trivial⟩
    all_goals
      rintro d_ a_ w1 K hd_ hdep ⟨x27, x28, x29, x30, x31, x32, x33, x34, x35, x36, x37, x38, x39, x40, x41, x42, x43, rfl, F⟩ HK
      simp [Region.binds] at hdep
    · have HF : Hid (mos7F b2 i k p q x y S0 S1 (upd d_ 0) (.int .i64 i) x28 x29 x30 x31 x32 x33 x34 x35 x36 x37 x38 x39 x40 x41 x42 x43 w1) := ⟨F.q3, F.q5, F.q6, F.q7, F.q10, F.q11, F.q12, F.q13, F.q14, fun h => rfl, fun h => andM0 (F.q16 h) rfl, fun h => andM0 (F.q17 h) rfl, fun _ => rfl, F.f1, F.f2, F.f3, F.f4, F.f5, F.f6, F.f7, F.f8, F.f9, F.f10, F.f11, F.f12, F.f13, F.f14, F.f15, F.f16, F.st0, F.st1⟩
      clear F
      go_simp
      exact HK.out _ _ ⟨_, _, _, _, _, _, _, _, _, _, _, _, _, _, _, _, _, rfl, HF.out⟩
    · have HF : Hid (mos7F b2 i k p q x y S0 S1 (upd d_ 1) x27 (.int .i64 k) x29 x30 x31 x32 x33 x34 x35 x36 x37 x38 x39 x40 x41 x42 x43 w1) := ⟨F.q3, F.q5, F.q6, F.q7, F.q10, F.q11, F.q12, F.q13, F.q14, F.q15, fun h => andM1 (F.q16 h) rfl, fun h => andM1 (F.q17 h) rfl, F.f0, fun _ => rfl, F.f2, F.f3, F.f4, F.f5, F.f6, F.f7, F.f8, F.f9, F.f10, F.f11, F.f12, F.f13, F.f14, F.f15, F.f16, F.st0, F.st1⟩
      clear F
      go_simp
      exact HK.out _ _ ⟨_, _, _, _, _, _, _, _, _, _, _, _, _, _, _, _, _, rfl, HF.out⟩
    · have HF : Hid (mos7F b2 i k p q x y S0 S1 (upd d_ 2) x27 x28 (.int .i64 i) x30 x31 x32 x33 x34 x35 x36 x37 x38 x39 x40 x41 x42 x43 w1) := ⟨fun h => rfl, F.q5, F.q6, F.q7, F.q10, F.q11, F.q12, F.q13, F.q14, F.q15, fun h => andM2 (F.q16 h) rfl, fun h => andM2 (F.q17 h) rfl, F.f0, F.f1, fun _ => rfl, F.f3, F.f4, F.f5, F.f6, F.f7, F.f8, F.f9, F.f10, F.f11, F.f12, F.f13, F.f14, F.f15, F.f16, F.st0, F.st1⟩
      clear F
      go_simp
      exact HK.out _ _ ⟨_, _, _, _, _, _, _, _, _, _, _, _, _, _, _, _, _, rfl, HF.out⟩
    · obtain rfl := F.f2 (by simp [hdep])
      have HF : Hid (mos7F b2 i k p q x y S0 S1 (upd d_ 3) x27 x28 (.int .i64 i) (.int .i64 p) x31 x32 x33 x34 x35 x36 x37 x38 x39 x40 x41 x42 x43 w1) := ⟨fun _ => (show _ from (by simp [hdep] : d_ 2 = true)), fun h => rfl, F.q6, F.q7, F.q10, F.q11, F.q12, F.q13, F.q14, F.q15, fun h => andM3 (F.q16 h) rfl, fun h => andM3 (F.q17 h) rfl, F.f0, F.f1, F.f2, fun _ => rfl, F.f4, F.f5, F.f6, F.f7, F.f8, F.f9, F.f10, F.f11, F.f12, F.f13, F.f14, F.f15, F.f16, F.st0, F.st1⟩
      clear F
      go_simp
      exact HK.out _ _ ⟨_, _, _, _, _, _, _, _, _, _, _, _, _, _, _, _, _, rfl, HF.out⟩
    · have HF : Hid (mos7F b2 i k p q x y S0 S1 (upd d_ 4) x27 x28 x29 x30 (.int .i64 k) x32 x33 x34 x35 x36 x37 x38 x39 x40 x41 x42 x43 w1) := ⟨F.q3, F.q5, fun h => andM0 (F.q6 h) rfl, F.q7, F.q10, F.q11, F.q12, F.q13, F.q14, F.q15, fun h => andM4 (F.q16 h) rfl, fun h => andM4 (F.q17 h) rfl, F.f0, F.f1, F.f2, F.f3, fun _ => rfl, F.f5, F.f6, F.f7, F.f8, F.f9, F.f10, F.f11, F.f12, F.f13, F.f14, F.f15, F.f16, F.st0, F.st1⟩
      clear F
      go_simp
      exact HK.out _ _ ⟨_, _, _, _, _, _, _, _, _, _, _, _, _, _, _, _, _, rfl, HF.out⟩
    · obtain rfl := F.f3 (by simp [hdep])
      have HF : Hid (mos7F b2 i k p q x y S0 S1 (upd d_ 5) x27 x28 x29 (.int .i64 p) x31 (.pointer (some ⟨b2, p * 11, none⟩)) x33 x34 x35 x36 x37 x38 x39 x40 x41 x42 x43 w1) := ⟨F.q3, fun _ => (show _ from (by simp [hdep] : d_ 3 = true)), fun h => andL1 (F.q6 h) rfl, F.q7, F.q10, F.q11, F.q12, F.q13, F.q14, F.q15, fun h => andM5 (F.q16 h) rfl, fun h => andM5 (F.q17 h) rfl, F.f0, F.f1, F.f2, F.f3, F.f4, fun _ => rfl, F.f6, F.f7, F.f8, F.f9, F.f10, F.f11, F.f12, F.f13, F.f14, F.f15, F.f16, F.st0, F.st1⟩
      clear F
      go_simp
      exact HK.out _ _ ⟨_, _, _, _, _, _, _, _, _, _, _, _, _, _, _, _, _, rfl, HF.out⟩
    · obtain rfl := F.f4 (by simp [hdep])
      obtain rfl := F.f5 (by simp [hdep])
      have HF : Hid (mos7F b2 i k p q x y S0 S1 (upd d_ 6) x27 x28 x29 x30 (.int .i64 k) (.pointer (some ⟨b2, p * 11, none⟩)) (.pointer (some ⟨b2, p * 11 + k, none⟩)) x34 x35 x36 x37 x38 x39 x40 x41 x42 x43 w1) := ⟨F.q3, F.q5, fun _ => ⟨(show _ from (by simp [hdep] : d_ 4 = true)), (show _ from (by simp [hdep] : d_ 5 = true))⟩, fun h => rfl, F.q10, F.q11, F.q12, F.q13, F.q14, F.q15, fun h => andM6 (F.q16 h) rfl, fun h => andM6 (F.q17 h) rfl, F.f0, F.f1, F.f2, F.f3, F.f4, F.f5, fun _ => rfl, F.f7, F.f8, F.f9, F.f10, F.f11, F.f12, F.f13, F.f14, F.f15, F.f16, F.st0, F.st1⟩
      clear F
      go_simp
      exact HK.out _ _ ⟨_, _, _, _, _, _, _, _, _, _, _, _, _, _, _, _, _, rfl, HF.out⟩
    · have hst : S0 w1 := by
        have n_ : d_ 17 = false := by
          cases e_ : d_ 17 with
          | false => rfl
          | true => have h2 := (F.q17 e_).2.2.2.2.2.2.2.1; rw [show d_ 7 = false from hd_] at h2; cases h2
        exact (F.st0 n_)
      have kk := kl7.out w1 hst
      clear hst
      obtain rfl := F.f6 (by simp [hdep])
      have HF : Hid (mos7F b2 i k p q x y S0 S1 (upd d_ 7) x27 x28 x29 x30 x31 x32 (.pointer (some ⟨b2, p * 11 + k, none⟩)) (.int .i64 x) x35 x36 x37 x38 x39 x40 x41 x42 x43 w1) := ⟨F.q3, F.q5, F.q6, fun _ => (show _ from (by simp [hdep] : d_ 6 = true)), F.q10, F.q11, F.q12, F.q13, fun h => andM0 (F.q14 h) rfl, F.q15, fun h => andM7 (F.q16 h) rfl, fun h => andM7 (F.q17 h) rfl, F.f0, F.f1, F.f2, F.f3, F.f4, F.f5, F.f6, fun _ => rfl, F.f8, F.f9, F.f10, F.f11, F.f12, F.f13, F.f14, F.f15, F.f16, F.st0, F.st1⟩
      clear F
      go_simp
      exact HK.out _ _ ⟨_, _, _, _, _, _, _, _, _, _, _, _, _, _, _, _, _, rfl, HF.out⟩
    · have HF : Hid (mos7F b2 i k p q x y S0 S1 (upd d_ 8) x27 x28 x29 x30 x31 x32 x33 x34 (.int .i64 i) x36 x37 x38 x39 x40 x41 x42 x43 w1) := ⟨F.q3, F.q5, F.q6, F.q7, F.q10, fun h => rfl, F.q12, F.q13, F.q14, F.q15, fun h => andM8 (F.q16 h) rfl, fun h => andM8 (F.q17 h) rfl, F.f0, F.f1, F.f2, F.f3, F.f4, F.f5, F.f6, F.f7, fun _ => rfl, F.f9, F.f10, F.f11, F.f12, F.f13, F.f14, F.f15, F.f16, F.st0, F.st1⟩
      clear F
      go_simp
      exact HK.out _ _ ⟨_, _, _, _, _, _, _, _, _, _, _, _, _, _, _, _, _, rfl, HF.out⟩
    · have HF : Hid (mos7F b2 i k p q x y S0 S1 (upd d_ 9) x27 x28 x29 x30 x31 x32 x33 x34 x35 (.int .i64 k) x37 x38 x39 x40 x41 x42 x43 w1) := ⟨F.q3, F.q5, F.q6, F.q7, fun h => rfl, F.q11, F.q12, F.q13, F.q14, F.q15, fun h => andM9 (F.q16 h) rfl, fun h => andM9 (F.q17 h) rfl, F.f0, F.f1, F.f2, F.f3, F.f4, F.f5, F.f6, F.f7, F.f8, fun _ => rfl, F.f10, F.f11, F.f12, F.f13, F.f14, F.f15, F.f16, F.st0, F.st1⟩
      clear F
      go_simp
      exact HK.out _ _ ⟨_, _, _, _, _, _, _, _, _, _, _, _, _, _, _, _, _, rfl, HF.out⟩
    · obtain rfl := F.f9 (by simp [hdep])
      have HF : Hid (mos7F b2 i k p q x y S0 S1 (upd d_ 10) x27 x28 x29 x30 x31 x32 x33 x34 x35 (.int .i64 k) (.int .i64 q) x38 x39 x40 x41 x42 x43 w1) := ⟨F.q3, F.q5, F.q6, F.q7, fun _ => (show _ from (by simp [hdep] : d_ 9 = true)), F.q11, fun h => andM0 (F.q12 h) rfl, F.q13, F.q14, F.q15, fun h => andM10 (F.q16 h) rfl, fun h => andM10 (F.q17 h) rfl, F.f0, F.f1, F.f2, F.f3, F.f4, F.f5, F.f6, F.f7, F.f8, F.f9, fun _ => rfl, F.f11, F.f12, F.f13, F.f14, F.f15, F.f16, F.st0, F.st1⟩
      clear F
      go_simp
      exact HK.out _ _ ⟨_, _, _, _, _, _, _, _, _, _, _, _, _, _, _, _, _, rfl, HF.out⟩
    · obtain rfl := F.f8 (by simp [hdep])
      have HF : Hid (mos7F b2 i k p q x y S0 S1 (upd d_ 11) x27 x28 x29 x30 x31 x32 x33 x34 (.int .i64 i) x36 x37 (.pointer (some ⟨b2, i * 11, none⟩)) x39 x40 x41 x42 x43 w1) := ⟨F.q3, F.q5, F.q6, F.q7, F.q10, fun _ => (show _ from (by simp [hdep] : d_ 8 = true)), fun h => andL1 (F.q12 h) rfl, F.q13, F.q14, F.q15, fun h => andM11 (F.q16 h) rfl, fun h => andM11 (F.q17 h) rfl, F.f0, F.f1, F.f2, F.f3, F.f4, F.f5, F.f6, F.f7, F.f8, F.f9, F.f10, fun _ => rfl, F.f12, F.f13, F.f14, F.f15, F.f16, F.st0, F.st1⟩
      clear F
      go_simp
      exact HK.out _ _ ⟨_, _, _, _, _, _, _, _, _, _, _, _, _, _, _, _, _, rfl, HF.out⟩
    · obtain rfl := F.f10 (by simp [hdep])
      obtain rfl := F.f11 (by simp [hdep])
      have HF : Hid (mos7F b2 i k p q x y S0 S1 (upd d_ 12) x27 x28 x29 x30 x31 x32 x33 x34 x35 x36 (.int .i64 q) (.pointer (some ⟨b2, i * 11, none⟩)) (.pointer (some ⟨b2, i * 11 + q, none⟩)) x40 x41 x42 x43 w1) := ⟨F.q3, F.q5, F.q6, F.q7, F.q10, F.q11, fun _ => ⟨(show _ from (by simp [hdep] : d_ 10 = true)), (show _ from (by simp [hdep] : d_ 11 = true))⟩, fun h => rfl, F.q14, F.q15, fun h => andM12 (F.q16 h) rfl, fun h => andM12 (F.q17 h) rfl, F.f0, F.f1, F.f2, F.f3, F.f4, F.f5, F.f6, F.f7, F.f8, F.f9, F.f10, F.f11, fun _ => rfl, F.f13, F.f14, F.f15, F.f16, F.st0, F.st1⟩
      clear F
      go_simp
      exact HK.out _ _ ⟨_, _, _, _, _, _, _, _, _, _, _, _, _, _, _, _, _, rfl, HF.out⟩
    · have hst : S0 w1 := by
        have n_ : d_ 17 = false := by
          cases e_ : d_ 17 with
          | false => rfl
          | true => have h2 := (F.q17 e_).2.2.2.2.2.2.2.2.2.2.2.2.2.1; rw [show d_ 13 = false from hd_] at h2; cases h2
        exact (F.st0 n_)
      have kk := kl13.out w1 hst
      clear hst
      obtain rfl := F.f12 (by simp [hdep])
      have HF : Hid (mos7F b2 i k p q x y S0 S1 (upd d_ 13) x27 x28 x29 x30 x31 x32 x33 x34 x35 x36 x37 x38 (.pointer (some ⟨b2, i * 11 + q, none⟩)) (.int .i64 y) x41 x42 x43 w1) := ⟨F.q3, F.q5, F.q6, F.q7, F.q10, F.q11, F.q12, fun _ => (show _ from (by simp [hdep] : d_ 12 = true)), fun h => andL1 (F.q14 h) rfl, F.q15, fun h => andM13 (F.q16 h) rfl, fun h => andM13 (F.q17 h) rfl, F.f0, F.f1, F.f2, F.f3, F.f4, F.f5, F.f6, F.f7, F.f8, F.f9, F.f10, F.f11, F.f12, fun _ => rfl, F.f14, F.f15, F.f16, F.st0, F.st1⟩
      clear F
      go_simp
      exact HK.out _ _ ⟨_, _, _, _, _, _, _, _, _, _, _, _, _, _, _, _, _, rfl, HF.out⟩
    · obtain rfl := F.f7 (by simp [hdep])
      obtain rfl := F.f13 (by simp [hdep])
      have HF : Hid (mos7F b2 i k p q x y S0 S1 (upd d_ 14) x27 x28 x29 x30 x31 x32 x33 (.int .i64 x) x35 x36 x37 x38 x39 (.int .i64 y) (.int .i64 (max x y)) x42 x43 w1) := ⟨F.q3, F.q5, F.q6, F.q7, F.q10, F.q11, F.q12, F.q13, fun _ => ⟨(show _ from (by simp [hdep] : d_ 7 = true)), (show _ from (by simp [hdep] : d_ 13 = true))⟩, F.q15, fun h => andM14 (F.q16 h) rfl, fun h => andM14 (F.q17 h) rfl, F.f0, F.f1, F.f2, F.f3, F.f4, F.f5, F.f6, F.f7, F.f8, F.f9, F.f10, F.f11, F.f12, F.f13, fun _ => rfl, F.f15, F.f16, F.st0, F.st1⟩
      clear F
      go_simp
      exact HK.out _ _ ⟨_, _, _, _, _, _, _, _, _, _, _, _, _, _, _, _, _, rfl, HF.out⟩
    · obtain rfl := F.f0 (by simp [hdep])
      have HF : Hid (mos7F b2 i k p q x y S0 S1 (upd d_ 15) (.int .i64 i) x28 x29 x30 x31 x32 x33 x34 x35 x36 x37 x38 x39 x40 x41 (.pointer (some ⟨b2, i * 11, none⟩)) x43 w1) := ⟨F.q3, F.q5, F.q6, F.q7, F.q10, F.q11, F.q12, F.q13, F.q14, fun _ => (show _ from (by simp [hdep] : d_ 0 = true)), fun h => andL15 (F.q16 h) rfl, F.q17, F.f0, F.f1, F.f2, F.f3, F.f4, F.f5, F.f6, F.f7, F.f8, F.f9, F.f10, F.f11, F.f12, F.f13, F.f14, fun _ => rfl, F.f16, F.st0, F.st1⟩
      clear F
      go_simp
      exact HK.out _ _ ⟨_, _, _, _, _, _, _, _, _, _, _, _, _, _, _, _, _, rfl, HF.out⟩
    · obtain rfl := F.f1 (by simp [hdep])
      obtain rfl := F.f15 (by simp [hdep])
      have HF : Hid (mos7F b2 i k p q x y S0 S1 (upd d_ 16) x27 (.int .i64 k) x29 x30 x31 x32 x33 x34 x35 x36 x37 x38 x39 x40 x41 (.pointer (some ⟨b2, i * 11, none⟩)) (.pointer (some ⟨b2, i * 11 + k, none⟩)) w1) := ⟨F.q3, F.q5, F.q6, F.q7, F.q10, F.q11, F.q12, F.q13, F.q14, F.q15, fun _ => ⟨(show _ from (by simp [hdep] : d_ 0 = true)), (show _ from (by simp [hdep] : d_ 1 = true)), (show _ from (by simp [hdep] : d_ 2 = true)), (show _ from (by simp [hdep] : d_ 3 = true)), (show _ from (by simp [hdep] : d_ 4 = true)), (show _ from (by simp [hdep] : d_ 5 = true)), (show _ from (by simp [hdep] : d_ 6 = true)), (show _ from (by simp [hdep] : d_ 7 = true)), (show _ from (by simp [hdep] : d_ 8 = true)), (show _ from (by simp [hdep] : d_ 9 = true)), (show _ from (by simp [hdep] : d_ 10 = true)), (show _ from (by simp [hdep] : d_ 11 = true)), (show _ from (by simp [hdep] : d_ 12 = true)), (show _ from (by simp [hdep] : d_ 13 = true)), (show _ from (by simp [hdep] : d_ 14 = true)), (show _ from (by simp [hdep] : d_ 15 = true))⟩, fun h => andL15 (F.q17 h) rfl, F.f0, F.f1, F.f2, F.f3, F.f4, F.f5, F.f6, F.f7, F.f8, F.f9, F.f10, F.f11, F.f12, F.f13, F.f14, F.f15, fun _ => rfl, F.st0, F.st1⟩
      clear F
      go_simp
      exact HK.out _ _ ⟨_, _, _, _, _, _, _, _, _, _, _, _, _, _, _, _, _, rfl, HF.out⟩
    · have hS := F.st0  hd_
      obtain rfl := F.f14 (by simp [hdep])
      obtain rfl := F.f16 (by simp [hdep])
      obtain ⟨⟨ku0, kcell0⟩, kfr0, hres⟩ := kc17.out w1 hS
      have HF : Hid (mos7F b2 i k p q x y S0 S1 (upd d_ 17) x27 x28 x29 x30 x31 x32 x33 x34 x35 x36 x37 x38 x39 x40 (.int .i64 (max x y)) x42 (.pointer (some ⟨b2, i * 11 + k, none⟩)) (w1.setCell ⟨b2, i * 11 + k, none⟩ (.int .i64 (max x y)))) := ⟨F.q3, F.q5, F.q6, F.q7, F.q10, F.q11, F.q12, F.q13, F.q14, F.q15, F.q16, fun _ => ⟨(show _ from (by simp [hdep] : d_ 0 = true)), (show _ from (by simp [hdep] : d_ 1 = true)), (show _ from (by simp [hdep] : d_ 2 = true)), (show _ from (by simp [hdep] : d_ 3 = true)), (show _ from (by simp [hdep] : d_ 4 = true)), (show _ from (by simp [hdep] : d_ 5 = true)), (show _ from (by simp [hdep] : d_ 6 = true)), (show _ from (by simp [hdep] : d_ 7 = true)), (show _ from (by simp [hdep] : d_ 8 = true)), (show _ from (by simp [hdep] : d_ 9 = true)), (show _ from (by simp [hdep] : d_ 10 = true)), (show _ from (by simp [hdep] : d_ 11 = true)), (show _ from (by simp [hdep] : d_ 12 = true)), (show _ from (by simp [hdep] : d_ 13 = true)), (show _ from (by simp [hdep] : d_ 14 = true)), (show _ from (by simp [hdep] : d_ 16 = true))⟩, F.f0, F.f1, F.f2, F.f3, F.f4, F.f5, F.f6, F.f7, F.f8, F.f9, F.f10, F.f11, F.f12, F.f13, F.f14, F.f15, F.f16, fun h => (by simp [upd] at h), fun _ => hres⟩
      clear F hS hres
      go_simp
      exact HK.out _ _ ⟨_, _, _, _, _, _, _, _, _, _, _, _, _, _, _, _, _, rfl, HF.out⟩
  · rintro d_ a_ w1 hall ⟨x27, x28, x29, x30, x31, x32, x33, x34, x35, x36, x37, x38, x39, x40, x41, x42, x43, rfl, F⟩
    have hall' : ∀ k, k < 18 → d_ k = true := hall
    obtain rfl := F.f0 (hall' 0 (by decide))
    obtain rfl := F.f1 (hall' 1 (by decide))
    obtain rfl := F.f2 (hall' 2 (by decide))
    obtain rfl := F.f3 (hall' 3 (by decide))
    obtain rfl := F.f4 (hall' 4 (by decide))
    obtain rfl := F.f5 (hall' 5 (by decide))
    obtain rfl := F.f6 (hall' 6 (by decide))
    obtain rfl := F.f7 (hall' 7 (by decide))
    obtain rfl := F.f8 (hall' 8 (by decide))
    obtain rfl := F.f9 (hall' 9 (by decide))
    obtain rfl := F.f10 (hall' 10 (by decide))
    obtain rfl := F.f11 (hall' 11 (by decide))
    obtain rfl := F.f12 (hall' 12 (by decide))
    obtain rfl := F.f13 (hall' 13 (by decide))
    obtain rfl := F.f14 (hall' 14 (by decide))
    obtain rfl := F.f15 (hall' 15 (by decide))
    obtain rfl := F.f16 (hall' 16 (by decide))
    have hst := F.st1 (hall' 17 (by decide))
    exact HQ.out  w1 hst
structure mos9F (b2 : Nat) (i : Nat) (k : Nat) (p : Nat) (q : Nat) (x : Int) (y : Int) (z : Int) (S0 : World → Prop) (S1 : World → Prop) (d : Nat → Bool) (x52 x53 x54 x55 x56 x57 x58 x59 x60 x61 x62 x63 x64 x65 x66 x67 x68 x69 : Value) (w : World) : Prop where
  q4 : d 4 = true → d 2 = true
  q5 : d 5 = true → d 3 = true ∧ d 4 = true
  q6 : d 6 = true → d 5 = true
  q8 : d 8 = true → d 7 = true
  q10 : d 10 = true → d 9 = true
  q11 : d 11 = true → d 8 = true
  q12 : d 12 = true → d 10 = true ∧ d 11 = true
  q13 : d 13 = true → d 12 = true
  q14 : d 14 = true → d 13 = true
  q15 : d 15 = true → d 6 = true ∧ d 14 = true
  q16 : d 16 = true → d 0 = true
  q17 : d 17 = true → d 0 = true ∧ d 1 = true ∧ d 2 = true ∧ d 3 = true ∧ d 4 = true ∧ d 5 = true ∧ d 6 = true ∧ d 7 = true ∧ d 8 = true ∧ d 9 = true ∧ d 10 = true ∧ d 11 = true ∧ d 12 = true ∧ d 13 = true ∧ d 14 = true ∧ d 15 = true ∧ d 16 = true
  q18 : d 18 = true → d 0 = true ∧ d 1 = true ∧ d 2 = true ∧ d 3 = true ∧ d 4 = true ∧ d 5 = true ∧ d 6 = true ∧ d 7 = true ∧ d 8 = true ∧ d 9 = true ∧ d 10 = true ∧ d 11 = true ∧ d 12 = true ∧ d 13 = true ∧ d 14 = true ∧ d 15 = true ∧ d 17 = true
  f0 : d 0 = true → x52 = .int .i64 i
  f1 : d 1 = true → x53 = .int .i64 k
  f2 : d 2 = true → x54 = .int .i64 i
  f3 : d 3 = true → x55 = .int .i64 k
  f4 : d 4 = true → x56 = .pointer (some ⟨b2, i * 11, none⟩)
  f5 : d 5 = true → x57 = .pointer (some ⟨b2, i * 11 + k, none⟩)
  f6 : d 6 = true → x58 = .int .i64 x
  f7 : d 7 = true → x59 = .int .i64 i
  f8 : d 8 = true → x60 = .int .i64 p
  f9 : d 9 = true → x61 = .int .i64 k
  f10 : d 10 = true → x62 = .int .i64 q
  f11 : d 11 = true → x63 = .pointer (some ⟨b2, p * 11, none⟩)
  f12 : d 12 = true → x64 = .pointer (some ⟨b2, p * 11 + q, none⟩)
  f13 : d 13 = true → x65 = .int .i64 y
  f14 : d 14 = true → x66 = .int .i64 z
  f15 : d 15 = true → x67 = .int .i64 (max x z)
  f16 : d 16 = true → x68 = .pointer (some ⟨b2, i * 11, none⟩)
  f17 : d 17 = true → x69 = .pointer (some ⟨b2, i * 11 + k, none⟩)
  st0 : d 18 = false → S0 w
  st1 : d 18 = true → S1 w
noncomputable def mos9C : Code := (Tryd.f29.body.bind (regionAt 9)).getD .skip
set_option maxRecDepth 100000 in
set_option maxHeartbeats 4000000 in
theorem mos9 {b2 : Nat} {i : Nat} {k : Nat} {p : Nat} {q : Nat} {x : Int} {y : Int} {z : Int} {S0 : World → Prop} {S1 : World → Prop} {Q : Exit → Act → World → Prop} {W1 : World} (hwi : IntKind.i64.wrap ((i : Int) + 1) = (p : Int)) (hwk : IntKind.i64.wrap ((k : Int) + 1) = (q : Int)) (hi1 : (0 : Int) ≤ i) (hi2 : (i : Int) < 11) (hk1 : (0 : Int) ≤ k) (hk2 : (k : Int) < 11) (hp1 : (0 : Int) ≤ p) (hp2 : (p : Int) < 11) (hq1 : (0 : Int) ≤ q) (hq2 : (q : Int) < 11) (hwz : IntKind.i64.wrap (1 + y) = z) (h0 : S0 W1.drew)
    (kl6 : Hid (∀ (w : World), (S0 w) → w.cell? ⟨b2, i * 11 + k, none⟩ = some (.int .i64 x)))
    (kl13 : Hid (∀ (w : World), (S0 w) → w.cell? ⟨b2, p * 11 + q, none⟩ = some (.int .i64 y)))
    (kc18 : Hid (∀ (w : World), S0 w → (∃ u, w.cell? ⟨b2, i * 11 + k, none⟩ = some u) ∧ w.frozen? ⟨b2, i * 11 + k, none⟩ = false ∧ S1 (w.setCell ⟨b2, i * 11 + k, none⟩ (.int .i64 (max x z)))))
    {s0 s1 s5 s6 s7 s8 s9 s10 s11 s12 s13 s14 s15 s16 s17 s18 s19 s20 s21 s22 s23 s24 s25 s26 s27 s28 s29 s30 s31 s32 s33 s34 s35 s36 s37 s38 s39 s40 s41 s42 s43 s44 s45 s46 s47 s48 s49 s50 s51 s52 s53 s54 s55 s56 s57 s58 s59 s60 s61 s62 s63 s64 s65 s66 s67 s68 s69 s70 : Value} {dd : List Deferred}
    (hQ : ∀ (w' : World), S1 w' → Q .normal { tmps := List.toArray (s0 :: s1 :: .pointer (some ⟨b2, 0, none⟩) :: .int .i64 i :: .int .i64 k :: s5 :: s6 :: s7 :: s8 :: s9 :: s10 :: s11 :: s12 :: s13 :: s14 :: s15 :: s16 :: s17 :: s18 :: s19 :: s20 :: s21 :: s22 :: s23 :: s24 :: s25 :: s26 :: s27 :: s28 :: s29 :: s30 :: s31 :: s32 :: s33 :: s34 :: s35 :: s36 :: s37 :: s38 :: s39 :: s40 :: s41 :: s42 :: s43 :: s44 :: s45 :: s46 :: s47 :: s48 :: s49 :: s50 :: s51 :: .int .i64 i :: .int .i64 k :: .int .i64 i :: .int .i64 k :: .pointer (some ⟨b2, i * 11, none⟩) :: .pointer (some ⟨b2, i * 11 + k, none⟩) :: .int .i64 x :: .int .i64 i :: .int .i64 p :: .int .i64 k :: .int .i64 q :: .pointer (some ⟨b2, p * 11, none⟩) :: .pointer (some ⟨b2, p * 11 + q, none⟩) :: .int .i64 y :: .int .i64 z :: .int .i64 (max x z) :: .pointer (some ⟨b2, i * 11, none⟩) :: .pointer (some ⟨b2, i * 11 + k, none⟩) :: s70 :: []), defers := dd } w') :
    Code.wpIn (wideAt none) 0 Tryd.prog mos9C Q { tmps := List.toArray (s0 :: s1 :: .pointer (some ⟨b2, 0, none⟩) :: .int .i64 i :: .int .i64 k :: s5 :: s6 :: s7 :: s8 :: s9 :: s10 :: s11 :: s12 :: s13 :: s14 :: s15 :: s16 :: s17 :: s18 :: s19 :: s20 :: s21 :: s22 :: s23 :: s24 :: s25 :: s26 :: s27 :: s28 :: s29 :: s30 :: s31 :: s32 :: s33 :: s34 :: s35 :: s36 :: s37 :: s38 :: s39 :: s40 :: s41 :: s42 :: s43 :: s44 :: s45 :: s46 :: s47 :: s48 :: s49 :: s50 :: s51 :: s52 :: s53 :: s54 :: s55 :: s56 :: s57 :: s58 :: s59 :: s60 :: s61 :: s62 :: s63 :: s64 :: s65 :: s66 :: s67 :: s68 :: s69 :: s70 :: []), defers := dd } W1 := by
  have HQ := Lib.hid hQ
  clear hQ
  conv => arg 4; whnf
  refine wpIn_region_invG mixed (by kernel_rfl) (fun d_ a_ w' => ∃ (x52 : Value) (x53 : Value) (x54 : Value) (x55 : Value) (x56 : Value) (x57 : Value) (x58 : Value) (x59 : Value) (x60 : Value) (x61 : Value) (x62 : Value) (x63 : Value) (x64 : Value) (x65 : Value) (x66 : Value) (x67 : Value) (x68 : Value) (x69 : Value), a_ = { tmps := List.toArray (s0 :: s1 :: .pointer (some ⟨b2, 0, none⟩) :: .int .i64 i :: .int .i64 k :: s5 :: s6 :: s7 :: s8 :: s9 :: s10 :: s11 :: s12 :: s13 :: s14 :: s15 :: s16 :: s17 :: s18 :: s19 :: s20 :: s21 :: s22 :: s23 :: s24 :: s25 :: s26 :: s27 :: s28 :: s29 :: s30 :: s31 :: s32 :: s33 :: s34 :: s35 :: s36 :: s37 :: s38 :: s39 :: s40 :: s41 :: s42 :: s43 :: s44 :: s45 :: s46 :: s47 :: s48 :: s49 :: s50 :: s51 :: x52 :: x53 :: x54 :: x55 :: x56 :: x57 :: x58 :: x59 :: x60 :: x61 :: x62 :: x63 :: x64 :: x65 :: x66 :: x67 :: x68 :: x69 :: s70 :: []), defers := dd } ∧ mos9F b2 i k p q x y z S0 S1 d_ x52 x53 x54 x55 x56 x57 x58 x59 x60 x61 x62 x63 x64 x65 x66 x67 x68 x69 w') ?_ ?_ ?_
  · refine ⟨s52, s53, s54, s55, s56, s57, s58, s59, s60, s61, s62, s63, s64, s65, s66, s67, s68, s69, rfl, ?_⟩
    constructor <;> first | rfl | (intro _; rfl) | (intro h; cases h; done) | (intro _; exact h0) | exact h0
  · refine ⟨?_, ?_, ?_, ?_, ?_, ?_, ?_, ?_, ?_, ?_, ?_, ?_, ?_, ?_, ?_, ?_, ?_, ?_, ?_, trivial⟩
    all_goals
      rintro d_ a_ w1 K hd_ hdep ⟨x52, x53, x54, x55, x56, x57, x58, x59, x60, x61, x62, x63, x64, x65, x66, x67, x68, x69, rfl, F⟩ HK
      simp [Region.binds] at hdep
    · have HF : Hid (mos9F b2 i k p q x y z S0 S1 (upd d_ 0) (.int .i64 i) x53 x54 x55 x56 x57 x58 x59 x60 x61 x62 x63 x64 x65 x66 x67 x68 x69 w1) := ⟨F.q4, F.q5, F.q6, F.q8, F.q10, F.q11, F.q12, F.q13, F.q14, F.q15, fun h => rfl, fun h => andM0 (F.q17 h) rfl, fun h => andM0 (F.q18 h) rfl, fun _ => rfl, F.f1, F.f2, F.f3, F.f4, F.f5, F.f6, F.f7, F.f8, F.f9, F.f10, F.f11, F.f12, F.f13, F.f14, F.f15, F.f16, F.f17, F.st0, F.st1⟩
      clear F
      go_simp
      exact HK.out _ _ ⟨_, _, _, _, _, _, _, _, _, _, _, _, _, _, _, _, _, _, rfl, HF.out⟩
    · have HF : Hid (mos9F b2 i k p q x y z S0 S1 (upd d_ 1) x52 (.int .i64 k) x54 x55 x56 x57 x58 x59 x60 x61 x62 x63 x64 x65 x66 x67 x68 x69 w1) := ⟨F.q4, F.q5, F.q6, F.q8, F.q10, F.q11, F.q12, F.q13, F.q14, F.q15, F.q16, fun h => andM1 (F.q17 h) rfl, fun h => andM1 (F.q18 h) rfl, F.f0, fun _ => rfl, F.f2, F.f3, F.f4, F.f5, F.f6, F.f7, F.f8, F.f9, F.f10, F.f11, F.f12, F.f13, F.f14, F.f15, F.f16, F.f17, F.st0, F.st1⟩
      clear F
      go_simp
      exact HK.out _ _ ⟨_, _, _, _, _, _, _, _, _, _, _, _, _, _, _, _, _, _, rfl, HF.out⟩
    · have HF : Hid (mos9F b2 i k p q x y z S0 S1 (upd d_ 2) x52 x53 (.int .i64 i) x55 x56 x57 x58 x59 x60 x61 x62 x63 x64 x65 x66 x67 x68 x69 w1) := ⟨fun h => rfl, F.q5, F.q6, F.q8, F.q10, F.q11, F.q12, F.q13, F.q14, F.q15, F.q16, fun h => andM2 (F.q17 h) rfl, fun h => andM2 (F.q18 h) rfl, F.f0, F.f1, fun _ => rfl, F.f3, F.f4, F.f5, F.f6, F.f7, F.f8, F.f9, F.f10, F.f11, F.f12, F.f13, F.f14, F.f15, F.f16, F.f17, F.st0, F.st1⟩
      clear F
      go_simp
      exact HK.out _ _ ⟨_, _, _, _, _, _, _, _, _, _, _, _, _, _, _, _, _, _, rfl, HF.out⟩
    · have HF : Hid (mos9F b2 i k p q x y z S0 S1 (upd d_ 3) x52 x53 x54 (.int .i64 k) x56 x57 x58 x59 x60 x61 x62 x63 x64 x65 x66 x67 x68 x69 w1) := ⟨F.q4, fun h => andM0 (F.q5 h) rfl, F.q6, F.q8, F.q10, F.q11, F.q12, F.q13, F.q14, F.q15, F.q16, fun h => andM3 (F.q17 h) rfl, fun h => andM3 (F.q18 h) rfl, F.f0, F.f1, F.f2, fun _ => rfl, F.f4, F.f5, F.f6, F.f7, F.f8, F.f9, F.f10, F.f11, F.f12, F.f13, F.f14, F.f15, F.f16, F.f17, F.st0, F.st1⟩
      clear F
      go_simp
      exact HK.out _ _ ⟨_, _, _, _, _, _, _, _, _, _, _, _, _, _, _, _, _, _, rfl, HF.out⟩
    · obtain rfl := F.f2 (by simp [hdep])
      have HF : Hid (mos9F b2 i k p q x y z S0 S1 (upd d_ 4) x52 x53 (.int .i64 i) x55 (.pointer (some ⟨b2, i * 11, none⟩)) x57 x58 x59 x60 x61 x62 x63 x64 x65 x66 x67 x68 x69 w1) := ⟨fun _ => (show _ from (by simp [hdep] : d_ 2 = true)), fun h => andL1 (F.q5 h) rfl, F.q6, F.q8, F.q10, F.q11, F.q12, F.q13, F.q14, F.q15, F.q16, fun h => andM4 (F.q17 h) rfl, fun h => andM4 (F.q18 h) rfl, F.f0, F.f1, F.f2, F.f3, fun _ => rfl, F.f5, F.f6, F.f7, F.f8, F.f9, F.f10, F.f11, F.f12, F.f13, F.f14, F.f15, F.f16, F.f17, F.st0, F.st1⟩
      clear F
      go_simp
      exact HK.out _ _ ⟨_, _, _, _, _, _, _, _, _, _, _, _, _, _, _, _, _, _, rfl, HF.out⟩
    · obtain rfl := F.f3 (by simp [hdep])
      obtain rfl := F.f4 (by simp [hdep])
      have HF : Hid (mos9F b2 i k p q x y z S0 S1 (upd d_ 5) x52 x53 x54 (.int .i64 k) (.pointer (some ⟨b2, i * 11, none⟩)) (.pointer (some ⟨b2, i * 11 + k, none⟩)) x58 x59 x60 x61 x62 x63 x64 x65 x66 x67 x68 x69 w1) := ⟨F.q4, fun _ => ⟨(show _ from (by simp [hdep] : d_ 3 = true)), (show _ from (by simp [hdep] : d_ 4 = true))⟩, fun h => rfl, F.q8, F.q10, F.q11, F.q12, F.q13, F.q14, F.q15, F.q16, fun h => andM5 (F.q17 h) rfl, fun h => andM5 (F.q18 h) rfl, F.f0, F.f1, F.f2, F.f3, F.f4, fun _ => rfl, F.f6, F.f7, F.f8, F.f9, F.f10, F.f11, F.f12, F.f13, F.f14, F.f15, F.f16, F.f17, F.st0, F.st1⟩
      clear F
      go_simp
      exact HK.out _ _ ⟨_, _, _, _, _, _, _, _, _, _, _, _, _, _, _, _, _, _, rfl, HF.out⟩
    · have hst : S0 w1 := by
        have n_ : d_ 18 = false := by
          cases e_ : d_ 18 with
          | false => rfl
          | true => have h2 := (F.q18 e_).2.2.2.2.2.2.1; rw [show d_ 6 = false from hd_] at h2; cases h2
        exact (F.st0 n_)
      have kk := kl6.out w1 hst
      clear hst
      obtain rfl := F.f5 (by simp [hdep])
      have HF : Hid (mos9F b2 i k p q x y z S0 S1 (upd d_ 6) x52 x53 x54 x55 x56 (.pointer (some ⟨b2, i * 11 + k, none⟩)) (.int .i64 x) x59 x60 x61 x62 x63 x64 x65 x66 x67 x68 x69 w1) := ⟨F.q4, F.q5, fun _ => (show _ from (by simp [hdep] : d_ 5 = true)), F.q8, F.q10, F.q11, F.q12, F.q13, F.q14, fun h => andM0 (F.q15 h) rfl, F.q16, fun h => andM6 (F.q17 h) rfl, fun h => andM6 (F.q18 h) rfl, F.f0, F.f1, F.f2, F.f3, F.f4, F.f5, fun _ => rfl, F.f7, F.f8, F.f9, F.f10, F.f11, F.f12, F.f13, F.f14, F.f15, F.f16, F.f17, F.st0, F.st1⟩
      clear F
      go_simp
      exact HK.out _ _ ⟨_, _, _, _, _, _, _, _, _, _, _, _, _, _, _, _, _, _, rfl, HF.out⟩
    · have HF : Hid (mos9F b2 i k p q x y z S0 S1 (upd d_ 7) x52 x53 x54 x55 x56 x57 x58 (.int .i64 i) x60 x61 x62 x63 x64 x65 x66 x67 x68 x69 w1) := ⟨F.q4, F.q5, F.q6, fun h => rfl, F.q10, F.q11, F.q12, F.q13, F.q14, F.q15, F.q16, fun h => andM7 (F.q17 h) rfl, fun h => andM7 (F.q18 h) rfl, F.f0, F.f1, F.f2, F.f3, F.f4, F.f5, F.f6, fun _ => rfl, F.f8, F.f9, F.f10, F.f11, F.f12, F.f13, F.f14, F.f15, F.f16, F.f17, F.st0, F.st1⟩
      clear F
      go_simp
      exact HK.out _ _ ⟨_, _, _, _, _, _, _, _, _, _, _, _, _, _, _, _, _, _, rfl, HF.out⟩
    · obtain rfl := F.f7 (by simp [hdep])
      have HF : Hid (mos9F b2 i k p q x y z S0 S1 (upd d_ 8) x52 x53 x54 x55 x56 x57 x58 (.int .i64 i) (.int .i64 p) x61 x62 x63 x64 x65 x66 x67 x68 x69 w1) := ⟨F.q4, F.q5, F.q6, fun _ => (show _ from (by simp [hdep] : d_ 7 = true)), F.q10, fun h => rfl, F.q12, F.q13, F.q14, F.q15, F.q16, fun h => andM8 (F.q17 h) rfl, fun h => andM8 (F.q18 h) rfl, F.f0, F.f1, F.f2, F.f3, F.f4, F.f5, F.f6, F.f7, fun _ => rfl, F.f9, F.f10, F.f11, F.f12, F.f13, F.f14, F.f15, F.f16, F.f17, F.st0, F.st1⟩
      clear F
      go_simp
      exact HK.out _ _ ⟨_, _, _, _, _, _, _, _, _, _, _, _, _, _, _, _, _, _, rfl, HF.out⟩
    · have HF : Hid (mos9F b2 i k p q x y z S0 S1 (upd d_ 9) x52 x53 x54 x55 x56 x57 x58 x59 x60 (.int .i64 k) x62 x63 x64 x65 x66 x67 x68 x69 w1) := ⟨F.q4, F.q5, F.q6, F.q8, fun h => rfl, F.q11, F.q12, F.q13, F.q14, F.q15, F.q16, fun h => andM9 (F.q17 h) rfl, fun h => andM9 (F.q18 h) rfl, F.f0, F.f1, F.f2, F.f3, F.f4, F.f5, F.f6, F.f7, F.f8, fun _ => rfl, F.f10, F.f11, F.f12, F.f13, F.f14, F.f15, F.f16, F.f17, F.st0, F.st1⟩
      clear F
      go_simp
      exact HK.out _ _ ⟨_, _, _, _, _, _, _, _, _, _, _, _, _, _, _, _, _, _, rfl, HF.out⟩
    · obtain rfl := F.f9 (by simp [hdep])
      have HF : Hid (mos9F b2 i k p q x y z S0 S1 (upd d_ 10) x52 x53 x54 x55 x56 x57 x58 x59 x60 (.int .i64 k) (.int .i64 q) x63 x64 x65 x66 x67 x68 x69 w1) := ⟨F.q4, F.q5, F.q6, F.q8, fun _ => (show _ from (by simp [hdep] : d_ 9 = true)), F.q11, fun h => andM0 (F.q12 h) rfl, F.q13, F.q14, F.q15, F.q16, fun h => andM10 (F.q17 h) rfl, fun h => andM10 (F.q18 h) rfl, F.f0, F.f1, F.f2, F.f3, F.f4, F.f5, F.f6, F.f7, F.f8, F.f9, fun _ => rfl, F.f11, F.f12, F.f13, F.f14, F.f15, F.f16, F.f17, F.st0, F.st1⟩
      clear F
      go_simp
      exact HK.out _ _ ⟨_, _, _, _, _, _, _, _, _, _, _, _, _, _, _, _, _, _, rfl, HF.out⟩
    · obtain rfl := F.f8 (by simp [hdep])
      have HF : Hid (mos9F b2 i k p q x y z S0 S1 (upd d_ 11) x52 x53 x54 x55 x56 x57 x58 x59 (.int .i64 p) x61 x62 (.pointer (some ⟨b2, p * 11, none⟩)) x64 x65 x66 x67 x68 x69 w1) := ⟨F.q4, F.q5, F.q6, F.q8, F.q10, fun _ => (show _ from (by simp [hdep] : d_ 8 = true)), fun h => andL1 (F.q12 h) rfl, F.q13, F.q14, F.q15, F.q16, fun h => andM11 (F.q17 h) rfl, fun h => andM11 (F.q18 h) rfl, F.f0, F.f1, F.f2, F.f3, F.f4, F.f5, F.f6, F.f7, F.f8, F.f9, F.f10, fun _ => rfl, F.f12, F.f13, F.f14, F.f15, F.f16, F.f17, F.st0, F.st1⟩
      clear F
      go_simp
      exact HK.out _ _ ⟨_, _, _, _, _, _, _, _, _, _, _, _, _, _, _, _, _, _, rfl, HF.out⟩
    · obtain rfl := F.f10 (by simp [hdep])
      obtain rfl := F.f11 (by simp [hdep])
      have HF : Hid (mos9F b2 i k p q x y z S0 S1 (upd d_ 12) x52 x53 x54 x55 x56 x57 x58 x59 x60 x61 (.int .i64 q) (.pointer (some ⟨b2, p * 11, none⟩)) (.pointer (some ⟨b2, p * 11 + q, none⟩)) x65 x66 x67 x68 x69 w1) := ⟨F.q4, F.q5, F.q6, F.q8, F.q10, F.q11, fun _ => ⟨(show _ from (by simp [hdep] : d_ 10 = true)), (show _ from (by simp [hdep] : d_ 11 = true))⟩, fun h => rfl, F.q14, F.q15, F.q16, fun h => andM12 (F.q17 h) rfl, fun h => andM12 (F.q18 h) rfl, F.f0, F.f1, F.f2, F.f3, F.f4, F.f5, F.f6, F.f7, F.f8, F.f9, F.f10, F.f11, fun _ => rfl, F.f13, F.f14, F.f15, F.f16, F.f17, F.st0, F.st1⟩
      clear F
      go_simp
      exact HK.out _ _ ⟨_, _, _, _, _, _, _, _, _, _, _, _, _, _, _, _, _, _, rfl, HF.out⟩
    · have hst : S0 w1 := by
        have n_ : d_ 18 = false := by
          cases e_ : d_ 18 with
          | false => rfl
          | true => have h2 := (F.q18 e_).2.2.2.2.2.2.2.2.2.2.2.2.2.1; rw [show d_ 13 = false from hd_] at h2; cases h2
        exact (F.st0 n_)
      have kk := kl13.out w1 hst
      clear hst
      obtain rfl := F.f12 (by simp [hdep])
      have HF : Hid (mos9F b2 i k p q x y z S0 S1 (upd d_ 13) x52 x53 x54 x55 x56 x57 x58 x59 x60 x61 x62 x63 (.pointer (some ⟨b2, p * 11 + q, none⟩)) (.int .i64 y) x66 x67 x68 x69 w1) := ⟨F.q4, F.q5, F.q6, F.q8, F.q10, F.q11, F.q12, fun _ => (show _ from (by simp [hdep] : d_ 12 = true)), fun h => rfl, F.q15, F.q16, fun h => andM13 (F.q17 h) rfl, fun h => andM13 (F.q18 h) rfl, F.f0, F.f1, F.f2, F.f3, F.f4, F.f5, F.f6, F.f7, F.f8, F.f9, F.f10, F.f11, F.f12, fun _ => rfl, F.f14, F.f15, F.f16, F.f17, F.st0, F.st1⟩
      clear F
      go_simp
      exact HK.out _ _ ⟨_, _, _, _, _, _, _, _, _, _, _, _, _, _, _, _, _, _, rfl, HF.out⟩
    · obtain rfl := F.f13 (by simp [hdep])
      have HF : Hid (mos9F b2 i k p q x y z S0 S1 (upd d_ 14) x52 x53 x54 x55 x56 x57 x58 x59 x60 x61 x62 x63 x64 (.int .i64 y) (.int .i64 z) x67 x68 x69 w1) := ⟨F.q4, F.q5, F.q6, F.q8, F.q10, F.q11, F.q12, F.q13, fun _ => (show _ from (by simp [hdep] : d_ 13 = true)), fun h => andL1 (F.q15 h) rfl, F.q16, fun h => andM14 (F.q17 h) rfl, fun h => andM14 (F.q18 h) rfl, F.f0, F.f1, F.f2, F.f3, F.f4, F.f5, F.f6, F.f7, F.f8, F.f9, F.f10, F.f11, F.f12, F.f13, fun _ => rfl, F.f15, F.f16, F.f17, F.st0, F.st1⟩
      clear F
      go_simp
      exact HK.out _ _ ⟨_, _, _, _, _, _, _, _, _, _, _, _, _, _, _, _, _, _, rfl, HF.out⟩
    · obtain rfl := F.f6 (by simp [hdep])
      obtain rfl := F.f14 (by simp [hdep])
      have HF : Hid (mos9F b2 i k p q x y z S0 S1 (upd d_ 15) x52 x53 x54 x55 x56 x57 (.int .i64 x) x59 x60 x61 x62 x63 x64 x65 (.int .i64 z) (.int .i64 (max x z)) x68 x69 w1) := ⟨F.q4, F.q5, F.q6, F.q8, F.q10, F.q11, F.q12, F.q13, F.q14, fun _ => ⟨(show _ from (by simp [hdep] : d_ 6 = true)), (show _ from (by simp [hdep] : d_ 14 = true))⟩, F.q16, fun h => andM15 (F.q17 h) rfl, fun h => andM15 (F.q18 h) rfl, F.f0, F.f1, F.f2, F.f3, F.f4, F.f5, F.f6, F.f7, F.f8, F.f9, F.f10, F.f11, F.f12, F.f13, F.f14, fun _ => rfl, F.f16, F.f17, F.st0, F.st1⟩
      clear F
      go_simp
      exact HK.out _ _ ⟨_, _, _, _, _, _, _, _, _, _, _, _, _, _, _, _, _, _, rfl, HF.out⟩
    · obtain rfl := F.f0 (by simp [hdep])
      have HF : Hid (mos9F b2 i k p q x y z S0 S1 (upd d_ 16) (.int .i64 i) x53 x54 x55 x56 x57 x58 x59 x60 x61 x62 x63 x64 x65 x66 x67 (.pointer (some ⟨b2, i * 11, none⟩)) x69 w1) := ⟨F.q4, F.q5, F.q6, F.q8, F.q10, F.q11, F.q12, F.q13, F.q14, F.q15, fun _ => (show _ from (by simp [hdep] : d_ 0 = true)), fun h => andL16 (F.q17 h) rfl, F.q18, F.f0, F.f1, F.f2, F.f3, F.f4, F.f5, F.f6, F.f7, F.f8, F.f9, F.f10, F.f11, F.f12, F.f13, F.f14, F.f15, fun _ => rfl, F.f17, F.st0, F.st1⟩
      clear F
      go_simp
      exact HK.out _ _ ⟨_, _, _, _, _, _, _, _, _, _, _, _, _, _, _, _, _, _, rfl, HF.out⟩
    · obtain rfl := F.f1 (by simp [hdep])
      obtain rfl := F.f16 (by simp [hdep])
      have HF : Hid (mos9F b2 i k p q x y z S0 S1 (upd d_ 17) x52 (.int .i64 k) x54 x55 x56 x57 x58 x59 x60 x61 x62 x63 x64 x65 x66 x67 (.pointer (some ⟨b2, i * 11, none⟩)) (.pointer (some ⟨b2, i * 11 + k, none⟩)) w1) := ⟨F.q4, F.q5, F.q6, F.q8, F.q10, F.q11, F.q12, F.q13, F.q14, F.q15, F.q16, fun _ => ⟨(show _ from (by simp [hdep] : d_ 0 = true)), (show _ from (by simp [hdep] : d_ 1 = true)), (show _ from (by simp [hdep] : d_ 2 = true)), (show _ from (by simp [hdep] : d_ 3 = true)), (show _ from (by simp [hdep] : d_ 4 = true)), (show _ from (by simp [hdep] : d_ 5 = true)), (show _ from (by simp [hdep] : d_ 6 = true)), (show _ from (by simp [hdep] : d_ 7 = true)), (show _ from (by simp [hdep] : d_ 8 = true)), (show _ from (by simp [hdep] : d_ 9 = true)), (show _ from (by simp [hdep] : d_ 10 = true)), (show _ from (by simp [hdep] : d_ 11 = true)), (show _ from (by simp [hdep] : d_ 12 = true)), (show _ from (by simp [hdep] : d_ 13 = true)), (show _ from (by simp [hdep] : d_ 14 = true)), (show _ from (by simp [hdep] : d_ 15 = true)), (show _ from (by simp [hdep] : d_ 16 = true))⟩, fun h => andL16 (F.q18 h) rfl, F.f0, F.f1, F.f2, F.f3, F.f4, F.f5, F.f6, F.f7, F.f8, F.f9, F.f10, F.f11, F.f12, F.f13, F.f14, F.f15, F.f16, fun _ => rfl, F.st0, F.st1⟩
      clear F
      go_simp
      exact HK.out _ _ ⟨_, _, _, _, _, _, _, _, _, _, _, _, _, _, _, _, _, _, rfl, HF.out⟩
    · have hS := F.st0  hd_
      obtain rfl := F.f15 (by simp [hdep])
      obtain rfl := F.f17 (by simp [hdep])
      obtain ⟨⟨ku0, kcell0⟩, kfr0, hres⟩ := kc18.out w1 hS
      have HF : Hid (mos9F b2 i k p q x y z S0 S1 (upd d_ 18) x52 x53 x54 x55 x56 x57 x58 x59 x60 x61 x62 x63 x64 x65 x66 (.int .i64 (max x z)) x68 (.pointer (some ⟨b2, i * 11 + k, none⟩)) (w1.setCell ⟨b2, i * 11 + k, none⟩ (.int .i64 (max x z)))) := ⟨F.q4, F.q5, F.q6, F.q8, F.q10, F.q11, F.q12, F.q13, F.q14, F.q15, F.q16, F.q17, fun _ => ⟨(show _ from (by simp [hdep] : d_ 0 = true)), (show _ from (by simp [hdep] : d_ 1 = true)), (show _ from (by simp [hdep] : d_ 2 = true)), (show _ from (by simp [hdep] : d_ 3 = true)), (show _ from (by simp [hdep] : d_ 4 = true)), (show _ from (by simp [hdep] : d_ 5 = true)), (show _ from (by simp [hdep] : d_ 6 = true)), (show _ from (by simp [hdep] : d_ 7 = true)), (show _ from (by simp [hdep] : d_ 8 = true)), (show _ from (by simp [hdep] : d_ 9 = true)), (show _ from (by simp [hdep] : d_ 10 = true)), (show _ from (by simp [hdep] : d_ 11 = true)), (show _ from (by simp [hdep] : d_ 12 = true)), (show _ from (by simp [hdep] : d_ 13 = true)), (show _ from (by simp [hdep] : d_ 14 = true)), (show _ from (by simp [hdep] : d_ 15 = true)), (show _ from (by simp [hdep] : d_ 17 = true))⟩, F.f0, F.f1, F.f2, F.f3, F.f4, F.f5, F.f6, F.f7, F.f8, F.f9, F.f10, F.f11, F.f12, F.f13, F.f14, F.f15, F.f16, F.f17, fun h => (by simp [upd] at h), fun _ => hres⟩
      clear F hS hres
      go_simp
      exact HK.out _ _ ⟨_, _, _, _, _, _, _, _, _, _, _, _, _, _, _, _, _, _, rfl, HF.out⟩
  · rintro d_ a_ w1 hall ⟨x52, x53, x54, x55, x56, x57, x58, x59, x60, x61, x62, x63, x64, x65, x66, x67, x68, x69, rfl, F⟩
    have hall' : ∀ k, k < 19 → d_ k = true := hall
    obtain rfl := F.f0 (hall' 0 (by decide))
    obtain rfl := F.f1 (hall' 1 (by decide))
    obtain rfl := F.f2 (hall' 2 (by decide))
    obtain rfl := F.f3 (hall' 3 (by decide))
    obtain rfl := F.f4 (hall' 4 (by decide))
    obtain rfl := F.f5 (hall' 5 (by decide))
    obtain rfl := F.f6 (hall' 6 (by decide))
    obtain rfl := F.f7 (hall' 7 (by decide))
    obtain rfl := F.f8 (hall' 8 (by decide))
    obtain rfl := F.f9 (hall' 9 (by decide))
    obtain rfl := F.f10 (hall' 10 (by decide))
    obtain rfl := F.f11 (hall' 11 (by decide))
    obtain rfl := F.f12 (hall' 12 (by decide))
    obtain rfl := F.f13 (hall' 13 (by decide))
    obtain rfl := F.f14 (hall' 14 (by decide))
    obtain rfl := F.f15 (hall' 15 (by decide))
    obtain rfl := F.f16 (hall' 16 (by decide))
    obtain rfl := F.f17 (hall' 17 (by decide))
    have hst := F.st1 (hall' 18 (by decide))
    exact HQ.out  w1 hst
end Go.Proofs.YtbnhngfegnhaiaaDoor
namespace Go.Proofs.YtbnhngfegnhaiaaDoor
open Go.RowKit
set_option linter.unusedVariables false
set_option linter.unusedSimpArgs false
theorem zero156 : Tryd.zeroCells72 = (numL fun _ => 0).toArray := by rfl
theorem range_of {w : World} {b : Nat} {l : List Value} {t : TypeId} {fr : Nat × Nat} (hb : w.heap[b]? = some (.cells l.toArray t fr)) : w.rangeAt b 0 l := fun j v hv => by
  rw [Nat.zero_add]
  have e : w.cell? ⟨b, j, none⟩ = l.toArray[j]? := cell_of_heap hb
  rw [e]
  simpa using hv
theorem res_cell {P : Program} {fn : Func} {u : Tmp} {t : TypeId} {v : Value} (h : fn.results = #[.cell u t]) (tmps : Array Value) {w : World} {b : Nat} (hp : tmps.getD u undef = .pointer (some ⟨b, 0, none⟩)) (hr : (loadVar t ⟨b, 0, none⟩).run P w = .ok v w) :
    (results fn tmps).run P w = .ok v w := by
  have hp' : tmps[u]?.getD undef = .pointer (some ⟨b, 0, none⟩) := by simpa using hp
  simp [results, h, hp', asAddr, hr]
theorem res_big {fn : Func} {u : Tmp} (h : fn.results = #[.cell u 72]) (tmps : Array Value) {w : World} {b : Nat} {U : Nat → Int} (hp : tmps.getD u undef = .pointer (some ⟨b, 0, none⟩)) (hq : w.heap[b]? = some (.cells (numL U).toArray 72 (0, 0))) :
    (results fn tmps).run Tryd.prog w = .ok (.agg (numL U).toArray) w :=
  res_cell h tmps hp (run_loadVar_mid (P := Tryd.prog) w b 0 72 (numL U) _ (range_of hq) Tryd.underlying72 rfl (by rw [numL_len]; exact info156))
/-- What stays while the table is made. -/
structure MosI (w0 : World) (b2 : Nat) (U : Nat → Int) (v : World) : Prop where
  below : Below w0.heap.size w0 v
  tab : v.heap[b2]? = some (.cells (numL U).toArray 72 (0, 0))
theorem MosI.put {w0 v : World} {b2 : Nat} {U : Nat → Int} (h : MosI w0 b2 U v) (h2 : w0.heap.size ≤ b2) {j : Nat} (hj : j < 121) (z : Int) : MosI w0 b2 (fun x => if x = j then z else U x) (v.setCell ⟨b2, j, none⟩ (.int .i64 z)) := by
  refine ⟨h.below.setCell (p := ⟨b2, j, none⟩) h2 _, ?_⟩
  have h1 := heap_setCell_at (k := j) h.tab (.int .i64 z)
  rw [List.setIfInBounds_toArray, numL_set _ hj] at h1
  exact h1
theorem MosI.drew {w0 v : World} {b2 : Nat} {U : Nat → Int} (h : MosI w0 b2 U v) : MosI w0 b2 U v.drew := ⟨h.below.drew, h.tab⟩
theorem mst_le (F : Nat → Nat → Bool) (n m : Nat) : ∀ a b, mst F n m a b ≤ a
  | 0, _ => Nat.le_refl _
  | a + 1, b => by
    induction b with
    | zero => exact Nat.zero_le _
    | succ b ih =>
      show rowB (F (n - (a + 1))) m (mst F n m a) (b + 1) ≤ a + 1
      have h1 := mst_le F n m a (b + 1)
      have h2 := mst_le F n m a b
      have h3 : rowB (F (n - (a + 1))) m (mst F n m a) b ≤ a + 1 := ih
      unfold rowB
      split <;> omega
set_option maxRecDepth 100000 in
set_option maxHeartbeats 8000000 in
theorem most82 {r : Rws} {al ar : Option Addr} {cl cr b : Nat} {T : Nat → Bool} {need : Int} {w : World} (h : IsRws w b r al cl ar cr T need) (hl1 : r.left.length ≤ 10) (hl2 : r.right.length ≤ 10) :
    Calls Tryd.prog 29 #[.pointer (some ⟨b, 0, none⟩)] w fun e w' => e = .returned (.agg (numL (dI (fun i k => T (i * 10 + k)) r.left.length r.right.length 0 0)).toArray) ∧ Below w.heap.size w w' := by
  have HO : Hid (MosI w w.heap.size (dI (fun i k => T (i * 10 + k)) r.left.length r.right.length r.left.length 0) (w.alloc (.cells Tryd.zeroCells72 72))) := by
    rw [dI_start, zero156]
    exact ⟨alloc_below _ _, World.alloc_heap_new _ _⟩
  have H := Lib.hid h
  clear h
  go_enter Tryd.func29, Tryd.ntmps29
  refine wp_seq_hid ?_
  intro K0 HK0
  go_wp2_with fail
  refine HK0.out _ _ ?_
  clear HK0 K0
  revert HO
  generalize w.alloc (.cells Tryd.zeroCells72 72) = w1
  generalize hb2 : w.heap.size = b2
  intro HO
  have HB2 := Lib.hid hb2
  clear hb2
  have x1 : IntKind.i64.wrap ((r.left.length : Int) - 1) = (r.left.length : Int) - 1 := IntWalk.i64_in _ (by omega)
  have k0 : w1.cell? ⟨b, 0, none⟩ = some (.slice al r.left.length cl) := (H.out.mono HO.out.below).left
  refine wp_seq_hid ?_
  intro K1 HK1
  go_wp2_with fail
  clear k0 x1
  go_loopw [3] (fun q wr => ∃ i : Nat, i ≤ r.left.length ∧ q = .int .i64 ((i : Int) - 1) ∧ Hid (MosI w b2 (dI (fun i k => T (i * 10 + k)) r.left.length r.right.length i 0) wr)) (fun q _ => (intOf q + 1).toNat)
  case atStart => exact ⟨r.left.length, by omega, rfl, HO⟩
  case round =>
    obtain ⟨i0, hi0, rfl, HW⟩ := hrel
    clear HO
    by_cases hz : i0 = 0
    · subst hz
      have HF : Hid (MosI w b2 (dI (fun i k => T (i * 10 + k)) r.left.length r.right.length 0 0) wr) := HW.out
      clear HW
      have hm : (((0 : Nat) : Int) - 1) = -1 := rfl
      rw [hm]
      clear hm
      go_wp2_with fail
      refine HK1.out _ _ ?_
      revert HF
      generalize dI (fun i k => T (i * 10 + k)) r.left.length r.right.length 0 0 = U
      intro HF
      go_wp2_with (first | (refine wpList_load_mid rfl 72 _ (by rfl) b2 0 (by rfl) (numL U) _ (range_of HF.out.tab) Tryd.underlying72 rfl (by rw [numL_len]; exact info156) ?_) | (refine wpList_store_mid rfl 72 _ _ (by rfl) b2 0 (numL U).toArray (by rfl) (by rfl) ?ht (by rw [List.size_toArray, numL_len]; exact info156) (numL_one U) ?_))
      case ht => exact fun j hj => ⟨by rw [Nat.zero_add, num_cell HF.out.tab (by rw [List.size_toArray, numL_len] at hj; exact hj)]; rfl, frozen_of_heap HF.out.tab⟩
      have hs : (wr.setCells b2 0 (numL U)).heap[b2]? = some (.cells (numL U).toArray 72 (0, 0)) := heap_setCells_same _ 0 _ HF.out.tab (fun j v hj => by rw [Nat.zero_add, List.getElem?_toArray]; exact hj)
      have hb := below_setCells (B := b2) (A := w) (Nat.le_refl b2) (numL U) 0 wr (by have := HF.out.below; rw [HB2.out] at this; exact this)
      exact bodyPost_ret (res_big rfl _ rfl hs) rfl ⟨rfl, hb⟩
    · obtain ⟨i, rfl⟩ : ∃ i, i0 = i + 1 := ⟨i0 - 1, by omega⟩
      rw [show (((i + 1 : Nat) : Int) - 1) = i by omega]
      have k1 : wr.cell? ⟨b, 1, none⟩ = some (.slice ar r.right.length cr) := (H.out.mono HW.out.below).right
      have x1 : IntKind.i64.wrap ((r.right.length : Int) - 1) = (r.right.length : Int) - 1 := IntWalk.i64_in _ (by omega)
      have HY : Hid (MosI w b2 (dI (fun i k => T (i * 10 + k)) r.left.length r.right.length i r.right.length) wr) := by
        rw [dI_row]
        exact HW.out
      clear HW
      go_wp2_with fail
      clear k1 x1
      go_loopw [4] (fun q wr => ∃ k : Nat, k ≤ r.right.length ∧ q = .int .i64 ((k : Int) - 1) ∧ Hid (MosI w b2 (dI (fun i k => T (i * 10 + k)) r.left.length r.right.length i k) wr)) (fun q _ => (intOf q + 1).toNat)
      case atStart => exact ⟨r.right.length, by omega, rfl, HY⟩
      case round =>
        obtain ⟨k0, hk0, rfl, HW⟩ := hrel
        clear HY
        by_cases hzk : k0 = 0
        · subst hzk
          have HF : Hid (MosI w b2 (dI (fun i k => T (i * 10 + k)) r.left.length r.right.length i 0) wr) := HW.out
          clear HW
          rw [show (((0 : Nat) : Int) - 1) = -1 from rfl]
          go_wp2_with fail
          go_roundw
          case rel => exact ⟨i, by omega, rfl, HF.out⟩
          case measure => simp [intOf]
        · obtain ⟨k, rfl⟩ : ∃ k, k0 = k + 1 := ⟨k0 - 1, by omega⟩
          rw [show (((k + 1 : Nat) : Int) - 1) = k by omega]
          have HST := Lib.hid (mst_step (fun i k => T (i * 10 + k)) (n := r.left.length) (m := r.right.length) (i := i) (k := k) (by omega) (by omega))
          have HVA := Lib.hid (dI_at (fun i k => T (i * 10 + k)) r.left.length r.right.length (i := i) (k := k + 1) (a := i + 1) (b := k) (by omega) (.inl (by omega)))
          have HVB := Lib.hid (dI_at (fun i k => T (i * 10 + k)) r.left.length r.right.length (i := i) (k := k + 1) (a := i) (b := k + 1) (by omega) (.inr ⟨rfl, Nat.le_refl _⟩))
          have HVC := Lib.hid (dI_at (fun i k => T (i * 10 + k)) r.left.length r.right.length (i := i) (k := k + 1) (a := i + 1) (b := k + 1) (by omega) (.inl (by omega)))
          have HDS := Lib.hid (dI_set (fun i k => T (i * 10 + k)) r.left.length r.right.length (i := i) (k := k) (by omega))
          have HLC := Lib.hid (mst_le (fun i k => T (i * 10 + k)) r.left.length r.right.length (r.left.length - (i + 1)) (r.right.length - (k + 1)))
          go_upto_region 7 with fail
          revert HW HST HVA HVB HVC HDS HLC
          generalize dI (fun i k => T (i * 10 + k)) r.left.length r.right.length i (k + 1) = U
          generalize hU : dI (fun i k => T (i * 10 + k)) r.left.length r.right.length i k = U'
          generalize mst (fun i k => T (i * 10 + k)) r.left.length r.right.length (r.left.length - i) (r.right.length - k) = vd
          generalize mst (fun i k => T (i * 10 + k)) r.left.length r.right.length (r.left.length - (i + 1)) (r.right.length - k) = va
          generalize mst (fun i k => T (i * 10 + k)) r.left.length r.right.length (r.left.length - i) (r.right.length - (k + 1)) = vb
          generalize mst (fun i k => T (i * 10 + k)) r.left.length r.right.length (r.left.length - (i + 1)) (r.right.length - (k + 1)) = vc
          intro HW HST HVA HVB HVC HDS HLC
          have HUE := Lib.hid hU
          clear hU
          refine wpIn_wide.1 (mos7 (b2 := b2) (i := i) (k := k) (p := i + 1) (q := k + 1) (x := va) (y := vb)
            (S0 := fun v => MosI w b2 U v) (S1 := fun v => MosI w b2 (fun x => if x = i * 11 + k then max (va : Int) vb else U x) v)
            (IntWalk.i64_in _ (by omega)) (IntWalk.i64_in _ (by omega)) (by omega) (by omega) (by omega) (by omega) (by omega) (by omega) (by omega) (by omega) ?h0 ?l7 ?l13 ?c17 ?hQ)
          case h0 => exact HW.out.drew
          case l7 => exact fun v h => by rw [num_cell h.tab (by omega), HVA.out]
          case l13 => exact fun v h => by rw [num_cell h.tab (by omega), HVB.out]
          case c17 => exact fun v h => ⟨⟨_, num_cell h.tab (by omega)⟩, frozen_of_heap h.tab, h.put (by rw [HB2.out]; exact Nat.le_refl _) (by omega) _⟩
          intro w4 h
          have HF := Lib.hid h
          clear h HW HVA HVB
          have kt : w4.cell? ⟨b, 5 + i * 10 + k, none⟩ = some (.bool (T (i * 10 + k))) := by
            rw [Nat.add_assoc]
            exact (H.out.mono HF.out.below).tab (by omega)
          have g1 : (i : Int) < 10 := by omega
          have g2 : (k : Int) < 10 := by omega
          cases ht : T (i * 10 + k)
          · rw [ht] at kt
            have HEQ : Hid ((fun x => if x = i * 11 + k then max (va : Int) vb else U x) = U') := by
              rw [Hid, ← HDS.out]
              funext x
              have e := HST.out
              rw [if_neg (by rw [ht]; decide)] at e
              split
              · rw [e]; omega
              · rfl
            clear ht
            go_wp2_with fail
            clear kt g1 g2
            go_roundw
            case rel => exact ⟨k, by omega, rfl, by have h := HF.out; rw [HEQ.out, ← HUE.out] at h; exact h⟩
            case measure => simp [intOf] <;> omega
          · rw [ht] at kt
            have HEQ : Hid ((fun t => if t = i * 11 + k then max (max (va : Int) vb) (1 + vc) else (if t = i * 11 + k then max (va : Int) vb else U t)) = U') := by
              rw [Hid, ← HDS.out]
              funext x
              have e := HST.out
              rw [if_pos (by rw [ht])] at e
              split
              · rw [e]; omega
              · next h => rfl
            clear ht
            go_upto_region 9 with fail
            clear kt
            refine wpIn_wide.1 (mos9 (b2 := b2) (i := i) (k := k) (p := i + 1) (q := k + 1) (x := max (va : Int) vb) (y := vc) (z := 1 + vc)
              (S0 := fun v => MosI w b2 (fun x => if x = i * 11 + k then max (va : Int) vb else U x) v) (S1 := fun v => MosI w b2 U' v)
              (IntWalk.i64_in _ (by omega)) (IntWalk.i64_in _ (by omega)) (by omega) (by omega) (by omega) (by omega) (by omega) (by omega) (by omega) (by omega) (IntWalk.i64_in _ (by have := HLC.out; omega)) ?h0_b ?l6_b ?l13_b ?c18_b ?hQ_b)
            case h0_b => exact HF.out.drew
            case l6_b => exact fun v h => by rw [num_cell h.tab (by omega), if_pos rfl]
            case l13_b => exact fun v h => by rw [num_cell h.tab (by omega), if_neg (by omega), HVC.out]
            case c18_b =>
              intro v h
              refine ⟨⟨_, num_cell h.tab (by omega)⟩, frozen_of_heap h.tab, ?_⟩
              have h2 := h.put (by rw [HB2.out]; exact Nat.le_refl _) (j := i * 11 + k) (by omega) (max (max (va : Int) vb) (1 + vc))
              rw [HEQ.out] at h2
              exact h2
            intro w5 h
            have HF5 := Lib.hid h
            clear h g1 g2
            go_wp2_with fail
            go_roundw
            case rel => exact ⟨k, by omega, rfl, by have h := HF5.out; rw [← HUE.out] at h; exact h⟩
            case measure => simp [intOf] <;> omega
end Go.Proofs.YtbnhngfegnhaiaaDoor
