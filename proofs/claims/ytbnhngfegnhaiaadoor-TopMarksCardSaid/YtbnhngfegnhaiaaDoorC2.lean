/- Words on memory, walks and calls that recover, for pairs; small functions. Places, things and pairs in memory; small functions of pairs. What two spans have in common; the shifts and the rows of a thing. The shifts of a thing that can stand still; its rows. The rows of a thing; what a thing says of the power. What rows of marks come to, in plain Lean: no program in sight. Marks and rows in memory; the marks of valid rows. The row's last step where the call leaves a world of which only what lay there before is known. Rows and canvases that are handed in, opened. Marks put together; are rows valid? -/
import Derived.Test.YtbnhngfegnhaiaaDoorC1
import Derived.Test.YtbnhngfegnhaiaaDoorProg
import Derived.Deep.DeepCutAuto
import Derived.Lib.MinMax
import Derived.Lib.AppendZeros
import Derived.Deep.MidRow
import Derived.Below
import Derived.ChangeSame
import Derived.ProofKit
import Derived.Deep.Slices
import Derived.Deep.Fields
import Derived.Lib.SmallJoins
import Derived.Carry
import Derived.OpenShut
namespace Go.Proofs.YtbnhngfegnhaiaaDoor
open Go.RowKit
set_option linter.unusedVariables false
set_option linter.unusedSimpArgs false
theorem ret_bool {a b : Bool} (h : a = b) : Ending.returned (.bool a) = .returned (.bool b) := by rw [h]
theorem ret_int {k : IntKind} {a b : Int} (h : a = b) : Ending.returned (.int k a) = .returned (.int k b) := by rw [h]
theorem mixed : Tryd.prog.follows .mixedOrders = true := by kernel_rfl
theorem heap_lt {w : World} {g : Nat} {o : Obj} (h : w.heap[g]? = some o) : g < w.heap.size := (Array.getElem?_eq_some_iff.1 h).1
theorem heap_setCell_at {w : World} {b k : Nat} {c : Array Value} {t : TypeId} {f : Nat × Nat} (h : w.heap[b]? = some (.cells c t f)) (v : Value) :
    (w.setCell ⟨b, k, none⟩ v).heap[b]? = some (.cells (c.setIfInBounds k v) t f) := by
  simp [World.setCell, Array.getElem?_modify, h]
theorem cell_of_heap {w : World} {b k : Nat} {c : Array Value} {t : TypeId} {f : Nat × Nat} (h : w.heap[b]? = some (.cells c t f)) : w.cell? ⟨b, k, none⟩ = c[k]? := by simp [World.cell?, h]
theorem frozen_of_heap {w : World} {b k : Nat} {c : Array Value} {t : TypeId} (h : w.heap[b]? = some (.cells c t (0, 0))) : w.frozen? ⟨b, k, none⟩ = false := by simp [World.frozen?, h]
theorem own_ints {w : World} {base : Nat} {a : Option Addr} {l : List Int} {cap : Nat} (h : w.ownsRow base 3 1 (.slice a l.length cap) l.length (l.map (Value.int .i64))) : IsInts w a l := fun i hi => by
  obtain ⟨g, c, e, _, _, _, _, hc⟩ := own_cell h (by omega)
  cases e
  refine ⟨g, 0, rfl, ?_⟩
  rw [Nat.zero_add]
  exact hc i _ (by simp [gi, hi])
theorem wp_seq_hid {P : Program} {x y : Code} {Q : Exit → Act → World → Prop} {a : Act} {w : World} (h : ∀ K, Hid (∀ a' w', y.wp P Q a' w' → K a' w') → x.wp P (Exit.then K Q) a w) : (Code.seq x y).wp P Q a w :=
  wp_seq (h _ fun _ _ h => h)
theorem infoI : (Tryd.prog.info? 3).map (fun i => (i.zero, i.size, i.bytes)) = some (some (.int .i64 0), 1, 8) := by kernel_rfl
def leftReg : Code → Option Nat
  | .region id _ _ => some id
  | .seq a _ => leftReg a
  | _ => none
def fromRegion (n : Nat) : Code → Option Code
  | .seq a b => if leftReg a = some n then some (.seq a b) else match fromRegion n a with
    | some c => some c
    | none => fromRegion n b
  | .block _ c => fromRegion n c
  | .scope c => fromRegion n c
  | .loop c => fromRegion n c
  | .cond _ a b => match fromRegion n a with
    | some c => some c
    | none => fromRegion n b
  | _ => none
def regionAt (n : Nat) : Code → Option Code
  | .region id ops dr => if id = n then some (.region id ops dr) else none
  | .seq a b => match regionAt n a with
    | some c => some c
    | none => regionAt n b
  | .block _ c => regionAt n c
  | .scope c => regionAt n c
  | .loop c => regionAt n c
  | .cond _ a b => match regionAt n a with
    | some c => some c
    | none => regionAt n b
  | _ => none
abbrev Spn.arr (s : Spn) : Array Value := #[.int .i64 s.lo, .int .i64 s.hi]
abbrev Spn.v (s : Spn) : Value := .agg s.arr
theorem within58 (n lo hi : Int) (w : World) :
    Calls Tryd.prog 77 #[.int .i64 n, .int .i64 lo, .int .i64 hi] w fun e w' => e = .returned (.bool (inR n lo hi)) ∧ w = w' := by
  unfold inR
  go_enter Tryd.func77, Tryd.ntmps77
  go_wp2
  all_goals go_ret
  all_goals refine ⟨ret_bool ?_, rfl⟩
  · have h : lo ≤ n := by assumption
    simp [h]
  · have h : n < lo := by assumption
    simp; omega
theorem within50 (n lo hi : Int) (w : World) :
    Calls Tryd.prog 38 #[.int .i64 n, .int .i64 lo, .int .i64 hi] w fun e w' => e = .returned (.bool (inR n lo hi)) ∧ w = w' := by
  unfold inR
  go_enter Tryd.func38, Tryd.ntmps38
  go_wp2
  all_goals go_ret
  all_goals refine ⟨ret_bool ?_, rfl⟩
  · have h : lo ≤ n := by assumption
    simp [h]
  · have h : n < lo := by assumption
    simp; omega
theorem isSpan75 (s : Spn) (lo hi : Int) (w : World) :
    Calls Tryd.prog 102 #[s.v, .int .i64 lo, .int .i64 hi] w fun e w' => e = .returned (.bool (s.ok lo hi)) ∧ Below w.heap.size w w' := by
  have HX : Hid (Below w.heap.size w (w.alloc (.cells s.arr 24))) := (Below.refl _ w).alloc (Nat.le_refl _) _
  unfold Spn.ok
  by_cases h1 : lo ≤ s.lo <;> by_cases h2 : s.lo ≤ s.hi <;> by_cases h3 : s.hi ≤ hi
  all_goals
    go_enter Tryd.func102, Tryd.ntmps102
    go_wp2_with fail
    go_ret
    exact ⟨ret_bool (by simp [h1, h2, h3]), HX.out⟩
theorem isSpan60 (s : Spn) (lo hi : Int) (w : World) :
    Calls Tryd.prog 90 #[s.v, .int .i64 lo, .int .i64 hi] w fun e w' => e = .returned (.bool (s.ok lo hi)) ∧ Below w.heap.size w w' := by
  have HX : Hid (Below w.heap.size w (w.alloc (.cells s.arr 24))) := (Below.refl _ w).alloc (Nat.le_refl _) _
  unfold Spn.ok
  by_cases h1 : lo ≤ s.lo <;> by_cases h2 : s.lo ≤ s.hi <;> by_cases h3 : s.hi ≤ hi
  all_goals
    go_enter Tryd.func90, Tryd.ntmps90
    go_wp2_with fail
    go_ret
    exact ⟨ret_bool (by simp [h1, h2, h3]), HX.out⟩
theorem need23_yes (e : Int) (w : World) : Calls Tryd.prog 75 #[.bool true, .int .i64 e] w fun en w' => en = .returned (.tuple #[]) ∧ w = w' := by
  go_enter Tryd.func75, Tryd.ntmps75
  go_wp2
  go_end0
  exact ⟨rfl, rfl⟩
theorem need23_no (e : Int) (w : World) : Calls Tryd.prog 75 #[.bool false, .int .i64 e] w fun en w' => en = .panicked [{ v := .iface 138 (.agg #[.int .i64 e]), recovered := false }] ∧ w = w' := by
  go_enter Tryd.func75, Tryd.ntmps75
  go_wp2
  exact ⟨rfl, rfl, rfl⟩
theorem assert96 (v : Value) (w : World) : (Instr.typeAssert (.iface 138 v) 20 138 true).run Tryd.prog w = .ok (.tuple #[v, .bool true]) w := by
  simp [Instr.typeAssert, run_underlying Tryd.underlying138, Result.andThen]
/-- The deferred call, where there was no panic. -/
theorem caught_ok (pe : Value) (w : World) : CallsD Tryd.prog 35 #[pe] .returning w fun e u' w' => e = .returned (.tuple #[]) ∧ u' = .returning ∧ w = w' := by
  refine callsD_of_wpS Tryd.func35 rfl fun c₀ cs hu => ?_
  refine wpS_seq ?_
  apply wpS_region
  simp [wpOpsS, go_sem, recoverD, hu, Tryd.ntmps35]
  show Code.wpS _ _ _ _ _ _
  have HU := Lib.hid hu
  clear hu
  refine wpS_of_wp (Code.wp_mono (Q := fun e a' w' => e = .normal ∧ a'.defers = [] ∧ w = w') ?_ ?_)
  · rintro e a' w' ⟨rfl, hd, rfl⟩
    have hu := HU.out
    simp [bodyPostS, results, Tryd.results35, hd]
    rw [← hu]
  · rw [show (#[pe] ++ ((Array.replicate 19 undef).setIfInBounds 4 (.nilIface)).setIfInBounds 1 (.nilIface)) = #[pe, undef, .nilIface, undef, undef, .nilIface, undef, undef, undef, undef, undef, undef, undef, undef, undef, undef, undef, undef, undef, undef] from by simp only [Array.replicate_succ, Array.replicate_zero, List.push_toArray, List.nil_append, List.cons_append, List.setIfInBounds_toArray, List.set_cons_zero, List.set_cons_succ, List.append_toArray]]
    go_wp2
/-- The deferred call, where need panicked. -/
theorem caught_no (x : Int) {b : Nat} {v : Value} {w : World} (hc : w.cell? ⟨b, 0, none⟩ = some v) (hf : w.frozen? ⟨b, 0, none⟩ = false) :
    CallsD Tryd.prog 35 #[.pointer (some ⟨b, 0, none⟩)] (.panicking [{ v := .iface 138 (.agg #[.int .i64 x]), recovered := false }]) w fun e u' w' =>
      e = .returned (.tuple #[]) ∧ u' = .panicking [{ v := .iface 138 (.agg #[.int .i64 x]), recovered := true }] ∧ w' = (w.alloc (.cells #[.int .i64 x] 138)).setCell ⟨b, 0, none⟩ (.int .i64 x) := by
  have hb := lt_of_cell hc
  have ha := assert96 (.agg #[.int .i64 x])
  refine callsD_of_wpS Tryd.func35 rfl fun c₀ cs hu => ?_
  refine wpS_seq ?_
  apply wpS_region
  simp [wpOpsS, go_sem, recoverD, hu, Tryd.ntmps35]
  show Code.wpS _ _ _ _ _ _
  have HU := Lib.hid hu
  clear hu
  refine wpS_of_wp (Code.wp_mono (Q := fun e a' w' => e = .normal ∧ a'.defers = [] ∧ w' = (w.alloc (.cells #[.int .i64 x] 138)).setCell ⟨b, 0, none⟩ (.int .i64 x)) ?_ ?_)
  · rintro e a' w' ⟨rfl, hd, rfl⟩
    simp [bodyPostS, results, Tryd.results35, hd]
  · rw [show (#[.pointer (some ⟨b, 0, none⟩)] ++ ((Array.replicate 19 undef).setIfInBounds 4 (.iface 138 (.agg #[.int .i64 x]))).setIfInBounds 1 (.iface 138 (.agg #[.int .i64 x]))) = #[.pointer (some ⟨b, 0, none⟩), undef, .iface 138 (.agg #[.int .i64 x]), undef, undef, .iface 138 (.agg #[.int .i64 x]), undef, undef, undef, undef, undef, undef, undef, undef, undef, undef, undef, undef, undef, undef] from by simp only [Array.replicate_succ, Array.replicate_zero, List.push_toArray, List.nil_append, List.cons_append, List.setIfInBounds_toArray, List.set_cons_zero, List.set_cons_succ, List.append_toArray]]
    go_wp2
theorem cf20 (args : Array Value) (w : World) : (callFunc 35 args).run Tryd.prog w = .ok (.enter 35 args) w := by simp [callFunc, Tryd.func35, Tryd.f35, go_sem]
abbrev dfr (be : Nat) : List Deferred := [{ target := .fn (.func 35) #[], args := #[.pointer (some ⟨be, 0, none⟩)] }]
theorem leaves20_ok {fn : Func} {tmps : Array Value} {R : Ending → World → Prop} {be : Nat} {w : World} {v : Value} (hv : (results fn tmps).run Tryd.prog w = .ok v w) (hR : R (.returned v) w) : Leaves Tryd.prog fn tmps R (dfr be) .returning w := by
  refine ⟨by simp, _, _, 35, #[.pointer (some ⟨be, 0, none⟩)], rfl, ?_, ?_⟩
  · simp [invoke, go_sem, cf20]
  · refine CallsD.mono (caught_ok _ w) ?_
    rintro e u' w' ⟨rfl, rfl, rfl⟩
    exact ⟨v, hv, hR⟩
/-- The world behind a call that caught. -/
def caughtW (w : World) (be : Nat) (x : Int) : World := (w.alloc (.cells #[.int .i64 x] 138)).setCell ⟨be, 0, none⟩ (.int .i64 x)
theorem leaves20_no {fn : Func} {tmps : Array Value} {R : Ending → World → Prop} {be : Nat} {x : Int} {y : Value} {w : World} {v : Value} (hc : w.cell? ⟨be, 0, none⟩ = some y) (hf : w.frozen? ⟨be, 0, none⟩ = false) (hv : (results fn tmps).run Tryd.prog (caughtW w be x) = .ok v (caughtW w be x)) (hR : R (.returned v) (caughtW w be x)) :
    Leaves Tryd.prog fn tmps R (dfr be) (.panicking [{ v := .iface 138 (.agg #[.int .i64 x]), recovered := false }]) w := by
  refine ⟨by simp, _, _, 35, #[.pointer (some ⟨be, 0, none⟩)], rfl, ?_, ?_⟩
  · simp [invoke, go_sem, cf20]
  · refine CallsD.mono (caught_no x hc hf) ?_
    rintro e u' w'' ⟨rfl, rfl, rfl⟩
    have hs : settle (.panicking [{ v := .iface 138 (.agg #[.int .i64 x]), recovered := true }]) = .returning := rfl
    simp only [hs]
    exact ⟨v, hv, hR⟩
theorem door_ok {fn : Func} {tmps : Array Value} {R : Ending → World → Prop} {be : Nat} {w : World} {v : Value} (hv : (results fn tmps).run Tryd.prog w = .ok v w) (hR : R (.returned v) w) : bodyPostX Tryd.prog fn R .ret { tmps := tmps, defers := dfr be } w :=
  ⟨[], _, rfl, leaves20_ok hv hR⟩
theorem door_no {fn : Func} {tmps : Array Value} {R : Ending → World → Prop} {be : Nat} {x y : Int} {w : World} {v : Value} (h : w.heap[be]? = some (.cells #[.int .i64 y] 32 (0, 0))) (hv : (results fn tmps).run Tryd.prog (caughtW w be x) = .ok v (caughtW w be x)) (hR : R (.returned v) (caughtW w be x)) :
    bodyPostX Tryd.prog fn R (.panic [{ v := .iface 138 (.agg #[.int .i64 x]), recovered := false }]) { tmps := tmps, defers := dfr be } w :=
  ⟨[], _, rfl, leaves20_no (y := .int .i64 y) (by rw [cell_of_heap h]; rfl) (frozen_of_heap h) hv hR⟩
theorem caught_heap {w : World} {be : Nat} {x y : Int} (h : w.heap[be]? = some (.cells #[.int .i64 y] 32 (0, 0))) : (caughtW w be x).heap[be]? = some (.cells #[.int .i64 x] 32 (0, 0)) := by
  have h2 : (w.alloc (.cells #[.int .i64 x] 138)).heap[be]? = some (.cells #[.int .i64 y] 32 (0, 0)) := (Below.heap_alloc _ _ _ (heap_lt h)).trans h
  exact heap_setCell_at (k := 0) h2 (.int .i64 x)
theorem caught_other {w : World} {be k : Nat} {x : Int} (hk : k < w.heap.size) (hne : k ≠ be) : (caughtW w be x).heap[k]? = w.heap[k]? :=
  (Below.heap_setCell _ _ _ _ hne).trans (Below.heap_alloc _ _ _ hk)
theorem caught_below {B : Nat} {A w : World} {be : Nat} {x : Int} (hb : Below B A w) (hB : B ≤ be) (hw : B ≤ w.heap.size) : Below B A (caughtW w be x) :=
  (hb.alloc hw _).setCell (p := ⟨be, _, none⟩) hB _
end Go.Proofs.YtbnhngfegnhaiaaDoor
namespace Go.Proofs.YtbnhngfegnhaiaaDoor
open Go.RowKit
set_option linter.unusedVariables false
set_option linter.unusedSimpArgs false
abbrev Plc.arr (x : Plc) : Array Value := #[.int .i64 x.x.lo, .int .i64 x.x.hi, .int .i64 x.y.lo, .int .i64 x.y.hi]
abbrev Plc.v (x : Plc) : Value := .agg x.arr
abbrev Thg.arr (t : Thg) : Array Value := #[.int .i64 t.left.x.lo, .int .i64 t.left.x.hi, .int .i64 t.left.y.lo, .int .i64 t.left.y.hi, .int .i64 t.right.x.lo, .int .i64 t.right.x.hi, .int .i64 t.right.y.lo, .int .i64 t.right.y.hi, .int .i64 t.far]
abbrev Thg.v (t : Thg) : Value := .agg t.arr
abbrev Par.arr (p : Par) (a : Option Addr) (c : Nat) : Array Value := #[.int .i64 p.focal.lo, .int .i64 p.focal.hi, .int .i64 p.base.lo, .int .i64 p.base.hi, .int .i64 p.tilt, .int .i64 p.near, .int .i64 p.far, .slice a p.things.length c]
abbrev Par.v (p : Par) (a : Option Addr) (c : Nat) : Value := .agg (p.arr a c)
/-- A thing's cells from an address on. -/
structure ThgC (w : World) (b o : Nat) (t : Thg) : Prop where
  c0 : w.cell? ⟨b, o, none⟩ = some (.int .i64 t.left.x.lo)
  c1 : w.cell? ⟨b, o + 1, none⟩ = some (.int .i64 t.left.x.hi)
  c2 : w.cell? ⟨b, o + 2, none⟩ = some (.int .i64 t.left.y.lo)
  c3 : w.cell? ⟨b, o + 3, none⟩ = some (.int .i64 t.left.y.hi)
  c4 : w.cell? ⟨b, o + 4, none⟩ = some (.int .i64 t.right.x.lo)
  c5 : w.cell? ⟨b, o + 5, none⟩ = some (.int .i64 t.right.x.hi)
  c6 : w.cell? ⟨b, o + 6, none⟩ = some (.int .i64 t.right.y.lo)
  c7 : w.cell? ⟨b, o + 7, none⟩ = some (.int .i64 t.right.y.hi)
  c8 : w.cell? ⟨b, o + 8, none⟩ = some (.int .i64 t.far)
theorem ThgC.mono {w w' : World} {b o : Nat} {t : Thg} (h : ThgC w b o t) (hb : Below w.heap.size w w') : ThgC w' b o t :=
  ⟨cell_stays hb h.c0, cell_stays hb h.c1, cell_stays hb h.c2, cell_stays hb h.c3, cell_stays hb h.c4, cell_stays hb h.c5, cell_stays hb h.c6, cell_stays hb h.c7, cell_stays hb h.c8⟩
def IsThs (w : World) (a : Option Addr) (l : List Thg) : Prop := ∀ i, i < l.length → ∃ b off, a = some ⟨b, off, none⟩ ∧ ThgC w b (off + i * 9) (gt l i)
theorem IsThs.mono {w w' : World} {a : Option Addr} {l : List Thg} (h : IsThs w a l) (hb : Below w.heap.size w w') : IsThs w' a l := fun i hi => by
  obtain ⟨b, off, e, hc⟩ := h i hi
  exact ⟨b, off, e, hc.mono hb⟩
theorem thg_cells {w : World} {b : Nat} {t : Thg} {ty : TypeId} (hq : w.heap[b]? = some (.cells t.arr ty (0, 0))) : ThgC w b 0 t := by
  refine ⟨?_, ?_, ?_, ?_, ?_, ?_, ?_, ?_, ?_⟩ <;> (rw [cell_of_heap hq]; rfl)
/-- A pair's cells in a block, from a place on. -/
structure ParC (w : World) (b o : Nat) (p : Par) (a : Option Addr) (c : Nat) : Prop where
  c0 : w.cell? ⟨b, o, none⟩ = some (.int .i64 p.focal.lo)
  c1 : w.cell? ⟨b, o + 1, none⟩ = some (.int .i64 p.focal.hi)
  c2 : w.cell? ⟨b, o + 2, none⟩ = some (.int .i64 p.base.lo)
  c3 : w.cell? ⟨b, o + 3, none⟩ = some (.int .i64 p.base.hi)
  c4 : w.cell? ⟨b, o + 4, none⟩ = some (.int .i64 p.tilt)
  c5 : w.cell? ⟨b, o + 5, none⟩ = some (.int .i64 p.near)
  c6 : w.cell? ⟨b, o + 6, none⟩ = some (.int .i64 p.far)
  c7 : w.cell? ⟨b, o + 7, none⟩ = some (.slice a p.things.length c)
theorem ParC.mono {w w' : World} {b o : Nat} {p : Par} {a : Option Addr} {c : Nat} (h : ParC w b o p a c) (hb : Below w.heap.size w w') : ParC w' b o p a c :=
  ⟨cell_stays hb h.c0, cell_stays hb h.c1, cell_stays hb h.c2, cell_stays hb h.c3, cell_stays hb h.c4, cell_stays hb h.c5, cell_stays hb h.c6, cell_stays hb h.c7⟩
theorem par_cells {w : World} {b : Nat} {p : Par} {a : Option Addr} {c : Nat} {ty : TypeId} (hq : w.heap[b]? = some (.cells (p.arr a c) ty (0, 0))) : ParC w b 0 p a c := by
  refine ⟨?_, ?_, ?_, ?_, ?_, ?_, ?_, ?_⟩ <;> (rw [cell_of_heap hq]; rfl)
/-- Numbers of whatever thing are small. -/
structure Thg.Sm (t : Thg) : Prop where
  a : -4000 ≤ t.left.x.lo ∧ t.left.x.lo ≤ 4000
  b : -4000 ≤ t.left.x.hi ∧ t.left.x.hi ≤ 4000
  c : -4000 ≤ t.left.y.lo ∧ t.left.y.lo ≤ 4000
  d : -4000 ≤ t.left.y.hi ∧ t.left.y.hi ≤ 4000
  e : -4000 ≤ t.right.x.lo ∧ t.right.x.lo ≤ 4000
  f : -4000 ≤ t.right.x.hi ∧ t.right.x.hi ≤ 4000
  g : -4000 ≤ t.right.y.lo ∧ t.right.y.lo ≤ 4000
  h : -4000 ≤ t.right.y.hi ∧ t.right.y.hi ≤ 4000
  k : 0 ≤ t.far ∧ t.far ≤ 1073741824
theorem thg_small {p : Par} {t : Thg} (h : thgOk p t = true) (h1 : 0 ≤ p.near) (h2 : p.far ≤ 1073741824) : t.Sm := by
  unfold thgOk Plc.ok Spn.ok inR at h
  simp only [Bool.and_eq_true, Bool.or_eq_true, decide_eq_true_eq] at h
  constructor <;> omega
/-- Blocks laid one behind the other. -/
theorem alloc2 (w : World) (c d : Array Value) (s t : TypeId) : ((w.alloc (.cells c s)).alloc (.cells d t)).heap[w.heap.size]? = some (.cells c s (0, 0)) ∧ ((w.alloc (.cells c s)).alloc (.cells d t)).heap[w.heap.size + 1]? = some (.cells d t (0, 0)) ∧ Below w.heap.size w ((w.alloc (.cells c s)).alloc (.cells d t)) := by
  refine ⟨?_, ?_, ((Below.refl _ w).alloc (Nat.le_refl _) _).alloc (by simp) _⟩
  · rw [Below.heap_alloc _ _ _ (by simp)]
    exact World.alloc_heap_new w _
  · have := World.alloc_heap_new (w.alloc (.cells c s)) (.cells d t)
    rwa [World.size_alloc] at this
theorem alloc3 (w : World) (c d e : Array Value) (s t u : TypeId) : ∀ v, v = ((w.alloc (.cells c s)).alloc (.cells d t)).alloc (.cells e u) → v.heap[w.heap.size]? = some (.cells c s (0, 0)) ∧ v.heap[w.heap.size + 1]? = some (.cells d t (0, 0)) ∧ v.heap[w.heap.size + 2]? = some (.cells e u (0, 0)) ∧ Below w.heap.size w v := by
  rintro v rfl
  obtain ⟨h1, h2, h3⟩ := alloc2 w c d s t
  have h0 : Below ((w.alloc (.cells c s)).alloc (.cells d t)).heap.size ((w.alloc (.cells c s)).alloc (.cells d t)) (((w.alloc (.cells c s)).alloc (.cells d t)).alloc (.cells e u)) := (Below.refl _ _).alloc (Nat.le_refl _) _
  refine ⟨(h0.block _ (heap_lt h1)).trans h1, (h0.block _ (heap_lt h2)).trans h2, ?_, h3.trans (h0.mono h3.size)⟩
  have := World.alloc_heap_new ((w.alloc (.cells c s)).alloc (.cells d t)) (.cells e u)
  rwa [World.size_alloc, World.size_alloc] at this
/-- Results in cells. -/
theorem res_c2 {fn : Func} {u : Tmp} {ty : TypeId} (hty : ty = 24 ∨ ty = 42) (h : fn.results = #[.cell u ty]) (tmps : Array Value) {w : World} {b : Nat} {x y : Value} (hp : tmps.getD u undef = .pointer (some ⟨b, 0, none⟩)) (hx : w.cell? ⟨b, 0, none⟩ = some x) (hy : w.cell? ⟨b, 1, none⟩ = some y) :
    (results fn tmps).run Tryd.prog w = .ok (.agg #[x, y]) w := by
  have hp' : tmps[u]?.getD undef = .pointer (some ⟨b, 0, none⟩) := by simpa using hp
  rcases hty with rfl | rfl <;> simp [results, h, hp', hx, hy, go_sem]
theorem res_c2t {fn : Func} {u v : Tmp} (h : fn.results = #[.cell u 42, .tmp v]) (tmps : Array Value) {w : World} {b : Nat} {x y z : Value} (hp : tmps.getD u undef = .pointer (some ⟨b, 0, none⟩)) (hv : tmps.getD v undef = z) (hx : w.cell? ⟨b, 0, none⟩ = some x) (hy : w.cell? ⟨b, 1, none⟩ = some y) :
    (results fn tmps).run Tryd.prog w = .ok (.tuple #[.agg #[x, y], z]) w := by
  have hp' : tmps[u]?.getD undef = .pointer (some ⟨b, 0, none⟩) := by simpa using hp
  have hv' : tmps[v]?.getD undef = z := by simpa using hv
  simp [results, h, hp', hv', hx, hy, go_sem]
theorem res_c2e {fn : Func} {u v : Tmp} (h : fn.results = #[.cell u 24, .cell v 32]) (tmps : Array Value) {w : World} {b be : Nat} {x y e : Value} (hp : tmps.getD u undef = .pointer (some ⟨b, 0, none⟩)) (hq : tmps.getD v undef = .pointer (some ⟨be, 0, none⟩)) (hx : w.cell? ⟨b, 0, none⟩ = some x) (hy : w.cell? ⟨b, 1, none⟩ = some y) (he : w.cell? ⟨be, 0, none⟩ = some e) :
    (results fn tmps).run Tryd.prog w = .ok (.tuple #[.agg #[x, y], e]) w := by
  have hp' : tmps[u]?.getD undef = .pointer (some ⟨b, 0, none⟩) := by simpa using hp
  have hq' : tmps[v]?.getD undef = .pointer (some ⟨be, 0, none⟩) := by simpa using hq
  simp [results, h, hp', hq', hx, hy, he, go_sem]
theorem place74 (x : Plc) (w : World) : Calls Tryd.prog 101 #[x.v] w fun e w' => e = .returned (.bool x.ok) ∧ Below w.heap.size w w' := by
  have HX : Hid ((w.alloc (.cells x.arr 44)).heap[w.heap.size]? = some (.cells x.arr 44 (0, 0)) ∧ Below w.heap.size w (w.alloc (.cells x.arr 44))) := ⟨World.alloc_heap_new w _, (Below.refl _ w).alloc (Nat.le_refl _) _⟩
  go_enter Tryd.func101, Tryd.ntmps101
  refine wp_seq_hid ?_
  intro K0 HK0
  go_wp2_with fail
  refine HK0.out _ _ ?_
  clear HK0 K0
  revert HX
  generalize w.alloc (.cells x.arr 44) = wa
  intro HX
  have c0 : wa.cell? ⟨w.heap.size, 0, none⟩ = some (.int .i64 x.x.lo) := by rw [cell_of_heap HX.out.1]; rfl
  have c1 : wa.cell? ⟨w.heap.size, 1, none⟩ = some (.int .i64 x.x.hi) := by rw [cell_of_heap HX.out.1]; rfl
  go_wp2_with fail
  refine (isSpan75 x.x _ _ _).mono ?_
  clear c0 c1
  rintro e w1 ⟨rfl, hb1⟩
  have HQ := Lib.hid ((hb1.block _ (heap_lt HX.out.1)).trans HX.out.1)
  have HB := Lib.hid (HX.out.2.trans (hb1.mono HX.out.2.size))
  clear hb1
  have c2 : w1.cell? ⟨w.heap.size, 2, none⟩ = some (.int .i64 x.y.lo) := by rw [cell_of_heap HQ.out]; rfl
  have c3 : w1.cell? ⟨w.heap.size, 3, none⟩ = some (.int .i64 x.y.hi) := by rw [cell_of_heap HQ.out]; rfl
  cases h1 : x.x.ok (-4000) 4000
  · go_wp2_with fail
    go_ret
    exact ⟨ret_bool (by unfold Plc.ok; rw [h1]; rfl), HB.out⟩
  · have H1 := Lib.hid h1
    clear h1
    go_wp2_with fail
    refine (isSpan75 x.y _ _ _).mono ?_
    clear c2 c3
    rintro e w2 ⟨rfl, hb2⟩
    have HB2 := Lib.hid (HB.out.trans (hb2.mono HB.out.size))
    clear hb2
    go_wp2_with fail
    go_ret
    exact ⟨ret_bool (by unfold Plc.ok; rw [H1.out]; rfl), HB2.out⟩
set_option maxRecDepth 100000 in
set_option maxHeartbeats 2000000 in
theorem shift44 (t : Thg) (ht : t.Sm) (w : World) : Calls Tryd.prog 36 #[t.v] w fun e w' => e = .returned t.shift.v ∧ Below w.heap.size w w' := by
  obtain ⟨⟨a0, a1⟩, ⟨g0, g1⟩, _, _, ⟨e0, e1⟩, ⟨i0, i1⟩, _, _, _⟩ := ht
  have x1 : IntKind.i64.wrap (t.left.x.lo - t.right.x.hi) = t.left.x.lo - t.right.x.hi := IntWalk.i64_in _ (by omega)
  have x2 : IntKind.i64.wrap (t.left.x.hi - t.right.x.lo) = t.left.x.hi - t.right.x.lo := IntWalk.i64_in _ (by omega)
  clear a0 a1 g0 g1 e0 e1 i0 i1
  have HX := Lib.hid (alloc2 w (t.arr) #[.int .i64 0, .int .i64 0] 46 24)
  go_enter Tryd.func36, Tryd.ntmps36
  refine wp_seq_hid ?_
  intro K0 HK0
  go_wp2_with fail
  refine HK0.out _ _ ?_
  clear HK0 K0
  revert HX
  generalize ((w.alloc (.cells (t.arr) 46)).alloc (.cells #[.int .i64 0, .int .i64 0] 24)) = w1
  intro HX
  have b0_0 : w1.cell? ⟨w.heap.size, 0, none⟩ = some (.int .i64 t.left.x.lo) := by rw [cell_of_heap HX.out.1]; rfl
  have b0_1 : w1.cell? ⟨w.heap.size, 1, none⟩ = some (.int .i64 t.left.x.hi) := by rw [cell_of_heap HX.out.1]; rfl
  have b0_2 : w1.cell? ⟨w.heap.size, 2, none⟩ = some (.int .i64 t.left.y.lo) := by rw [cell_of_heap HX.out.1]; rfl
  have b0_3 : w1.cell? ⟨w.heap.size, 3, none⟩ = some (.int .i64 t.left.y.hi) := by rw [cell_of_heap HX.out.1]; rfl
  have b0_4 : w1.cell? ⟨w.heap.size, 4, none⟩ = some (.int .i64 t.right.x.lo) := by rw [cell_of_heap HX.out.1]; rfl
  have b0_5 : w1.cell? ⟨w.heap.size, 5, none⟩ = some (.int .i64 t.right.x.hi) := by rw [cell_of_heap HX.out.1]; rfl
  have b0_6 : w1.cell? ⟨w.heap.size, 6, none⟩ = some (.int .i64 t.right.y.lo) := by rw [cell_of_heap HX.out.1]; rfl
  have b0_7 : w1.cell? ⟨w.heap.size, 7, none⟩ = some (.int .i64 t.right.y.hi) := by rw [cell_of_heap HX.out.1]; rfl
  have b0_8 : w1.cell? ⟨w.heap.size, 8, none⟩ = some (.int .i64 t.far) := by rw [cell_of_heap HX.out.1]; rfl
  have HR := Lib.hid HX.out.2.1
  have y0 : w1.cell? ⟨w.heap.size + 1, 0, none⟩ = some (.int .i64 0) := by rw [cell_of_heap HR.out]; rfl
  have y1 : w1.cell? ⟨w.heap.size + 1, 1, none⟩ = some (.int .i64 0) := by rw [cell_of_heap HR.out]; rfl
  have f0 : ∀ k, w1.frozen? ⟨w.heap.size + 1, k, none⟩ = false := fun k => frozen_of_heap HR.out
  go_wp2_with fail
  have h4 := (heap_setCell_at (k := 1) (heap_setCell_at (k := 0) HR.out (.int .i64 (t.left.x.lo - t.right.x.hi))) (.int .i64 (t.left.x.hi - t.right.x.lo)))
  exact bodyPost_ret (res_c2 (by decide) rfl _ rfl (by rw [cell_of_heap h4]; rfl) (by rw [cell_of_heap h4]; rfl)) rfl ⟨rfl, ((HX.out.2.2.setCell (p := ⟨w.heap.size + 1, _, none⟩) (by show w.heap.size ≤ w.heap.size + 1; omega) _).setCell (p := ⟨w.heap.size + 1, _, none⟩) (by show w.heap.size ≤ w.heap.size + 1; omega) _)⟩
set_option maxRecDepth 100000 in
set_option maxHeartbeats 2000000 in
theorem span26 (q : Spn) (w : World) : Calls Tryd.prog 65 #[q.v] w fun e w' => e = .returned q.v ∧ Below w.heap.size w w' := by
  have HX := Lib.hid (alloc2 w (q.arr) #[.int .i64 0, .int .i64 0] 42 24)
  go_enter Tryd.func65, Tryd.ntmps65
  refine wp_seq_hid ?_
  intro K0 HK0
  go_wp2_with fail
  refine HK0.out _ _ ?_
  clear HK0 K0
  revert HX
  generalize ((w.alloc (.cells (q.arr) 42)).alloc (.cells #[.int .i64 0, .int .i64 0] 24)) = w1
  intro HX
  have b0_0 : w1.cell? ⟨w.heap.size, 0, none⟩ = some (.int .i64 q.lo) := by rw [cell_of_heap HX.out.1]; rfl
  have b0_1 : w1.cell? ⟨w.heap.size, 1, none⟩ = some (.int .i64 q.hi) := by rw [cell_of_heap HX.out.1]; rfl
  have HR := Lib.hid HX.out.2.1
  have y0 : w1.cell? ⟨w.heap.size + 1, 0, none⟩ = some (.int .i64 0) := by rw [cell_of_heap HR.out]; rfl
  have y1 : w1.cell? ⟨w.heap.size + 1, 1, none⟩ = some (.int .i64 0) := by rw [cell_of_heap HR.out]; rfl
  have f0 : ∀ k, w1.frozen? ⟨w.heap.size + 1, k, none⟩ = false := fun k => frozen_of_heap HR.out
  go_wp2_with fail
  have h4 := (heap_setCell_at (k := 1) (heap_setCell_at (k := 0) HR.out (.int .i64 q.lo)) (.int .i64 q.hi))
  exact bodyPost_ret (res_c2 (by decide) rfl _ rfl (by rw [cell_of_heap h4]; rfl) (by rw [cell_of_heap h4]; rfl)) rfl ⟨rfl, ((HX.out.2.2.setCell (p := ⟨w.heap.size + 1, _, none⟩) (by show w.heap.size ≤ w.heap.size + 1; omega) _).setCell (p := ⟨w.heap.size + 1, _, none⟩) (by show w.heap.size ≤ w.heap.size + 1; omega) _)⟩
theorem mul_bd {a n : Int} (h1 : 0 ≤ a) (h2 : a ≤ 2001) (h3 : 0 ≤ n) (h4 : n ≤ 1073741824) : 0 ≤ a * n ∧ a * n ≤ 2148557389824 := by
  refine ⟨Int.mul_nonneg h1 h3, ?_⟩
  have := Int.mul_le_mul h2 h4 h3 (by omega)
  omega
set_option maxRecDepth 100000 in
set_option maxHeartbeats 2000000 in
theorem powers105 {f : Int} {q : Spn} (h0 : 0 ≤ q.lo ∧ q.lo ≤ 2000) (h1 : 0 ≤ q.hi ∧ q.hi ≤ 2000) (hf : 0 ≤ f ∧ f ≤ 1073741824) (w : World) : Calls Tryd.prog 144 #[.agg #[.int .i64 f], q.v] w fun e w' => e = .returned (.agg #[.int .i64 (q.lo * f), .int .i64 ((q.hi + 1) * f - 1)]) ∧ Below w.heap.size w w' := by
  have m1 := mul_bd h0.1 (by omega) hf.1 hf.2
  have m2 := mul_bd (a := q.hi + 1) (by omega) (by omega) hf.1 hf.2
  have x1 : IntKind.i64.wrap (q.lo * f) = q.lo * f := IntWalk.i64_in _ (by omega)
  have x2 : IntKind.i64.wrap (q.hi + 1) = q.hi + 1 := IntWalk.i64_in _ (by omega)
  have x3 : IntKind.i64.wrap ((q.hi + 1) * f) = (q.hi + 1) * f := IntWalk.i64_in _ (by omega)
  have x4 : IntKind.i64.wrap ((q.hi + 1) * f - 1) = (q.hi + 1) * f - 1 := IntWalk.i64_in _ (by omega)
  clear m1 m2 h0 h1 hf
  have HX := Lib.hid (alloc3 w #[.int .i64 f] (q.arr) #[.int .i64 0, .int .i64 0] 184 42 42 _ rfl)
  go_enter Tryd.func144, Tryd.ntmps144
  refine wp_seq_hid ?_
  intro K0 HK0
  go_wp2_with fail
  refine HK0.out _ _ ?_
  clear HK0 K0
  revert HX
  generalize (((w.alloc (.cells #[.int .i64 f] 184)).alloc (.cells (q.arr) 42)).alloc (.cells #[.int .i64 0, .int .i64 0] 42)) = w1
  intro HX
  have b0_0 : w1.cell? ⟨w.heap.size, 0, none⟩ = some (.int .i64 f) := by rw [cell_of_heap HX.out.1]; rfl
  have b1_0 : w1.cell? ⟨w.heap.size + 1, 0, none⟩ = some (.int .i64 q.lo) := by rw [cell_of_heap HX.out.2.1]; rfl
  have b1_1 : w1.cell? ⟨w.heap.size + 1, 1, none⟩ = some (.int .i64 q.hi) := by rw [cell_of_heap HX.out.2.1]; rfl
  have HR := Lib.hid HX.out.2.2.1
  have y0 : w1.cell? ⟨w.heap.size + 2, 0, none⟩ = some (.int .i64 0) := by rw [cell_of_heap HR.out]; rfl
  have y1 : w1.cell? ⟨w.heap.size + 2, 1, none⟩ = some (.int .i64 0) := by rw [cell_of_heap HR.out]; rfl
  have f0 : ∀ k, w1.frozen? ⟨w.heap.size + 2, k, none⟩ = false := fun k => frozen_of_heap HR.out
  go_wp2_with fail
  have h4 := (heap_setCell_at (k := 1) (heap_setCell_at (k := 0) HR.out (.int .i64 (q.lo * f))) (.int .i64 ((q.hi + 1) * f - 1)))
  exact bodyPost_ret (res_c2 (by decide) rfl _ rfl (by rw [cell_of_heap h4]; rfl) (by rw [cell_of_heap h4]; rfl)) rfl ⟨rfl, ((HX.out.2.2.2.setCell (p := ⟨w.heap.size + 2, _, none⟩) (by show w.heap.size ≤ w.heap.size + 2; omega) _).setCell (p := ⟨w.heap.size + 2, _, none⟩) (by show w.heap.size ≤ w.heap.size + 2; omega) _)⟩
set_option maxRecDepth 100000 in
set_option maxHeartbeats 2000000 in
theorem powers106 {n f : Int} {q : Spn} (h0 : 0 ≤ q.lo ∧ q.lo ≤ 2000) (h1 : 0 ≤ q.hi ∧ q.hi ≤ 2000) (hn : 0 ≤ n ∧ n ≤ 1073741824) (hf : 0 ≤ f ∧ f ≤ 1073741824) (w : World) : Calls Tryd.prog 145 #[.agg #[.int .i64 n, .int .i64 f], q.v] w fun e w' => e = .returned (.agg #[.int .i64 (q.lo * n), .int .i64 ((q.hi + 1) * f - 1)]) ∧ Below w.heap.size w w' := by
  have m1 := mul_bd h0.1 (by omega) hn.1 hn.2
  have m2 := mul_bd (a := q.hi + 1) (by omega) (by omega) hf.1 hf.2
  have x1 : IntKind.i64.wrap (q.lo * n) = q.lo * n := IntWalk.i64_in _ (by omega)
  have x2 : IntKind.i64.wrap (q.hi + 1) = q.hi + 1 := IntWalk.i64_in _ (by omega)
  have x3 : IntKind.i64.wrap ((q.hi + 1) * f) = (q.hi + 1) * f := IntWalk.i64_in _ (by omega)
  have x4 : IntKind.i64.wrap ((q.hi + 1) * f - 1) = (q.hi + 1) * f - 1 := IntWalk.i64_in _ (by omega)
  clear m1 m2 h0 h1 hn hf
  have HX := Lib.hid (alloc3 w #[.int .i64 n, .int .i64 f] (q.arr) #[.int .i64 0, .int .i64 0] 186 42 42 _ rfl)
  go_enter Tryd.func145, Tryd.ntmps145
  refine wp_seq_hid ?_
  intro K0 HK0
  go_wp2_with fail
  refine HK0.out _ _ ?_
  clear HK0 K0
  revert HX
  generalize (((w.alloc (.cells #[.int .i64 n, .int .i64 f] 186)).alloc (.cells (q.arr) 42)).alloc (.cells #[.int .i64 0, .int .i64 0] 42)) = w1
  intro HX
  have b0_0 : w1.cell? ⟨w.heap.size, 0, none⟩ = some (.int .i64 n) := by rw [cell_of_heap HX.out.1]; rfl
  have b0_1 : w1.cell? ⟨w.heap.size, 1, none⟩ = some (.int .i64 f) := by rw [cell_of_heap HX.out.1]; rfl
  have b1_0 : w1.cell? ⟨w.heap.size + 1, 0, none⟩ = some (.int .i64 q.lo) := by rw [cell_of_heap HX.out.2.1]; rfl
  have b1_1 : w1.cell? ⟨w.heap.size + 1, 1, none⟩ = some (.int .i64 q.hi) := by rw [cell_of_heap HX.out.2.1]; rfl
  have HR := Lib.hid HX.out.2.2.1
  have y0 : w1.cell? ⟨w.heap.size + 2, 0, none⟩ = some (.int .i64 0) := by rw [cell_of_heap HR.out]; rfl
  have y1 : w1.cell? ⟨w.heap.size + 2, 1, none⟩ = some (.int .i64 0) := by rw [cell_of_heap HR.out]; rfl
  have f0 : ∀ k, w1.frozen? ⟨w.heap.size + 2, k, none⟩ = false := fun k => frozen_of_heap HR.out
  go_wp2_with fail
  have h4 := (heap_setCell_at (k := 1) (heap_setCell_at (k := 0) HR.out (.int .i64 (q.lo * n))) (.int .i64 ((q.hi + 1) * f - 1)))
  exact bodyPost_ret (res_c2 (by decide) rfl _ rfl (by rw [cell_of_heap h4]; rfl) (by rw [cell_of_heap h4]; rfl)) rfl ⟨rfl, ((HX.out.2.2.2.setCell (p := ⟨w.heap.size + 2, _, none⟩) (by show w.heap.size ≤ w.heap.size + 2; omega) _).setCell (p := ⟨w.heap.size + 2, _, none⟩) (by show w.heap.size ≤ w.heap.size + 2; omega) _)⟩
end Go.Proofs.YtbnhngfegnhaiaaDoor
namespace Go.Proofs.YtbnhngfegnhaiaaDoor
open Go.RowKit
set_option linter.unusedVariables false
set_option linter.unusedSimpArgs false
structure nar6F (b2 : Nat) (b4 : Nat) (x : Int) (y : Int) (S0 : World → Prop) (S1 : World → Prop) (d : Nat → Bool) (x26 x27 x28 x29 x30 x31 x5 : Value) (w : World) : Prop where
  q2 : d 2 = true → d 1 = true
  q4 : d 4 = true → d 3 = true
  q5 : d 5 = true → d 2 = true ∧ d 4 = true
  q6 : d 6 = true → d 0 = true
  q7 : d 7 = true → d 0 = true ∧ d 1 = true ∧ d 2 = true ∧ d 3 = true ∧ d 4 = true ∧ d 5 = true ∧ d 6 = true
  f0 : d 0 = true → x26 = .agg #[.int .i64 x, .int .i64 y]
  f1 : d 1 = true → x27 = .pointer (some ⟨b2, 0, none⟩)
  f2 : d 2 = true → x28 = .int .i64 x
  f3 : d 3 = true → x29 = .pointer (some ⟨b2, 1, none⟩)
  f4 : d 4 = true → x30 = .int .i64 y
  f5 : d 5 = true → x31 = .bool (decide (x ≤ y))
  f7 : d 7 = true → x5 = .bool (decide (x ≤ y))
  st0 : d 6 = false → S0 w
  st1 : d 6 = true → S1 w
noncomputable def nar6C : Code := (Tryd.f82.body.bind (regionAt 6)).getD .skip
set_option maxRecDepth 100000 in
set_option maxHeartbeats 4000000 in
theorem nar6 {b2 : Nat} {b4 : Nat} {x : Int} {y : Int} {S0 : World → Prop} {S1 : World → Prop} {Q : Exit → Act → World → Prop} {W1 : World} (h0 : S0 W1.drew)
    (kl0 : Hid (∀ (w : World), (S0 w) → w.cell? ⟨b2, 0, none⟩ = some (.int .i64 x) ∧ w.cell? ⟨b2, 1, none⟩ = some (.int .i64 y)))
    (kl2 : Hid (∀ (w : World), (S0 w ∨ S1 w) → w.cell? ⟨b2, 0, none⟩ = some (.int .i64 x)))
    (kl4 : Hid (∀ (w : World), (S0 w ∨ S1 w) → w.cell? ⟨b2, 1, none⟩ = some (.int .i64 y)))
    (kc6 : Hid (∀ (w : World), S0 w → (∃ u, w.cell? ⟨b4, 0, none⟩ = some u) ∧ w.frozen? ⟨b4, 0, none⟩ = false ∧ (∃ u, w.cell? ⟨b4, 1, none⟩ = some u) ∧ w.frozen? ⟨b4, 1, none⟩ = false ∧ S1 ((w.setCell ⟨b4, 0, none⟩ (.int .i64 x)).setCell ⟨b4, 1, none⟩ (.int .i64 y))))
    {s0 s1 s3 s5 s6 s7 s8 s9 s10 s11 s12 s13 s14 s15 s16 s17 s18 s19 s20 s21 s22 s23 s24 s25 s26 s27 s28 s29 s30 s31 : Value} {dd : List Deferred}
    (hQ : ∀ (w' : World), S1 w' → Q .normal { tmps := #[s0, s1, .pointer (some ⟨b2, 0, none⟩), s3, .pointer (some ⟨b4, 0, none⟩), .bool (decide (x ≤ y)), s6, s7, s8, s9, s10, s11, s12, s13, s14, s15, s16, s17, s18, s19, s20, s21, s22, s23, s24, s25, .agg #[.int .i64 x, .int .i64 y], .pointer (some ⟨b2, 0, none⟩), .int .i64 x, .pointer (some ⟨b2, 1, none⟩), .int .i64 y, .bool (decide (x ≤ y))], defers := dd } w') :
    Code.wpIn (wideAt none) 0 Tryd.prog nar6C Q { tmps := #[s0, s1, .pointer (some ⟨b2, 0, none⟩), s3, .pointer (some ⟨b4, 0, none⟩), s5, s6, s7, s8, s9, s10, s11, s12, s13, s14, s15, s16, s17, s18, s19, s20, s21, s22, s23, s24, s25, s26, s27, s28, s29, s30, s31], defers := dd } W1 := by
  have HQ := Lib.hid hQ
  clear hQ
  conv => arg 4; whnf
  refine wpIn_region_invG mixed (by kernel_rfl) (fun d_ a_ w' => ∃ (x26 : Value) (x27 : Value) (x28 : Value) (x29 : Value) (x30 : Value) (x31 : Value) (x5 : Value), a_ = { tmps := #[s0, s1, .pointer (some ⟨b2, 0, none⟩), s3, .pointer (some ⟨b4, 0, none⟩), x5, s6, s7, s8, s9, s10, s11, s12, s13, s14, s15, s16, s17, s18, s19, s20, s21, s22, s23, s24, s25, x26, x27, x28, x29, x30, x31], defers := dd } ∧ nar6F b2 b4 x y S0 S1 d_ x26 x27 x28 x29 x30 x31 x5 w') ?_ ?_ ?_
  · refine ⟨s26, s27, s28, s29, s30, s31, s5, rfl, ?_⟩
    constructor <;> first | rfl | (intro _; rfl) | (intro h; cases h; done) | (intro _; exact h0) | exact h0
  · refine ⟨?_, ?_, ?_, ?_, ?_, ?_, ?_, ?_, trivial⟩
    all_goals
      rintro d_ a_ w1 K hd_ hdep ⟨x26, x27, x28, x29, x30, x31, x5, rfl, F⟩ HK
      simp [Region.binds] at hdep
    · have hst : S0 w1 := by
        have n_ : d_ 6 = false := by
          cases e_ : d_ 6 with
          | false => rfl
          | true => have h2 := (F.q6 e_); rw [show d_ 0 = false from hd_] at h2; cases h2
        exact (F.st0 n_)
      have kk := kl0.out w1 hst
      obtain ⟨kk0, kk1⟩ := kk
      clear hst
      have HF : Hid (nar6F b2 b4 x y S0 S1 (upd d_ 0) (.agg #[.int .i64 x, .int .i64 y]) x27 x28 x29 x30 x31 x5 w1) := ⟨F.q2, F.q4, F.q5, fun h => rfl, fun h => andM0 (F.q7 h) rfl, fun _ => rfl, F.f1, F.f2, F.f3, F.f4, F.f5, F.f7, F.st0, F.st1⟩
      clear F
      go_simp
      exact HK.out _ _ ⟨_, _, _, _, _, _, _, rfl, HF.out⟩
    · have HF : Hid (nar6F b2 b4 x y S0 S1 (upd d_ 1) x26 (.pointer (some ⟨b2, 0, none⟩)) x28 x29 x30 x31 x5 w1) := ⟨fun h => rfl, F.q4, F.q5, F.q6, fun h => andM1 (F.q7 h) rfl, F.f0, fun _ => rfl, F.f2, F.f3, F.f4, F.f5, F.f7, F.st0, F.st1⟩
      clear F
      go_simp
      exact HK.out _ _ ⟨_, _, _, _, _, _, _, rfl, HF.out⟩
    · have hst : S0 w1 ∨ S1 w1 := by
        cases e1 : d_ 6 with
        | false => exact .inl ((F.st0 e1))
        | true =>
          exact .inr ((F.st1 e1))
      have kk := kl2.out w1 hst
      clear hst
      obtain rfl := F.f1 (by simp [hdep])
      have HF : Hid (nar6F b2 b4 x y S0 S1 (upd d_ 2) x26 (.pointer (some ⟨b2, 0, none⟩)) (.int .i64 x) x29 x30 x31 x5 w1) := ⟨fun _ => (show _ from (by simp [hdep] : d_ 1 = true)), F.q4, fun h => andM0 (F.q5 h) rfl, F.q6, fun h => andM2 (F.q7 h) rfl, F.f0, F.f1, fun _ => rfl, F.f3, F.f4, F.f5, F.f7, F.st0, F.st1⟩
      clear F
      go_simp
      exact HK.out _ _ ⟨_, _, _, _, _, _, _, rfl, HF.out⟩
    · have HF : Hid (nar6F b2 b4 x y S0 S1 (upd d_ 3) x26 x27 x28 (.pointer (some ⟨b2, 1, none⟩)) x30 x31 x5 w1) := ⟨F.q2, fun h => rfl, F.q5, F.q6, fun h => andM3 (F.q7 h) rfl, F.f0, F.f1, F.f2, fun _ => rfl, F.f4, F.f5, F.f7, F.st0, F.st1⟩
      clear F
      go_simp
      exact HK.out _ _ ⟨_, _, _, _, _, _, _, rfl, HF.out⟩
    · have hst : S0 w1 ∨ S1 w1 := by
        cases e1 : d_ 6 with
        | false => exact .inl ((F.st0 e1))
        | true =>
          exact .inr ((F.st1 e1))
      have kk := kl4.out w1 hst
      clear hst
      obtain rfl := F.f3 (by simp [hdep])
      have HF : Hid (nar6F b2 b4 x y S0 S1 (upd d_ 4) x26 x27 x28 (.pointer (some ⟨b2, 1, none⟩)) (.int .i64 y) x31 x5 w1) := ⟨F.q2, fun _ => (show _ from (by simp [hdep] : d_ 3 = true)), fun h => andL1 (F.q5 h) rfl, F.q6, fun h => andM4 (F.q7 h) rfl, F.f0, F.f1, F.f2, F.f3, fun _ => rfl, F.f5, F.f7, F.st0, F.st1⟩
      clear F
      go_simp
      exact HK.out _ _ ⟨_, _, _, _, _, _, _, rfl, HF.out⟩
    · obtain rfl := F.f2 (by simp [hdep])
      obtain rfl := F.f4 (by simp [hdep])
      have HF : Hid (nar6F b2 b4 x y S0 S1 (upd d_ 5) x26 x27 (.int .i64 x) x29 (.int .i64 y) (.bool (decide (x ≤ y))) x5 w1) := ⟨F.q2, F.q4, fun _ => ⟨(show _ from (by simp [hdep] : d_ 2 = true)), (show _ from (by simp [hdep] : d_ 4 = true))⟩, F.q6, fun h => andM5 (F.q7 h) rfl, F.f0, F.f1, F.f2, F.f3, F.f4, fun _ => rfl, F.f7, F.st0, F.st1⟩
      clear F
      go_simp
      exact HK.out _ _ ⟨_, _, _, _, _, _, _, rfl, HF.out⟩
    · have hS := F.st0  hd_
      obtain rfl := F.f0 (by simp [hdep])
      obtain ⟨⟨ku0, kcell0⟩, kfr0, ⟨ku1, kcell1⟩, kfr1, hres⟩ := kc6.out w1 hS
      have HF : Hid (nar6F b2 b4 x y S0 S1 (upd d_ 6) (.agg #[.int .i64 x, .int .i64 y]) x27 x28 x29 x30 x31 x5 ((w1.setCell ⟨b4, 0, none⟩ (.int .i64 x)).setCell ⟨b4, 1, none⟩ (.int .i64 y))) := ⟨F.q2, F.q4, F.q5, fun _ => (show _ from (by simp [hdep] : d_ 0 = true)), fun h => andL6 (F.q7 h) rfl, F.f0, F.f1, F.f2, F.f3, F.f4, F.f5, F.f7, fun h => (by simp [upd] at h), fun _ => hres⟩
      clear F hS hres
      go_simp
      exact HK.out _ _ ⟨_, _, _, _, _, _, _, rfl, HF.out⟩
    · obtain rfl := F.f5 (by simp [hdep])
      have HF : Hid (nar6F b2 b4 x y S0 S1 (upd d_ 7) x26 x27 x28 x29 x30 (.bool (decide (x ≤ y))) (.bool (decide (x ≤ y))) w1) := ⟨F.q2, F.q4, F.q5, F.q6, fun _ => ⟨(show _ from (by simp [hdep] : d_ 0 = true)), (show _ from (by simp [hdep] : d_ 1 = true)), (show _ from (by simp [hdep] : d_ 2 = true)), (show _ from (by simp [hdep] : d_ 3 = true)), (show _ from (by simp [hdep] : d_ 4 = true)), (show _ from (by simp [hdep] : d_ 5 = true)), (show _ from (by simp [hdep] : d_ 6 = true))⟩, F.f0, F.f1, F.f2, F.f3, F.f4, F.f5, fun _ => rfl, F.st0, F.st1⟩
      clear F
      go_simp
      exact HK.out _ _ ⟨_, _, _, _, _, _, _, rfl, HF.out⟩
  · rintro d_ a_ w1 hall ⟨x26, x27, x28, x29, x30, x31, x5, rfl, F⟩
    have hall' : ∀ k, k < 8 → d_ k = true := hall
    obtain rfl := F.f0 (hall' 0 (by decide))
    obtain rfl := F.f1 (hall' 1 (by decide))
    obtain rfl := F.f2 (hall' 2 (by decide))
    obtain rfl := F.f3 (hall' 3 (by decide))
    obtain rfl := F.f4 (hall' 4 (by decide))
    obtain rfl := F.f5 (hall' 5 (by decide))
    obtain rfl := F.f7 (hall' 7 (by decide))
    have hst := F.st1 (hall' 6 (by decide))
    exact HQ.out  w1 hst
structure NarI (w : World) (x : Spn) (v : World) : Prop where
  below : Below w.heap.size w v
  h2 : v.heap[w.heap.size]? = some (.cells x.arr 42 (0, 0))
  h4 : v.heap[w.heap.size + 1]? = some (.cells #[.int .i64 0, .int .i64 0] 42 (0, 0))
set_option maxRecDepth 100000 in
set_option maxHeartbeats 4000000 in
theorem narrowed25 {q s : Spn} {ms : Nat} {w : World} (h0 : w.cell? ⟨ms, 0, none⟩ = some (.int .i64 s.lo)) (h1 : w.cell? ⟨ms, 1, none⟩ = some (.int .i64 s.hi)) :
    Calls Tryd.prog 82 #[q.v, .slice (some ⟨ms, 0, none⟩) 1 1] w fun e w' => e = .returned (.tuple #[(q.cut s).v, .bool (q.cut s).is]) ∧ Below w.heap.size w w' := by
  have HX := Lib.hid (alloc2 w (q.arr) #[.int .i64 0, .int .i64 0] 42 42)
  have HC : Hid (∀ v, Below w.heap.size w v → v.cell? ⟨ms, 0, none⟩ = some (.int .i64 s.lo) ∧ v.cell? ⟨ms, 1, none⟩ = some (.int .i64 s.hi)) := fun v hv => ⟨cell_stays hv h0, cell_stays hv h1⟩
  clear h0 h1
  go_enter Tryd.func82, Tryd.ntmps82
  refine wp_seq_hid ?_
  intro K0 HK0
  go_wp2_with fail
  refine HK0.out _ _ ?_
  clear HK0 K0
  revert HX
  generalize (w.alloc (.cells (q.arr) 42)).alloc (.cells #[.int .i64 0, .int .i64 0] 42) = w1
  intro HX
  have HI : Hid (NarI w q w1) := ⟨HX.out.2.2, HX.out.1, HX.out.2.1⟩
  clear HX
  refine wp_seq_hid ?_
  intro K1 HK1
  go_wp2_with fail
  go_loopw [10] (fun i wr => ∃ k : Nat, k ≤ 1 ∧ i = .int .i64 k ∧ Hid (NarI w (if k = 0 then q else q.cut s) wr)) (fun i _ => 1 - (intOf i).toNat)
  case atStart => exact ⟨0, by omega, rfl, HI.out⟩
  case round =>
    obtain ⟨k, hk, rfl, HW⟩ := hrel
    by_cases hk0 : k = 0
    · subst hk0
      rw [if_pos rfl] at HW
      have x0 := (HC.out wr HW.out.below).1
      have x1 := (HC.out wr HW.out.below).2
      have hb : Below wr.heap.size wr (wr.alloc (.cells s.arr 42)) := (Below.refl _ wr).alloc (Nat.le_refl _) _
      have HY : Hid (NarI w q (wr.alloc (.cells s.arr 42)) ∧ (wr.alloc (.cells s.arr 42)).heap[wr.heap.size]? = some (.cells s.arr 42 (0, 0))) := ⟨⟨HW.out.below.trans (hb.mono HW.out.below.size), (hb.block _ (heap_lt HW.out.h2)).trans HW.out.h2, (hb.block _ (heap_lt HW.out.h4)).trans HW.out.h4⟩, World.alloc_heap_new _ _⟩
      clear hb
      go_upto_region 4 with fail
      clear x0 x1
      revert HY
      generalize wr.alloc (.cells s.arr 42) = w5
      generalize wr.heap.size = b7
      intro HY
      have a0 : w5.cell? ⟨w.heap.size, 0, none⟩ = some (.int .i64 q.lo) := by rw [cell_of_heap HY.out.1.h2]; rfl
      have a1 : w5.cell? ⟨w.heap.size, 1, none⟩ = some (.int .i64 q.hi) := by rw [cell_of_heap HY.out.1.h2]; rfl
      have f0 : ∀ k, w5.frozen? ⟨w.heap.size, k, none⟩ = false := fun k => frozen_of_heap HY.out.1.h2
      have s0 : w5.cell? ⟨b7, 0, none⟩ = some (.int .i64 s.lo) := by rw [cell_of_heap HY.out.2]; rfl
      have s1 : w5.cell? ⟨b7, 1, none⟩ = some (.int .i64 s.hi) := by rw [cell_of_heap HY.out.2]; rfl
      have HZ : Hid (NarI w (q.cut s) ((w5.setCell ⟨w.heap.size, 0, none⟩ (.int .i64 (max q.lo s.lo))).setCell ⟨w.heap.size, 1, none⟩ (.int .i64 (min q.hi s.hi)))) := ⟨(HY.out.1.below.setCell (p := ⟨w.heap.size, 0, none⟩) (Nat.le_refl _) _).setCell (p := ⟨w.heap.size, 1, none⟩) (Nat.le_refl _) _, heap_setCell_at (k := 1) (heap_setCell_at (k := 0) HY.out.1.h2 _) _, (Below.heap_setCell _ _ _ _ (by show w.heap.size + 1 ≠ w.heap.size; omega)).trans ((Below.heap_setCell _ _ _ _ (by show w.heap.size + 1 ≠ w.heap.size; omega)).trans HY.out.1.h4)⟩
      go_wp2_with fail
      go_roundw
      case rel => exact ⟨1, by omega, by go_num, HZ.out⟩
      case measure => simp [intOf]
    · obtain rfl : k = 1 := by omega
      rw [if_neg hk0] at HW
      clear hk0
      go_wp2_with fail
      refine HK1.out _ _ ?_
      refine wp_seq_hid ?_
      intro K6 HK6
      go_upto_region 6 with fail
      have HB4 : Hid (w.heap.size ≤ w.heap.size + 1) := Nat.le_succ _
      refine wpIn_wide.1 (nar6 (b2 := w.heap.size) (b4 := w.heap.size + 1) (x := (q.cut s).lo) (y := (q.cut s).hi) (S0 := fun v => NarI w (q.cut s) v) (S1 := fun v => (Below w.heap.size w v ∧ v.heap[w.heap.size]? = some (.cells (q.cut s).arr 42 (0, 0))) ∧ v.heap[w.heap.size + 1]? = some (.cells (q.cut s).arr 42 (0, 0))) ?h0 ?l0 ?l2 ?l4 ?c6 ?hQ)
      case h0 => exact ⟨HW.out.below.trans ((Below.refl _ _).drew.mono HW.out.below.size), ((Below.refl _ wr).drew.block _ (heap_lt HW.out.h2)).trans HW.out.h2, ((Below.refl _ wr).drew.block _ (heap_lt HW.out.h4)).trans HW.out.h4⟩
      case l0 => exact fun v h => ⟨by rw [cell_of_heap h.h2]; rfl, by rw [cell_of_heap h.h2]; rfl⟩
      case l2 =>
        rintro v (h | h)
        · rw [cell_of_heap h.h2]; rfl
        · rw [cell_of_heap h.1.2]; rfl
      case l4 =>
        rintro v (h | h)
        · rw [cell_of_heap h.h2]; rfl
        · rw [cell_of_heap h.1.2]; rfl
      case c6 =>
        intro v h
        have q1 := heap_setCell_at (k := 0) h.h4 (.int .i64 (q.cut s).lo)
        have hne : w.heap.size ≠ w.heap.size + 1 := by omega
        exact ⟨⟨_, by rw [cell_of_heap h.h4]; rfl⟩, frozen_of_heap h.h4, ⟨_, by rw [cell_of_heap h.h4]; rfl⟩, frozen_of_heap h.h4, ⟨(h.below.setCell (p := ⟨w.heap.size + 1, 0, none⟩) HB4.out _).setCell (p := ⟨w.heap.size + 1, 1, none⟩) HB4.out _, (Below.heap_setCell _ _ _ _ hne).trans ((Below.heap_setCell _ _ _ _ hne).trans h.h2)⟩, heap_setCell_at (k := 1) q1 (.int .i64 (q.cut s).hi)⟩
      intro w7 h7
      have H7 := Lib.hid h7
      clear h7
      go_wp2_with fail
      refine HK6.out _ _ ?_
      go_wp2_with fail
      exact bodyPost_ret (res_c2t rfl _ rfl rfl (by rw [cell_of_heap H7.out.2]; rfl) (by rw [cell_of_heap H7.out.2]; rfl)) rfl ⟨rfl, H7.out.1.1⟩
end Go.Proofs.YtbnhngfegnhaiaaDoor
namespace Go.Proofs.YtbnhngfegnhaiaaDoor
open Go.RowKit
set_option linter.unusedVariables false
set_option linter.unusedSimpArgs false
set_option maxRecDepth 100000 in
set_option maxHeartbeats 4000000 in
theorem shown24 (t : Thg) (ht : t.Sm) (w : World) : Calls Tryd.prog 80 #[t.v] w fun e w' => e = .returned (.tuple #[t.shown.v, .bool t.shown.is]) ∧ Below w.heap.size w w' := by
  have HX := Lib.hid (alloc2 w (t.arr) #[.int .i64 0, .int .i64 0] 46 42)
  have HT := Lib.hid ht
  clear ht
  go_enter Tryd.func80, Tryd.ntmps80
  refine wp_seq_hid ?_
  intro K0 HK0
  go_wp2_with fail
  refine HK0.out _ _ ?_
  clear HK0 K0
  revert HX
  generalize (w.alloc (.cells (t.arr) 46)).alloc (.cells #[.int .i64 0, .int .i64 0] 42) = w1
  intro HX
  have k0 : w1.cell? ⟨w.heap.size, 0, none⟩ = some (.int .i64 t.left.x.lo) := by rw [cell_of_heap HX.out.1]; rfl
  have k1 : w1.cell? ⟨w.heap.size, 1, none⟩ = some (.int .i64 t.left.x.hi) := by rw [cell_of_heap HX.out.1]; rfl
  have k2 : w1.cell? ⟨w.heap.size, 2, none⟩ = some (.int .i64 t.left.y.lo) := by rw [cell_of_heap HX.out.1]; rfl
  have k3 : w1.cell? ⟨w.heap.size, 3, none⟩ = some (.int .i64 t.left.y.hi) := by rw [cell_of_heap HX.out.1]; rfl
  have k4 : w1.cell? ⟨w.heap.size, 4, none⟩ = some (.int .i64 t.right.x.lo) := by rw [cell_of_heap HX.out.1]; rfl
  have k5 : w1.cell? ⟨w.heap.size, 5, none⟩ = some (.int .i64 t.right.x.hi) := by rw [cell_of_heap HX.out.1]; rfl
  have k6 : w1.cell? ⟨w.heap.size, 6, none⟩ = some (.int .i64 t.right.y.lo) := by rw [cell_of_heap HX.out.1]; rfl
  have k7 : w1.cell? ⟨w.heap.size, 7, none⟩ = some (.int .i64 t.right.y.hi) := by rw [cell_of_heap HX.out.1]; rfl
  have k8 : w1.cell? ⟨w.heap.size, 8, none⟩ = some (.int .i64 t.far) := by rw [cell_of_heap HX.out.1]; rfl
  refine wp_seq_hid ?_
  intro K1 HK1
  go_wp2_with fail
  refine (shift44 t HT.out _).mono ?_
  clear k0 k1 k2 k3 k4 k5 k6 k7 k8
  rintro e w2 ⟨rfl, hb⟩
  have HB := Lib.hid hb
  clear hb
  have HY := Lib.hid (World.alloc_heap_new w2 (.cells t.shift.arr 24))
  have HYB : Hid (Below w2.heap.size w2 (w2.alloc (.cells t.shift.arr 24))) := (Below.refl _ w2).alloc (Nat.le_refl _) _
  go_wp2_with fail
  refine HK1.out _ _ ?_
  clear HK1 K1
  revert HY HYB
  generalize w2.alloc (.cells t.shift.arr 24) = w3
  generalize hb4 : w2.heap.size = b4
  intro HY HYB
  have HB3 : Hid (Below w.heap.size w w3 ∧ w3.heap[w.heap.size + 1]? = some (.cells #[.int .i64 0, .int .i64 0] 42 (0, 0))) := by
    have h1 := HX.out.2.2.trans (HB.out.mono HX.out.2.2.size)
    have h2 := HYB.out
    rw [← hb4] at h2
    exact ⟨h1.trans (h2.mono h1.size), (h2.block _ (heap_lt ((HB.out.block _ (heap_lt HX.out.2.1)).trans HX.out.2.1))).trans ((HB.out.block _ (heap_lt HX.out.2.1)).trans HX.out.2.1)⟩
  clear hb4
  have s0 : w3.cell? ⟨b4, 0, none⟩ = some (.int .i64 t.shift.lo) := by rw [cell_of_heap HY.out]; rfl
  have s1 : w3.cell? ⟨b4, 1, none⟩ = some (.int .i64 t.shift.hi) := by rw [cell_of_heap HY.out]; rfl
  have hq := World.alloc_heap_new w3 (.cells #[.int .i64 0, .int .i64 2000] 42)
  have C := Lib.hid (narrowed25 (q := t.shift) (s := ⟨0, 2000⟩) (w := w3.alloc (.cells #[.int .i64 0, .int .i64 2000] 42)) (ms := w3.heap.size) (by rw [cell_of_heap hq]; rfl) (by rw [cell_of_heap hq]; rfl))
  have HQB : Hid (Below w3.heap.size w3 (w3.alloc (.cells #[.int .i64 0, .int .i64 2000] 42))) := (Below.refl _ w3).alloc (Nat.le_refl _) _
  clear hq
  go_wp2_with fail
  refine C.out.mono ?_
  clear s0 s1 C
  rintro e w4 ⟨rfl, hb⟩
  have HB5 := Lib.hid (HQB.out.trans (hb.mono HQB.out.size))
  clear hb
  have hq := (HB5.out.block _ (heap_lt HB3.out.2)).trans HB3.out.2
  have y0 : w4.cell? ⟨w.heap.size + 1, 0, none⟩ = some (.int .i64 0) := by rw [cell_of_heap hq]; rfl
  have y1 : w4.cell? ⟨w.heap.size + 1, 1, none⟩ = some (.int .i64 0) := by rw [cell_of_heap hq]; rfl
  have f0 : ∀ k, w4.frozen? ⟨w.heap.size + 1, k, none⟩ = false := fun k => frozen_of_heap hq
  have HQ := Lib.hid hq
  clear hq
  go_wp2_with fail
  have h4 := heap_setCell_at (k := 1) (heap_setCell_at (k := 0) HQ.out (.int .i64 (t.shift.cut ⟨0, 2000⟩).lo)) (.int .i64 (t.shift.cut ⟨0, 2000⟩).hi)
  have hle : w.heap.size ≤ w.heap.size + 1 := Nat.le_succ _
  have hbb := HB3.out.1.trans (HB5.out.mono HB3.out.1.size)
  exact bodyPost_ret (res_c2t rfl _ rfl rfl (by rw [cell_of_heap h4]; rfl) (by rw [cell_of_heap h4]; rfl)) rfl ⟨rfl, (hbb.setCell (p := ⟨w.heap.size + 1, _, none⟩) hle _).setCell (p := ⟨w.heap.size + 1, _, none⟩) hle _⟩
/-- A pair that is looked at, with its powers. -/
abbrev viewArr (p : Par) (a : Option Addr) (c : Nat) (q : Spn) : Array Value := #[.int .i64 p.focal.lo, .int .i64 p.focal.hi, .int .i64 p.base.lo, .int .i64 p.base.hi, .int .i64 p.tilt, .int .i64 p.near, .int .i64 p.far, .slice a p.things.length c, .int .i64 q.lo, .int .i64 q.hi]
structure IsView (w : World) (bv : Nat) (p : Par) (a : Option Addr) (c : Nat) (q : Spn) : Prop where
  h : w.heap[bv]? = some (.cells (viewArr p a c q) 86 (0, 0))
  things : IsThs w a p.things
theorem IsView.mono {w w' : World} {bv : Nat} {p : Par} {a : Option Addr} {c : Nat} {q : Spn} (h : IsView w bv p a c q) (hb : Below w.heap.size w w') : IsView w' bv p a c q := ⟨(hb.block _ (heap_lt h.h)).trans h.h, h.things.mono hb⟩
structure lev2F (bv : Nat) (b5 : Nat) (x : Int) (y : Int) (tl : Int) (nt : Int) (z1 : Int) (z2 : Int) (zb : Bool) (S0 : Bool → Nat → World → Prop) (S1 : Bool → Nat → Nat → World → Prop) (S2 : Bool → Nat → Nat → Unit → World → Prop) (S3 : Bool → Nat → Nat → Unit → World → Prop) (d : Nat → Bool) (x28 x29 x30 x31 x32 x33 x34 x35 x36 x37 x38 x39 x40 x41 x42 x27 x43 x44 x6 x7 : Value) (ms : Nat) (g : Nat) (u : Unit) (w : World) : Prop where
  q2 : d 2 = true → d 1 = true
  q3 : d 3 = true → d 2 = true
  q4 : d 4 = true → d 3 = true
  q5 : d 5 = true → d 4 = true
  q6 : d 6 = true → d 5 = true
  q8 : d 8 = true → d 7 = true
  q9 : d 9 = true → d 8 = true
  q10 : d 10 = true → d 9 = true
  q11 : d 11 = true → d 10 = true
  q12 : d 12 = true → d 6 = true ∧ d 11 = true
  q13 : d 13 = true → d 12 = true
  q14 : d 14 = true → d 0 = true ∧ d 13 = true
  q15 : d 15 = true → d 14 = true
  q16 : d 16 = true → d 15 = true
  q17 : d 17 = true → d 15 = true
  q19 : d 19 = true → d 0 = true ∧ d 1 = true ∧ d 2 = true ∧ d 3 = true ∧ d 4 = true ∧ d 5 = true ∧ d 6 = true ∧ d 7 = true ∧ d 8 = true ∧ d 9 = true ∧ d 10 = true ∧ d 11 = true ∧ d 12 = true ∧ d 13 = true ∧ d 14 = true ∧ d 15 = true ∧ d 16 = true ∧ d 18 = true
  q20 : d 20 = true → d 0 = true ∧ d 1 = true ∧ d 2 = true ∧ d 3 = true ∧ d 4 = true ∧ d 5 = true ∧ d 6 = true ∧ d 7 = true ∧ d 8 = true ∧ d 9 = true ∧ d 10 = true ∧ d 11 = true ∧ d 12 = true ∧ d 13 = true ∧ d 14 = true ∧ d 15 = true ∧ d 16 = true ∧ d 17 = true ∧ d 18 = true ∧ d 19 = true
  f0 : d 0 = true → x28 = .agg #[.int .i64 x, .int .i64 y]
  f1 : d 1 = true → x29 = .pointer (some ⟨bv, 0, none⟩)
  f2 : d 2 = true → x30 = .pointer (some ⟨bv, 0, none⟩)
  f3 : d 3 = true → x31 = .pointer (some ⟨bv, 0, none⟩)
  f4 : d 4 = true → x32 = .pointer (some ⟨bv, 4, none⟩)
  f5 : d 5 = true → x33 = .int .i64 tl
  f6 : d 6 = true → x34 = .int .i64 nt
  f7 : d 7 = true → x35 = .pointer (some ⟨bv, 0, none⟩)
  f8 : d 8 = true → x36 = .pointer (some ⟨bv, 0, none⟩)
  f9 : d 9 = true → x37 = .pointer (some ⟨bv, 0, none⟩)
  f10 : d 10 = true → x38 = .pointer (some ⟨bv, 4, none⟩)
  f11 : d 11 = true → x39 = .int .i64 tl
  f12 : d 12 = true → x40 = .agg #[.int .i64 nt, .int .i64 tl]
  f13 : d 13 = true → x41 = .slice (some ⟨g, 0, none⟩) 1 1
  f14 : d 14 = true → x42 = .tuple #[.agg #[.int .i64 z1, .int .i64 z2], .bool zb]
  f15 : d 15 = true → x27 = .tuple #[.agg #[.int .i64 z1, .int .i64 z2], .bool zb]
  f16 : d 16 = true → x43 = .agg #[.int .i64 z1, .int .i64 z2]
  f17 : d 17 = true → x44 = .bool zb
  f18 : d 18 = true → x6 = .pointer (some ⟨ms, 0, none⟩)
  f20 : d 20 = true → x7 = .bool zb
  st0 : d 13 = false → S0 (d 18) ms w
  st1 : d 13 = true → d 14 = false → S1 (d 18) ms g w
  st2 : d 14 = true → d 19 = false → S2 (d 18) ms g u w
  st3 : d 19 = true → S3 (d 18) ms g u w
  mz : d 18 = false → ms = 0
noncomputable def lev2C : Code := (Tryd.f81.body.bind (regionAt 2)).getD .skip
set_option maxRecDepth 100000 in
set_option maxHeartbeats 4000000 in
theorem lev2 {bv : Nat} {b5 : Nat} {x : Int} {y : Int} {tl : Int} {nt : Int} {z1 : Int} {z2 : Int} {zb : Bool} {S0 : Bool → Nat → World → Prop} {S1 : Bool → Nat → Nat → World → Prop} {S2 : Bool → Nat → Nat → Unit → World → Prop} {S3 : Bool → Nat → Nat → Unit → World → Prop} {Q : Exit → Act → World → Prop} {W1 : World} (hneg : IntKind.i64.wrap (-tl) = nt) (h0 : S0 false 0 W1.drew)
    (kl0 : Hid (∀ (fs : Bool) (ms : Nat) (g : Nat) (w : World), (S0 fs ms w ∨ S1 fs ms g w) → w.cell? ⟨b5, 0, none⟩ = some (.int .i64 x) ∧ w.cell? ⟨b5, 1, none⟩ = some (.int .i64 y)))
    (kl5 : Hid (∀ (fs : Bool) (ms : Nat) (w : World), (S0 fs ms w) → w.cell? ⟨bv, 4, none⟩ = some (.int .i64 tl)))
    (kl11 : Hid (∀ (fs : Bool) (ms : Nat) (w : World), (S0 fs ms w) → w.cell? ⟨bv, 4, none⟩ = some (.int .i64 tl)))
    (kc13 : Hid (∀ (fs : Bool) (ms : Nat) (w : World), S0 fs ms w → S1 fs ms w.heap.size (w.alloc (.cells #[.int .i64 nt, .int .i64 tl] 42))))
    (kc14 : Hid (∀ (fs : Bool) (ms : Nat) (g : Nat) (w : World), S1 fs ms g w → Calls Tryd.prog 82 #[.agg #[.int .i64 x, .int .i64 y], .slice (some ⟨g, 0, none⟩) 1 1] w fun e w' => ∃ u : Unit, e = .returned (.tuple #[.agg #[.int .i64 z1, .int .i64 z2], .bool zb]) ∧ S2 fs ms g u w'))
    (ks0 : Hid (∀ (w : World), S0 false 0 w → S0 true w.heap.size (w.alloc (.cells #[.int .i64 0, .int .i64 0] 42))))
    (ks1 : Hid (∀ (g : Nat) (w : World), S1 false 0 g w → S1 true w.heap.size g (w.alloc (.cells #[.int .i64 0, .int .i64 0] 42))))
    (ks2 : Hid (∀ (g : Nat) (u : Unit) (w : World), S2 false 0 g u w → S2 true w.heap.size g u (w.alloc (.cells #[.int .i64 0, .int .i64 0] 42))))
    (kc19 : Hid (∀ (ms : Nat) (g : Nat) (u : Unit) (w : World), S2 true ms g u w → (∃ u, w.cell? ⟨ms, 0, none⟩ = some u) ∧ w.frozen? ⟨ms, 0, none⟩ = false ∧ (∃ u, w.cell? ⟨ms, 1, none⟩ = some u) ∧ w.frozen? ⟨ms, 1, none⟩ = false ∧ S3 true ms g u ((w.setCell ⟨ms, 0, none⟩ (.int .i64 z1)).setCell ⟨ms, 1, none⟩ (.int .i64 z2))))
    {s1 s2 s3 s4 s6 s7 s8 s9 s10 s11 s12 s13 s14 s15 s16 s17 s18 s19 s20 s21 s22 s23 s24 s25 s26 s27 s28 s29 s30 s31 s32 s33 s34 s35 s36 s37 s38 s39 s40 s41 s42 s43 s44 s45 : Value} {dd : List Deferred}
    (hQ : ∀ (ms : Nat) (g : Nat) (u : Unit) (w' : World), S3 true ms g u w' → Q .normal { tmps := #[.pointer (some ⟨bv, 0, none⟩), s1, s2, s3, s4, .pointer (some ⟨b5, 0, none⟩), .pointer (some ⟨ms, 0, none⟩), .bool zb, s8, s9, s10, s11, s12, s13, s14, s15, s16, s17, s18, s19, s20, s21, s22, s23, s24, s25, s26, .tuple #[.agg #[.int .i64 z1, .int .i64 z2], .bool zb], .agg #[.int .i64 x, .int .i64 y], .pointer (some ⟨bv, 0, none⟩), .pointer (some ⟨bv, 0, none⟩), .pointer (some ⟨bv, 0, none⟩), .pointer (some ⟨bv, 4, none⟩), .int .i64 tl, .int .i64 nt, .pointer (some ⟨bv, 0, none⟩), .pointer (some ⟨bv, 0, none⟩), .pointer (some ⟨bv, 0, none⟩), .pointer (some ⟨bv, 4, none⟩), .int .i64 tl, .agg #[.int .i64 nt, .int .i64 tl], .slice (some ⟨g, 0, none⟩) 1 1, .tuple #[.agg #[.int .i64 z1, .int .i64 z2], .bool zb], .agg #[.int .i64 z1, .int .i64 z2], .bool zb, s45], defers := dd } w') :
    Code.wpIn (wideAt none) 0 Tryd.prog lev2C Q { tmps := #[.pointer (some ⟨bv, 0, none⟩), s1, s2, s3, s4, .pointer (some ⟨b5, 0, none⟩), s6, s7, s8, s9, s10, s11, s12, s13, s14, s15, s16, s17, s18, s19, s20, s21, s22, s23, s24, s25, s26, s27, s28, s29, s30, s31, s32, s33, s34, s35, s36, s37, s38, s39, s40, s41, s42, s43, s44, s45], defers := dd } W1 := by
  have HQ := Lib.hid hQ
  clear hQ
  conv => arg 4; whnf
  refine wpIn_region_invG mixed (by kernel_rfl) (fun d_ a_ w' => ∃ (x28 : Value) (x29 : Value) (x30 : Value) (x31 : Value) (x32 : Value) (x33 : Value) (x34 : Value) (x35 : Value) (x36 : Value) (x37 : Value) (x38 : Value) (x39 : Value) (x40 : Value) (x41 : Value) (x42 : Value) (x27 : Value) (x43 : Value) (x44 : Value) (x6 : Value) (x7 : Value) (ms : Nat) (g : Nat) (u : Unit), a_ = { tmps := #[.pointer (some ⟨bv, 0, none⟩), s1, s2, s3, s4, .pointer (some ⟨b5, 0, none⟩), x6, x7, s8, s9, s10, s11, s12, s13, s14, s15, s16, s17, s18, s19, s20, s21, s22, s23, s24, s25, s26, x27, x28, x29, x30, x31, x32, x33, x34, x35, x36, x37, x38, x39, x40, x41, x42, x43, x44, s45], defers := dd } ∧ lev2F bv b5 x y tl nt z1 z2 zb S0 S1 S2 S3 d_ x28 x29 x30 x31 x32 x33 x34 x35 x36 x37 x38 x39 x40 x41 x42 x27 x43 x44 x6 x7 ms g u w') ?_ ?_ ?_
  · refine ⟨s28, s29, s30, s31, s32, s33, s34, s35, s36, s37, s38, s39, s40, s41, s42, s27, s43, s44, s6, s7, 0, 0, default, rfl, ?_⟩
    constructor <;> first | rfl | (intro _; rfl) | (intro h; cases h; done) | (intro _; exact h0) | exact h0
  · refine ⟨?_, ?_, ?_, ?_, ?_, ?_, ?_, ?_, ?_, ?_, ?_, ?_, ?_, ?_, ?_, ?_, ?_, ?_, ?_, ?_, ?_, trivial⟩
    all_goals
      rintro d_ a_ w1 K hd_ hdep ⟨x28, x29, x30, x31, x32, x33, x34, x35, x36, x37, x38, x39, x40, x41, x42, x27, x43, x44, x6, x7, ms, g, u, rfl, F⟩ HK
      simp [Region.binds] at hdep
    · have hst : S0 (d_ 18) ms w1 ∨ S1 (d_ 18) ms g w1 := by
        cases e1 : d_ 13 with
        | false => exact .inl ((F.st0 e1))
        | true =>
          have n_ : d_ 14 = false := by
            cases e_ : d_ 14 with
            | false => rfl
            | true => have h2 := (F.q14 e_).1; rw [show d_ 0 = false from hd_] at h2; cases h2
          exact .inr ((F.st1 e1 n_))
      have kk := kl0.out (d_ 18) ms g w1 hst
      obtain ⟨kk0, kk1⟩ := kk
      clear hst
      have HF : Hid (lev2F bv b5 x y tl nt z1 z2 zb S0 S1 S2 S3 (upd d_ 0) (.agg #[.int .i64 x, .int .i64 y]) x29 x30 x31 x32 x33 x34 x35 x36 x37 x38 x39 x40 x41 x42 x27 x43 x44 x6 x7 ms g u w1) := ⟨F.q2, F.q3, F.q4, F.q5, F.q6, F.q8, F.q9, F.q10, F.q11, F.q12, F.q13, fun h => andM0 (F.q14 h) rfl, F.q15, F.q16, F.q17, fun h => andM0 (F.q19 h) rfl, fun h => andM0 (F.q20 h) rfl, fun _ => rfl, F.f1, F.f2, F.f3, F.f4, F.f5, F.f6, F.f7, F.f8, F.f9, F.f10, F.f11, F.f12, F.f13, F.f14, F.f15, F.f16, F.f17, F.f18, F.f20, F.st0, F.st1, F.st2, F.st3, F.mz⟩
      clear F
      go_simp
      exact HK.out _ _ ⟨_, _, _, _, _, _, _, _, _, _, _, _, _, _, _, _, _, _, _, _, _, _, _, rfl, HF.out⟩
    · have HF : Hid (lev2F bv b5 x y tl nt z1 z2 zb S0 S1 S2 S3 (upd d_ 1) x28 (.pointer (some ⟨bv, 0, none⟩)) x30 x31 x32 x33 x34 x35 x36 x37 x38 x39 x40 x41 x42 x27 x43 x44 x6 x7 ms g u w1) := ⟨fun h => rfl, F.q3, F.q4, F.q5, F.q6, F.q8, F.q9, F.q10, F.q11, F.q12, F.q13, F.q14, F.q15, F.q16, F.q17, fun h => andM1 (F.q19 h) rfl, fun h => andM1 (F.q20 h) rfl, F.f0, fun _ => rfl, F.f2, F.f3, F.f4, F.f5, F.f6, F.f7, F.f8, F.f9, F.f10, F.f11, F.f12, F.f13, F.f14, F.f15, F.f16, F.f17, F.f18, F.f20, F.st0, F.st1, F.st2, F.st3, F.mz⟩
      clear F
      go_simp
      exact HK.out _ _ ⟨_, _, _, _, _, _, _, _, _, _, _, _, _, _, _, _, _, _, _, _, _, _, _, rfl, HF.out⟩
    · obtain rfl := F.f1 (by simp [hdep])
      have HF : Hid (lev2F bv b5 x y tl nt z1 z2 zb S0 S1 S2 S3 (upd d_ 2) x28 (.pointer (some ⟨bv, 0, none⟩)) (.pointer (some ⟨bv, 0, none⟩)) x31 x32 x33 x34 x35 x36 x37 x38 x39 x40 x41 x42 x27 x43 x44 x6 x7 ms g u w1) := ⟨fun _ => (show _ from (by simp [hdep] : d_ 1 = true)), fun h => rfl, F.q4, F.q5, F.q6, F.q8, F.q9, F.q10, F.q11, F.q12, F.q13, F.q14, F.q15, F.q16, F.q17, fun h => andM2 (F.q19 h) rfl, fun h => andM2 (F.q20 h) rfl, F.f0, F.f1, fun _ => rfl, F.f3, F.f4, F.f5, F.f6, F.f7, F.f8, F.f9, F.f10, F.f11, F.f12, F.f13, F.f14, F.f15, F.f16, F.f17, F.f18, F.f20, F.st0, F.st1, F.st2, F.st3, F.mz⟩
      clear F
      go_simp
      exact HK.out _ _ ⟨_, _, _, _, _, _, _, _, _, _, _, _, _, _, _, _, _, _, _, _, _, _, _, rfl, HF.out⟩
    · obtain rfl := F.f2 (by simp [hdep])
      have HF : Hid (lev2F bv b5 x y tl nt z1 z2 zb S0 S1 S2 S3 (upd d_ 3) x28 x29 (.pointer (some ⟨bv, 0, none⟩)) (.pointer (some ⟨bv, 0, none⟩)) x32 x33 x34 x35 x36 x37 x38 x39 x40 x41 x42 x27 x43 x44 x6 x7 ms g u w1) := ⟨F.q2, fun _ => (show _ from (by simp [hdep] : d_ 2 = true)), fun h => rfl, F.q5, F.q6, F.q8, F.q9, F.q10, F.q11, F.q12, F.q13, F.q14, F.q15, F.q16, F.q17, fun h => andM3 (F.q19 h) rfl, fun h => andM3 (F.q20 h) rfl, F.f0, F.f1, F.f2, fun _ => rfl, F.f4, F.f5, F.f6, F.f7, F.f8, F.f9, F.f10, F.f11, F.f12, F.f13, F.f14, F.f15, F.f16, F.f17, F.f18, F.f20, F.st0, F.st1, F.st2, F.st3, F.mz⟩
      clear F
      go_simp
      exact HK.out _ _ ⟨_, _, _, _, _, _, _, _, _, _, _, _, _, _, _, _, _, _, _, _, _, _, _, rfl, HF.out⟩
    · obtain rfl := F.f3 (by simp [hdep])
      have HF : Hid (lev2F bv b5 x y tl nt z1 z2 zb S0 S1 S2 S3 (upd d_ 4) x28 x29 x30 (.pointer (some ⟨bv, 0, none⟩)) (.pointer (some ⟨bv, 4, none⟩)) x33 x34 x35 x36 x37 x38 x39 x40 x41 x42 x27 x43 x44 x6 x7 ms g u w1) := ⟨F.q2, F.q3, fun _ => (show _ from (by simp [hdep] : d_ 3 = true)), fun h => rfl, F.q6, F.q8, F.q9, F.q10, F.q11, F.q12, F.q13, F.q14, F.q15, F.q16, F.q17, fun h => andM4 (F.q19 h) rfl, fun h => andM4 (F.q20 h) rfl, F.f0, F.f1, F.f2, F.f3, fun _ => rfl, F.f5, F.f6, F.f7, F.f8, F.f9, F.f10, F.f11, F.f12, F.f13, F.f14, F.f15, F.f16, F.f17, F.f18, F.f20, F.st0, F.st1, F.st2, F.st3, F.mz⟩
      clear F
      go_simp
      exact HK.out _ _ ⟨_, _, _, _, _, _, _, _, _, _, _, _, _, _, _, _, _, _, _, _, _, _, _, rfl, HF.out⟩
    · have hst : S0 (d_ 18) ms w1 := by
        have n_ : d_ 13 = false := by
          cases e_ : d_ 13 with
          | false => rfl
          | true => have h2 := (F.q6 (F.q12 (F.q13 e_)).1); rw [show d_ 5 = false from hd_] at h2; cases h2
        exact (F.st0 n_)
      have kk := kl5.out (d_ 18) ms w1 hst
      clear hst
      obtain rfl := F.f4 (by simp [hdep])
      have HF : Hid (lev2F bv b5 x y tl nt z1 z2 zb S0 S1 S2 S3 (upd d_ 5) x28 x29 x30 x31 (.pointer (some ⟨bv, 4, none⟩)) (.int .i64 tl) x34 x35 x36 x37 x38 x39 x40 x41 x42 x27 x43 x44 x6 x7 ms g u w1) := ⟨F.q2, F.q3, F.q4, fun _ => (show _ from (by simp [hdep] : d_ 4 = true)), fun h => rfl, F.q8, F.q9, F.q10, F.q11, F.q12, F.q13, F.q14, F.q15, F.q16, F.q17, fun h => andM5 (F.q19 h) rfl, fun h => andM5 (F.q20 h) rfl, F.f0, F.f1, F.f2, F.f3, F.f4, fun _ => rfl, F.f6, F.f7, F.f8, F.f9, F.f10, F.f11, F.f12, F.f13, F.f14, F.f15, F.f16, F.f17, F.f18, F.f20, F.st0, F.st1, F.st2, F.st3, F.mz⟩
      clear F
      go_simp
      exact HK.out _ _ ⟨_, _, _, _, _, _, _, _, _, _, _, _, _, _, _, _, _, _, _, _, _, _, _, rfl, HF.out⟩
    · obtain rfl := F.f5 (by simp [hdep])
      have HF : Hid (lev2F bv b5 x y tl nt z1 z2 zb S0 S1 S2 S3 (upd d_ 6) x28 x29 x30 x31 x32 (.int .i64 tl) (.int .i64 nt) x35 x36 x37 x38 x39 x40 x41 x42 x27 x43 x44 x6 x7 ms g u w1) := ⟨F.q2, F.q3, F.q4, F.q5, fun _ => (show _ from (by simp [hdep] : d_ 5 = true)), F.q8, F.q9, F.q10, F.q11, fun h => andM0 (F.q12 h) rfl, F.q13, F.q14, F.q15, F.q16, F.q17, fun h => andM6 (F.q19 h) rfl, fun h => andM6 (F.q20 h) rfl, F.f0, F.f1, F.f2, F.f3, F.f4, F.f5, fun _ => rfl, F.f7, F.f8, F.f9, F.f10, F.f11, F.f12, F.f13, F.f14, F.f15, F.f16, F.f17, F.f18, F.f20, F.st0, F.st1, F.st2, F.st3, F.mz⟩
      clear F
      go_simp
      exact HK.out _ _ ⟨_, _, _, _, _, _, _, _, _, _, _, _, _, _, _, _, _, _, _, _, _, _, _, rfl, HF.out⟩
    · have HF : Hid (lev2F bv b5 x y tl nt z1 z2 zb S0 S1 S2 S3 (upd d_ 7) x28 x29 x30 x31 x32 x33 x34 (.pointer (some ⟨bv, 0, none⟩)) x36 x37 x38 x39 x40 x41 x42 x27 x43 x44 x6 x7 ms g u w1) := ⟨F.q2, F.q3, F.q4, F.q5, F.q6, fun h => rfl, F.q9, F.q10, F.q11, F.q12, F.q13, F.q14, F.q15, F.q16, F.q17, fun h => andM7 (F.q19 h) rfl, fun h => andM7 (F.q20 h) rfl, F.f0, F.f1, F.f2, F.f3, F.f4, F.f5, F.f6, fun _ => rfl, F.f8, F.f9, F.f10, F.f11, F.f12, F.f13, F.f14, F.f15, F.f16, F.f17, F.f18, F.f20, F.st0, F.st1, F.st2, F.st3, F.mz⟩
      clear F
      go_simp
      exact HK.out _ _ ⟨_, _, _, _, _, _, _, _, _, _, _, _, _, _, _, _, _, _, _, _, _, _, _, rfl, HF.out⟩
    · obtain rfl := F.f7 (by simp [hdep])
      have HF : Hid (lev2F bv b5 x y tl nt z1 z2 zb S0 S1 S2 S3 (upd d_ 8) x28 x29 x30 x31 x32 x33 x34 (.pointer (some ⟨bv, 0, none⟩)) (.pointer (some ⟨bv, 0, none⟩)) x37 x38 x39 x40 x41 x42 x27 x43 x44 x6 x7 ms g u w1) := ⟨F.q2, F.q3, F.q4, F.q5, F.q6, fun _ => (show _ from (by simp [hdep] : d_ 7 = true)), fun h => rfl, F.q10, F.q11, F.q12, F.q13, F.q14, F.q15, F.q16, F.q17, fun h => andM8 (F.q19 h) rfl, fun h => andM8 (F.q20 h) rfl, F.f0, F.f1, F.f2, F.f3, F.f4, F.f5, F.f6, F.f7, fun _ => rfl, F.f9, F.f10, F.f11, F.f12, F.f13, F.f14, F.f15, F.f16, F.f17, F.f18, F.f20, F.st0, F.st1, F.st2, F.st3, F.mz⟩
      clear F
      go_simp
      exact HK.out _ _ ⟨_, _, _, _, _, _, _, _, _, _, _, _, _, _, _, _, _, _, _, _, _, _, _, rfl, HF.out⟩
    · obtain rfl := F.f8 (by simp [hdep])
      have HF : Hid (lev2F bv b5 x y tl nt z1 z2 zb S0 S1 S2 S3 (upd d_ 9) x28 x29 x30 x31 x32 x33 x34 x35 (.pointer (some ⟨bv, 0, none⟩)) (.pointer (some ⟨bv, 0, none⟩)) x38 x39 x40 x41 x42 x27 x43 x44 x6 x7 ms g u w1) := ⟨F.q2, F.q3, F.q4, F.q5, F.q6, F.q8, fun _ => (show _ from (by simp [hdep] : d_ 8 = true)), fun h => rfl, F.q11, F.q12, F.q13, F.q14, F.q15, F.q16, F.q17, fun h => andM9 (F.q19 h) rfl, fun h => andM9 (F.q20 h) rfl, F.f0, F.f1, F.f2, F.f3, F.f4, F.f5, F.f6, F.f7, F.f8, fun _ => rfl, F.f10, F.f11, F.f12, F.f13, F.f14, F.f15, F.f16, F.f17, F.f18, F.f20, F.st0, F.st1, F.st2, F.st3, F.mz⟩
      clear F
      go_simp
      exact HK.out _ _ ⟨_, _, _, _, _, _, _, _, _, _, _, _, _, _, _, _, _, _, _, _, _, _, _, rfl, HF.out⟩
    · obtain rfl := F.f9 (by simp [hdep])
      have HF : Hid (lev2F bv b5 x y tl nt z1 z2 zb S0 S1 S2 S3 (upd d_ 10) x28 x29 x30 x31 x32 x33 x34 x35 x36 (.pointer (some ⟨bv, 0, none⟩)) (.pointer (some ⟨bv, 4, none⟩)) x39 x40 x41 x42 x27 x43 x44 x6 x7 ms g u w1) := ⟨F.q2, F.q3, F.q4, F.q5, F.q6, F.q8, F.q9, fun _ => (show _ from (by simp [hdep] : d_ 9 = true)), fun h => rfl, F.q12, F.q13, F.q14, F.q15, F.q16, F.q17, fun h => andM10 (F.q19 h) rfl, fun h => andM10 (F.q20 h) rfl, F.f0, F.f1, F.f2, F.f3, F.f4, F.f5, F.f6, F.f7, F.f8, F.f9, fun _ => rfl, F.f11, F.f12, F.f13, F.f14, F.f15, F.f16, F.f17, F.f18, F.f20, F.st0, F.st1, F.st2, F.st3, F.mz⟩
      clear F
      go_simp
      exact HK.out _ _ ⟨_, _, _, _, _, _, _, _, _, _, _, _, _, _, _, _, _, _, _, _, _, _, _, rfl, HF.out⟩
    · have hst : S0 (d_ 18) ms w1 := by
        have n_ : d_ 13 = false := by
          cases e_ : d_ 13 with
          | false => rfl
          | true => have h2 := (F.q12 (F.q13 e_)).2; rw [show d_ 11 = false from hd_] at h2; cases h2
        exact (F.st0 n_)
      have kk := kl11.out (d_ 18) ms w1 hst
      clear hst
      obtain rfl := F.f10 (by simp [hdep])
      have HF : Hid (lev2F bv b5 x y tl nt z1 z2 zb S0 S1 S2 S3 (upd d_ 11) x28 x29 x30 x31 x32 x33 x34 x35 x36 x37 (.pointer (some ⟨bv, 4, none⟩)) (.int .i64 tl) x40 x41 x42 x27 x43 x44 x6 x7 ms g u w1) := ⟨F.q2, F.q3, F.q4, F.q5, F.q6, F.q8, F.q9, F.q10, fun _ => (show _ from (by simp [hdep] : d_ 10 = true)), fun h => andL1 (F.q12 h) rfl, F.q13, F.q14, F.q15, F.q16, F.q17, fun h => andM11 (F.q19 h) rfl, fun h => andM11 (F.q20 h) rfl, F.f0, F.f1, F.f2, F.f3, F.f4, F.f5, F.f6, F.f7, F.f8, F.f9, F.f10, fun _ => rfl, F.f12, F.f13, F.f14, F.f15, F.f16, F.f17, F.f18, F.f20, F.st0, F.st1, F.st2, F.st3, F.mz⟩
      clear F
      go_simp
      exact HK.out _ _ ⟨_, _, _, _, _, _, _, _, _, _, _, _, _, _, _, _, _, _, _, _, _, _, _, rfl, HF.out⟩
    · obtain rfl := F.f6 (by simp [hdep])
      obtain rfl := F.f11 (by simp [hdep])
      have HF : Hid (lev2F bv b5 x y tl nt z1 z2 zb S0 S1 S2 S3 (upd d_ 12) x28 x29 x30 x31 x32 x33 (.int .i64 nt) x35 x36 x37 x38 (.int .i64 tl) (.agg #[.int .i64 nt, .int .i64 tl]) x41 x42 x27 x43 x44 x6 x7 ms g u w1) := ⟨F.q2, F.q3, F.q4, F.q5, F.q6, F.q8, F.q9, F.q10, F.q11, fun _ => ⟨(show _ from (by simp [hdep] : d_ 6 = true)), (show _ from (by simp [hdep] : d_ 11 = true))⟩, fun h => rfl, F.q14, F.q15, F.q16, F.q17, fun h => andM12 (F.q19 h) rfl, fun h => andM12 (F.q20 h) rfl, F.f0, F.f1, F.f2, F.f3, F.f4, F.f5, F.f6, F.f7, F.f8, F.f9, F.f10, F.f11, fun _ => rfl, F.f13, F.f14, F.f15, F.f16, F.f17, F.f18, F.f20, F.st0, F.st1, F.st2, F.st3, F.mz⟩
      clear F
      go_simp
      exact HK.out _ _ ⟨_, _, _, _, _, _, _, _, _, _, _, _, _, _, _, _, _, _, _, _, _, _, _, rfl, HF.out⟩
    · have hS := F.st0  hd_
      obtain rfl := F.f12 (by simp [hdep])
      have hres := kc13.out (d_ 18) ms w1 hS
      have HF : Hid (lev2F bv b5 x y tl nt z1 z2 zb S0 S1 S2 S3 (upd d_ 13) x28 x29 x30 x31 x32 x33 x34 x35 x36 x37 x38 x39 (.agg #[.int .i64 nt, .int .i64 tl]) ((.slice (some ⟨w1.heap.size, 0, none⟩) 1 1)) x42 x27 x43 x44 x6 x7 ms w1.heap.size u (w1.alloc (.cells #[.int .i64 nt, .int .i64 tl] 42))) := ⟨F.q2, F.q3, F.q4, F.q5, F.q6, F.q8, F.q9, F.q10, F.q11, F.q12, fun _ => (show _ from (by simp [hdep] : d_ 12 = true)), fun h => andL1 (F.q14 h) rfl, F.q15, F.q16, F.q17, fun h => andM13 (F.q19 h) rfl, fun h => andM13 (F.q20 h) rfl, F.f0, F.f1, F.f2, F.f3, F.f4, F.f5, F.f6, F.f7, F.f8, F.f9, F.f10, F.f11, F.f12, fun _ => rfl, F.f14, F.f15, F.f16, F.f17, F.f18, F.f20, fun h => (by simp [upd] at h), fun _ _ => hres, fun h _ => (by have h2 : d_ 13 = true := (F.q14 h).2; rw [show d_ 13 = false from hd_] at h2; cases h2), fun h => (by have h2 : d_ 13 = true := (F.q19 h).2.2.2.2.2.2.2.2.2.2.2.2.2.1; rw [show d_ 13 = false from hd_] at h2; cases h2), F.mz⟩
      clear F hS hres
      go_simp
      exact HK.out _ _ ⟨_, _, _, _, _, _, _, _, _, _, _, _, _, _, _, _, _, _, _, _, _, _, _, rfl, HF.out⟩
    · have hS := F.st1 (by simp [hdep] : d_ 13 = true) hd_
      obtain rfl := F.f0 (by simp [hdep])
      obtain rfl := F.f13 (by simp [hdep])
      have hc := kc14.out (d_ 18) ms g w1 hS
      have HF := Lib.hid F
      clear F
      go_simp
      refine ⟨trivial, rfl, wideAt_calls (hc.mono ?_)⟩
      rintro e w5 ⟨v_, rfl, hres⟩
      exact HK.out _ _ ⟨_, _, _, _, _, _, _, _, _, _, _, _, _, _, _, _, _, _, _, _, ms, g, v_, rfl, ⟨HF.out.q2, HF.out.q3, HF.out.q4, HF.out.q5, HF.out.q6, HF.out.q8, HF.out.q9, HF.out.q10, HF.out.q11, HF.out.q12, HF.out.q13, fun _ => ⟨(show _ from (by simp [hdep] : d_ 0 = true)), (show _ from (by simp [hdep] : d_ 13 = true))⟩, fun h => rfl, HF.out.q16, HF.out.q17, fun h => ⟨(HF.out.q19 h).1, (HF.out.q19 h).2.1, (HF.out.q19 h).2.2.1, (HF.out.q19 h).2.2.2.1, (HF.out.q19 h).2.2.2.2.1, (HF.out.q19 h).2.2.2.2.2.1, (HF.out.q19 h).2.2.2.2.2.2.1, (HF.out.q19 h).2.2.2.2.2.2.2.1, (HF.out.q19 h).2.2.2.2.2.2.2.2.1, (HF.out.q19 h).2.2.2.2.2.2.2.2.2.1, (HF.out.q19 h).2.2.2.2.2.2.2.2.2.2.1, (HF.out.q19 h).2.2.2.2.2.2.2.2.2.2.2.1, (HF.out.q19 h).2.2.2.2.2.2.2.2.2.2.2.2.1, (HF.out.q19 h).2.2.2.2.2.2.2.2.2.2.2.2.2.1, rfl, (HF.out.q19 h).2.2.2.2.2.2.2.2.2.2.2.2.2.2.2.1, (HF.out.q19 h).2.2.2.2.2.2.2.2.2.2.2.2.2.2.2.2.1, (HF.out.q19 h).2.2.2.2.2.2.2.2.2.2.2.2.2.2.2.2.2⟩, fun h => ⟨(HF.out.q20 h).1, (HF.out.q20 h).2.1, (HF.out.q20 h).2.2.1, (HF.out.q20 h).2.2.2.1, (HF.out.q20 h).2.2.2.2.1, (HF.out.q20 h).2.2.2.2.2.1, (HF.out.q20 h).2.2.2.2.2.2.1, (HF.out.q20 h).2.2.2.2.2.2.2.1, (HF.out.q20 h).2.2.2.2.2.2.2.2.1, (HF.out.q20 h).2.2.2.2.2.2.2.2.2.1, (HF.out.q20 h).2.2.2.2.2.2.2.2.2.2.1, (HF.out.q20 h).2.2.2.2.2.2.2.2.2.2.2.1, (HF.out.q20 h).2.2.2.2.2.2.2.2.2.2.2.2.1, (HF.out.q20 h).2.2.2.2.2.2.2.2.2.2.2.2.2.1, rfl, (HF.out.q20 h).2.2.2.2.2.2.2.2.2.2.2.2.2.2.2.1, (HF.out.q20 h).2.2.2.2.2.2.2.2.2.2.2.2.2.2.2.2.1, (HF.out.q20 h).2.2.2.2.2.2.2.2.2.2.2.2.2.2.2.2.2.1, (HF.out.q20 h).2.2.2.2.2.2.2.2.2.2.2.2.2.2.2.2.2.2.1, (HF.out.q20 h).2.2.2.2.2.2.2.2.2.2.2.2.2.2.2.2.2.2.2⟩, HF.out.f0, HF.out.f1, HF.out.f2, HF.out.f3, HF.out.f4, HF.out.f5, HF.out.f6, HF.out.f7, HF.out.f8, HF.out.f9, HF.out.f10, HF.out.f11, HF.out.f12, HF.out.f13, fun _ => rfl, HF.out.f15, HF.out.f16, HF.out.f17, HF.out.f18, HF.out.f20, fun h => (by have h2 : d_ 13 = false := h; rw [(by simp [hdep] : d_ 13 = true)] at h2; cases h2), fun _ h => (by simp [upd] at h), fun _ _ => hres, fun h => (by have h2 : d_ 14 = true := (HF.out.q19 h).2.2.2.2.2.2.2.2.2.2.2.2.2.2.1; rw [show d_ 14 = false from hd_] at h2; cases h2), HF.out.mz⟩⟩
    · obtain rfl := F.f14 (by simp [hdep])
      have HF : Hid (lev2F bv b5 x y tl nt z1 z2 zb S0 S1 S2 S3 (upd d_ 15) x28 x29 x30 x31 x32 x33 x34 x35 x36 x37 x38 x39 x40 x41 (.tuple #[.agg #[.int .i64 z1, .int .i64 z2], .bool zb]) (.tuple #[.agg #[.int .i64 z1, .int .i64 z2], .bool zb]) x43 x44 x6 x7 ms g u w1) := ⟨F.q2, F.q3, F.q4, F.q5, F.q6, F.q8, F.q9, F.q10, F.q11, F.q12, F.q13, F.q14, fun _ => (show _ from (by simp [hdep] : d_ 14 = true)), fun h => rfl, fun h => rfl, fun h => andM15 (F.q19 h) rfl, fun h => andM15 (F.q20 h) rfl, F.f0, F.f1, F.f2, F.f3, F.f4, F.f5, F.f6, F.f7, F.f8, F.f9, F.f10, F.f11, F.f12, F.f13, F.f14, fun _ => rfl, F.f16, F.f17, F.f18, F.f20, F.st0, F.st1, F.st2, F.st3, F.mz⟩
      clear F
      go_simp
      exact HK.out _ _ ⟨_, _, _, _, _, _, _, _, _, _, _, _, _, _, _, _, _, _, _, _, _, _, _, rfl, HF.out⟩
    · obtain rfl := F.f15 (by simp [hdep])
      have HF : Hid (lev2F bv b5 x y tl nt z1 z2 zb S0 S1 S2 S3 (upd d_ 16) x28 x29 x30 x31 x32 x33 x34 x35 x36 x37 x38 x39 x40 x41 x42 (.tuple #[.agg #[.int .i64 z1, .int .i64 z2], .bool zb]) (.agg #[.int .i64 z1, .int .i64 z2]) x44 x6 x7 ms g u w1) := ⟨F.q2, F.q3, F.q4, F.q5, F.q6, F.q8, F.q9, F.q10, F.q11, F.q12, F.q13, F.q14, F.q15, fun _ => (show _ from (by simp [hdep] : d_ 15 = true)), F.q17, fun h => andM16 (F.q19 h) rfl, fun h => andM16 (F.q20 h) rfl, F.f0, F.f1, F.f2, F.f3, F.f4, F.f5, F.f6, F.f7, F.f8, F.f9, F.f10, F.f11, F.f12, F.f13, F.f14, F.f15, fun _ => rfl, F.f17, F.f18, F.f20, F.st0, F.st1, F.st2, F.st3, F.mz⟩
      clear F
      go_simp
      exact HK.out _ _ ⟨_, _, _, _, _, _, _, _, _, _, _, _, _, _, _, _, _, _, _, _, _, _, _, rfl, HF.out⟩
    · obtain rfl := F.f15 (by simp [hdep])
      have HF : Hid (lev2F bv b5 x y tl nt z1 z2 zb S0 S1 S2 S3 (upd d_ 17) x28 x29 x30 x31 x32 x33 x34 x35 x36 x37 x38 x39 x40 x41 x42 (.tuple #[.agg #[.int .i64 z1, .int .i64 z2], .bool zb]) x43 (.bool zb) x6 x7 ms g u w1) := ⟨F.q2, F.q3, F.q4, F.q5, F.q6, F.q8, F.q9, F.q10, F.q11, F.q12, F.q13, F.q14, F.q15, F.q16, fun _ => (show _ from (by simp [hdep] : d_ 15 = true)), F.q19, fun h => andM17 (F.q20 h) rfl, F.f0, F.f1, F.f2, F.f3, F.f4, F.f5, F.f6, F.f7, F.f8, F.f9, F.f10, F.f11, F.f12, F.f13, F.f14, F.f15, F.f16, fun _ => rfl, F.f18, F.f20, F.st0, F.st1, F.st2, F.st3, F.mz⟩
      clear F
      go_simp
      exact HK.out _ _ ⟨_, _, _, _, _, _, _, _, _, _, _, _, _, _, _, _, _, _, _, _, _, _, _, rfl, HF.out⟩
    · have HF : Hid (lev2F bv b5 x y tl nt z1 z2 zb S0 S1 S2 S3 (upd d_ 18) x28 x29 x30 x31 x32 x33 x34 x35 x36 x37 x38 x39 x40 x41 x42 x27 x43 x44 (.pointer (some ⟨w1.heap.size, 0, none⟩)) x7 w1.heap.size g u (w1.alloc (.cells #[.int .i64 0, .int .i64 0] 42))) := ⟨F.q2, F.q3, F.q4, F.q5, F.q6, F.q8, F.q9, F.q10, F.q11, F.q12, F.q13, F.q14, F.q15, F.q16, F.q17, fun h => andL17 (F.q19 h) rfl, fun h => andM18 (F.q20 h) rfl, F.f0, F.f1, F.f2, F.f3, F.f4, F.f5, F.f6, F.f7, F.f8, F.f9, F.f10, F.f11, F.f12, F.f13, F.f14, F.f15, F.f16, F.f17, fun _ => rfl, F.f20, fun b => ks0.out w1 (by have h := F.st0 b; rw [show d_ 18 = false from hd_, F.mz hd_] at h; exact h), fun a b => ks1.out g w1 (by have h := F.st1 a b; rw [show d_ 18 = false from hd_, F.mz hd_] at h; exact h), fun a b => ks2.out g u w1 (by have h := F.st2 a b; rw [show d_ 18 = false from hd_, F.mz hd_] at h; exact h), fun a => (by have h2 : d_ 18 = true := (F.q19 a).2.2.2.2.2.2.2.2.2.2.2.2.2.2.2.2.2; rw [show d_ 18 = false from hd_] at h2; cases h2), fun h => (by simp [upd] at h)⟩
      clear F
      go_simp
      exact HK.out _ _ ⟨_, _, _, _, _, _, _, _, _, _, _, _, _, _, _, _, _, _, _, _, _, _, _, rfl, HF.out⟩
    · have hS := F.st2 (by simp [hdep] : d_ 14 = true) hd_
      rw [show d_ 18 = true from (by simp [hdep] : d_ 18 = true)] at hS
      obtain rfl := F.f16 (by simp [hdep])
      obtain rfl := F.f18 (by simp [hdep])
      obtain ⟨⟨ku0, kcell0⟩, kfr0, ⟨ku1, kcell1⟩, kfr1, hres⟩ := kc19.out ms g u w1 hS
      have HF : Hid (lev2F bv b5 x y tl nt z1 z2 zb S0 S1 S2 S3 (upd d_ 19) x28 x29 x30 x31 x32 x33 x34 x35 x36 x37 x38 x39 x40 x41 x42 x27 (.agg #[.int .i64 z1, .int .i64 z2]) x44 (.pointer (some ⟨ms, 0, none⟩)) x7 ms g u ((w1.setCell ⟨ms, 0, none⟩ (.int .i64 z1)).setCell ⟨ms, 1, none⟩ (.int .i64 z2))) := ⟨F.q2, F.q3, F.q4, F.q5, F.q6, F.q8, F.q9, F.q10, F.q11, F.q12, F.q13, F.q14, F.q15, F.q16, F.q17, fun _ => ⟨(show _ from (by simp [hdep] : d_ 0 = true)), (show _ from (by simp [hdep] : d_ 1 = true)), (show _ from (by simp [hdep] : d_ 2 = true)), (show _ from (by simp [hdep] : d_ 3 = true)), (show _ from (by simp [hdep] : d_ 4 = true)), (show _ from (by simp [hdep] : d_ 5 = true)), (show _ from (by simp [hdep] : d_ 6 = true)), (show _ from (by simp [hdep] : d_ 7 = true)), (show _ from (by simp [hdep] : d_ 8 = true)), (show _ from (by simp [hdep] : d_ 9 = true)), (show _ from (by simp [hdep] : d_ 10 = true)), (show _ from (by simp [hdep] : d_ 11 = true)), (show _ from (by simp [hdep] : d_ 12 = true)), (show _ from (by simp [hdep] : d_ 13 = true)), (show _ from (by simp [hdep] : d_ 14 = true)), (show _ from (by simp [hdep] : d_ 15 = true)), (show _ from (by simp [hdep] : d_ 16 = true)), (show _ from (by simp [hdep] : d_ 18 = true))⟩, fun h => andL19 (F.q20 h) rfl, F.f0, F.f1, F.f2, F.f3, F.f4, F.f5, F.f6, F.f7, F.f8, F.f9, F.f10, F.f11, F.f12, F.f13, F.f14, F.f15, F.f16, F.f17, F.f18, F.f20, fun h => (by have h2 : d_ 13 = false := h; rw [(by simp [hdep] : d_ 13 = true)] at h2; cases h2), fun _ h => (by have h2 : d_ 14 = false := h; rw [(by simp [hdep] : d_ 14 = true)] at h2; cases h2), fun _ h => (by simp [upd] at h), fun _ => (by rw [show upd d_ 19 18 = true from (by simp [hdep] : d_ 18 = true)]; exact hres), F.mz⟩
      clear F hS hres
      go_simp
      exact HK.out _ _ ⟨_, _, _, _, _, _, _, _, _, _, _, _, _, _, _, _, _, _, _, _, _, _, _, rfl, HF.out⟩
    · obtain rfl := F.f17 (by simp [hdep])
      have HF : Hid (lev2F bv b5 x y tl nt z1 z2 zb S0 S1 S2 S3 (upd d_ 20) x28 x29 x30 x31 x32 x33 x34 x35 x36 x37 x38 x39 x40 x41 x42 x27 x43 (.bool zb) x6 (.bool zb) ms g u w1) := ⟨F.q2, F.q3, F.q4, F.q5, F.q6, F.q8, F.q9, F.q10, F.q11, F.q12, F.q13, F.q14, F.q15, F.q16, F.q17, F.q19, fun _ => ⟨(show _ from (by simp [hdep] : d_ 0 = true)), (show _ from (by simp [hdep] : d_ 1 = true)), (show _ from (by simp [hdep] : d_ 2 = true)), (show _ from (by simp [hdep] : d_ 3 = true)), (show _ from (by simp [hdep] : d_ 4 = true)), (show _ from (by simp [hdep] : d_ 5 = true)), (show _ from (by simp [hdep] : d_ 6 = true)), (show _ from (by simp [hdep] : d_ 7 = true)), (show _ from (by simp [hdep] : d_ 8 = true)), (show _ from (by simp [hdep] : d_ 9 = true)), (show _ from (by simp [hdep] : d_ 10 = true)), (show _ from (by simp [hdep] : d_ 11 = true)), (show _ from (by simp [hdep] : d_ 12 = true)), (show _ from (by simp [hdep] : d_ 13 = true)), (show _ from (by simp [hdep] : d_ 14 = true)), (show _ from (by simp [hdep] : d_ 15 = true)), (show _ from (by simp [hdep] : d_ 16 = true)), (show _ from (by simp [hdep] : d_ 17 = true)), (show _ from (by simp [hdep] : d_ 18 = true)), (show _ from (by simp [hdep] : d_ 19 = true))⟩, F.f0, F.f1, F.f2, F.f3, F.f4, F.f5, F.f6, F.f7, F.f8, F.f9, F.f10, F.f11, F.f12, F.f13, F.f14, F.f15, F.f16, F.f17, F.f18, fun _ => rfl, F.st0, F.st1, F.st2, F.st3, F.mz⟩
      clear F
      go_simp
      exact HK.out _ _ ⟨_, _, _, _, _, _, _, _, _, _, _, _, _, _, _, _, _, _, _, _, _, _, _, rfl, HF.out⟩
  · rintro d_ a_ w1 hall ⟨x28, x29, x30, x31, x32, x33, x34, x35, x36, x37, x38, x39, x40, x41, x42, x27, x43, x44, x6, x7, ms, g, u, rfl, F⟩
    have hall' : ∀ k, k < 21 → d_ k = true := hall
    obtain rfl := F.f0 (hall' 0 (by decide))
    obtain rfl := F.f1 (hall' 1 (by decide))
    obtain rfl := F.f2 (hall' 2 (by decide))
    obtain rfl := F.f3 (hall' 3 (by decide))
    obtain rfl := F.f4 (hall' 4 (by decide))
    obtain rfl := F.f5 (hall' 5 (by decide))
    obtain rfl := F.f6 (hall' 6 (by decide))
    obtain rfl := F.f7 (hall' 7 (by decide))
    obtain rfl := F.f8 (hall' 8 (by decide))
    obtain rfl := F.f9 (hall' 9 (by decide))
    obtain rfl := F.f10 (hall' 10 (by decide))
    obtain rfl := F.f11 (hall' 11 (by decide))
    obtain rfl := F.f12 (hall' 12 (by decide))
    obtain rfl := F.f13 (hall' 13 (by decide))
    obtain rfl := F.f14 (hall' 14 (by decide))
    obtain rfl := F.f15 (hall' 15 (by decide))
    obtain rfl := F.f16 (hall' 16 (by decide))
    obtain rfl := F.f17 (hall' 17 (by decide))
    obtain rfl := F.f18 (hall' 18 (by decide))
    obtain rfl := F.f20 (hall' 20 (by decide))
    have hst := F.st3 (hall' 19 (by decide))
    rw [show d_ 18 = true from hall' 18 (by decide)] at hst
    exact HQ.out ms g u w1 hst
end Go.Proofs.YtbnhngfegnhaiaaDoor
namespace Go.Proofs.YtbnhngfegnhaiaaDoor
open Go.RowKit
set_option linter.unusedVariables false
set_option linter.unusedSimpArgs false
/-- A block of two that may have been laid. -/
def Fresh (W : World) (fs : Bool) (ms : Nat) (v : World) : Prop := fs = true → W.heap.size ≤ ms ∧ v.heap[ms]? = some (.cells #[.int .i64 0, .int .i64 0] 42 (0, 0))
theorem Fresh.no (W v : World) (ms : Nat) : Fresh W false ms v := fun h => by cases h
theorem Fresh.mono {W v v' : World} {fs : Bool} {ms : Nat} (h : Fresh W fs ms v) (hb : Below v.heap.size v v') : Fresh W fs ms v' := fun e => ⟨(h e).1, (hb.block _ (heap_lt (h e).2)).trans (h e).2⟩
theorem Fresh.yes {W v : World} (hv : W.heap.size ≤ v.heap.size) : Fresh W true v.heap.size (v.alloc (.cells #[.int .i64 0, .int .i64 0] 42)) := fun _ => ⟨hv, World.alloc_heap_new _ _⟩
theorem alloc_below (v : World) (o : Obj) : Below v.heap.size v (v.alloc o) := (Below.refl _ v).alloc (Nat.le_refl _) _
theorem Fresh.put {W v : World} {ms : Nat} (h : Fresh W true ms v) (hb : Below W.heap.size W v) (z1 z2 : Value) : (∃ u, v.cell? ⟨ms, 0, none⟩ = some u) ∧ v.frozen? ⟨ms, 0, none⟩ = false ∧ (∃ u, v.cell? ⟨ms, 1, none⟩ = some u) ∧ v.frozen? ⟨ms, 1, none⟩ = false ∧ Below W.heap.size W ((v.setCell ⟨ms, 0, none⟩ z1).setCell ⟨ms, 1, none⟩ z2) ∧ ((v.setCell ⟨ms, 0, none⟩ z1).setCell ⟨ms, 1, none⟩ z2).heap[ms]? = some (.cells #[z1, z2] 42 (0, 0)) := by
  obtain ⟨h1, h2⟩ := h rfl
  exact ⟨⟨_, by rw [cell_of_heap h2]; rfl⟩, frozen_of_heap h2, ⟨_, by rw [cell_of_heap h2]; rfl⟩, frozen_of_heap h2, (hb.setCell (p := ⟨ms, 0, none⟩) h1 _).setCell (p := ⟨ms, 1, none⟩) h1 _, heap_setCell_at (k := 1) (heap_setCell_at (k := 0) h2 z1) z2⟩
set_option maxRecDepth 100000 in
set_option maxHeartbeats 4000000 in
theorem level42 {p : Par} {a : Option Addr} {c bv : Nat} {q : Spn} {t : Thg} (ht : t.Sm) (hp : 0 ≤ p.tilt ∧ p.tilt ≤ 1000) {w : World} (hV : IsView w bv p a c q) : Calls Tryd.prog 81 #[.pointer (some ⟨bv, 0, none⟩), t.v] w fun e w' => e = .returned (.bool (p.level t)) ∧ Below w.heap.size w w' := by
  have HX : Hid ((w.alloc (.cells t.arr 46)).heap[w.heap.size]? = some (.cells t.arr 46 (0, 0)) ∧ Below w.heap.size w (w.alloc (.cells t.arr 46))) := ⟨World.alloc_heap_new w _, alloc_below _ _⟩
  obtain ⟨_, _, ⟨g0, g1⟩, ⟨d0, d1⟩, _, _, ⟨e0, e1⟩, ⟨i0, i1⟩, _⟩ := ht
  have HVW := Lib.hid hV
  clear hV
  have x1 : IntKind.i64.wrap (t.left.y.lo - t.right.y.hi) = t.left.y.lo - t.right.y.hi := IntWalk.i64_in _ (by omega)
  have x2 : IntKind.i64.wrap (t.left.y.hi - t.right.y.lo) = t.left.y.hi - t.right.y.lo := IntWalk.i64_in _ (by omega)
  have HN : Hid (IntKind.i64.wrap (-p.tilt) = -p.tilt) := IntWalk.i64_in _ (by omega)
  clear g0 g1 d0 d1 e0 e1 i0 i1 hp
  go_enter Tryd.func81, Tryd.ntmps81
  refine wp_seq_hid ?_
  intro K0 HK0
  go_wp2_with fail
  refine HK0.out _ _ ?_
  clear HK0 K0
  revert HX
  generalize w.alloc (.cells t.arr 46) = w1
  intro HX
  have k0 : w1.cell? ⟨w.heap.size, 0, none⟩ = some (.int .i64 t.left.x.lo) := by rw [cell_of_heap HX.out.1]; rfl
  have k1 : w1.cell? ⟨w.heap.size, 1, none⟩ = some (.int .i64 t.left.x.hi) := by rw [cell_of_heap HX.out.1]; rfl
  have k2 : w1.cell? ⟨w.heap.size, 2, none⟩ = some (.int .i64 t.left.y.lo) := by rw [cell_of_heap HX.out.1]; rfl
  have k3 : w1.cell? ⟨w.heap.size, 3, none⟩ = some (.int .i64 t.left.y.hi) := by rw [cell_of_heap HX.out.1]; rfl
  have k4 : w1.cell? ⟨w.heap.size, 4, none⟩ = some (.int .i64 t.right.x.lo) := by rw [cell_of_heap HX.out.1]; rfl
  have k5 : w1.cell? ⟨w.heap.size, 5, none⟩ = some (.int .i64 t.right.x.hi) := by rw [cell_of_heap HX.out.1]; rfl
  have k6 : w1.cell? ⟨w.heap.size, 6, none⟩ = some (.int .i64 t.right.y.lo) := by rw [cell_of_heap HX.out.1]; rfl
  have k7 : w1.cell? ⟨w.heap.size, 7, none⟩ = some (.int .i64 t.right.y.hi) := by rw [cell_of_heap HX.out.1]; rfl
  have k8 : w1.cell? ⟨w.heap.size, 8, none⟩ = some (.int .i64 t.far) := by rw [cell_of_heap HX.out.1]; rfl
  have HY : Hid ((w1.alloc (.cells #[.int .i64 (t.left.y.lo - t.right.y.hi), .int .i64 (t.left.y.hi - t.right.y.lo)] 42)).heap[w1.heap.size]? = some (.cells #[.int .i64 (t.left.y.lo - t.right.y.hi), .int .i64 (t.left.y.hi - t.right.y.lo)] 42 (0, 0)) ∧ Below w.heap.size w (w1.alloc (.cells #[.int .i64 (t.left.y.lo - t.right.y.hi), .int .i64 (t.left.y.hi - t.right.y.lo)] 42))) := ⟨World.alloc_heap_new _ _, HX.out.2.trans ((alloc_below _ _).mono HX.out.2.size)⟩
  refine wp_seq_hid ?_
  intro K1 HK1
  go_wp2_with fail
  refine HK1.out _ _ ?_
  clear HK1 K1 k0 k1 k2 k3 k4 k5 k6 k7 k8 x1 x2
  revert HY
  generalize w1.alloc (.cells #[.int .i64 (t.left.y.lo - t.right.y.hi), .int .i64 (t.left.y.hi - t.right.y.lo)] 42) = w2
  generalize w1.heap.size = b5
  intro HY
  refine wp_seq_hid ?_
  intro K2 HK2
  go_upto_region 2 with fail
  have HV2 : Hid (∀ v, Below w2.heap.size w2 v → v.cell? ⟨bv, 4, none⟩ = some (.int .i64 p.tilt) ∧ v.cell? ⟨b5, 0, none⟩ = some (.int .i64 (t.left.y.lo - t.right.y.hi)) ∧ v.cell? ⟨b5, 1, none⟩ = some (.int .i64 (t.left.y.hi - t.right.y.lo))) := fun v hv => by
    have h1 := (HVW.out.mono (HY.out.2.trans (hv.mono HY.out.2.size))).h
    have h2 := (hv.block _ (heap_lt HY.out.1)).trans HY.out.1
    exact ⟨by rw [cell_of_heap h1]; rfl, by rw [cell_of_heap h2]; rfl, by rw [cell_of_heap h2]; rfl⟩
  refine wpIn_wide.1 (lev2 (bv := bv) (b5 := b5) (x := t.left.y.lo - t.right.y.hi) (y := t.left.y.hi - t.right.y.lo) (tl := p.tilt) (nt := -p.tilt) (z1 := ((⟨t.left.y.lo - t.right.y.hi, t.left.y.hi - t.right.y.lo⟩ : Spn).cut ⟨-p.tilt, p.tilt⟩).lo) (z2 := ((⟨t.left.y.lo - t.right.y.hi, t.left.y.hi - t.right.y.lo⟩ : Spn).cut ⟨-p.tilt, p.tilt⟩).hi) (zb := p.level t)
    (S0 := fun fs ms v => Below w2.heap.size w2 v ∧ Fresh w2 fs ms v)
    (S1 := fun fs ms g v => Below w2.heap.size w2 v ∧ Fresh w2 fs ms v ∧ v.heap[g]? = some (.cells #[.int .i64 (-p.tilt), .int .i64 p.tilt] 42 (0, 0)))
    (S2 := fun fs ms g u v => Below w2.heap.size w2 v ∧ Fresh w2 fs ms v)
    (S3 := fun fs ms g u v => Below w2.heap.size w2 v) HN.out ?h0 ?l0 ?l5 ?l11 ?c13 ?c14 ?s0 ?s1 ?s2 ?c19 ?hQ)
  case h0 => exact ⟨(Below.refl _ _).drew, Fresh.no _ _ _⟩
  case l0 =>
    rintro fs ms g v (h | h)
    · exact (HV2.out v h.1).2
    · exact (HV2.out v h.1).2
  case l5 => exact fun fs ms v h => (HV2.out v h.1).1
  case l11 => exact fun fs ms v h => (HV2.out v h.1).1
  case c13 => exact fun fs ms v h => ⟨h.1.alloc h.1.size _, h.2.mono (alloc_below _ _), World.alloc_heap_new _ _⟩
  case c14 =>
    intro fs ms g v h
    refine (narrowed25 (q := ⟨t.left.y.lo - t.right.y.hi, t.left.y.hi - t.right.y.lo⟩) (s := ⟨-p.tilt, p.tilt⟩) (by rw [cell_of_heap h.2.2]; rfl) (by rw [cell_of_heap h.2.2]; rfl)).mono ?_
    rintro e v' ⟨rfl, hb⟩
    exact ⟨(), rfl, h.1.trans (hb.mono h.1.size), h.2.1.mono hb⟩
  case s0 => exact fun v h => ⟨h.1.alloc h.1.size _, Fresh.yes h.1.size⟩
  case s1 => exact fun g v h => ⟨h.1.alloc h.1.size _, Fresh.yes h.1.size, ((alloc_below _ _).block _ (heap_lt h.2.2)).trans h.2.2⟩
  case s2 => exact fun g u v h => ⟨h.1.alloc h.1.size _, Fresh.yes h.1.size⟩
  case c19 =>
    intro ms g u v h
    obtain ⟨h1, h2, h3, h4, h5, _⟩ := h.2.put h.1 (.int .i64 ((⟨t.left.y.lo - t.right.y.hi, t.left.y.hi - t.right.y.lo⟩ : Spn).cut ⟨-p.tilt, p.tilt⟩).lo) (.int .i64 ((⟨t.left.y.lo - t.right.y.hi, t.left.y.hi - t.right.y.lo⟩ : Spn).cut ⟨-p.tilt, p.tilt⟩).hi)
    exact ⟨h1, h2, h3, h4, h5⟩
  intro ms g u w3 h3
  have H3 := Lib.hid h3
  clear h3
  go_wp2_with fail
  refine HK2.out _ _ ?_
  go_wp2_with fail
  go_ret
  exact ⟨rfl, HY.out.2.trans (H3.out.mono HY.out.2.size)⟩
/-- What a thing says of the power. -/
def sayV (p : Par) (t : Thg) : Value := if t.far = 0 then .iface 186 (.agg #[.int .i64 p.near, .int .i64 p.far]) else .iface 184 (.agg #[.int .i64 t.far])
set_option maxRecDepth 100000 in
set_option maxHeartbeats 4000000 in
theorem of43 {p : Par} {a : Option Addr} {c bv : Nat} {q : Spn} {t : Thg} {w : World} (hV : IsView w bv p a c q) : Calls Tryd.prog 83 #[.pointer (some ⟨bv, 0, none⟩), t.v] w fun e w' => e = .returned (sayV p t) ∧ Below w.heap.size w w' := by
  have HX : Hid ((w.alloc (.cells t.arr 46)).heap[w.heap.size]? = some (.cells t.arr 46 (0, 0)) ∧ Below w.heap.size w (w.alloc (.cells t.arr 46))) := ⟨World.alloc_heap_new w _, alloc_below _ _⟩
  have HVW := Lib.hid hV
  clear hV
  go_enter Tryd.func83, Tryd.ntmps83
  refine wp_seq_hid ?_
  intro K0 HK0
  go_wp2_with fail
  refine HK0.out _ _ ?_
  clear HK0 K0
  revert HX
  generalize w.alloc (.cells t.arr 46) = w1
  intro HX
  have k8 : w1.cell? ⟨w.heap.size, 8, none⟩ = some (.int .i64 t.far) := by rw [cell_of_heap HX.out.1]; rfl
  have hv := (HVW.out.mono HX.out.2).h
  have v5 : w1.cell? ⟨bv, 5, none⟩ = some (.int .i64 p.near) := by rw [cell_of_heap hv]; rfl
  have v6 : w1.cell? ⟨bv, 6, none⟩ = some (.int .i64 p.far) := by rw [cell_of_heap hv]; rfl
  have y5 := fun y : Aft w1.heap.size w1 => cell_stays y.h v5
  have y6 := fun y : Aft w1.heap.size w1 => cell_stays y.h v6
  clear hv v5 v6
  unfold sayV
  by_cases hf : t.far = 0
  · rw [if_pos hf]
    have hn : (t.far != 0) = false := by simp [hf]
    have HF := Lib.hid hf
    clear hf
    go_upto_region 3 with fail
    refine wp_region_aft mixed (by kernel_rfl) ?_
    repeat (go_big_quiet_step (fail))
    refine wpQuiet_nil ?_
    rintro _ ⟨y, rfl⟩
    have HY := Lib.hid y.h
    go_wp2_with fail
    go_ret
    exact ⟨rfl, HX.out.2.trans (HY.out.mono HX.out.2.size)⟩
  · rw [if_neg hf]
    have hn : (t.far != 0) = true := by simp [hf]
    have HF := Lib.hid hf
    clear hf
    go_wp2_with fail
    go_ret
    exact ⟨rfl, HX.out.2⟩
end Go.Proofs.YtbnhngfegnhaiaaDoor
namespace Go.Proofs.YtbnhngfegnhaiaaDoor
structure Mrk where
  pos : Spn
  tone : Spn
deriving DecidableEq
structure Rws where
  left : List Mrk
  right : List Mrk
  shift : Spn
  hidden : Int
deriving DecidableEq
def mrk0 : Mrk := ⟨⟨0, 0⟩, ⟨0, 0⟩⟩
/-- The k-th mark. -/
def gm (l : List Mrk) (k : Nat) : Mrk := l.getD k mrk0
def mrkOk (m : Mrk) : Bool := m.pos.ok 0 65536 && m.tone.ok 0 1000
def Rws.valid (r : Rws) : Bool := decide (r.left.length ≤ 10) && decide (r.right.length ≤ 10) && (r.left ++ r.right).all mrkOk && r.shift.ok (-65536) 65536 && inR r.hidden 0 20
/-- What a left mark's place leaves for the right one's. -/
def Rws.away (r : Rws) (m : Mrk) : Spn := ⟨m.pos.lo - r.shift.hi, m.pos.hi - r.shift.lo⟩
def fitM (r : Rws) (a b : Mrk) : Bool := (a.tone.cut b.tone).is && ((r.away a).cut b.pos).is
/-- Do two marks fit? -/
def Rws.fit (r : Rws) (i k : Nat) : Bool := decide (i < r.left.length) && decide (k < r.right.length) && fitM r (gm r.left i) (gm r.right k)
def Rws.need (r : Rws) : Int := ((r.left.length : Int) + r.right.length - r.hidden + 1).tdiv 2
def shiftM (r : Rws) (a b : Mrk) : Spn := (⟨a.pos.lo - b.pos.hi, a.pos.hi - b.pos.lo⟩ : Spn).cut r.shift
/-- The shift of two marks. -/
def Rws.shiftOf (r : Rws) (i k : Nat) : Spn := shiftM r (gm r.left i) (gm r.right k)
/-- A row of the table: the most pairs with so many right marks left. -/
def rowB (F : Nat → Bool) (m : Nat) (prev : Nat → Nat) : Nat → Nat
  | 0 => 0
  | b + 1 => if F (m - (b + 1)) then max (max (prev (b + 1)) (rowB F m prev b)) (1 + prev b) else max (prev (b + 1)) (rowB F m prev b)
/-- The most pairs that there can be with the last so many left marks, and right ones. -/
def mst (F : Nat → Nat → Bool) (n m : Nat) : Nat → Nat → Nat
  | 0 => fun _ => 0
  | a + 1 => rowB (F (n - (a + 1))) m (mst F n m a)
def isE (F : Nat → Nat → Bool) (n m : Nat) (need : Int) : Bool := decide (need ≤ (mst F n m n m : Int))
/-- No pair that crosses two marks, and no other one of them. -/
def apart (i k a b : Nat) : Bool := (decide (a < i) != decide (b < k)) || (decide (a = i) != decide (b = k))
def own (F : Nat → Nat → Bool) (i k a b : Nat) : Bool := F a b && !apart i k a b
def canE (F : Nat → Nat → Bool) (n m : Nat) (need : Int) (i k : Nat) : Bool := F i k && isE (own F i k) n m need
/-- The numbers below a bound of which something is so, as bits. -/
def bitsOf (p : Nat → Bool) : Nat → Nat
  | 0 => 0
  | k + 1 => bitsOf p k ||| (if p k then 2 ^ k else 0)
/-- The least and the greatest of numbers. -/
def endsE (s : Nat → Spn) (p : Nat → Bool) : Nat → Option Spn
  | 0 => none
  | k + 1 => if p k then (match endsE s p k with | none => some (s k) | some q => some ⟨min q.lo (s k).lo, max q.hi (s k).hi⟩) else endsE s p k
/-- All pairs that fit, from two marks on, in their order. -/
def pairsFrom (F : Nat → Nat → Bool) (n m i k : Nat) : List (Nat × Nat) :=
  (List.range' i (n - i)).flatMap fun a => ((List.range' k (m - k)).filter (F a)).map fun b => (a, b)
def cntF (F : Nat → Nat → Bool) (n m : Nat) : Nat → Nat → Nat → Int → Int
  | 0, _, _, d => if d ≤ 0 then 1 else 0
  | f + 1, i, k, d => (if d ≤ 0 then 1 else 0) + ((pairsFrom F n m i k).map fun p => cntF F n m f (p.1 + 1) (p.2 + 1) (max 0 (d - 1))).sum
/-- How many ways there are. -/
def Rws.count (r : Rws) : Int := cntF r.fit r.left.length r.right.length r.left.length 0 0 (max 0 r.need)
def Rws.is (r : Rws) : Bool := isE r.fit r.left.length r.right.length r.need
def Rws.can (r : Rws) (i k : Nat) : Bool := canE r.fit r.left.length r.right.length r.need i k
def shiftE (r : Rws) (i : Nat) : Spn × Int :=
  if r.is then (match endsE (r.shiftOf i) (r.can i) r.right.length with | some q => (q, 0) | none => (⟨0, 0⟩, 4)) else (⟨0, 0⟩, 4)
def mrkE (a b c d : Int) : Mrk := ⟨⟨a, b⟩, ⟨c, d⟩⟩
def rows02 : Rws := ⟨[mrkE 100 102 10 12, mrkE 200 202 50 55, mrkE 300 301 10 13], [mrkE 90 92 11 12, mrkE 185 190 52 60, mrkE 280 282 9 10, mrkE 292 294 12 14], ⟨5, 20⟩, 1⟩
theorem rows02_valid : rows02.valid = true := by decide
theorem rows02_count : rows02.count = 2 := by decide +kernel
theorem rows02_shift : shiftE rows02 0 = (⟨8, 12⟩, 0) := by decide +kernel
end Go.Proofs.YtbnhngfegnhaiaaDoor
namespace Go.Proofs.YtbnhngfegnhaiaaDoor
open Go.RowKit
set_option linter.unusedVariables false
set_option linter.unusedSimpArgs false
abbrev Mrk.arr (m : Mrk) : Array Value := #[.int .i64 m.pos.lo, .int .i64 m.pos.hi, .int .i64 m.tone.lo, .int .i64 m.tone.hi]
abbrev Mrk.v (m : Mrk) : Value := .agg m.arr
def Mrk.cells (m : Mrk) : List Value := [.int .i64 m.pos.lo, .int .i64 m.pos.hi, .int .i64 m.tone.lo, .int .i64 m.tone.hi]
/-- A mark's cells from an address on. -/
structure MrkC (w : World) (b o : Nat) (m : Mrk) : Prop where
  c0 : w.cell? ⟨b, o, none⟩ = some (.int .i64 m.pos.lo)
  c1 : w.cell? ⟨b, o + 1, none⟩ = some (.int .i64 m.pos.hi)
  c2 : w.cell? ⟨b, o + 2, none⟩ = some (.int .i64 m.tone.lo)
  c3 : w.cell? ⟨b, o + 3, none⟩ = some (.int .i64 m.tone.hi)
theorem MrkC.mono {w w' : World} {b o : Nat} {m : Mrk} (h : MrkC w b o m) (hb : Below w.heap.size w w') : MrkC w' b o m :=
  ⟨cell_stays hb h.c0, cell_stays hb h.c1, cell_stays hb h.c2, cell_stays hb h.c3⟩
def IsMks (w : World) (a : Option Addr) (l : List Mrk) : Prop := ∀ i, i < l.length → ∃ b off, a = some ⟨b, off, none⟩ ∧ MrkC w b (off + i * 4) (gm l i)
theorem IsMks.mono {w w' : World} {a : Option Addr} {l : List Mrk} (h : IsMks w a l) (hb : Below w.heap.size w w') : IsMks w' a l := fun i hi => by
  obtain ⟨b, off, e, hc⟩ := h i hi
  exact ⟨b, off, e, hc.mono hb⟩
theorem gm_mem {l : List Mrk} {k : Nat} (h : k < l.length) : gm l k ∈ l := by simp [gm, h]
abbrev Rws.arr (r : Rws) (al : Option Addr) (cl : Nat) (ar : Option Addr) (cr : Nat) : Array Value := #[.slice al r.left.length cl, .slice ar r.right.length cr, .int .i64 r.shift.lo, .int .i64 r.shift.hi, .int .i64 r.hidden]
abbrev Rws.v (r : Rws) (al : Option Addr) (cl : Nat) (ar : Option Addr) (cr : Nat) : Value := .agg (r.arr al cl ar cr)
/-- What valid rows' numbers are. -/
structure Rws.Nums (r : Rws) : Prop where
  l1 : r.left.length ≤ 10
  l2 : r.right.length ≤ 10
  s1 : -65536 ≤ r.shift.lo
  s2 : r.shift.lo ≤ r.shift.hi
  s3 : r.shift.hi ≤ 65536
  h1 : 0 ≤ r.hidden
  h2 : r.hidden ≤ 20
  lm : ∀ m ∈ r.left, mrkOk m = true
  rm : ∀ m ∈ r.right, mrkOk m = true
theorem rnums_of {r : Rws} (h : r.valid = true) : r.Nums := by
  unfold Rws.valid at h
  simp only [Bool.and_eq_true, inR, Spn.ok, decide_eq_true_eq, List.all_eq_true, List.mem_append] at h
  obtain ⟨⟨⟨⟨a, b⟩, c⟩, d⟩, e⟩ := h
  exact ⟨a, b, by omega, by omega, by omega, by omega, by omega, fun m hm => c m (.inl hm), fun m hm => c m (.inr hm)⟩
/-- Numbers of whatever mark are small. -/
structure Mrk.Sm (m : Mrk) : Prop where
  a : 0 ≤ m.pos.lo ∧ m.pos.lo ≤ 65536
  b : 0 ≤ m.pos.hi ∧ m.pos.hi ≤ 65536
  c : 0 ≤ m.tone.lo ∧ m.tone.lo ≤ 1000
  d : 0 ≤ m.tone.hi ∧ m.tone.hi ≤ 1000
  e : m.pos.lo ≤ m.pos.hi
  f : m.tone.lo ≤ m.tone.hi
theorem mrk_small {m : Mrk} (h : mrkOk m = true) : m.Sm := by
  unfold mrkOk Spn.ok at h
  simp only [Bool.and_eq_true, decide_eq_true_eq] at h
  constructor <;> omega
set_option maxRecDepth 100000 in
set_option maxHeartbeats 2000000 in
theorem bad59 {m : Mrk} (h : mrkOk m = true) (w : World) : Calls Tryd.prog 89 #[m.v] w fun e w' => e = .returned (.bool false) ∧ Below w.heap.size w w' := by
  have HX := Lib.hid (And.intro (World.alloc_heap_new w (.cells m.arr 30)) (alloc_below w (.cells m.arr 30)))
  have HM : Hid (m.pos.ok 0 65536 = true ∧ m.tone.ok 0 1000 = true) := by
    unfold mrkOk at h
    simp only [Bool.and_eq_true] at h
    exact h
  clear h
  go_enter Tryd.func89, Tryd.ntmps89
  refine wp_seq_hid ?_
  intro K0 HK0
  go_wp2_with fail
  refine HK0.out _ _ ?_
  clear HK0 K0
  revert HX
  generalize w.alloc (.cells m.arr 30) = w1
  intro HX
  have k0 : w1.cell? ⟨w.heap.size, 0, none⟩ = some (.int .i64 m.pos.lo) := by rw [cell_of_heap HX.out.1]; rfl
  have k1 : w1.cell? ⟨w.heap.size, 1, none⟩ = some (.int .i64 m.pos.hi) := by rw [cell_of_heap HX.out.1]; rfl
  go_wp2_with fail
  refine (isSpan60 m.pos _ _ _).mono ?_
  clear k0 k1
  rintro e w2 ⟨rfl, hb⟩
  rw [HM.out.1]
  have HB := Lib.hid (And.intro (HX.out.2.trans (hb.mono HX.out.2.size)) ((hb.block _ (heap_lt HX.out.1)).trans HX.out.1))
  clear hb
  have k2 : w2.cell? ⟨w.heap.size, 2, none⟩ = some (.int .i64 m.tone.lo) := by rw [cell_of_heap HB.out.2]; rfl
  have k3 : w2.cell? ⟨w.heap.size, 3, none⟩ = some (.int .i64 m.tone.hi) := by rw [cell_of_heap HB.out.2]; rfl
  go_wp2_with fail
  refine (isSpan60 m.tone _ _ _).mono ?_
  clear k2 k3
  rintro e w3 ⟨rfl, hb⟩
  rw [HM.out.2]
  have HC := Lib.hid (HB.out.1.trans (hb.mono HB.out.1.size))
  clear hb
  go_wp2_with fail
  go_ret
  exact ⟨rfl, HC.out⟩
theorem cf59 (args : Array Value) (w : World) : (callFunc 89 args).run Tryd.prog w = .ok (.enter 89 args) w := by simp [callFunc, Tryd.func89, Tryd.f89, go_sem]
theorem index78 {l : List Mrk} {a : Option Addr} {c : Nat} {w : World} (ha : IsMks w a l) (hl : l.length ≤ 1000000) (hm : ∀ m ∈ l, mrkOk m = true) :
    Calls Tryd.prog 108 #[.slice a l.length c, .func (.func 89) #[] #[]] w fun e w' => e = .returned (.int .i64 (-1)) ∧ Below w.heap.size w w' := by
  have HB := Lib.hid (And.intro ha hm)
  have cf := cf59
  clear ha hm
  go_enter Tryd.func108, Tryd.ntmps108
  go_wp2_with fail
  go_loopw [8] (fun i wr => ∃ k : Nat, k ≤ l.length ∧ i = .int .i64 k ∧ Hid (Below w.heap.size w wr)) (fun i _ => l.length - (intOf i).toNat)
  case atStart => exact ⟨0, by omega, rfl, Below.refl _ _⟩
  case round =>
    obtain ⟨k, hk, rfl, HW⟩ := hrel
    by_cases hlt : k < l.length
    · obtain ⟨b, off, hab, c0, c1, c2, c3⟩ := (HB.out.1.mono HW.out) k hlt
      subst hab
      have HC := Lib.hid (fun v => bad59 (m := gm l k) (HB.out.2 _ (gm_mem hlt)) v)
      revert HC c0 c1 c2 c3
      generalize gm l k = x
      intro c0 c1 c2 c3 HC
      go_wp2_with fail
      refine (HC.out _).mono ?_
      rintro e w' ⟨rfl, hb⟩
      have HB2 := Lib.hid (HW.out.trans (hb.mono HW.out.size))
      clear hb c0 c1 c2 c3
      go_wp2_with fail
      go_roundw
      case rel => exact ⟨k + 1, by omega, by go_num, HB2.out⟩
      case measure => simp [intOf]; omega
    · go_wp2_with fail
      go_ret
      exact ⟨rfl, HW.out⟩
theorem has61 {l : List Mrk} {a : Option Addr} {c : Nat} {w : World} (ha : IsMks w a l) (hl : l.length ≤ 1000000) (hm : ∀ m ∈ l, mrkOk m = true) :
    Calls Tryd.prog 91 #[.slice a l.length c, .func (.func 89) #[] #[]] w fun e w' => e = .returned (.bool false) ∧ Below w.heap.size w w' := by
  have HC := Lib.hid (index78 (c := c) ha hl hm)
  clear ha hm
  go_enter Tryd.func91, Tryd.ntmps91
  go_wp2_with fail
  refine HC.out.mono ?_
  rintro e w' ⟨rfl, hb⟩
  have HB2 := Lib.hid hb
  clear hb
  go_wp2_with fail
  go_ret
  exact ⟨rfl, HB2.out⟩
end Go.Proofs.YtbnhngfegnhaiaaDoor
namespace Go.Proofs.YtbnhngfegnhaiaaDoor
open Go.RowKit Go.WideShapes Go.ChangeShapes
section
variable {H : Type} {enc : TypeId × Value → H} {P : Program}
theorem post_of_below {f : Func} {s : ChangeSpec} {apart fresh handsOn again : Bool} {W W' : World} {args : Array Value} {v : Value} {ds gs : List (DataW H)} {before pa pv : List MemPlace}
    (hW : DataW.Whole enc P f.params.toList s.vars apart W args.toList ds gs before)
    (hres : ∀ (b : Nat) (sp : Nat → Bool) (hd : Bool), DataW.TrodAll enc P W' b sp hd f.resultTypes.toList (v.resultList f.resultTypes.size) (s.fn H (ds ++ gs)).results [])
    (hargs : ∀ sp : Nat → Bool, (∀ p ∈ before, sp p.block = true) → DataW.TrodAll enc P W' 0 sp true f.params.toList args.toList (s.fn H (ds ++ gs)).args pa)
    (hvars : ∀ sp : Nat → Bool, (∀ p ∈ before, sp p.block = true) → DataW.TrodVars enc P W' sp s.vars (s.fn H (ds ++ gs)).vars pv)
    (hps : before = pa ++ pv) (hb : Below W.heap.size W W')
    (hok : ∀ (j : Nat) (t : TypeId) (r : Value), f.resultTypes[j]? = some t → (v.resultList f.resultTypes.size)[j]? = some r → Value.okWide P W' .any 0 t r) :
    s.post enc P f apart fresh handsOn again W args v W' := by
  have hlt : ∀ p ∈ before, p.block < W.heap.size := fun p hp => hW.lt p hp
  have hold : ∀ p ∈ before, (fun b => decide (b < W.heap.size)) p.block = true := fun p hp => by simpa using hlt p hp
  refine ⟨ds, gs, before, [], pa, pv, hW, hres _ _ _, hargs _ hold, hvars _ hold, World.keptBut_mono (fun p hp => ⟨hp, ?_⟩) (hb.frame (· ∈ before)), fun _ => ?_⟩
  · rw [hps, List.mem_append] at hp
    exact Or.inr hp
  · obtain ⟨_, _, _, _, _, hz, hn⟩ := hW
    refine ⟨hok, _, _, ([] ++ pa) ++ pv, ⟨[] ++ pa, pv, trodAll_append (hargs _ (fun _ _ => rfl)) (hres _ _ _), hvars _ (fun _ _ => rfl), rfl, ?_, ?_⟩, ?_⟩
    · intro b off hp
      have hin : MemPlace.cell b off ∈ before := by rw [hps]; simpa using hp
      rw [hb.frozen (hlt _ hin)]
      exact hz b off hin
    · intro ha
      have := hn ha
      rw [hps] at this
      simpa using this
    · intro p hp _
      rw [hps]
      simpa using hp
end
end Go.Proofs.YtbnhngfegnhaiaaDoor
namespace Go.Proofs.YtbnhngfegnhaiaaDoor
open Go.ChangeShapes Go.WideShapes Go.ChangeAt Go.Deep Go.RowKit Go.Joins
set_option linter.unusedVariables false
theorem Tryd.laidOut : laidOutB Tryd.prog = true := by kernel_rfl
theorem Tryd.cells3 : Tryd.prog.cellsOf 3 = 1 := by kernel_rfl
theorem Tryd.cells24 : Tryd.prog.cellsOf 24 = 2 := by kernel_rfl
theorem Tryd.cells22 : Tryd.prog.cellsOf 22 = 1 := by kernel_rfl
theorem Tryd.cells26 : Tryd.prog.cellsOf 26 = 5 := by kernel_rfl
theorem Tryd.cells30 : Tryd.prog.cellsOf 30 = 4 := by kernel_rfl
theorem add_at (b o i : Nat) : (⟨b, o, none⟩ : Addr).add i = ⟨b, o + i, none⟩ := by
  unfold Addr.add
  split
  · rename_i h; subst h; rfl
  · rfl
theorem spotless {w : World} {a : Addr} {v : Value} (h : w.cell? a = some v) : a = ⟨a.block, a.off, none⟩ := by
  obtain ⟨b, o, s⟩ := a
  cases s with
  | none => rfl
  | some s =>
    exfalso
    simp only [World.cell?] at h
    split at h <;> simp at h
theorem add_zero' (a : Addr) : a.add 0 = a := rfl
section
variable {H : Type} {enc : TypeId × Value → H} {w : World} {base : Nat} {spare : Nat → Bool} {held : Bool}
set_option maxRecDepth 100000 in
theorem trod_c1 {t : TypeId} {fuel : Nat} {cs : List Value} {x : DataW H × List MemPlace} (ht : Tryd.prog.underlying t = some (.int .i64)) (h : DataW.trod enc Tryd.prog w base spare held fuel t cs = some x) :
    ∃ n, cs = [.int .i64 n] := by
  obtain ⟨n, h1, _, h3⟩ := DataW.trod_int ht h
  exact ⟨n, h1⟩
theorem spotted {t m len : Nat} {a : Addr} {D : Nat → DataW H} {Pl : Nat → List MemPlace} {n : Nat} (hc0 : 0 < Tryd.prog.cellsOf t) (hle : len ≤ m)
    (hi : ∀ i, i < m → ∃ cs', w.cells? base (a.add (i * Tryd.prog.cellsOf t)) (Tryd.prog.cellsOf t) = some cs' ∧ DataW.trod enc Tryd.prog w base spare held n t cs' = some (D i, Pl i)) (h : 0 < len) : a = ⟨a.block, a.off, none⟩ := by
  obtain ⟨cs, hc, hd⟩ := hi 0 (by omega)
  obtain ⟨_, hcl, hat⟩ := World.cells?_some hc
  have h0 := hat 0 hc0
  rw [Nat.zero_mul, add_zero', add_zero'] at h0
  have : ∃ v, w.cell? a = some v := by
    cases cs with
    | nil => simp at hcl; omega
    | cons x r => exact ⟨x, h0⟩
  obtain ⟨v, hv⟩ := this
  exact spotless hv
set_option maxRecDepth 100000 in
theorem trod_span {fuel : Nat} {cs : List Value} {x : DataW H × List MemPlace} (h : DataW.trod enc Tryd.prog w base spare held fuel 24 cs = some x) :
    ∃ q : Spn, cs = [.int .i64 q.lo, .int .i64 q.hi] := by
  obtain ⟨xs, n, _, _, hl, hx, hf⟩ := DataW.trod_struct Tryd.underlying24 h
  rw [Tryd.cells24] at hl
  have hx : xs.length = 2 := hx
  match cs, hl, xs, hx with
  | [c0, c1], _, [x0, x1], _ =>
    have f0 : DataW.trod enc Tryd.prog w base spare held n 3 (([c0, c1].drop 0).take (Tryd.prog.cellsOf 3)) = some x0 := hf 0 _ rfl
    have f1 : DataW.trod enc Tryd.prog w base spare held n 3 (([c0, c1].drop 1).take (Tryd.prog.cellsOf 3)) = some x1 := hf 1 _ rfl
    rw [Tryd.cells3] at f0
    rw [Tryd.cells3] at f1
    obtain ⟨a, h0⟩ := trod_c1 Tryd.underlying3 f0
    obtain ⟨b, h1⟩ := trod_c1 Tryd.underlying3 f1
    simp only [List.drop_succ_cons, List.drop_zero, List.take_succ_cons, List.take_zero, List.cons.injEq, and_true] at h0 h1
    exact ⟨⟨a, b⟩, by rw [h0, h1]⟩
set_option maxRecDepth 100000 in
theorem trod_mrk {fuel : Nat} {cs : List Value} {x : DataW H × List MemPlace} (h : DataW.trod enc Tryd.prog w base spare held fuel 30 cs = some x) :
    ∃ m : Mrk, cs = [.int .i64 m.pos.lo, .int .i64 m.pos.hi, .int .i64 m.tone.lo, .int .i64 m.tone.hi] := by
  obtain ⟨xs, n, _, _, hl, hx, hf⟩ := DataW.trod_struct Tryd.underlying30 h
  rw [Tryd.cells30] at hl
  have hx : xs.length = 2 := hx
  match cs, hl, xs, hx with
  | [c0, c1, c2, c3], _, [x0, x1], _ =>
    have f0 : DataW.trod enc Tryd.prog w base spare held n 24 (([c0, c1, c2, c3].drop 0).take (Tryd.prog.cellsOf 24)) = some x0 := hf 0 _ rfl
    have f1 : DataW.trod enc Tryd.prog w base spare held n 24 (([c0, c1, c2, c3].drop 2).take (Tryd.prog.cellsOf 24)) = some x1 := hf 1 _ rfl
    rw [Tryd.cells24] at f0
    rw [Tryd.cells24] at f1
    obtain ⟨x, h0⟩ := trod_span f0
    obtain ⟨y, h1⟩ := trod_span f1
    simp only [List.drop_succ_cons, List.drop_zero, List.take_succ_cons, List.take_zero, List.cons.injEq, and_true] at h0 h1
    obtain ⟨e0, e1⟩ := h0
    obtain ⟨e2, e3⟩ := h1
    exact ⟨⟨x, y⟩, by rw [e0, e1, e2, e3]⟩
set_option maxRecDepth 100000 in
theorem open_mksL {fuel : Nat} {v : Value} {x : DataW H × List MemPlace} (h : DataW.trod enc Tryd.prog w base spare held fuel 22 [v] = some x) :
    ∃ (a : Option Addr) (l : List Mrk) (cap : Nat), v = .slice a l.length cap ∧ IsMks w a l := by
  rcases open_slice Tryd.underlying22 h with ⟨h1, _⟩ | ⟨a, len, cap, m, n, D, Pl, h1, _, hl, hm, hmm, _, hi⟩
  · simp only [List.cons.injEq, and_true] at h1
    exact ⟨none, [], 0, h1, fun i hi => by simp at hi⟩
  · simp only [List.cons.injEq, and_true] at h1
    have hle : len ≤ m := by rw [hmm]; split <;> omega
    have hs := spotted (by rw [Tryd.cells30]; decide) hle hi
    have each : ∀ i, ∃ m : Mrk, i < len → a = ⟨a.block, a.off, none⟩ ∧ MrkC w a.block (a.off + i * 4) m := by
      intro i
      by_cases hil : i < len
      · have hs := hs (by omega)
        obtain ⟨cs, hc, hd⟩ := hi i (by omega)
        rw [Tryd.cells30] at hc
        obtain ⟨_, hcl, hat⟩ := World.cells?_some hc
        obtain ⟨m, rfl⟩ := trod_mrk hd
        have hh : ∀ k (hk : k < 4), w.cell? ⟨a.block, a.off + i * 4 + k, none⟩ = some ([.int .i64 m.pos.lo, .int .i64 m.pos.hi, .int .i64 m.tone.lo, .int .i64 m.tone.hi][k]'hk) := fun k hk => by
          have h0 := hat k hk
          rw [hs, add_at, add_at] at h0
          rw [h0]
          exact List.getElem?_eq_getElem hk
        exact ⟨m, fun _ => ⟨hs, hh 0 (by decide), hh 1 (by decide), hh 2 (by decide), hh 3 (by decide)⟩⟩
      · exact ⟨mrk0, fun h => absurd h hil⟩
    obtain ⟨f, hf⟩ := Classical.axiomOfChoice each
    refine ⟨some a, (List.range len).map f, cap, by rw [h1]; simp, fun i hi => ?_⟩
    have hi' : i < len := by simpa using hi
    obtain ⟨hs, h0⟩ := hf i hi'
    refine ⟨a.block, a.off, by rw [← hs], ?_⟩
    have : gm ((List.range len).map f) i = f i := by simp [gm, hi']
    rw [this]
    exact h0
set_option maxRecDepth 100000 in
theorem open_rws {b0 : Nat} {v : Value} {d : DataW H} {q : List MemPlace} (hv : Value.okWide Tryd.prog w .any b0 26 v) (h : DataW.Trod enc Tryd.prog w base spare held 26 v d q) :
    ∃ (r : Rws) (al : Option Addr) (cl : Nat) (ar : Option Addr) (cr : Nat), v = r.v al cl ar cr ∧ IsMks w al r.left ∧ IsMks w ar r.right := by
  obtain ⟨cs, rfl, hsz⟩ := okWide_struct Tryd.underlying26 hv
  rw [Tryd.cells26] at hsz
  obtain ⟨fuel, hf⟩ := h
  obtain ⟨xs, n, _, _, hl, hx, hf⟩ := DataW.trod_struct Tryd.underlying26 hf
  have hx : xs.length = 4 := hx
  obtain ⟨l⟩ := cs
  have hsz : l.length = 5 := hsz
  match l, hsz, xs, hx with
  | [c0, c1, c2, c3, c4], _, [x0, x1, x2, x3], _ =>
    have f0 : DataW.trod enc Tryd.prog w base spare held n 22 (([c0, c1, c2, c3, c4].drop 0).take (Tryd.prog.cellsOf 22)) = some x0 := hf 0 _ rfl
    have f1 : DataW.trod enc Tryd.prog w base spare held n 22 (([c0, c1, c2, c3, c4].drop 1).take (Tryd.prog.cellsOf 22)) = some x1 := hf 1 _ rfl
    have f2 : DataW.trod enc Tryd.prog w base spare held n 24 (([c0, c1, c2, c3, c4].drop 2).take (Tryd.prog.cellsOf 24)) = some x2 := hf 2 _ rfl
    have f3 : DataW.trod enc Tryd.prog w base spare held n 3 (([c0, c1, c2, c3, c4].drop 4).take (Tryd.prog.cellsOf 3)) = some x3 := hf 3 _ rfl
    rw [Tryd.cells22] at f0
    rw [Tryd.cells22] at f1
    rw [Tryd.cells24] at f2
    rw [Tryd.cells3] at f3
    obtain ⟨al, l, cl, h0, hml⟩ := open_mksL f0
    obtain ⟨ar, rr, cr, h1, hmr⟩ := open_mksL f1
    obtain ⟨sh, h2⟩ := trod_span f2
    obtain ⟨hd, h3⟩ := trod_c1 Tryd.underlying3 f3
    simp only [List.drop_succ_cons, List.drop_zero, List.take_succ_cons, List.take_zero, List.cons.injEq, and_true] at h0 h1 h2 h3
    subst h0 h1 h3
    obtain ⟨rfl, rfl⟩ := h2
    exact ⟨⟨l, rr, sh, hd⟩, al, cl, ar, cr, rfl, hml, hmr⟩
end
end Go.Proofs.YtbnhngfegnhaiaaDoor
namespace Go.Proofs.YtbnhngfegnhaiaaDoor
open Go.RowKit
set_option linter.unusedVariables false
set_option linter.unusedSimpArgs false
theorem info_parts {e : TypeId} {z : Value} {s b : Nat} (h : (Tryd.prog.info? e).map (fun i => (i.zero, i.size, i.bytes)) = some (some z, s, b)) : ∃ i, Tryd.prog.info? e = some i ∧ i.zero = some z ∧ i.size = s ∧ i.bytes = b := by
  cases hi : Tryd.prog.info? e with
  | none => rw [hi] at h; cases h
  | some i =>
    rw [hi] at h
    simp only [Option.map_some, Option.some.injEq, Prod.mk.injEq] at h
    exact ⟨i, rfl, h.1, h.2.1, h.2.2⟩
theorem infoM : (Tryd.prog.info? 30).map (fun i => (i.zero, i.size, i.bytes)) = some (some (.agg #[.int .i64 0, .int .i64 0, .int .i64 0, .int .i64 0]), 4, 32) := by kernel_rfl
theorem wpList_append_run2 {P : Program} {w : World} {ops : Array Oper} {rest : List Oper} {o : Oper} {a : Act} {Q : Exit → Act → World → Prop} (hgd : o.guard = none) (s x : Operand) (t u : TypeId)
    (ho : o.op = .call { callee := .builtin .append, args := #[s, x], argTypes := #[t, u] }) (v xv v' : Value) (w' : World) (hs : a.eval s = v) (hx : a.eval x = xv)
    (hr : (Builtin.append_ #[t, u] o.type #[v, xv]).run P w = .ok v' w') (h : wpList P ops Q rest (a.put o.dst v') w') : wpList P ops Q (o :: rest) a w := by
  refine wpList_plain hgd fun K hK => ?_
  unfold Oper.wp execOp
  simp only [ho, resolve, invoke, builtin, Sem.run_bind, Sem.run_pure, Result.andThen_ok, List.map_toArray, List.map_cons, List.map_nil, hs, hx, hr]
  exact hK _ _ h
set_option maxRecDepth 100000 in
set_option maxHeartbeats 2000000 in
theorem grow79 {n : Nat} (hn : n ≤ 1000) (w : World) : Calls Tryd.prog 109 #[.slice none 0 0, .int .i64 n] w fun e w' => ∃ v, e = .returned v ∧ w'.ownsRow w.heap.size 30 4 v 0 [] ∧ Below w.heap.size w w' := by
  by_cases h0 : n = 0
  · subst h0
    go_enter Tryd.func109, Tryd.ntmps109
    go_wp2_with fail
    go_ret
    exact ⟨_, rfl, ⟨rfl, .inl ⟨rfl, rfl⟩⟩, Below.refl _ _⟩
  · obtain ⟨i0, hi0, hz0, hz1, hz2⟩ := info_parts infoM
    have hr := Lib.run_append_nil_zeros (P := Tryd.prog) w 22 3 22 30 i0 _ .i64 .i64 Tryd.underlying22 Tryd.underlying3 hi0 hz0 n (by omega) (by omega) (by omega) (by rw [hz2]; omega)
    have HR := Lib.hid hr
    have hpos : 0 < n := by omega
    have HG := Lib.hid (And.intro (grownCap_ge w n 0 30) (grownCap_le_maxLen w n 0 30 (by unfold maxLen; omega)))
    clear hr hz1 hz2 hi0 hz0 h0
    revert HR HG
    generalize grownCap w n 0 30 = cap
    intro HR HG
    have hcp : n ≤ cap := HG.out.1
    go_enter Tryd.func109, Tryd.ntmps109
    go_wp2_with (at_builtin; refine wpList_append_run2 rfl (.tmp 20) (.tmp 21) 22 3 rfl _ _ _ _ rfl rfl HR.out ?_)
    go_ret
    refine ⟨_, rfl, ⟨rfl, .inr ⟨w.heap.size, cap, _, rfl, Nat.le_refl _, World.alloc_heap_new _ _, Nat.zero_le _, HG.out.2, ?_, by simp⟩⟩, (Below.refl _ _).drew.alloc (Nat.le_refl _) _⟩
    simp [size_zeroCells]
    omega
def mksL (l : List Mrk) : List Value := l.flatMap Mrk.cells
theorem mksL_len (l : List Mrk) : (mksL l).length = l.length * 4 := by
  induction l with
  | nil => rfl
  | cons m l ih =>
    show (m.cells ++ mksL l).length = _
    rw [List.length_append, ih]
    show 4 + _ = (l.length + 1) * 4
    omega
theorem mksL_get : ∀ (l : List Mrk) (i j : Nat), i < l.length → j < 4 → (mksL l)[i * 4 + j]? = (gm l i).cells[j]?
  | [], i, j, h, _ => absurd h (Nat.not_lt_zero _)
  | m :: l, 0, j, _, hj => by
    show (m.cells ++ mksL l)[0 * 4 + j]? = m.cells[j]?
    rw [List.getElem?_append_left (by show 0 * 4 + j < 4; omega)]
    congr 1
    omega
  | m :: l, i + 1, j, h, hj => by
    show (m.cells ++ mksL l)[(i + 1) * 4 + j]? = (gm l i).cells[j]?
    rw [List.getElem?_append_right (by show 4 ≤ _; omega), ← mksL_get l i j (by simpa using h) hj]
    congr 1
    show (i + 1) * 4 + j - 4 = _
    omega
theorem mksL_one : ∀ (l : List Mrk), ∀ u ∈ mksL l, u.oneCell' = true := by
  intro l u hu
  unfold mksL at hu
  rw [List.mem_flatMap] at hu
  obtain ⟨m, _, hm⟩ := hu
  unfold Mrk.cells at hm
  simp only [List.mem_cons, List.not_mem_nil, or_false] at hm
  rcases hm with rfl | rfl | rfl | rfl <;> rfl
/-- Marks in memory, cell by cell. -/
theorem mks_news {w : World} {a : Option Addr} {l : List Mrk} (h : IsMks w a l) : l.length ≠ 0 → ∃ ad, a = some ad ∧ ∀ j u, (mksL l)[j]? = some u → w.cell? (ad.add j) = some u := by
  intro hl
  obtain ⟨b, off, rfl, _⟩ := h 0 (by omega)
  refine ⟨_, rfl, fun j u hj => ?_⟩
  have hjl : j < l.length * 4 := by
    have := (List.getElem?_eq_some_iff.1 hj).1
    rwa [mksL_len] at this
  obtain ⟨b', off', e, hc⟩ := h (j / 4) (by omega)
  simp only [Option.some.injEq, Addr.mk.injEq, and_true] at e
  obtain ⟨rfl, rfl⟩ := e
  have hj2 : j = j / 4 * 4 + j % 4 := by omega
  have hd : (⟨b, off, none⟩ : Addr).add j = ⟨b, off + j / 4 * 4 + j % 4, none⟩ := by
    rw [Addr.add_mid]
    congr 1
    omega
  rw [hd]
  have hg := mksL_get l (j / 4) (j % 4) (by omega) (by omega)
  rw [← hj2, hj] at hg
  have h4 : j % 4 = 0 ∨ j % 4 = 1 ∨ j % 4 = 2 ∨ j % 4 = 3 := by omega
  rcases h4 with h4 | h4 | h4 | h4 <;> rw [h4] at hg ⊢ <;> simp only [Mrk.cells, List.getElem?_cons_zero, List.getElem?_cons_succ, Option.some.injEq] at hg <;> subst hg
  · exact hc.c0
  · exact hc.c1
  · exact hc.c2
  · exact hc.c3
theorem own_marks {w : World} {base : Nat} {l : List Mrk} {a : Option Addr} {cap : Nat} (h : w.ownsRow base 30 4 (.slice a l.length cap) l.length (mksL l)) : IsMks w a l := fun i hi => by
  obtain ⟨g, c, e, _, _, _, _, hc⟩ := own_cell h (by omega)
  simp only [Value.slice.injEq] at e
  obtain ⟨rfl, _, _⟩ := e
  refine ⟨g, 0, rfl, ?_⟩
  have hx := fun j hj => mksL_get l i j hi hj
  constructor
  · exact hc _ _ (by rw [Nat.zero_add]; exact (hx 0 (by omega)))
  · exact hc _ _ (by rw [Nat.zero_add]; exact (hx 1 (by omega)))
  · exact hc _ _ (by rw [Nat.zero_add]; exact (hx 2 (by omega)))
  · exact hc _ _ (by rw [Nat.zero_add]; exact (hx 3 (by omega)))
theorem append_mks {W w : World} {B : Nat} {v : Value} {l x : List Mrk} {a : Option Addr} {c : Nat} (hb : Below B W w) (hB : B ≤ w.heap.size) (h : w.ownsRow B 30 4 v l.length (mksL l)) (hx : IsMks w a x) (hl : l.length + x.length ≤ 1000) :
    ∃ v' w', (Builtin.append_ #[22, 22] 22 #[v, .slice a x.length c]).run Tryd.prog w = .ok v' w' ∧ w'.ownsRow B 30 4 v' (l ++ x).length (mksL (l ++ x)) ∧ Below B W w' ∧ B ≤ w'.heap.size := by
  obtain ⟨i0, hi0, hz0, hz1, hz2⟩ := info_parts infoM
  obtain ⟨v', w', h1, h2, h3⟩ := append_rows (P := Tryd.prog) (w := w) B 22 22 30 i0 _ 4 32 Tryd.underlying22 hi0 hz0 hz1 hz2 rfl (by omega) v l.length (mksL l) h a x.length c (mksL x) (mksL_len x) (mks_news hx) (mksL_one x) (by unfold maxLen; omega) (by omega) hB
  refine ⟨v', w', h1, ?_, grown_below hb h h3 hB, Nat.le_trans hB h3.size⟩
  rw [List.length_append]
  have e : mksL (l ++ x) = mksL l ++ mksL x := by unfold mksL; rw [List.flatMap_append]
  rw [e]
  exact h2
set_option maxRecDepth 100000 in
set_option maxHeartbeats 4000000 in
theorem concat62 {l x : List Mrk} {a b : Option Addr} {c d bs : Nat} {w : World} (h1 : IsMks w a l) (h2 : IsMks w b x) (hl : l.length ≤ 100) (hx : x.length ≤ 100) (hs : w.heap[bs]? = some (.cells #[.slice a l.length c, .slice b x.length d] 22 (0, 0))) :
    Calls Tryd.prog 92 #[.slice (some ⟨bs, 0, none⟩) 2 2] w fun e w' => ∃ a' c', e = .returned (.slice a' (l ++ x).length c') ∧ IsMks w' a' (l ++ x) ∧ Below w.heap.size w w' := by
  have HB := Lib.hid (And.intro h1 (And.intro h2 hs))
  clear h1 h2 hs
  have s0 : w.cell? ⟨bs, 0, none⟩ = some (.slice a l.length c) := by rw [cell_of_heap HB.out.2.2]; rfl
  have s1 : w.cell? ⟨bs, 1, none⟩ = some (.slice b x.length d) := by rw [cell_of_heap HB.out.2.2]; rfl
  go_enter Tryd.func92, Tryd.ntmps92
  go_wp2_with fail
  go_loop [3, 11] (fun z i => ∃ k : Int, (k = 0 ∨ k = 1 ∨ k = 2) ∧ i = .int .i64 k ∧ z = .int .i64 (if 1 ≤ k then (if 2 ≤ k then (l.length : Int) + x.length else l.length) else 0)) (fun _ i => 2 - (intOf i).toNat)
  case atStart => exact ⟨0, .inl rfl, rfl, rfl⟩
  case round =>
    obtain ⟨k, hk, rfl, rfl⟩ := hrel
    rcases hk with rfl | rfl | rfl
    · have e : (if (1 : Int) ≤ 0 then (if (2 : Int) ≤ 0 then (l.length : Int) + x.length else l.length) else 0) = 0 := by simp
      rw [e]
      clear e
      go_wp2_with fail
      go_round
      case rel => exact ⟨1, .inr (.inl rfl), rfl, by simp⟩
      case measure => simp [intOf]
    · have e : (if (1 : Int) ≤ 1 then (if (2 : Int) ≤ 1 then (l.length : Int) + x.length else l.length) else 0) = l.length := by simp
      rw [e]
      clear e
      go_wp2_with fail
      go_round
      case rel => exact ⟨2, .inr (.inr rfl), rfl, by simp⟩
      case measure => simp [intOf]
    · have e : (if (1 : Int) ≤ 2 then (if (2 : Int) ≤ 2 then (l.length : Int) + x.length else l.length) else 0) = ((l.length + x.length : Nat) : Int) := by simp
      rw [e]
      clear e
      go_wp2_with fail
      refine (grow79 (by omega) w).mono ?_
      rintro e w1 ⟨v, rfl, hown, hb⟩
      have HR : Hid (w1.ownsRow w.heap.size 30 4 v ([] : List Mrk).length (mksL []) ∧ Below w.heap.size w w1) := ⟨hown, hb⟩
      clear hown hb s0 s1
      go_wp2_with fail
      go_loopw [6, 27] (fun v i wr => ∃ k : Int, (k = 0 ∨ k = 1 ∨ k = 2) ∧ i = .int .i64 k ∧ Hid (wr.ownsRow w.heap.size 30 4 v (if 1 ≤ k then (if 2 ≤ k then l ++ x else l) else []).length (mksL (if 1 ≤ k then (if 2 ≤ k then l ++ x else l) else [])) ∧ Below w.heap.size w wr)) (fun _ i _ => 2 - (intOf i).toNat)
      case atStart => exact ⟨0, .inl rfl, rfl, HR⟩
      case round =>
        obtain ⟨k, hk, rfl, HW⟩ := hrel
        clear HR
        rcases hk with rfl | rfl | rfl
        · have HO : Hid (wr.ownsRow w.heap.size 30 4 u6 ([] : List Mrk).length (mksL []) ∧ Below w.heap.size w wr) := HW.out
          clear HW
          obtain ⟨v', w', hr, ho, hbb, hsz⟩ := append_mks (c := c) HO.out.2 HO.out.2.size HO.out.1 (HB.out.1.mono HO.out.2) (by first | omega | (simp; omega))
          have HRUN := Lib.hid hr
          have HN := Lib.hid (And.intro ho hbb)
          clear hr ho hbb hsz
          have s0 : wr.cell? ⟨bs, 0, none⟩ = some (.slice a l.length c) := by rw [cell_of_heap ((HO.out.2.block _ (heap_lt HB.out.2.2)).trans HB.out.2.2)]; rfl
          go_wp2_with (at_builtin; refine wpList_append_run rfl (.tmp 31) (.tmp 32) 22 rfl _ _ _ _ rfl rfl HRUN.out ?_)
          clear s0
          go_roundw
          case rel => exact ⟨1, .inr (.inl rfl), rfl, HN.out⟩
          case measure => simp [intOf]
        · have HO : Hid (wr.ownsRow w.heap.size 30 4 u6 (l : List Mrk).length (mksL l) ∧ Below w.heap.size w wr) := HW.out
          clear HW
          obtain ⟨v', w', hr, ho, hbb, hsz⟩ := append_mks (c := d) HO.out.2 HO.out.2.size HO.out.1 (HB.out.2.1.mono HO.out.2) (by first | omega | (simp; omega))
          have HRUN := Lib.hid hr
          have HN := Lib.hid (And.intro ho hbb)
          clear hr ho hbb hsz
          have s0 : wr.cell? ⟨bs, 1, none⟩ = some (.slice b x.length d) := by rw [cell_of_heap ((HO.out.2.block _ (heap_lt HB.out.2.2)).trans HB.out.2.2)]; rfl
          go_wp2_with (at_builtin; refine wpList_append_run rfl (.tmp 31) (.tmp 32) 22 rfl _ _ _ _ rfl rfl HRUN.out ?_)
          clear s0
          go_roundw
          case rel => exact ⟨2, .inr (.inr rfl), rfl, HN.out⟩
          case measure => simp [intOf]
        · have HO : Hid (wr.ownsRow w.heap.size 30 4 u6 (l ++ x).length (mksL (l ++ x)) ∧ Below w.heap.size w wr) := HW.out
          clear HW
          obtain ⟨a', cap, rfl, _, _⟩ := own_slice HO.out.1
          go_wp2_with fail
          go_ret
          exact ⟨a', cap, rfl, own_marks HO.out.1, HO.out.2⟩
set_option maxRecDepth 100000 in
set_option maxHeartbeats 4000000 in
theorem isRows45 {r : Rws} {al ar : Option Addr} {cl cr : Nat} {w : World} (hv : r.valid = true) (h1 : IsMks w al r.left) (h2 : IsMks w ar r.right) :
    Calls Tryd.prog 58 #[r.v al cl ar cr] w fun e w' => e = .returned (.bool true) ∧ Below w.heap.size w w' := by
  have HX := Lib.hid (And.intro (World.alloc_heap_new w (.cells (r.arr al cl ar cr) 26)) (And.intro (alloc_below w (.cells (r.arr al cl ar cr) 26)) (And.intro (h1.mono (alloc_below w (.cells (r.arr al cl ar cr) 26))) (h2.mono (alloc_below w (.cells (r.arr al cl ar cr) 26))))))
  have HV : Hid (r.Nums ∧ (∀ m ∈ r.left ++ r.right, mrkOk m = true) ∧ r.shift.ok (-65536) 65536 = true ∧ inR r.hidden 0 20 = true) := by
    have h := hv
    unfold Rws.valid at h
    simp only [Bool.and_eq_true, List.all_eq_true] at h
    exact ⟨rnums_of hv, h.1.1.2, h.1.2, h.2⟩
  clear h1 h2 hv
  have hl1 : r.left.length ≤ 10 := HV.out.1.l1
  have hl2 : r.right.length ≤ 10 := HV.out.1.l2
  go_enter Tryd.func58, Tryd.ntmps58
  refine wp_seq_hid ?_
  intro K0 HK0
  go_wp2_with fail
  refine HK0.out _ _ ?_
  clear HK0 K0
  revert HX
  generalize w.alloc (.cells (r.arr al cl ar cr) 26) = w1
  generalize hb : w.heap.size = b1
  intro HX
  have HB := Lib.hid hb
  clear hb
  refine wp_seq_hid ?_
  intro K1 HK1
  go_wp2_with fail
  refine HK1.out _ _ ?_
  clear HK1 K1
  have k0 : w1.cell? ⟨b1, 0, none⟩ = some (.slice al r.left.length cl) := by rw [cell_of_heap HX.out.1]; rfl
  have k1 : w1.cell? ⟨b1, 1, none⟩ = some (.slice ar r.right.length cr) := by rw [cell_of_heap HX.out.1]; rfl
  have HQ := Lib.hid (And.intro (World.alloc_heap_new w1 (.cells #[.slice al r.left.length cl, .slice ar r.right.length cr] 22)) (alloc_below w1 (.cells #[.slice al r.left.length cl, .slice ar r.right.length cr] 22)))
  refine wp_seq_hid ?_
  intro K2 HK2
  go_wp2_with fail
  refine (concat62 (l := r.left) (x := r.right) (a := al) (b := ar) (c := cl) (d := cr) (HX.out.2.2.1.mono HQ.out.2) (HX.out.2.2.2.mono HQ.out.2) (by omega) (by omega) HQ.out.1).mono ?_
  clear k0 k1
  have hml : (r.left ++ r.right).length ≤ 1000000 := by rw [List.length_append]; omega
  have HM := Lib.hid HV.out.2.1
  revert HM hml
  generalize r.left ++ r.right = mm
  intro hml HM
  rintro e w2 ⟨a', c', rfl, hm, hb⟩
  have HB2 := Lib.hid (And.intro (HQ.out.2.trans (hb.mono HQ.out.2.size)) hm)
  clear hb hm HQ
  go_wp2_with fail
  refine (has61 HB2.out.2 hml HM.out).mono ?_
  rintro e w3 ⟨rfl, hb⟩
  have HB3 := Lib.hid (HB2.out.1.trans (hb.mono HB2.out.1.size))
  clear hb HB2
  go_wp2_with fail
  refine HK2.out _ _ ?_
  clear HK2 K2
  have HQ3 := Lib.hid ((HB3.out.block _ (heap_lt HX.out.1)).trans HX.out.1)
  have k2 : w3.cell? ⟨b1, 2, none⟩ = some (.int .i64 r.shift.lo) := by rw [cell_of_heap HQ3.out]; rfl
  have k3 : w3.cell? ⟨b1, 3, none⟩ = some (.int .i64 r.shift.hi) := by rw [cell_of_heap HQ3.out]; rfl
  go_wp2_with fail
  refine (isSpan60 r.shift _ _ _).mono ?_
  clear k2 k3
  rintro e w4 ⟨rfl, hb⟩
  rw [HV.out.2.2.1]
  have HB4 := Lib.hid (HB3.out.trans (hb.mono HB3.out.size))
  clear hb
  have k4 : w4.cell? ⟨b1, 4, none⟩ = some (.int .i64 r.hidden) := by rw [cell_of_heap ((HB4.out.block _ (heap_lt HX.out.1)).trans HX.out.1)]; rfl
  go_wp2_with fail
  refine (within50 _ _ _ _).mono ?_
  rintro e w5 ⟨rfl, rfl⟩
  rw [HV.out.2.2.2]
  go_wp2_with fail
  go_ret
  exact ⟨rfl, HX.out.2.1.trans (HB4.out.mono (by have := HX.out.2.1.size; rw [HB.out] at this; exact this))⟩
end Go.Proofs.YtbnhngfegnhaiaaDoor
