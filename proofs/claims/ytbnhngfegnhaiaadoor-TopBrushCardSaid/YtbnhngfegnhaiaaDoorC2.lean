/- Words on memory, walks and calls that recover, for pairs; small functions. Places, things and pairs in memory; small functions of pairs. The shifts of a thing that can stand still; its rows. The rows of a thing; what a thing says of the power. What rows of marks come to, in plain Lean: no program in sight. Marks and rows in memory; the marks of valid rows. The row's last step where the call leaves a world of which only what lay there before is known. Rows and canvases that are handed in, opened. Chains of pairs: what the table says of them, and the plain law of TopMarks. How many bits a small number has: bits.OnesCount. Marks put together; are rows valid? What two marks must have in common. Do two marks break a rule? Do two marks fit? Rows that are looked at. -/
import Derived.Test.YtbnhngfegnhaiaaDoorC1
import Derived.Test.YtbnhngfegnhaiaaDoorProg
import Derived.Deep.DeepCutAuto
import Derived.Lib.MinMax
import Derived.Lib.AppendZeros
import Derived.Deep.MidRow
import Derived.Below
import Derived.ChangeSame
import Derived.ProofKit
import Derived.Deep.Slices
import Derived.Deep.Fields
import Derived.Lib.SmallJoins
import Derived.Carry
import Derived.OpenShut
namespace Go.Proofs.YtbnhngfegnhaiaaDoor
open Go.RowKit
set_option linter.unusedVariables false
set_option linter.unusedSimpArgs false
theorem ret_bool {a b : Bool} (h : a = b) : Ending.returned (.bool a) = .returned (.bool b) := by rw [h]
theorem ret_int {k : IntKind} {a b : Int} (h : a = b) : Ending.returned (.int k a) = .returned (.int k b) := by rw [h]
theorem mixed : Tryd.prog.follows .mixedOrders = true := by kernel_rfl
theorem heap_lt {w : World} {g : Nat} {o : Obj} (h : w.heap[g]? = some o) : g < w.heap.size := (Array.getElem?_eq_some_iff.1 h).1
theorem heap_setCell_at {w : World} {b k : Nat} {c : Array Value} {t : TypeId} {f : Nat × Nat} (h : w.heap[b]? = some (.cells c t f)) (v : Value) :
    (w.setCell ⟨b, k, none⟩ v).heap[b]? = some (.cells (c.setIfInBounds k v) t f) := by
  simp [World.setCell, Array.getElem?_modify, h]
theorem cell_of_heap {w : World} {b k : Nat} {c : Array Value} {t : TypeId} {f : Nat × Nat} (h : w.heap[b]? = some (.cells c t f)) : w.cell? ⟨b, k, none⟩ = c[k]? := by simp [World.cell?, h]
theorem frozen_of_heap {w : World} {b k : Nat} {c : Array Value} {t : TypeId} (h : w.heap[b]? = some (.cells c t (0, 0))) : w.frozen? ⟨b, k, none⟩ = false := by simp [World.frozen?, h]
theorem own_ints {w : World} {base : Nat} {a : Option Addr} {l : List Int} {cap : Nat} (h : w.ownsRow base 3 1 (.slice a l.length cap) l.length (l.map (Value.int .i64))) : IsInts w a l := fun i hi => by
  obtain ⟨g, c, e, _, _, _, _, hc⟩ := own_cell h (by omega)
  cases e
  refine ⟨g, 0, rfl, ?_⟩
  rw [Nat.zero_add]
  exact hc i _ (by simp [gi, hi])
theorem wp_seq_hid {P : Program} {x y : Code} {Q : Exit → Act → World → Prop} {a : Act} {w : World} (h : ∀ K, Hid (∀ a' w', y.wp P Q a' w' → K a' w') → x.wp P (Exit.then K Q) a w) : (Code.seq x y).wp P Q a w :=
  wp_seq (h _ fun _ _ h => h)
theorem leaves_ok {fn : Func} {tmps : Array Value} {R : Ending → World → Prop} {f : Nat} {pe : Value} {w : World} (hok : CallsD Tryd.prog f #[pe] .returning w fun e u' w' => e = .returned (.tuple #[]) ∧ u' = .returning ∧ w = w')
    (hcf : ∀ args w, (callFunc f args).run Tryd.prog w = .ok (.enter f args) w) {v : Value} (hv : (results fn tmps).run Tryd.prog w = .ok v w) (hR : R (.returned v) w) :
    Leaves Tryd.prog fn tmps R [{ target := .fn (.func f) #[pe], args := #[] }] .returning w := by
  refine ⟨by simp, _, _, f, #[pe], rfl, ?_, ?_⟩
  · simp [invoke, go_sem, hcf]
  · refine CallsD.mono hok ?_
    rintro e u' w' ⟨rfl, rfl, rfl⟩
    exact ⟨v, hv, hR⟩
theorem leaves_no {fn : Func} {tmps : Array Value} {R : Ending → World → Prop} {f : Nat} {pe : Value} {w w' : World} {c c' : List PanicEntry}
    (hno : CallsD Tryd.prog f #[pe] (.panicking c) w fun e u' w'' => e = .returned (.tuple #[]) ∧ u' = .panicking c' ∧ w'' = w') (hs : settle (.panicking c') = .returning)
    (hcf : ∀ args w, (callFunc f args).run Tryd.prog w = .ok (.enter f args) w) {v : Value} (hv : (results fn tmps).run Tryd.prog w' = .ok v w') (hR : R (.returned v) w') :
    Leaves Tryd.prog fn tmps R [{ target := .fn (.func f) #[pe], args := #[] }] (.panicking c) w := by
  refine ⟨by simp, _, _, f, #[pe], rfl, ?_, ?_⟩
  · simp [invoke, go_sem, hcf]
  · refine CallsD.mono hno ?_
    rintro e u' w'' ⟨rfl, rfl, rfl⟩
    simp only [hs]
    exact ⟨v, hv, hR⟩
theorem infoI : (Tryd.prog.info? 3).map (fun i => (i.zero, i.size, i.bytes)) = some (some (.int .i64 0), 1, 8) := by kernel_rfl
def leftReg : Code → Option Nat
  | .region id _ _ => some id
  | .seq a _ => leftReg a
  | _ => none
def fromRegion (n : Nat) : Code → Option Code
  | .seq a b => if leftReg a = some n then some (.seq a b) else match fromRegion n a with
    | some c => some c
    | none => fromRegion n b
  | .block _ c => fromRegion n c
  | .scope c => fromRegion n c
  | .loop c => fromRegion n c
  | .cond _ a b => match fromRegion n a with
    | some c => some c
    | none => fromRegion n b
  | _ => none
def regionAt (n : Nat) : Code → Option Code
  | .region id ops dr => if id = n then some (.region id ops dr) else none
  | .seq a b => match regionAt n a with
    | some c => some c
    | none => regionAt n b
  | .block _ c => regionAt n c
  | .scope c => regionAt n c
  | .loop c => regionAt n c
  | .cond _ a b => match regionAt n a with
    | some c => some c
    | none => regionAt n b
  | _ => none
abbrev Spn.arr (s : Spn) : Array Value := #[.int .i64 s.lo, .int .i64 s.hi]
abbrev Spn.v (s : Spn) : Value := .agg s.arr
theorem within50 (n lo hi : Int) (w : World) :
    Calls Tryd.prog 38 #[.int .i64 n, .int .i64 lo, .int .i64 hi] w fun e w' => e = .returned (.bool (inR n lo hi)) ∧ w = w' := by
  unfold inR
  go_enter Tryd.func38, Tryd.ntmps38
  go_wp2
  all_goals go_ret
  all_goals refine ⟨ret_bool ?_, rfl⟩
  · have h : lo ≤ n := by assumption
    simp [h]
  · have h : n < lo := by assumption
    simp; omega
theorem isSpan60 (s : Spn) (lo hi : Int) (w : World) :
    Calls Tryd.prog 90 #[s.v, .int .i64 lo, .int .i64 hi] w fun e w' => e = .returned (.bool (s.ok lo hi)) ∧ Below w.heap.size w w' := by
  have HX : Hid (Below w.heap.size w (w.alloc (.cells s.arr 24))) := (Below.refl _ w).alloc (Nat.le_refl _) _
  unfold Spn.ok
  by_cases h1 : lo ≤ s.lo <;> by_cases h2 : s.lo ≤ s.hi <;> by_cases h3 : s.hi ≤ hi
  all_goals
    go_enter Tryd.func90, Tryd.ntmps90
    go_wp2_with fail
    go_ret
    exact ⟨ret_bool (by simp [h1, h2, h3]), HX.out⟩
end Go.Proofs.YtbnhngfegnhaiaaDoor
namespace Go.Proofs.YtbnhngfegnhaiaaDoor
open Go.RowKit
set_option linter.unusedVariables false
set_option linter.unusedSimpArgs false
abbrev Plc.arr (x : Plc) : Array Value := #[.int .i64 x.x.lo, .int .i64 x.x.hi, .int .i64 x.y.lo, .int .i64 x.y.hi]
abbrev Plc.v (x : Plc) : Value := .agg x.arr
abbrev Thg.arr (t : Thg) : Array Value := #[.int .i64 t.left.x.lo, .int .i64 t.left.x.hi, .int .i64 t.left.y.lo, .int .i64 t.left.y.hi, .int .i64 t.right.x.lo, .int .i64 t.right.x.hi, .int .i64 t.right.y.lo, .int .i64 t.right.y.hi, .int .i64 t.far]
abbrev Thg.v (t : Thg) : Value := .agg t.arr
abbrev Par.arr (p : Par) (a : Option Addr) (c : Nat) : Array Value := #[.int .i64 p.focal.lo, .int .i64 p.focal.hi, .int .i64 p.base.lo, .int .i64 p.base.hi, .int .i64 p.tilt, .int .i64 p.near, .int .i64 p.far, .slice a p.things.length c]
abbrev Par.v (p : Par) (a : Option Addr) (c : Nat) : Value := .agg (p.arr a c)
/-- A thing's cells from an address on. -/
structure ThgC (w : World) (b o : Nat) (t : Thg) : Prop where
  c0 : w.cell? ⟨b, o, none⟩ = some (.int .i64 t.left.x.lo)
  c1 : w.cell? ⟨b, o + 1, none⟩ = some (.int .i64 t.left.x.hi)
  c2 : w.cell? ⟨b, o + 2, none⟩ = some (.int .i64 t.left.y.lo)
  c3 : w.cell? ⟨b, o + 3, none⟩ = some (.int .i64 t.left.y.hi)
  c4 : w.cell? ⟨b, o + 4, none⟩ = some (.int .i64 t.right.x.lo)
  c5 : w.cell? ⟨b, o + 5, none⟩ = some (.int .i64 t.right.x.hi)
  c6 : w.cell? ⟨b, o + 6, none⟩ = some (.int .i64 t.right.y.lo)
  c7 : w.cell? ⟨b, o + 7, none⟩ = some (.int .i64 t.right.y.hi)
  c8 : w.cell? ⟨b, o + 8, none⟩ = some (.int .i64 t.far)
theorem ThgC.mono {w w' : World} {b o : Nat} {t : Thg} (h : ThgC w b o t) (hb : Below w.heap.size w w') : ThgC w' b o t :=
  ⟨cell_stays hb h.c0, cell_stays hb h.c1, cell_stays hb h.c2, cell_stays hb h.c3, cell_stays hb h.c4, cell_stays hb h.c5, cell_stays hb h.c6, cell_stays hb h.c7, cell_stays hb h.c8⟩
def IsThs (w : World) (a : Option Addr) (l : List Thg) : Prop := ∀ i, i < l.length → ∃ b off, a = some ⟨b, off, none⟩ ∧ ThgC w b (off + i * 9) (gt l i)
theorem IsThs.mono {w w' : World} {a : Option Addr} {l : List Thg} (h : IsThs w a l) (hb : Below w.heap.size w w') : IsThs w' a l := fun i hi => by
  obtain ⟨b, off, e, hc⟩ := h i hi
  exact ⟨b, off, e, hc.mono hb⟩
/-- A pair's cells in a block, from a place on. -/
structure ParC (w : World) (b o : Nat) (p : Par) (a : Option Addr) (c : Nat) : Prop where
  c0 : w.cell? ⟨b, o, none⟩ = some (.int .i64 p.focal.lo)
  c1 : w.cell? ⟨b, o + 1, none⟩ = some (.int .i64 p.focal.hi)
  c2 : w.cell? ⟨b, o + 2, none⟩ = some (.int .i64 p.base.lo)
  c3 : w.cell? ⟨b, o + 3, none⟩ = some (.int .i64 p.base.hi)
  c4 : w.cell? ⟨b, o + 4, none⟩ = some (.int .i64 p.tilt)
  c5 : w.cell? ⟨b, o + 5, none⟩ = some (.int .i64 p.near)
  c6 : w.cell? ⟨b, o + 6, none⟩ = some (.int .i64 p.far)
  c7 : w.cell? ⟨b, o + 7, none⟩ = some (.slice a p.things.length c)
theorem ParC.mono {w w' : World} {b o : Nat} {p : Par} {a : Option Addr} {c : Nat} (h : ParC w b o p a c) (hb : Below w.heap.size w w') : ParC w' b o p a c :=
  ⟨cell_stays hb h.c0, cell_stays hb h.c1, cell_stays hb h.c2, cell_stays hb h.c3, cell_stays hb h.c4, cell_stays hb h.c5, cell_stays hb h.c6, cell_stays hb h.c7⟩
/-- Numbers of whatever thing are small. -/
structure Thg.Sm (t : Thg) : Prop where
  a : -4000 ≤ t.left.x.lo ∧ t.left.x.lo ≤ 4000
  b : -4000 ≤ t.left.x.hi ∧ t.left.x.hi ≤ 4000
  c : -4000 ≤ t.left.y.lo ∧ t.left.y.lo ≤ 4000
  d : -4000 ≤ t.left.y.hi ∧ t.left.y.hi ≤ 4000
  e : -4000 ≤ t.right.x.lo ∧ t.right.x.lo ≤ 4000
  f : -4000 ≤ t.right.x.hi ∧ t.right.x.hi ≤ 4000
  g : -4000 ≤ t.right.y.lo ∧ t.right.y.lo ≤ 4000
  h : -4000 ≤ t.right.y.hi ∧ t.right.y.hi ≤ 4000
  k : 0 ≤ t.far ∧ t.far ≤ 1073741824
/-- Blocks laid one behind the other. -/
theorem alloc2 (w : World) (c d : Array Value) (s t : TypeId) : ((w.alloc (.cells c s)).alloc (.cells d t)).heap[w.heap.size]? = some (.cells c s (0, 0)) ∧ ((w.alloc (.cells c s)).alloc (.cells d t)).heap[w.heap.size + 1]? = some (.cells d t (0, 0)) ∧ Below w.heap.size w ((w.alloc (.cells c s)).alloc (.cells d t)) := by
  refine ⟨?_, ?_, ((Below.refl _ w).alloc (Nat.le_refl _) _).alloc (by simp) _⟩
  · rw [Below.heap_alloc _ _ _ (by simp)]
    exact World.alloc_heap_new w _
  · have := World.alloc_heap_new (w.alloc (.cells c s)) (.cells d t)
    rwa [World.size_alloc] at this
theorem alloc3 (w : World) (c d e : Array Value) (s t u : TypeId) : ∀ v, v = ((w.alloc (.cells c s)).alloc (.cells d t)).alloc (.cells e u) → v.heap[w.heap.size]? = some (.cells c s (0, 0)) ∧ v.heap[w.heap.size + 1]? = some (.cells d t (0, 0)) ∧ v.heap[w.heap.size + 2]? = some (.cells e u (0, 0)) ∧ Below w.heap.size w v := by
  rintro v rfl
  obtain ⟨h1, h2, h3⟩ := alloc2 w c d s t
  have h0 : Below ((w.alloc (.cells c s)).alloc (.cells d t)).heap.size ((w.alloc (.cells c s)).alloc (.cells d t)) (((w.alloc (.cells c s)).alloc (.cells d t)).alloc (.cells e u)) := (Below.refl _ _).alloc (Nat.le_refl _) _
  refine ⟨(h0.block _ (heap_lt h1)).trans h1, (h0.block _ (heap_lt h2)).trans h2, ?_, h3.trans (h0.mono h3.size)⟩
  have := World.alloc_heap_new ((w.alloc (.cells c s)).alloc (.cells d t)) (.cells e u)
  rwa [World.size_alloc, World.size_alloc] at this
/-- Results in cells. -/
theorem res_c2 {fn : Func} {u : Tmp} {ty : TypeId} (hty : ty = 24 ∨ ty = 42) (h : fn.results = #[.cell u ty]) (tmps : Array Value) {w : World} {b : Nat} {x y : Value} (hp : tmps.getD u undef = .pointer (some ⟨b, 0, none⟩)) (hx : w.cell? ⟨b, 0, none⟩ = some x) (hy : w.cell? ⟨b, 1, none⟩ = some y) :
    (results fn tmps).run Tryd.prog w = .ok (.agg #[x, y]) w := by
  have hp' : tmps[u]?.getD undef = .pointer (some ⟨b, 0, none⟩) := by simpa using hp
  rcases hty with rfl | rfl <;> simp [results, h, hp', hx, hy, go_sem]
end Go.Proofs.YtbnhngfegnhaiaaDoor
namespace Go.Proofs.YtbnhngfegnhaiaaDoor
open Go.RowKit
set_option linter.unusedVariables false
set_option linter.unusedSimpArgs false
/-- A pair that is looked at, with its powers. -/
abbrev viewArr (p : Par) (a : Option Addr) (c : Nat) (q : Spn) : Array Value := #[.int .i64 p.focal.lo, .int .i64 p.focal.hi, .int .i64 p.base.lo, .int .i64 p.base.hi, .int .i64 p.tilt, .int .i64 p.near, .int .i64 p.far, .slice a p.things.length c, .int .i64 q.lo, .int .i64 q.hi]
structure IsView (w : World) (bv : Nat) (p : Par) (a : Option Addr) (c : Nat) (q : Spn) : Prop where
  h : w.heap[bv]? = some (.cells (viewArr p a c q) 86 (0, 0))
  things : IsThs w a p.things
theorem IsView.mono {w w' : World} {bv : Nat} {p : Par} {a : Option Addr} {c : Nat} {q : Spn} (h : IsView w bv p a c q) (hb : Below w.heap.size w w') : IsView w' bv p a c q := ⟨(hb.block _ (heap_lt h.h)).trans h.h, h.things.mono hb⟩
end Go.Proofs.YtbnhngfegnhaiaaDoor
namespace Go.Proofs.YtbnhngfegnhaiaaDoor
open Go.RowKit
set_option linter.unusedVariables false
set_option linter.unusedSimpArgs false
/-- A block of two that may have been laid. -/
def Fresh (W : World) (fs : Bool) (ms : Nat) (v : World) : Prop := fs = true → W.heap.size ≤ ms ∧ v.heap[ms]? = some (.cells #[.int .i64 0, .int .i64 0] 42 (0, 0))
theorem Fresh.no (W v : World) (ms : Nat) : Fresh W false ms v := fun h => by cases h
theorem Fresh.mono {W v v' : World} {fs : Bool} {ms : Nat} (h : Fresh W fs ms v) (hb : Below v.heap.size v v') : Fresh W fs ms v' := fun e => ⟨(h e).1, (hb.block _ (heap_lt (h e).2)).trans (h e).2⟩
theorem Fresh.yes {W v : World} (hv : W.heap.size ≤ v.heap.size) : Fresh W true v.heap.size (v.alloc (.cells #[.int .i64 0, .int .i64 0] 42)) := fun _ => ⟨hv, World.alloc_heap_new _ _⟩
theorem alloc_below (v : World) (o : Obj) : Below v.heap.size v (v.alloc o) := (Below.refl _ v).alloc (Nat.le_refl _) _
theorem Fresh.put {W v : World} {ms : Nat} (h : Fresh W true ms v) (hb : Below W.heap.size W v) (z1 z2 : Value) : (∃ u, v.cell? ⟨ms, 0, none⟩ = some u) ∧ v.frozen? ⟨ms, 0, none⟩ = false ∧ (∃ u, v.cell? ⟨ms, 1, none⟩ = some u) ∧ v.frozen? ⟨ms, 1, none⟩ = false ∧ Below W.heap.size W ((v.setCell ⟨ms, 0, none⟩ z1).setCell ⟨ms, 1, none⟩ z2) ∧ ((v.setCell ⟨ms, 0, none⟩ z1).setCell ⟨ms, 1, none⟩ z2).heap[ms]? = some (.cells #[z1, z2] 42 (0, 0)) := by
  obtain ⟨h1, h2⟩ := h rfl
  exact ⟨⟨_, by rw [cell_of_heap h2]; rfl⟩, frozen_of_heap h2, ⟨_, by rw [cell_of_heap h2]; rfl⟩, frozen_of_heap h2, (hb.setCell (p := ⟨ms, 0, none⟩) h1 _).setCell (p := ⟨ms, 1, none⟩) h1 _, heap_setCell_at (k := 1) (heap_setCell_at (k := 0) h2 z1) z2⟩
end Go.Proofs.YtbnhngfegnhaiaaDoor
namespace Go.Proofs.YtbnhngfegnhaiaaDoor
structure Mrk where
  pos : Spn
  tone : Spn
deriving DecidableEq
structure Rws where
  left : List Mrk
  right : List Mrk
  shift : Spn
  hidden : Int
deriving DecidableEq
def mrk0 : Mrk := ⟨⟨0, 0⟩, ⟨0, 0⟩⟩
/-- The k-th mark. -/
def gm (l : List Mrk) (k : Nat) : Mrk := l.getD k mrk0
def mrkOk (m : Mrk) : Bool := m.pos.ok 0 65536 && m.tone.ok 0 1000
def Rws.valid (r : Rws) : Bool := decide (r.left.length ≤ 10) && decide (r.right.length ≤ 10) && (r.left ++ r.right).all mrkOk && r.shift.ok (-65536) 65536 && inR r.hidden 0 20
/-- What a left mark's place leaves for the right one's. -/
def Rws.away (r : Rws) (m : Mrk) : Spn := ⟨m.pos.lo - r.shift.hi, m.pos.hi - r.shift.lo⟩
def fitM (r : Rws) (a b : Mrk) : Bool := (a.tone.cut b.tone).is && ((r.away a).cut b.pos).is
/-- Do two marks fit? -/
def Rws.fit (r : Rws) (i k : Nat) : Bool := decide (i < r.left.length) && decide (k < r.right.length) && fitM r (gm r.left i) (gm r.right k)
def Rws.need (r : Rws) : Int := ((r.left.length : Int) + r.right.length - r.hidden + 1).tdiv 2
/-- A row of the table: the most pairs with so many right marks left. -/
def rowB (F : Nat → Bool) (m : Nat) (prev : Nat → Nat) : Nat → Nat
  | 0 => 0
  | b + 1 => if F (m - (b + 1)) then max (max (prev (b + 1)) (rowB F m prev b)) (1 + prev b) else max (prev (b + 1)) (rowB F m prev b)
/-- The most pairs that there can be with the last so many left marks, and right ones. -/
def mst (F : Nat → Nat → Bool) (n m : Nat) : Nat → Nat → Nat
  | 0 => fun _ => 0
  | a + 1 => rowB (F (n - (a + 1))) m (mst F n m a)
def isE (F : Nat → Nat → Bool) (n m : Nat) (need : Int) : Bool := decide (need ≤ (mst F n m n m : Int))
/-- No pair that crosses two marks, and no other one of them. -/
def apart (i k a b : Nat) : Bool := (decide (a < i) != decide (b < k)) || (decide (a = i) != decide (b = k))
def own (F : Nat → Nat → Bool) (i k a b : Nat) : Bool := F a b && !apart i k a b
def canE (F : Nat → Nat → Bool) (n m : Nat) (need : Int) (i k : Nat) : Bool := F i k && isE (own F i k) n m need
/-- The numbers below a bound of which something is so, as bits. -/
def bitsOf (p : Nat → Bool) : Nat → Nat
  | 0 => 0
  | k + 1 => bitsOf p k ||| (if p k then 2 ^ k else 0)
/-- All pairs that fit, from two marks on, in their order. -/
def pairsFrom (F : Nat → Nat → Bool) (n m i k : Nat) : List (Nat × Nat) :=
  (List.range' i (n - i)).flatMap fun a => ((List.range' k (m - k)).filter (F a)).map fun b => (a, b)
def cntF (F : Nat → Nat → Bool) (n m : Nat) : Nat → Nat → Nat → Int → Int
  | 0, _, _, d => if d ≤ 0 then 1 else 0
  | f + 1, i, k, d => (if d ≤ 0 then 1 else 0) + ((pairsFrom F n m i k).map fun p => cntF F n m f (p.1 + 1) (p.2 + 1) (max 0 (d - 1))).sum
/-- How many ways there are. -/
def Rws.count (r : Rws) : Int := cntF r.fit r.left.length r.right.length r.left.length 0 0 (max 0 r.need)
def Rws.is (r : Rws) : Bool := isE r.fit r.left.length r.right.length r.need
def Rws.can (r : Rws) (i k : Nat) : Bool := canE r.fit r.left.length r.right.length r.need i k
def mrkE (a b c d : Int) : Mrk := ⟨⟨a, b⟩, ⟨c, d⟩⟩
def rows02 : Rws := ⟨[mrkE 100 102 10 12, mrkE 200 202 50 55, mrkE 300 301 10 13], [mrkE 90 92 11 12, mrkE 185 190 52 60, mrkE 280 282 9 10, mrkE 292 294 12 14], ⟨5, 20⟩, 1⟩
end Go.Proofs.YtbnhngfegnhaiaaDoor
namespace Go.Proofs.YtbnhngfegnhaiaaDoor
open Go.RowKit
set_option linter.unusedVariables false
set_option linter.unusedSimpArgs false
abbrev Mrk.arr (m : Mrk) : Array Value := #[.int .i64 m.pos.lo, .int .i64 m.pos.hi, .int .i64 m.tone.lo, .int .i64 m.tone.hi]
abbrev Mrk.v (m : Mrk) : Value := .agg m.arr
def Mrk.cells (m : Mrk) : List Value := [.int .i64 m.pos.lo, .int .i64 m.pos.hi, .int .i64 m.tone.lo, .int .i64 m.tone.hi]
/-- A mark's cells from an address on. -/
structure MrkC (w : World) (b o : Nat) (m : Mrk) : Prop where
  c0 : w.cell? ⟨b, o, none⟩ = some (.int .i64 m.pos.lo)
  c1 : w.cell? ⟨b, o + 1, none⟩ = some (.int .i64 m.pos.hi)
  c2 : w.cell? ⟨b, o + 2, none⟩ = some (.int .i64 m.tone.lo)
  c3 : w.cell? ⟨b, o + 3, none⟩ = some (.int .i64 m.tone.hi)
theorem MrkC.mono {w w' : World} {b o : Nat} {m : Mrk} (h : MrkC w b o m) (hb : Below w.heap.size w w') : MrkC w' b o m :=
  ⟨cell_stays hb h.c0, cell_stays hb h.c1, cell_stays hb h.c2, cell_stays hb h.c3⟩
def IsMks (w : World) (a : Option Addr) (l : List Mrk) : Prop := ∀ i, i < l.length → ∃ b off, a = some ⟨b, off, none⟩ ∧ MrkC w b (off + i * 4) (gm l i)
theorem IsMks.mono {w w' : World} {a : Option Addr} {l : List Mrk} (h : IsMks w a l) (hb : Below w.heap.size w w') : IsMks w' a l := fun i hi => by
  obtain ⟨b, off, e, hc⟩ := h i hi
  exact ⟨b, off, e, hc.mono hb⟩
theorem mrk_cells {w : World} {b : Nat} {m : Mrk} {ty : TypeId} (hq : w.heap[b]? = some (.cells m.arr ty (0, 0))) : MrkC w b 0 m := by
  refine ⟨?_, ?_, ?_, ?_⟩ <;> (rw [cell_of_heap hq]; rfl)
theorem gm_mem {l : List Mrk} {k : Nat} (h : k < l.length) : gm l k ∈ l := by simp [gm, h]
abbrev Rws.arr (r : Rws) (al : Option Addr) (cl : Nat) (ar : Option Addr) (cr : Nat) : Array Value := #[.slice al r.left.length cl, .slice ar r.right.length cr, .int .i64 r.shift.lo, .int .i64 r.shift.hi, .int .i64 r.hidden]
abbrev Rws.v (r : Rws) (al : Option Addr) (cl : Nat) (ar : Option Addr) (cr : Nat) : Value := .agg (r.arr al cl ar cr)
/-- What valid rows' numbers are. -/
structure Rws.Nums (r : Rws) : Prop where
  l1 : r.left.length ≤ 10
  l2 : r.right.length ≤ 10
  s1 : -65536 ≤ r.shift.lo
  s2 : r.shift.lo ≤ r.shift.hi
  s3 : r.shift.hi ≤ 65536
  h1 : 0 ≤ r.hidden
  h2 : r.hidden ≤ 20
  lm : ∀ m ∈ r.left, mrkOk m = true
  rm : ∀ m ∈ r.right, mrkOk m = true
theorem rnums_of {r : Rws} (h : r.valid = true) : r.Nums := by
  unfold Rws.valid at h
  simp only [Bool.and_eq_true, inR, Spn.ok, decide_eq_true_eq, List.all_eq_true, List.mem_append] at h
  obtain ⟨⟨⟨⟨a, b⟩, c⟩, d⟩, e⟩ := h
  exact ⟨a, b, by omega, by omega, by omega, by omega, by omega, fun m hm => c m (.inl hm), fun m hm => c m (.inr hm)⟩
/-- Numbers of whatever mark are small. -/
structure Mrk.Sm (m : Mrk) : Prop where
  a : 0 ≤ m.pos.lo ∧ m.pos.lo ≤ 65536
  b : 0 ≤ m.pos.hi ∧ m.pos.hi ≤ 65536
  c : 0 ≤ m.tone.lo ∧ m.tone.lo ≤ 1000
  d : 0 ≤ m.tone.hi ∧ m.tone.hi ≤ 1000
  e : m.pos.lo ≤ m.pos.hi
  f : m.tone.lo ≤ m.tone.hi
theorem mrk_small {m : Mrk} (h : mrkOk m = true) : m.Sm := by
  unfold mrkOk Spn.ok at h
  simp only [Bool.and_eq_true, decide_eq_true_eq] at h
  constructor <;> omega
set_option maxRecDepth 100000 in
set_option maxHeartbeats 2000000 in
theorem bad59 {m : Mrk} (h : mrkOk m = true) (w : World) : Calls Tryd.prog 89 #[m.v] w fun e w' => e = .returned (.bool false) ∧ Below w.heap.size w w' := by
  have HX := Lib.hid (And.intro (World.alloc_heap_new w (.cells m.arr 30)) (alloc_below w (.cells m.arr 30)))
  have HM : Hid (m.pos.ok 0 65536 = true ∧ m.tone.ok 0 1000 = true) := by
    unfold mrkOk at h
    simp only [Bool.and_eq_true] at h
    exact h
  clear h
  go_enter Tryd.func89, Tryd.ntmps89
  refine wp_seq_hid ?_
  intro K0 HK0
  go_wp2_with fail
  refine HK0.out _ _ ?_
  clear HK0 K0
  revert HX
  generalize w.alloc (.cells m.arr 30) = w1
  intro HX
  have k0 : w1.cell? ⟨w.heap.size, 0, none⟩ = some (.int .i64 m.pos.lo) := by rw [cell_of_heap HX.out.1]; rfl
  have k1 : w1.cell? ⟨w.heap.size, 1, none⟩ = some (.int .i64 m.pos.hi) := by rw [cell_of_heap HX.out.1]; rfl
  go_wp2_with fail
  refine (isSpan60 m.pos _ _ _).mono ?_
  clear k0 k1
  rintro e w2 ⟨rfl, hb⟩
  rw [HM.out.1]
  have HB := Lib.hid (And.intro (HX.out.2.trans (hb.mono HX.out.2.size)) ((hb.block _ (heap_lt HX.out.1)).trans HX.out.1))
  clear hb
  have k2 : w2.cell? ⟨w.heap.size, 2, none⟩ = some (.int .i64 m.tone.lo) := by rw [cell_of_heap HB.out.2]; rfl
  have k3 : w2.cell? ⟨w.heap.size, 3, none⟩ = some (.int .i64 m.tone.hi) := by rw [cell_of_heap HB.out.2]; rfl
  go_wp2_with fail
  refine (isSpan60 m.tone _ _ _).mono ?_
  clear k2 k3
  rintro e w3 ⟨rfl, hb⟩
  rw [HM.out.2]
  have HC := Lib.hid (HB.out.1.trans (hb.mono HB.out.1.size))
  clear hb
  go_wp2_with fail
  go_ret
  exact ⟨rfl, HC.out⟩
theorem cf59 (args : Array Value) (w : World) : (callFunc 89 args).run Tryd.prog w = .ok (.enter 89 args) w := by simp [callFunc, Tryd.func89, Tryd.f89, go_sem]
theorem index78 {l : List Mrk} {a : Option Addr} {c : Nat} {w : World} (ha : IsMks w a l) (hl : l.length ≤ 1000000) (hm : ∀ m ∈ l, mrkOk m = true) :
    Calls Tryd.prog 108 #[.slice a l.length c, .func (.func 89) #[] #[]] w fun e w' => e = .returned (.int .i64 (-1)) ∧ Below w.heap.size w w' := by
  have HB := Lib.hid (And.intro ha hm)
  have cf := cf59
  clear ha hm
  go_enter Tryd.func108, Tryd.ntmps108
  go_wp2_with fail
  go_loopw [8] (fun i wr => ∃ k : Nat, k ≤ l.length ∧ i = .int .i64 k ∧ Hid (Below w.heap.size w wr)) (fun i _ => l.length - (intOf i).toNat)
  case atStart => exact ⟨0, by omega, rfl, Below.refl _ _⟩
  case round =>
    obtain ⟨k, hk, rfl, HW⟩ := hrel
    by_cases hlt : k < l.length
    · obtain ⟨b, off, hab, c0, c1, c2, c3⟩ := (HB.out.1.mono HW.out) k hlt
      subst hab
      have HC := Lib.hid (fun v => bad59 (m := gm l k) (HB.out.2 _ (gm_mem hlt)) v)
      revert HC c0 c1 c2 c3
      generalize gm l k = x
      intro c0 c1 c2 c3 HC
      go_wp2_with fail
      refine (HC.out _).mono ?_
      rintro e w' ⟨rfl, hb⟩
      have HB2 := Lib.hid (HW.out.trans (hb.mono HW.out.size))
      clear hb c0 c1 c2 c3
      go_wp2_with fail
      go_roundw
      case rel => exact ⟨k + 1, by omega, by go_num, HB2.out⟩
      case measure => simp [intOf]; omega
    · go_wp2_with fail
      go_ret
      exact ⟨rfl, HW.out⟩
theorem has61 {l : List Mrk} {a : Option Addr} {c : Nat} {w : World} (ha : IsMks w a l) (hl : l.length ≤ 1000000) (hm : ∀ m ∈ l, mrkOk m = true) :
    Calls Tryd.prog 91 #[.slice a l.length c, .func (.func 89) #[] #[]] w fun e w' => e = .returned (.bool false) ∧ Below w.heap.size w w' := by
  have HC := Lib.hid (index78 (c := c) ha hl hm)
  clear ha hm
  go_enter Tryd.func91, Tryd.ntmps91
  go_wp2_with fail
  refine HC.out.mono ?_
  rintro e w' ⟨rfl, hb⟩
  have HB2 := Lib.hid hb
  clear hb
  go_wp2_with fail
  go_ret
  exact ⟨rfl, HB2.out⟩
end Go.Proofs.YtbnhngfegnhaiaaDoor
namespace Go.Proofs.YtbnhngfegnhaiaaDoor
open Go.RowKit Go.WideShapes Go.ChangeShapes
section
variable {H : Type} {enc : TypeId × Value → H} {P : Program}
theorem post_of_below {f : Func} {s : ChangeSpec} {apart fresh handsOn again : Bool} {W W' : World} {args : Array Value} {v : Value} {ds gs : List (DataW H)} {before pa pv : List MemPlace}
    (hW : DataW.Whole enc P f.params.toList s.vars apart W args.toList ds gs before)
    (hres : ∀ (b : Nat) (sp : Nat → Bool) (hd : Bool), DataW.TrodAll enc P W' b sp hd f.resultTypes.toList (v.resultList f.resultTypes.size) (s.fn H (ds ++ gs)).results [])
    (hargs : ∀ sp : Nat → Bool, (∀ p ∈ before, sp p.block = true) → DataW.TrodAll enc P W' 0 sp true f.params.toList args.toList (s.fn H (ds ++ gs)).args pa)
    (hvars : ∀ sp : Nat → Bool, (∀ p ∈ before, sp p.block = true) → DataW.TrodVars enc P W' sp s.vars (s.fn H (ds ++ gs)).vars pv)
    (hps : before = pa ++ pv) (hb : Below W.heap.size W W')
    (hok : ∀ (j : Nat) (t : TypeId) (r : Value), f.resultTypes[j]? = some t → (v.resultList f.resultTypes.size)[j]? = some r → Value.okWide P W' .any 0 t r) :
    s.post enc P f apart fresh handsOn again W args v W' := by
  have hlt : ∀ p ∈ before, p.block < W.heap.size := fun p hp => hW.lt p hp
  have hold : ∀ p ∈ before, (fun b => decide (b < W.heap.size)) p.block = true := fun p hp => by simpa using hlt p hp
  refine ⟨ds, gs, before, [], pa, pv, hW, hres _ _ _, hargs _ hold, hvars _ hold, World.keptBut_mono (fun p hp => ⟨hp, ?_⟩) (hb.frame (· ∈ before)), fun _ => ?_⟩
  · rw [hps, List.mem_append] at hp
    exact Or.inr hp
  · obtain ⟨_, _, _, _, _, hz, hn⟩ := hW
    refine ⟨hok, _, _, ([] ++ pa) ++ pv, ⟨[] ++ pa, pv, trodAll_append (hargs _ (fun _ _ => rfl)) (hres _ _ _), hvars _ (fun _ _ => rfl), rfl, ?_, ?_⟩, ?_⟩
    · intro b off hp
      have hin : MemPlace.cell b off ∈ before := by rw [hps]; simpa using hp
      rw [hb.frozen (hlt _ hin)]
      exact hz b off hin
    · intro ha
      have := hn ha
      rw [hps] at this
      simpa using this
    · intro p hp _
      rw [hps]
      simpa using hp
end
end Go.Proofs.YtbnhngfegnhaiaaDoor
namespace Go.Proofs.YtbnhngfegnhaiaaDoor
open Go.ChangeShapes Go.WideShapes Go.ChangeAt Go.Deep Go.RowKit Go.Joins
set_option linter.unusedVariables false
theorem Tryd.laidOut : laidOutB Tryd.prog = true := by kernel_rfl
theorem Tryd.cells3 : Tryd.prog.cellsOf 3 = 1 := by kernel_rfl
theorem Tryd.cells24 : Tryd.prog.cellsOf 24 = 2 := by kernel_rfl
theorem Tryd.cells22 : Tryd.prog.cellsOf 22 = 1 := by kernel_rfl
theorem Tryd.cells26 : Tryd.prog.cellsOf 26 = 5 := by kernel_rfl
theorem Tryd.cells30 : Tryd.prog.cellsOf 30 = 4 := by kernel_rfl
theorem Tryd.cells54 : Tryd.prog.cellsOf 54 = 6 := by kernel_rfl
theorem add_at (b o i : Nat) : (⟨b, o, none⟩ : Addr).add i = ⟨b, o + i, none⟩ := by
  unfold Addr.add
  split
  · rename_i h; subst h; rfl
  · rfl
theorem spotless {w : World} {a : Addr} {v : Value} (h : w.cell? a = some v) : a = ⟨a.block, a.off, none⟩ := by
  obtain ⟨b, o, s⟩ := a
  cases s with
  | none => rfl
  | some s =>
    exfalso
    simp only [World.cell?] at h
    split at h <;> simp at h
theorem add_zero' (a : Addr) : a.add 0 = a := rfl
section
variable {H : Type} {enc : TypeId × Value → H} {w : World} {base : Nat} {spare : Nat → Bool} {held : Bool}
set_option maxRecDepth 100000 in
theorem trod_c1 {t : TypeId} {fuel : Nat} {cs : List Value} {x : DataW H × List MemPlace} (ht : Tryd.prog.underlying t = some (.int .i64)) (h : DataW.trod enc Tryd.prog w base spare held fuel t cs = some x) :
    ∃ n, cs = [.int .i64 n] := by
  obtain ⟨n, h1, _, h3⟩ := DataW.trod_int ht h
  exact ⟨n, h1⟩
theorem spotted {t m len : Nat} {a : Addr} {D : Nat → DataW H} {Pl : Nat → List MemPlace} {n : Nat} (hc0 : 0 < Tryd.prog.cellsOf t) (hle : len ≤ m)
    (hi : ∀ i, i < m → ∃ cs', w.cells? base (a.add (i * Tryd.prog.cellsOf t)) (Tryd.prog.cellsOf t) = some cs' ∧ DataW.trod enc Tryd.prog w base spare held n t cs' = some (D i, Pl i)) (h : 0 < len) : a = ⟨a.block, a.off, none⟩ := by
  obtain ⟨cs, hc, hd⟩ := hi 0 (by omega)
  obtain ⟨_, hcl, hat⟩ := World.cells?_some hc
  have h0 := hat 0 hc0
  rw [Nat.zero_mul, add_zero', add_zero'] at h0
  have : ∃ v, w.cell? a = some v := by
    cases cs with
    | nil => simp at hcl; omega
    | cons x r => exact ⟨x, h0⟩
  obtain ⟨v, hv⟩ := this
  exact spotless hv
set_option maxRecDepth 100000 in
theorem trod_span {fuel : Nat} {cs : List Value} {x : DataW H × List MemPlace} (h : DataW.trod enc Tryd.prog w base spare held fuel 24 cs = some x) :
    ∃ q : Spn, cs = [.int .i64 q.lo, .int .i64 q.hi] := by
  obtain ⟨xs, n, _, _, hl, hx, hf⟩ := DataW.trod_struct Tryd.underlying24 h
  rw [Tryd.cells24] at hl
  have hx : xs.length = 2 := hx
  match cs, hl, xs, hx with
  | [c0, c1], _, [x0, x1], _ =>
    have f0 : DataW.trod enc Tryd.prog w base spare held n 3 (([c0, c1].drop 0).take (Tryd.prog.cellsOf 3)) = some x0 := hf 0 _ rfl
    have f1 : DataW.trod enc Tryd.prog w base spare held n 3 (([c0, c1].drop 1).take (Tryd.prog.cellsOf 3)) = some x1 := hf 1 _ rfl
    rw [Tryd.cells3] at f0
    rw [Tryd.cells3] at f1
    obtain ⟨a, h0⟩ := trod_c1 Tryd.underlying3 f0
    obtain ⟨b, h1⟩ := trod_c1 Tryd.underlying3 f1
    simp only [List.drop_succ_cons, List.drop_zero, List.take_succ_cons, List.take_zero, List.cons.injEq, and_true] at h0 h1
    exact ⟨⟨a, b⟩, by rw [h0, h1]⟩
set_option maxRecDepth 100000 in
theorem trod_mrk {fuel : Nat} {cs : List Value} {x : DataW H × List MemPlace} (h : DataW.trod enc Tryd.prog w base spare held fuel 30 cs = some x) :
    ∃ m : Mrk, cs = [.int .i64 m.pos.lo, .int .i64 m.pos.hi, .int .i64 m.tone.lo, .int .i64 m.tone.hi] := by
  obtain ⟨xs, n, _, _, hl, hx, hf⟩ := DataW.trod_struct Tryd.underlying30 h
  rw [Tryd.cells30] at hl
  have hx : xs.length = 2 := hx
  match cs, hl, xs, hx with
  | [c0, c1, c2, c3], _, [x0, x1], _ =>
    have f0 : DataW.trod enc Tryd.prog w base spare held n 24 (([c0, c1, c2, c3].drop 0).take (Tryd.prog.cellsOf 24)) = some x0 := hf 0 _ rfl
    have f1 : DataW.trod enc Tryd.prog w base spare held n 24 (([c0, c1, c2, c3].drop 2).take (Tryd.prog.cellsOf 24)) = some x1 := hf 1 _ rfl
    rw [Tryd.cells24] at f0
    rw [Tryd.cells24] at f1
    obtain ⟨x, h0⟩ := trod_span f0
    obtain ⟨y, h1⟩ := trod_span f1
    simp only [List.drop_succ_cons, List.drop_zero, List.take_succ_cons, List.take_zero, List.cons.injEq, and_true] at h0 h1
    obtain ⟨e0, e1⟩ := h0
    obtain ⟨e2, e3⟩ := h1
    exact ⟨⟨x, y⟩, by rw [e0, e1, e2, e3]⟩
set_option maxRecDepth 100000 in
theorem open_mksL {fuel : Nat} {v : Value} {x : DataW H × List MemPlace} (h : DataW.trod enc Tryd.prog w base spare held fuel 22 [v] = some x) :
    ∃ (a : Option Addr) (l : List Mrk) (cap : Nat), v = .slice a l.length cap ∧ IsMks w a l := by
  rcases open_slice Tryd.underlying22 h with ⟨h1, _⟩ | ⟨a, len, cap, m, n, D, Pl, h1, _, hl, hm, hmm, _, hi⟩
  · simp only [List.cons.injEq, and_true] at h1
    exact ⟨none, [], 0, h1, fun i hi => by simp at hi⟩
  · simp only [List.cons.injEq, and_true] at h1
    have hle : len ≤ m := by rw [hmm]; split <;> omega
    have hs := spotted (by rw [Tryd.cells30]; decide) hle hi
    have each : ∀ i, ∃ m : Mrk, i < len → a = ⟨a.block, a.off, none⟩ ∧ MrkC w a.block (a.off + i * 4) m := by
      intro i
      by_cases hil : i < len
      · have hs := hs (by omega)
        obtain ⟨cs, hc, hd⟩ := hi i (by omega)
        rw [Tryd.cells30] at hc
        obtain ⟨_, hcl, hat⟩ := World.cells?_some hc
        obtain ⟨m, rfl⟩ := trod_mrk hd
        have hh : ∀ k (hk : k < 4), w.cell? ⟨a.block, a.off + i * 4 + k, none⟩ = some ([.int .i64 m.pos.lo, .int .i64 m.pos.hi, .int .i64 m.tone.lo, .int .i64 m.tone.hi][k]'hk) := fun k hk => by
          have h0 := hat k hk
          rw [hs, add_at, add_at] at h0
          rw [h0]
          exact List.getElem?_eq_getElem hk
        exact ⟨m, fun _ => ⟨hs, hh 0 (by decide), hh 1 (by decide), hh 2 (by decide), hh 3 (by decide)⟩⟩
      · exact ⟨mrk0, fun h => absurd h hil⟩
    obtain ⟨f, hf⟩ := Classical.axiomOfChoice each
    refine ⟨some a, (List.range len).map f, cap, by rw [h1]; simp, fun i hi => ?_⟩
    have hi' : i < len := by simpa using hi
    obtain ⟨hs, h0⟩ := hf i hi'
    refine ⟨a.block, a.off, by rw [← hs], ?_⟩
    have : gm ((List.range len).map f) i = f i := by simp [gm, hi']
    rw [this]
    exact h0
set_option maxRecDepth 100000 in
theorem trod_rws {fuel : Nat} {cs : List Value} {x : DataW H × List MemPlace} (h : DataW.trod enc Tryd.prog w base spare held fuel 26 cs = some x) :
    ∃ (r : Rws) (al : Option Addr) (cl : Nat) (ar : Option Addr) (cr : Nat), cs = [.slice al r.left.length cl, .slice ar r.right.length cr, .int .i64 r.shift.lo, .int .i64 r.shift.hi, .int .i64 r.hidden] ∧ IsMks w al r.left ∧ IsMks w ar r.right := by
  obtain ⟨xs, n, _, _, hl, hx, hf⟩ := DataW.trod_struct Tryd.underlying26 h
  rw [Tryd.cells26] at hl
  have hx : xs.length = 4 := hx
  match cs, hl, xs, hx with
  | [c0, c1, c2, c3, c4], _, [x0, x1, x2, x3], _ =>
    have f0 : DataW.trod enc Tryd.prog w base spare held n 22 (([c0, c1, c2, c3, c4].drop 0).take (Tryd.prog.cellsOf 22)) = some x0 := hf 0 _ rfl
    have f1 : DataW.trod enc Tryd.prog w base spare held n 22 (([c0, c1, c2, c3, c4].drop 1).take (Tryd.prog.cellsOf 22)) = some x1 := hf 1 _ rfl
    have f2 : DataW.trod enc Tryd.prog w base spare held n 24 (([c0, c1, c2, c3, c4].drop 2).take (Tryd.prog.cellsOf 24)) = some x2 := hf 2 _ rfl
    have f3 : DataW.trod enc Tryd.prog w base spare held n 3 (([c0, c1, c2, c3, c4].drop 4).take (Tryd.prog.cellsOf 3)) = some x3 := hf 3 _ rfl
    rw [Tryd.cells22] at f0
    rw [Tryd.cells22] at f1
    rw [Tryd.cells24] at f2
    rw [Tryd.cells3] at f3
    obtain ⟨al, l, cl, h0, hml⟩ := open_mksL f0
    obtain ⟨ar, rr, cr, h1, hmr⟩ := open_mksL f1
    obtain ⟨sh, h2⟩ := trod_span f2
    obtain ⟨hd, h3⟩ := trod_c1 Tryd.underlying3 f3
    simp only [List.drop_succ_cons, List.drop_zero, List.take_succ_cons, List.take_zero, List.cons.injEq, and_true] at h0 h1 h2 h3
    obtain ⟨e2, e3⟩ := h2
    exact ⟨⟨l, rr, sh, hd⟩, al, cl, ar, cr, by rw [h0, h1, e2, e3, h3], hml, hmr⟩
set_option maxRecDepth 100000 in
theorem open_can {b0 : Nat} {v : Value} {d : DataW H} {q : List MemPlace} (hv : Value.okWide Tryd.prog w .any b0 54 v) (h : DataW.Trod enc Tryd.prog w base spare held 54 v d q) :
    ∃ (r : Rws) (al : Option Addr) (cl : Nat) (ar : Option Addr) (cr : Nat) (pn : Int), v = .agg #[.slice al r.left.length cl, .slice ar r.right.length cr, .int .i64 r.shift.lo, .int .i64 r.shift.hi, .int .i64 r.hidden, .int .i64 pn] ∧ IsMks w al r.left ∧ IsMks w ar r.right := by
  obtain ⟨cs, rfl, hsz⟩ := okWide_struct Tryd.underlying54 hv
  rw [Tryd.cells54] at hsz
  obtain ⟨fuel, hf⟩ := h
  obtain ⟨xs, n, _, _, hl, hx, hf⟩ := DataW.trod_struct Tryd.underlying54 hf
  have hx : xs.length = 2 := hx
  obtain ⟨l⟩ := cs
  have hsz : l.length = 6 := hsz
  match l, hsz, xs, hx with
  | [c0, c1, c2, c3, c4, c5], _, [x0, x1], _ =>
    have f0 : DataW.trod enc Tryd.prog w base spare held n 26 (([c0, c1, c2, c3, c4, c5].drop 0).take (Tryd.prog.cellsOf 26)) = some x0 := hf 0 _ rfl
    have f1 : DataW.trod enc Tryd.prog w base spare held n 3 (([c0, c1, c2, c3, c4, c5].drop 5).take (Tryd.prog.cellsOf 3)) = some x1 := hf 1 _ rfl
    rw [Tryd.cells26] at f0
    rw [Tryd.cells3] at f1
    obtain ⟨r, al, cl, ar, cr, h0, hml, hmr⟩ := trod_rws f0
    obtain ⟨pn, h1⟩ := trod_c1 Tryd.underlying3 f1
    simp only [List.drop_succ_cons, List.drop_zero, List.take_succ_cons, List.take_zero, List.cons.injEq, and_true] at h0 h1
    obtain ⟨rfl, rfl, rfl, rfl, rfl⟩ := h0
    subst h1
    exact ⟨r, al, cl, ar, cr, pn, rfl, hml, hmr⟩
end
end Go.Proofs.YtbnhngfegnhaiaaDoor
namespace Go.Proofs.YtbnhngfegnhaiaaDoor
def chain (F : Nat → Nat → Bool) (n m : Nat) : Nat → Nat → List (Nat × Nat) → Prop
  | _, _, [] => True
  | i, k, p :: t => i ≤ p.1 ∧ p.1 < n ∧ k ≤ p.2 ∧ p.2 < m ∧ F p.1 p.2 = true ∧ chain F n m (p.1 + 1) (p.2 + 1) t
theorem ms_a0 (F : Nat → Nat → Bool) (n m b : Nat) : mst F n m 0 b = 0 := rfl
theorem ms_b0 (F : Nat → Nat → Bool) (n m : Nat) : ∀ a, mst F n m a 0 = 0
  | 0 => rfl
  | _ + 1 => rfl
theorem ms_step (F : Nat → Nat → Bool) (n m a b : Nat) : mst F n m (a + 1) (b + 1) = if F (n - (a + 1)) (m - (b + 1)) then max (max (mst F n m a (b + 1)) (mst F n m (a + 1) b)) (1 + mst F n m a b) else max (mst F n m a (b + 1)) (mst F n m (a + 1) b) := rfl
theorem ms_left (F : Nat → Nat → Bool) (n m a : Nat) : ∀ b, mst F n m a b ≤ mst F n m (a + 1) b
  | 0 => by rw [ms_b0, ms_b0]; exact Nat.le_refl 0
  | b + 1 => by
    rw [ms_step]
    by_cases h : F (n - (a + 1)) (m - (b + 1)) = true
    · rw [if_pos h]; omega
    · rw [if_neg h]; omega
theorem ms_right (F : Nat → Nat → Bool) (n m b : Nat) : ∀ a, mst F n m a b ≤ mst F n m a (b + 1)
  | 0 => by rw [ms_a0, ms_a0]; exact Nat.le_refl 0
  | a + 1 => by
    rw [ms_step]
    by_cases h : F (n - (a + 1)) (m - (b + 1)) = true
    · rw [if_pos h]; omega
    · rw [if_neg h]; omega
theorem ms_take {F : Nat → Nat → Bool} {n m a b : Nat} (h : F (n - (a + 1)) (m - (b + 1)) = true) : 1 + mst F n m a b ≤ mst F n m (a + 1) (b + 1) := by
  rw [ms_step, if_pos h]; omega
theorem ms_up (F : Nat → Nat → Bool) (n m a b : Nat) : ∀ c d, mst F n m a b ≤ mst F n m (a + c) (b + d)
  | 0, 0 => Nat.le_refl _
  | 0, d + 1 => Nat.le_trans (ms_up F n m a b 0 d) (ms_right F n m (b + d) (a + 0))
  | c + 1, d => Nat.le_trans (ms_up F n m a b c d) (ms_left F n m (a + c) (b + d))
theorem ms_mono {F : Nat → Nat → Bool} {n m a b c d : Nat} (h1 : a ≤ c) (h2 : b ≤ d) : mst F n m a b ≤ mst F n m c d := by
  have := ms_up F n m a b (c - a) (d - b)
  rwa [show a + (c - a) = c by omega, show b + (d - b) = d by omega] at this
theorem chain_le {F : Nat → Nat → Bool} {n m : Nat} : ∀ {l : List (Nat × Nat)} {i k : Nat}, chain F n m i k l → l.length ≤ mst F n m (n - i) (m - k)
  | [], _, _, _ => Nat.zero_le _
  | p :: t, i, k, h => by
    obtain ⟨h1, h2, h3, h4, h5, h6⟩ := h
    have e := chain_le h6
    have e2 : F (n - ((n - (p.1 + 1)) + 1)) (m - ((m - (p.2 + 1)) + 1)) = true := by
      rw [show n - ((n - (p.1 + 1)) + 1) = p.1 by omega, show m - ((m - (p.2 + 1)) + 1) = p.2 by omega]; exact h5
    have e3 := ms_take (F := F) (n := n) (m := m) (a := n - (p.1 + 1)) (b := m - (p.2 + 1)) e2
    have e4 := ms_mono (F := F) (n := n) (m := m) (a := n - (p.1 + 1) + 1) (b := m - (p.2 + 1) + 1) (c := n - i) (d := m - k) (by omega) (by omega)
    simp only [List.length_cons]
    omega
theorem ms_pick (F : Nat → Nat → Bool) (n m : Nat) : ∀ (a b x : Nat), a ≤ n → b ≤ m → mst F n m a b = x + 1 → ∃ i k, n - a ≤ i ∧ i < n ∧ m - b ≤ k ∧ k < m ∧ F i k = true ∧ mst F n m (n - (i + 1)) (m - (k + 1)) = x
  | 0, b, x, _, _, h => by rw [ms_a0] at h; omega
  | a + 1, 0, x, _, _, h => by rw [ms_b0] at h; omega
  | a + 1, b + 1, x, ha, hb, h => by
    by_cases h1 : mst F n m a (b + 1) = x + 1
    · obtain ⟨i, k, g1, g2, g3, g4, g5, g6⟩ := ms_pick F n m a (b + 1) x (by omega) hb h1
      exact ⟨i, k, by omega, g2, g3, g4, g5, g6⟩
    · by_cases h2 : mst F n m (a + 1) b = x + 1
      · obtain ⟨i, k, g1, g2, g3, g4, g5, g6⟩ := ms_pick F n m (a + 1) b x ha (by omega) h2
        exact ⟨i, k, g1, g2, by omega, g4, g5, g6⟩
      · rw [ms_step] at h
        by_cases h3 : F (n - (a + 1)) (m - (b + 1)) = true
        · rw [if_pos h3] at h
          refine ⟨n - (a + 1), m - (b + 1), by omega, by omega, by omega, by omega, h3, ?_⟩
          rw [show n - (n - (a + 1) + 1) = a by omega, show m - (m - (b + 1) + 1) = b by omega]
          omega
        · rw [if_neg h3] at h
          omega
theorem mem_pairs {F : Nat → Nat → Bool} {n m i k : Nat} {p : Nat × Nat} : p ∈ pairsFrom F n m i k ↔ i ≤ p.1 ∧ p.1 < n ∧ k ≤ p.2 ∧ p.2 < m ∧ F p.1 p.2 = true := by
  unfold pairsFrom
  rw [List.mem_flatMap]
  constructor
  · rintro ⟨a, ha, hp⟩
    rw [List.mem_map] at hp
    obtain ⟨b, hb, rfl⟩ := hp
    rw [List.mem_filter] at hb
    rw [List.mem_range'_1] at ha hb
    exact ⟨by omega, by omega, by omega, by omega, hb.2⟩
  · rintro ⟨h1, h2, h3, h4, h5⟩
    refine ⟨p.1, by rw [List.mem_range'_1]; omega, ?_⟩
    rw [List.mem_map]
    exact ⟨p.2, by rw [List.mem_filter, List.mem_range'_1]; exact ⟨by omega, h5⟩, rfl⟩
/-- Is this the next pair of a way with so many more? -/
def goodP (F : Nat → Nat → Bool) (n m x : Nat) (p : Nat × Nat) : Bool := decide (1 + mst F n m (n - (p.1 + 1)) (m - (p.2 + 1)) = x)
/-- The way with the fewest hidden marks: from two marks on, with so many pairs. -/
def fewL (F : Nat → Nat → Bool) (n m : Nat) : Nat → Nat → Nat → List (Nat × Nat)
  | 0, _, _ => []
  | x + 1, i, k => match (pairsFrom F n m i k).find? (goodP F n m (x + 1)) with
    | some p => p :: fewL F n m x (p.1 + 1) (p.2 + 1)
    | none => fewL F n m x i k
theorem few_find {F : Nat → Nat → Bool} {n m i k x : Nat} (hi : i ≤ n) (hk : k ≤ m) (h : mst F n m (n - i) (m - k) = x + 1) :
    ∃ p, (pairsFrom F n m i k).find? (goodP F n m (x + 1)) = some p ∧ i ≤ p.1 ∧ p.1 < n ∧ k ≤ p.2 ∧ p.2 < m ∧ F p.1 p.2 = true ∧ mst F n m (n - (p.1 + 1)) (m - (p.2 + 1)) = x := by
  cases hf : (pairsFrom F n m i k).find? (goodP F n m (x + 1)) with
  | none =>
    exfalso
    obtain ⟨a, b, g1, g2, g3, g4, g5, g6⟩ := ms_pick F n m _ _ x (by omega) (by omega) h
    rw [List.find?_eq_none] at hf
    refine hf (a, b) (mem_pairs.2 ⟨by omega, g2, by omega, g4, g5⟩) ?_
    simp only [goodP, decide_eq_true_eq]
    omega
  | some p =>
    have h1 := List.mem_of_find?_eq_some hf
    have h2 := List.find?_some hf
    simp only [goodP, decide_eq_true_eq] at h2
    obtain ⟨g1, g2, g3, g4, g5⟩ := mem_pairs.1 h1
    exact ⟨p, rfl, g1, g2, g3, g4, g5, by omega⟩
theorem few_ok {F : Nat → Nat → Bool} {n m : Nat} : ∀ (x i k : Nat), i ≤ n → k ≤ m → mst F n m (n - i) (m - k) = x → chain F n m i k (fewL F n m x i k) ∧ (fewL F n m x i k).length = x
  | 0, _, _, _, _, _ => ⟨trivial, rfl⟩
  | x + 1, i, k, hi, hk, h => by
    obtain ⟨p, hf, g1, g2, g3, g4, g5, g6⟩ := few_find hi hk h
    obtain ⟨h1, h2⟩ := few_ok x (p.1 + 1) (p.2 + 1) (by omega) (by omega) g6
    unfold fewL
    rw [hf]
    exact ⟨⟨g1, g2, g3, g4, g5, h1⟩, by simp [h2]⟩
theorem is_iff {F : Nat → Nat → Bool} {n m : Nat} {need : Int} : isE F n m need = true ↔ ∃ l, chain F n m 0 0 l ∧ need ≤ (l.length : Int) := by
  unfold isE
  rw [decide_eq_true_eq]
  constructor
  · intro h
    obtain ⟨h1, h2⟩ := few_ok (F := F) (n := n) (m := m) (mst F n m n m) 0 0 (by omega) (by omega) (by simp)
    exact ⟨_, h1, by rw [h2]; exact h⟩
  · rintro ⟨l, h1, h2⟩
    have := chain_le h1
    simp only [Nat.sub_zero] at this
    omega
theorem chain_low {F : Nat → Nat → Bool} {n m : Nat} : ∀ {l : List (Nat × Nat)} {i k : Nat}, chain F n m i k l → ∀ p ∈ l, i ≤ p.1 ∧ p.1 < n ∧ k ≤ p.2 ∧ p.2 < m ∧ F p.1 p.2 = true
  | [], _, _, _, p, hp => by cases hp
  | q :: t, i, k, h, p, hp => by
    obtain ⟨h1, h2, h3, h4, h5, h6⟩ := h
    rcases List.mem_cons.1 hp with rfl | hp
    · exact ⟨h1, h2, h3, h4, h5⟩
    · obtain ⟨g1, g2, g3, g4, g5⟩ := chain_low h6 p hp
      exact ⟨by omega, g2, by omega, g4, g5⟩
theorem chain_two {F : Nat → Nat → Bool} {n m : Nat} : ∀ {l : List (Nat × Nat)} {i k : Nat}, chain F n m i k l → ∀ p ∈ l, ∀ q ∈ l, p = q ∨ (p.1 < q.1 ∧ p.2 < q.2) ∨ (q.1 < p.1 ∧ q.2 < p.2)
  | [], _, _, _, p, hp, _, _ => by cases hp
  | x :: t, i, k, h, p, hp, q, hq => by
    obtain ⟨h1, h2, h3, h4, h5, h6⟩ := h
    rcases List.mem_cons.1 hp with e1 | hp2 <;> rcases List.mem_cons.1 hq with e2 | hq2
    · exact Or.inl (e1.trans e2.symm)
    · subst e1
      obtain ⟨g1, _, g3, _⟩ := chain_low h6 q hq2
      exact Or.inr (Or.inl ⟨by omega, by omega⟩)
    · subst e2
      obtain ⟨g1, _, g3, _⟩ := chain_low h6 p hp2
      exact Or.inr (Or.inr ⟨by omega, by omega⟩)
    · exact chain_two h6 p hp2 q hq2
theorem chain_to {F G : Nat → Nat → Bool} {n m : Nat} : ∀ {l : List (Nat × Nat)} {i k : Nat}, chain F n m i k l → (∀ p ∈ l, G p.1 p.2 = true) → chain G n m i k l
  | [], _, _, _, _ => trivial
  | x :: t, i, k, h, hg => by
    obtain ⟨h1, h2, h3, h4, h5, h6⟩ := h
    exact ⟨h1, h2, h3, h4, hg x (by simp), chain_to h6 fun p hp => hg p (by simp [hp])⟩
/-- Each pair of a way can be one. -/
theorem can_of {F : Nat → Nat → Bool} {n m : Nat} {need : Int} {l : List (Nat × Nat)} {p : Nat × Nat} (h : chain F n m 0 0 l) (hn : need ≤ (l.length : Int)) (hp : p ∈ l) : canE F n m need p.1 p.2 = true := by
  unfold canE
  rw [Bool.and_eq_true]
  refine ⟨(chain_low h p hp).2.2.2.2, is_iff.2 ⟨l, chain_to h fun q hq => ?_, hn⟩⟩
  unfold own
  rw [Bool.and_eq_true]
  refine ⟨(chain_low h q hq).2.2.2.2, ?_⟩
  rcases chain_two h p hp q hq with rfl | ⟨h1, h2⟩ | ⟨h1, h2⟩
  · simp [apart]
  · have e1 : ¬ q.1 < p.1 := by omega
    have e2 : ¬ q.2 < p.2 := by omega
    have e3 : ¬ q.1 = p.1 := by omega
    have e4 : ¬ q.2 = p.2 := by omega
    simp [apart, e1, e2, e3, e4]
  · have e3 : ¬ q.1 = p.1 := by omega
    have e4 : ¬ q.2 = p.2 := by omega
    simp [apart, h1, h2, e3, e4]
/-- Is a left mark, or a right one, hidden in some way? -/
def hidF (F : Nat → Nat → Bool) (left right : Int) (a b : Nat) : Bool := F a b && !(decide ((a : Int) = left) || decide ((b : Int) = right))
def hidE (F : Nat → Nat → Bool) (n m : Nat) (need left right : Int) : Bool := isE (hidF F left right) n m need
def ones (p : Nat → Bool) : Nat → Nat
  | 0 => 0
  | k + 1 => ones p k + if p k then 1 else 0
/-- The first number of which something is so. -/
def firstN (p : Nat → Bool) : Nat → Nat
  | 0 => 0
  | k + 1 => if ones p k = 0 then k else firstN p k
theorem ones_zero {p : Nat → Bool} : ∀ {m : Nat}, ones p m = 0 → ∀ k, k < m → p k = false
  | 0, _, k, hk => by omega
  | m + 1, h, k, hk => by
    unfold ones at h
    cases hp : p m
    · rw [hp] at h
      by_cases hkm : k = m
      · rw [hkm]; exact hp
      · exact ones_zero (m := m) (by simpa using h) k (by omega)
    · rw [hp] at h
      simp at h
theorem ones_one {p : Nat → Bool} : ∀ {m : Nat}, ones p m = 1 → firstN p m < m ∧ p (firstN p m) = true ∧ ∀ k, k < m → p k = true → k = firstN p m
  | 0, h => by simp [ones] at h
  | m + 1, h => by
    unfold ones at h
    by_cases h0 : ones p m = 0
    · have hp : p m = true := by
        cases hp : p m
        · rw [hp, h0] at h; simp at h
        · rfl
      unfold firstN
      rw [if_pos h0]
      refine ⟨by omega, hp, fun k hk hpk => ?_⟩
      by_cases hkm : k = m
      · exact hkm
      · have := ones_zero h0 k (by omega)
        rw [this] at hpk; cases hpk
    · have hp : p m = false := by
        cases hp : p m
        · rfl
        · rw [hp] at h; simp at h; omega
      rw [hp] at h
      obtain ⟨g1, g2, g3⟩ := ones_one (m := m) (p := p) (by simpa using h)
      unfold firstN
      rw [if_neg h0]
      refine ⟨by omega, g2, fun k hk hpk => ?_⟩
      by_cases hkm : k = m
      · rw [hkm, hp] at hpk; cases hpk
      · exact g3 k (by omega) hpk
def sureV (F : Nat → Nat → Bool) (n m : Nat) (need : Int) (i : Nat) : Int :=
  if ones (canE F n m need i) m = 1 ∧ hidE F n m need i (-1) = false then (firstN (canE F n m need i) m : Int) else -1
/-- What Fewest returns. -/
def Rws.few (r : Rws) : List (Nat × Nat) := fewL r.fit r.left.length r.right.length (mst r.fit r.left.length r.right.length r.left.length r.right.length) 0 0
def Rws.sure (r : Rws) (i : Nat) : Int := sureV r.fit r.left.length r.right.length r.need i
theorem few_chain (r : Rws) : chain r.fit r.left.length r.right.length 0 0 r.few ∧ r.few.length = mst r.fit r.left.length r.right.length r.left.length r.right.length :=
  few_ok _ 0 0 (by omega) (by omega) (by simp)
theorem few_len (r : Rws) : r.few.length ≤ r.left.length := by
  rw [(few_chain r).2]
  have : ∀ a b, mst r.fit r.left.length r.right.length a b ≤ a := by
    intro a
    induction a with
    | zero => intro b; rw [ms_a0]; exact Nat.le_refl 0
    | succ a ih =>
      intro b
      induction b with
      | zero => rw [ms_b0]; omega
      | succ b ihb =>
        rw [ms_step]
        have := ih b
        have := ih (b + 1)
        split <;> omega
  exact this _ _
end Go.Proofs.YtbnhngfegnhaiaaDoor
namespace Go.Proofs.YtbnhngfegnhaiaaDoor
open Go.RowKit
set_option linter.unusedVariables false
set_option linter.unusedSimpArgs false
def pop1 (x : Int) : Int := IntKind.u64.wrap (bits .and .u64 (x / 2) 6148914691236517205 + bits .and .u64 x 6148914691236517205)
def pop2 (a : Int) : Int := IntKind.u64.wrap (bits .and .u64 (a / 4) 3689348814741910323 + bits .and .u64 a 3689348814741910323)
def pop3 (a : Int) : Int := bits .and .u64 (IntKind.u64.wrap (a / 16 + a)) 1085102592571150095
def pop4 (a k : Int) : Int := IntKind.u64.wrap (a + a / k)
def popE (x : Int) : Int := bits .and .i64 (wrap64 (pop4 (pop4 (pop4 (pop3 (pop2 (pop1 x))) 256) 65536) 4294967296)) 127
theorem pop_eq : ∀ n : Fin 1024, popE (n.val : Int) = (ones n.val.testBit 10 : Int) := by decide +kernel
set_option maxRecDepth 100000 in
set_option maxHeartbeats 8000000 in
theorem ones70 {x : Nat} (hx : x < 1024) (w : World) : Calls Tryd.prog 70 #[.int .u64 x] w fun e w' => e = .returned (.int .i64 (ones x.testBit 10)) ∧ w' = w := by
  have HE := Lib.hid (pop_eq ⟨x, hx⟩)
  simp only at HE
  clear hx
  go_enter Tryd.func70, Tryd.ntmps70
  go_wp2_with fail
  go_ret
  refine ⟨?_, rfl⟩
  exact congrArg (fun z => Ending.returned (.int .i64 z)) HE.out
theorem ones32 {x : Nat} (hx : x < 1024) (w : World) : Calls Tryd.prog 32 #[.int .u64 x] w fun e w' => e = .returned (.int .i64 (ones x.testBit 10)) ∧ w' = w := by
  have HX := Lib.hid hx
  clear hx
  go_enter Tryd.func32, Tryd.ntmps32
  go_wp2_with fail
  refine (ones70 HX.out _).mono ?_
  rintro e w' ⟨rfl, rfl⟩
  go_wp2_with fail
  go_ret
  exact ⟨rfl, rfl⟩
end Go.Proofs.YtbnhngfegnhaiaaDoor
namespace Go.Proofs.YtbnhngfegnhaiaaDoor
open Go.RowKit
set_option linter.unusedVariables false
set_option linter.unusedSimpArgs false
theorem info_parts {e : TypeId} {z : Value} {s b : Nat} (h : (Tryd.prog.info? e).map (fun i => (i.zero, i.size, i.bytes)) = some (some z, s, b)) : ∃ i, Tryd.prog.info? e = some i ∧ i.zero = some z ∧ i.size = s ∧ i.bytes = b := by
  cases hi : Tryd.prog.info? e with
  | none => rw [hi] at h; cases h
  | some i =>
    rw [hi] at h
    simp only [Option.map_some, Option.some.injEq, Prod.mk.injEq] at h
    exact ⟨i, rfl, h.1, h.2.1, h.2.2⟩
theorem infoM : (Tryd.prog.info? 30).map (fun i => (i.zero, i.size, i.bytes)) = some (some (.agg #[.int .i64 0, .int .i64 0, .int .i64 0, .int .i64 0]), 4, 32) := by kernel_rfl
theorem wpList_append_run2 {P : Program} {w : World} {ops : Array Oper} {rest : List Oper} {o : Oper} {a : Act} {Q : Exit → Act → World → Prop} (hgd : o.guard = none) (s x : Operand) (t u : TypeId)
    (ho : o.op = .call { callee := .builtin .append, args := #[s, x], argTypes := #[t, u] }) (v xv v' : Value) (w' : World) (hs : a.eval s = v) (hx : a.eval x = xv)
    (hr : (Builtin.append_ #[t, u] o.type #[v, xv]).run P w = .ok v' w') (h : wpList P ops Q rest (a.put o.dst v') w') : wpList P ops Q (o :: rest) a w := by
  refine wpList_plain hgd fun K hK => ?_
  unfold Oper.wp execOp
  simp only [ho, resolve, invoke, builtin, Sem.run_bind, Sem.run_pure, Result.andThen_ok, List.map_toArray, List.map_cons, List.map_nil, hs, hx, hr]
  exact hK _ _ h
set_option maxRecDepth 100000 in
set_option maxHeartbeats 2000000 in
theorem grow79 {n : Nat} (hn : n ≤ 1000) (w : World) : Calls Tryd.prog 109 #[.slice none 0 0, .int .i64 n] w fun e w' => ∃ v, e = .returned v ∧ w'.ownsRow w.heap.size 30 4 v 0 [] ∧ Below w.heap.size w w' := by
  by_cases h0 : n = 0
  · subst h0
    go_enter Tryd.func109, Tryd.ntmps109
    go_wp2_with fail
    go_ret
    exact ⟨_, rfl, ⟨rfl, .inl ⟨rfl, rfl⟩⟩, Below.refl _ _⟩
  · obtain ⟨i0, hi0, hz0, hz1, hz2⟩ := info_parts infoM
    have hr := Lib.run_append_nil_zeros (P := Tryd.prog) w 22 3 22 30 i0 _ .i64 .i64 Tryd.underlying22 Tryd.underlying3 hi0 hz0 n (by omega) (by omega) (by omega) (by rw [hz2]; omega)
    have HR := Lib.hid hr
    have hpos : 0 < n := by omega
    have HG := Lib.hid (And.intro (grownCap_ge w n 0 30) (grownCap_le_maxLen w n 0 30 (by unfold maxLen; omega)))
    clear hr hz1 hz2 hi0 hz0 h0
    revert HR HG
    generalize grownCap w n 0 30 = cap
    intro HR HG
    have hcp : n ≤ cap := HG.out.1
    go_enter Tryd.func109, Tryd.ntmps109
    go_wp2_with (at_builtin; refine wpList_append_run2 rfl (.tmp 20) (.tmp 21) 22 3 rfl _ _ _ _ rfl rfl HR.out ?_)
    go_ret
    refine ⟨_, rfl, ⟨rfl, .inr ⟨w.heap.size, cap, _, rfl, Nat.le_refl _, World.alloc_heap_new _ _, Nat.zero_le _, HG.out.2, ?_, by simp⟩⟩, (Below.refl _ _).drew.alloc (Nat.le_refl _) _⟩
    simp [size_zeroCells]
    omega
def mksL (l : List Mrk) : List Value := l.flatMap Mrk.cells
theorem mksL_len (l : List Mrk) : (mksL l).length = l.length * 4 := by
  induction l with
  | nil => rfl
  | cons m l ih =>
    show (m.cells ++ mksL l).length = _
    rw [List.length_append, ih]
    show 4 + _ = (l.length + 1) * 4
    omega
theorem mksL_get : ∀ (l : List Mrk) (i j : Nat), i < l.length → j < 4 → (mksL l)[i * 4 + j]? = (gm l i).cells[j]?
  | [], i, j, h, _ => absurd h (Nat.not_lt_zero _)
  | m :: l, 0, j, _, hj => by
    show (m.cells ++ mksL l)[0 * 4 + j]? = m.cells[j]?
    rw [List.getElem?_append_left (by show 0 * 4 + j < 4; omega)]
    congr 1
    omega
  | m :: l, i + 1, j, h, hj => by
    show (m.cells ++ mksL l)[(i + 1) * 4 + j]? = (gm l i).cells[j]?
    rw [List.getElem?_append_right (by show 4 ≤ _; omega), ← mksL_get l i j (by simpa using h) hj]
    congr 1
    show (i + 1) * 4 + j - 4 = _
    omega
theorem mksL_one : ∀ (l : List Mrk), ∀ u ∈ mksL l, u.oneCell' = true := by
  intro l u hu
  unfold mksL at hu
  rw [List.mem_flatMap] at hu
  obtain ⟨m, _, hm⟩ := hu
  unfold Mrk.cells at hm
  simp only [List.mem_cons, List.not_mem_nil, or_false] at hm
  rcases hm with rfl | rfl | rfl | rfl <;> rfl
/-- Marks in memory, cell by cell. -/
theorem mks_news {w : World} {a : Option Addr} {l : List Mrk} (h : IsMks w a l) : l.length ≠ 0 → ∃ ad, a = some ad ∧ ∀ j u, (mksL l)[j]? = some u → w.cell? (ad.add j) = some u := by
  intro hl
  obtain ⟨b, off, rfl, _⟩ := h 0 (by omega)
  refine ⟨_, rfl, fun j u hj => ?_⟩
  have hjl : j < l.length * 4 := by
    have := (List.getElem?_eq_some_iff.1 hj).1
    rwa [mksL_len] at this
  obtain ⟨b', off', e, hc⟩ := h (j / 4) (by omega)
  simp only [Option.some.injEq, Addr.mk.injEq, and_true] at e
  obtain ⟨rfl, rfl⟩ := e
  have hj2 : j = j / 4 * 4 + j % 4 := by omega
  have hd : (⟨b, off, none⟩ : Addr).add j = ⟨b, off + j / 4 * 4 + j % 4, none⟩ := by
    rw [Addr.add_mid]
    congr 1
    omega
  rw [hd]
  have hg := mksL_get l (j / 4) (j % 4) (by omega) (by omega)
  rw [← hj2, hj] at hg
  have h4 : j % 4 = 0 ∨ j % 4 = 1 ∨ j % 4 = 2 ∨ j % 4 = 3 := by omega
  rcases h4 with h4 | h4 | h4 | h4 <;> rw [h4] at hg ⊢ <;> simp only [Mrk.cells, List.getElem?_cons_zero, List.getElem?_cons_succ, Option.some.injEq] at hg <;> subst hg
  · exact hc.c0
  · exact hc.c1
  · exact hc.c2
  · exact hc.c3
theorem own_marks {w : World} {base : Nat} {l : List Mrk} {a : Option Addr} {cap : Nat} (h : w.ownsRow base 30 4 (.slice a l.length cap) l.length (mksL l)) : IsMks w a l := fun i hi => by
  obtain ⟨g, c, e, _, _, _, _, hc⟩ := own_cell h (by omega)
  simp only [Value.slice.injEq] at e
  obtain ⟨rfl, _, _⟩ := e
  refine ⟨g, 0, rfl, ?_⟩
  have hx := fun j hj => mksL_get l i j hi hj
  constructor
  · exact hc _ _ (by rw [Nat.zero_add]; exact (hx 0 (by omega)))
  · exact hc _ _ (by rw [Nat.zero_add]; exact (hx 1 (by omega)))
  · exact hc _ _ (by rw [Nat.zero_add]; exact (hx 2 (by omega)))
  · exact hc _ _ (by rw [Nat.zero_add]; exact (hx 3 (by omega)))
theorem append_mks {W w : World} {B : Nat} {v : Value} {l x : List Mrk} {a : Option Addr} {c : Nat} (hb : Below B W w) (hB : B ≤ w.heap.size) (h : w.ownsRow B 30 4 v l.length (mksL l)) (hx : IsMks w a x) (hl : l.length + x.length ≤ 1000) :
    ∃ v' w', (Builtin.append_ #[22, 22] 22 #[v, .slice a x.length c]).run Tryd.prog w = .ok v' w' ∧ w'.ownsRow B 30 4 v' (l ++ x).length (mksL (l ++ x)) ∧ Below B W w' ∧ B ≤ w'.heap.size := by
  obtain ⟨i0, hi0, hz0, hz1, hz2⟩ := info_parts infoM
  obtain ⟨v', w', h1, h2, h3⟩ := append_rows (P := Tryd.prog) (w := w) B 22 22 30 i0 _ 4 32 Tryd.underlying22 hi0 hz0 hz1 hz2 rfl (by omega) v l.length (mksL l) h a x.length c (mksL x) (mksL_len x) (mks_news hx) (mksL_one x) (by unfold maxLen; omega) (by omega) hB
  refine ⟨v', w', h1, ?_, grown_below hb h h3 hB, Nat.le_trans hB h3.size⟩
  rw [List.length_append]
  have e : mksL (l ++ x) = mksL l ++ mksL x := by unfold mksL; rw [List.flatMap_append]
  rw [e]
  exact h2
set_option maxRecDepth 100000 in
set_option maxHeartbeats 4000000 in
theorem concat62 {l x : List Mrk} {a b : Option Addr} {c d bs : Nat} {w : World} (h1 : IsMks w a l) (h2 : IsMks w b x) (hl : l.length ≤ 100) (hx : x.length ≤ 100) (hs : w.heap[bs]? = some (.cells #[.slice a l.length c, .slice b x.length d] 22 (0, 0))) :
    Calls Tryd.prog 92 #[.slice (some ⟨bs, 0, none⟩) 2 2] w fun e w' => ∃ a' c', e = .returned (.slice a' (l ++ x).length c') ∧ IsMks w' a' (l ++ x) ∧ Below w.heap.size w w' := by
  have HB := Lib.hid (And.intro h1 (And.intro h2 hs))
  clear h1 h2 hs
  have s0 : w.cell? ⟨bs, 0, none⟩ = some (.slice a l.length c) := by rw [cell_of_heap HB.out.2.2]; rfl
  have s1 : w.cell? ⟨bs, 1, none⟩ = some (.slice b x.length d) := by rw [cell_of_heap HB.out.2.2]; rfl
  go_enter Tryd.func92, Tryd.ntmps92
  go_wp2_with fail
  go_loop [3, 11] (fun z i => ∃ k : Int, (k = 0 ∨ k = 1 ∨ k = 2) ∧ i = .int .i64 k ∧ z = .int .i64 (if 1 ≤ k then (if 2 ≤ k then (l.length : Int) + x.length else l.length) else 0)) (fun _ i => 2 - (intOf i).toNat)
  case atStart => exact ⟨0, .inl rfl, rfl, rfl⟩
  case round =>
    obtain ⟨k, hk, rfl, rfl⟩ := hrel
    rcases hk with rfl | rfl | rfl
    · have e : (if (1 : Int) ≤ 0 then (if (2 : Int) ≤ 0 then (l.length : Int) + x.length else l.length) else 0) = 0 := by simp
      rw [e]
      clear e
      go_wp2_with fail
      go_round
      case rel => exact ⟨1, .inr (.inl rfl), rfl, by simp⟩
      case measure => simp [intOf]
    · have e : (if (1 : Int) ≤ 1 then (if (2 : Int) ≤ 1 then (l.length : Int) + x.length else l.length) else 0) = l.length := by simp
      rw [e]
      clear e
      go_wp2_with fail
      go_round
      case rel => exact ⟨2, .inr (.inr rfl), rfl, by simp⟩
      case measure => simp [intOf]
    · have e : (if (1 : Int) ≤ 2 then (if (2 : Int) ≤ 2 then (l.length : Int) + x.length else l.length) else 0) = ((l.length + x.length : Nat) : Int) := by simp
      rw [e]
      clear e
      go_wp2_with fail
      refine (grow79 (by omega) w).mono ?_
      rintro e w1 ⟨v, rfl, hown, hb⟩
      have HR : Hid (w1.ownsRow w.heap.size 30 4 v ([] : List Mrk).length (mksL []) ∧ Below w.heap.size w w1) := ⟨hown, hb⟩
      clear hown hb s0 s1
      go_wp2_with fail
      go_loopw [6, 27] (fun v i wr => ∃ k : Int, (k = 0 ∨ k = 1 ∨ k = 2) ∧ i = .int .i64 k ∧ Hid (wr.ownsRow w.heap.size 30 4 v (if 1 ≤ k then (if 2 ≤ k then l ++ x else l) else []).length (mksL (if 1 ≤ k then (if 2 ≤ k then l ++ x else l) else [])) ∧ Below w.heap.size w wr)) (fun _ i _ => 2 - (intOf i).toNat)
      case atStart => exact ⟨0, .inl rfl, rfl, HR⟩
      case round =>
        obtain ⟨k, hk, rfl, HW⟩ := hrel
        clear HR
        rcases hk with rfl | rfl | rfl
        · have HO : Hid (wr.ownsRow w.heap.size 30 4 u6 ([] : List Mrk).length (mksL []) ∧ Below w.heap.size w wr) := HW.out
          clear HW
          obtain ⟨v', w', hr, ho, hbb, hsz⟩ := append_mks (c := c) HO.out.2 HO.out.2.size HO.out.1 (HB.out.1.mono HO.out.2) (by first | omega | (simp; omega))
          have HRUN := Lib.hid hr
          have HN := Lib.hid (And.intro ho hbb)
          clear hr ho hbb hsz
          have s0 : wr.cell? ⟨bs, 0, none⟩ = some (.slice a l.length c) := by rw [cell_of_heap ((HO.out.2.block _ (heap_lt HB.out.2.2)).trans HB.out.2.2)]; rfl
          go_wp2_with (at_builtin; refine wpList_append_run rfl (.tmp 31) (.tmp 32) 22 rfl _ _ _ _ rfl rfl HRUN.out ?_)
          clear s0
          go_roundw
          case rel => exact ⟨1, .inr (.inl rfl), rfl, HN.out⟩
          case measure => simp [intOf]
        · have HO : Hid (wr.ownsRow w.heap.size 30 4 u6 (l : List Mrk).length (mksL l) ∧ Below w.heap.size w wr) := HW.out
          clear HW
          obtain ⟨v', w', hr, ho, hbb, hsz⟩ := append_mks (c := d) HO.out.2 HO.out.2.size HO.out.1 (HB.out.2.1.mono HO.out.2) (by first | omega | (simp; omega))
          have HRUN := Lib.hid hr
          have HN := Lib.hid (And.intro ho hbb)
          clear hr ho hbb hsz
          have s0 : wr.cell? ⟨bs, 1, none⟩ = some (.slice b x.length d) := by rw [cell_of_heap ((HO.out.2.block _ (heap_lt HB.out.2.2)).trans HB.out.2.2)]; rfl
          go_wp2_with (at_builtin; refine wpList_append_run rfl (.tmp 31) (.tmp 32) 22 rfl _ _ _ _ rfl rfl HRUN.out ?_)
          clear s0
          go_roundw
          case rel => exact ⟨2, .inr (.inr rfl), rfl, HN.out⟩
          case measure => simp [intOf]
        · have HO : Hid (wr.ownsRow w.heap.size 30 4 u6 (l ++ x).length (mksL (l ++ x)) ∧ Below w.heap.size w wr) := HW.out
          clear HW
          obtain ⟨a', cap, rfl, _, _⟩ := own_slice HO.out.1
          go_wp2_with fail
          go_ret
          exact ⟨a', cap, rfl, own_marks HO.out.1, HO.out.2⟩
set_option maxRecDepth 100000 in
set_option maxHeartbeats 4000000 in
theorem isRows45 {r : Rws} {al ar : Option Addr} {cl cr : Nat} {w : World} (hv : r.valid = true) (h1 : IsMks w al r.left) (h2 : IsMks w ar r.right) :
    Calls Tryd.prog 58 #[r.v al cl ar cr] w fun e w' => e = .returned (.bool true) ∧ Below w.heap.size w w' := by
  have HX := Lib.hid (And.intro (World.alloc_heap_new w (.cells (r.arr al cl ar cr) 26)) (And.intro (alloc_below w (.cells (r.arr al cl ar cr) 26)) (And.intro (h1.mono (alloc_below w (.cells (r.arr al cl ar cr) 26))) (h2.mono (alloc_below w (.cells (r.arr al cl ar cr) 26))))))
  have HV : Hid (r.Nums ∧ (∀ m ∈ r.left ++ r.right, mrkOk m = true) ∧ r.shift.ok (-65536) 65536 = true ∧ inR r.hidden 0 20 = true) := by
    have h := hv
    unfold Rws.valid at h
    simp only [Bool.and_eq_true, List.all_eq_true] at h
    exact ⟨rnums_of hv, h.1.1.2, h.1.2, h.2⟩
  clear h1 h2 hv
  have hl1 : r.left.length ≤ 10 := HV.out.1.l1
  have hl2 : r.right.length ≤ 10 := HV.out.1.l2
  go_enter Tryd.func58, Tryd.ntmps58
  refine wp_seq_hid ?_
  intro K0 HK0
  go_wp2_with fail
  refine HK0.out _ _ ?_
  clear HK0 K0
  revert HX
  generalize w.alloc (.cells (r.arr al cl ar cr) 26) = w1
  generalize hb : w.heap.size = b1
  intro HX
  have HB := Lib.hid hb
  clear hb
  refine wp_seq_hid ?_
  intro K1 HK1
  go_wp2_with fail
  refine HK1.out _ _ ?_
  clear HK1 K1
  have k0 : w1.cell? ⟨b1, 0, none⟩ = some (.slice al r.left.length cl) := by rw [cell_of_heap HX.out.1]; rfl
  have k1 : w1.cell? ⟨b1, 1, none⟩ = some (.slice ar r.right.length cr) := by rw [cell_of_heap HX.out.1]; rfl
  have HQ := Lib.hid (And.intro (World.alloc_heap_new w1 (.cells #[.slice al r.left.length cl, .slice ar r.right.length cr] 22)) (alloc_below w1 (.cells #[.slice al r.left.length cl, .slice ar r.right.length cr] 22)))
  refine wp_seq_hid ?_
  intro K2 HK2
  go_wp2_with fail
  refine (concat62 (l := r.left) (x := r.right) (a := al) (b := ar) (c := cl) (d := cr) (HX.out.2.2.1.mono HQ.out.2) (HX.out.2.2.2.mono HQ.out.2) (by omega) (by omega) HQ.out.1).mono ?_
  clear k0 k1
  have hml : (r.left ++ r.right).length ≤ 1000000 := by rw [List.length_append]; omega
  have HM := Lib.hid HV.out.2.1
  revert HM hml
  generalize r.left ++ r.right = mm
  intro hml HM
  rintro e w2 ⟨a', c', rfl, hm, hb⟩
  have HB2 := Lib.hid (And.intro (HQ.out.2.trans (hb.mono HQ.out.2.size)) hm)
  clear hb hm HQ
  go_wp2_with fail
  refine (has61 HB2.out.2 hml HM.out).mono ?_
  rintro e w3 ⟨rfl, hb⟩
  have HB3 := Lib.hid (HB2.out.1.trans (hb.mono HB2.out.1.size))
  clear hb HB2
  go_wp2_with fail
  refine HK2.out _ _ ?_
  clear HK2 K2
  have HQ3 := Lib.hid ((HB3.out.block _ (heap_lt HX.out.1)).trans HX.out.1)
  have k2 : w3.cell? ⟨b1, 2, none⟩ = some (.int .i64 r.shift.lo) := by rw [cell_of_heap HQ3.out]; rfl
  have k3 : w3.cell? ⟨b1, 3, none⟩ = some (.int .i64 r.shift.hi) := by rw [cell_of_heap HQ3.out]; rfl
  go_wp2_with fail
  refine (isSpan60 r.shift _ _ _).mono ?_
  clear k2 k3
  rintro e w4 ⟨rfl, hb⟩
  rw [HV.out.2.2.1]
  have HB4 := Lib.hid (HB3.out.trans (hb.mono HB3.out.size))
  clear hb
  have k4 : w4.cell? ⟨b1, 4, none⟩ = some (.int .i64 r.hidden) := by rw [cell_of_heap ((HB4.out.block _ (heap_lt HX.out.1)).trans HX.out.1)]; rfl
  go_wp2_with fail
  refine (within50 _ _ _ _).mono ?_
  rintro e w5 ⟨rfl, rfl⟩
  rw [HV.out.2.2.2]
  go_wp2_with fail
  go_ret
  exact ⟨rfl, HX.out.2.1.trans (HB4.out.mono (by have := HX.out.2.1.size; rw [HB.out] at this; exact this))⟩
end Go.Proofs.YtbnhngfegnhaiaaDoor
namespace Go.Proofs.YtbnhngfegnhaiaaDoor
open Go.RowKit
set_option linter.unusedVariables false
set_option linter.unusedSimpArgs false
theorem cf63 (args : Array Value) (w : World) : (callFunc 93 args).run Tryd.prog w = .ok (.enter 93 args) w := by simp [callFunc, Tryd.func93, Tryd.f93, go_sem]
theorem cf64 (args : Array Value) (w : World) : (callFunc 94 args).run Tryd.prog w = .ok (.enter 94 args) w := by simp [callFunc, Tryd.func94, Tryd.f94, go_sem]
theorem cf65 (args : Array Value) (w : World) : (callFunc 95 args).run Tryd.prog w = .ok (.enter 95 args) w := by simp [callFunc, Tryd.func95, Tryd.f95, go_sem]
theorem cf67 (args : Array Value) (w : World) : (callFunc 97 args).run Tryd.prog w = .ok (.enter 97 args) w := by simp [callFunc, Tryd.func97, Tryd.f97, go_sem]
set_option maxRecDepth 100000 in
set_option maxHeartbeats 2000000 in
theorem both68 (a b : Spn) (w : World) : Calls Tryd.prog 78 #[a.v, b.v] w fun e w' => e = .returned (a.cut b).v ∧ Below w.heap.size w w' := by
  have HX := Lib.hid (alloc3 w a.arr b.arr #[.int .i64 0, .int .i64 0] 24 24 24 _ rfl)
  go_enter Tryd.func78, Tryd.ntmps78
  refine wp_seq_hid ?_
  intro K0 HK0
  go_wp2_with fail
  refine HK0.out _ _ ?_
  clear HK0 K0
  revert HX
  generalize (((w.alloc (.cells a.arr 24)).alloc (.cells b.arr 24)).alloc (.cells #[.int .i64 0, .int .i64 0] 24)) = w1
  intro HX
  have b0_0 : w1.cell? ⟨w.heap.size, 0, none⟩ = some (.int .i64 a.lo) := by rw [cell_of_heap HX.out.1]; rfl
  have b0_1 : w1.cell? ⟨w.heap.size, 1, none⟩ = some (.int .i64 a.hi) := by rw [cell_of_heap HX.out.1]; rfl
  have b1_0 : w1.cell? ⟨w.heap.size + 1, 0, none⟩ = some (.int .i64 b.lo) := by rw [cell_of_heap HX.out.2.1]; rfl
  have b1_1 : w1.cell? ⟨w.heap.size + 1, 1, none⟩ = some (.int .i64 b.hi) := by rw [cell_of_heap HX.out.2.1]; rfl
  have HR := Lib.hid HX.out.2.2.1
  have y0 : w1.cell? ⟨w.heap.size + 2, 0, none⟩ = some (.int .i64 0) := by rw [cell_of_heap HR.out]; rfl
  have y1 : w1.cell? ⟨w.heap.size + 2, 1, none⟩ = some (.int .i64 0) := by rw [cell_of_heap HR.out]; rfl
  have f0 : ∀ k, w1.frozen? ⟨w.heap.size + 2, k, none⟩ = false := fun k => frozen_of_heap HR.out
  go_wp2_with fail
  have h4 := (heap_setCell_at (k := 1) (heap_setCell_at (k := 0) HR.out (.int .i64 (max a.lo b.lo))) (.int .i64 (min a.hi b.hi)))
  exact bodyPost_ret (res_c2 (by decide) rfl _ rfl (by rw [cell_of_heap h4]; rfl) (by rw [cell_of_heap h4]; rfl)) rfl ⟨rfl, ((HX.out.2.2.2.setCell (p := ⟨w.heap.size + 2, _, none⟩) (by show w.heap.size ≤ w.heap.size + 2; omega) _).setCell (p := ⟨w.heap.size + 2, _, none⟩) (by show w.heap.size ≤ w.heap.size + 2; omega) _)⟩
set_option maxRecDepth 100000 in
set_option maxHeartbeats 2000000 in
theorem tone63 (m : Mrk) (w : World) : Calls Tryd.prog 93 #[m.v] w fun e w' => e = .returned m.tone.v ∧ Below w.heap.size w w' := by
  have HX := Lib.hid (alloc2 w m.arr #[.int .i64 0, .int .i64 0] 30 24)
  go_enter Tryd.func93, Tryd.ntmps93
  refine wp_seq_hid ?_
  intro K0 HK0
  go_wp2_with fail
  refine HK0.out _ _ ?_
  clear HK0 K0
  revert HX
  generalize ((w.alloc (.cells m.arr 30)).alloc (.cells #[.int .i64 0, .int .i64 0] 24)) = w1
  intro HX
  have k0 : w1.cell? ⟨w.heap.size, 2, none⟩ = some (.int .i64 m.tone.lo) := by rw [cell_of_heap HX.out.1]; rfl
  have k1 : w1.cell? ⟨w.heap.size, 3, none⟩ = some (.int .i64 m.tone.hi) := by rw [cell_of_heap HX.out.1]; rfl
  have HR := Lib.hid HX.out.2.1
  have y0 : w1.cell? ⟨w.heap.size + 1, 0, none⟩ = some (.int .i64 0) := by rw [cell_of_heap HR.out]; rfl
  have y1 : w1.cell? ⟨w.heap.size + 1, 1, none⟩ = some (.int .i64 0) := by rw [cell_of_heap HR.out]; rfl
  have f0 : ∀ k, w1.frozen? ⟨w.heap.size + 1, k, none⟩ = false := fun k => frozen_of_heap HR.out
  go_wp2_with fail
  have h4 := (heap_setCell_at (k := 1) (heap_setCell_at (k := 0) HR.out (.int .i64 m.tone.lo)) (.int .i64 m.tone.hi))
  exact bodyPost_ret (res_c2 (by decide) rfl _ rfl (by rw [cell_of_heap h4]; rfl) (by rw [cell_of_heap h4]; rfl)) rfl ⟨rfl, ((HX.out.2.2.setCell (p := ⟨w.heap.size + 1, _, none⟩) (by show w.heap.size ≤ w.heap.size + 1; omega) _).setCell (p := ⟨w.heap.size + 1, _, none⟩) (by show w.heap.size ≤ w.heap.size + 1; omega) _)⟩
set_option maxRecDepth 100000 in
set_option maxHeartbeats 2000000 in
theorem pos65 (m : Mrk) (w : World) : Calls Tryd.prog 95 #[m.v] w fun e w' => e = .returned m.pos.v ∧ Below w.heap.size w w' := by
  have HX := Lib.hid (alloc2 w m.arr #[.int .i64 0, .int .i64 0] 30 24)
  go_enter Tryd.func95, Tryd.ntmps95
  refine wp_seq_hid ?_
  intro K0 HK0
  go_wp2_with fail
  refine HK0.out _ _ ?_
  clear HK0 K0
  revert HX
  generalize ((w.alloc (.cells m.arr 30)).alloc (.cells #[.int .i64 0, .int .i64 0] 24)) = w1
  intro HX
  have k0 : w1.cell? ⟨w.heap.size, 0, none⟩ = some (.int .i64 m.pos.lo) := by rw [cell_of_heap HX.out.1]; rfl
  have k1 : w1.cell? ⟨w.heap.size, 1, none⟩ = some (.int .i64 m.pos.hi) := by rw [cell_of_heap HX.out.1]; rfl
  have HR := Lib.hid HX.out.2.1
  have y0 : w1.cell? ⟨w.heap.size + 1, 0, none⟩ = some (.int .i64 0) := by rw [cell_of_heap HR.out]; rfl
  have y1 : w1.cell? ⟨w.heap.size + 1, 1, none⟩ = some (.int .i64 0) := by rw [cell_of_heap HR.out]; rfl
  have f0 : ∀ k, w1.frozen? ⟨w.heap.size + 1, k, none⟩ = false := fun k => frozen_of_heap HR.out
  go_wp2_with fail
  have h4 := (heap_setCell_at (k := 1) (heap_setCell_at (k := 0) HR.out (.int .i64 m.pos.lo)) (.int .i64 m.pos.hi))
  exact bodyPost_ret (res_c2 (by decide) rfl _ rfl (by rw [cell_of_heap h4]; rfl) (by rw [cell_of_heap h4]; rfl)) rfl ⟨rfl, ((HX.out.2.2.setCell (p := ⟨w.heap.size + 1, _, none⟩) (by show w.heap.size ≤ w.heap.size + 1; omega) _).setCell (p := ⟨w.heap.size + 1, _, none⟩) (by show w.heap.size ≤ w.heap.size + 1; omega) _)⟩
set_option maxRecDepth 100000 in
set_option maxHeartbeats 2000000 in
theorem away64 {r : Rws} {m : Mrk} {al ar : Option Addr} {cl cr bx : Nat} {w : World} (hm : m.Sm) (hr : r.Nums) (hx : w.heap[bx]? = some (.cells (r.arr al cl ar cr) 26 (0, 0))) : Calls Tryd.prog 94 #[m.v, .pointer (some ⟨bx, 0, none⟩)] w fun e w' => e = .returned (r.away m).v ∧ Below w.heap.size w w' := by
  have x1 : IntKind.i64.wrap (m.pos.lo - r.shift.hi) = m.pos.lo - r.shift.hi := IntWalk.i64_in _ (by have := hm.a; have := hr.s1; have := hr.s2; have := hr.s3; omega)
  have x2 : IntKind.i64.wrap (m.pos.hi - r.shift.lo) = m.pos.hi - r.shift.lo := IntWalk.i64_in _ (by have := hm.b; have := hr.s1; have := hr.s2; have := hr.s3; omega)
  have HX := Lib.hid (alloc2 w m.arr #[.int .i64 0, .int .i64 0] 30 24)
  have HQ := Lib.hid ((HX.out.2.2.block _ (heap_lt hx)).trans hx)
  clear hm hr hx
  go_enter Tryd.func94, Tryd.ntmps94
  refine wp_seq_hid ?_
  intro K0 HK0
  go_wp2_with fail
  refine HK0.out _ _ ?_
  clear HK0 K0
  revert HX HQ
  generalize ((w.alloc (.cells m.arr 30)).alloc (.cells #[.int .i64 0, .int .i64 0] 24)) = w1
  intro HX HQ
  have k0 : w1.cell? ⟨w.heap.size, 0, none⟩ = some (.int .i64 m.pos.lo) := by rw [cell_of_heap HX.out.1]; rfl
  have k1 : w1.cell? ⟨w.heap.size, 1, none⟩ = some (.int .i64 m.pos.hi) := by rw [cell_of_heap HX.out.1]; rfl
  have k2 : w1.cell? ⟨bx, 2, none⟩ = some (.int .i64 r.shift.lo) := by rw [cell_of_heap HQ.out]; rfl
  have k3 : w1.cell? ⟨bx, 3, none⟩ = some (.int .i64 r.shift.hi) := by rw [cell_of_heap HQ.out]; rfl
  have HR := Lib.hid HX.out.2.1
  have y0 : w1.cell? ⟨w.heap.size + 1, 0, none⟩ = some (.int .i64 0) := by rw [cell_of_heap HR.out]; rfl
  have y1 : w1.cell? ⟨w.heap.size + 1, 1, none⟩ = some (.int .i64 0) := by rw [cell_of_heap HR.out]; rfl
  have f0 : ∀ k, w1.frozen? ⟨w.heap.size + 1, k, none⟩ = false := fun k => frozen_of_heap HR.out
  go_wp2_with fail
  have h4 := (heap_setCell_at (k := 1) (heap_setCell_at (k := 0) HR.out (.int .i64 (m.pos.lo - r.shift.hi))) (.int .i64 (m.pos.hi - r.shift.lo)))
  exact bodyPost_ret (res_c2 (by decide) rfl _ rfl (by rw [cell_of_heap h4]; rfl) (by rw [cell_of_heap h4]; rfl)) rfl ⟨rfl, ((HX.out.2.2.setCell (p := ⟨w.heap.size + 1, _, none⟩) (by show w.heap.size ≤ w.heap.size + 1; omega) _).setCell (p := ⟨w.heap.size + 1, _, none⟩) (by show w.heap.size ≤ w.heap.size + 1; omega) _)⟩
structure rul0F (b3 : Nat) (ba : Nat) (bb : Nat) (bx : Nat) (t0 : Int) (t1 : Int) (t2 : Int) (t3 : Int) (u0 : Int) (u1 : Int) (u2 : Int) (u3 : Int) (x1 : Int) (y1 : Int) (x2 : Int) (y2 : Int) (z1 : Int) (z2 : Int) (S0 : Bool → Nat → World → Prop) (S1 : Bool → Nat → Unit → World → Prop) (S2 : Bool → Nat → Unit → Unit → World → Prop) (S3 : Bool → Nat → Unit → Unit → Unit → World → Prop) (S4 : Bool → Nat → Unit → Unit → Unit → World → Prop) (d : Nat → Bool) (x6 x7 x8 x9 x10 x11 x12 x13 x14 x5 : Value) (ms : Nat) (v1 : Unit) (v2 : Unit) (v3 : Unit) (w : World) : Prop where
  q1 : d 1 = true → d 0 = true
  q3 : d 3 = true → d 1 = true ∧ d 2 = true
  q5 : d 5 = true → d 4 = true
  q7 : d 7 = true → d 3 = true ∧ d 5 = true ∧ d 6 = true
  q8 : d 8 = true → d 3 = true ∧ d 7 = true
  q10 : d 10 = true → d 0 = true ∧ d 1 = true ∧ d 2 = true ∧ d 3 = true ∧ d 4 = true ∧ d 5 = true ∧ d 6 = true ∧ d 7 = true ∧ d 8 = true ∧ d 9 = true
  f0 : d 0 = true → x6 = .pointer (some ⟨b3, 0, none⟩)
  f1 : d 1 = true → x7 = .func (.func 93) #[] #[]
  f2 : d 2 = true → x8 = .agg #[.int .i64 t0, .int .i64 t1, .int .i64 t2, .int .i64 t3]
  f3 : d 3 = true → x9 = .agg #[.int .i64 x1, .int .i64 y1]
  f4 : d 4 = true → x10 = .pointer (some ⟨b3, 1, none⟩)
  f5 : d 5 = true → x11 = .func (.func 93) #[] #[]
  f6 : d 6 = true → x12 = .agg #[.int .i64 u0, .int .i64 u1, .int .i64 u2, .int .i64 u3]
  f7 : d 7 = true → x13 = .agg #[.int .i64 x2, .int .i64 y2]
  f8 : d 8 = true → x14 = .agg #[.int .i64 z1, .int .i64 z2]
  f9 : d 9 = true → x5 = .pointer (some ⟨ms, 0, none⟩)
  st0 : d 3 = false → S0 (d 9) ms w
  st1 : d 3 = true → d 7 = false → S1 (d 9) ms v1 w
  st2 : d 7 = true → d 8 = false → S2 (d 9) ms v1 v2 w
  st3 : d 8 = true → d 10 = false → S3 (d 9) ms v1 v2 v3 w
  st4 : d 10 = true → S4 (d 9) ms v1 v2 v3 w
  mz : d 9 = false → ms = 0
noncomputable def rul0C : Code := (Tryd.f97.body.bind (regionAt 1)).getD .skip
set_option maxRecDepth 100000 in
set_option maxHeartbeats 4000000 in
theorem rul0 {b3 : Nat} {ba : Nat} {bb : Nat} {bx : Nat} {t0 : Int} {t1 : Int} {t2 : Int} {t3 : Int} {u0 : Int} {u1 : Int} {u2 : Int} {u3 : Int} {x1 : Int} {y1 : Int} {x2 : Int} {y2 : Int} {z1 : Int} {z2 : Int} {S0 : Bool → Nat → World → Prop} {S1 : Bool → Nat → Unit → World → Prop} {S2 : Bool → Nat → Unit → Unit → World → Prop} {S3 : Bool → Nat → Unit → Unit → Unit → World → Prop} {S4 : Bool → Nat → Unit → Unit → Unit → World → Prop} {Q : Exit → Act → World → Prop} {W1 : World} (h0 : S0 false 0 W1.drew)
    (kl1 : Hid (∀ (fs : Bool) (ms : Nat) (w : World), (S0 fs ms w) → w.cell? ⟨b3, 0, none⟩ = some (.func (.func 93) #[] #[])))
    (kl2 : Hid (∀ (fs : Bool) (ms : Nat) (w : World), (S0 fs ms w) → w.cell? ⟨ba, 0, none⟩ = some (.int .i64 t0) ∧ w.cell? ⟨ba, 1, none⟩ = some (.int .i64 t1) ∧ w.cell? ⟨ba, 2, none⟩ = some (.int .i64 t2) ∧ w.cell? ⟨ba, 3, none⟩ = some (.int .i64 t3)))
    (kc3 : Hid (∀ (fs : Bool) (ms : Nat) (w : World), S0 fs ms w → Calls Tryd.prog 93 #[.agg #[.int .i64 t0, .int .i64 t1, .int .i64 t2, .int .i64 t3]] w fun e w' => ∃ v1 : Unit, e = .returned (.agg #[.int .i64 x1, .int .i64 y1]) ∧ S1 fs ms v1 w'))
    (kl5 : Hid (∀ (fs : Bool) (ms : Nat) (v1 : Unit) (w : World), (S0 fs ms w ∨ S1 fs ms v1 w) → w.cell? ⟨b3, 1, none⟩ = some (.func (.func 93) #[] #[])))
    (kl6 : Hid (∀ (fs : Bool) (ms : Nat) (v1 : Unit) (w : World), (S0 fs ms w ∨ S1 fs ms v1 w) → w.cell? ⟨bb, 0, none⟩ = some (.int .i64 u0) ∧ w.cell? ⟨bb, 1, none⟩ = some (.int .i64 u1) ∧ w.cell? ⟨bb, 2, none⟩ = some (.int .i64 u2) ∧ w.cell? ⟨bb, 3, none⟩ = some (.int .i64 u3)))
    (kc7 : Hid (∀ (fs : Bool) (ms : Nat) (v1 : Unit) (w : World), S1 fs ms v1 w → Calls Tryd.prog 93 #[.agg #[.int .i64 u0, .int .i64 u1, .int .i64 u2, .int .i64 u3]] w fun e w' => ∃ v2 : Unit, e = .returned (.agg #[.int .i64 x2, .int .i64 y2]) ∧ S2 fs ms v1 v2 w'))
    (kc8 : Hid (∀ (fs : Bool) (ms : Nat) (v1 : Unit) (v2 : Unit) (w : World), S2 fs ms v1 v2 w → Calls Tryd.prog 78 #[.agg #[.int .i64 x1, .int .i64 y1], .agg #[.int .i64 x2, .int .i64 y2]] w fun e w' => ∃ v3 : Unit, e = .returned (.agg #[.int .i64 z1, .int .i64 z2]) ∧ S3 fs ms v1 v2 v3 w'))
    (ks0 : Hid (∀ (w : World), S0 false 0 w → S0 true w.heap.size (w.alloc (.cells #[.int .i64 0, .int .i64 0] 24))))
    (ks1 : Hid (∀ (v1 : Unit) (w : World), S1 false 0 v1 w → S1 true w.heap.size v1 (w.alloc (.cells #[.int .i64 0, .int .i64 0] 24))))
    (ks2 : Hid (∀ (v1 : Unit) (v2 : Unit) (w : World), S2 false 0 v1 v2 w → S2 true w.heap.size v1 v2 (w.alloc (.cells #[.int .i64 0, .int .i64 0] 24))))
    (ks3 : Hid (∀ (v1 : Unit) (v2 : Unit) (v3 : Unit) (w : World), S3 false 0 v1 v2 v3 w → S3 true w.heap.size v1 v2 v3 (w.alloc (.cells #[.int .i64 0, .int .i64 0] 24))))
    (kc10 : Hid (∀ (ms : Nat) (v1 : Unit) (v2 : Unit) (v3 : Unit) (w : World), S3 true ms v1 v2 v3 w → (∃ u, w.cell? ⟨ms, 0, none⟩ = some u) ∧ w.frozen? ⟨ms, 0, none⟩ = false ∧ (∃ u, w.cell? ⟨ms, 1, none⟩ = some u) ∧ w.frozen? ⟨ms, 1, none⟩ = false ∧ S4 true ms v1 v2 v3 ((w.setCell ⟨ms, 0, none⟩ (.int .i64 z1)).setCell ⟨ms, 1, none⟩ (.int .i64 z2))))
    {s0 s4 s5 s6 s7 s8 s9 s10 s11 s12 s13 s14 s15 s16 s17 s18 s19 : Value} {dd : List Deferred}
    (hQ : ∀ (ms : Nat) (v1 : Unit) (v2 : Unit) (v3 : Unit) (w' : World), S4 true ms v1 v2 v3 w' → Q .normal { tmps := #[s0, .pointer (some ⟨ba, 0, none⟩), .pointer (some ⟨bb, 0, none⟩), .pointer (some ⟨b3, 0, none⟩), s4, .pointer (some ⟨ms, 0, none⟩), .pointer (some ⟨b3, 0, none⟩), .func (.func 93) #[] #[], .agg #[.int .i64 t0, .int .i64 t1, .int .i64 t2, .int .i64 t3], .agg #[.int .i64 x1, .int .i64 y1], .pointer (some ⟨b3, 1, none⟩), .func (.func 93) #[] #[], .agg #[.int .i64 u0, .int .i64 u1, .int .i64 u2, .int .i64 u3], .agg #[.int .i64 x2, .int .i64 y2], .agg #[.int .i64 z1, .int .i64 z2], s15, s16, s17, s18, s19], defers := dd } w') :
    Code.wpIn (wideAt none) 0 Tryd.prog rul0C Q { tmps := #[s0, .pointer (some ⟨ba, 0, none⟩), .pointer (some ⟨bb, 0, none⟩), .pointer (some ⟨b3, 0, none⟩), s4, s5, s6, s7, s8, s9, s10, s11, s12, s13, s14, s15, s16, s17, s18, s19], defers := dd } W1 := by
  have HQ := Lib.hid hQ
  clear hQ
  conv => arg 4; whnf
  refine wpIn_region_invG mixed (by kernel_rfl) (fun d_ a_ w' => ∃ (x6 : Value) (x7 : Value) (x8 : Value) (x9 : Value) (x10 : Value) (x11 : Value) (x12 : Value) (x13 : Value) (x14 : Value) (x5 : Value) (ms : Nat) (v1 : Unit) (v2 : Unit) (v3 : Unit), a_ = { tmps := #[s0, .pointer (some ⟨ba, 0, none⟩), .pointer (some ⟨bb, 0, none⟩), .pointer (some ⟨b3, 0, none⟩), s4, x5, x6, x7, x8, x9, x10, x11, x12, x13, x14, s15, s16, s17, s18, s19], defers := dd } ∧ rul0F b3 ba bb bx t0 t1 t2 t3 u0 u1 u2 u3 x1 y1 x2 y2 z1 z2 S0 S1 S2 S3 S4 d_ x6 x7 x8 x9 x10 x11 x12 x13 x14 x5 ms v1 v2 v3 w') ?_ ?_ ?_
  · refine ⟨s6, s7, s8, s9, s10, s11, s12, s13, s14, s5, 0, default, default, default, rfl, ?_⟩
    constructor <;> first | rfl | (intro _; rfl) | (intro h; cases h; done) | (intro _; exact h0) | exact h0
  · refine ⟨?_, ?_, ?_, ?_, ?_, ?_, ?_, ?_, ?_, ?_, ?_, trivial⟩
    all_goals
      rintro d_ a_ w1 K hd_ hdep ⟨x6, x7, x8, x9, x10, x11, x12, x13, x14, x5, ms, v1, v2, v3, rfl, F⟩ HK
      simp [Region.binds] at hdep
    · have HF : Hid (rul0F b3 ba bb bx t0 t1 t2 t3 u0 u1 u2 u3 x1 y1 x2 y2 z1 z2 S0 S1 S2 S3 S4 (upd d_ 0) (.pointer (some ⟨b3, 0, none⟩)) x7 x8 x9 x10 x11 x12 x13 x14 x5 ms v1 v2 v3 w1) := ⟨fun h => rfl, F.q3, F.q5, F.q7, F.q8, fun h => ⟨rfl, (F.q10 h).2.1, (F.q10 h).2.2.1, (F.q10 h).2.2.2.1, (F.q10 h).2.2.2.2.1, (F.q10 h).2.2.2.2.2.1, (F.q10 h).2.2.2.2.2.2.1, (F.q10 h).2.2.2.2.2.2.2.1, (F.q10 h).2.2.2.2.2.2.2.2.1, (F.q10 h).2.2.2.2.2.2.2.2.2⟩, fun _ => rfl, F.f1, F.f2, F.f3, F.f4, F.f5, F.f6, F.f7, F.f8, F.f9, F.st0, F.st1, F.st2, F.st3, F.st4, F.mz⟩
      clear F
      go_simp
      exact HK.out _ _ ⟨_, _, _, _, _, _, _, _, _, _, _, _, _, _, rfl, HF.out⟩
    · have hst : S0 (d_ 9) ms w1 := by
        have n_ : d_ 3 = false := by
          cases e_ : d_ 3 with
          | false => rfl
          | true => have h2 := (F.q3 e_).1; rw [show d_ 1 = false from hd_] at h2; cases h2
        exact (F.st0 n_)
      have kk := kl1.out (d_ 9) ms w1 hst
      clear hst
      obtain rfl := F.f0 (by simp [hdep])
      have HF : Hid (rul0F b3 ba bb bx t0 t1 t2 t3 u0 u1 u2 u3 x1 y1 x2 y2 z1 z2 S0 S1 S2 S3 S4 (upd d_ 1) (.pointer (some ⟨b3, 0, none⟩)) (.func (.func 93) #[] #[]) x8 x9 x10 x11 x12 x13 x14 x5 ms v1 v2 v3 w1) := ⟨fun _ => (show _ from (by simp [hdep] : d_ 0 = true)), fun h => ⟨rfl, (F.q3 h).2⟩, F.q5, F.q7, F.q8, fun h => ⟨(F.q10 h).1, rfl, (F.q10 h).2.2.1, (F.q10 h).2.2.2.1, (F.q10 h).2.2.2.2.1, (F.q10 h).2.2.2.2.2.1, (F.q10 h).2.2.2.2.2.2.1, (F.q10 h).2.2.2.2.2.2.2.1, (F.q10 h).2.2.2.2.2.2.2.2.1, (F.q10 h).2.2.2.2.2.2.2.2.2⟩, F.f0, fun _ => rfl, F.f2, F.f3, F.f4, F.f5, F.f6, F.f7, F.f8, F.f9, F.st0, F.st1, F.st2, F.st3, F.st4, F.mz⟩
      clear F
      go_simp
      exact HK.out _ _ ⟨_, _, _, _, _, _, _, _, _, _, _, _, _, _, rfl, HF.out⟩
    · have hst : S0 (d_ 9) ms w1 := by
        have n_ : d_ 3 = false := by
          cases e_ : d_ 3 with
          | false => rfl
          | true => have h2 := (F.q3 e_).2; rw [show d_ 2 = false from hd_] at h2; cases h2
        exact (F.st0 n_)
      have kk := kl2.out (d_ 9) ms w1 hst
      obtain ⟨kk0, kk1, kk2, kk3⟩ := kk
      clear hst
      have HF : Hid (rul0F b3 ba bb bx t0 t1 t2 t3 u0 u1 u2 u3 x1 y1 x2 y2 z1 z2 S0 S1 S2 S3 S4 (upd d_ 2) x6 x7 (.agg #[.int .i64 t0, .int .i64 t1, .int .i64 t2, .int .i64 t3]) x9 x10 x11 x12 x13 x14 x5 ms v1 v2 v3 w1) := ⟨F.q1, fun h => ⟨(F.q3 h).1, rfl⟩, F.q5, F.q7, F.q8, fun h => ⟨(F.q10 h).1, (F.q10 h).2.1, rfl, (F.q10 h).2.2.2.1, (F.q10 h).2.2.2.2.1, (F.q10 h).2.2.2.2.2.1, (F.q10 h).2.2.2.2.2.2.1, (F.q10 h).2.2.2.2.2.2.2.1, (F.q10 h).2.2.2.2.2.2.2.2.1, (F.q10 h).2.2.2.2.2.2.2.2.2⟩, F.f0, F.f1, fun _ => rfl, F.f3, F.f4, F.f5, F.f6, F.f7, F.f8, F.f9, F.st0, F.st1, F.st2, F.st3, F.st4, F.mz⟩
      clear F
      go_simp
      exact HK.out _ _ ⟨_, _, _, _, _, _, _, _, _, _, _, _, _, _, rfl, HF.out⟩
    · have hS := F.st0  hd_
      obtain rfl := F.f1 (by simp [hdep])
      obtain rfl := F.f2 (by simp [hdep])
      have hc := kc3.out (d_ 9) ms w1 hS
      have HF := Lib.hid F
      clear F
      have cf := cf63
      go_simp
      refine ⟨trivial, rfl, wideAt_calls (hc.mono ?_)⟩
      rintro e w5 ⟨v_, rfl, hres⟩
      exact HK.out _ _ ⟨_, _, _, _, _, _, _, _, _, _, ms, v_, v2, v3, rfl, ⟨HF.out.q1, fun _ => ⟨(show _ from (by simp [hdep] : d_ 1 = true)), (show _ from (by simp [hdep] : d_ 2 = true))⟩, HF.out.q5, fun h => ⟨rfl, (HF.out.q7 h).2.1, (HF.out.q7 h).2.2⟩, fun h => ⟨rfl, (HF.out.q8 h).2⟩, fun h => ⟨(HF.out.q10 h).1, (HF.out.q10 h).2.1, (HF.out.q10 h).2.2.1, rfl, (HF.out.q10 h).2.2.2.2.1, (HF.out.q10 h).2.2.2.2.2.1, (HF.out.q10 h).2.2.2.2.2.2.1, (HF.out.q10 h).2.2.2.2.2.2.2.1, (HF.out.q10 h).2.2.2.2.2.2.2.2.1, (HF.out.q10 h).2.2.2.2.2.2.2.2.2⟩, HF.out.f0, HF.out.f1, HF.out.f2, fun _ => rfl, HF.out.f4, HF.out.f5, HF.out.f6, HF.out.f7, HF.out.f8, HF.out.f9, fun h => (by simp [upd] at h), fun _ _ => hres, fun h _ => (by have h2 : d_ 3 = true := (HF.out.q7 h).1; rw [show d_ 3 = false from hd_] at h2; cases h2), fun h _ => (by have h2 : d_ 3 = true := (HF.out.q8 h).1; rw [show d_ 3 = false from hd_] at h2; cases h2), fun h => (by have h2 : d_ 3 = true := (HF.out.q10 h).2.2.2.1; rw [show d_ 3 = false from hd_] at h2; cases h2), HF.out.mz⟩⟩
    · have HF : Hid (rul0F b3 ba bb bx t0 t1 t2 t3 u0 u1 u2 u3 x1 y1 x2 y2 z1 z2 S0 S1 S2 S3 S4 (upd d_ 4) x6 x7 x8 x9 (.pointer (some ⟨b3, 1, none⟩)) x11 x12 x13 x14 x5 ms v1 v2 v3 w1) := ⟨F.q1, F.q3, fun h => rfl, F.q7, F.q8, fun h => ⟨(F.q10 h).1, (F.q10 h).2.1, (F.q10 h).2.2.1, (F.q10 h).2.2.2.1, rfl, (F.q10 h).2.2.2.2.2.1, (F.q10 h).2.2.2.2.2.2.1, (F.q10 h).2.2.2.2.2.2.2.1, (F.q10 h).2.2.2.2.2.2.2.2.1, (F.q10 h).2.2.2.2.2.2.2.2.2⟩, F.f0, F.f1, F.f2, F.f3, fun _ => rfl, F.f5, F.f6, F.f7, F.f8, F.f9, F.st0, F.st1, F.st2, F.st3, F.st4, F.mz⟩
      clear F
      go_simp
      exact HK.out _ _ ⟨_, _, _, _, _, _, _, _, _, _, _, _, _, _, rfl, HF.out⟩
    · have hst : S0 (d_ 9) ms w1 ∨ S1 (d_ 9) ms v1 w1 := by
        cases e1 : d_ 3 with
        | false => exact .inl ((F.st0 e1))
        | true =>
          have n_ : d_ 7 = false := by
            cases e_ : d_ 7 with
            | false => rfl
            | true => have h2 := (F.q7 e_).2.1; rw [show d_ 5 = false from hd_] at h2; cases h2
          exact .inr ((F.st1 e1 n_))
      have kk := kl5.out (d_ 9) ms v1 w1 hst
      clear hst
      obtain rfl := F.f4 (by simp [hdep])
      have HF : Hid (rul0F b3 ba bb bx t0 t1 t2 t3 u0 u1 u2 u3 x1 y1 x2 y2 z1 z2 S0 S1 S2 S3 S4 (upd d_ 5) x6 x7 x8 x9 (.pointer (some ⟨b3, 1, none⟩)) (.func (.func 93) #[] #[]) x12 x13 x14 x5 ms v1 v2 v3 w1) := ⟨F.q1, F.q3, fun _ => (show _ from (by simp [hdep] : d_ 4 = true)), fun h => ⟨(F.q7 h).1, rfl, (F.q7 h).2.2⟩, F.q8, fun h => ⟨(F.q10 h).1, (F.q10 h).2.1, (F.q10 h).2.2.1, (F.q10 h).2.2.2.1, (F.q10 h).2.2.2.2.1, rfl, (F.q10 h).2.2.2.2.2.2.1, (F.q10 h).2.2.2.2.2.2.2.1, (F.q10 h).2.2.2.2.2.2.2.2.1, (F.q10 h).2.2.2.2.2.2.2.2.2⟩, F.f0, F.f1, F.f2, F.f3, F.f4, fun _ => rfl, F.f6, F.f7, F.f8, F.f9, F.st0, F.st1, F.st2, F.st3, F.st4, F.mz⟩
      clear F
      go_simp
      exact HK.out _ _ ⟨_, _, _, _, _, _, _, _, _, _, _, _, _, _, rfl, HF.out⟩
    · have hst : S0 (d_ 9) ms w1 ∨ S1 (d_ 9) ms v1 w1 := by
        cases e1 : d_ 3 with
        | false => exact .inl ((F.st0 e1))
        | true =>
          have n_ : d_ 7 = false := by
            cases e_ : d_ 7 with
            | false => rfl
            | true => have h2 := (F.q7 e_).2.2; rw [show d_ 6 = false from hd_] at h2; cases h2
          exact .inr ((F.st1 e1 n_))
      have kk := kl6.out (d_ 9) ms v1 w1 hst
      obtain ⟨kk0, kk1, kk2, kk3⟩ := kk
      clear hst
      have HF : Hid (rul0F b3 ba bb bx t0 t1 t2 t3 u0 u1 u2 u3 x1 y1 x2 y2 z1 z2 S0 S1 S2 S3 S4 (upd d_ 6) x6 x7 x8 x9 x10 x11 (.agg #[.int .i64 u0, .int .i64 u1, .int .i64 u2, .int .i64 u3]) x13 x14 x5 ms v1 v2 v3 w1) := ⟨F.q1, F.q3, F.q5, fun h => ⟨(F.q7 h).1, (F.q7 h).2.1, rfl⟩, F.q8, fun h => ⟨(F.q10 h).1, (F.q10 h).2.1, (F.q10 h).2.2.1, (F.q10 h).2.2.2.1, (F.q10 h).2.2.2.2.1, (F.q10 h).2.2.2.2.2.1, rfl, (F.q10 h).2.2.2.2.2.2.2.1, (F.q10 h).2.2.2.2.2.2.2.2.1, (F.q10 h).2.2.2.2.2.2.2.2.2⟩, F.f0, F.f1, F.f2, F.f3, F.f4, F.f5, fun _ => rfl, F.f7, F.f8, F.f9, F.st0, F.st1, F.st2, F.st3, F.st4, F.mz⟩
      clear F
      go_simp
      exact HK.out _ _ ⟨_, _, _, _, _, _, _, _, _, _, _, _, _, _, rfl, HF.out⟩
    · have hS := F.st1 (by simp [hdep] : d_ 3 = true) hd_
      obtain rfl := F.f5 (by simp [hdep])
      obtain rfl := F.f6 (by simp [hdep])
      have hc := kc7.out (d_ 9) ms v1 w1 hS
      have HF := Lib.hid F
      clear F
      have cf := cf63
      go_simp
      refine ⟨trivial, rfl, wideAt_calls (hc.mono ?_)⟩
      rintro e w5 ⟨v_, rfl, hres⟩
      exact HK.out _ _ ⟨_, _, _, _, _, _, _, _, _, _, ms, v1, v_, v3, rfl, ⟨HF.out.q1, HF.out.q3, HF.out.q5, fun _ => ⟨(show _ from (by simp [hdep] : d_ 3 = true)), (show _ from (by simp [hdep] : d_ 5 = true)), (show _ from (by simp [hdep] : d_ 6 = true))⟩, fun h => ⟨(HF.out.q8 h).1, rfl⟩, fun h => ⟨(HF.out.q10 h).1, (HF.out.q10 h).2.1, (HF.out.q10 h).2.2.1, (HF.out.q10 h).2.2.2.1, (HF.out.q10 h).2.2.2.2.1, (HF.out.q10 h).2.2.2.2.2.1, (HF.out.q10 h).2.2.2.2.2.2.1, rfl, (HF.out.q10 h).2.2.2.2.2.2.2.2.1, (HF.out.q10 h).2.2.2.2.2.2.2.2.2⟩, HF.out.f0, HF.out.f1, HF.out.f2, HF.out.f3, HF.out.f4, HF.out.f5, HF.out.f6, fun _ => rfl, HF.out.f8, HF.out.f9, fun h => (by have h2 : d_ 3 = false := h; rw [(by simp [hdep] : d_ 3 = true)] at h2; cases h2), fun _ h => (by simp [upd] at h), fun _ _ => hres, fun h _ => (by have h2 : d_ 7 = true := (HF.out.q8 h).2; rw [show d_ 7 = false from hd_] at h2; cases h2), fun h => (by have h2 : d_ 7 = true := (HF.out.q10 h).2.2.2.2.2.2.2.1; rw [show d_ 7 = false from hd_] at h2; cases h2), HF.out.mz⟩⟩
    · have hS := F.st2 (by simp [hdep] : d_ 7 = true) hd_
      obtain rfl := F.f3 (by simp [hdep])
      obtain rfl := F.f7 (by simp [hdep])
      have hc := kc8.out (d_ 9) ms v1 v2 w1 hS
      have HF := Lib.hid F
      clear F
      go_simp
      refine ⟨trivial, rfl, wideAt_calls (hc.mono ?_)⟩
      rintro e w5 ⟨v_, rfl, hres⟩
      exact HK.out _ _ ⟨_, _, _, _, _, _, _, _, _, _, ms, v1, v2, v_, rfl, ⟨HF.out.q1, HF.out.q3, HF.out.q5, HF.out.q7, fun _ => ⟨(show _ from (by simp [hdep] : d_ 3 = true)), (show _ from (by simp [hdep] : d_ 7 = true))⟩, fun h => ⟨(HF.out.q10 h).1, (HF.out.q10 h).2.1, (HF.out.q10 h).2.2.1, (HF.out.q10 h).2.2.2.1, (HF.out.q10 h).2.2.2.2.1, (HF.out.q10 h).2.2.2.2.2.1, (HF.out.q10 h).2.2.2.2.2.2.1, (HF.out.q10 h).2.2.2.2.2.2.2.1, rfl, (HF.out.q10 h).2.2.2.2.2.2.2.2.2⟩, HF.out.f0, HF.out.f1, HF.out.f2, HF.out.f3, HF.out.f4, HF.out.f5, HF.out.f6, HF.out.f7, fun _ => rfl, HF.out.f9, fun h => (by have h2 : d_ 3 = false := h; rw [(by simp [hdep] : d_ 3 = true)] at h2; cases h2), fun _ h => (by have h2 : d_ 7 = false := h; rw [(by simp [hdep] : d_ 7 = true)] at h2; cases h2), fun _ h => (by simp [upd] at h), fun _ _ => hres, fun h => (by have h2 : d_ 8 = true := (HF.out.q10 h).2.2.2.2.2.2.2.2.1; rw [show d_ 8 = false from hd_] at h2; cases h2), HF.out.mz⟩⟩
    · have HF : Hid (rul0F b3 ba bb bx t0 t1 t2 t3 u0 u1 u2 u3 x1 y1 x2 y2 z1 z2 S0 S1 S2 S3 S4 (upd d_ 9) x6 x7 x8 x9 x10 x11 x12 x13 x14 (.pointer (some ⟨w1.heap.size, 0, none⟩)) w1.heap.size v1 v2 v3 (w1.alloc (.cells #[.int .i64 0, .int .i64 0] 24))) := ⟨F.q1, F.q3, F.q5, F.q7, F.q8, fun h => ⟨(F.q10 h).1, (F.q10 h).2.1, (F.q10 h).2.2.1, (F.q10 h).2.2.2.1, (F.q10 h).2.2.2.2.1, (F.q10 h).2.2.2.2.2.1, (F.q10 h).2.2.2.2.2.2.1, (F.q10 h).2.2.2.2.2.2.2.1, (F.q10 h).2.2.2.2.2.2.2.2.1, rfl⟩, F.f0, F.f1, F.f2, F.f3, F.f4, F.f5, F.f6, F.f7, F.f8, fun _ => rfl, fun b => ks0.out w1 (by have h := F.st0 b; rw [show d_ 9 = false from hd_, F.mz hd_] at h; exact h), fun a b => ks1.out v1 w1 (by have h := F.st1 a b; rw [show d_ 9 = false from hd_, F.mz hd_] at h; exact h), fun a b => ks2.out v1 v2 w1 (by have h := F.st2 a b; rw [show d_ 9 = false from hd_, F.mz hd_] at h; exact h), fun a b => ks3.out v1 v2 v3 w1 (by have h := F.st3 a b; rw [show d_ 9 = false from hd_, F.mz hd_] at h; exact h), fun a => (by have h2 : d_ 9 = true := (F.q10 a).2.2.2.2.2.2.2.2.2; rw [show d_ 9 = false from hd_] at h2; cases h2), fun h => (by simp [upd] at h)⟩
      clear F
      go_simp
      exact HK.out _ _ ⟨_, _, _, _, _, _, _, _, _, _, _, _, _, _, rfl, HF.out⟩
    · have hS := F.st3 (by simp [hdep] : d_ 8 = true) hd_
      rw [show d_ 9 = true from (by simp [hdep] : d_ 9 = true)] at hS
      obtain rfl := F.f8 (by simp [hdep])
      obtain rfl := F.f9 (by simp [hdep])
      obtain ⟨⟨ku0, kcell0⟩, kfr0, ⟨ku1, kcell1⟩, kfr1, hres⟩ := kc10.out ms v1 v2 v3 w1 hS
      have HF : Hid (rul0F b3 ba bb bx t0 t1 t2 t3 u0 u1 u2 u3 x1 y1 x2 y2 z1 z2 S0 S1 S2 S3 S4 (upd d_ 10) x6 x7 x8 x9 x10 x11 x12 x13 (.agg #[.int .i64 z1, .int .i64 z2]) (.pointer (some ⟨ms, 0, none⟩)) ms v1 v2 v3 ((w1.setCell ⟨ms, 0, none⟩ (.int .i64 z1)).setCell ⟨ms, 1, none⟩ (.int .i64 z2))) := ⟨F.q1, F.q3, F.q5, F.q7, F.q8, fun _ => ⟨(show _ from (by simp [hdep] : d_ 0 = true)), (show _ from (by simp [hdep] : d_ 1 = true)), (show _ from (by simp [hdep] : d_ 2 = true)), (show _ from (by simp [hdep] : d_ 3 = true)), (show _ from (by simp [hdep] : d_ 4 = true)), (show _ from (by simp [hdep] : d_ 5 = true)), (show _ from (by simp [hdep] : d_ 6 = true)), (show _ from (by simp [hdep] : d_ 7 = true)), (show _ from (by simp [hdep] : d_ 8 = true)), (show _ from (by simp [hdep] : d_ 9 = true))⟩, F.f0, F.f1, F.f2, F.f3, F.f4, F.f5, F.f6, F.f7, F.f8, F.f9, fun h => (by have h2 : d_ 3 = false := h; rw [(by simp [hdep] : d_ 3 = true)] at h2; cases h2), fun _ h => (by have h2 : d_ 7 = false := h; rw [(by simp [hdep] : d_ 7 = true)] at h2; cases h2), fun _ h => (by have h2 : d_ 8 = false := h; rw [(by simp [hdep] : d_ 8 = true)] at h2; cases h2), fun _ h => (by simp [upd] at h), fun _ => (by rw [show upd d_ 10 9 = true from (by simp [hdep] : d_ 9 = true)]; exact hres), F.mz⟩
      clear F hS hres
      go_simp
      exact HK.out _ _ ⟨_, _, _, _, _, _, _, _, _, _, _, _, _, _, rfl, HF.out⟩
  · rintro d_ a_ w1 hall ⟨x6, x7, x8, x9, x10, x11, x12, x13, x14, x5, ms, v1, v2, v3, rfl, F⟩
    have hall' : ∀ k, k < 11 → d_ k = true := hall
    obtain rfl := F.f0 (hall' 0 (by decide))
    obtain rfl := F.f1 (hall' 1 (by decide))
    obtain rfl := F.f2 (hall' 2 (by decide))
    obtain rfl := F.f3 (hall' 3 (by decide))
    obtain rfl := F.f4 (hall' 4 (by decide))
    obtain rfl := F.f5 (hall' 5 (by decide))
    obtain rfl := F.f6 (hall' 6 (by decide))
    obtain rfl := F.f7 (hall' 7 (by decide))
    obtain rfl := F.f8 (hall' 8 (by decide))
    obtain rfl := F.f9 (hall' 9 (by decide))
    have hst := F.st4 (hall' 10 (by decide))
    rw [show d_ 9 = true from hall' 9 (by decide)] at hst
    exact HQ.out ms v1 v2 v3 w1 hst
structure rul1F (b3 : Nat) (ba : Nat) (bb : Nat) (bx : Nat) (t0 : Int) (t1 : Int) (t2 : Int) (t3 : Int) (u0 : Int) (u1 : Int) (u2 : Int) (u3 : Int) (x1 : Int) (y1 : Int) (x2 : Int) (y2 : Int) (z1 : Int) (z2 : Int) (S0 : Bool → Nat → World → Prop) (S1 : Bool → Nat → Unit → World → Prop) (S2 : Bool → Nat → Unit → Unit → World → Prop) (S3 : Bool → Nat → Unit → Unit → Unit → World → Prop) (S4 : Bool → Nat → Unit → Unit → Unit → World → Prop) (d : Nat → Bool) (x6 x7 x8 x9 x10 x11 x12 x13 x14 x5 : Value) (ms : Nat) (v1 : Unit) (v2 : Unit) (v3 : Unit) (w : World) : Prop where
  q1 : d 1 = true → d 0 = true
  q3 : d 3 = true → d 1 = true ∧ d 2 = true
  q5 : d 5 = true → d 4 = true
  q7 : d 7 = true → d 3 = true ∧ d 5 = true ∧ d 6 = true
  q8 : d 8 = true → d 3 = true ∧ d 7 = true
  q10 : d 10 = true → d 0 = true ∧ d 1 = true ∧ d 2 = true ∧ d 3 = true ∧ d 4 = true ∧ d 5 = true ∧ d 6 = true ∧ d 7 = true ∧ d 8 = true ∧ d 9 = true
  f0 : d 0 = true → x6 = .pointer (some ⟨b3, 0, none⟩)
  f1 : d 1 = true → x7 = .func (.func 94) #[] #[.pointer (some ⟨bx, 0, none⟩)]
  f2 : d 2 = true → x8 = .agg #[.int .i64 t0, .int .i64 t1, .int .i64 t2, .int .i64 t3]
  f3 : d 3 = true → x9 = .agg #[.int .i64 x1, .int .i64 y1]
  f4 : d 4 = true → x10 = .pointer (some ⟨b3, 1, none⟩)
  f5 : d 5 = true → x11 = .func (.func 95) #[] #[]
  f6 : d 6 = true → x12 = .agg #[.int .i64 u0, .int .i64 u1, .int .i64 u2, .int .i64 u3]
  f7 : d 7 = true → x13 = .agg #[.int .i64 x2, .int .i64 y2]
  f8 : d 8 = true → x14 = .agg #[.int .i64 z1, .int .i64 z2]
  f9 : d 9 = true → x5 = .pointer (some ⟨ms, 0, none⟩)
  st0 : d 3 = false → S0 (d 9) ms w
  st1 : d 3 = true → d 7 = false → S1 (d 9) ms v1 w
  st2 : d 7 = true → d 8 = false → S2 (d 9) ms v1 v2 w
  st3 : d 8 = true → d 10 = false → S3 (d 9) ms v1 v2 v3 w
  st4 : d 10 = true → S4 (d 9) ms v1 v2 v3 w
  mz : d 9 = false → ms = 0
noncomputable def rul1C : Code := (Tryd.f97.body.bind (regionAt 1)).getD .skip
set_option maxRecDepth 100000 in
set_option maxHeartbeats 4000000 in
theorem rul1 {b3 : Nat} {ba : Nat} {bb : Nat} {bx : Nat} {t0 : Int} {t1 : Int} {t2 : Int} {t3 : Int} {u0 : Int} {u1 : Int} {u2 : Int} {u3 : Int} {x1 : Int} {y1 : Int} {x2 : Int} {y2 : Int} {z1 : Int} {z2 : Int} {S0 : Bool → Nat → World → Prop} {S1 : Bool → Nat → Unit → World → Prop} {S2 : Bool → Nat → Unit → Unit → World → Prop} {S3 : Bool → Nat → Unit → Unit → Unit → World → Prop} {S4 : Bool → Nat → Unit → Unit → Unit → World → Prop} {Q : Exit → Act → World → Prop} {W1 : World} (h0 : S0 false 0 W1.drew)
    (kl1 : Hid (∀ (fs : Bool) (ms : Nat) (w : World), (S0 fs ms w) → w.cell? ⟨b3, 0, none⟩ = some (.func (.func 94) #[] #[.pointer (some ⟨bx, 0, none⟩)])))
    (kl2 : Hid (∀ (fs : Bool) (ms : Nat) (w : World), (S0 fs ms w) → w.cell? ⟨ba, 0, none⟩ = some (.int .i64 t0) ∧ w.cell? ⟨ba, 1, none⟩ = some (.int .i64 t1) ∧ w.cell? ⟨ba, 2, none⟩ = some (.int .i64 t2) ∧ w.cell? ⟨ba, 3, none⟩ = some (.int .i64 t3)))
    (kc3 : Hid (∀ (fs : Bool) (ms : Nat) (w : World), S0 fs ms w → Calls Tryd.prog 94 #[.agg #[.int .i64 t0, .int .i64 t1, .int .i64 t2, .int .i64 t3], .pointer (some ⟨bx, 0, none⟩)] w fun e w' => ∃ v1 : Unit, e = .returned (.agg #[.int .i64 x1, .int .i64 y1]) ∧ S1 fs ms v1 w'))
    (kl5 : Hid (∀ (fs : Bool) (ms : Nat) (v1 : Unit) (w : World), (S0 fs ms w ∨ S1 fs ms v1 w) → w.cell? ⟨b3, 1, none⟩ = some (.func (.func 95) #[] #[])))
    (kl6 : Hid (∀ (fs : Bool) (ms : Nat) (v1 : Unit) (w : World), (S0 fs ms w ∨ S1 fs ms v1 w) → w.cell? ⟨bb, 0, none⟩ = some (.int .i64 u0) ∧ w.cell? ⟨bb, 1, none⟩ = some (.int .i64 u1) ∧ w.cell? ⟨bb, 2, none⟩ = some (.int .i64 u2) ∧ w.cell? ⟨bb, 3, none⟩ = some (.int .i64 u3)))
    (kc7 : Hid (∀ (fs : Bool) (ms : Nat) (v1 : Unit) (w : World), S1 fs ms v1 w → Calls Tryd.prog 95 #[.agg #[.int .i64 u0, .int .i64 u1, .int .i64 u2, .int .i64 u3]] w fun e w' => ∃ v2 : Unit, e = .returned (.agg #[.int .i64 x2, .int .i64 y2]) ∧ S2 fs ms v1 v2 w'))
    (kc8 : Hid (∀ (fs : Bool) (ms : Nat) (v1 : Unit) (v2 : Unit) (w : World), S2 fs ms v1 v2 w → Calls Tryd.prog 78 #[.agg #[.int .i64 x1, .int .i64 y1], .agg #[.int .i64 x2, .int .i64 y2]] w fun e w' => ∃ v3 : Unit, e = .returned (.agg #[.int .i64 z1, .int .i64 z2]) ∧ S3 fs ms v1 v2 v3 w'))
    (ks0 : Hid (∀ (w : World), S0 false 0 w → S0 true w.heap.size (w.alloc (.cells #[.int .i64 0, .int .i64 0] 24))))
    (ks1 : Hid (∀ (v1 : Unit) (w : World), S1 false 0 v1 w → S1 true w.heap.size v1 (w.alloc (.cells #[.int .i64 0, .int .i64 0] 24))))
    (ks2 : Hid (∀ (v1 : Unit) (v2 : Unit) (w : World), S2 false 0 v1 v2 w → S2 true w.heap.size v1 v2 (w.alloc (.cells #[.int .i64 0, .int .i64 0] 24))))
    (ks3 : Hid (∀ (v1 : Unit) (v2 : Unit) (v3 : Unit) (w : World), S3 false 0 v1 v2 v3 w → S3 true w.heap.size v1 v2 v3 (w.alloc (.cells #[.int .i64 0, .int .i64 0] 24))))
    (kc10 : Hid (∀ (ms : Nat) (v1 : Unit) (v2 : Unit) (v3 : Unit) (w : World), S3 true ms v1 v2 v3 w → (∃ u, w.cell? ⟨ms, 0, none⟩ = some u) ∧ w.frozen? ⟨ms, 0, none⟩ = false ∧ (∃ u, w.cell? ⟨ms, 1, none⟩ = some u) ∧ w.frozen? ⟨ms, 1, none⟩ = false ∧ S4 true ms v1 v2 v3 ((w.setCell ⟨ms, 0, none⟩ (.int .i64 z1)).setCell ⟨ms, 1, none⟩ (.int .i64 z2))))
    {s0 s4 s5 s6 s7 s8 s9 s10 s11 s12 s13 s14 s15 s16 s17 s18 s19 : Value} {dd : List Deferred}
    (hQ : ∀ (ms : Nat) (v1 : Unit) (v2 : Unit) (v3 : Unit) (w' : World), S4 true ms v1 v2 v3 w' → Q .normal { tmps := #[s0, .pointer (some ⟨ba, 0, none⟩), .pointer (some ⟨bb, 0, none⟩), .pointer (some ⟨b3, 0, none⟩), s4, .pointer (some ⟨ms, 0, none⟩), .pointer (some ⟨b3, 0, none⟩), .func (.func 94) #[] #[.pointer (some ⟨bx, 0, none⟩)], .agg #[.int .i64 t0, .int .i64 t1, .int .i64 t2, .int .i64 t3], .agg #[.int .i64 x1, .int .i64 y1], .pointer (some ⟨b3, 1, none⟩), .func (.func 95) #[] #[], .agg #[.int .i64 u0, .int .i64 u1, .int .i64 u2, .int .i64 u3], .agg #[.int .i64 x2, .int .i64 y2], .agg #[.int .i64 z1, .int .i64 z2], s15, s16, s17, s18, s19], defers := dd } w') :
    Code.wpIn (wideAt none) 0 Tryd.prog rul1C Q { tmps := #[s0, .pointer (some ⟨ba, 0, none⟩), .pointer (some ⟨bb, 0, none⟩), .pointer (some ⟨b3, 0, none⟩), s4, s5, s6, s7, s8, s9, s10, s11, s12, s13, s14, s15, s16, s17, s18, s19], defers := dd } W1 := by
  have HQ := Lib.hid hQ
  clear hQ
  conv => arg 4; whnf
  refine wpIn_region_invG mixed (by kernel_rfl) (fun d_ a_ w' => ∃ (x6 : Value) (x7 : Value) (x8 : Value) (x9 : Value) (x10 : Value) (x11 : Value) (x12 : Value) (x13 : Value) (x14 : Value) (x5 : Value) (ms : Nat) (v1 : Unit) (v2 : Unit) (v3 : Unit), a_ = { tmps := #[s0, .pointer (some ⟨ba, 0, none⟩), .pointer (some ⟨bb, 0, none⟩), .pointer (some ⟨b3, 0, none⟩), s4, x5, x6, x7, x8, x9, x10, x11, x12, x13, x14, s15, s16, s17, s18, s19], defers := dd } ∧ rul1F b3 ba bb bx t0 t1 t2 t3 u0 u1 u2 u3 x1 y1 x2 y2 z1 z2 S0 S1 S2 S3 S4 d_ x6 x7 x8 x9 x10 x11 x12 x13 x14 x5 ms v1 v2 v3 w') ?_ ?_ ?_
  · refine ⟨s6, s7, s8, s9, s10, s11, s12, s13, s14, s5, 0, default, default, default, rfl, ?_⟩
    constructor <;> first | rfl | (intro _; rfl) | (intro h; cases h; done) | (intro _; exact h0) | exact h0
  · refine ⟨?_, ?_, ?_, ?_, ?_, ?_, ?_, ?_, ?_, ?_, ?_, trivial⟩
    all_goals
      rintro d_ a_ w1 K hd_ hdep ⟨x6, x7, x8, x9, x10, x11, x12, x13, x14, x5, ms, v1, v2, v3, rfl, F⟩ HK
      simp [Region.binds] at hdep
    · have HF : Hid (rul1F b3 ba bb bx t0 t1 t2 t3 u0 u1 u2 u3 x1 y1 x2 y2 z1 z2 S0 S1 S2 S3 S4 (upd d_ 0) (.pointer (some ⟨b3, 0, none⟩)) x7 x8 x9 x10 x11 x12 x13 x14 x5 ms v1 v2 v3 w1) := ⟨fun h => rfl, F.q3, F.q5, F.q7, F.q8, fun h => ⟨rfl, (F.q10 h).2.1, (F.q10 h).2.2.1, (F.q10 h).2.2.2.1, (F.q10 h).2.2.2.2.1, (F.q10 h).2.2.2.2.2.1, (F.q10 h).2.2.2.2.2.2.1, (F.q10 h).2.2.2.2.2.2.2.1, (F.q10 h).2.2.2.2.2.2.2.2.1, (F.q10 h).2.2.2.2.2.2.2.2.2⟩, fun _ => rfl, F.f1, F.f2, F.f3, F.f4, F.f5, F.f6, F.f7, F.f8, F.f9, F.st0, F.st1, F.st2, F.st3, F.st4, F.mz⟩
      clear F
      go_simp
      exact HK.out _ _ ⟨_, _, _, _, _, _, _, _, _, _, _, _, _, _, rfl, HF.out⟩
    · have hst : S0 (d_ 9) ms w1 := by
        have n_ : d_ 3 = false := by
          cases e_ : d_ 3 with
          | false => rfl
          | true => have h2 := (F.q3 e_).1; rw [show d_ 1 = false from hd_] at h2; cases h2
        exact (F.st0 n_)
      have kk := kl1.out (d_ 9) ms w1 hst
      clear hst
      obtain rfl := F.f0 (by simp [hdep])
      have HF : Hid (rul1F b3 ba bb bx t0 t1 t2 t3 u0 u1 u2 u3 x1 y1 x2 y2 z1 z2 S0 S1 S2 S3 S4 (upd d_ 1) (.pointer (some ⟨b3, 0, none⟩)) (.func (.func 94) #[] #[.pointer (some ⟨bx, 0, none⟩)]) x8 x9 x10 x11 x12 x13 x14 x5 ms v1 v2 v3 w1) := ⟨fun _ => (show _ from (by simp [hdep] : d_ 0 = true)), fun h => ⟨rfl, (F.q3 h).2⟩, F.q5, F.q7, F.q8, fun h => ⟨(F.q10 h).1, rfl, (F.q10 h).2.2.1, (F.q10 h).2.2.2.1, (F.q10 h).2.2.2.2.1, (F.q10 h).2.2.2.2.2.1, (F.q10 h).2.2.2.2.2.2.1, (F.q10 h).2.2.2.2.2.2.2.1, (F.q10 h).2.2.2.2.2.2.2.2.1, (F.q10 h).2.2.2.2.2.2.2.2.2⟩, F.f0, fun _ => rfl, F.f2, F.f3, F.f4, F.f5, F.f6, F.f7, F.f8, F.f9, F.st0, F.st1, F.st2, F.st3, F.st4, F.mz⟩
      clear F
      go_simp
      exact HK.out _ _ ⟨_, _, _, _, _, _, _, _, _, _, _, _, _, _, rfl, HF.out⟩
    · have hst : S0 (d_ 9) ms w1 := by
        have n_ : d_ 3 = false := by
          cases e_ : d_ 3 with
          | false => rfl
          | true => have h2 := (F.q3 e_).2; rw [show d_ 2 = false from hd_] at h2; cases h2
        exact (F.st0 n_)
      have kk := kl2.out (d_ 9) ms w1 hst
      obtain ⟨kk0, kk1, kk2, kk3⟩ := kk
      clear hst
      have HF : Hid (rul1F b3 ba bb bx t0 t1 t2 t3 u0 u1 u2 u3 x1 y1 x2 y2 z1 z2 S0 S1 S2 S3 S4 (upd d_ 2) x6 x7 (.agg #[.int .i64 t0, .int .i64 t1, .int .i64 t2, .int .i64 t3]) x9 x10 x11 x12 x13 x14 x5 ms v1 v2 v3 w1) := ⟨F.q1, fun h => ⟨(F.q3 h).1, rfl⟩, F.q5, F.q7, F.q8, fun h => ⟨(F.q10 h).1, (F.q10 h).2.1, rfl, (F.q10 h).2.2.2.1, (F.q10 h).2.2.2.2.1, (F.q10 h).2.2.2.2.2.1, (F.q10 h).2.2.2.2.2.2.1, (F.q10 h).2.2.2.2.2.2.2.1, (F.q10 h).2.2.2.2.2.2.2.2.1, (F.q10 h).2.2.2.2.2.2.2.2.2⟩, F.f0, F.f1, fun _ => rfl, F.f3, F.f4, F.f5, F.f6, F.f7, F.f8, F.f9, F.st0, F.st1, F.st2, F.st3, F.st4, F.mz⟩
      clear F
      go_simp
      exact HK.out _ _ ⟨_, _, _, _, _, _, _, _, _, _, _, _, _, _, rfl, HF.out⟩
    · have hS := F.st0  hd_
      obtain rfl := F.f1 (by simp [hdep])
      obtain rfl := F.f2 (by simp [hdep])
      have hc := kc3.out (d_ 9) ms w1 hS
      have HF := Lib.hid F
      clear F
      have cf := cf64
      go_simp
      refine ⟨trivial, rfl, wideAt_calls (hc.mono ?_)⟩
      rintro e w5 ⟨v_, rfl, hres⟩
      exact HK.out _ _ ⟨_, _, _, _, _, _, _, _, _, _, ms, v_, v2, v3, rfl, ⟨HF.out.q1, fun _ => ⟨(show _ from (by simp [hdep] : d_ 1 = true)), (show _ from (by simp [hdep] : d_ 2 = true))⟩, HF.out.q5, fun h => ⟨rfl, (HF.out.q7 h).2.1, (HF.out.q7 h).2.2⟩, fun h => ⟨rfl, (HF.out.q8 h).2⟩, fun h => ⟨(HF.out.q10 h).1, (HF.out.q10 h).2.1, (HF.out.q10 h).2.2.1, rfl, (HF.out.q10 h).2.2.2.2.1, (HF.out.q10 h).2.2.2.2.2.1, (HF.out.q10 h).2.2.2.2.2.2.1, (HF.out.q10 h).2.2.2.2.2.2.2.1, (HF.out.q10 h).2.2.2.2.2.2.2.2.1, (HF.out.q10 h).2.2.2.2.2.2.2.2.2⟩, HF.out.f0, HF.out.f1, HF.out.f2, fun _ => rfl, HF.out.f4, HF.out.f5, HF.out.f6, HF.out.f7, HF.out.f8, HF.out.f9, fun h => (by simp [upd] at h), fun _ _ => hres, fun h _ => (by have h2 : d_ 3 = true := (HF.out.q7 h).1; rw [show d_ 3 = false from hd_] at h2; cases h2), fun h _ => (by have h2 : d_ 3 = true := (HF.out.q8 h).1; rw [show d_ 3 = false from hd_] at h2; cases h2), fun h => (by have h2 : d_ 3 = true := (HF.out.q10 h).2.2.2.1; rw [show d_ 3 = false from hd_] at h2; cases h2), HF.out.mz⟩⟩
    · have HF : Hid (rul1F b3 ba bb bx t0 t1 t2 t3 u0 u1 u2 u3 x1 y1 x2 y2 z1 z2 S0 S1 S2 S3 S4 (upd d_ 4) x6 x7 x8 x9 (.pointer (some ⟨b3, 1, none⟩)) x11 x12 x13 x14 x5 ms v1 v2 v3 w1) := ⟨F.q1, F.q3, fun h => rfl, F.q7, F.q8, fun h => ⟨(F.q10 h).1, (F.q10 h).2.1, (F.q10 h).2.2.1, (F.q10 h).2.2.2.1, rfl, (F.q10 h).2.2.2.2.2.1, (F.q10 h).2.2.2.2.2.2.1, (F.q10 h).2.2.2.2.2.2.2.1, (F.q10 h).2.2.2.2.2.2.2.2.1, (F.q10 h).2.2.2.2.2.2.2.2.2⟩, F.f0, F.f1, F.f2, F.f3, fun _ => rfl, F.f5, F.f6, F.f7, F.f8, F.f9, F.st0, F.st1, F.st2, F.st3, F.st4, F.mz⟩
      clear F
      go_simp
      exact HK.out _ _ ⟨_, _, _, _, _, _, _, _, _, _, _, _, _, _, rfl, HF.out⟩
    · have hst : S0 (d_ 9) ms w1 ∨ S1 (d_ 9) ms v1 w1 := by
        cases e1 : d_ 3 with
        | false => exact .inl ((F.st0 e1))
        | true =>
          have n_ : d_ 7 = false := by
            cases e_ : d_ 7 with
            | false => rfl
            | true => have h2 := (F.q7 e_).2.1; rw [show d_ 5 = false from hd_] at h2; cases h2
          exact .inr ((F.st1 e1 n_))
      have kk := kl5.out (d_ 9) ms v1 w1 hst
      clear hst
      obtain rfl := F.f4 (by simp [hdep])
      have HF : Hid (rul1F b3 ba bb bx t0 t1 t2 t3 u0 u1 u2 u3 x1 y1 x2 y2 z1 z2 S0 S1 S2 S3 S4 (upd d_ 5) x6 x7 x8 x9 (.pointer (some ⟨b3, 1, none⟩)) (.func (.func 95) #[] #[]) x12 x13 x14 x5 ms v1 v2 v3 w1) := ⟨F.q1, F.q3, fun _ => (show _ from (by simp [hdep] : d_ 4 = true)), fun h => ⟨(F.q7 h).1, rfl, (F.q7 h).2.2⟩, F.q8, fun h => ⟨(F.q10 h).1, (F.q10 h).2.1, (F.q10 h).2.2.1, (F.q10 h).2.2.2.1, (F.q10 h).2.2.2.2.1, rfl, (F.q10 h).2.2.2.2.2.2.1, (F.q10 h).2.2.2.2.2.2.2.1, (F.q10 h).2.2.2.2.2.2.2.2.1, (F.q10 h).2.2.2.2.2.2.2.2.2⟩, F.f0, F.f1, F.f2, F.f3, F.f4, fun _ => rfl, F.f6, F.f7, F.f8, F.f9, F.st0, F.st1, F.st2, F.st3, F.st4, F.mz⟩
      clear F
      go_simp
      exact HK.out _ _ ⟨_, _, _, _, _, _, _, _, _, _, _, _, _, _, rfl, HF.out⟩
    · have hst : S0 (d_ 9) ms w1 ∨ S1 (d_ 9) ms v1 w1 := by
        cases e1 : d_ 3 with
        | false => exact .inl ((F.st0 e1))
        | true =>
          have n_ : d_ 7 = false := by
            cases e_ : d_ 7 with
            | false => rfl
            | true => have h2 := (F.q7 e_).2.2; rw [show d_ 6 = false from hd_] at h2; cases h2
          exact .inr ((F.st1 e1 n_))
      have kk := kl6.out (d_ 9) ms v1 w1 hst
      obtain ⟨kk0, kk1, kk2, kk3⟩ := kk
      clear hst
      have HF : Hid (rul1F b3 ba bb bx t0 t1 t2 t3 u0 u1 u2 u3 x1 y1 x2 y2 z1 z2 S0 S1 S2 S3 S4 (upd d_ 6) x6 x7 x8 x9 x10 x11 (.agg #[.int .i64 u0, .int .i64 u1, .int .i64 u2, .int .i64 u3]) x13 x14 x5 ms v1 v2 v3 w1) := ⟨F.q1, F.q3, F.q5, fun h => ⟨(F.q7 h).1, (F.q7 h).2.1, rfl⟩, F.q8, fun h => ⟨(F.q10 h).1, (F.q10 h).2.1, (F.q10 h).2.2.1, (F.q10 h).2.2.2.1, (F.q10 h).2.2.2.2.1, (F.q10 h).2.2.2.2.2.1, rfl, (F.q10 h).2.2.2.2.2.2.2.1, (F.q10 h).2.2.2.2.2.2.2.2.1, (F.q10 h).2.2.2.2.2.2.2.2.2⟩, F.f0, F.f1, F.f2, F.f3, F.f4, F.f5, fun _ => rfl, F.f7, F.f8, F.f9, F.st0, F.st1, F.st2, F.st3, F.st4, F.mz⟩
      clear F
      go_simp
      exact HK.out _ _ ⟨_, _, _, _, _, _, _, _, _, _, _, _, _, _, rfl, HF.out⟩
    · have hS := F.st1 (by simp [hdep] : d_ 3 = true) hd_
      obtain rfl := F.f5 (by simp [hdep])
      obtain rfl := F.f6 (by simp [hdep])
      have hc := kc7.out (d_ 9) ms v1 w1 hS
      have HF := Lib.hid F
      clear F
      have cf := cf65
      go_simp
      refine ⟨trivial, rfl, wideAt_calls (hc.mono ?_)⟩
      rintro e w5 ⟨v_, rfl, hres⟩
      exact HK.out _ _ ⟨_, _, _, _, _, _, _, _, _, _, ms, v1, v_, v3, rfl, ⟨HF.out.q1, HF.out.q3, HF.out.q5, fun _ => ⟨(show _ from (by simp [hdep] : d_ 3 = true)), (show _ from (by simp [hdep] : d_ 5 = true)), (show _ from (by simp [hdep] : d_ 6 = true))⟩, fun h => ⟨(HF.out.q8 h).1, rfl⟩, fun h => ⟨(HF.out.q10 h).1, (HF.out.q10 h).2.1, (HF.out.q10 h).2.2.1, (HF.out.q10 h).2.2.2.1, (HF.out.q10 h).2.2.2.2.1, (HF.out.q10 h).2.2.2.2.2.1, (HF.out.q10 h).2.2.2.2.2.2.1, rfl, (HF.out.q10 h).2.2.2.2.2.2.2.2.1, (HF.out.q10 h).2.2.2.2.2.2.2.2.2⟩, HF.out.f0, HF.out.f1, HF.out.f2, HF.out.f3, HF.out.f4, HF.out.f5, HF.out.f6, fun _ => rfl, HF.out.f8, HF.out.f9, fun h => (by have h2 : d_ 3 = false := h; rw [(by simp [hdep] : d_ 3 = true)] at h2; cases h2), fun _ h => (by simp [upd] at h), fun _ _ => hres, fun h _ => (by have h2 : d_ 7 = true := (HF.out.q8 h).2; rw [show d_ 7 = false from hd_] at h2; cases h2), fun h => (by have h2 : d_ 7 = true := (HF.out.q10 h).2.2.2.2.2.2.2.1; rw [show d_ 7 = false from hd_] at h2; cases h2), HF.out.mz⟩⟩
    · have hS := F.st2 (by simp [hdep] : d_ 7 = true) hd_
      obtain rfl := F.f3 (by simp [hdep])
      obtain rfl := F.f7 (by simp [hdep])
      have hc := kc8.out (d_ 9) ms v1 v2 w1 hS
      have HF := Lib.hid F
      clear F
      go_simp
      refine ⟨trivial, rfl, wideAt_calls (hc.mono ?_)⟩
      rintro e w5 ⟨v_, rfl, hres⟩
      exact HK.out _ _ ⟨_, _, _, _, _, _, _, _, _, _, ms, v1, v2, v_, rfl, ⟨HF.out.q1, HF.out.q3, HF.out.q5, HF.out.q7, fun _ => ⟨(show _ from (by simp [hdep] : d_ 3 = true)), (show _ from (by simp [hdep] : d_ 7 = true))⟩, fun h => ⟨(HF.out.q10 h).1, (HF.out.q10 h).2.1, (HF.out.q10 h).2.2.1, (HF.out.q10 h).2.2.2.1, (HF.out.q10 h).2.2.2.2.1, (HF.out.q10 h).2.2.2.2.2.1, (HF.out.q10 h).2.2.2.2.2.2.1, (HF.out.q10 h).2.2.2.2.2.2.2.1, rfl, (HF.out.q10 h).2.2.2.2.2.2.2.2.2⟩, HF.out.f0, HF.out.f1, HF.out.f2, HF.out.f3, HF.out.f4, HF.out.f5, HF.out.f6, HF.out.f7, fun _ => rfl, HF.out.f9, fun h => (by have h2 : d_ 3 = false := h; rw [(by simp [hdep] : d_ 3 = true)] at h2; cases h2), fun _ h => (by have h2 : d_ 7 = false := h; rw [(by simp [hdep] : d_ 7 = true)] at h2; cases h2), fun _ h => (by simp [upd] at h), fun _ _ => hres, fun h => (by have h2 : d_ 8 = true := (HF.out.q10 h).2.2.2.2.2.2.2.2.1; rw [show d_ 8 = false from hd_] at h2; cases h2), HF.out.mz⟩⟩
    · have HF : Hid (rul1F b3 ba bb bx t0 t1 t2 t3 u0 u1 u2 u3 x1 y1 x2 y2 z1 z2 S0 S1 S2 S3 S4 (upd d_ 9) x6 x7 x8 x9 x10 x11 x12 x13 x14 (.pointer (some ⟨w1.heap.size, 0, none⟩)) w1.heap.size v1 v2 v3 (w1.alloc (.cells #[.int .i64 0, .int .i64 0] 24))) := ⟨F.q1, F.q3, F.q5, F.q7, F.q8, fun h => ⟨(F.q10 h).1, (F.q10 h).2.1, (F.q10 h).2.2.1, (F.q10 h).2.2.2.1, (F.q10 h).2.2.2.2.1, (F.q10 h).2.2.2.2.2.1, (F.q10 h).2.2.2.2.2.2.1, (F.q10 h).2.2.2.2.2.2.2.1, (F.q10 h).2.2.2.2.2.2.2.2.1, rfl⟩, F.f0, F.f1, F.f2, F.f3, F.f4, F.f5, F.f6, F.f7, F.f8, fun _ => rfl, fun b => ks0.out w1 (by have h := F.st0 b; rw [show d_ 9 = false from hd_, F.mz hd_] at h; exact h), fun a b => ks1.out v1 w1 (by have h := F.st1 a b; rw [show d_ 9 = false from hd_, F.mz hd_] at h; exact h), fun a b => ks2.out v1 v2 w1 (by have h := F.st2 a b; rw [show d_ 9 = false from hd_, F.mz hd_] at h; exact h), fun a b => ks3.out v1 v2 v3 w1 (by have h := F.st3 a b; rw [show d_ 9 = false from hd_, F.mz hd_] at h; exact h), fun a => (by have h2 : d_ 9 = true := (F.q10 a).2.2.2.2.2.2.2.2.2; rw [show d_ 9 = false from hd_] at h2; cases h2), fun h => (by simp [upd] at h)⟩
      clear F
      go_simp
      exact HK.out _ _ ⟨_, _, _, _, _, _, _, _, _, _, _, _, _, _, rfl, HF.out⟩
    · have hS := F.st3 (by simp [hdep] : d_ 8 = true) hd_
      rw [show d_ 9 = true from (by simp [hdep] : d_ 9 = true)] at hS
      obtain rfl := F.f8 (by simp [hdep])
      obtain rfl := F.f9 (by simp [hdep])
      obtain ⟨⟨ku0, kcell0⟩, kfr0, ⟨ku1, kcell1⟩, kfr1, hres⟩ := kc10.out ms v1 v2 v3 w1 hS
      have HF : Hid (rul1F b3 ba bb bx t0 t1 t2 t3 u0 u1 u2 u3 x1 y1 x2 y2 z1 z2 S0 S1 S2 S3 S4 (upd d_ 10) x6 x7 x8 x9 x10 x11 x12 x13 (.agg #[.int .i64 z1, .int .i64 z2]) (.pointer (some ⟨ms, 0, none⟩)) ms v1 v2 v3 ((w1.setCell ⟨ms, 0, none⟩ (.int .i64 z1)).setCell ⟨ms, 1, none⟩ (.int .i64 z2))) := ⟨F.q1, F.q3, F.q5, F.q7, F.q8, fun _ => ⟨(show _ from (by simp [hdep] : d_ 0 = true)), (show _ from (by simp [hdep] : d_ 1 = true)), (show _ from (by simp [hdep] : d_ 2 = true)), (show _ from (by simp [hdep] : d_ 3 = true)), (show _ from (by simp [hdep] : d_ 4 = true)), (show _ from (by simp [hdep] : d_ 5 = true)), (show _ from (by simp [hdep] : d_ 6 = true)), (show _ from (by simp [hdep] : d_ 7 = true)), (show _ from (by simp [hdep] : d_ 8 = true)), (show _ from (by simp [hdep] : d_ 9 = true))⟩, F.f0, F.f1, F.f2, F.f3, F.f4, F.f5, F.f6, F.f7, F.f8, F.f9, fun h => (by have h2 : d_ 3 = false := h; rw [(by simp [hdep] : d_ 3 = true)] at h2; cases h2), fun _ h => (by have h2 : d_ 7 = false := h; rw [(by simp [hdep] : d_ 7 = true)] at h2; cases h2), fun _ h => (by have h2 : d_ 8 = false := h; rw [(by simp [hdep] : d_ 8 = true)] at h2; cases h2), fun _ h => (by simp [upd] at h), fun _ => (by rw [show upd d_ 10 9 = true from (by simp [hdep] : d_ 9 = true)]; exact hres), F.mz⟩
      clear F hS hres
      go_simp
      exact HK.out _ _ ⟨_, _, _, _, _, _, _, _, _, _, _, _, _, _, rfl, HF.out⟩
  · rintro d_ a_ w1 hall ⟨x6, x7, x8, x9, x10, x11, x12, x13, x14, x5, ms, v1, v2, v3, rfl, F⟩
    have hall' : ∀ k, k < 11 → d_ k = true := hall
    obtain rfl := F.f0 (hall' 0 (by decide))
    obtain rfl := F.f1 (hall' 1 (by decide))
    obtain rfl := F.f2 (hall' 2 (by decide))
    obtain rfl := F.f3 (hall' 3 (by decide))
    obtain rfl := F.f4 (hall' 4 (by decide))
    obtain rfl := F.f5 (hall' 5 (by decide))
    obtain rfl := F.f6 (hall' 6 (by decide))
    obtain rfl := F.f7 (hall' 7 (by decide))
    obtain rfl := F.f8 (hall' 8 (by decide))
    obtain rfl := F.f9 (hall' 9 (by decide))
    have hst := F.st4 (hall' 10 (by decide))
    rw [show d_ 9 = true from hall' 9 (by decide)] at hst
    exact HQ.out ms v1 v2 v3 w1 hst
end Go.Proofs.YtbnhngfegnhaiaaDoor
namespace Go.Proofs.YtbnhngfegnhaiaaDoor
open Go.RowKit
set_option linter.unusedVariables false
set_option linter.unusedSimpArgs false
/-- A span's block that may have been laid. -/
def FreshS (W : World) (fs : Bool) (ms : Nat) (v : World) : Prop := fs = true → W.heap.size ≤ ms ∧ v.heap[ms]? = some (.cells #[.int .i64 0, .int .i64 0] 24 (0, 0))
theorem FreshS.no (W v : World) (ms : Nat) : FreshS W false ms v := fun h => by cases h
theorem FreshS.mono {W v v' : World} {fs : Bool} {ms : Nat} (h : FreshS W fs ms v) (hb : Below v.heap.size v v') : FreshS W fs ms v' := fun e => ⟨(h e).1, (hb.block _ (heap_lt (h e).2)).trans (h e).2⟩
theorem FreshS.yes {W v : World} (hv : W.heap.size ≤ v.heap.size) : FreshS W true v.heap.size (v.alloc (.cells #[.int .i64 0, .int .i64 0] 24)) := fun _ => ⟨hv, World.alloc_heap_new _ _⟩
theorem FreshS.put {W v : World} {ms : Nat} (h : FreshS W true ms v) (hb : Below W.heap.size W v) (z1 z2 : Value) : (∃ u, v.cell? ⟨ms, 0, none⟩ = some u) ∧ v.frozen? ⟨ms, 0, none⟩ = false ∧ (∃ u, v.cell? ⟨ms, 1, none⟩ = some u) ∧ v.frozen? ⟨ms, 1, none⟩ = false ∧ Below W.heap.size W ((v.setCell ⟨ms, 0, none⟩ z1).setCell ⟨ms, 1, none⟩ z2) ∧ ((v.setCell ⟨ms, 0, none⟩ z1).setCell ⟨ms, 1, none⟩ z2).heap[ms]? = some (.cells #[z1, z2] 24 (0, 0)) := by
  obtain ⟨h1, h2⟩ := h rfl
  exact ⟨⟨_, by rw [cell_of_heap h2]; rfl⟩, frozen_of_heap h2, ⟨_, by rw [cell_of_heap h2]; rfl⟩, frozen_of_heap h2, (hb.setCell (p := ⟨ms, 0, none⟩) h1 _).setCell (p := ⟨ms, 1, none⟩) h1 _, heap_setCell_at (k := 1) (heap_setCell_at (k := 0) h2 z1) z2⟩
set_option maxRecDepth 100000 in
set_option maxHeartbeats 4000000 in
theorem rule0 {a b : Mrk} {ba bb : Nat} {w : World} (ha : w.heap[ba]? = some (.cells a.arr 30 (0, 0))) (hb : w.heap[bb]? = some (.cells b.arr 30 (0, 0))) :
    Calls Tryd.prog 97 #[.agg #[.func (.func 93) #[] #[], .func (.func 93) #[] #[]], .pointer (some ⟨ba, 0, none⟩), .pointer (some ⟨bb, 0, none⟩)] w fun e w' => e = .returned (.bool (!(a.tone.cut b.tone).is)) ∧ Below w.heap.size w w' := by
  have HX := Lib.hid (And.intro (World.alloc_heap_new w (.cells #[.func (.func 93) #[] #[], .func (.func 93) #[] #[]] 169)) (alloc_below w (.cells #[.func (.func 93) #[] #[], .func (.func 93) #[] #[]] 169)))
  have HA := Lib.hid (And.intro ((HX.out.2.block _ (heap_lt ha)).trans ha) ((HX.out.2.block _ (heap_lt hb)).trans hb))
  clear ha hb
  go_enter Tryd.func97, Tryd.ntmps97
  refine wp_seq_hid ?_
  intro K0 HK0
  go_wp2_with fail
  refine HK0.out _ _ ?_
  clear HK0 K0
  revert HX HA
  generalize w.alloc (.cells #[.func (.func 93) #[] #[], .func (.func 93) #[] #[]] 169) = w1
  intro HX HA
  have KF : Hid (∀ v, Below w1.heap.size w1 v → v.heap[w.heap.size]? = some (.cells #[.func (.func 93) #[] #[], .func (.func 93) #[] #[]] 169 (0, 0)) ∧ v.heap[ba]? = some (.cells a.arr 30 (0, 0)) ∧ v.heap[bb]? = some (.cells b.arr 30 (0, 0))) := fun v hv => ⟨(hv.block _ (heap_lt HX.out.1)).trans HX.out.1, (hv.block _ (heap_lt HA.out.1)).trans HA.out.1, (hv.block _ (heap_lt HA.out.2)).trans HA.out.2⟩
  refine wp_seq_hid ?_
  intro K1 HK1
  refine wpIn_wide.1 (rul0 (b3 := w.heap.size) (ba := ba) (bb := bb) (bx := 0) (t0 := a.pos.lo) (t1 := a.pos.hi) (t2 := a.tone.lo) (t3 := a.tone.hi) (u0 := b.pos.lo) (u1 := b.pos.hi) (u2 := b.tone.lo) (u3 := b.tone.hi) (x1 := a.tone.lo) (y1 := a.tone.hi) (x2 := b.tone.lo) (y2 := b.tone.hi) (z1 := (a.tone.cut b.tone).lo) (z2 := (a.tone.cut b.tone).hi)
    (S0 := fun fs ms v => Below w1.heap.size w1 v ∧ FreshS w1 fs ms v) (S1 := fun fs ms _ v => Below w1.heap.size w1 v ∧ FreshS w1 fs ms v) (S2 := fun fs ms _ _ v => Below w1.heap.size w1 v ∧ FreshS w1 fs ms v) (S3 := fun fs ms _ _ _ v => Below w1.heap.size w1 v ∧ FreshS w1 fs ms v) (S4 := fun fs ms _ _ _ v => Below w1.heap.size w1 v ∧ v.heap[ms]? = some (.cells (a.tone.cut b.tone).arr 24 (0, 0)))
    ?h0 ?l1 ?l2 ?c3 ?l5 ?l6 ?c7 ?c8 ?s0 ?s1 ?s2 ?s3 ?c10 ?hQ)
  case h0 => exact ⟨(Below.refl _ _).drew, FreshS.no _ _ _⟩
  case l1 => exact fun fs ms v h => by rw [cell_of_heap (KF.out v h.1).1]; rfl
  case l2 =>
    intro fs ms v h
    have hq := (KF.out v h.1).2.1
    refine ⟨?_, ?_, ?_, ?_⟩ <;> (rw [cell_of_heap hq]; rfl)
  case c3 =>
    intro fs ms v h
    refine (tone63 a v).mono ?_
    rintro e v' ⟨rfl, hb⟩
    exact ⟨(), rfl, h.1.trans (hb.mono h.1.size), h.2.mono hb⟩
  case l5 =>
    rintro fs ms _ v (h | h)
    · rw [cell_of_heap (KF.out v h.1).1]; rfl
    · rw [cell_of_heap (KF.out v h.1).1]; rfl
  case l6 =>
    rintro fs ms _ v (h | h)
    · have hq := (KF.out v h.1).2.2
      refine ⟨?_, ?_, ?_, ?_⟩ <;> (rw [cell_of_heap hq]; rfl)
    · have hq := (KF.out v h.1).2.2
      refine ⟨?_, ?_, ?_, ?_⟩ <;> (rw [cell_of_heap hq]; rfl)
  case c7 =>
    intro fs ms _ v h
    refine (tone63 b v).mono ?_
    rintro e v' ⟨rfl, hb⟩
    exact ⟨(), rfl, h.1.trans (hb.mono h.1.size), h.2.mono hb⟩
  case c8 =>
    intro fs ms _ _ v h
    refine (both68 a.tone b.tone v).mono ?_
    rintro e v' ⟨rfl, hb⟩
    exact ⟨(), rfl, h.1.trans (hb.mono h.1.size), h.2.mono hb⟩
  case s0 => exact fun v h => ⟨h.1.alloc h.1.size _, FreshS.yes h.1.size⟩
  case s1 => exact fun _ v h => ⟨h.1.alloc h.1.size _, FreshS.yes h.1.size⟩
  case s2 => exact fun _ _ v h => ⟨h.1.alloc h.1.size _, FreshS.yes h.1.size⟩
  case s3 => exact fun _ _ _ v h => ⟨h.1.alloc h.1.size _, FreshS.yes h.1.size⟩
  case c10 =>
    intro ms _ _ _ v h
    obtain ⟨g1, g2, g3, g4, g5, g6⟩ := h.2.put h.1 (.int .i64 (a.tone.cut b.tone).lo) (.int .i64 (a.tone.cut b.tone).hi)
    exact ⟨g1, g2, g3, g4, g5, g6⟩
  intro ms _ _ _ w2 h
  have HF := Lib.hid h
  clear h
  refine HK1.out _ _ ?_
  have m0 : w2.cell? ⟨ms, 0, none⟩ = some (.int .i64 (a.tone.cut b.tone).lo) := by rw [cell_of_heap HF.out.2]; rfl
  have m1 : w2.cell? ⟨ms, 1, none⟩ = some (.int .i64 (a.tone.cut b.tone).hi) := by rw [cell_of_heap HF.out.2]; rfl
  have HZ : Hid ((!(a.tone.cut b.tone).is) = decide ((a.tone.cut b.tone).hi < (a.tone.cut b.tone).lo)) := by
    unfold Spn.is
    rw [Hid, Bool.eq_iff_iff]
    simp
  revert m0 m1 HZ
  generalize (a.tone.cut b.tone).lo = zl
  generalize (a.tone.cut b.tone).hi = zh
  intro m0 m1 HZ
  go_wp2_with fail
  go_ret
  exact ⟨ret_bool HZ.out.symm, HX.out.2.trans (HF.out.1.mono HX.out.2.size)⟩
set_option maxRecDepth 100000 in
set_option maxHeartbeats 4000000 in
theorem rule1 {a b : Mrk} {ba bb : Nat} {r : Rws} {al ar : Option Addr} {cl cr bx : Nat} {w : World} (hs : a.Sm) (hn : r.Nums) (hx : w.heap[bx]? = some (.cells (r.arr al cl ar cr) 26 (0, 0))) (ha : w.heap[ba]? = some (.cells a.arr 30 (0, 0))) (hb : w.heap[bb]? = some (.cells b.arr 30 (0, 0))) :
    Calls Tryd.prog 97 #[.agg #[.func (.func 94) #[] #[.pointer (some ⟨bx, 0, none⟩)], .func (.func 95) #[] #[]], .pointer (some ⟨ba, 0, none⟩), .pointer (some ⟨bb, 0, none⟩)] w fun e w' => e = .returned (.bool (!((r.away a).cut b.pos).is)) ∧ Below w.heap.size w w' := by
  have HX := Lib.hid (And.intro (World.alloc_heap_new w (.cells #[.func (.func 94) #[] #[.pointer (some ⟨bx, 0, none⟩)], .func (.func 95) #[] #[]] 169)) (alloc_below w (.cells #[.func (.func 94) #[] #[.pointer (some ⟨bx, 0, none⟩)], .func (.func 95) #[] #[]] 169)))
  have HA := Lib.hid (And.intro ((HX.out.2.block _ (heap_lt ha)).trans ha) ((HX.out.2.block _ (heap_lt hb)).trans hb))
  have HXX := Lib.hid ((HX.out.2.block _ (heap_lt hx)).trans hx)
  have HS := Lib.hid (And.intro hs hn)
  clear hx hs hn
  clear ha hb
  go_enter Tryd.func97, Tryd.ntmps97
  refine wp_seq_hid ?_
  intro K0 HK0
  go_wp2_with fail
  refine HK0.out _ _ ?_
  clear HK0 K0
  revert HX HA HXX
  generalize w.alloc (.cells #[.func (.func 94) #[] #[.pointer (some ⟨bx, 0, none⟩)], .func (.func 95) #[] #[]] 169) = w1
  intro HX HA HXX
  have KF : Hid (∀ v, Below w1.heap.size w1 v → v.heap[w.heap.size]? = some (.cells #[.func (.func 94) #[] #[.pointer (some ⟨bx, 0, none⟩)], .func (.func 95) #[] #[]] 169 (0, 0)) ∧ v.heap[ba]? = some (.cells a.arr 30 (0, 0)) ∧ v.heap[bb]? = some (.cells b.arr 30 (0, 0)) ∧ v.heap[bx]? = some (.cells (r.arr al cl ar cr) 26 (0, 0))) := fun v hv => ⟨(hv.block _ (heap_lt HX.out.1)).trans HX.out.1, (hv.block _ (heap_lt HA.out.1)).trans HA.out.1, (hv.block _ (heap_lt HA.out.2)).trans HA.out.2, (hv.block _ (heap_lt HXX.out)).trans HXX.out⟩
  refine wp_seq_hid ?_
  intro K1 HK1
  refine wpIn_wide.1 (rul1 (b3 := w.heap.size) (ba := ba) (bb := bb) (bx := bx) (t0 := a.pos.lo) (t1 := a.pos.hi) (t2 := a.tone.lo) (t3 := a.tone.hi) (u0 := b.pos.lo) (u1 := b.pos.hi) (u2 := b.tone.lo) (u3 := b.tone.hi) (x1 := (r.away a).lo) (y1 := (r.away a).hi) (x2 := b.pos.lo) (y2 := b.pos.hi) (z1 := ((r.away a).cut b.pos).lo) (z2 := ((r.away a).cut b.pos).hi)
    (S0 := fun fs ms v => Below w1.heap.size w1 v ∧ FreshS w1 fs ms v) (S1 := fun fs ms _ v => Below w1.heap.size w1 v ∧ FreshS w1 fs ms v) (S2 := fun fs ms _ _ v => Below w1.heap.size w1 v ∧ FreshS w1 fs ms v) (S3 := fun fs ms _ _ _ v => Below w1.heap.size w1 v ∧ FreshS w1 fs ms v) (S4 := fun fs ms _ _ _ v => Below w1.heap.size w1 v ∧ v.heap[ms]? = some (.cells ((r.away a).cut b.pos).arr 24 (0, 0)))
    ?h0 ?l1 ?l2 ?c3 ?l5 ?l6 ?c7 ?c8 ?s0 ?s1 ?s2 ?s3 ?c10 ?hQ)
  case h0 => exact ⟨(Below.refl _ _).drew, FreshS.no _ _ _⟩
  case l1 => exact fun fs ms v h => by rw [cell_of_heap (KF.out v h.1).1]; rfl
  case l2 =>
    intro fs ms v h
    have hq := (KF.out v h.1).2.1
    refine ⟨?_, ?_, ?_, ?_⟩ <;> (rw [cell_of_heap hq]; rfl)
  case c3 =>
    intro fs ms v h
    refine (away64 HS.out.1 HS.out.2 (KF.out v h.1).2.2.2).mono ?_
    rintro e v' ⟨rfl, hb⟩
    exact ⟨(), rfl, h.1.trans (hb.mono h.1.size), h.2.mono hb⟩
  case l5 =>
    rintro fs ms _ v (h | h)
    · rw [cell_of_heap (KF.out v h.1).1]; rfl
    · rw [cell_of_heap (KF.out v h.1).1]; rfl
  case l6 =>
    rintro fs ms _ v (h | h)
    · have hq := (KF.out v h.1).2.2.1
      refine ⟨?_, ?_, ?_, ?_⟩ <;> (rw [cell_of_heap hq]; rfl)
    · have hq := (KF.out v h.1).2.2.1
      refine ⟨?_, ?_, ?_, ?_⟩ <;> (rw [cell_of_heap hq]; rfl)
  case c7 =>
    intro fs ms _ v h
    refine (pos65 b v).mono ?_
    rintro e v' ⟨rfl, hb⟩
    exact ⟨(), rfl, h.1.trans (hb.mono h.1.size), h.2.mono hb⟩
  case c8 =>
    intro fs ms _ _ v h
    refine (both68 (r.away a) b.pos v).mono ?_
    rintro e v' ⟨rfl, hb⟩
    exact ⟨(), rfl, h.1.trans (hb.mono h.1.size), h.2.mono hb⟩
  case s0 => exact fun v h => ⟨h.1.alloc h.1.size _, FreshS.yes h.1.size⟩
  case s1 => exact fun _ v h => ⟨h.1.alloc h.1.size _, FreshS.yes h.1.size⟩
  case s2 => exact fun _ _ v h => ⟨h.1.alloc h.1.size _, FreshS.yes h.1.size⟩
  case s3 => exact fun _ _ _ v h => ⟨h.1.alloc h.1.size _, FreshS.yes h.1.size⟩
  case c10 =>
    intro ms _ _ _ v h
    obtain ⟨g1, g2, g3, g4, g5, g6⟩ := h.2.put h.1 (.int .i64 ((r.away a).cut b.pos).lo) (.int .i64 ((r.away a).cut b.pos).hi)
    exact ⟨g1, g2, g3, g4, g5, g6⟩
  intro ms _ _ _ w2 h
  have HF := Lib.hid h
  clear h
  refine HK1.out _ _ ?_
  have m0 : w2.cell? ⟨ms, 0, none⟩ = some (.int .i64 ((r.away a).cut b.pos).lo) := by rw [cell_of_heap HF.out.2]; rfl
  have m1 : w2.cell? ⟨ms, 1, none⟩ = some (.int .i64 ((r.away a).cut b.pos).hi) := by rw [cell_of_heap HF.out.2]; rfl
  have HZ : Hid ((!((r.away a).cut b.pos).is) = decide (((r.away a).cut b.pos).hi < ((r.away a).cut b.pos).lo)) := by
    unfold Spn.is
    rw [Hid, Bool.eq_iff_iff]
    simp
  revert m0 m1 HZ
  generalize ((r.away a).cut b.pos).lo = zl
  generalize ((r.away a).cut b.pos).hi = zh
  intro m0 m1 HZ
  go_wp2_with fail
  go_ret
  exact ⟨ret_bool HZ.out.symm, HX.out.2.trans (HF.out.1.mono HX.out.2.size)⟩
end Go.Proofs.YtbnhngfegnhaiaaDoor
namespace Go.Proofs.YtbnhngfegnhaiaaDoor
open Go.RowKit
set_option linter.unusedVariables false
set_option linter.unusedSimpArgs false
/-- What stays while rules are asked. -/
structure RulI (r : Rws) (al : Option Addr) (cl : Nat) (ar : Option Addr) (cr : Nat) (a b : Mrk) (ba bb bs bx : Nat) (w : World) : Prop where
  ha : w.heap[ba]? = some (.cells a.arr 30 (0, 0))
  hb : w.heap[bb]? = some (.cells b.arr 30 (0, 0))
  hs : w.heap[bs]? = some (.cells #[.func (.func 93) #[] #[], .func (.func 93) #[] #[], .func (.func 94) #[] #[.pointer (some ⟨bx, 0, none⟩)], .func (.func 95) #[] #[]] 169 (0, 0))
  hx : w.heap[bx]? = some (.cells (r.arr al cl ar cr) 26 (0, 0))
theorem RulI.mono {r : Rws} {al ar : Option Addr} {cl cr : Nat} {a b : Mrk} {ba bb bs bx : Nat} {w w' : World} (h : RulI r al cl ar cr a b ba bb bs bx w) (hb : Below w.heap.size w w') : RulI r al cl ar cr a b ba bb bs bx w' :=
  ⟨(hb.block _ (heap_lt h.ha)).trans h.ha, (hb.block _ (heap_lt h.hb)).trans h.hb, (hb.block _ (heap_lt h.hs)).trans h.hs, (hb.block _ (heap_lt h.hx)).trans h.hx⟩
def idxE (x y : Bool) : Int := if x then 0 else if y then 1 else -1
set_option maxRecDepth 100000 in
set_option maxHeartbeats 4000000 in
theorem index80 {r : Rws} {al ar : Option Addr} {cl cr : Nat} {a b : Mrk} {ba bb bs bx : Nat} {w : World} (h : RulI r al cl ar cr a b ba bb bs bx w) (ha : a.Sm) (hn : r.Nums) :
    Calls Tryd.prog 110 #[.slice (some ⟨bs, 0, none⟩) 2 2, .func (.func 97) #[] #[.pointer (some ⟨ba, 0, none⟩), .pointer (some ⟨bb, 0, none⟩)]] w fun e w' => e = .returned (.int .i64 (idxE (!(a.tone.cut b.tone).is) (!((r.away a).cut b.pos).is))) ∧ Below w.heap.size w w' := by
  have H := Lib.hid h
  have C0 := Lib.hid (fun (v : World) (hv : RulI r al cl ar cr a b ba bb bs bx v) => rule0 hv.ha hv.hb)
  have C1 := Lib.hid (fun (v : World) (hv : RulI r al cl ar cr a b ba bb bs bx v) => rule1 ha hn hv.hx hv.ha hv.hb)
  have cf := cf67
  clear h ha hn
  revert C0 C1
  generalize (!(a.tone.cut b.tone).is) = x
  generalize (!((r.away a).cut b.pos).is) = y
  intro C0 C1
  go_enter Tryd.func110, Tryd.ntmps110
  go_wp2_with fail
  go_loopw [8] (fun i wr => ∃ k : Int, (k = 0 ∨ k = 1 ∨ k = 2) ∧ i = .int .i64 k ∧ Hid ((1 ≤ k → x = false) ∧ (2 ≤ k → y = false) ∧ Below w.heap.size w wr)) (fun i _ => 2 - (intOf i).toNat)
  case atStart => exact ⟨0, .inl rfl, rfl, ⟨fun h => by omega, fun h => by omega, Below.refl _ _⟩⟩
  case round =>
    obtain ⟨k, hk, rfl, HW⟩ := hrel
    rcases hk with rfl | rfl | rfl
    · have HR := Lib.hid (H.out.mono HW.out.2.2)
      have s0 : wr.cell? ⟨bs, 0, none⟩ = some (.func (.func 93) #[] #[]) := by rw [cell_of_heap HR.out.hs]; rfl
      have s1 : wr.cell? ⟨bs, 1, none⟩ = some (.func (.func 93) #[] #[]) := by rw [cell_of_heap HR.out.hs]; rfl
      cases hz : x
      · rw [hz] at C0
        have HZ := Lib.hid hz
        clear hz
        go_wp2_with fail
        refine (C0.out _ HR.out).mono ?_
        rintro e w' ⟨rfl, hb⟩
        have HB2 := Lib.hid (HW.out.2.2.trans (hb.mono HW.out.2.2.size))
        clear hb s0 s1
        go_wp2_with fail
        go_roundw
        case rel => exact ⟨1, .inr (.inl rfl), rfl, ⟨fun _ => by first | trivial | exact HZ.out, fun h => by omega, HB2.out⟩⟩
        case measure => simp [intOf]
      · rw [hz] at C0
        have HZ := Lib.hid hz
        clear hz
        go_wp2_with fail
        refine (C0.out _ HR.out).mono ?_
        rintro e w' ⟨rfl, hb⟩
        have HB2 := Lib.hid (HW.out.2.2.trans (hb.mono HW.out.2.2.size))
        clear hb s0 s1
        go_wp2_with fail
        go_ret
        exact ⟨ret_int (by unfold idxE; rw [HZ.out]; rfl), HB2.out⟩
    · have HR := Lib.hid (H.out.mono HW.out.2.2)
      have s0 : wr.cell? ⟨bs, 2, none⟩ = some (.func (.func 94) #[] #[.pointer (some ⟨bx, 0, none⟩)]) := by rw [cell_of_heap HR.out.hs]; rfl
      have s1 : wr.cell? ⟨bs, 3, none⟩ = some (.func (.func 95) #[] #[]) := by rw [cell_of_heap HR.out.hs]; rfl
      cases hz : y
      · rw [hz] at C1
        have HZ := Lib.hid hz
        clear hz
        go_wp2_with fail
        refine (C1.out _ HR.out).mono ?_
        rintro e w' ⟨rfl, hb⟩
        have HB2 := Lib.hid (HW.out.2.2.trans (hb.mono HW.out.2.2.size))
        clear hb s0 s1
        go_wp2_with fail
        go_roundw
        case rel => exact ⟨2, .inr (.inr rfl), rfl, ⟨fun _ => HW.out.1 (by omega), fun _ => by first | trivial | exact HZ.out, HB2.out⟩⟩
        case measure => simp [intOf]
      · rw [hz] at C1
        have HZ := Lib.hid hz
        clear hz
        go_wp2_with fail
        refine (C1.out _ HR.out).mono ?_
        rintro e w' ⟨rfl, hb⟩
        have HB2 := Lib.hid (HW.out.2.2.trans (hb.mono HW.out.2.2.size))
        clear hb s0 s1
        go_wp2_with fail
        go_ret
        exact ⟨ret_int (by unfold idxE; rw [HW.out.1 (by omega), HZ.out]; rfl), HB2.out⟩
    · go_wp2_with fail
      go_ret
      exact ⟨ret_int (by unfold idxE; rw [HW.out.1 (by omega), HW.out.2.1 (by omega)]; rfl), HW.out.2.2⟩
theorem has66 {r : Rws} {al ar : Option Addr} {cl cr : Nat} {a b : Mrk} {ba bb bs bx : Nat} {w : World} (h : RulI r al cl ar cr a b ba bb bs bx w) (ha : a.Sm) (hn : r.Nums) :
    Calls Tryd.prog 96 #[.slice (some ⟨bs, 0, none⟩) 2 2, .func (.func 97) #[] #[.pointer (some ⟨ba, 0, none⟩), .pointer (some ⟨bb, 0, none⟩)]] w fun e w' => e = .returned (.bool (!fitM r a b)) ∧ Below w.heap.size w w' := by
  have HC := Lib.hid (index80 h ha hn)
  have HZ : Hid (decide (0 ≤ idxE (!(a.tone.cut b.tone).is) (!((r.away a).cut b.pos).is)) = !fitM r a b) := by
    unfold fitM idxE
    rw [Hid]
    cases (a.tone.cut b.tone).is <;> cases ((r.away a).cut b.pos).is <;> rfl
  clear h ha hn
  revert HC HZ
  generalize idxE (!(a.tone.cut b.tone).is) (!((r.away a).cut b.pos).is) = z
  intro HC HZ
  go_enter Tryd.func96, Tryd.ntmps96
  go_wp2_with fail
  refine HC.out.mono ?_
  rintro e w' ⟨rfl, hb⟩
  have HB2 := Lib.hid hb
  clear hb
  go_wp2_with fail
  go_ret
  exact ⟨ret_bool HZ.out, HB2.out⟩
end Go.Proofs.YtbnhngfegnhaiaaDoor
namespace Go.Proofs.YtbnhngfegnhaiaaDoor
open Go.RowKit
set_option linter.unusedVariables false
set_option linter.unusedSimpArgs false
/-- The cells of rows that are looked at. -/
def tabL (T : Nat → Bool) : List Value := (List.range 100).map fun j => .bool (T j)
def rowsL (r : Rws) (al : Option Addr) (cl : Nat) (ar : Option Addr) (cr : Nat) (T : Nat → Bool) (need : Int) : List Value :=
  [.slice al r.left.length cl, .slice ar r.right.length cr, .int .i64 r.shift.lo, .int .i64 r.shift.hi, .int .i64 r.hidden] ++ (tabL T ++ [.int .i64 need])
theorem tabL_len (T : Nat → Bool) : (tabL T).length = 100 := by simp [tabL]
theorem tabL_get (T : Nat → Bool) {j : Nat} (h : j < 100) : (tabL T)[j]? = some (.bool (T j)) := by simp [tabL, h]
theorem tabL_set (T : Nat → Bool) {j : Nat} (h : j < 100) (v : Bool) : (tabL T).set j (.bool v) = tabL fun x => if x = j then v else T x := by
  apply List.ext_getElem?
  intro k
  by_cases hk : k < 100
  · rw [tabL_get _ hk, List.getElem?_set]
    by_cases he : j = k
    · subst he
      rw [if_pos rfl, if_pos (by rw [tabL_len]; exact h), if_pos rfl]
    · rw [if_neg he, tabL_get _ hk, if_neg (fun h => he h.symm)]
  · rw [List.getElem?_eq_none (by rw [List.length_set, tabL_len]; omega), List.getElem?_eq_none (by rw [tabL_len]; omega)]
theorem rowsL_len (r : Rws) (al : Option Addr) (cl : Nat) (ar : Option Addr) (cr : Nat) (T : Nat → Bool) (need : Int) : (rowsL r al cl ar cr T need).length = 106 := by
  simp [rowsL, tabL_len]
theorem rowsL_tab (r : Rws) (al : Option Addr) (cl : Nat) (ar : Option Addr) (cr : Nat) (T : Nat → Bool) (need : Int) {j : Nat} (h : j < 100) : (rowsL r al cl ar cr T need)[5 + j]? = some (.bool (T j)) := by
  unfold rowsL
  rw [List.getElem?_append_right (by show 5 ≤ 5 + j; omega), List.getElem?_append_left (by rw [tabL_len]; show 5 + j - 5 < 100; omega)]
  show (tabL T)[5 + j - 5]? = _
  rw [show 5 + j - 5 = j by omega]
  exact tabL_get T h
theorem rowsL_need (r : Rws) (al : Option Addr) (cl : Nat) (ar : Option Addr) (cr : Nat) (T : Nat → Bool) (need : Int) : (rowsL r al cl ar cr T need)[105]? = some (.int .i64 need) := by
  unfold rowsL
  rw [List.getElem?_append_right (by show 5 ≤ 105; omega), List.getElem?_append_right (by rw [tabL_len]; show 100 ≤ 105 - 5; omega), tabL_len]
  rfl
theorem rowsL_set (r : Rws) (al : Option Addr) (cl : Nat) (ar : Option Addr) (cr : Nat) (T : Nat → Bool) (need : Int) {j : Nat} (h : j < 100) (v : Bool) : (rowsL r al cl ar cr T need).set (5 + j) (.bool v) = rowsL r al cl ar cr (fun x => if x = j then v else T x) need := by
  unfold rowsL
  rw [List.set_append, if_neg (by show ¬ 5 + j < 5; omega), List.set_append, if_pos (by rw [tabL_len]; show 5 + j - 5 < 100; omega)]
  show _ ++ ((tabL T).set (5 + j - 5) (.bool v) ++ _) = _
  rw [show 5 + j - 5 = j by omega, tabL_set T h]
/-- Rows that are looked at, in memory. -/
structure IsRws (w : World) (b : Nat) (r : Rws) (al : Option Addr) (cl : Nat) (ar : Option Addr) (cr : Nat) (T : Nat → Bool) (need : Int) : Prop where
  h : w.heap[b]? = some (.cells (rowsL r al cl ar cr T need).toArray 130 (0, 0))
  lm : IsMks w al r.left
  rm : IsMks w ar r.right
theorem IsRws.mono {w w' : World} {b : Nat} {r : Rws} {al ar : Option Addr} {cl cr : Nat} {T : Nat → Bool} {need : Int} (h : IsRws w b r al cl ar cr T need) (hb : Below w.heap.size w w') : IsRws w' b r al cl ar cr T need := ⟨(hb.block _ (heap_lt h.h)).trans h.h, h.lm.mono hb, h.rm.mono hb⟩
theorem IsRws.tab {w : World} {b : Nat} {r : Rws} {al ar : Option Addr} {cl cr : Nat} {T : Nat → Bool} {need : Int} (h : IsRws w b r al cl ar cr T need) {j : Nat} (hj : j < 100) : w.cell? ⟨b, 5 + j, none⟩ = some (.bool (T j)) := by
  rw [cell_of_heap h.h, List.getElem?_toArray, rowsL_tab _ _ _ _ _ _ _ hj]
theorem IsRws.need {w : World} {b : Nat} {r : Rws} {al ar : Option Addr} {cl cr : Nat} {T : Nat → Bool} {need : Int} (h : IsRws w b r al cl ar cr T need) : w.cell? ⟨b, 105, none⟩ = some (.int .i64 need) := by
  rw [cell_of_heap h.h, List.getElem?_toArray, rowsL_need]
theorem IsRws.left {w : World} {b : Nat} {r : Rws} {al ar : Option Addr} {cl cr : Nat} {T : Nat → Bool} {need : Int} (h : IsRws w b r al cl ar cr T need) : w.cell? ⟨b, 0, none⟩ = some (.slice al r.left.length cl) := by
  rw [cell_of_heap h.h]; rfl
theorem IsRws.right {w : World} {b : Nat} {r : Rws} {al ar : Option Addr} {cl cr : Nat} {T : Nat → Bool} {need : Int} (h : IsRws w b r al cl ar cr T need) : w.cell? ⟨b, 1, none⟩ = some (.slice ar r.right.length cr) := by
  rw [cell_of_heap h.h]; rfl
structure lok11F (b3 : Nat) (i : Nat) (k : Nat) (bs : Nat) (ba : Nat) (bb : Nat) (z : Bool) (S0 : World → Prop) (S1 : Unit → World → Prop) (S2 : Unit → World → Prop) (d : Nat → Bool) (x49 x50 x51 x52 x53 x54 x55 x56 x57 x58 x59 : Value) (u1 : Unit) (w : World) : Prop where
  q5 : d 5 = true → d 3 = true ∧ d 4 = true
  q6 : d 6 = true → d 5 = true
  q7 : d 7 = true → d 0 = true
  q8 : d 8 = true → d 7 = true
  q9 : d 9 = true → d 1 = true ∧ d 8 = true
  q10 : d 10 = true → d 0 = true ∧ d 1 = true ∧ d 2 = true ∧ d 3 = true ∧ d 4 = true ∧ d 5 = true ∧ d 6 = true ∧ d 9 = true
  q11 : d 11 = true → d 0 = true ∧ d 1 = true ∧ d 2 = true ∧ d 3 = true ∧ d 4 = true ∧ d 5 = true ∧ d 6 = true ∧ d 10 = true
  f0 : d 0 = true → x49 = .pointer (some ⟨b3, 0, none⟩)
  f1 : d 1 = true → x50 = .int .i64 i
  f2 : d 2 = true → x51 = .int .i64 k
  f3 : d 3 = true → x52 = .slice (some ⟨bs, 0, none⟩) 2 2
  f4 : d 4 = true → x53 = .func (.func 97) #[] #[.pointer (some ⟨ba, 0, none⟩), .pointer (some ⟨bb, 0, none⟩)]
  f5 : d 5 = true → x54 = .bool (!z)
  f6 : d 6 = true → x55 = .bool z
  f7 : d 7 = true → x56 = .pointer (some ⟨b3, 0, none⟩)
  f8 : d 8 = true → x57 = .pointer (some ⟨b3, 5, none⟩)
  f9 : d 9 = true → x58 = .pointer (some ⟨b3, 5 + i * 10, none⟩)
  f10 : d 10 = true → x59 = .pointer (some ⟨b3, 5 + i * 10 + k, none⟩)
  st0 : d 5 = false → S0 w
  st1 : d 5 = true → d 11 = false → S1 u1 w
  st2 : d 11 = true → S2 u1 w
noncomputable def lok11C : Code := (Tryd.f59.body.bind (regionAt 11)).getD .skip
set_option maxRecDepth 100000 in
set_option maxHeartbeats 4000000 in
theorem lok11 {b3 : Nat} {i : Nat} {k : Nat} {bs : Nat} {ba : Nat} {bb : Nat} {z : Bool} {S0 : World → Prop} {S1 : Unit → World → Prop} {S2 : Unit → World → Prop} {Q : Exit → Act → World → Prop} {W1 : World} (hi1 : (0 : Int) ≤ i) (hi2 : (i : Int) < 10) (hk1 : (0 : Int) ≤ k) (hk2 : (k : Int) < 10) (h0 : S0 W1.drew)
    (kc5 : Hid (∀ (w : World), S0 w → Calls Tryd.prog 96 #[.slice (some ⟨bs, 0, none⟩) 2 2, .func (.func 97) #[] #[.pointer (some ⟨ba, 0, none⟩), .pointer (some ⟨bb, 0, none⟩)]] w fun e w' => ∃ u1 : Unit, e = .returned (.bool (!z)) ∧ S1 u1 w'))
    (kc11 : Hid (∀ (u1 : Unit) (w : World), S1 u1 w → (∃ u, w.cell? ⟨b3, 5 + i * 10 + k, none⟩ = some u) ∧ w.frozen? ⟨b3, 5 + i * 10 + k, none⟩ = false ∧ S2 u1 (w.setCell ⟨b3, 5 + i * 10 + k, none⟩ (.bool z))))
    {s0 s1 s2 s4 s5 s11 s12 s13 s14 s15 s16 s17 s18 s19 s20 s21 s22 s23 s24 s25 s26 s27 s28 s29 s30 s31 s32 s33 s34 s35 s36 s37 s38 s39 s40 s41 s42 s43 s44 s45 s46 s47 s48 s49 s50 s51 s52 s53 s54 s55 s56 s57 s58 s59 s60 s61 s62 : Value} {dd : List Deferred}
    (hQ : ∀ (u1 : Unit) (w' : World), S2 u1 w' → Q .normal { tmps := #[s0, s1, s2, .pointer (some ⟨b3, 0, none⟩), s4, s5, .slice (some ⟨bs, 0, none⟩) 2 2, .int .i64 i, .pointer (some ⟨ba, 0, none⟩), .int .i64 k, .pointer (some ⟨bb, 0, none⟩), s11, s12, s13, s14, s15, s16, s17, s18, s19, s20, s21, s22, s23, s24, s25, s26, s27, s28, s29, s30, s31, s32, s33, s34, s35, s36, s37, s38, s39, s40, s41, s42, s43, s44, s45, s46, s47, s48, .pointer (some ⟨b3, 0, none⟩), .int .i64 i, .int .i64 k, .slice (some ⟨bs, 0, none⟩) 2 2, .func (.func 97) #[] #[.pointer (some ⟨ba, 0, none⟩), .pointer (some ⟨bb, 0, none⟩)], .bool (!z), .bool z, .pointer (some ⟨b3, 0, none⟩), .pointer (some ⟨b3, 5, none⟩), .pointer (some ⟨b3, 5 + i * 10, none⟩), .pointer (some ⟨b3, 5 + i * 10 + k, none⟩), s60, s61, s62], defers := dd } w') :
    Code.wpIn (wideAt none) 0 Tryd.prog lok11C Q { tmps := #[s0, s1, s2, .pointer (some ⟨b3, 0, none⟩), s4, s5, .slice (some ⟨bs, 0, none⟩) 2 2, .int .i64 i, .pointer (some ⟨ba, 0, none⟩), .int .i64 k, .pointer (some ⟨bb, 0, none⟩), s11, s12, s13, s14, s15, s16, s17, s18, s19, s20, s21, s22, s23, s24, s25, s26, s27, s28, s29, s30, s31, s32, s33, s34, s35, s36, s37, s38, s39, s40, s41, s42, s43, s44, s45, s46, s47, s48, s49, s50, s51, s52, s53, s54, s55, s56, s57, s58, s59, s60, s61, s62], defers := dd } W1 := by
  have HQ := Lib.hid hQ
  clear hQ
  conv => arg 4; whnf
  refine wpIn_region_invG mixed (by kernel_rfl) (fun d_ a_ w' => ∃ (x49 : Value) (x50 : Value) (x51 : Value) (x52 : Value) (x53 : Value) (x54 : Value) (x55 : Value) (x56 : Value) (x57 : Value) (x58 : Value) (x59 : Value) (u1 : Unit), a_ = { tmps := #[s0, s1, s2, .pointer (some ⟨b3, 0, none⟩), s4, s5, .slice (some ⟨bs, 0, none⟩) 2 2, .int .i64 i, .pointer (some ⟨ba, 0, none⟩), .int .i64 k, .pointer (some ⟨bb, 0, none⟩), s11, s12, s13, s14, s15, s16, s17, s18, s19, s20, s21, s22, s23, s24, s25, s26, s27, s28, s29, s30, s31, s32, s33, s34, s35, s36, s37, s38, s39, s40, s41, s42, s43, s44, s45, s46, s47, s48, x49, x50, x51, x52, x53, x54, x55, x56, x57, x58, x59, s60, s61, s62], defers := dd } ∧ lok11F b3 i k bs ba bb z S0 S1 S2 d_ x49 x50 x51 x52 x53 x54 x55 x56 x57 x58 x59 u1 w') ?_ ?_ ?_
  · refine ⟨s49, s50, s51, s52, s53, s54, s55, s56, s57, s58, s59, default, rfl, ?_⟩
    constructor <;> first | rfl | (intro _; rfl) | (intro h; cases h; done) | (intro _; exact h0) | exact h0
  · refine ⟨?_, ?_, ?_, ?_, ?_, ?_, ?_, ?_, ?_, ?_, ?_, ?_, trivial⟩
    all_goals
      rintro d_ a_ w1 K hd_ hdep ⟨x49, x50, x51, x52, x53, x54, x55, x56, x57, x58, x59, u1, rfl, F⟩ HK
      simp [Region.binds] at hdep
    · have HF : Hid (lok11F b3 i k bs ba bb z S0 S1 S2 (upd d_ 0) (.pointer (some ⟨b3, 0, none⟩)) x50 x51 x52 x53 x54 x55 x56 x57 x58 x59 u1 w1) := ⟨F.q5, F.q6, fun h => rfl, F.q8, F.q9, fun h => ⟨rfl, (F.q10 h).2.1, (F.q10 h).2.2.1, (F.q10 h).2.2.2.1, (F.q10 h).2.2.2.2.1, (F.q10 h).2.2.2.2.2.1, (F.q10 h).2.2.2.2.2.2.1, (F.q10 h).2.2.2.2.2.2.2⟩, fun h => ⟨rfl, (F.q11 h).2.1, (F.q11 h).2.2.1, (F.q11 h).2.2.2.1, (F.q11 h).2.2.2.2.1, (F.q11 h).2.2.2.2.2.1, (F.q11 h).2.2.2.2.2.2.1, (F.q11 h).2.2.2.2.2.2.2⟩, fun _ => rfl, F.f1, F.f2, F.f3, F.f4, F.f5, F.f6, F.f7, F.f8, F.f9, F.f10, F.st0, F.st1, F.st2⟩
      clear F
      go_simp
      exact HK.out _ _ ⟨_, _, _, _, _, _, _, _, _, _, _, _, rfl, HF.out⟩
    · have HF : Hid (lok11F b3 i k bs ba bb z S0 S1 S2 (upd d_ 1) x49 (.int .i64 i) x51 x52 x53 x54 x55 x56 x57 x58 x59 u1 w1) := ⟨F.q5, F.q6, F.q7, F.q8, fun h => ⟨rfl, (F.q9 h).2⟩, fun h => ⟨(F.q10 h).1, rfl, (F.q10 h).2.2.1, (F.q10 h).2.2.2.1, (F.q10 h).2.2.2.2.1, (F.q10 h).2.2.2.2.2.1, (F.q10 h).2.2.2.2.2.2.1, (F.q10 h).2.2.2.2.2.2.2⟩, fun h => ⟨(F.q11 h).1, rfl, (F.q11 h).2.2.1, (F.q11 h).2.2.2.1, (F.q11 h).2.2.2.2.1, (F.q11 h).2.2.2.2.2.1, (F.q11 h).2.2.2.2.2.2.1, (F.q11 h).2.2.2.2.2.2.2⟩, F.f0, fun _ => rfl, F.f2, F.f3, F.f4, F.f5, F.f6, F.f7, F.f8, F.f9, F.f10, F.st0, F.st1, F.st2⟩
      clear F
      go_simp
      exact HK.out _ _ ⟨_, _, _, _, _, _, _, _, _, _, _, _, rfl, HF.out⟩
    · have HF : Hid (lok11F b3 i k bs ba bb z S0 S1 S2 (upd d_ 2) x49 x50 (.int .i64 k) x52 x53 x54 x55 x56 x57 x58 x59 u1 w1) := ⟨F.q5, F.q6, F.q7, F.q8, F.q9, fun h => ⟨(F.q10 h).1, (F.q10 h).2.1, rfl, (F.q10 h).2.2.2.1, (F.q10 h).2.2.2.2.1, (F.q10 h).2.2.2.2.2.1, (F.q10 h).2.2.2.2.2.2.1, (F.q10 h).2.2.2.2.2.2.2⟩, fun h => ⟨(F.q11 h).1, (F.q11 h).2.1, rfl, (F.q11 h).2.2.2.1, (F.q11 h).2.2.2.2.1, (F.q11 h).2.2.2.2.2.1, (F.q11 h).2.2.2.2.2.2.1, (F.q11 h).2.2.2.2.2.2.2⟩, F.f0, F.f1, fun _ => rfl, F.f3, F.f4, F.f5, F.f6, F.f7, F.f8, F.f9, F.f10, F.st0, F.st1, F.st2⟩
      clear F
      go_simp
      exact HK.out _ _ ⟨_, _, _, _, _, _, _, _, _, _, _, _, rfl, HF.out⟩
    · have HF : Hid (lok11F b3 i k bs ba bb z S0 S1 S2 (upd d_ 3) x49 x50 x51 (.slice (some ⟨bs, 0, none⟩) 2 2) x53 x54 x55 x56 x57 x58 x59 u1 w1) := ⟨fun h => ⟨rfl, (F.q5 h).2⟩, F.q6, F.q7, F.q8, F.q9, fun h => ⟨(F.q10 h).1, (F.q10 h).2.1, (F.q10 h).2.2.1, rfl, (F.q10 h).2.2.2.2.1, (F.q10 h).2.2.2.2.2.1, (F.q10 h).2.2.2.2.2.2.1, (F.q10 h).2.2.2.2.2.2.2⟩, fun h => ⟨(F.q11 h).1, (F.q11 h).2.1, (F.q11 h).2.2.1, rfl, (F.q11 h).2.2.2.2.1, (F.q11 h).2.2.2.2.2.1, (F.q11 h).2.2.2.2.2.2.1, (F.q11 h).2.2.2.2.2.2.2⟩, F.f0, F.f1, F.f2, fun _ => rfl, F.f4, F.f5, F.f6, F.f7, F.f8, F.f9, F.f10, F.st0, F.st1, F.st2⟩
      clear F
      go_simp
      exact HK.out _ _ ⟨_, _, _, _, _, _, _, _, _, _, _, _, rfl, HF.out⟩
    · have HF : Hid (lok11F b3 i k bs ba bb z S0 S1 S2 (upd d_ 4) x49 x50 x51 x52 (.func (.func 97) #[] #[.pointer (some ⟨ba, 0, none⟩), .pointer (some ⟨bb, 0, none⟩)]) x54 x55 x56 x57 x58 x59 u1 w1) := ⟨fun h => ⟨(F.q5 h).1, rfl⟩, F.q6, F.q7, F.q8, F.q9, fun h => ⟨(F.q10 h).1, (F.q10 h).2.1, (F.q10 h).2.2.1, (F.q10 h).2.2.2.1, rfl, (F.q10 h).2.2.2.2.2.1, (F.q10 h).2.2.2.2.2.2.1, (F.q10 h).2.2.2.2.2.2.2⟩, fun h => ⟨(F.q11 h).1, (F.q11 h).2.1, (F.q11 h).2.2.1, (F.q11 h).2.2.2.1, rfl, (F.q11 h).2.2.2.2.2.1, (F.q11 h).2.2.2.2.2.2.1, (F.q11 h).2.2.2.2.2.2.2⟩, F.f0, F.f1, F.f2, F.f3, fun _ => rfl, F.f5, F.f6, F.f7, F.f8, F.f9, F.f10, F.st0, F.st1, F.st2⟩
      clear F
      go_simp
      exact HK.out _ _ ⟨_, _, _, _, _, _, _, _, _, _, _, _, rfl, HF.out⟩
    · have hS := F.st0  hd_
      obtain rfl := F.f3 (by simp [hdep])
      obtain rfl := F.f4 (by simp [hdep])
      have hc := kc5.out w1 hS
      have HF := Lib.hid F
      clear F
      go_simp
      refine ⟨trivial, rfl, wideAt_calls (hc.mono ?_)⟩
      rintro e w5 ⟨v_, rfl, hres⟩
      exact HK.out _ _ ⟨_, _, _, _, _, _, _, _, _, _, _, v_, rfl, ⟨fun _ => ⟨(show _ from (by simp [hdep] : d_ 3 = true)), (show _ from (by simp [hdep] : d_ 4 = true))⟩, fun h => rfl, HF.out.q7, HF.out.q8, HF.out.q9, fun h => ⟨(HF.out.q10 h).1, (HF.out.q10 h).2.1, (HF.out.q10 h).2.2.1, (HF.out.q10 h).2.2.2.1, (HF.out.q10 h).2.2.2.2.1, rfl, (HF.out.q10 h).2.2.2.2.2.2.1, (HF.out.q10 h).2.2.2.2.2.2.2⟩, fun h => ⟨(HF.out.q11 h).1, (HF.out.q11 h).2.1, (HF.out.q11 h).2.2.1, (HF.out.q11 h).2.2.2.1, (HF.out.q11 h).2.2.2.2.1, rfl, (HF.out.q11 h).2.2.2.2.2.2.1, (HF.out.q11 h).2.2.2.2.2.2.2⟩, HF.out.f0, HF.out.f1, HF.out.f2, HF.out.f3, HF.out.f4, fun _ => rfl, HF.out.f6, HF.out.f7, HF.out.f8, HF.out.f9, HF.out.f10, fun h => (by simp [upd] at h), fun _ _ => hres, fun h => (by have h2 : d_ 5 = true := (HF.out.q11 h).2.2.2.2.2.1; rw [show d_ 5 = false from hd_] at h2; cases h2)⟩⟩
    · obtain rfl := F.f5 (by simp [hdep])
      have HF : Hid (lok11F b3 i k bs ba bb z S0 S1 S2 (upd d_ 6) x49 x50 x51 x52 x53 (.bool (!z)) (.bool z) x56 x57 x58 x59 u1 w1) := ⟨F.q5, fun _ => (show _ from (by simp [hdep] : d_ 5 = true)), F.q7, F.q8, F.q9, fun h => ⟨(F.q10 h).1, (F.q10 h).2.1, (F.q10 h).2.2.1, (F.q10 h).2.2.2.1, (F.q10 h).2.2.2.2.1, (F.q10 h).2.2.2.2.2.1, rfl, (F.q10 h).2.2.2.2.2.2.2⟩, fun h => ⟨(F.q11 h).1, (F.q11 h).2.1, (F.q11 h).2.2.1, (F.q11 h).2.2.2.1, (F.q11 h).2.2.2.2.1, (F.q11 h).2.2.2.2.2.1, rfl, (F.q11 h).2.2.2.2.2.2.2⟩, F.f0, F.f1, F.f2, F.f3, F.f4, F.f5, fun _ => rfl, F.f7, F.f8, F.f9, F.f10, F.st0, F.st1, F.st2⟩
      clear F
      go_simp
      exact HK.out _ _ ⟨_, _, _, _, _, _, _, _, _, _, _, _, rfl, HF.out⟩
    · obtain rfl := F.f0 (by simp [hdep])
      have HF : Hid (lok11F b3 i k bs ba bb z S0 S1 S2 (upd d_ 7) (.pointer (some ⟨b3, 0, none⟩)) x50 x51 x52 x53 x54 x55 (.pointer (some ⟨b3, 0, none⟩)) x57 x58 x59 u1 w1) := ⟨F.q5, F.q6, fun _ => (show _ from (by simp [hdep] : d_ 0 = true)), fun h => rfl, F.q9, F.q10, F.q11, F.f0, F.f1, F.f2, F.f3, F.f4, F.f5, F.f6, fun _ => rfl, F.f8, F.f9, F.f10, F.st0, F.st1, F.st2⟩
      clear F
      go_simp
      exact HK.out _ _ ⟨_, _, _, _, _, _, _, _, _, _, _, _, rfl, HF.out⟩
    · obtain rfl := F.f7 (by simp [hdep])
      have HF : Hid (lok11F b3 i k bs ba bb z S0 S1 S2 (upd d_ 8) x49 x50 x51 x52 x53 x54 x55 (.pointer (some ⟨b3, 0, none⟩)) (.pointer (some ⟨b3, 5, none⟩)) x58 x59 u1 w1) := ⟨F.q5, F.q6, F.q7, fun _ => (show _ from (by simp [hdep] : d_ 7 = true)), fun h => ⟨(F.q9 h).1, rfl⟩, F.q10, F.q11, F.f0, F.f1, F.f2, F.f3, F.f4, F.f5, F.f6, F.f7, fun _ => rfl, F.f9, F.f10, F.st0, F.st1, F.st2⟩
      clear F
      go_simp
      exact HK.out _ _ ⟨_, _, _, _, _, _, _, _, _, _, _, _, rfl, HF.out⟩
    · obtain rfl := F.f1 (by simp [hdep])
      obtain rfl := F.f8 (by simp [hdep])
      have HF : Hid (lok11F b3 i k bs ba bb z S0 S1 S2 (upd d_ 9) x49 (.int .i64 i) x51 x52 x53 x54 x55 x56 (.pointer (some ⟨b3, 5, none⟩)) (.pointer (some ⟨b3, 5 + i * 10, none⟩)) x59 u1 w1) := ⟨F.q5, F.q6, F.q7, F.q8, fun _ => ⟨(show _ from (by simp [hdep] : d_ 1 = true)), (show _ from (by simp [hdep] : d_ 8 = true))⟩, fun h => ⟨(F.q10 h).1, (F.q10 h).2.1, (F.q10 h).2.2.1, (F.q10 h).2.2.2.1, (F.q10 h).2.2.2.2.1, (F.q10 h).2.2.2.2.2.1, (F.q10 h).2.2.2.2.2.2.1, rfl⟩, F.q11, F.f0, F.f1, F.f2, F.f3, F.f4, F.f5, F.f6, F.f7, F.f8, fun _ => rfl, F.f10, F.st0, F.st1, F.st2⟩
      clear F
      go_simp
      exact HK.out _ _ ⟨_, _, _, _, _, _, _, _, _, _, _, _, rfl, HF.out⟩
    · obtain rfl := F.f2 (by simp [hdep])
      obtain rfl := F.f9 (by simp [hdep])
      have HF : Hid (lok11F b3 i k bs ba bb z S0 S1 S2 (upd d_ 10) x49 x50 (.int .i64 k) x52 x53 x54 x55 x56 x57 (.pointer (some ⟨b3, 5 + i * 10, none⟩)) (.pointer (some ⟨b3, 5 + i * 10 + k, none⟩)) u1 w1) := ⟨F.q5, F.q6, F.q7, F.q8, F.q9, fun _ => ⟨(show _ from (by simp [hdep] : d_ 0 = true)), (show _ from (by simp [hdep] : d_ 1 = true)), (show _ from (by simp [hdep] : d_ 2 = true)), (show _ from (by simp [hdep] : d_ 3 = true)), (show _ from (by simp [hdep] : d_ 4 = true)), (show _ from (by simp [hdep] : d_ 5 = true)), (show _ from (by simp [hdep] : d_ 6 = true)), (show _ from (by simp [hdep] : d_ 9 = true))⟩, fun h => ⟨(F.q11 h).1, (F.q11 h).2.1, (F.q11 h).2.2.1, (F.q11 h).2.2.2.1, (F.q11 h).2.2.2.2.1, (F.q11 h).2.2.2.2.2.1, (F.q11 h).2.2.2.2.2.2.1, rfl⟩, F.f0, F.f1, F.f2, F.f3, F.f4, F.f5, F.f6, F.f7, F.f8, F.f9, fun _ => rfl, F.st0, F.st1, F.st2⟩
      clear F
      go_simp
      exact HK.out _ _ ⟨_, _, _, _, _, _, _, _, _, _, _, _, rfl, HF.out⟩
    · have hS := F.st1 (by simp [hdep] : d_ 5 = true) hd_
      obtain rfl := F.f6 (by simp [hdep])
      obtain rfl := F.f10 (by simp [hdep])
      obtain ⟨⟨ku0, kcell0⟩, kfr0, hres⟩ := kc11.out u1 w1 hS
      have HF : Hid (lok11F b3 i k bs ba bb z S0 S1 S2 (upd d_ 11) x49 x50 x51 x52 x53 x54 (.bool z) x56 x57 x58 (.pointer (some ⟨b3, 5 + i * 10 + k, none⟩)) u1 (w1.setCell ⟨b3, 5 + i * 10 + k, none⟩ (.bool z))) := ⟨F.q5, F.q6, F.q7, F.q8, F.q9, F.q10, fun _ => ⟨(show _ from (by simp [hdep] : d_ 0 = true)), (show _ from (by simp [hdep] : d_ 1 = true)), (show _ from (by simp [hdep] : d_ 2 = true)), (show _ from (by simp [hdep] : d_ 3 = true)), (show _ from (by simp [hdep] : d_ 4 = true)), (show _ from (by simp [hdep] : d_ 5 = true)), (show _ from (by simp [hdep] : d_ 6 = true)), (show _ from (by simp [hdep] : d_ 10 = true))⟩, F.f0, F.f1, F.f2, F.f3, F.f4, F.f5, F.f6, F.f7, F.f8, F.f9, F.f10, fun h => (by have h2 : d_ 5 = false := h; rw [(by simp [hdep] : d_ 5 = true)] at h2; cases h2), fun _ h => (by simp [upd] at h), fun _ => hres⟩
      clear F hS hres
      go_simp
      exact HK.out _ _ ⟨_, _, _, _, _, _, _, _, _, _, _, _, rfl, HF.out⟩
  · rintro d_ a_ w1 hall ⟨x49, x50, x51, x52, x53, x54, x55, x56, x57, x58, x59, u1, rfl, F⟩
    have hall' : ∀ k, k < 12 → d_ k = true := hall
    obtain rfl := F.f0 (hall' 0 (by decide))
    obtain rfl := F.f1 (hall' 1 (by decide))
    obtain rfl := F.f2 (hall' 2 (by decide))
    obtain rfl := F.f3 (hall' 3 (by decide))
    obtain rfl := F.f4 (hall' 4 (by decide))
    obtain rfl := F.f5 (hall' 5 (by decide))
    obtain rfl := F.f6 (hall' 6 (by decide))
    obtain rfl := F.f7 (hall' 7 (by decide))
    obtain rfl := F.f8 (hall' 8 (by decide))
    obtain rfl := F.f9 (hall' 9 (by decide))
    obtain rfl := F.f10 (hall' 10 (by decide))
    have hst := F.st2 (hall' 11 (by decide))
    exact HQ.out u1 w1 hst
theorem zero130 : Tryd.zeroCells130 = (([Value.slice none 0 0, .slice none 0 0, .int .i64 0, .int .i64 0, .int .i64 0] : List Value) ++ (tabL (fun _ => false) ++ [Value.int .i64 0])).toArray := by rfl
theorem build130 (r : Rws) (al : Option Addr) (cl : Nat) (ar : Option Addr) (cr : Nat) (need : Int) : ((((((Tryd.zeroCells130.setIfInBounds 0 (.slice al r.left.length cl)).setIfInBounds 1 (.slice ar r.right.length cr)).setIfInBounds 2 (.int .i64 r.shift.lo)).setIfInBounds 3 (.int .i64 r.shift.hi)).setIfInBounds 4 (.int .i64 r.hidden)).setIfInBounds 105 (.int .i64 need)) = (rowsL r al cl ar cr (fun _ => false) need).toArray := by
  rw [zero130]
  simp only [List.setIfInBounds_toArray]
  congr 1
/-- The table when some rows, and some of the next one, are through. -/
def tI (r : Rws) (i k : Nat) : Nat → Bool := fun j => r.fit (j / 10) (j % 10) && (decide (j / 10 < i) || (decide (j / 10 = i) && decide (j % 10 < k)))
theorem tI_zero (r : Rws) : tI r 0 0 = fun _ => false := by
  funext j
  simp [tI]
theorem tI_next (r : Rws) (i : Nat) : tI r i r.right.length = tI r (i + 1) 0 := by
  funext j
  unfold tI
  by_cases h : j % 10 < r.right.length
  · by_cases h1 : j / 10 < i
    · simp [h1, show j / 10 < i + 1 by omega]
    · by_cases h2 : j / 10 = i
      · simp [h2, h]
      · simp [h1, h2, show ¬ j / 10 < i + 1 by omega]
  · have : r.fit (j / 10) (j % 10) = false := by simp [Rws.fit, h]
    simp [this]
theorem tI_end (r : Rws) : tI r r.left.length 0 = fun j => r.fit (j / 10) (j % 10) := by
  funext j
  unfold tI
  by_cases h : j / 10 < r.left.length
  · simp [h]
  · have : r.fit (j / 10) (j % 10) = false := by simp [Rws.fit, h]
    simp [this]
theorem tI_set (r : Rws) {i k : Nat} (hi : i < r.left.length) (hk : k < r.right.length) (hk2 : k < 10) : (fun x => if x = i * 10 + k then fitM r (gm r.left i) (gm r.right k) else tI r i k x) = tI r i (k + 1) := by
  funext x
  by_cases hx : x = i * 10 + k
  · rw [if_pos hx]
    unfold tI Rws.fit
    have h1 : x / 10 = i := by omega
    have h2 : x % 10 = k := by omega
    rw [h1, h2]
    simp [hi, hk]
  · rw [if_neg hx]
    unfold tI
    by_cases h1 : x / 10 = i
    · have h2 : x % 10 ≠ k := fun h2 => hx (by omega)
      have h3 : decide (x % 10 < k + 1) = decide (x % 10 < k) := by
        rw [Bool.eq_iff_iff]
        simp
        omega
      rw [h3]
    · simp [h1]
/-- What stays while rows are looked at. -/
structure LokI (w0 : World) (b3 bs : Nat) (r : Rws) (al : Option Addr) (cl : Nat) (ar : Option Addr) (cr : Nat) (T : Nat → Bool) (v : World) : Prop where
  below : Below w0.heap.size w0 v
  box : v.heap[w0.heap.size]? = some (.cells (r.arr al cl ar cr) 26 (0, 0))
  tab : v.heap[b3]? = some (.cells (rowsL r al cl ar cr T r.need).toArray 130 (0, 0))
  rules : v.heap[bs]? = some (.cells #[.func (.func 93) #[] #[], .func (.func 93) #[] #[], .func (.func 94) #[] #[.pointer (some ⟨w0.heap.size, 0, none⟩)], .func (.func 95) #[] #[]] 169 (0, 0))
theorem LokI.mono {w0 v v' : World} {b3 bs : Nat} {r : Rws} {al ar : Option Addr} {cl cr : Nat} {T : Nat → Bool} (h : LokI w0 b3 bs r al cl ar cr T v) (hb : Below v.heap.size v v') : LokI w0 b3 bs r al cl ar cr T v' :=
  ⟨h.below.trans (hb.mono h.below.size), (hb.block _ (heap_lt h.box)).trans h.box, (hb.block _ (heap_lt h.tab)).trans h.tab, (hb.block _ (heap_lt h.rules)).trans h.rules⟩
theorem LokI.put {w0 v : World} {b3 bs : Nat} {r : Rws} {al ar : Option Addr} {cl cr : Nat} {T : Nat → Bool} (h : LokI w0 b3 bs r al cl ar cr T v) (h3 : w0.heap.size < b3) {j : Nat} (hj : j < 100) (z : Bool) :
    LokI w0 b3 bs r al cl ar cr (fun x => if x = j then z else T x) (v.setCell ⟨b3, 5 + j, none⟩ (.bool z)) := by
  have hne : bs ≠ b3 := by
    intro e
    subst e
    have h1 := h.tab
    rw [h.rules] at h1
    simp only [Option.some.injEq, Obj.cells.injEq] at h1
    exact absurd h1.2.1 (by decide)
  refine ⟨h.below.setCell (p := ⟨b3, 5 + j, none⟩) (by show _ ≤ b3; omega) _, (Below.heap_setCell _ _ _ _ (by show _ ≠ b3; omega)).trans h.box, ?_, (Below.heap_setCell _ _ _ _ hne).trans h.rules⟩
  have h1 := heap_setCell_at (k := 5 + j) h.tab (.bool z)
  rw [List.setIfInBounds_toArray, rowsL_set _ _ _ _ _ _ _ hj] at h1
  exact h1
set_option maxRecDepth 100000 in
set_option maxHeartbeats 8000000 in
theorem look46 {r : Rws} {al ar : Option Addr} {cl cr : Nat} {w : World} (hn : r.Nums) (h1 : IsMks w al r.left) (h2 : IsMks w ar r.right) :
    Calls Tryd.prog 59 #[r.v al cl ar cr] w fun e w' => ∃ b, e = .returned (.pointer (some ⟨b, 0, none⟩)) ∧ w.heap.size ≤ b ∧ IsRws w' b r al cl ar cr (fun j => r.fit (j / 10) (j % 10)) r.need ∧ Below w.heap.size w w' := by
  have HX := Lib.hid (And.intro (World.alloc_heap_new w (.cells (r.arr al cl ar cr) 26)) (alloc_below w (.cells (r.arr al cl ar cr) 26)))
  have HM := Lib.hid (And.intro h1 h2)
  have HN := Lib.hid hn
  have l1 : r.left.length ≤ 10 := hn.l1
  have l2 : r.right.length ≤ 10 := hn.l2
  have d1 : 0 ≤ r.hidden := hn.h1
  have d2 : r.hidden ≤ 20 := hn.h2
  clear h1 h2 hn
  go_enter Tryd.func59, Tryd.ntmps59
  refine wp_seq_hid ?_
  intro K0 HK0
  go_wp2_with fail
  refine HK0.out _ _ ?_
  clear HK0 K0
  revert HX
  generalize w.alloc (.cells (r.arr al cl ar cr) 26) = w1
  intro HX
  have k0 : w1.cell? ⟨w.heap.size, 0, none⟩ = some (.slice al r.left.length cl) := by rw [cell_of_heap HX.out.1]; rfl
  have k1 : w1.cell? ⟨w.heap.size, 1, none⟩ = some (.slice ar r.right.length cr) := by rw [cell_of_heap HX.out.1]; rfl
  have k2 : w1.cell? ⟨w.heap.size, 2, none⟩ = some (.int .i64 r.shift.lo) := by rw [cell_of_heap HX.out.1]; rfl
  have k3 : w1.cell? ⟨w.heap.size, 3, none⟩ = some (.int .i64 r.shift.hi) := by rw [cell_of_heap HX.out.1]; rfl
  have k4 : w1.cell? ⟨w.heap.size, 4, none⟩ = some (.int .i64 r.hidden) := by rw [cell_of_heap HX.out.1]; rfl
  refine wp_seq_hid ?_
  intro K1 HK1
  go_wp2_with fail
  rw [build130]
  refine HK1.out _ _ ?_
  clear HK1 K1 k0 k1 k2 k3 k4
  have HQ := Lib.hid (And.intro (World.alloc_heap_new w1 (.cells (rowsL r al cl ar cr (fun _ => false) r.need).toArray 130)) (alloc_below w1 (.cells (rowsL r al cl ar cr (fun _ => false) r.need).toArray 130)))
  have hnd : ((r.left.length : Int) + r.right.length - r.hidden + 1).tdiv 2 = r.need := rfl
  rw [hnd]
  clear hnd
  revert HQ
  generalize w1.alloc (.cells (rowsL r al cl ar cr (fun _ => false) r.need).toArray 130) = w2
  generalize Value.agg (rowsL r al cl ar cr (fun _ => false) r.need).toArray = big
  intro HQ
  refine wp_seq_hid ?_
  intro K2 HK2
  go_wp2_with fail
  refine HK2.out _ _ ?_
  clear HK2 K2
  refine wp_seq_hid ?_
  intro K3 HK3
  go_wp2_with fail
  refine HK3.out _ _ ?_
  clear HK3 K3
  have HQ4 := Lib.hid (And.intro (World.alloc_heap_new w2 (.cells #[.func (.func 93) #[] #[], .func (.func 93) #[] #[], .func (.func 94) #[] #[.pointer (some ⟨w.heap.size, 0, none⟩)], .func (.func 95) #[] #[]] 169)) (alloc_below w2 (.cells #[.func (.func 93) #[] #[], .func (.func 93) #[] #[], .func (.func 94) #[] #[.pointer (some ⟨w.heap.size, 0, none⟩)], .func (.func 95) #[] #[]] 169)))
  refine wp_seq_hid ?_
  intro K4 HK4
  go_wp2_with fail
  refine HK4.out _ _ ?_
  clear HK4 K4
  revert HQ4
  generalize w2.alloc (.cells #[.func (.func 93) #[] #[], .func (.func 93) #[] #[], .func (.func 94) #[] #[.pointer (some ⟨w.heap.size, 0, none⟩)], .func (.func 95) #[] #[]] 169) = w3
  intro HQ4
  have HO : Hid (LokI w w1.heap.size w2.heap.size r al cl ar cr (tI r 0 0) w3 ∧ w.heap.size < w1.heap.size) := by
    rw [tI_zero]
    have h1 := HQ.out.2.trans (HQ4.out.2.mono HQ.out.2.size)
    exact ⟨⟨HX.out.2.trans (h1.mono HX.out.2.size), (h1.block _ (heap_lt HX.out.1)).trans HX.out.1, (HQ4.out.2.block _ (heap_lt HQ.out.1)).trans HQ.out.1, HQ4.out.1⟩, heap_lt HX.out.1⟩
  clear HX HQ HQ4
  revert HO
  generalize w1.heap.size = b3
  generalize w2.heap.size = bs
  intro HO
  have H3 := Lib.hid HO.out.2
  replace HO := Lib.hid HO.out.1
  have k0 : w3.cell? ⟨w.heap.size, 0, none⟩ = some (.slice al r.left.length cl) := by rw [cell_of_heap HO.out.box]; rfl
  refine wp_seq_hid ?_
  intro K5 HK5
  go_wp2_with fail
  clear k0
  go_loopw [36] (fun q wr => ∃ i : Nat, i ≤ r.left.length ∧ q = .int .i64 i ∧ Hid (LokI w b3 bs r al cl ar cr (tI r i 0) wr)) (fun q _ => r.left.length - (intOf q).toNat)
  case atStart => exact ⟨0, by omega, rfl, HO⟩
  case round =>
    obtain ⟨i, hi, rfl, HW⟩ := hrel
    clear HO
    by_cases hlt : i < r.left.length
    · obtain ⟨b, off, hab, c0, c1, c2, c3⟩ := (HM.out.1.mono HW.out.below) i hlt
      subst hab
      have HSA := Lib.hid (mrk_small (HN.out.lm _ (gm_mem hlt)))
      have HQA := Lib.hid (And.intro (World.alloc_heap_new wr (.cells (gm r.left i).arr 30)) (HW.out.mono (alloc_below wr (.cells (gm r.left i).arr 30))))
      have HTS := Lib.hid (fun k hk hk2 => tI_set r (i := i) (k := k) hlt hk hk2)
      revert HSA HQA HTS c0 c1 c2 c3
      generalize gm r.left i = x
      intro c0 c1 c2 c3 HSA HQA HTS
      have HBA := Lib.hid HQA.out.1
      have HO2 := Lib.hid HQA.out.2
      clear HQA HW
      have l3 : i < 10 := by omega
      go_upto_region 8 with fail
      clear c0 c1 c2 c3
      revert HBA HO2
      generalize wr.alloc (.cells x.arr 30) = w4
      generalize wr.heap.size = ba
      intro HBA HO2
      have k1 : w4.cell? ⟨w.heap.size, 1, none⟩ = some (.slice ar r.right.length cr) := by rw [cell_of_heap HO2.out.box]; rfl
      go_wp2_with fail
      clear k1
      go_loopw [44] (fun q wy => ∃ k : Nat, k ≤ r.right.length ∧ q = .int .i64 k ∧ Hid (LokI w b3 bs r (some ⟨b, off, none⟩) cl ar cr (tI r i k) wy ∧ wy.heap[ba]? = some (.cells x.arr 30 (0, 0)))) (fun q _ => r.right.length - (intOf q).toNat)
      case atStart => exact ⟨0, by omega, rfl, HO2.out, HBA.out⟩
      case round =>
        obtain ⟨k, hk, rfl, HY⟩ := hrel
        clear HBA HO2
        by_cases hlk : k < r.right.length
        · obtain ⟨b2, off2, hab2, c0, c1, c2, c3⟩ := (HM.out.2.mono HY.out.1.below) k hlk
          subst hab2
          have HSB := Lib.hid (And.intro (World.alloc_heap_new wr (.cells (gm r.right k).arr 30)) (And.intro (HY.out.1.mono (alloc_below wr (.cells (gm r.right k).arr 30))) ((alloc_below wr (.cells (gm r.right k).arr 30)).block _ (heap_lt HY.out.2) |>.trans HY.out.2)))
          have HT := Lib.hid (HTS.out k hlk (by omega))
          revert HSB HT c0 c1 c2 c3
          generalize gm r.right k = y
          intro c0 c1 c2 c3 HSB HT
          go_upto_region 11 with fail
          clear c0 c1 c2 c3 HY
          revert HSB
          generalize wr.alloc (.cells y.arr 30) = w5
          generalize wr.heap.size = bb
          intro HSB
          have KR : Hid (∀ v, Below w5.heap.size w5 v → LokI w b3 bs r (some ⟨b, off, none⟩) cl (some ⟨b2, off2, none⟩) cr (tI r i k) v ∧ v.heap[ba]? = some (.cells x.arr 30 (0, 0)) ∧ RulI r (some ⟨b, off, none⟩) cl (some ⟨b2, off2, none⟩) cr x y ba bb bs w.heap.size v) := fun v hv =>
            ⟨HSB.out.2.1.mono hv, (hv.block _ (heap_lt HSB.out.2.2)).trans HSB.out.2.2, (hv.block _ (heap_lt HSB.out.2.2)).trans HSB.out.2.2, (hv.block _ (heap_lt HSB.out.1)).trans HSB.out.1, (HSB.out.2.1.mono hv).rules, (HSB.out.2.1.mono hv).box⟩
          clear HSB
          refine wpIn_wide.1 (lok11 (b3 := b3) (i := i) (k := k) (bs := bs) (ba := ba) (bb := bb) (z := fitM r x y)
            (S0 := fun v => Below w5.heap.size w5 v) (S1 := fun _ v => Below w5.heap.size w5 v) (S2 := fun _ v => LokI w b3 bs r (some ⟨b, off, none⟩) cl (some ⟨b2, off2, none⟩) cr (tI r i (k + 1)) v ∧ v.heap[ba]? = some (.cells x.arr 30 (0, 0)))
            (by omega) (by omega) (by omega) (by omega) ?h0 ?c5 ?c11 ?hQ)
          case h0 => exact (Below.refl _ _).drew
          case c5 =>
            intro v h
            refine (has66 (KR.out v h).2.2 HSA.out HN.out).mono ?_
            rintro e v' ⟨rfl, hb⟩
            exact ⟨(), rfl, h.trans (hb.mono h.size)⟩
          case c11 =>
            intro u v h
            obtain ⟨g1, g2, g3⟩ := KR.out v h
            have hc : v.cell? ⟨b3, 5 + i * 10 + k, none⟩ = some (.bool (tI r i k (i * 10 + k))) := by
              rw [cell_of_heap g1.tab, List.getElem?_toArray, Nat.add_assoc, rowsL_tab _ _ _ _ _ _ _ (by omega)]
            refine ⟨⟨_, hc⟩, frozen_of_heap g1.tab, ?_, ?_⟩
            · have h1 := g1.put H3.out (j := i * 10 + k) (by omega) (fitM r x y)
              rw [HT.out, ← Nat.add_assoc] at h1
              exact h1
            · rw [Below.heap_setCell _ _ _ _ (fun e => ?_)]
              · exact g2
              · have e2 : ba = b3 := e
                rw [e2] at g2
                rw [g1.tab] at g2
                simp only [Option.some.injEq, Obj.cells.injEq] at g2
                exact absurd g2.2.1 (by decide)
          intro u w6 h
          have HF := Lib.hid h
          clear h KR
          go_wp2_with fail
          go_roundw
          case rel => exact ⟨k + 1, by omega, by go_num, HF.out⟩
          case measure => simp [intOf]; omega
        · obtain rfl : k = r.right.length := by omega
          have HY2 : Hid (LokI w b3 bs r (some ⟨b, off, none⟩) cl ar cr (tI r (i + 1) 0) wr) := by
            have h := HY.out.1
            rw [tI_next] at h
            exact h
          clear HY
          go_wp2_with fail
          go_roundw
          case rel => exact ⟨i + 1, by omega, by go_num, HY2.out⟩
          case measure => simp [intOf]; omega
    · obtain rfl : i = r.left.length := by omega
      have HW2 : Hid (LokI w b3 bs r al cl ar cr (fun j => r.fit (j / 10) (j % 10)) wr) := by
        have h := HW.out
        rw [tI_end] at h
        exact h
      clear HW
      go_wp2_with fail
      refine HK5.out _ _ ?_
      go_wp2_with fail
      go_ret
      exact ⟨b3, rfl, Nat.le_of_lt H3.out, ⟨HW2.out.tab, HM.out.1.mono HW2.out.below, HM.out.2.mono HW2.out.below⟩, HW2.out.below⟩
end Go.Proofs.YtbnhngfegnhaiaaDoor
