/- What pairs and glaciers come to, in plain Lean: no program in sight. Maps as lists of pairs, slices as lists: words on memory and their laws, over whatever program. A region that draws its order, whose first operations are quiet in a class of worlds and whose last ones are forced; a range over a function; deferred calls that recover: laws over whatever program. A range over a function whose elements lie in memory that it makes, and that hands each over: a law over whatever program. A function that leaves with marks among its deferred calls, and with calls that recover: a law over whatever program. append of whatever slice to a slice of the call's own: laws over whatever program. A region that draws its order, by an invariant over what has been done: a law over whatever program. A region that draws its order, some of whose edges the model's own order does not bind: a law over whatever program. append of one element to one's own, and what the elder slice holds behind it: a law over whatever program. A region that draws its order, with guarded operations, where a round may be begun: by an invariant over what is done: a law over whatever program. -/
import Derived.WalkKit
import Derived.WalkSpells
import Derived.WalkLawsBesides
import Derived.Lib.Hide
import Derived.Maps.Keyed
import Derived.Maps.RangeRun
import Derived.DeepKeys5
import Derived.StillTail
import Derived.BigQuiet
import Derived.RangeFuncLeaves
import Derived.RangeFuncNested
import Derived.RangeFuncCalls
import Derived.OrdersIn
import Derived.TacticsIn
import Derived.Laws.AppendOwn
import Derived.Laws.OwnMore
import Derived.Maps.AppendAt
namespace Go.Proofs.YtbnhngfegnhaiaaDoor
structure Spn where
  lo : Int
  hi : Int
deriving DecidableEq
structure Plc where
  x : Spn
  y : Spn
deriving DecidableEq
structure Thg where
  left : Plc
  right : Plc
  far : Int
deriving DecidableEq
structure Par where
  focal : Spn
  base : Spn
  tilt : Int
  near : Int
  far : Int
  things : List Thg
deriving DecidableEq
structure Gla where
  first : Par
  second : Par
  day1 : Int
  day2 : Int
deriving DecidableEq
/-- The k-th number. -/
def gi (l : List Int) (k : Nat) : Int := l.getD k 0
def thg0 : Thg := ⟨⟨⟨0, 0⟩, ⟨0, 0⟩⟩, ⟨⟨0, 0⟩, ⟨0, 0⟩⟩, 0⟩
/-- The k-th thing. -/
def gt (l : List Thg) (k : Nat) : Thg := l.getD k thg0
def inR (n lo hi : Int) : Bool := decide (lo ≤ n) && decide (n ≤ hi)
def Spn.ok (s : Spn) (lo hi : Int) : Bool := decide (lo ≤ s.lo) && decide (s.lo ≤ s.hi) && decide (s.hi ≤ hi)
def Plc.ok (x : Plc) : Bool := x.x.ok (-4000) 4000 && x.y.ok (-4000) 4000
def thgOk (p : Par) (t : Thg) : Bool := t.left.ok && t.right.ok && (decide (t.far = 0) || inR t.far p.near p.far)
def Par.sizeOk (p : Par) : Bool := p.focal.ok 1 50000 && p.base.ok 1 10000 && inR p.tilt 0 1000
def Par.valid (p : Par) : Bool := p.sizeOk && inR p.near 2000 1073741824 && inR p.far p.near 1073741824 && decide (p.things.length ≤ 12) && p.things.all (thgOk p)
/-- What two spans have in common. -/
def Spn.cut (a b : Spn) : Spn := ⟨max a.lo b.lo, min a.hi b.hi⟩
def Spn.is (a : Spn) : Bool := decide (a.lo ≤ a.hi)
def Thg.shift (t : Thg) : Spn := ⟨t.left.x.lo - t.right.x.hi, t.left.x.hi - t.right.x.lo⟩
def Thg.shown (t : Thg) : Spn := t.shift.cut ⟨0, 2000⟩
def Par.level (p : Par) (t : Thg) : Bool := ((⟨t.left.y.lo - t.right.y.hi, t.left.y.hi - t.right.y.lo⟩ : Spn).cut ⟨-p.tilt, p.tilt⟩).is
/-- The powers with which a thing's shift is one of some. -/
def Par.powers (p : Par) (t : Thg) (s : Spn) : Spn := if t.far = 0 then ⟨s.lo * p.near, (s.hi + 1) * p.far - 1⟩ else ⟨s.lo * t.far, (s.hi + 1) * t.far - 1⟩
def Par.can (p : Par) (t : Thg) : Bool := t.shown.is && p.level t
def Par.still (p : Par) (t : Thg) (q : Spn) : Spn × Bool := if p.can t then (q.cut (p.powers t t.shown), (q.cut (p.powers t t.shown)).is) else (q, false)
/-- The powers of a pair: landmarks stand still. -/
def Par.look (p : Par) : List Thg → Spn → Option Spn
  | [], q => some q
  | t :: l, q => if t.far = 0 then p.look l q else if (p.still t q).2 then p.look l (p.still t q).1 else none
def Par.all (p : Par) : Spn := ⟨p.focal.lo * p.base.lo, p.focal.hi * p.base.hi⟩
/-- How far away a thing is, with these powers. -/
def Par.away (p : Par) (t : Thg) (q : Spn) : Spn :=
  if t.far = 0 then (⟨p.near, p.far⟩ : Spn).cut ⟨q.lo / (t.shown.hi + 1) + 1, if 0 < t.shown.lo then q.hi / t.shown.lo else p.far⟩ else ⟨t.far, t.far⟩
def Gla.valid (g : Gla) : Bool := g.first.valid && g.second.valid && decide (g.first.things.length = g.second.things.length) && inR g.day1 0 65536 && inR g.day2 (g.day1 + 1) 65536
end Go.Proofs.YtbnhngfegnhaiaaDoor
namespace Go.Proofs.YtbnhngfegnhaiaaDoor
open Go.RowKit
open Go.MapKept (Stamped)
open Go.ChangeMaps (setBlock)
theorem below_cellOf {B : Nat} {w w' : World} (h : Below B w w') {b o : Nat} {v : Value} (hb : b < B) (hc : w.cell? ⟨b, o, none⟩ = some v) : w'.cell? ⟨b, o, none⟩ = some v :=
  (h.cell (p := ⟨b, o, none⟩) hb).trans hc
theorem lt_of_cell {w : World} {b o : Nat} {v : Value} (h : w.cell? ⟨b, o, none⟩ = some v) : b < w.heap.size := World.block_lt_of_cell? _ _ h
/-- What lay in the world when the call began lies there still. -/
theorem cell_stays {w w' : World} (h : Below w.heap.size w w') {b o : Nat} {v : Value} (hc : w.cell? ⟨b, o, none⟩ = some v) : w'.cell? ⟨b, o, none⟩ = some v :=
  below_cellOf h (lt_of_cell hc) hc
/-- A slice's array holds these integers, from the slice's start on. -/
def IsInts (w : World) (a : Option Addr) (l : List Int) : Prop :=
  ∀ i, i < l.length → ∃ b off, a = some ⟨b, off, none⟩ ∧ w.cell? ⟨b, off + i, none⟩ = some (.int .i64 (gi l i))
theorem IsInts.mono {w w' : World} {a : Option Addr} {l : List Int} (h : IsInts w a l) (hb : Below w.heap.size w w') : IsInts w' a l := fun i hi => by
  obtain ⟨b, off, ha, hc⟩ := h i hi
  exact ⟨b, off, ha, cell_stays hb hc⟩
theorem IsInts.at {w : World} {a : Option Addr} {l : List Int} (h : IsInts w a l) {k : Nat} (hk : k < l.length) :
    ∃ b off, a = some ⟨b, off, none⟩ ∧ ∀ i, i < l.length → w.cell? ⟨b, off + i, none⟩ = some (.int .i64 (gi l i)) := by
  obtain ⟨b, off, ha, _⟩ := h k hk
  refine ⟨b, off, ha, fun i hi => ?_⟩
  obtain ⟨b', off', ha', hc⟩ := h i hi
  rw [ha] at ha'
  cases ha'
  exact hc
/-- Block b is a map whose entries, in their order in memory, are these. -/
def MapRaw (P : Program) (kt : TypeId) (w : World) (b : Nat) (L : List (Value × Value)) : Prop :=
  ∃ es clock, w.heap[b]? = some (.map es clock) ∧ Stamped es clock ∧ es.toList.map (fun e => (e.key, e.val)) = L ∧ ∀ e ∈ es.toList, ∃ l, keyOf P kt e.key = some l
theorem MapRaw.kept {P : Program} {kt : TypeId} {w w' : World} {b : Nat} {L : List (Value × Value)} (h : MapRaw P kt w b L) (hb : w'.heap[b]? = w.heap[b]?) : MapRaw P kt w' b L := by
  obtain ⟨es, clock, h1, h2⟩ := h
  exact ⟨es, clock, hb.trans h1, h2⟩
theorem MapRaw.lt {P : Program} {kt : TypeId} {w : World} {b : Nat} {L : List (Value × Value)} (h : MapRaw P kt w b L) : b < w.heap.size := by
  obtain ⟨es, clock, h1, _⟩ := h
  exact (Array.getElem?_eq_some_iff.1 h1).1
theorem MapRaw.made (P : Program) (kt : TypeId) (w : World) : MapRaw P kt (w.alloc (.map #[] 0)) w.heap.size [] :=
  ⟨#[], 0, (MapKept.heap_alloc w _).1, MapKept.stamped_empty 0, rfl, by simp⟩
theorem MapRaw.find {P : Program} {kt : TypeId} {w : World} {b : Nat} {L : List (Value × Value)} (K : Maps.Keyed P kt) (h : MapRaw P kt w b L) {key : Value} (hkey : ∃ l, keyOf P kt key = some l) :
    ∃ es clock, w.heap[b]? = some (.map es clock) ∧ Stamped es clock ∧ es.toList.map (fun e => (e.key, e.val)) = L ∧ (∀ e ∈ es.toList, ∃ l, keyOf P kt e.key = some l) ∧
      (((Instr.findKey kt key es.toList).run P w = .ok none w ∧ ∀ p ∈ L, p.1 ≠ key) ∨
       ∃ j v, (Instr.findKey kt key es.toList).run P w = .ok (some (j, v)) w ∧ L[j]? = some (key, v)) := by
  obtain ⟨es, clock, h1, h2, h3, h4⟩ := h
  obtain ⟨l, hl⟩ := hkey
  refine ⟨es, clock, h1, h2, h3, h4, ?_⟩
  rcases K.find w hl es.toList h4 with ⟨hr, hn⟩ | ⟨j, e, hr, hj, he⟩
  · refine .inl ⟨hr, fun p hp => ?_⟩
    rw [← h3] at hp
    obtain ⟨e, he, rfl⟩ := List.mem_map.1 hp
    exact hn e he
  · refine .inr ⟨j, e.val, hr, ?_⟩
    rw [← h3, List.getElem?_map, hj]
    simp [he]
/-- 'v, ok := m[k]'. -/
theorem MapRaw.look {P : Program} {kt t et : TypeId} {w : World} {b : Nat} {L : List (Value × Value)} (K : Maps.Keyed P kt) (ht : P.underlying t = some (.map kt et)) (h : MapRaw P kt w b L)
    {key z : Value} (hkey : ∃ l, keyOf P kt key = some l) (hz : (zeroValue et).run P w = .ok z w) (commaOk : Bool) :
    ∃ v ok, (Instr.lookup t (.map (some b)) key commaOk).run P w = .ok (if commaOk then .tuple #[v, .bool ok] else v) w ∧
      ((ok = false ∧ v = z ∧ ∀ p ∈ L, p.1 ≠ key) ∨ (ok = true ∧ (key, v) ∈ L)) := by
  obtain ⟨es, clock, h1, h2, h3, h4, hf⟩ := h.find K hkey
  obtain ⟨l, hl⟩ := hkey
  rcases hf with ⟨hr, hn⟩ | ⟨j, v, hr, hj⟩
  · refine ⟨z, false, ?_, .inl ⟨rfl, rfl, hn⟩⟩
    simp [Instr.lookup, run_underlying ht, MapKept.run_getObj_map h1, K.check w _ hl, hr, hz, Result.andThen]
  · refine ⟨v, true, ?_, .inr ⟨rfl, List.mem_of_getElem? hj⟩⟩
    simp [Instr.lookup, run_underlying ht, MapKept.run_getObj_map h1, K.check w _ hl, hr, Result.andThen]
/-- 'm[k] = v'. -/
theorem MapRaw.update {P : Program} {kt t et : TypeId} {w : World} {b : Nat} {L : List (Value × Value)} (K : Maps.Keyed P kt) (ht : P.underlying t = some (.map kt et)) (h : MapRaw P kt w b L)
    {key : Value} (hkey : ∃ l, keyOf P kt key = some l) (val : Value) :
    ∃ w', (Instr.mapUpdate t (.map (some b)) key val).run P w = .ok () w' ∧ w.grownBy w' (some b) ∧ w'.heap.size = w.heap.size ∧
      (((∀ p ∈ L, p.1 ≠ key) ∧ MapRaw P kt w' b (L ++ [(key, val)])) ∨ ∃ j v, L[j]? = some (key, v) ∧ MapRaw P kt w' b (L.set j (key, val))) := by
  obtain ⟨es, clock, h1, h2, h3, h4, hf⟩ := h.find K hkey
  obtain ⟨l, hl⟩ := hkey
  have grown : ∀ o : Obj, w.grownBy (setBlock w b o) (some b) := fun o => ⟨rfl, rfl, rfl, by simp [setBlock], fun i _ hi => ChangeMaps.heap_setBlock_other h1 _ (fun e => hi (by rw [e]))⟩
  rcases hf with ⟨hr, hn⟩ | ⟨j, v, hr, hj⟩
  · refine ⟨setBlock w b (.map (es.push ⟨key, val, clock⟩) (clock + 1)), ?_, grown _, by simp [setBlock], .inl ⟨hn, es.push ⟨key, val, clock⟩, clock + 1, ChangeMaps.heap_setBlock_same h1 _, ?_, ?_, ?_⟩⟩
    · simp [Instr.mapUpdate, run_underlying ht, MapKept.run_getObj_map h1, K.check w false hl, hr, MapKept.run_setObj_map _ h1, Result.andThen, setBlock]
    · exact MapKept.stamped_push h2 (fun x hx => hn (x.key, x.val) (by rw [← h3]; exact List.mem_map.2 ⟨x, hx, rfl⟩))
    · simp [h3]
    · intro e he
      simp only [Array.toList_push, List.mem_append, List.mem_singleton] at he
      rcases he with he | rfl
      · exact h4 e he
      · exact ⟨l, hl⟩
  · have hj' : ∃ e, es.toList[j]? = some e ∧ e.key = key ∧ e.val = v := by
      rw [← h3, List.getElem?_map] at hj
      cases he : es.toList[j]? with
      | none => rw [he] at hj; simp at hj
      | some e =>
        rw [he] at hj
        simp at hj
        exact ⟨e, rfl, hj.1, hj.2⟩
    obtain ⟨e, he, hek, hev⟩ := hj'
    have heA : es[j]? = some e := by simpa using he
    refine ⟨setBlock w b (.map (es.modify j fun x => { x with key, val := val }) clock), ?_, grown _, by simp [setBlock], .inr ⟨j, v, hj, _, clock, ChangeMaps.heap_setBlock_same h1 _, ?_, ?_, ?_⟩⟩
    · simp [Instr.mapUpdate, run_underlying ht, MapKept.run_getObj_map h1, K.check w false hl, hr, heA, hek, K.stays w hl, MapKept.run_setObj_map _ h1, Result.andThen, setBlock]
    · exact MapKept.stamped_modify h2 j _ (fun _ _ => rfl) (fun x _ hx => by rw [heA] at hx; cases hx; exact hek.symm)
    · apply List.ext_getElem?
      intro i
      rw [List.getElem?_map, Array.getElem?_toList, Array.getElem?_modify, ← h3, List.getElem?_set]
      by_cases hij : j = i
      · subst hij
        have hlt : j < es.size := (Array.getElem?_eq_some_iff.1 heA).1
        simp [hlt]
      · simp [hij]
    · intro x hx
      have hx' : x ∈ es.modify j (fun x => { x with key, val := val }) := Array.mem_toList_iff.1 hx
      obtain ⟨i, hi, rfl⟩ := Array.getElem_of_mem hx'
      rw [Array.getElem_modify]
      split
      · exact ⟨l, hl⟩
      · exact h4 _ (by simp)
/-- 'len(m)'. -/
theorem MapRaw.len {P : Program} {kt et t : TypeId} {w : World} {b : Nat} {L : List (Value × Value)} (ht : P.underlying t = some (.map kt et)) (h : MapRaw P kt w b L) (ty : TypeId) :
    (Builtin.len_ #[t] ty #[.map (some b)]).run P w = .ok (.int .i64 L.length) w := by
  obtain ⟨es, clock, h1, _, rfl, _⟩ := h
  simp [Builtin.len_, run_underlying ht, MapKept.run_getObj_map h1, Result.andThen, goInt]
/-- 'for k, v := range m' under way: block r is an iterator over the map b; what is still to come. -/
def Rng (P : Program) (kt : TypeId) (w : World) (b r : Nat) (L todo : List (Value × Value)) : Prop :=
  ∃ es clock seen, w.heap[b]? = some (.map es clock) ∧ Stamped es clock ∧ es.toList.map (fun e => (e.key, e.val)) = L ∧ (∀ e ∈ es.toList, ∃ l, keyOf P kt e.key = some l) ∧
    w.heap[r]? = some (.mapIter (some b) clock seen clock) ∧ (leftOf es seen).toList.map (fun e => (e.key, e.val)) = todo
theorem Rng.kept {P : Program} {kt : TypeId} {w w' : World} {b r : Nat} {L todo : List (Value × Value)} (h : Rng P kt w b r L todo) (hb : w'.heap[b]? = w.heap[b]?) (hr : w'.heap[r]? = w.heap[r]?) : Rng P kt w' b r L todo := by
  obtain ⟨es, clock, seen, h1, h2, h3, h4, h5, h6⟩ := h
  exact ⟨es, clock, seen, hb.trans h1, h2, h3, h4, hr.trans h5, h6⟩
theorem Rng.lt {P : Program} {kt : TypeId} {w : World} {b r : Nat} {L todo : List (Value × Value)} (h : Rng P kt w b r L todo) : r < w.heap.size := by
  obtain ⟨es, clock, seen, _, _, _, _, h5, _⟩ := h
  exact (Array.getElem?_eq_some_iff.1 h5).1
/-- How many are still to come, read off the world: a loop's measure. -/
def rngLeft (w : World) (b r : Nat) : Nat :=
  match w.heap[b]?, w.heap[r]? with
  | some (.map es _), some (.mapIter _ _ seen _) => (leftOf es seen).size
  | _, _ => 0
theorem Rng.left {P : Program} {kt : TypeId} {w : World} {b r : Nat} {L todo : List (Value × Value)} (h : Rng P kt w b r L todo) : rngLeft w b r = todo.length := by
  obtain ⟨es, clock, seen, h1, _, _, _, h5, rfl⟩ := h
  simp [rngLeft, h1, h5]
/-- 'range m' begins. -/
theorem MapRaw.range {P : Program} {kt et t : TypeId} {w : World} {b : Nat} {L : List (Value × Value)} (ht : P.underlying t = some (.map kt et)) (h : MapRaw P kt w b L) :
    ∃ w', (Instr.range t (.map (some b))).run P w = .ok (.pointer (some ⟨w.heap.size, 0, none⟩)) w' ∧ Rng P kt w' b w.heap.size L L ∧ w.grownBy w' none ∧ w'.heap.size = w.heap.size + 1 := by
  obtain ⟨es, clock, h1, h2, h3, h4⟩ := h
  refine ⟨w.alloc (.mapIter (some b) clock #[] clock), ?_, ⟨es, clock, #[], (Below.heap_alloc _ _ _ (Array.getElem?_eq_some_iff.1 h1).1).trans h1, h2, h3, h4, (MapKept.heap_alloc w _).1, ?_⟩, World.grownBy_alloc _ _ _, by simp⟩
  · simp [Instr.range, run_underlying ht, MapKept.run_getObj_map h1, Result.andThen]
  · rw [← h3]; unfold leftOf; simp only [Array.toList_filter]; rw [List.filter_eq_self.2 (fun x _ => by simp)]
theorem put_same {w : World} {r : Nat} {o : Obj} (h : w.heap[r]? = some o) (o' : Obj) : (setBlock w r o').heap[r]? = some o' := by
  have := (Array.getElem?_eq_some_iff.1 h).1
  simp [setBlock, this]
theorem put_other {w : World} {r k : Nat} (o' : Obj) (hk : k ≠ r) : (setBlock w r o').heap[k]? = w.heap[k]? := by
  simp [setBlock, Array.getElem?_setIfInBounds_ne (Ne.symm hk)]
/-- A step of 'range m'. -/
theorem Rng.next {P : Program} {kt : TypeId} {w : World} {b r : Nat} {L todo : List (Value × Value)} (h : Rng P kt w b r L todo) (ty : TypeId) :
    (todo = [] ∧ (Instr.next (.pointer (some ⟨r, 0, none⟩)) false ty).run P w = .ok (.tuple #[.bool false]) w) ∨
    ∃ k v l1 l2 w', todo = l1 ++ (k, v) :: l2 ∧ (k, v) ∈ L ∧ (Instr.next (.pointer (some ⟨r, 0, none⟩)) false ty).run P w = .ok (.tuple #[.bool true, k, v]) w' ∧
      Rng P kt w' b r L (l1 ++ l2) ∧ w.grownBy w' (some r) ∧ w'.heap.size = w.heap.size ∧ (Instr.entry (.pointer (some ⟨r, 0, none⟩))).run P w' = .ok (.tuple #[k, v]) w' := by
  obtain ⟨es, clock, seen, h1, h2, h3, h4, h5, h6⟩ := h
  rcases run_next_at (P := P) w ty r b clock clock seen es clock h5 h1 h2.1 (Nat.le_refl _) with ⟨h0, hr⟩ | ⟨e, he, w1, hw1, hr⟩
  · refine .inl ⟨?_, hr⟩
    rw [← h6]
    have : leftOf es seen = #[] := Array.eq_empty_of_size_eq_zero h0
    simp [this]
  · right
    have hrb : r ≠ b := fun e => by rw [e, h1] at h5; cases h5
    have hh1 : w1.heap = w.heap := by rcases hw1 with rfl | rfl <;> rfl
    have hr1 : w1.heap[r]? = some (.mapIter (some b) clock seen clock) := by rw [hh1]; exact h5
    have hb' : (setBlock w1 r (.mapIter (some b) clock (seen.push e.born) clock)).heap[b]? = some (.map es clock) := by
      rw [put_other _ (Ne.symm hrb), hh1]; exact h1
    have hr' := put_same hr1 (.mapIter (some b) clock (seen.push e.born) clock)
    have hmem : e ∈ es.toList := by
      simp [leftOf] at he
      simpa using he.1
    obtain ⟨l1, l2, hl⟩ := List.append_of_mem he
    have hnd : ((leftOf es seen).toList.map (·.born)).Nodup := by
      have := h2.2.1
      refine List.Nodup.sublist ?_ this
      exact List.Sublist.map _ (by simp [leftOf])
    have hnew : (leftOf es (seen.push e.born)).toList = l1 ++ l2 := by
      have e1 : (leftOf es (seen.push e.born)).toList = (leftOf es seen).toList.filter (fun x => !(x.born == e.born)) := by
        simp only [leftOf, Array.toList_filter, List.filter_filter]
        apply List.filter_congr
        intro x _
        have e2 : (x.born == e.born) = decide (x.born = e.born) := rfl
        simp [Bool.and_comm, e2]
      rw [e1, hl]
      rw [hl] at hnd
      simp only [List.map_append, List.map_cons] at hnd
      have hn1 : ∀ x ∈ l1, x.born ≠ e.born := fun x hx => by
        have := (List.nodup_append.1 hnd).2.2
        exact this _ (List.mem_map.2 ⟨x, hx, rfl⟩) _ (by simp)
      have hn2 : ∀ x ∈ l2, x.born ≠ e.born := fun x hx => by
        have := ((List.nodup_cons.1 (List.nodup_append.1 hnd).2.1).1)
        exact fun hb => this (List.mem_map.2 ⟨x, hx, hb⟩)
      rw [List.filter_append, List.filter_cons]
      rw [List.filter_eq_self.2 (fun x hx => by simpa using hn1 x hx), List.filter_eq_self.2 (fun x hx => by simpa using hn2 x hx)]
      simp
    refine ⟨e.key, e.val, l1.map (fun e => (e.key, e.val)), l2.map (fun e => (e.key, e.val)), _, ?_, ?_, hr, ⟨es, clock, seen.push e.born, hb', h2, h3, h4, hr', ?_⟩, ?_, ?_, ?_⟩
    · rw [← h6, hl]; simp
    · rw [← h3]; exact List.mem_map.2 ⟨e, hmem, rfl⟩
    · rw [hnew]; simp
    · refine ⟨?_, ?_, ?_, ?_, fun i hi hne => ?_⟩
      · rcases hw1 with rfl | rfl <;> rfl
      · rcases hw1 with rfl | rfl <;> rfl
      · rcases hw1 with rfl | rfl <;> rfl
      · simp [setBlock, hh1]
      · rw [put_other _ (fun e => hne (by rw [e])), hh1]
    · simp [setBlock, hh1]
    · exact run_entry_at _ r b clock seen es clock e hr' hb' hmem h2.2.1
end Go.Proofs.YtbnhngfegnhaiaaDoor
namespace Go.Proofs.YtbnhngfegnhaiaaDoor
open Go.RowKit
section
variable {P : Program} {ops : Array Oper} {md : Region.Mode} {C : World → Prop}
def wpAnyLQ (P : Program) (md : Region.Mode) (ops : Array Oper) (C : World → Prop) (n : Nat) (L : Array Bool → Act → Prop) : Nat → Array Bool → Act → Prop
  | 0, listed, a => L listed a
  | f + 1, listed, a =>
    Region.ready md ops listed ≠ [] ∧ ∀ i ∈ Region.ready md ops listed, i < n ∧ qOp P ops C i (wpAnyLQ P md ops C n L f (listed.setIfInBounds i true)) a
theorem wpAny_of_headQ {n g : Nat} {L : Array Bool → Act → Prop} {Q' : Exit → Act → World → Prop} (hL : ∀ listed a w, C w → L listed a → wpAny P md ops Q' g listed a w) :
    ∀ (f : Nat) (listed : Array Bool) (a : Act) (w : World), C w → wpAnyLQ P md ops C n L f listed a → wpAny P md ops Q' (f + g) listed a w
  | 0, listed, a, w, hw, h => by rw [Nat.zero_add]; exact hL _ _ _ hw h
  | f + 1, listed, a, w, hw, h => by
    rw [show f + 1 + g = (f + g) + 1 by omega]
    exact ⟨fun h0 => absurd h0 h.1, fun i hi => wpOp_of_qOp hw (fun a' w' hw' h' => wpAny_of_headQ hL f _ a' w' hw' h') (h.2 i hi).2⟩
theorem wpAnyLQ_first {n i : Nat} {oi : Oper} {v : Value} {L : Array Bool → Act → Prop} (hi : ops[i]? = some oi) (hsel : ∀ (j : Nat) (o : Oper) cs b, ops[j]? = some o → o.op ≠ .select cs b)
    (hs : Region.sinkB md ops n = true) (hc : Region.chainB md ops n = true) (hn : n < ops.size) (hin : i < n)
    (hdone : ∀ listed a, L listed a → ∀ j ∈ Region.ready md ops listed, n ≤ j) :
    ∀ (f : Nat) (listed : Array Bool) (a : Act), HeadInv md ops n listed →
      (∀ j oj, ops[j]? = some oj → j ≠ i → listed.getD j true = false → (∀ e ∈ oj.after, Region.binds md e = true → e.on ≠ i) → oi.apart ops oj = true) →
      i ∈ Region.ready md ops listed → YieldsIn P ops C oi v a →
      wpAnyLQ P md ops C n L f (listed.setIfInBounds i true) (a.put oi.dst v) → wpAnyLQ P md ops C n L (f + 1) listed a := by
  intro f
  induction f with
  | zero =>
    intro listed a inv _ hr hy H
    have hun := (mem_ready.1 hr).1
    refine ⟨fun h => (by rw [h] at hr; cases hr), fun j hj => ?_⟩
    have hjn : j < n := by
      rcases Nat.lt_or_ge j n with h | h
      · exact h
      · exact absurd hj (tail_waits hs hc hn inv _ i rfl hin hun j h)
    refine ⟨hjn, ?_⟩
    by_cases hji : j = i
    · subst hji; exact hy.qOp hi H
    · have := hdone _ _ H j (ready_mono hj hji)
      omega
  | succ f ih =>
    intro listed a inv hfree hr hy H
    have hun := (mem_ready.1 hr).1
    refine ⟨fun h => (by rw [h] at hr; cases hr), fun j hj => ?_⟩
    have hjn : j < n := by
      rcases Nat.lt_or_ge j n with h | h
      · exact h
      · exact absurd hj (tail_waits hs hc hn inv _ i rfl hin hun j h)
    refine ⟨hjn, ?_⟩
    by_cases hji : j = i
    · subst hji; exact hy.qOp hi H
    · have h1 := (H.2 j (ready_mono hj hji)).2
      obtain ⟨hjun, oj, hoj, hall⟩ := mem_ready.1 hj
      have hnot : ∀ e ∈ oj.after, Region.binds md e = true → e.on ≠ i := fun e he hb heq => by
        have h1 := hall e he hb
        rw [heq, getD_both hun] at h1
        cases h1
      have h2 := qOp_put hoj (hfree j oj hoj hji hjun hnot) (fun cs b => hsel i oi cs b hi) (fun cs b => hsel j oj cs b hoj) hy h1
      have hfree' : ∀ k ok, ops[k]? = some ok → k ≠ i → (listed.setIfInBounds j true).getD k true = false →
          (∀ e ∈ ok.after, Region.binds md e = true → e.on ≠ i) → oi.apart ops ok = true := fun k ok hk hki hun hno => by
        refine hfree k ok hk hki ?_ hno
        by_cases hjk : j = k
        · subst hjk; exact hjun
        · rw [getD_set_ne true hjk] at hun; exact hun
      refine qOp_mono (fun a' h3 => ih (listed.setIfInBounds j true) a' (inv.set hj hjn) hfree' (ready_mono hr (Ne.symm hji)) h3.1 ?_) h2
      rw [Array.setIfInBounds_comm _ _ hji]
      exact h3.2
theorem wpAnyLQ_lex {n g : Nat} {Lq : Act → Prop} (hsel : Region.noSelect ops = true) (hs : Region.sinkB md ops n = true) (hc : Region.chainB md ops n = true) (hn : n < ops.size) :
    ∀ (l : List Oper) (k : Nat) (listed : Array Bool) (a : Act), (∀ j, j < l.length → l[j]? = ops[k + j]?) → k + l.length = n → HeadInv md ops n listed →
    Region.lexHead md ops g l.length k listed = true → wpQuiet P ops C Lq l a →
    wpAnyLQ P md ops C n (fun listed' a' => Region.seqB md ops g n listed' = true ∧ Lq a') l.length listed a
  | [], k, listed, a, _, hk, _, hB, h => by
    have : k = n := by simpa using hk
    subst this
    exact ⟨by simpa [Region.lexHead] using hB, h⟩
  | o :: l, k, listed, a, hl, hk, inv, hB, h => by
    have h0 : ops[k]? = some o := by simpa using (hl 0 (by simp)).symm
    simp only [List.length_cons, Region.lexHead, Bool.and_eq_true] at hB
    obtain ⟨⟨hr, hf⟩, hB'⟩ := hB
    have hkn : k < n := by simp only [List.length_cons] at hk; omega
    have hr' : k ∈ Region.ready md ops listed := by simpa using hr
    have hst : qOp P ops C k (wpQuiet P ops C Lq l) a := by unfold qOp; simp only [h0]; exact h
    obtain ⟨v, hy, hK⟩ := yieldsIn_of_qOp h0 hst
    exact wpAnyLQ_first h0 (Region.noSelect_spec hsel) hs hc hn hkn (fun listed' a' hL => seqB_ready hL.1) l.length listed a inv (Region.free_spec h0 hf) hr' hy
      (wpAnyLQ_lex hsel hs hc hn l (k + 1) _ _ (fun j hj => by have := hl (j + 1) (by simp; omega); simpa [Nat.add_assoc, Nat.add_comm 1 j] using this) (by simp only [List.length_cons] at hk; omega) (inv.set hr' hkn) hB' hK)
/-- A region that draws: its first n operations quiet in the class C, walked in the order of the text; the others, forced, from whatever world of the class. -/
theorem wp_region_quiet_tail {id : Nat} {Q : Exit → Act → World → Prop} {a : Act} {w : World} {l : List Oper} (C : World → Prop) (n : Nat) (hm : P.follows .mixedOrders = true) (hB : Region.lexTailB .any l.toArray n = true) (hC : C w.drew)
    (h : wpQuiet P l.toArray C (fun a' => ∀ w', C w' → wpList P l.toArray Q (l.drop n) a' w') (l.take n) a) : (Code.region id l.toArray true).wp P Q a w := by
  simp only [Region.lexTailB, Bool.and_eq_true, decide_eq_true_eq] at hB
  obtain ⟨⟨⟨⟨hsel, hn⟩, hs⟩, hc⟩, hlex⟩ := hB
  have hn' : n < l.length := by simpa using hn
  have htl : (l.take n).length = n := by simp; omega
  have hdl : (l.drop n).length = l.toArray.size - n := by simp
  have inv0 : HeadInv .any l.toArray n (Array.replicate l.toArray.size false) :=
    ⟨by simp, fun j oj _ hl => (by rw [getD_replicate_false] at hl; cases hl), fun t _ ht => getD_in (by simpa using ht) (getD_replicate_false _ _)⟩
  have H := wpAnyLQ_lex (C := C) (md := .any) (g := l.toArray.size - n) hsel hs hc hn (l.take n) 0 _ a (fun j hj => by
    have hj' : j < n := by rw [htl] at hj; exact hj
    simp [hj']) (by simpa using htl) inv0 (by rw [htl]; exact hlex) h
  refine wp_region_any hm ?_
  have := wpAny_of_headQ (Q' := Q) (g := l.toArray.size - n) (fun listed a' w' hw' hL => by
    have := wpAny_of_seq (md := .any) (Q' := Q) (l.drop n) n listed a' w' (fun j => by simp [List.getElem?_drop]) (by rw [hdl]; exact hL.1) (hL.2 w' hw')
    rwa [hdl] at this) _ _ _ w.drew hC H
  rw [htl, show n + (l.toArray.size - n) = l.toArray.size by omega] at this
  exact this
/-- The same where all are quiet. -/
theorem wp_region_quiet_all {id : Nat} {Q : Exit → Act → World → Prop} {a : Act} {w : World} {l : List Oper} (C : World → Prop) (hm : P.follows .mixedOrders = true) (hB : Region.lexB .any l.toArray = true) (hC : C w.drew)
    (h : wpQuiet P l.toArray C (fun a' => ∀ w', C w' → Q .normal a' w') l a) : (Code.region id l.toArray true).wp P Q a w :=
  wp_region_quiet (C := C) hm hB hC (by simpa using h)
end
/-- A world in which all that lay in w below B lies as it lay. -/
structure Aft (B : Nat) (w : World) where
  v : World
  h : Below B w v
instance (B : Nat) (w : World) : Nonempty (Aft B w) := ⟨⟨w, Below.refl B w⟩⟩
/-- A region that draws: whatever its operations lay anew, they leave alone what was there; each gives one value in all such worlds. -/
theorem wp_region_aft {P : Program} {id : Nat} {Q : Exit → Act → World → Prop} {a : Act} {w : World} {l : List Oper} (hm : P.follows .mixedOrders = true) (hB : Region.lexB .any l.toArray = true)
    (h : wpQuiet P l.toArray (fun w' => ∃ x : Aft w.heap.size w, w' = x.v) (fun a' => ∀ w', (∃ x : Aft w.heap.size w, w' = x.v) → Q .normal a' w') l a) : (Code.region id l.toArray true).wp P Q a w :=
  wp_region_quiet_all _ hm hB ⟨⟨w.drew, (Below.refl _ w).drew⟩, rfl⟩ h
theorem wp_region_aft_tail {P : Program} {id : Nat} {Q : Exit → Act → World → Prop} {a : Act} {w : World} {l : List Oper} (n : Nat) (hm : P.follows .mixedOrders = true) (hB : Region.lexTailB .any l.toArray n = true)
    (h : wpQuiet P l.toArray (fun w' => ∃ x : Aft w.heap.size w, w' = x.v) (fun a' => ∀ w', (∃ x : Aft w.heap.size w, w' = x.v) → wpList P l.toArray Q (l.drop n) a' w') (l.take n) a) : (Code.region id l.toArray true).wp P Q a w :=
  wp_region_quiet_tail _ n hm hB ⟨⟨w.drew, (Below.refl _ w).drew⟩, rfl⟩ h
theorem calls_aft_same {P : Program} {f : FuncId} {args : Array Value} {w : World} {v : Value} {x : Aft w.heap.size w}
    (h : Calls P f args x.v fun e w' => e = .returned v ∧ x.v = w') : Calls P f args x.v fun e w'' => e = .returned v ∧ ∃ y : Aft w.heap.size w, w'' = y.v :=
  h.mono fun _ _ ⟨he, hb⟩ => ⟨he, x, hb.symm⟩
section
variable {P : Program} {ops : Array Oper} {md : Region.Mode} {C : World → Prop} {r : Option Nat}
/-- No bound on depth, every function let in. -/
abbrev wideAt (r : Option Nat) : Fence := { Fence.wide with round := r }
theorem wideAt_calls {n : Nat} {f : FuncId} {args : Array Value} {w : World} {R : Ending → World → Prop} (h : Calls P f args w R) : CallsIn (wideAt r) n P f args w R :=
  (callsIn_wide (n := n)).2 h
theorem Oper.wpIn_of_quiet {n : Nat} {o : Oper} {a : Act} {K : Act → Prop} {K' : Act → World → Prop} {Q' : Exit → Act → World → Prop} {w : World} (hw : C w) (h : ∀ a w', C w' → K a → K' a w') (hh : o.quiet P a C K) : o.wpIn (wideAt r) n P a w K' Q' := by
  obtain ⟨v, h1, h2⟩ := hh
  have h3 := h1 w hw
  unfold Oper.quietAt at h3
  refine ⟨fun _ _ => trivial, ?_⟩
  have hsem : (o.semAt (wideAt r).round a.eval).run P w = (execOp a.eval o).run P w := by
    cases r with
    | none => rfl
    | some l =>
      have hd : ∀ c, o.op ≠ .defer c := fun c hc => by
        have : (execOp a.eval o).run P w = ((resolve a.eval c o.type).run P w).andThen fun d w' => .ok (.defer d) w' := by
          simp [execOp, hc]
        rw [this] at h3
        cases hr : (resolve a.eval c o.type).run P w with
        | ok d w' => rw [hr] at h3; simp [Result.andThen, Oper.quietUpon] at h3
        | halt x w' => rw [hr] at h3; simp [Result.andThen, Oper.quietUpon] at h3
      rw [Oper.semAt_some]
      exact hd
  rw [hsem]
  generalize (execOp a.eval o).run P w = res at *
  cases res with
  | ok x w' =>
    cases x <;> simp only [Oper.quietUpon] at h3 <;> simp only [Oper.uponIn]
    case value u =>
      obtain ⟨e1, e2⟩ := h3
      rw [e1, e2]
      exact h _ _ hw h2
    case skip =>
      obtain ⟨e1, e2⟩ := h3
      rw [e1, ← e2]
      exact h _ _ hw h2
    case enter f args =>
      obtain ⟨e1, hc⟩ := h3
      rw [e1]
      exact ⟨fun hd => by simp [Fence.wide] at hd, wideAt_calls (hc.mono fun e w'' ⟨he, hw''⟩ => by subst he; exact h _ _ hw'' h2)⟩
  | halt x w' => simp only [Oper.quietUpon] at h3
theorem wpOpIn_of_qOp {n i : Nat} {a : Act} {K : Act → Prop} {K' : Act → World → Prop} {Q' : Exit → Act → World → Prop} {w : World} (hC : C w) (h : ∀ a w', C w' → K a → K' a w') (hh : qOp P ops C i K a) : wpOpIn (wideAt r) n P ops Q' i K' a w := by
  unfold qOp at hh
  unfold wpOpIn
  split
  · rename_i ho; simp only [ho] at hh; exact h _ _ hC hh
  · rename_i o ho
    simp only [ho] at hh
    split
    · rename_i hw; simp only [hw, if_true] at hh; exact Oper.wpIn_of_quiet hC h hh
    · rename_i hw; simp only [hw] at hh; exact ⟨fun _ _ => trivial, h _ _ hC hh⟩
theorem wpAnyIn_of_headQ {n m g : Nat} {L : Array Bool → Act → Prop} {Q' : Exit → Act → World → Prop} (hL : ∀ listed a w, C w → L listed a → wpAnyIn (wideAt r) m P md ops Q' g listed a w) :
    ∀ (f : Nat) (listed : Array Bool) (a : Act) (w : World), C w → wpAnyLQ P md ops C n L f listed a → wpAnyIn (wideAt r) m P md ops Q' (f + g) listed a w
  | 0, listed, a, w, hw, h => by rw [Nat.zero_add]; exact hL _ _ _ hw h
  | f + 1, listed, a, w, hw, h => by
    rw [show f + 1 + g = (f + g) + 1 by omega]
    exact ⟨fun h0 => absurd h0 h.1, fun i hi => wpOpIn_of_qOp hw (fun a' w' hw' h' => wpAnyIn_of_headQ hL f _ a' w' hw' h') (h.2 i hi).2⟩
theorem wpAnyIn_of_seq {m : Nat} {Q' : Exit → Act → World → Prop} : ∀ (l : List Oper) (k : Nat) (listed : Array Bool) (a : Act) (w : World), (∀ j, l[j]? = ops[k + j]?) →
    Region.seqB md ops l.length k listed = true → wpListIn (wideAt r) m P ops Q' l a w → wpAnyIn (wideAt r) m P md ops Q' l.length listed a w
  | [], _, _, _, _, _, hB, h => ⟨by simpa [Region.seqB] using hB, h⟩
  | o :: l, k, listed, a, w, hl, hB, h => by
    have h0 : ops[k]? = some o := by simpa using (hl 0).symm
    simp only [List.length_cons, Region.seqB, Bool.and_eq_true, decide_eq_true_eq] at hB
    refine ⟨fun h1 => (by rw [hB.1] at h1; cases h1), fun i hi => ?_⟩
    rw [hB.1] at hi
    have hik : i = k := by simpa using hi
    subst hik
    have hw : wpOpIn (wideAt r) m P ops Q' i (wpListIn (wideAt r) m P ops Q' l) a w := by unfold wpOpIn; simp only [h0]; exact h
    exact wpOpIn_mono (fun a' w' h' => wpAnyIn_of_seq l (i + 1) _ a' w' (fun j => by have := hl (j + 1); simpa [Nat.add_assoc, Nat.add_comm 1 j] using this) hB.2 h') hw
/-- A region that draws, quiet at its head, forced at its tail: in a round, or where its tail begins one. -/
theorem wpIn_region_quiet_tail {m : Nat} {id : Nat} {Q : Exit → Act → World → Prop} {a : Act} {w : World} {l : List Oper} (C : World → Prop) (n : Nat) (hm : P.follows .mixedOrders = true) (hB : Region.lexTailB .any l.toArray n = true) (hC : C w.drew)
    (h : wpQuiet P l.toArray C (fun a' => ∀ w', C w' → wpListIn (wideAt r) m P l.toArray Q (l.drop n) a' w') (l.take n) a) : (Code.region id l.toArray true).wpIn (wideAt r) m P Q a w := by
  simp only [Region.lexTailB, Bool.and_eq_true, decide_eq_true_eq] at hB
  obtain ⟨⟨⟨⟨hsel, hn⟩, hs⟩, hc⟩, hlex⟩ := hB
  have hn' : n < l.length := by simpa using hn
  have htl : (l.take n).length = n := by simp; omega
  have hdl : (l.drop n).length = l.toArray.size - n := by simp
  have inv0 : HeadInv .any l.toArray n (Array.replicate l.toArray.size false) :=
    ⟨by simp, fun j oj _ hl => (by rw [getD_replicate_false] at hl; cases hl), fun t _ ht => getD_in (by simpa using ht) (getD_replicate_false _ _)⟩
  have H := wpAnyLQ_lex (C := C) (md := .any) (g := l.toArray.size - n) hsel hs hc hn (l.take n) 0 _ a (fun j hj => by
    have hj' : j < n := by rw [htl] at hj; exact hj
    simp [hj']) (by simpa using htl) inv0 (by rw [htl]; exact hlex) h
  refine wpIn_region_any hm ?_
  have := wpAnyIn_of_headQ (r := r) (m := m) (Q' := Q) (g := l.toArray.size - n) (fun listed a' w' hw' hL => by
    have := wpAnyIn_of_seq (r := r) (m := m) (md := .any) (Q' := Q) (l.drop n) n listed a' w' (fun j => by simp [List.getElem?_drop]) (by rw [hdl]; exact hL.1) (hL.2 w' hw')
    rwa [hdl] at this) _ _ _ w.drew hC H
  rw [htl, show n + (l.toArray.size - n) = l.toArray.size by omega] at this
  exact this
theorem wpIn_region_aft_tail {m : Nat} {id : Nat} {Q : Exit → Act → World → Prop} {a : Act} {w : World} {l : List Oper} (n : Nat) (hm : P.follows .mixedOrders = true) (hB : Region.lexTailB .any l.toArray n = true)
    (h : wpQuiet P l.toArray (fun w' => ∃ x : Aft w.heap.size w, w' = x.v) (fun a' => ∀ w', (∃ x : Aft w.heap.size w, w' = x.v) → wpListIn (wideAt r) m P l.toArray Q (l.drop n) a' w') (l.take n) a) : (Code.region id l.toArray true).wpIn (wideAt r) m P Q a w :=
  wpIn_region_quiet_tail _ n hm hB ⟨⟨w.drew, (Below.refl _ w).drew⟩, rfl⟩ h
end
/-- All blocks of A but those of M lie in B as they lay. -/
structure Same (M : Nat → Prop) (A B : World) : Prop where
  os : B.os = A.os
  tape : B.tape = A.tape
  output : B.output = A.output
  size : A.heap.size ≤ B.heap.size
  block : ∀ k, k < A.heap.size → ¬ M k → B.heap[k]? = A.heap[k]?
theorem Same.refl (M : Nat → Prop) (A : World) : Same M A A := ⟨rfl, rfl, rfl, Nat.le_refl _, fun _ _ _ => rfl⟩
theorem Same.trans {M : Nat → Prop} {A B C : World} (h : Same M A B) (k : Same M B C) : Same M A C :=
  ⟨k.os.trans h.os, k.tape.trans h.tape, k.output.trans h.output, Nat.le_trans h.size k.size, fun i hi hm => (k.block i (Nat.lt_of_lt_of_le hi h.size) hm).trans (h.block i hi hm)⟩
theorem Same.mono {M M' : Nat → Prop} {A B : World} (h : Same M A B) (hm : ∀ k, k < A.heap.size → M k → M' k) : Same M' A B :=
  ⟨h.os, h.tape, h.output, h.size, fun i hi hn => h.block i hi (fun e => hn (hm i hi e))⟩
theorem Same.drew {M : Nat → Prop} {A B : World} (h : Same M A B) : Same M A B.drew := ⟨h.os, h.tape, h.output, h.size, h.block⟩
theorem Same.alloc {M : Nat → Prop} {A B : World} (h : Same M A B) (o : Obj) : Same M A (B.alloc o) :=
  h.trans ⟨rfl, rfl, rfl, by simp, fun k hk _ => Below.heap_alloc _ _ _ hk⟩
theorem Same.setCell {M : Nat → Prop} {A B : World} (h : Same M A B) {p : Addr} (hp : M p.block ∨ A.heap.size ≤ p.block) (v : Value) : Same M A (B.setCell p v) :=
  ⟨h.os, h.tape, h.output, by simpa using h.size, fun k hk hm => (Below.heap_setCell _ _ _ _ (by rcases hp with hp | hp; (exact fun e => hm (e ▸ hp)); omega)).trans (h.block k hk hm)⟩
theorem Same.grown {M : Nat → Prop} {A B C : World} {row : Option Nat} (h : Same M A B) (hg : B.grownBy C row) (hr : ∀ k, row = some k → M k ∨ A.heap.size ≤ k) : Same M A C :=
  ⟨hg.os.trans h.os, hg.tape.trans h.tape, hg.output.trans h.output, Nat.le_trans h.size hg.size, fun k hk hm => (hg.block k (Nat.lt_of_lt_of_le hk h.size) (fun e => by
    rcases hr k e.symm with h' | h'
    · exact hm h'
    · omega)).trans (h.block k hk hm)⟩
theorem Same.of_below {A B : World} (M : Nat → Prop) (h : Below A.heap.size A B) : Same M A B := ⟨h.os, h.tape, h.output, h.size, fun k hk _ => h.block k hk⟩
theorem Same.below {M : Nat → Prop} {A B : World} {n : Nat} (h : Same M A B) (hn : n ≤ A.heap.size) (hm : ∀ k, k < n → ¬ M k) : Below n A B := ⟨h.os, h.tape, h.output, h.size, fun k hk => h.block k (by omega) (hm k hk)⟩
theorem Same.cell {M : Nat → Prop} {A B : World} (h : Same M A B) {b o : Nat} {v : Value} (hc : A.cell? ⟨b, o, none⟩ = some v) (hm : ¬ M b) : B.cell? ⟨b, o, none⟩ = some v :=
  (World.cell?_of_block (w := A) (h.block b (lt_of_cell hc) hm)).trans hc
theorem Same.frozen {M : Nat → Prop} {A B : World} (h : Same M A B) {b o : Nat} (hb : b < A.heap.size) (hm : ¬ M b) : B.frozen? ⟨b, o, none⟩ = A.frozen? ⟨b, o, none⟩ :=
  World.frozen?_of_block (w := A) (h.block b hb hm)
theorem Same.putObj {M : Nat → Prop} {A B : World} (h : Same M A B) {l : Nat} (hl : M l ∨ A.heap.size ≤ l) (o : Obj) : Same M A (B.putObj l o) :=
  h.grown (grownBy_putObj' B l o) (fun k e => by cases e; exact hl)
section
variable {P : Program}
/-- The marks that ranges over functions have left: each block is open still. -/
def MarksAt (n : Nat) (ds : List Deferred) (w : World) : Prop :=
  ∃ ks : List Nat, ds = ks.map (fun k => { target := .collected k, args := #[] }) ∧ ks.Nodup ∧ ∀ k ∈ ks, n ≤ k ∧ w.heap[k]? = some (.deferred (some []))
theorem MarksAt.nil (n : Nat) (w : World) : MarksAt n [] w := ⟨[], rfl, by simp, by simp⟩
theorem MarksAt.cons {n : Nat} {ds : List Deferred} {w w' : World} {D : Nat} (h : MarksAt n ds w) (hD : w.heap.size ≤ D) (hn : n ≤ D) (hk : w'.heap[D]? = some (.deferred (some [])))
    (hs : ∀ k, k < w.heap.size → w.heap[k]? = some (.deferred (some [])) → w'.heap[k]? = some (.deferred (some []))) : MarksAt n ({ target := .collected D, args := #[] } :: ds) w' := by
  obtain ⟨ks, rfl, hnd, hall⟩ := h
  refine ⟨D :: ks, rfl, List.nodup_cons.2 ⟨fun hm => ?_, hnd⟩, fun k hk' => ?_⟩
  · have := (Array.getElem?_eq_some_iff.1 (hall D hm).2).1
    omega
  · rcases List.mem_cons.1 hk' with rfl | hk'
    · exact ⟨hn, hk⟩
    · have := hall k hk'
      exact ⟨this.1, hs k (Array.getElem?_eq_some_iff.1 this.2).1 this.2⟩
theorem MarksAt.mono {n : Nat} {ds : List Deferred} {w w' : World} (h : MarksAt n ds w) (hs : ∀ k, k < w.heap.size → w.heap[k]? = some (.deferred (some [])) → w'.heap[k]? = some (.deferred (some []))) : MarksAt n ds w' := by
  obtain ⟨ks, rfl, hnd, hall⟩ := h
  exact ⟨ks, rfl, hnd, fun k hk => ⟨(hall k hk).1, hs k (Array.getElem?_eq_some_iff.1 (hall k hk).2).1 (hall k hk).2⟩⟩
theorem leaves_marks {fn : Func} {tmps : Array Value} {R : Ending → World → Prop} {v : Value} {n : Nat} : ∀ (ks : List Nat) (w : World), ks.Nodup → (∀ k ∈ ks, n ≤ k ∧ w.heap[k]? = some (.deferred (some []))) →
    (∀ W', Same (fun k => n ≤ k ∧ w.heap[k]? = some (.deferred (some []))) w W' → W'.heap.size = w.heap.size → (results fn tmps).run P W' = .ok v W' ∧ R (.returned v) W') →
    LeavesInM Fence.wide 0 P fn tmps R (ks.map (fun k => { target := .collected k, args := #[] })) .returning w
  | [], w, _, _, h => by
    have := h w (Same.refl _ _) rfl
    exact ⟨v, this.1, this.2⟩
  | k :: ks, w, hnd, hall, h => by
    have hk := hall k (by simp)
    refine ⟨by simp, .inl ⟨k, _, rfl, run_takeDeferred hk.2, ?_⟩⟩
    have hnd' := List.nodup_cons.1 hnd
    refine leaves_marks (n := n) ks _ hnd'.2 (fun j hj => ⟨(hall j (by simp [hj])).1, (World.putObj_heap_other (fun e : j = k => hnd'.1 (by rw [← e]; exact hj))).trans (hall j (by simp [hj])).2⟩) (fun W' hs hsz => h W' ?_ (by simpa using hsz))
    have h1 : Same (fun k => n ≤ k ∧ w.heap[k]? = some (.deferred (some []))) w (w.putObj k (.deferred none)) := (Same.refl _ w).putObj (.inl hk) _
    refine h1.trans (hs.mono (fun j _ hj => ⟨hj.1, ?_⟩))
    by_cases e : j = k
    · subst e; exact hk.2
    · exact (World.putObj_heap_other e).symm.trans hj.2
/-- A function's contract from its body, where ranges over functions have left marks. -/
theorem calls_of_wp_marks {f : FuncId} {fn : Func} {c : Code} {args : Array Value} {w : World} {R : Ending → World → Prop}
    (hf : P.funcs[f]? = some fn) (hb : fn.body = some c)
    (h : c.wp P (bodyPostM Fence.wide 0 P fn R) { tmps := args ++ Array.replicate (fn.ntmps - args.size) undef, defers := [] } w) : Calls P f args w R :=
  callsIn_wide.1 (callsIn_of_wp_marks hf hb trivial (wpIn_wide.2 h))
end
end Go.Proofs.YtbnhngfegnhaiaaDoor
namespace Go.Proofs.YtbnhngfegnhaiaaDoor
open Go.RowKit
section
variable {P : Program}
/-- What a round may write: of the blocks that are the consumer's those that are new, and those of M. -/
def mayC (M : Nat → Prop) (B : Nat) (C : Nat → Prop) (k : Nat) : Prop := C k ∧ (k < B → M k)
end
end Go.Proofs.YtbnhngfegnhaiaaDoor
namespace Go.Proofs.YtbnhngfegnhaiaaDoor
open Go.RowKit
section
variable {P : Program}
abbrev markOf (k : Nat) : Deferred := { target := .collected k, args := #[] }
/-- Marks first, each shut; then what 'Leaves' says. -/
def LeavesX (P : Program) (fn : Func) (tmps : Array Value) (R : Ending → World → Prop) (ds : List Deferred) (u : FrameMode) : List Nat → World → Prop
  | [], w => Leaves P fn tmps R ds u w
  | k :: ks, w => u ≠ .run ∧ ∃ w', (Instr.takeDeferred k).run P w = .ok [] w' ∧ LeavesX P fn tmps R ds u ks w'
theorem leavesX_steps {fn : Func} {tmps : Array Value} {R : Ending → World → Prop} {ds : List Deferred} {u : FrameMode} : ∀ (ks : List Nat) (w : World) (fr : Frame) (cs : List Frame),
    fr.mode = u → fr.defers = ks.map markOf ++ ds → fr.tmps = tmps → P.funcs[fr.fn]? = some fn → fr.kind = .normal → LeavesX P fn tmps R ds u ks w →
    ∃ e w' fr', R e w' ∧ Comes P (lone fr cs w) (lone fr' cs w') e ∧ fr'.fn = fr.fn ∧ fr'.leaving P w' e
  | [], w, fr, cs, hu, hd, ht, hf, hk, h => leaves_steps ds u w fr cs hu (by simpa using hd) ht hf hk h
  | k :: ks, w, fr, cs, hu, hd, ht, hf, hk, h => by
    obtain ⟨hrun, w', htake, hrest⟩ := h
    have h1 := step_collected (cs := cs) (fr := fr) (hu ▸ hrun) (d := markOf k) (ds := ks.map markOf ++ ds) (by simpa using hd) rfl htake
    obtain ⟨e', w'', fr', hR', hs', hfn', hl'⟩ := leavesX_steps ks w' { fr with defers := [] ++ (ks.map markOf ++ ds) } cs hu rfl ht hf hk hrest
    exact ⟨e', w'', fr', hR', Comes.of_steps (.one h1) hs', hfn', hl'⟩
/-- How such a body ends. -/
def bodyPostX (P : Program) (fn : Func) (R : Ending → World → Prop) : Exit → Act → World → Prop
  | .normal, a, w | .ret, a, w => ∃ ks ds, a.defers = ks.map markOf ++ ds ∧ LeavesX P fn a.tmps R ds .returning ks w
  | .panic chain, a, w => ∃ ks ds, a.defers = ks.map markOf ++ ds ∧ LeavesX P fn a.tmps R ds (.panicking chain) ks w
  | .outgrown, _, w => R .outgrown w
  | _, _, _ => False
theorem calls_of_wp_x {f : FuncId} {fn : Func} {c : Code} {args : Array Value} {w : World} {R : Ending → World → Prop} (hf : P.funcs[f]? = some fn) (hb : fn.body = some c)
    (h : c.wp P (bodyPostX P fn R) { tmps := args ++ Array.replicate (fn.ntmps - args.size) undef, defers := [] } w) : Calls P f args w R := by
  intro cs
  let b : Frame := { (default : Frame) with fn := f, kind := .normal }
  have henter : Frame.enter P f args .normal = b.at { tmps := args ++ Array.replicate (fn.ntmps - args.size) undef, defers := [] } [.code c] := by
    simp [Frame.enter, Frame.at, hf, hb, b]
  obtain ⟨e, a', w', hq, harr⟩ := h b [] cs
  rw [← henter] at harr
  cases e with
  | normal =>
    obtain ⟨ks, ds, hd, hl⟩ := hq
    obtain ⟨e', w'', fr', hR, hs, hfn, hl⟩ := leavesX_steps ks w' { b.at a' [] with mode := .returning } cs rfl hd rfl hf rfl hl
    exact ⟨e', w'', fr', hR, Comes.of_steps (Steps.trans harr (.one step_end)) hs, hfn, hl⟩
  | ret =>
    obtain ⟨ks, ds, hd, hl⟩ := hq
    obtain ⟨todo, hs₀⟩ := harr
    obtain ⟨e', w'', fr', hR, hs, hfn, hl⟩ := leavesX_steps ks w' { b.at a' todo with mode := .returning } cs rfl hd rfl hf rfl hl
    exact ⟨e', w'', fr', hR, Comes.of_steps hs₀ hs, hfn, hl⟩
  | panic chain =>
    obtain ⟨ks, ds, hd, hl⟩ := hq
    obtain ⟨todo, hs₀⟩ := harr
    obtain ⟨e', w'', fr', hR, hs, hfn, hl⟩ := leavesX_steps ks w' { b.at a' todo with mode := .panicking chain } cs rfl hd rfl hf rfl hl
    exact ⟨e', w'', fr', hR, Comes.of_steps hs₀ hs, hfn, hl⟩
  | exit id => exact hq.elim
  | goto l => exact hq.elim
  | outgrown =>
    exact ⟨.outgrown, w', b, hq, harr.resolve_left (by simp [b]), rfl, trivial⟩
end
end Go.Proofs.YtbnhngfegnhaiaaDoor
namespace Go.Proofs.YtbnhngfegnhaiaaDoor
open Go.RowKit
theorem wpList_append_run {P : Program} {w : World} {ops : Array Oper} {rest : List Oper} {o : Oper} {a : Act} {Q : Exit → Act → World → Prop} (hgd : o.guard = none) (s x : Operand) (t : TypeId)
    (ho : o.op = .call { callee := .builtin .append, args := #[s, x], argTypes := #[t, t] }) (v xv v' : Value) (w' : World) (hs : a.eval s = v) (hx : a.eval x = xv)
    (hr : (Builtin.append_ #[t, t] o.type #[v, xv]).run P w = .ok v' w') (h : wpList P ops Q rest (a.put o.dst v') w') : wpList P ops Q (o :: rest) a w := by
  refine wpList_plain hgd fun K hK => ?_
  unfold Oper.wp execOp
  simp only [ho, resolve, invoke, builtin, Sem.run_bind, Sem.run_pure, Result.andThen_ok, List.map_toArray, List.map_cons, List.map_nil, hs, hx, hr]
  exact hK _ _ h
theorem append_none {P : Program} {w : World} (base : Nat) (t ty e : TypeId) (i : TypeInfo) (size c : Nat) (ht : P.underlying t = some (.slice e)) (hi : P.info? e = some i)
    (v : Value) (n : Nat) (xs : List Value) (hown : w.ownsRow base e size v n xs) :
    (Builtin.append_ #[t, t] ty #[v, .slice none 0 c]).run P w = .ok v w := by
  rcases hown.2 with ⟨rfl, rfl⟩ | ⟨g, cap, cur, rfl, _, _, hnc, _⟩
  · simp [Builtin.append_, run_underlying ht, sizeOf, typeInfo, hi, Builtin.lenOf, Builtin.firstCells]
  · simp [Builtin.append_, run_underlying ht, sizeOf, typeInfo, hi, Builtin.lenOf, Builtin.firstCells, hnc, storeCells]
/-- append(own, whatever...). -/
theorem append_rows {P : Program} {w : World} (base : Nat) (t ty e : TypeId) (i : TypeInfo) (z : Value) (size bytes : Nat) (ht : P.underlying t = some (.slice e)) (hi : P.info? e = some i) (hz : i.zero = some z)
    (hsize : i.size = size) (hby : i.bytes = bytes) (hzs : z.cells.size = size) (hsz : 0 < size)
    (v : Value) (n : Nat) (xs : List Value) (hown : w.ownsRow base e size v n xs)
    (a : Option Addr) (m c : Nat) (news : List Value) (hl : news.length = m * size) (hnews : m ≠ 0 → ∃ ad, a = some ad ∧ ∀ j u, news[j]? = some u → w.cell? (ad.add j) = some u) (h1 : ∀ u ∈ news, u.oneCell' = true)
    (h63 : n + m ≤ maxLen) (hbytes : (n + m) * bytes ≤ 140737488355328) (hbase : base ≤ w.heap.size) :
    ∃ v' w', (Builtin.append_ #[t, t] ty #[v, .slice a m c]).run P w = .ok v' w' ∧ w'.ownsRow base e size v' (n + m) (xs ++ news) ∧ w.grownBy w' v.ownBlock := by
  cases a with
  | none =>
    by_cases hm : m = 0
    · subst hm
      have hn : news = [] := List.eq_nil_of_length_eq_zero (by simpa using hl)
      subst hn
      refine ⟨v, w, append_none base t ty e i size c ht hi v n xs hown, by simpa using hown, ⟨rfl, rfl, rfl, Nat.le_refl _, fun _ _ _ => rfl⟩⟩
    · obtain ⟨ad, h, _⟩ := hnews hm
      cases h
  | some ad =>
    have hn' : ∀ j u, news[j]? = some u → w.cell? (ad.add j) = some u := by
      by_cases hm : m = 0
      · subst hm
        have hn : news = [] := List.eq_nil_of_length_eq_zero (by simpa using hl)
        subst hn
        intro j u h; simp at h
      · obtain ⟨ad', h, h2⟩ := hnews hm
        cases h
        exact h2
    obtain ⟨v', w', h2, h3, h4, _⟩ := run_append_own (P := P) (w := w) base t ty e i z size bytes ht hi hz hsize hby hzs hsz v n xs hown ad m c news hl hn' h1 h63 hbytes hbase
    exact ⟨v', w', h2, h3, h4⟩
/-- What a slice of the call's own holds, cell by cell. -/
theorem own_cell {w : World} {base : Nat} {e : TypeId} {size : Nat} {v : Value} {n : Nat} {xs : List Value} (h : w.ownsRow base e size v n xs) (hn : 0 < n) :
    ∃ g cap, v = .slice (some ⟨g, 0, none⟩) n cap ∧ base ≤ g ∧ g < w.heap.size ∧ n ≤ cap ∧ cap ≤ maxLen ∧ ∀ j u, xs[j]? = some u → w.cell? ⟨g, j, none⟩ = some u := by
  rcases h.2 with ⟨_, h0⟩ | ⟨g, cap, cur, rfl, h1, h2, h3, h4, _⟩
  · omega
  · refine ⟨g, cap, rfl, h1, (Array.getElem?_eq_some_iff.1 h2).1, h3, h4, fun j u hj => ?_⟩
    have := h.cells (g := g) rfl j u hj
    have e : ((⟨g, 0, none⟩ : Addr).add j) = ⟨g, j, none⟩ := by unfold Addr.add; split <;> simp_all
    rwa [e] at this
/-- A slice of the call's own, whatever it is, is a slice. -/
theorem own_slice {w : World} {base : Nat} {e : TypeId} {size : Nat} {v : Value} {n : Nat} {xs : List Value} (h : w.ownsRow base e size v n xs) : ∃ a cap, v = .slice a n cap ∧ n ≤ cap ∧ cap ≤ maxLen := by
  rcases h.2 with ⟨rfl, rfl⟩ | ⟨g, cap, cur, rfl, h1, h2, h3, h4, _⟩
  · exact ⟨_, _, rfl, by simp, by simp [maxLen]⟩
  · exact ⟨_, _, rfl, h3, h4⟩
theorem grown_below {w w' : World} {v : Value} {base : Nat} {e : TypeId} {size n : Nat} {xs : List Value} {W : World} (hb : Below base W w) (h : w.ownsRow base e size v n xs) (hg : w.grownBy w' v.ownBlock) (hs : base ≤ w.heap.size) : Below base W w' := by
  refine hb.grown hg hs (fun k hk => ?_)
  exact (h.lt k hk).1
theorem own_below {w w' : World} {v : Value} {base : Nat} {e : TypeId} {size n : Nat} {xs : List Value} (h : w.ownsRow base e size v n xs) (hb : Below w.heap.size w w') : w'.ownsRow base e size v n xs := by
  have hg : w.grownBy w' none := ⟨hb.os, hb.tape, hb.output, hb.size, fun k hk _ => hb.block k hk⟩
  refine h.kept hg ?_
  cases v.ownBlock with
  | none => exact .inl rfl
  | some k => exact .inr (by simp)
end Go.Proofs.YtbnhngfegnhaiaaDoor
namespace Go.Proofs.YtbnhngfegnhaiaaDoor
open Go.RowKit
/-- One thing more done. -/
def upd (d : Nat → Bool) (k : Nat) : Nat → Bool := fun j => if j = k then true else d j
/-- Each operation keeps the invariant, whatever of the others has been done that need not wait for it. -/
def InvSteps (P : Program) (Q : Exit → Act → World → Prop) (Inv : (Nat → Bool) → Act → World → Prop) : Nat → List Oper → Prop
  | _, [] => True
  | k, o :: r => (∀ d a w K, d k = false → (∀ e ∈ o.after, Region.binds .any e = true → d e.on = true) → Inv d a w → Hid (∀ a' w', Inv (upd d k) a' w' → K a' w') → o.wp P a w K Q) ∧ InvSteps P Q Inv (k + 1) r
theorem InvSteps.get {P : Program} {Q : Exit → Act → World → Prop} {Inv : (Nat → Bool) → Act → World → Prop} : ∀ {l : List Oper} {k : Nat}, InvSteps P Q Inv k l → ∀ {i : Nat} {o : Oper}, l[i]? = some o →
    ∀ d a w, d (k + i) = false → (∀ e ∈ o.after, Region.binds .any e = true → d e.on = true) → Inv d a w → o.wp P a w (fun a' w' => Inv (fun j => if j = k + i then true else d j) a' w') Q
  | [], _, _, i, o, h => by simp at h
  | o' :: r, k, hs, 0, o, h => by
    simp only [List.getElem?_cons_zero, Option.some.injEq] at h
    subst h
    exact fun d a w h1 h2 h3 => hs.1 d a w _ h1 h2 h3 (fun _ _ h => h)
  | o' :: r, k, hs, i + 1, o, h => by
    rw [List.getElem?_cons_succ] at h
    have := InvSteps.get hs.2 h
    rw [show k + 1 + i = k + (i + 1) by omega] at this
    exact this
/-- append to one's own, and where the new slice lies. -/
theorem append_rows_at {P : Program} {w : World} (base : Nat) (t ty e : TypeId) (i : TypeInfo) (z : Value) (size bytes : Nat) (ht : P.underlying t = some (.slice e)) (hi : P.info? e = some i) (hz : i.zero = some z)
    (hsize : i.size = size) (hby : i.bytes = bytes) (hzs : z.cells.size = size) (hsz : 0 < size)
    (v : Value) (n : Nat) (xs : List Value) (hown : w.ownsRow base e size v n xs)
    (a : Option Addr) (m c : Nat) (news : List Value) (hl : news.length = m * size) (hnews : m ≠ 0 → ∃ ad, a = some ad ∧ ∀ j u, news[j]? = some u → w.cell? (ad.add j) = some u) (h1 : ∀ u ∈ news, u.oneCell' = true)
    (h63 : n + m ≤ maxLen) (hbytes : (n + m) * bytes ≤ 140737488355328) (hbase : base ≤ w.heap.size) :
    ∃ v' w', (Builtin.append_ #[t, t] ty #[v, .slice a m c]).run P w = .ok v' w' ∧ w'.ownsRow base e size v' (n + m) (xs ++ news) ∧ w.grownBy w' v.ownBlock ∧ (v'.ownBlock = v.ownBlock ∨ v'.ownBlock = some w.heap.size) := by
  cases a with
  | none =>
    by_cases hm : m = 0
    · subst hm
      have hn : news = [] := List.eq_nil_of_length_eq_zero (by simpa using hl)
      subst hn
      refine ⟨v, w, append_none base t ty e i size c ht hi v n xs hown, by simpa using hown, ⟨rfl, rfl, rfl, Nat.le_refl _, fun _ _ _ => rfl⟩, .inl rfl⟩
    · obtain ⟨ad, h, _⟩ := hnews hm
      cases h
  | some ad =>
    have hn' : ∀ j u, news[j]? = some u → w.cell? (ad.add j) = some u := by
      by_cases hm : m = 0
      · subst hm
        have hn : news = [] := List.eq_nil_of_length_eq_zero (by simpa using hl)
        subst hn
        intro j u h; simp at h
      · obtain ⟨ad', h, h2⟩ := hnews hm
        cases h
        exact h2
    obtain ⟨v', w', h2, h3, h4, h5, h6⟩ := run_append_own_at (P := P) (w := w) base t ty e i z size bytes ht hi hz hsize hby hzs hsz v n xs hown ad m c news hl hn' h1 h63 hbytes hbase
    exact ⟨v', w', h2, h3, h4, h6⟩
end Go.Proofs.YtbnhngfegnhaiaaDoor
namespace Go.Proofs.YtbnhngfegnhaiaaDoor
open Go.RowKit
set_option linter.unusedVariables false
end Go.Proofs.YtbnhngfegnhaiaaDoor
namespace Go.Proofs.YtbnhngfegnhaiaaDoor
open Go.RowKit
set_option linter.unusedVariables false
/-- The first cells of a block are kept. -/
def KeptTo (e : TypeId) (k : Nat) (w w' : World) (b : Nat) : Prop := ∀ cur, w.heap[b]? = some (.cells cur e (0, 0)) → ∃ cur', w'.heap[b]? = some (.cells cur' e (0, 0)) ∧ cur'.size = cur.size ∧ cur'.toList.take k = cur.toList.take k
theorem KeptTo.trans {e : TypeId} {k : Nat} {w w' w'' : World} {b : Nat} (h : KeptTo e k w w' b) (h' : KeptTo e k w' w'' b) : KeptTo e k w w'' b := fun cur hc => by
  obtain ⟨c1, h1, h2, h3⟩ := h cur hc
  obtain ⟨c2, h4, h5, h6⟩ := h' c1 h1
  exact ⟨c2, h4, h5.trans h2, h6.trans h3⟩
theorem KeptTo.mono {e : TypeId} {k j : Nat} {w w' : World} {b : Nat} (h : KeptTo e k w w' b) (hj : j ≤ k) : KeptTo e j w w' b := fun cur hc => by
  obtain ⟨c1, h1, h2, h3⟩ := h cur hc
  refine ⟨c1, h1, h2, ?_⟩
  have := congrArg (fun l => l.take j) h3
  simpa [List.take_take, Nat.min_eq_left hj] using this
end Go.Proofs.YtbnhngfegnhaiaaDoor
namespace Go.Proofs.YtbnhngfegnhaiaaDoor
open Go.RowKit
set_option linter.unusedVariables false
def InvStepsIn (r : Option Nat) (m : Nat) (P : Program) (Q : Exit → Act → World → Prop) (ops : Array Oper) (Inv : (Nat → Bool) → Act → World → Prop) : Nat → List Oper → Prop
  | _, [] => True
  | k, o :: l => (∀ d a w K, d k = false → (∀ e ∈ o.after, Region.binds .any e = true → d e.on = true) → Inv d a w → Hid (∀ a' w', Inv (upd d k) a' w' → K a' w') →
      if Region.wanted o (yielded ops a.tmps) then o.wpIn (wideAt r) m P a w K Q else K (a.put o.dst undef) w) ∧ InvStepsIn r m P Q ops Inv (k + 1) l
theorem InvStepsIn.get {r : Option Nat} {m : Nat} {P : Program} {Q : Exit → Act → World → Prop} {ops : Array Oper} {Inv : (Nat → Bool) → Act → World → Prop} : ∀ {l : List Oper} {k : Nat}, InvStepsIn r m P Q ops Inv k l → ∀ {i : Nat} {o : Oper}, l[i]? = some o →
    ∀ d a w, d (k + i) = false → (∀ e ∈ o.after, Region.binds .any e = true → d e.on = true) → Inv d a w →
      if Region.wanted o (yielded ops a.tmps) then o.wpIn (wideAt r) m P a w (fun a' w' => Inv (fun j => if j = k + i then true else d j) a' w') Q else Inv (fun j => if j = k + i then true else d j) (a.put o.dst undef) w
  | [], _, _, i, o, h => by simp at h
  | o' :: l, k, hs, 0, o, h => by
    simp only [List.getElem?_cons_zero, Option.some.injEq] at h
    subst h
    exact fun d a w h1 h2 h3 => hs.1 d a w _ h1 h2 h3 (fun _ _ h => h)
  | o' :: l, k, hs, i + 1, o, h => by
    rw [List.getElem?_cons_succ] at h
    have := InvStepsIn.get hs.2 h
    rw [show k + 1 + i = k + (i + 1) by omega] at this
    exact this
/-- Each waits for earlier ones alone. -/
def plainG (l : List Oper) : Bool := (List.range l.length).all fun i => match l[i]? with
  | some o => o.after.all fun e => decide (e.on < i) || !Region.binds .any e
  | none => true
theorem plainG_at {l : List Oper} (h : plainG l = true) {i : Nat} {o : Oper} (ho : l[i]? = some o) : ∀ e ∈ o.after, Region.binds .any e = true → e.on < i := by
  have hi : i < l.length := (List.getElem?_eq_some_iff.1 ho).1
  have := (List.all_eq_true.1 h) i (List.mem_range.2 hi)
  rw [ho] at this
  simp only [Array.all_eq_true_iff_forall_mem, decide_eq_true_eq, Bool.or_eq_true] at this
  exact fun e he hb => by
    rcases this e he with h | h
    · exact h
    · rw [hb] at h; cases h
theorem wpAnyIn_invG {r : Option Nat} {m : Nat} {P : Program} {l : List Oper} {Q : Exit → Act → World → Prop} {Inv : (Nat → Bool) → Act → World → Prop} (hp : plainG l = true) (hs : InvStepsIn r m P Q l.toArray Inv 0 l)
    (hend : ∀ d a w, (∀ i, i < l.length → d i = true) → Inv d a w → Q .normal a w) :
    ∀ (f : Nat) (listed : Array Bool) (a : Act) (w : World), listed.size = l.length → (listed.toList.countP (fun b => !b)) = f → Inv (fun j => listed.getD j false) a w → wpAnyIn (wideAt r) m P .any l.toArray Q f listed a w := by
  have first : ∀ listed : Array Bool, listed.size = l.length → Region.ready .any l.toArray listed = [] → ∀ i, i < l.length → listed.getD i false = true := by
    intro listed hz hr i
    induction i using Nat.strongRecOn with
    | ind i ih =>
      intro hi
      cases hb : listed.getD i false with
      | true => rfl
      | false =>
        exfalso
        have : i ∈ Region.ready .any l.toArray listed := by
          rw [mem_ready]
          have hlt : i < listed.size := by omega
          refine ⟨by simpa [hlt] using hb, l[i], by simp [hi], fun e he hbd => ?_⟩
          have := plainG_at hp (List.getElem?_eq_getElem hi) e he hbd
          exact ih e.on this (by omega)
        rw [hr] at this
        simp at this
  intro f
  induction f with
  | zero =>
    intro listed a w hz hc hI
    have hall : ∀ i, i < l.length → listed.getD i false = true := by
      intro i hi
      have hlt : i < listed.size := by omega
      have := List.countP_eq_zero.1 hc (listed[i]) (by simp)
      simpa [hlt] using this
    refine ⟨?_, hend _ a w hall hI⟩
    rw [List.eq_nil_iff_forall_not_mem]
    intro i hi
    obtain ⟨h1, o, ho, _⟩ := mem_ready.1 hi
    have hlt : i < listed.size := by
      have := (Array.getElem?_eq_some_iff.1 ho).1
      simpa [hz] using this
    have := hall i (by omega)
    simp [hlt] at h1 this
    rw [this] at h1
    cases h1
  | succ f ih =>
    intro listed a w hz hc hI
    refine ⟨fun hr => hend _ a w (first listed hz hr) hI, fun i hi => ?_⟩
    obtain ⟨h1, o, ho, hdep⟩ := mem_ready.1 hi
    have hil : i < l.length := by simpa using (Array.getElem?_eq_some_iff.1 ho).1
    have hlt : i < listed.size := by omega
    have ho' : l[i]? = some o := by simpa using ho
    have hb : listed.getD i false = false := by simpa [hlt] using h1
    have hstep := hs.get ho' (fun j => listed.getD j false) a w (by simpa using hb) hdep hI
    have hnext : ∀ a' w', Inv (fun j => if j = 0 + i then true else listed.getD j false) a' w' → wpAnyIn (wideAt r) m P .any l.toArray Q f (listed.setIfInBounds i true) a' w' := by
      intro a' w' hI'
      refine ih _ a' w' (by simpa using hz) ?_ ?_
      · have h2 : listed.toList = listed.toList.take i ++ false :: listed.toList.drop (i + 1) := by
          have e : listed[i] = false := by simpa [hlt] using hb
          have := List.drop_eq_getElem_cons (l := listed.toList) (i := i) (by simpa using hlt)
          simp only [Array.getElem_toList, e] at this
          rw [← this, List.take_append_drop]
        have h3 : (listed.setIfInBounds i true).toList = listed.toList.take i ++ true :: listed.toList.drop (i + 1) := by
          rw [Array.toList_setIfInBounds, List.set_eq_take_append_cons_drop, if_pos (by simpa using hlt)]
        rw [h2] at hc
        rw [h3]
        simp only [List.countP_append, List.countP_cons, Bool.not_false, if_true, Bool.not_true] at hc ⊢
        simp at hc ⊢
        omega
      · have e : (fun j => (listed.setIfInBounds i true).getD j false) = (fun j => if j = 0 + i then true else listed.getD j false) := by
          funext j
          rw [Nat.zero_add]
          by_cases hj : j = i
          · subst hj; simp [hlt]
          · rw [if_neg hj, getD_set_ne false (fun e => hj e.symm)]
        rw [e]
        exact hI'
    unfold wpOpIn
    simp only [ho]
    split
    · rename_i hw
      rw [if_pos hw] at hstep
      exact Oper.wpIn_mono hnext hstep
    · rename_i hw
      rw [if_neg hw] at hstep
      exact ⟨fun _ _ => trivial, hnext _ _ hstep⟩
/-- A region that draws, with guards: by an invariant. -/
theorem wpIn_region_invG {r : Option Nat} {m : Nat} {P : Program} {id : Nat} {l : List Oper} {Q : Exit → Act → World → Prop} {a : Act} {w : World} (hm : P.follows .mixedOrders = true) (hp : plainG l = true)
    (Inv : (Nat → Bool) → Act → World → Prop) (h0 : Inv (fun _ => false) a w.drew) (hs : InvStepsIn r m P Q l.toArray Inv 0 l)
    (hend : ∀ d a w, (∀ i, i < l.length → d i = true) → Inv d a w → Q .normal a w) : (Code.region id l.toArray true).wpIn (wideAt r) m P Q a w := by
  refine wpIn_region_any hm (wpAnyIn_invG hp hs hend _ _ _ _ (by simp) (by simp [List.countP_replicate]) ?_)
  have e : (fun j => (Array.replicate l.toArray.size false).getD j false) = fun _ => false := by
    funext j
    by_cases hj : j < l.length <;> simp [hj]
  rw [e]
  exact h0
end Go.Proofs.YtbnhngfegnhaiaaDoor
