/- What a press can come to, in plain Lean: no program in sight. Maps as lists of pairs, slices as lists: words on memory and their laws, over whatever program. A region that draws its order, whose first operations are quiet in a class of worlds and whose last ones are forced; a range over a function; deferred calls that recover: laws over whatever program. A range over a function whose elements lie in memory that it makes, and that hands each over: a law over whatever program. A function that leaves with marks among its deferred calls, and with calls that recover: a law over whatever program. append of whatever slice to a slice of the call's own: laws over whatever program. A region that draws its order, by an invariant over what has been done: a law over whatever program. A region that draws its order, some of whose edges the model's own order does not bind: a law over whatever program. append of one element to one's own, and what the elder slice holds behind it: a law over whatever program. A region that draws its order, with guarded operations, where a round may be begun: by an invariant over what is done: a law over whatever program. Words on memory, walks and calls that recover, for presses; small functions. Formes, deals and presses in memory; whether a list has what a function tells; sums; whether a forme is one. Whether a forme is one, in the program and in the reference; how many sheets are good; what a forme gives. How many sheets are good, what a forme gives: in the program and in the reference. -/
import Derived.WalkKit
import Derived.WalkSpells
import Derived.WalkLawsBesides
import Derived.Lib.Hide
import Derived.Maps.Keyed
import Derived.Maps.RangeRun
import Derived.DeepKeys5
import Derived.StillTail
import Derived.BigQuiet
import Derived.RangeFuncLeaves
import Derived.RangeFuncNested
import Derived.RangeFuncCalls
import Derived.OrdersIn
import Derived.TacticsIn
import Derived.Laws.AppendOwn
import Derived.Laws.OwnMore
import Derived.Maps.AppendAt
import Derived.Test.YtjkhclijmcmdjaaProg
import Derived.Deep.DeepCutAuto
namespace Go.Proofs.Ytjkhclijmcmdjaa
structure Fme where
  slots : List Int
  times : Int
deriving DecidableEq
structure Dl where
  kind : Int
  forme : Fme
  view : Int
  many : Int
  pence : Int
deriving DecidableEq
structure Spn where
  lo : Int
  hi : Int
deriving DecidableEq
structure Prs where
  room : Int
  formes : Int
  slo : Int
  shi : Int
  make : Int
  sheet : Int
  wanted : List Int
  paper : Int
  money : Int
  deals : List Dl
deriving DecidableEq
structure Shf where
  paper : Int
  money : Int
  cards : List Spn
deriving DecidableEq
/-- The k-th number, forme, deal, span. -/
def gi (l : List Int) (k : Nat) : Int := l.getD k 0
def gf (l : List Fme) (k : Nat) : Fme := l.getD k ⟨[], 0⟩
def gd (l : List Dl) (k : Nat) : Dl := l.getD k ⟨0, ⟨[], 0⟩, 0, 0, 0⟩
def gs (l : List Spn) (k : Nat) : Spn := l.getD k ⟨0, 0⟩
def inR (n lo hi : Int) : Bool := decide (lo ≤ n) && decide (n ≤ hi)
def sumL : List Int → Int
  | [] => 0
  | x :: r => x + sumL r
/-- Is a forme one? Is a deal valid? A press? -/
def fmeOk (p : Prs) (f : Fme) : Bool := decide (f.slots.length = p.wanted.length) && f.slots.all (fun n => inR n 0 6) && inR (sumL f.slots) 1 p.room && inR f.times 1 1048576
def dealOk (p : Prs) (d : Dl) : Bool :=
  if d.kind = 0 then inR d.many 1 1048576 && inR d.pence 0 1099511627776
  else if d.kind = 1 then fmeOk p d.forme
  else if d.kind = 2 then inR d.view 0 ((p.wanted.length : Int) - 1) && inR d.many 1 1048576 && inR d.pence 0 1099511627776
  else false
def Prs.spoilOk (p : Prs) : Bool := decide (0 ≤ p.slo) && decide (p.slo ≤ p.shi) && decide (p.shi ≤ 50)
def Prs.sizeOk (p : Prs) : Bool := inR p.room 1 6 && inR p.formes 1 2 && inR p.wanted.length 1 4 && decide (p.deals.length ≤ 20)
def Prs.penceOk (p : Prs) : Bool := inR p.make 0 1099511627776 && inR p.sheet 0 1099511627776 && inR p.paper 0 1099511627776 && inR p.money 0 1099511627776
def Prs.valid (p : Prs) : Bool := p.sizeOk && p.spoilOk && p.wanted.all (fun n => inR n 0 60) && p.penceOk && p.deals.all (dealOk p)
/-- How many sheets are good, at least and at most; how many cards of a view a forme gives. -/
def Prs.good (p : Prs) (n : Int) : Spn := ⟨n - (n * p.shi + 99) / 100, n - n * p.slo / 100⟩
def Prs.gives (p : Prs) (f : Fme) (v : Nat) : Spn := ⟨gi f.slots v * (p.good f.times).lo, gi f.slots v * (p.good f.times).hi⟩
def Prs.openE (p : Prs) (ok : Bool) : Int := if !p.valid then 1 else if !ok then 2 else 0
def givesE (p : Prs) (f : Fme) : List Spn × Int :=
  let e := p.openE (fmeOk p f)
  if e = 0 then ((List.range p.wanted.length).map fun v => p.gives f v, 0) else ([], e)
def planOk (p : Prs) (l : List Fme) : Bool := decide ((l.length : Int) ≤ p.formes) && l.all (fmeOk p)
/-- How many cards of a view a plan surely gives. -/
def Prs.least (p : Prs) (l : List Fme) (v : Nat) : Int := sumL (l.map fun f => (p.gives f v).lo)
def Prs.few (p : Prs) (l : List Fme) : Option Nat := (List.range p.wanted.length).find? fun v => decide (p.least l v < gi p.wanted v)
def Prs.cost (p : Prs) (l : List Fme) : Int := sumL (l.map fun f => p.make + p.sheet * f.times)
def checkE (p : Prs) (l : List Fme) : Int × Int :=
  let e := p.openE (planOk p l)
  if e = 0 then (match p.few l with
    | some v => ((v : Int), 10)
    | none => (0, 0)) else (0, e)
def costE (p : Prs) (l : List Fme) : Int × Int :=
  let e := p.openE (planOk p l)
  if e = 0 then (p.cost l, 0) else (0, e)
/-- What there is after a deal. -/
def Prs.first (p : Prs) : Shf := ⟨p.paper, p.money, List.replicate p.wanted.length ⟨0, 0⟩⟩
def Prs.deal (p : Prs) (s : Shf) (d : Dl) : Option Shf :=
  if d.kind = 0 then (if s.money < d.pence then none else some ⟨s.paper + d.many, s.money - d.pence, s.cards⟩)
  else if d.kind = 1 then (if s.money < p.make ∨ s.paper < d.forme.times then none
    else some ⟨s.paper - d.forme.times, s.money - p.make, (List.range s.cards.length).map fun v => ⟨(gs s.cards v).lo + (p.gives d.forme v).lo, (gs s.cards v).hi + (p.gives d.forme v).hi⟩⟩)
  else (if (gs s.cards d.view.toNat).lo < d.many then none
    else some ⟨s.paper, s.money + d.pence, s.cards.set d.view.toNat ⟨(gs s.cards d.view.toNat).lo - d.many, (gs s.cards d.view.toNat).hi - d.many⟩⟩)
/-- The shelf after some deals, or the number of the first one that cannot be done. -/
def Prs.runF (p : Prs) : Shf → List Dl → Nat → Shf × Nat × Bool
  | s, [], k => (s, k, true)
  | s, d :: r, k => match p.deal s d with
    | some t => p.runF t r (k + 1)
    | none => (s, k, false)
def playE (p : Prs) : Int × Int :=
  let e := p.openE true
  if e = 0 then (let r := p.runF p.first p.deals 0
    ((r.2.1 : Int), if r.2.2 then 0 else 10)) else (0, e)
def onE (p : Prs) (n : Int) : Shf × Int :=
  let e := p.openE (inR n 0 p.deals.length)
  if e = 0 then (let r := p.runF p.first (p.deals.take n.toNat) 0
    if r.2.2 then (r.1, 0) else (⟨0, 0, []⟩, 10)) else (⟨0, 0, []⟩, e)
/-- Deals with more than enough: the least sheets and pence that are left; none: cards lack. -/
def Prs.lowF (p : Prs) : Shf → List Dl → Int → Int → Option (Int × Int)
  | _, [], a, b => some (a, b)
  | s, d :: r, a, b => match p.deal s d with
    | some t => p.lowF t r (min a t.paper) (min b t.money)
    | none => none
def Prs.lows (p : Prs) (m : Int) : Option (Int × Int) := p.lowF ⟨m, m, List.replicate p.wanted.length ⟨0, 0⟩⟩ p.deals m m
/-- All slots that go on from some, with room for so many more, but for those that take nothing. -/
def slotsF (room : Int) : Nat → List Int → Nat → List (List Int)
  | 0, pre, left => if (left : Int) < room then [pre] else []
  | d + 1, pre, left => (List.range (left + 1)).flatMap fun (n : Nat) => slotsF room d (pre ++ [(n : Int)]) (left - n)
def Prs.slots (p : Prs) : List (List Int) := slotsF p.room p.wanted.length [] p.room.toNat
/-- The least number of sheets of which so many surely are good. -/
def Prs.enough (p : Prs) (n : Int) : Int := ((((List.range (4 * n.toNat + 4)).find? fun (i : Nat) => decide (n ≤ (p.good (i : Int)).lo)).getD (4 * n.toNat + 4) : Nat) : Int)
/-- How many good sheets of some slots make up what lacks of the views from v on; none: none do. -/
def restF (slots : List Int) : List Int → Nat → Int → Option Int
  | [], _, n => some n
  | lack :: r, v, n => if lack ≤ 0 then restF slots r (v + 1) n else if gi slots v = 0 then none else restF slots r (v + 1) (max n ((lack + gi slots v - 1) / gi slots v))
def Prs.rest (p : Prs) (slots : List Int) (has : Nat → Int) : Option Int := restF slots ((List.range p.wanted.length).map fun v => gi p.wanted v - has v) 0 0
def maxL : List Int → Int
  | [] => 0
  | x :: r => r.foldl max x
/-- The plans that are looked at. -/
def Prs.plans0 (p : Prs) : List (List Fme) := match p.rest (List.replicate p.wanted.length 0) (fun _ => 0) with
  | some n => if n = 0 then [[]] else []
  | none => []
def Prs.plans1 (p : Prs) : List (List Fme) := p.slots.flatMap fun s => match p.rest s (fun _ => 0) with
  | some n => [[⟨s, max 1 (p.enough n)⟩]]
  | none => []
def Prs.most (p : Prs) : Int := max 1 (p.enough (maxL p.wanted))
def Prs.others (p : Prs) (f : Fme) (l : List (List Int)) : List (List Fme) := l.flatMap fun t => match p.rest t (fun v => (p.gives f v).lo) with
  | some m => [[f, ⟨t, max 1 (p.enough m)⟩]]
  | none => []
def Prs.plans2F (p : Prs) : List (List Int) → List (List Fme)
  | [] => []
  | s :: r => (if p.formes > 1 then (List.range p.most.toNat).flatMap fun (n : Nat) => p.others ⟨s, (n : Int) + 1⟩ (s :: r) else []) ++ p.plans2F r
def Prs.plans (p : Prs) : List (List Fme) := p.plans0 ++ p.plans1 ++ p.plans2F p.slots
/-- Which of two plans is better: what they cost, how many formes, which comes first. -/
def cmpI (a b : Int) : Int := if a < b then -1 else if b < a then 1 else 0
def cmpL : List Int → List Int → Int
  | [], [] => 0
  | [], _ :: _ => -1
  | _ :: _, [] => 1
  | a :: r, b :: s => if cmpI a b ≠ 0 then cmpI a b else cmpL r s
def numsL (l : List Fme) : List Int := l.flatMap fun f => f.slots ++ [f.times]
def orL : List Int → Int
  | [] => 0
  | x :: r => if x ≠ 0 then x else orL r
def Prs.before (p : Prs) (x y : List Fme) : Bool := decide (orL [cmpI (p.cost x) (p.cost y), cmpI x.length y.length, cmpL (numsL x) (numsL y)] < 0)
def Prs.pickF (p : Prs) : Option (List Fme) → List (List Fme) → Option (List Fme)
  | b, [] => b
  | none, x :: r => p.pickF (some x) r
  | some b, x :: r => p.pickF (some (if p.before x b then x else b)) r
def bestE (p : Prs) : List Fme × Int × Int :=
  let e := p.openE true
  if e = 0 then (match p.pickF none p.plans with
    | some l => (l, p.cost l, 0)
    | none => ([], 0, 10)) else ([], 0, e)
def sampleP : Prs := ⟨4, 2, 5, 10, 300, 10, [20, 9, 3], 20, 500, [⟨0, ⟨[], 0⟩, 0, 10, 50⟩, ⟨1, ⟨[2, 1, 1], 12⟩, 0, 0, 0⟩, ⟨2, ⟨[], 0⟩, 0, 15, 400⟩]⟩
example : givesE sampleP ⟨[2, 1, 1], 12⟩ = ([⟨20, 24⟩, ⟨10, 12⟩, ⟨10, 12⟩], 0) := by decide
example : checkE sampleP [⟨[1, 2, 1], 11⟩] = (0, 10) := by decide
example : costE sampleP [⟨[2, 1, 1], 11⟩] = (410, 0) := by decide
example : playE sampleP = (3, 0) := by decide
example : onE sampleP 3 = (⟨18, 550, [⟨5, 9⟩, ⟨10, 12⟩, ⟨10, 12⟩]⟩, 0) := by decide
example : sampleP.lows 1000 = some (998, 650) := by decide
example : sampleP.slots.length = 34 := by decide +kernel
example : sampleP.plans0 = [] ∧ sampleP.plans1.length = 4 := by decide +kernel
end Go.Proofs.Ytjkhclijmcmdjaa
namespace Go.Proofs.Ytjkhclijmcmdjaa
open Go.RowKit
open Go.MapKept (Stamped)
open Go.ChangeMaps (setBlock)
theorem below_cellOf {B : Nat} {w w' : World} (h : Below B w w') {b o : Nat} {v : Value} (hb : b < B) (hc : w.cell? ⟨b, o, none⟩ = some v) : w'.cell? ⟨b, o, none⟩ = some v :=
  (h.cell (p := ⟨b, o, none⟩) hb).trans hc
theorem lt_of_cell {w : World} {b o : Nat} {v : Value} (h : w.cell? ⟨b, o, none⟩ = some v) : b < w.heap.size := World.block_lt_of_cell? _ _ h
/-- What lay in the world when the call began lies there still. -/
theorem cell_stays {w w' : World} (h : Below w.heap.size w w') {b o : Nat} {v : Value} (hc : w.cell? ⟨b, o, none⟩ = some v) : w'.cell? ⟨b, o, none⟩ = some v :=
  below_cellOf h (lt_of_cell hc) hc
/-- A slice's array holds these integers, from the slice's start on. -/
def IsInts (w : World) (a : Option Addr) (l : List Int) : Prop :=
  ∀ i, i < l.length → ∃ b off, a = some ⟨b, off, none⟩ ∧ w.cell? ⟨b, off + i, none⟩ = some (.int .i64 (gi l i))
theorem IsInts.mono {w w' : World} {a : Option Addr} {l : List Int} (h : IsInts w a l) (hb : Below w.heap.size w w') : IsInts w' a l := fun i hi => by
  obtain ⟨b, off, ha, hc⟩ := h i hi
  exact ⟨b, off, ha, cell_stays hb hc⟩
theorem IsInts.at {w : World} {a : Option Addr} {l : List Int} (h : IsInts w a l) {k : Nat} (hk : k < l.length) :
    ∃ b off, a = some ⟨b, off, none⟩ ∧ ∀ i, i < l.length → w.cell? ⟨b, off + i, none⟩ = some (.int .i64 (gi l i)) := by
  obtain ⟨b, off, ha, _⟩ := h k hk
  refine ⟨b, off, ha, fun i hi => ?_⟩
  obtain ⟨b', off', ha', hc⟩ := h i hi
  rw [ha] at ha'
  cases ha'
  exact hc
/-- Block b is a map whose entries, in their order in memory, are these. -/
def MapRaw (P : Program) (kt : TypeId) (w : World) (b : Nat) (L : List (Value × Value)) : Prop :=
  ∃ es clock, w.heap[b]? = some (.map es clock) ∧ Stamped es clock ∧ es.toList.map (fun e => (e.key, e.val)) = L ∧ ∀ e ∈ es.toList, ∃ l, keyOf P kt e.key = some l
theorem MapRaw.kept {P : Program} {kt : TypeId} {w w' : World} {b : Nat} {L : List (Value × Value)} (h : MapRaw P kt w b L) (hb : w'.heap[b]? = w.heap[b]?) : MapRaw P kt w' b L := by
  obtain ⟨es, clock, h1, h2⟩ := h
  exact ⟨es, clock, hb.trans h1, h2⟩
theorem MapRaw.lt {P : Program} {kt : TypeId} {w : World} {b : Nat} {L : List (Value × Value)} (h : MapRaw P kt w b L) : b < w.heap.size := by
  obtain ⟨es, clock, h1, _⟩ := h
  exact (Array.getElem?_eq_some_iff.1 h1).1
theorem MapRaw.made (P : Program) (kt : TypeId) (w : World) : MapRaw P kt (w.alloc (.map #[] 0)) w.heap.size [] :=
  ⟨#[], 0, (MapKept.heap_alloc w _).1, MapKept.stamped_empty 0, rfl, by simp⟩
/-- 'len(m)'. -/
theorem MapRaw.len {P : Program} {kt et t : TypeId} {w : World} {b : Nat} {L : List (Value × Value)} (ht : P.underlying t = some (.map kt et)) (h : MapRaw P kt w b L) (ty : TypeId) :
    (Builtin.len_ #[t] ty #[.map (some b)]).run P w = .ok (.int .i64 L.length) w := by
  obtain ⟨es, clock, h1, _, rfl, _⟩ := h
  simp [Builtin.len_, run_underlying ht, MapKept.run_getObj_map h1, Result.andThen, goInt]
/-- 'for k, v := range m' under way: block r is an iterator over the map b; what is still to come. -/
def Rng (P : Program) (kt : TypeId) (w : World) (b r : Nat) (L todo : List (Value × Value)) : Prop :=
  ∃ es clock seen, w.heap[b]? = some (.map es clock) ∧ Stamped es clock ∧ es.toList.map (fun e => (e.key, e.val)) = L ∧ (∀ e ∈ es.toList, ∃ l, keyOf P kt e.key = some l) ∧
    w.heap[r]? = some (.mapIter (some b) clock seen clock) ∧ (leftOf es seen).toList.map (fun e => (e.key, e.val)) = todo
theorem Rng.kept {P : Program} {kt : TypeId} {w w' : World} {b r : Nat} {L todo : List (Value × Value)} (h : Rng P kt w b r L todo) (hb : w'.heap[b]? = w.heap[b]?) (hr : w'.heap[r]? = w.heap[r]?) : Rng P kt w' b r L todo := by
  obtain ⟨es, clock, seen, h1, h2, h3, h4, h5, h6⟩ := h
  exact ⟨es, clock, seen, hb.trans h1, h2, h3, h4, hr.trans h5, h6⟩
theorem Rng.lt {P : Program} {kt : TypeId} {w : World} {b r : Nat} {L todo : List (Value × Value)} (h : Rng P kt w b r L todo) : r < w.heap.size := by
  obtain ⟨es, clock, seen, _, _, _, _, h5, _⟩ := h
  exact (Array.getElem?_eq_some_iff.1 h5).1
/-- How many are still to come, read off the world: a loop's measure. -/
def rngLeft (w : World) (b r : Nat) : Nat :=
  match w.heap[b]?, w.heap[r]? with
  | some (.map es _), some (.mapIter _ _ seen _) => (leftOf es seen).size
  | _, _ => 0
theorem Rng.left {P : Program} {kt : TypeId} {w : World} {b r : Nat} {L todo : List (Value × Value)} (h : Rng P kt w b r L todo) : rngLeft w b r = todo.length := by
  obtain ⟨es, clock, seen, h1, _, _, _, h5, rfl⟩ := h
  simp [rngLeft, h1, h5]
/-- 'range m' begins. -/
theorem MapRaw.range {P : Program} {kt et t : TypeId} {w : World} {b : Nat} {L : List (Value × Value)} (ht : P.underlying t = some (.map kt et)) (h : MapRaw P kt w b L) :
    ∃ w', (Instr.range t (.map (some b))).run P w = .ok (.pointer (some ⟨w.heap.size, 0, none⟩)) w' ∧ Rng P kt w' b w.heap.size L L ∧ w.grownBy w' none ∧ w'.heap.size = w.heap.size + 1 := by
  obtain ⟨es, clock, h1, h2, h3, h4⟩ := h
  refine ⟨w.alloc (.mapIter (some b) clock #[] clock), ?_, ⟨es, clock, #[], (Below.heap_alloc _ _ _ (Array.getElem?_eq_some_iff.1 h1).1).trans h1, h2, h3, h4, (MapKept.heap_alloc w _).1, ?_⟩, World.grownBy_alloc _ _ _, by simp⟩
  · simp [Instr.range, run_underlying ht, MapKept.run_getObj_map h1, Result.andThen]
  · rw [← h3]; unfold leftOf; simp only [Array.toList_filter]; rw [List.filter_eq_self.2 (fun x _ => by simp)]
theorem put_same {w : World} {r : Nat} {o : Obj} (h : w.heap[r]? = some o) (o' : Obj) : (setBlock w r o').heap[r]? = some o' := by
  have := (Array.getElem?_eq_some_iff.1 h).1
  simp [setBlock, this]
theorem put_other {w : World} {r k : Nat} (o' : Obj) (hk : k ≠ r) : (setBlock w r o').heap[k]? = w.heap[k]? := by
  simp [setBlock, Array.getElem?_setIfInBounds_ne (Ne.symm hk)]
/-- A step of 'range m'. -/
theorem Rng.next {P : Program} {kt : TypeId} {w : World} {b r : Nat} {L todo : List (Value × Value)} (h : Rng P kt w b r L todo) (ty : TypeId) :
    (todo = [] ∧ (Instr.next (.pointer (some ⟨r, 0, none⟩)) false ty).run P w = .ok (.tuple #[.bool false]) w) ∨
    ∃ k v l1 l2 w', todo = l1 ++ (k, v) :: l2 ∧ (k, v) ∈ L ∧ (Instr.next (.pointer (some ⟨r, 0, none⟩)) false ty).run P w = .ok (.tuple #[.bool true, k, v]) w' ∧
      Rng P kt w' b r L (l1 ++ l2) ∧ w.grownBy w' (some r) ∧ w'.heap.size = w.heap.size ∧ (Instr.entry (.pointer (some ⟨r, 0, none⟩))).run P w' = .ok (.tuple #[k, v]) w' := by
  obtain ⟨es, clock, seen, h1, h2, h3, h4, h5, h6⟩ := h
  rcases run_next_at (P := P) w ty r b clock clock seen es clock h5 h1 h2.1 (Nat.le_refl _) with ⟨h0, hr⟩ | ⟨e, he, w1, hw1, hr⟩
  · refine .inl ⟨?_, hr⟩
    rw [← h6]
    have : leftOf es seen = #[] := Array.eq_empty_of_size_eq_zero h0
    simp [this]
  · right
    have hrb : r ≠ b := fun e => by rw [e, h1] at h5; cases h5
    have hh1 : w1.heap = w.heap := by rcases hw1 with rfl | rfl <;> rfl
    have hr1 : w1.heap[r]? = some (.mapIter (some b) clock seen clock) := by rw [hh1]; exact h5
    have hb' : (setBlock w1 r (.mapIter (some b) clock (seen.push e.born) clock)).heap[b]? = some (.map es clock) := by
      rw [put_other _ (Ne.symm hrb), hh1]; exact h1
    have hr' := put_same hr1 (.mapIter (some b) clock (seen.push e.born) clock)
    have hmem : e ∈ es.toList := by
      simp [leftOf] at he
      simpa using he.1
    obtain ⟨l1, l2, hl⟩ := List.append_of_mem he
    have hnd : ((leftOf es seen).toList.map (·.born)).Nodup := by
      have := h2.2.1
      refine List.Nodup.sublist ?_ this
      exact List.Sublist.map _ (by simp [leftOf])
    have hnew : (leftOf es (seen.push e.born)).toList = l1 ++ l2 := by
      have e1 : (leftOf es (seen.push e.born)).toList = (leftOf es seen).toList.filter (fun x => !(x.born == e.born)) := by
        simp only [leftOf, Array.toList_filter, List.filter_filter]
        apply List.filter_congr
        intro x _
        have e2 : (x.born == e.born) = decide (x.born = e.born) := rfl
        simp [Bool.and_comm, e2]
      rw [e1, hl]
      rw [hl] at hnd
      simp only [List.map_append, List.map_cons] at hnd
      have hn1 : ∀ x ∈ l1, x.born ≠ e.born := fun x hx => by
        have := (List.nodup_append.1 hnd).2.2
        exact this _ (List.mem_map.2 ⟨x, hx, rfl⟩) _ (by simp)
      have hn2 : ∀ x ∈ l2, x.born ≠ e.born := fun x hx => by
        have := ((List.nodup_cons.1 (List.nodup_append.1 hnd).2.1).1)
        exact fun hb => this (List.mem_map.2 ⟨x, hx, hb⟩)
      rw [List.filter_append, List.filter_cons]
      rw [List.filter_eq_self.2 (fun x hx => by simpa using hn1 x hx), List.filter_eq_self.2 (fun x hx => by simpa using hn2 x hx)]
      simp
    refine ⟨e.key, e.val, l1.map (fun e => (e.key, e.val)), l2.map (fun e => (e.key, e.val)), _, ?_, ?_, hr, ⟨es, clock, seen.push e.born, hb', h2, h3, h4, hr', ?_⟩, ?_, ?_, ?_⟩
    · rw [← h6, hl]; simp
    · rw [← h3]; exact List.mem_map.2 ⟨e, hmem, rfl⟩
    · rw [hnew]; simp
    · refine ⟨?_, ?_, ?_, ?_, fun i hi hne => ?_⟩
      · rcases hw1 with rfl | rfl <;> rfl
      · rcases hw1 with rfl | rfl <;> rfl
      · rcases hw1 with rfl | rfl <;> rfl
      · simp [setBlock, hh1]
      · rw [put_other _ (fun e => hne (by rw [e])), hh1]
    · simp [setBlock, hh1]
    · exact run_entry_at _ r b clock seen es clock e hr' hb' hmem h2.2.1
end Go.Proofs.Ytjkhclijmcmdjaa
namespace Go.Proofs.Ytjkhclijmcmdjaa
open Go.RowKit
section
variable {P : Program} {ops : Array Oper} {md : Region.Mode} {C : World → Prop}
def wpAnyLQ (P : Program) (md : Region.Mode) (ops : Array Oper) (C : World → Prop) (n : Nat) (L : Array Bool → Act → Prop) : Nat → Array Bool → Act → Prop
  | 0, listed, a => L listed a
  | f + 1, listed, a =>
    Region.ready md ops listed ≠ [] ∧ ∀ i ∈ Region.ready md ops listed, i < n ∧ qOp P ops C i (wpAnyLQ P md ops C n L f (listed.setIfInBounds i true)) a
theorem wpAny_of_headQ {n g : Nat} {L : Array Bool → Act → Prop} {Q' : Exit → Act → World → Prop} (hL : ∀ listed a w, C w → L listed a → wpAny P md ops Q' g listed a w) :
    ∀ (f : Nat) (listed : Array Bool) (a : Act) (w : World), C w → wpAnyLQ P md ops C n L f listed a → wpAny P md ops Q' (f + g) listed a w
  | 0, listed, a, w, hw, h => by rw [Nat.zero_add]; exact hL _ _ _ hw h
  | f + 1, listed, a, w, hw, h => by
    rw [show f + 1 + g = (f + g) + 1 by omega]
    exact ⟨fun h0 => absurd h0 h.1, fun i hi => wpOp_of_qOp hw (fun a' w' hw' h' => wpAny_of_headQ hL f _ a' w' hw' h') (h.2 i hi).2⟩
theorem wpAnyLQ_first {n i : Nat} {oi : Oper} {v : Value} {L : Array Bool → Act → Prop} (hi : ops[i]? = some oi) (hsel : ∀ (j : Nat) (o : Oper) cs b, ops[j]? = some o → o.op ≠ .select cs b)
    (hs : Region.sinkB md ops n = true) (hc : Region.chainB md ops n = true) (hn : n < ops.size) (hin : i < n)
    (hdone : ∀ listed a, L listed a → ∀ j ∈ Region.ready md ops listed, n ≤ j) :
    ∀ (f : Nat) (listed : Array Bool) (a : Act), HeadInv md ops n listed →
      (∀ j oj, ops[j]? = some oj → j ≠ i → listed.getD j true = false → (∀ e ∈ oj.after, Region.binds md e = true → e.on ≠ i) → oi.apart ops oj = true) →
      i ∈ Region.ready md ops listed → YieldsIn P ops C oi v a →
      wpAnyLQ P md ops C n L f (listed.setIfInBounds i true) (a.put oi.dst v) → wpAnyLQ P md ops C n L (f + 1) listed a := by
  intro f
  induction f with
  | zero =>
    intro listed a inv _ hr hy H
    have hun := (mem_ready.1 hr).1
    refine ⟨fun h => (by rw [h] at hr; cases hr), fun j hj => ?_⟩
    have hjn : j < n := by
      rcases Nat.lt_or_ge j n with h | h
      · exact h
      · exact absurd hj (tail_waits hs hc hn inv _ i rfl hin hun j h)
    refine ⟨hjn, ?_⟩
    by_cases hji : j = i
    · subst hji; exact hy.qOp hi H
    · have := hdone _ _ H j (ready_mono hj hji)
      omega
  | succ f ih =>
    intro listed a inv hfree hr hy H
    have hun := (mem_ready.1 hr).1
    refine ⟨fun h => (by rw [h] at hr; cases hr), fun j hj => ?_⟩
    have hjn : j < n := by
      rcases Nat.lt_or_ge j n with h | h
      · exact h
      · exact absurd hj (tail_waits hs hc hn inv _ i rfl hin hun j h)
    refine ⟨hjn, ?_⟩
    by_cases hji : j = i
    · subst hji; exact hy.qOp hi H
    · have h1 := (H.2 j (ready_mono hj hji)).2
      obtain ⟨hjun, oj, hoj, hall⟩ := mem_ready.1 hj
      have hnot : ∀ e ∈ oj.after, Region.binds md e = true → e.on ≠ i := fun e he hb heq => by
        have h1 := hall e he hb
        rw [heq, getD_both hun] at h1
        cases h1
      have h2 := qOp_put hoj (hfree j oj hoj hji hjun hnot) (fun cs b => hsel i oi cs b hi) (fun cs b => hsel j oj cs b hoj) hy h1
      have hfree' : ∀ k ok, ops[k]? = some ok → k ≠ i → (listed.setIfInBounds j true).getD k true = false →
          (∀ e ∈ ok.after, Region.binds md e = true → e.on ≠ i) → oi.apart ops ok = true := fun k ok hk hki hun hno => by
        refine hfree k ok hk hki ?_ hno
        by_cases hjk : j = k
        · subst hjk; exact hjun
        · rw [getD_set_ne true hjk] at hun; exact hun
      refine qOp_mono (fun a' h3 => ih (listed.setIfInBounds j true) a' (inv.set hj hjn) hfree' (ready_mono hr (Ne.symm hji)) h3.1 ?_) h2
      rw [Array.setIfInBounds_comm _ _ hji]
      exact h3.2
theorem wpAnyLQ_lex {n g : Nat} {Lq : Act → Prop} (hsel : Region.noSelect ops = true) (hs : Region.sinkB md ops n = true) (hc : Region.chainB md ops n = true) (hn : n < ops.size) :
    ∀ (l : List Oper) (k : Nat) (listed : Array Bool) (a : Act), (∀ j, j < l.length → l[j]? = ops[k + j]?) → k + l.length = n → HeadInv md ops n listed →
    Region.lexHead md ops g l.length k listed = true → wpQuiet P ops C Lq l a →
    wpAnyLQ P md ops C n (fun listed' a' => Region.seqB md ops g n listed' = true ∧ Lq a') l.length listed a
  | [], k, listed, a, _, hk, _, hB, h => by
    have : k = n := by simpa using hk
    subst this
    exact ⟨by simpa [Region.lexHead] using hB, h⟩
  | o :: l, k, listed, a, hl, hk, inv, hB, h => by
    have h0 : ops[k]? = some o := by simpa using (hl 0 (by simp)).symm
    simp only [List.length_cons, Region.lexHead, Bool.and_eq_true] at hB
    obtain ⟨⟨hr, hf⟩, hB'⟩ := hB
    have hkn : k < n := by simp only [List.length_cons] at hk; omega
    have hr' : k ∈ Region.ready md ops listed := by simpa using hr
    have hst : qOp P ops C k (wpQuiet P ops C Lq l) a := by unfold qOp; simp only [h0]; exact h
    obtain ⟨v, hy, hK⟩ := yieldsIn_of_qOp h0 hst
    exact wpAnyLQ_first h0 (Region.noSelect_spec hsel) hs hc hn hkn (fun listed' a' hL => seqB_ready hL.1) l.length listed a inv (Region.free_spec h0 hf) hr' hy
      (wpAnyLQ_lex hsel hs hc hn l (k + 1) _ _ (fun j hj => by have := hl (j + 1) (by simp; omega); simpa [Nat.add_assoc, Nat.add_comm 1 j] using this) (by simp only [List.length_cons] at hk; omega) (inv.set hr' hkn) hB' hK)
/-- A region that draws: its first n operations quiet in the class C, walked in the order of the text; the others, forced, from whatever world of the class. -/
theorem wp_region_quiet_tail {id : Nat} {Q : Exit → Act → World → Prop} {a : Act} {w : World} {l : List Oper} (C : World → Prop) (n : Nat) (hm : P.follows .mixedOrders = true) (hB : Region.lexTailB .any l.toArray n = true) (hC : C w.drew)
    (h : wpQuiet P l.toArray C (fun a' => ∀ w', C w' → wpList P l.toArray Q (l.drop n) a' w') (l.take n) a) : (Code.region id l.toArray true).wp P Q a w := by
  simp only [Region.lexTailB, Bool.and_eq_true, decide_eq_true_eq] at hB
  obtain ⟨⟨⟨⟨hsel, hn⟩, hs⟩, hc⟩, hlex⟩ := hB
  have hn' : n < l.length := by simpa using hn
  have htl : (l.take n).length = n := by simp; omega
  have hdl : (l.drop n).length = l.toArray.size - n := by simp
  have inv0 : HeadInv .any l.toArray n (Array.replicate l.toArray.size false) :=
    ⟨by simp, fun j oj _ hl => (by rw [getD_replicate_false] at hl; cases hl), fun t _ ht => getD_in (by simpa using ht) (getD_replicate_false _ _)⟩
  have H := wpAnyLQ_lex (C := C) (md := .any) (g := l.toArray.size - n) hsel hs hc hn (l.take n) 0 _ a (fun j hj => by
    have hj' : j < n := by rw [htl] at hj; exact hj
    simp [hj']) (by simpa using htl) inv0 (by rw [htl]; exact hlex) h
  refine wp_region_any hm ?_
  have := wpAny_of_headQ (Q' := Q) (g := l.toArray.size - n) (fun listed a' w' hw' hL => by
    have := wpAny_of_seq (md := .any) (Q' := Q) (l.drop n) n listed a' w' (fun j => by simp [List.getElem?_drop]) (by rw [hdl]; exact hL.1) (hL.2 w' hw')
    rwa [hdl] at this) _ _ _ w.drew hC H
  rw [htl, show n + (l.toArray.size - n) = l.toArray.size by omega] at this
  exact this
/-- The same where all are quiet. -/
theorem wp_region_quiet_all {id : Nat} {Q : Exit → Act → World → Prop} {a : Act} {w : World} {l : List Oper} (C : World → Prop) (hm : P.follows .mixedOrders = true) (hB : Region.lexB .any l.toArray = true) (hC : C w.drew)
    (h : wpQuiet P l.toArray C (fun a' => ∀ w', C w' → Q .normal a' w') l a) : (Code.region id l.toArray true).wp P Q a w :=
  wp_region_quiet (C := C) hm hB hC (by simpa using h)
end
/-- A world in which all that lay in w below B lies as it lay. -/
structure Aft (B : Nat) (w : World) where
  v : World
  h : Below B w v
instance (B : Nat) (w : World) : Nonempty (Aft B w) := ⟨⟨w, Below.refl B w⟩⟩
/-- A region that draws: whatever its operations lay anew, they leave alone what was there; each gives one value in all such worlds. -/
theorem wp_region_aft {P : Program} {id : Nat} {Q : Exit → Act → World → Prop} {a : Act} {w : World} {l : List Oper} (hm : P.follows .mixedOrders = true) (hB : Region.lexB .any l.toArray = true)
    (h : wpQuiet P l.toArray (fun w' => ∃ x : Aft w.heap.size w, w' = x.v) (fun a' => ∀ w', (∃ x : Aft w.heap.size w, w' = x.v) → Q .normal a' w') l a) : (Code.region id l.toArray true).wp P Q a w :=
  wp_region_quiet_all _ hm hB ⟨⟨w.drew, (Below.refl _ w).drew⟩, rfl⟩ h
theorem wp_region_aft_tail {P : Program} {id : Nat} {Q : Exit → Act → World → Prop} {a : Act} {w : World} {l : List Oper} (n : Nat) (hm : P.follows .mixedOrders = true) (hB : Region.lexTailB .any l.toArray n = true)
    (h : wpQuiet P l.toArray (fun w' => ∃ x : Aft w.heap.size w, w' = x.v) (fun a' => ∀ w', (∃ x : Aft w.heap.size w, w' = x.v) → wpList P l.toArray Q (l.drop n) a' w') (l.take n) a) : (Code.region id l.toArray true).wp P Q a w :=
  wp_region_quiet_tail _ n hm hB ⟨⟨w.drew, (Below.refl _ w).drew⟩, rfl⟩ h
/-- A contract, met in such a world. -/
theorem calls_aft {P : Program} {f : FuncId} {args : Array Value} {w : World} {v : Value} {x : Aft w.heap.size w}
    (h : Calls P f args x.v fun e w' => e = .returned v ∧ Below x.v.heap.size x.v w') : Calls P f args x.v fun e w'' => e = .returned v ∧ ∃ y : Aft w.heap.size w, w'' = y.v :=
  h.mono fun _ w' ⟨he, hb⟩ => ⟨he, ⟨w', x.h.trans (hb.mono x.h.size)⟩, rfl⟩
theorem calls_aft_same {P : Program} {f : FuncId} {args : Array Value} {w : World} {v : Value} {x : Aft w.heap.size w}
    (h : Calls P f args x.v fun e w' => e = .returned v ∧ x.v = w') : Calls P f args x.v fun e w'' => e = .returned v ∧ ∃ y : Aft w.heap.size w, w'' = y.v :=
  h.mono fun _ _ ⟨he, hb⟩ => ⟨he, x, hb.symm⟩
section
variable {P : Program} {ops : Array Oper} {md : Region.Mode} {C : World → Prop} {r : Option Nat}
/-- No bound on depth, every function let in. -/
abbrev wideAt (r : Option Nat) : Fence := { Fence.wide with round := r }
theorem wideAt_calls {n : Nat} {f : FuncId} {args : Array Value} {w : World} {R : Ending → World → Prop} (h : Calls P f args w R) : CallsIn (wideAt r) n P f args w R :=
  (callsIn_wide (n := n)).2 h
end
/-- All blocks of A but those of M lie in B as they lay. -/
structure Same (M : Nat → Prop) (A B : World) : Prop where
  os : B.os = A.os
  tape : B.tape = A.tape
  output : B.output = A.output
  size : A.heap.size ≤ B.heap.size
  block : ∀ k, k < A.heap.size → ¬ M k → B.heap[k]? = A.heap[k]?
theorem Same.refl (M : Nat → Prop) (A : World) : Same M A A := ⟨rfl, rfl, rfl, Nat.le_refl _, fun _ _ _ => rfl⟩
theorem Same.trans {M : Nat → Prop} {A B C : World} (h : Same M A B) (k : Same M B C) : Same M A C :=
  ⟨k.os.trans h.os, k.tape.trans h.tape, k.output.trans h.output, Nat.le_trans h.size k.size, fun i hi hm => (k.block i (Nat.lt_of_lt_of_le hi h.size) hm).trans (h.block i hi hm)⟩
theorem Same.mono {M M' : Nat → Prop} {A B : World} (h : Same M A B) (hm : ∀ k, k < A.heap.size → M k → M' k) : Same M' A B :=
  ⟨h.os, h.tape, h.output, h.size, fun i hi hn => h.block i hi (fun e => hn (hm i hi e))⟩
theorem Same.drew {M : Nat → Prop} {A B : World} (h : Same M A B) : Same M A B.drew := ⟨h.os, h.tape, h.output, h.size, h.block⟩
theorem Same.alloc {M : Nat → Prop} {A B : World} (h : Same M A B) (o : Obj) : Same M A (B.alloc o) :=
  h.trans ⟨rfl, rfl, rfl, by simp, fun k hk _ => Below.heap_alloc _ _ _ hk⟩
theorem Same.setCell {M : Nat → Prop} {A B : World} (h : Same M A B) {p : Addr} (hp : M p.block ∨ A.heap.size ≤ p.block) (v : Value) : Same M A (B.setCell p v) :=
  ⟨h.os, h.tape, h.output, by simpa using h.size, fun k hk hm => (Below.heap_setCell _ _ _ _ (by rcases hp with hp | hp; (exact fun e => hm (e ▸ hp)); omega)).trans (h.block k hk hm)⟩
theorem Same.grown {M : Nat → Prop} {A B C : World} {row : Option Nat} (h : Same M A B) (hg : B.grownBy C row) (hr : ∀ k, row = some k → M k ∨ A.heap.size ≤ k) : Same M A C :=
  ⟨hg.os.trans h.os, hg.tape.trans h.tape, hg.output.trans h.output, Nat.le_trans h.size hg.size, fun k hk hm => (hg.block k (Nat.lt_of_lt_of_le hk h.size) (fun e => by
    rcases hr k e.symm with h' | h'
    · exact hm h'
    · omega)).trans (h.block k hk hm)⟩
theorem Same.of_below {A B : World} (M : Nat → Prop) (h : Below A.heap.size A B) : Same M A B := ⟨h.os, h.tape, h.output, h.size, fun k hk _ => h.block k hk⟩
theorem Same.below {M : Nat → Prop} {A B : World} {n : Nat} (h : Same M A B) (hn : n ≤ A.heap.size) (hm : ∀ k, k < n → ¬ M k) : Below n A B := ⟨h.os, h.tape, h.output, h.size, fun k hk => h.block k (by omega) (hm k hk)⟩
theorem Same.cell {M : Nat → Prop} {A B : World} (h : Same M A B) {b o : Nat} {v : Value} (hc : A.cell? ⟨b, o, none⟩ = some v) (hm : ¬ M b) : B.cell? ⟨b, o, none⟩ = some v :=
  (World.cell?_of_block (w := A) (h.block b (lt_of_cell hc) hm)).trans hc
theorem Same.frozen {M : Nat → Prop} {A B : World} (h : Same M A B) {b o : Nat} (hb : b < A.heap.size) (hm : ¬ M b) : B.frozen? ⟨b, o, none⟩ = A.frozen? ⟨b, o, none⟩ :=
  World.frozen?_of_block (w := A) (h.block b hb hm)
theorem Same.putObj {M : Nat → Prop} {A B : World} (h : Same M A B) {l : Nat} (hl : M l ∨ A.heap.size ≤ l) (o : Obj) : Same M A (B.putObj l o) :=
  h.grown (grownBy_putObj' B l o) (fun k e => by cases e; exact hl)
section
variable {P : Program}
/-- The marks that ranges over functions have left: each block is open still. -/
def MarksAt (n : Nat) (ds : List Deferred) (w : World) : Prop :=
  ∃ ks : List Nat, ds = ks.map (fun k => { target := .collected k, args := #[] }) ∧ ks.Nodup ∧ ∀ k ∈ ks, n ≤ k ∧ w.heap[k]? = some (.deferred (some []))
theorem MarksAt.nil (n : Nat) (w : World) : MarksAt n [] w := ⟨[], rfl, by simp, by simp⟩
theorem MarksAt.cons {n : Nat} {ds : List Deferred} {w w' : World} {D : Nat} (h : MarksAt n ds w) (hD : w.heap.size ≤ D) (hn : n ≤ D) (hk : w'.heap[D]? = some (.deferred (some [])))
    (hs : ∀ k, k < w.heap.size → w.heap[k]? = some (.deferred (some [])) → w'.heap[k]? = some (.deferred (some []))) : MarksAt n ({ target := .collected D, args := #[] } :: ds) w' := by
  obtain ⟨ks, rfl, hnd, hall⟩ := h
  refine ⟨D :: ks, rfl, List.nodup_cons.2 ⟨fun hm => ?_, hnd⟩, fun k hk' => ?_⟩
  · have := (Array.getElem?_eq_some_iff.1 (hall D hm).2).1
    omega
  · rcases List.mem_cons.1 hk' with rfl | hk'
    · exact ⟨hn, hk⟩
    · have := hall k hk'
      exact ⟨this.1, hs k (Array.getElem?_eq_some_iff.1 this.2).1 this.2⟩
theorem MarksAt.mono {n : Nat} {ds : List Deferred} {w w' : World} (h : MarksAt n ds w) (hs : ∀ k, k < w.heap.size → w.heap[k]? = some (.deferred (some [])) → w'.heap[k]? = some (.deferred (some []))) : MarksAt n ds w' := by
  obtain ⟨ks, rfl, hnd, hall⟩ := h
  exact ⟨ks, rfl, hnd, fun k hk => ⟨(hall k hk).1, hs k (Array.getElem?_eq_some_iff.1 (hall k hk).2).1 (hall k hk).2⟩⟩
theorem leaves_marks {fn : Func} {tmps : Array Value} {R : Ending → World → Prop} {v : Value} {n : Nat} : ∀ (ks : List Nat) (w : World), ks.Nodup → (∀ k ∈ ks, n ≤ k ∧ w.heap[k]? = some (.deferred (some []))) →
    (∀ W', Same (fun k => n ≤ k ∧ w.heap[k]? = some (.deferred (some []))) w W' → W'.heap.size = w.heap.size → (results fn tmps).run P W' = .ok v W' ∧ R (.returned v) W') →
    LeavesInM Fence.wide 0 P fn tmps R (ks.map (fun k => { target := .collected k, args := #[] })) .returning w
  | [], w, _, _, h => by
    have := h w (Same.refl _ _) rfl
    exact ⟨v, this.1, this.2⟩
  | k :: ks, w, hnd, hall, h => by
    have hk := hall k (by simp)
    refine ⟨by simp, .inl ⟨k, _, rfl, run_takeDeferred hk.2, ?_⟩⟩
    have hnd' := List.nodup_cons.1 hnd
    refine leaves_marks (n := n) ks _ hnd'.2 (fun j hj => ⟨(hall j (by simp [hj])).1, (World.putObj_heap_other (fun e : j = k => hnd'.1 (by rw [← e]; exact hj))).trans (hall j (by simp [hj])).2⟩) (fun W' hs hsz => h W' ?_ (by simpa using hsz))
    have h1 : Same (fun k => n ≤ k ∧ w.heap[k]? = some (.deferred (some []))) w (w.putObj k (.deferred none)) := (Same.refl _ w).putObj (.inl hk) _
    refine h1.trans (hs.mono (fun j _ hj => ⟨hj.1, ?_⟩))
    by_cases e : j = k
    · subst e; exact hk.2
    · exact (World.putObj_heap_other e).symm.trans hj.2
/-- A function's contract from its body, where ranges over functions have left marks. -/
theorem calls_of_wp_marks {f : FuncId} {fn : Func} {c : Code} {args : Array Value} {w : World} {R : Ending → World → Prop}
    (hf : P.funcs[f]? = some fn) (hb : fn.body = some c)
    (h : c.wp P (bodyPostM Fence.wide 0 P fn R) { tmps := args ++ Array.replicate (fn.ntmps - args.size) undef, defers := [] } w) : Calls P f args w R :=
  callsIn_wide.1 (callsIn_of_wp_marks hf hb trivial (wpIn_wide.2 h))
end
end Go.Proofs.Ytjkhclijmcmdjaa
namespace Go.Proofs.Ytjkhclijmcmdjaa
open Go.RowKit
section
variable {P : Program}
/-- What a round may write: of the blocks that are the consumer's those that are new, and those of M. -/
def mayC (M : Nat → Prop) (B : Nat) (C : Nat → Prop) (k : Nat) : Prop := C k ∧ (k < B → M k)
end
end Go.Proofs.Ytjkhclijmcmdjaa
namespace Go.Proofs.Ytjkhclijmcmdjaa
open Go.RowKit
section
variable {P : Program}
abbrev markOf (k : Nat) : Deferred := { target := .collected k, args := #[] }
/-- Marks first, each shut; then what 'Leaves' says. -/
def LeavesX (P : Program) (fn : Func) (tmps : Array Value) (R : Ending → World → Prop) (ds : List Deferred) (u : FrameMode) : List Nat → World → Prop
  | [], w => Leaves P fn tmps R ds u w
  | k :: ks, w => u ≠ .run ∧ ∃ w', (Instr.takeDeferred k).run P w = .ok [] w' ∧ LeavesX P fn tmps R ds u ks w'
theorem leavesX_steps {fn : Func} {tmps : Array Value} {R : Ending → World → Prop} {ds : List Deferred} {u : FrameMode} : ∀ (ks : List Nat) (w : World) (fr : Frame) (cs : List Frame),
    fr.mode = u → fr.defers = ks.map markOf ++ ds → fr.tmps = tmps → P.funcs[fr.fn]? = some fn → fr.kind = .normal → LeavesX P fn tmps R ds u ks w →
    ∃ e w' fr', R e w' ∧ Comes P (lone fr cs w) (lone fr' cs w') e ∧ fr'.fn = fr.fn ∧ fr'.leaving P w' e
  | [], w, fr, cs, hu, hd, ht, hf, hk, h => leaves_steps ds u w fr cs hu (by simpa using hd) ht hf hk h
  | k :: ks, w, fr, cs, hu, hd, ht, hf, hk, h => by
    obtain ⟨hrun, w', htake, hrest⟩ := h
    have h1 := step_collected (cs := cs) (fr := fr) (hu ▸ hrun) (d := markOf k) (ds := ks.map markOf ++ ds) (by simpa using hd) rfl htake
    obtain ⟨e', w'', fr', hR', hs', hfn', hl'⟩ := leavesX_steps ks w' { fr with defers := [] ++ (ks.map markOf ++ ds) } cs hu rfl ht hf hk hrest
    exact ⟨e', w'', fr', hR', Comes.of_steps (.one h1) hs', hfn', hl'⟩
/-- How such a body ends. -/
def bodyPostX (P : Program) (fn : Func) (R : Ending → World → Prop) : Exit → Act → World → Prop
  | .normal, a, w | .ret, a, w => ∃ ks ds, a.defers = ks.map markOf ++ ds ∧ LeavesX P fn a.tmps R ds .returning ks w
  | .panic chain, a, w => ∃ ks ds, a.defers = ks.map markOf ++ ds ∧ LeavesX P fn a.tmps R ds (.panicking chain) ks w
  | .outgrown, _, w => R .outgrown w
  | _, _, _ => False
theorem calls_of_wp_x {f : FuncId} {fn : Func} {c : Code} {args : Array Value} {w : World} {R : Ending → World → Prop} (hf : P.funcs[f]? = some fn) (hb : fn.body = some c)
    (h : c.wp P (bodyPostX P fn R) { tmps := args ++ Array.replicate (fn.ntmps - args.size) undef, defers := [] } w) : Calls P f args w R := by
  intro cs
  let b : Frame := { (default : Frame) with fn := f, kind := .normal }
  have henter : Frame.enter P f args .normal = b.at { tmps := args ++ Array.replicate (fn.ntmps - args.size) undef, defers := [] } [.code c] := by
    simp [Frame.enter, Frame.at, hf, hb, b]
  obtain ⟨e, a', w', hq, harr⟩ := h b [] cs
  rw [← henter] at harr
  cases e with
  | normal =>
    obtain ⟨ks, ds, hd, hl⟩ := hq
    obtain ⟨e', w'', fr', hR, hs, hfn, hl⟩ := leavesX_steps ks w' { b.at a' [] with mode := .returning } cs rfl hd rfl hf rfl hl
    exact ⟨e', w'', fr', hR, Comes.of_steps (Steps.trans harr (.one step_end)) hs, hfn, hl⟩
  | ret =>
    obtain ⟨ks, ds, hd, hl⟩ := hq
    obtain ⟨todo, hs₀⟩ := harr
    obtain ⟨e', w'', fr', hR, hs, hfn, hl⟩ := leavesX_steps ks w' { b.at a' todo with mode := .returning } cs rfl hd rfl hf rfl hl
    exact ⟨e', w'', fr', hR, Comes.of_steps hs₀ hs, hfn, hl⟩
  | panic chain =>
    obtain ⟨ks, ds, hd, hl⟩ := hq
    obtain ⟨todo, hs₀⟩ := harr
    obtain ⟨e', w'', fr', hR, hs, hfn, hl⟩ := leavesX_steps ks w' { b.at a' todo with mode := .panicking chain } cs rfl hd rfl hf rfl hl
    exact ⟨e', w'', fr', hR, Comes.of_steps hs₀ hs, hfn, hl⟩
  | exit id => exact hq.elim
  | goto l => exact hq.elim
  | outgrown =>
    exact ⟨.outgrown, w', b, hq, harr.resolve_left (by simp [b]), rfl, trivial⟩
end
end Go.Proofs.Ytjkhclijmcmdjaa
namespace Go.Proofs.Ytjkhclijmcmdjaa
open Go.RowKit
theorem wpList_append_run {P : Program} {w : World} {ops : Array Oper} {rest : List Oper} {o : Oper} {a : Act} {Q : Exit → Act → World → Prop} (hgd : o.guard = none) (s x : Operand) (t : TypeId)
    (ho : o.op = .call { callee := .builtin .append, args := #[s, x], argTypes := #[t, t] }) (v xv v' : Value) (w' : World) (hs : a.eval s = v) (hx : a.eval x = xv)
    (hr : (Builtin.append_ #[t, t] o.type #[v, xv]).run P w = .ok v' w') (h : wpList P ops Q rest (a.put o.dst v') w') : wpList P ops Q (o :: rest) a w := by
  refine wpList_plain hgd fun K hK => ?_
  unfold Oper.wp execOp
  simp only [ho, resolve, invoke, builtin, Sem.run_bind, Sem.run_pure, Result.andThen_ok, List.map_toArray, List.map_cons, List.map_nil, hs, hx, hr]
  exact hK _ _ h
theorem append_none {P : Program} {w : World} (base : Nat) (t ty e : TypeId) (i : TypeInfo) (size c : Nat) (ht : P.underlying t = some (.slice e)) (hi : P.info? e = some i)
    (v : Value) (n : Nat) (xs : List Value) (hown : w.ownsRow base e size v n xs) :
    (Builtin.append_ #[t, t] ty #[v, .slice none 0 c]).run P w = .ok v w := by
  rcases hown.2 with ⟨rfl, rfl⟩ | ⟨g, cap, cur, rfl, _, _, hnc, _⟩
  · simp [Builtin.append_, run_underlying ht, sizeOf, typeInfo, hi, Builtin.lenOf, Builtin.firstCells]
  · simp [Builtin.append_, run_underlying ht, sizeOf, typeInfo, hi, Builtin.lenOf, Builtin.firstCells, hnc, storeCells]
/-- append(own, whatever...). -/
theorem append_rows {P : Program} {w : World} (base : Nat) (t ty e : TypeId) (i : TypeInfo) (z : Value) (size bytes : Nat) (ht : P.underlying t = some (.slice e)) (hi : P.info? e = some i) (hz : i.zero = some z)
    (hsize : i.size = size) (hby : i.bytes = bytes) (hzs : z.cells.size = size) (hsz : 0 < size)
    (v : Value) (n : Nat) (xs : List Value) (hown : w.ownsRow base e size v n xs)
    (a : Option Addr) (m c : Nat) (news : List Value) (hl : news.length = m * size) (hnews : m ≠ 0 → ∃ ad, a = some ad ∧ ∀ j u, news[j]? = some u → w.cell? (ad.add j) = some u) (h1 : ∀ u ∈ news, u.oneCell' = true)
    (h63 : n + m ≤ maxLen) (hbytes : (n + m) * bytes ≤ 140737488355328) (hbase : base ≤ w.heap.size) :
    ∃ v' w', (Builtin.append_ #[t, t] ty #[v, .slice a m c]).run P w = .ok v' w' ∧ w'.ownsRow base e size v' (n + m) (xs ++ news) ∧ w.grownBy w' v.ownBlock := by
  cases a with
  | none =>
    by_cases hm : m = 0
    · subst hm
      have hn : news = [] := List.eq_nil_of_length_eq_zero (by simpa using hl)
      subst hn
      refine ⟨v, w, append_none base t ty e i size c ht hi v n xs hown, by simpa using hown, ⟨rfl, rfl, rfl, Nat.le_refl _, fun _ _ _ => rfl⟩⟩
    · obtain ⟨ad, h, _⟩ := hnews hm
      cases h
  | some ad =>
    have hn' : ∀ j u, news[j]? = some u → w.cell? (ad.add j) = some u := by
      by_cases hm : m = 0
      · subst hm
        have hn : news = [] := List.eq_nil_of_length_eq_zero (by simpa using hl)
        subst hn
        intro j u h; simp at h
      · obtain ⟨ad', h, h2⟩ := hnews hm
        cases h
        exact h2
    obtain ⟨v', w', h2, h3, h4, _⟩ := run_append_own (P := P) (w := w) base t ty e i z size bytes ht hi hz hsize hby hzs hsz v n xs hown ad m c news hl hn' h1 h63 hbytes hbase
    exact ⟨v', w', h2, h3, h4⟩
/-- What a slice of the call's own holds, cell by cell. -/
theorem own_cell {w : World} {base : Nat} {e : TypeId} {size : Nat} {v : Value} {n : Nat} {xs : List Value} (h : w.ownsRow base e size v n xs) (hn : 0 < n) :
    ∃ g cap, v = .slice (some ⟨g, 0, none⟩) n cap ∧ base ≤ g ∧ g < w.heap.size ∧ n ≤ cap ∧ cap ≤ maxLen ∧ ∀ j u, xs[j]? = some u → w.cell? ⟨g, j, none⟩ = some u := by
  rcases h.2 with ⟨_, h0⟩ | ⟨g, cap, cur, rfl, h1, h2, h3, h4, _⟩
  · omega
  · refine ⟨g, cap, rfl, h1, (Array.getElem?_eq_some_iff.1 h2).1, h3, h4, fun j u hj => ?_⟩
    have := h.cells (g := g) rfl j u hj
    have e : ((⟨g, 0, none⟩ : Addr).add j) = ⟨g, j, none⟩ := by unfold Addr.add; split <;> simp_all
    rwa [e] at this
/-- A slice of the call's own, whatever it is, is a slice. -/
theorem own_slice {w : World} {base : Nat} {e : TypeId} {size : Nat} {v : Value} {n : Nat} {xs : List Value} (h : w.ownsRow base e size v n xs) : ∃ a cap, v = .slice a n cap ∧ n ≤ cap ∧ cap ≤ maxLen := by
  rcases h.2 with ⟨rfl, rfl⟩ | ⟨g, cap, cur, rfl, h1, h2, h3, h4, _⟩
  · exact ⟨_, _, rfl, by simp, by simp [maxLen]⟩
  · exact ⟨_, _, rfl, h3, h4⟩
theorem grown_below {w w' : World} {v : Value} {base : Nat} {e : TypeId} {size n : Nat} {xs : List Value} {W : World} (hb : Below base W w) (h : w.ownsRow base e size v n xs) (hg : w.grownBy w' v.ownBlock) (hs : base ≤ w.heap.size) : Below base W w' := by
  refine hb.grown hg hs (fun k hk => ?_)
  exact (h.lt k hk).1
theorem own_below {w w' : World} {v : Value} {base : Nat} {e : TypeId} {size n : Nat} {xs : List Value} (h : w.ownsRow base e size v n xs) (hb : Below w.heap.size w w') : w'.ownsRow base e size v n xs := by
  have hg : w.grownBy w' none := ⟨hb.os, hb.tape, hb.output, hb.size, fun k hk _ => hb.block k hk⟩
  refine h.kept hg ?_
  cases v.ownBlock with
  | none => exact .inl rfl
  | some k => exact .inr (by simp)
end Go.Proofs.Ytjkhclijmcmdjaa
namespace Go.Proofs.Ytjkhclijmcmdjaa
open Go.RowKit
/-- One thing more done. -/
def upd (d : Nat → Bool) (k : Nat) : Nat → Bool := fun j => if j = k then true else d j
/-- Each operation keeps the invariant, whatever of the others has been done that need not wait for it. -/
def InvSteps (P : Program) (Q : Exit → Act → World → Prop) (Inv : (Nat → Bool) → Act → World → Prop) : Nat → List Oper → Prop
  | _, [] => True
  | k, o :: r => (∀ d a w K, d k = false → (∀ e ∈ o.after, Region.binds .any e = true → d e.on = true) → Inv d a w → Hid (∀ a' w', Inv (upd d k) a' w' → K a' w') → o.wp P a w K Q) ∧ InvSteps P Q Inv (k + 1) r
theorem InvSteps.get {P : Program} {Q : Exit → Act → World → Prop} {Inv : (Nat → Bool) → Act → World → Prop} : ∀ {l : List Oper} {k : Nat}, InvSteps P Q Inv k l → ∀ {i : Nat} {o : Oper}, l[i]? = some o →
    ∀ d a w, d (k + i) = false → (∀ e ∈ o.after, Region.binds .any e = true → d e.on = true) → Inv d a w → o.wp P a w (fun a' w' => Inv (fun j => if j = k + i then true else d j) a' w') Q
  | [], _, _, i, o, h => by simp at h
  | o' :: r, k, hs, 0, o, h => by
    simp only [List.getElem?_cons_zero, Option.some.injEq] at h
    subst h
    exact fun d a w h1 h2 h3 => hs.1 d a w _ h1 h2 h3 (fun _ _ h => h)
  | o' :: r, k, hs, i + 1, o, h => by
    rw [List.getElem?_cons_succ] at h
    have := InvSteps.get hs.2 h
    rw [show k + 1 + i = k + (i + 1) by omega] at this
    exact this
/-- append to one's own, and where the new slice lies. -/
theorem append_rows_at {P : Program} {w : World} (base : Nat) (t ty e : TypeId) (i : TypeInfo) (z : Value) (size bytes : Nat) (ht : P.underlying t = some (.slice e)) (hi : P.info? e = some i) (hz : i.zero = some z)
    (hsize : i.size = size) (hby : i.bytes = bytes) (hzs : z.cells.size = size) (hsz : 0 < size)
    (v : Value) (n : Nat) (xs : List Value) (hown : w.ownsRow base e size v n xs)
    (a : Option Addr) (m c : Nat) (news : List Value) (hl : news.length = m * size) (hnews : m ≠ 0 → ∃ ad, a = some ad ∧ ∀ j u, news[j]? = some u → w.cell? (ad.add j) = some u) (h1 : ∀ u ∈ news, u.oneCell' = true)
    (h63 : n + m ≤ maxLen) (hbytes : (n + m) * bytes ≤ 140737488355328) (hbase : base ≤ w.heap.size) :
    ∃ v' w', (Builtin.append_ #[t, t] ty #[v, .slice a m c]).run P w = .ok v' w' ∧ w'.ownsRow base e size v' (n + m) (xs ++ news) ∧ w.grownBy w' v.ownBlock ∧ (v'.ownBlock = v.ownBlock ∨ v'.ownBlock = some w.heap.size) := by
  cases a with
  | none =>
    by_cases hm : m = 0
    · subst hm
      have hn : news = [] := List.eq_nil_of_length_eq_zero (by simpa using hl)
      subst hn
      refine ⟨v, w, append_none base t ty e i size c ht hi v n xs hown, by simpa using hown, ⟨rfl, rfl, rfl, Nat.le_refl _, fun _ _ _ => rfl⟩, .inl rfl⟩
    · obtain ⟨ad, h, _⟩ := hnews hm
      cases h
  | some ad =>
    have hn' : ∀ j u, news[j]? = some u → w.cell? (ad.add j) = some u := by
      by_cases hm : m = 0
      · subst hm
        have hn : news = [] := List.eq_nil_of_length_eq_zero (by simpa using hl)
        subst hn
        intro j u h; simp at h
      · obtain ⟨ad', h, h2⟩ := hnews hm
        cases h
        exact h2
    obtain ⟨v', w', h2, h3, h4, h5, h6⟩ := run_append_own_at (P := P) (w := w) base t ty e i z size bytes ht hi hz hsize hby hzs hsz v n xs hown ad m c news hl hn' h1 h63 hbytes hbase
    exact ⟨v', w', h2, h3, h4, h6⟩
end Go.Proofs.Ytjkhclijmcmdjaa
namespace Go.Proofs.Ytjkhclijmcmdjaa
open Go.RowKit
set_option linter.unusedVariables false
end Go.Proofs.Ytjkhclijmcmdjaa
namespace Go.Proofs.Ytjkhclijmcmdjaa
open Go.RowKit
set_option linter.unusedVariables false
/-- The first cells of a block are kept. -/
def KeptTo (e : TypeId) (k : Nat) (w w' : World) (b : Nat) : Prop := ∀ cur, w.heap[b]? = some (.cells cur e (0, 0)) → ∃ cur', w'.heap[b]? = some (.cells cur' e (0, 0)) ∧ cur'.size = cur.size ∧ cur'.toList.take k = cur.toList.take k
theorem KeptTo.of_eq {e : TypeId} {k : Nat} {w w' : World} {b : Nat} (h : w'.heap[b]? = w.heap[b]?) : KeptTo e k w w' b := fun cur hc => ⟨cur, h.trans hc, rfl, rfl⟩
theorem KeptTo.trans {e : TypeId} {k : Nat} {w w' w'' : World} {b : Nat} (h : KeptTo e k w w' b) (h' : KeptTo e k w' w'' b) : KeptTo e k w w'' b := fun cur hc => by
  obtain ⟨c1, h1, h2, h3⟩ := h cur hc
  obtain ⟨c2, h4, h5, h6⟩ := h' c1 h1
  exact ⟨c2, h4, h5.trans h2, h6.trans h3⟩
theorem KeptTo.mono {e : TypeId} {k j : Nat} {w w' : World} {b : Nat} (h : KeptTo e k w w' b) (hj : j ≤ k) : KeptTo e j w w' b := fun cur hc => by
  obtain ⟨c1, h1, h2, h3⟩ := h cur hc
  refine ⟨c1, h1, h2, ?_⟩
  have := congrArg (fun l => l.take j) h3
  simpa [List.take_take, Nat.min_eq_left hj] using this
theorem append_keep {P : Program} {w : World} (base : Nat) (t ty e : TypeId) (i : TypeInfo) (z : Value) (bytes : Nat) (ht : P.underlying t = some (.slice e)) (hi : P.info? e = some i) (hz : i.zero = some z)
    (hsize : i.size = 1) (hby : i.bytes = bytes) (hzs : z.cells.size = 1) (v : Value) (n : Nat) (xs : List Value) (hown : w.ownsRow base e 1 v n xs) (ad : Addr) (x : Value) (hx : w.cell? ad = some x) (h1 : x.oneCell' = true)
    (h63 : n + 1 ≤ maxLen) (hbytes : (n + 1) * bytes ≤ 140737488355328) (hbase : base ≤ w.heap.size) :
    ∃ v' w', (Builtin.append_ #[t, t] ty #[v, .slice (some ad) 1 1]).run P w = .ok v' w' ∧ w'.ownsRow base e 1 v' (n + 1) (xs ++ [x]) ∧ w.grownBy w' v.ownBlock ∧ (v'.ownBlock = v.ownBlock ∨ v'.ownBlock = some w.heap.size) ∧ (∀ g, v.ownBlock = some g → KeptTo e n w w' g) := by
  have hnews : ∀ j u, [x][j]? = some u → w.cell? (ad.add j) = some u := fun j u hj => by
    cases j with
    | zero => simp at hj; subst hj; exact hx
    | succ j => simp at hj
  have h1' : ∀ u ∈ [x], u.oneCell' = true := by intro u hu; simp at hu; subst hu; exact h1
  obtain ⟨v', w', hr, h2, h3, _, h5⟩ := run_append_own_at (P := P) (w := w) base t ty e i z 1 bytes ht hi hz hsize hby hzs (by decide) v n xs hown ad 1 1 [x] rfl hnews h1' h63 hbytes hbase
  refine ⟨v', w', hr, h2, h3, h5, fun g hg => ?_⟩
  rcases hown.2 with ⟨rfl, _⟩ | ⟨g', cap, cur, rfl, hbg, hh, hnc, hcm, hcs, htake⟩
  · simp [Value.ownBlock] at hg
  · simp [Value.ownBlock] at hg
    subst hg
    by_cases hroom : n + 1 ≤ cap
    · have hfit : n * i.size + [x].length ≤ cur.size := by rw [hsize, hcs]; simp; omega
      have hr2 := run_append_room (P := P) w t ty e i ht hi g' n cap cur hh ad 1 1 [x] (by rw [hsize]; rfl) hnews h1' hroom hfit
      rw [hr] at hr2
      cases hr2
      intro cur' hc'
      rw [hh] at hc'
      cases hc'
      refine ⟨_, setRow_heap w g' cur _ e _ hh, ?_, ?_⟩
      · rw [hsize] at hfit ⊢
        simp at hfit ⊢
        omega
      · rw [hsize, Nat.mul_one]
        have hl : (cur.toList.take n).length = n := by simp; simp at hfit; rw [hsize] at hfit; omega
        simp only [List.append_assoc]
        rw [List.take_append_of_le_length (by omega), List.take_of_length_le (by omega)]
    · have holds : ∀ j u, xs[j]? = some u → w.cell? ((⟨g', 0, none⟩ : Addr).add j) = some u := hown.cells (g := g') rfl
      have hr2 := run_append_grow (P := P) w t ty e i z ht hi hz ⟨g', 0, none⟩ n cap xs (by rw [hsize]; exact hown.1) holds ad 1 1 [x] (by rw [hsize]; rfl) hnews (by omega) (by unfold maxLen at h63; omega) (growslice_fits (by omega) (by rw [hby]; exact hbytes))
      rw [hr] at hr2
      cases hr2
      exact KeptTo.of_eq (heap_alloc_old w.drew _ (Array.getElem?_eq_some_iff.1 hh).1)
end Go.Proofs.Ytjkhclijmcmdjaa
namespace Go.Proofs.Ytjkhclijmcmdjaa
open Go.RowKit
set_option linter.unusedVariables false
def InvStepsIn (r : Option Nat) (m : Nat) (P : Program) (Q : Exit → Act → World → Prop) (ops : Array Oper) (Inv : (Nat → Bool) → Act → World → Prop) : Nat → List Oper → Prop
  | _, [] => True
  | k, o :: l => (∀ d a w K, d k = false → (∀ e ∈ o.after, Region.binds .any e = true → d e.on = true) → Inv d a w → Hid (∀ a' w', Inv (upd d k) a' w' → K a' w') →
      if Region.wanted o (yielded ops a.tmps) then o.wpIn (wideAt r) m P a w K Q else K (a.put o.dst undef) w) ∧ InvStepsIn r m P Q ops Inv (k + 1) l
theorem InvStepsIn.get {r : Option Nat} {m : Nat} {P : Program} {Q : Exit → Act → World → Prop} {ops : Array Oper} {Inv : (Nat → Bool) → Act → World → Prop} : ∀ {l : List Oper} {k : Nat}, InvStepsIn r m P Q ops Inv k l → ∀ {i : Nat} {o : Oper}, l[i]? = some o →
    ∀ d a w, d (k + i) = false → (∀ e ∈ o.after, Region.binds .any e = true → d e.on = true) → Inv d a w →
      if Region.wanted o (yielded ops a.tmps) then o.wpIn (wideAt r) m P a w (fun a' w' => Inv (fun j => if j = k + i then true else d j) a' w') Q else Inv (fun j => if j = k + i then true else d j) (a.put o.dst undef) w
  | [], _, _, i, o, h => by simp at h
  | o' :: l, k, hs, 0, o, h => by
    simp only [List.getElem?_cons_zero, Option.some.injEq] at h
    subst h
    exact fun d a w h1 h2 h3 => hs.1 d a w _ h1 h2 h3 (fun _ _ h => h)
  | o' :: l, k, hs, i + 1, o, h => by
    rw [List.getElem?_cons_succ] at h
    have := InvStepsIn.get hs.2 h
    rw [show k + 1 + i = k + (i + 1) by omega] at this
    exact this
/-- Each waits for earlier ones alone. -/
def plainG (l : List Oper) : Bool := (List.range l.length).all fun i => match l[i]? with
  | some o => o.after.all fun e => decide (e.on < i) || !Region.binds .any e
  | none => true
theorem plainG_at {l : List Oper} (h : plainG l = true) {i : Nat} {o : Oper} (ho : l[i]? = some o) : ∀ e ∈ o.after, Region.binds .any e = true → e.on < i := by
  have hi : i < l.length := (List.getElem?_eq_some_iff.1 ho).1
  have := (List.all_eq_true.1 h) i (List.mem_range.2 hi)
  rw [ho] at this
  simp only [Array.all_eq_true_iff_forall_mem, decide_eq_true_eq, Bool.or_eq_true] at this
  exact fun e he hb => by
    rcases this e he with h | h
    · exact h
    · rw [hb] at h; cases h
theorem wpAnyIn_invG {r : Option Nat} {m : Nat} {P : Program} {l : List Oper} {Q : Exit → Act → World → Prop} {Inv : (Nat → Bool) → Act → World → Prop} (hp : plainG l = true) (hs : InvStepsIn r m P Q l.toArray Inv 0 l)
    (hend : ∀ d a w, (∀ i, i < l.length → d i = true) → Inv d a w → Q .normal a w) :
    ∀ (f : Nat) (listed : Array Bool) (a : Act) (w : World), listed.size = l.length → (listed.toList.countP (fun b => !b)) = f → Inv (fun j => listed.getD j false) a w → wpAnyIn (wideAt r) m P .any l.toArray Q f listed a w := by
  have first : ∀ listed : Array Bool, listed.size = l.length → Region.ready .any l.toArray listed = [] → ∀ i, i < l.length → listed.getD i false = true := by
    intro listed hz hr i
    induction i using Nat.strongRecOn with
    | ind i ih =>
      intro hi
      cases hb : listed.getD i false with
      | true => rfl
      | false =>
        exfalso
        have : i ∈ Region.ready .any l.toArray listed := by
          rw [mem_ready]
          have hlt : i < listed.size := by omega
          refine ⟨by simpa [hlt] using hb, l[i], by simp [hi], fun e he hbd => ?_⟩
          have := plainG_at hp (List.getElem?_eq_getElem hi) e he hbd
          exact ih e.on this (by omega)
        rw [hr] at this
        simp at this
  intro f
  induction f with
  | zero =>
    intro listed a w hz hc hI
    have hall : ∀ i, i < l.length → listed.getD i false = true := by
      intro i hi
      have hlt : i < listed.size := by omega
      have := List.countP_eq_zero.1 hc (listed[i]) (by simp)
      simpa [hlt] using this
    refine ⟨?_, hend _ a w hall hI⟩
    rw [List.eq_nil_iff_forall_not_mem]
    intro i hi
    obtain ⟨h1, o, ho, _⟩ := mem_ready.1 hi
    have hlt : i < listed.size := by
      have := (Array.getElem?_eq_some_iff.1 ho).1
      simpa [hz] using this
    have := hall i (by omega)
    simp [hlt] at h1 this
    rw [this] at h1
    cases h1
  | succ f ih =>
    intro listed a w hz hc hI
    refine ⟨fun hr => hend _ a w (first listed hz hr) hI, fun i hi => ?_⟩
    obtain ⟨h1, o, ho, hdep⟩ := mem_ready.1 hi
    have hil : i < l.length := by simpa using (Array.getElem?_eq_some_iff.1 ho).1
    have hlt : i < listed.size := by omega
    have ho' : l[i]? = some o := by simpa using ho
    have hb : listed.getD i false = false := by simpa [hlt] using h1
    have hstep := hs.get ho' (fun j => listed.getD j false) a w (by simpa using hb) hdep hI
    have hnext : ∀ a' w', Inv (fun j => if j = 0 + i then true else listed.getD j false) a' w' → wpAnyIn (wideAt r) m P .any l.toArray Q f (listed.setIfInBounds i true) a' w' := by
      intro a' w' hI'
      refine ih _ a' w' (by simpa using hz) ?_ ?_
      · have h2 : listed.toList = listed.toList.take i ++ false :: listed.toList.drop (i + 1) := by
          have e : listed[i] = false := by simpa [hlt] using hb
          have := List.drop_eq_getElem_cons (l := listed.toList) (i := i) (by simpa using hlt)
          simp only [Array.getElem_toList, e] at this
          rw [← this, List.take_append_drop]
        have h3 : (listed.setIfInBounds i true).toList = listed.toList.take i ++ true :: listed.toList.drop (i + 1) := by
          rw [Array.toList_setIfInBounds, List.set_eq_take_append_cons_drop, if_pos (by simpa using hlt)]
        rw [h2] at hc
        rw [h3]
        simp only [List.countP_append, List.countP_cons, Bool.not_false, if_true, Bool.not_true] at hc ⊢
        simp at hc ⊢
        omega
      · have e : (fun j => (listed.setIfInBounds i true).getD j false) = (fun j => if j = 0 + i then true else listed.getD j false) := by
          funext j
          rw [Nat.zero_add]
          by_cases hj : j = i
          · subst hj; simp [hlt]
          · rw [if_neg hj, getD_set_ne false (fun e => hj e.symm)]
        rw [e]
        exact hI'
    unfold wpOpIn
    simp only [ho]
    split
    · rename_i hw
      rw [if_pos hw] at hstep
      exact Oper.wpIn_mono hnext hstep
    · rename_i hw
      rw [if_neg hw] at hstep
      exact ⟨fun _ _ => trivial, hnext _ _ hstep⟩
/-- A region that draws, with guards: by an invariant. -/
theorem wpIn_region_invG {r : Option Nat} {m : Nat} {P : Program} {id : Nat} {l : List Oper} {Q : Exit → Act → World → Prop} {a : Act} {w : World} (hm : P.follows .mixedOrders = true) (hp : plainG l = true)
    (Inv : (Nat → Bool) → Act → World → Prop) (h0 : Inv (fun _ => false) a w.drew) (hs : InvStepsIn r m P Q l.toArray Inv 0 l)
    (hend : ∀ d a w, (∀ i, i < l.length → d i = true) → Inv d a w → Q .normal a w) : (Code.region id l.toArray true).wpIn (wideAt r) m P Q a w := by
  refine wpIn_region_any hm (wpAnyIn_invG hp hs hend _ _ _ _ (by simp) (by simp [List.countP_replicate]) ?_)
  have e : (fun j => (Array.replicate l.toArray.size false).getD j false) = fun _ => false := by
    funext j
    by_cases hj : j < l.length <;> simp [hj]
  rw [e]
  exact h0
end Go.Proofs.Ytjkhclijmcmdjaa
namespace Go.Proofs.Ytjkhclijmcmdjaa
open Go.RowKit
set_option linter.unusedVariables false
set_option linter.unusedSimpArgs false
theorem ret_bool {a b : Bool} (h : a = b) : Ending.returned (.bool a) = .returned (.bool b) := by rw [h]
theorem ret_int {k : IntKind} {a b : Int} (h : a = b) : Ending.returned (.int k a) = .returned (.int k b) := by rw [h]
theorem mixed : Try.prog.follows .mixedOrders = true := by kernel_rfl
theorem heap_lt {w : World} {g : Nat} {o : Obj} (h : w.heap[g]? = some o) : g < w.heap.size := (Array.getElem?_eq_some_iff.1 h).1
theorem heap_setCell_at {w : World} {b k : Nat} {c : Array Value} {t : TypeId} {f : Nat × Nat} (h : w.heap[b]? = some (.cells c t f)) (v : Value) :
    (w.setCell ⟨b, k, none⟩ v).heap[b]? = some (.cells (c.setIfInBounds k v) t f) := by
  simp [World.setCell, Array.getElem?_modify, h]
theorem cell_of_heap {w : World} {b k : Nat} {c : Array Value} {t : TypeId} {f : Nat × Nat} (h : w.heap[b]? = some (.cells c t f)) : w.cell? ⟨b, k, none⟩ = c[k]? := by simp [World.cell?, h]
theorem frozen_of_heap {w : World} {b k : Nat} {c : Array Value} {t : TypeId} (h : w.heap[b]? = some (.cells c t (0, 0))) : w.frozen? ⟨b, k, none⟩ = false := by simp [World.frozen?, h]
theorem own_base {w : World} {b b' : Nat} {e : TypeId} {s n : Nat} {v : Value} {xs : List Value} (h : w.ownsRow b e s v n xs) (hb : b' ≤ b) : w.ownsRow b' e s v n xs := by
  obtain ⟨h1, h2⟩ := h
  refine ⟨h1, ?_⟩
  rcases h2 with h2 | ⟨g, cap, cur, hv, hg, r⟩
  · exact .inl h2
  · exact .inr ⟨g, cap, cur, hv, by omega, r⟩
theorem own_blocks {w w' : World} {B : Nat} {e : TypeId} {s n : Nat} {v : Value} {xs : List Value} (h : w.ownsRow B e s v n xs) (hk : ∀ g, v.ownBlock = some g → w'.heap[g]? = w.heap[g]?) : w'.ownsRow B e s v n xs := by
  obtain ⟨h1, h2⟩ := h
  refine ⟨h1, ?_⟩
  rcases h2 with h2 | ⟨g, cap, cur, rfl, hg, hh, r⟩
  · exact .inl h2
  · exact .inr ⟨g, cap, cur, rfl, hg, (hk g rfl).trans hh, r⟩
theorem own_apart {w : World} {B B' : Nat} {e e' : TypeId} {s s' n n' : Nat} {v v' : Value} {xs ys : List Value} (h : w.ownsRow B e s v n xs) (h' : w.ownsRow B' e' s' v' n' ys) (he : e ≠ e') : ∀ g, v.ownBlock = some g → v'.ownBlock ≠ some g := by
  intro g hg hg'
  rcases h.2 with ⟨rfl, _⟩ | ⟨g1, cap, cur, rfl, _, hh, _⟩
  · cases hg
  · rcases h'.2 with ⟨rfl, _⟩ | ⟨g2, cap', cur', rfl, _, hh', _⟩
    · cases hg'
    · simp only [Value.ownBlock, Option.some.injEq] at hg hg'
      subst hg hg'
      rw [hh] at hh'
      simp only [Option.some.injEq, Obj.cells.injEq] at hh'
      exact he hh'.2.1
theorem own_ints {w : World} {base : Nat} {a : Option Addr} {l : List Int} {cap : Nat} (h : w.ownsRow base 3 1 (.slice a l.length cap) l.length (l.map (Value.int .i64))) : IsInts w a l := fun i hi => by
  obtain ⟨g, c, e, _, _, _, _, hc⟩ := own_cell h (by omega)
  cases e
  refine ⟨g, 0, rfl, ?_⟩
  rw [Nat.zero_add]
  exact hc i _ (by simp [gi, hi])
theorem wp_seq_hid {P : Program} {x y : Code} {Q : Exit → Act → World → Prop} {a : Act} {w : World} (h : ∀ K, Hid (∀ a' w', y.wp P Q a' w' → K a' w') → x.wp P (Exit.then K Q) a w) : (Code.seq x y).wp P Q a w :=
  wp_seq (h _ fun _ _ h => h)
theorem wpIn_append_run {P : Program} {m : Nat} {w : World} {o : Oper} {a : Act} {K : Act → World → Prop} {Q : Exit → Act → World → Prop} (s x : Operand) (t : TypeId)
    (ho : o.op = .call { callee := .builtin .append, args := #[s, x], argTypes := #[t, t] }) (v xv v' : Value) (w' : World) (hs : a.eval s = v) (hx : a.eval x = xv)
    (hr : (Builtin.append_ #[t, t] o.type #[v, xv]).run P w = .ok v' w') (h : K (a.put o.dst v') w') : o.wpIn (wideAt none) m P a w K Q := by
  refine ⟨fun _ _ => trivial, ?_⟩
  show o.uponIn _ _ P a K Q ((execOp a.eval o).run P w)
  unfold execOp
  simp only [ho, resolve, invoke, builtin, Sem.run_bind, Sem.run_pure, Result.andThen_ok, List.map_toArray, List.map_cons, List.map_nil, hs, hx, hr]
  exact h
theorem infoI : (Try.prog.info? 3).map (fun i => (i.zero, i.size, i.bytes)) = some (some (.int .i64 0), 1, 8) := by kernel_rfl
def leftReg : Code → Option Nat
  | .region id _ _ => some id
  | .seq a _ => leftReg a
  | _ => none
def fromRegion (n : Nat) : Code → Option Code
  | .seq a b => if leftReg a = some n then some (.seq a b) else match fromRegion n a with
    | some c => some c
    | none => fromRegion n b
  | .block _ c => fromRegion n c
  | .scope c => fromRegion n c
  | .loop c => fromRegion n c
  | .cond _ a b => match fromRegion n a with
    | some c => some c
    | none => fromRegion n b
  | _ => none
def regionAt (n : Nat) : Code → Option Code
  | .region id ops dr => if id = n then some (.region id ops dr) else none
  | .seq a b => match regionAt n a with
    | some c => some c
    | none => regionAt n b
  | .block _ c => regionAt n c
  | .scope c => regionAt n c
  | .loop c => regionAt n c
  | .cond _ a b => match regionAt n a with
    | some c => some c
    | none => regionAt n b
  | _ => none
theorem within_any (n lo hi : Int) (w : World) :
    Calls Try.prog 60 #[.int .i64 n, .int .i64 lo, .int .i64 hi] w fun e w' => e = .returned (.bool (inR n lo hi)) ∧ w = w' := by
  unfold inR
  go_enter Try.func60, Try.ntmps60
  go_wp2
  all_goals go_ret
  all_goals refine ⟨ret_bool ?_, rfl⟩
  · have h : lo ≤ n := by assumption
    simp [h]
  · have h : n < lo := by assumption
    simp; omega
theorem in_any (n lo hi : Int) (w : World) :
    Calls Try.prog 61 #[.int .i64 n, .int .i64 lo, .int .i64 hi] w fun e w' => e = .returned (.bool (inR n lo hi)) ∧ w = w' := by
  unfold inR
  go_enter Try.func61, Try.ntmps61
  go_wp2
  all_goals go_ret
  all_goals refine ⟨ret_bool ?_, rfl⟩
  · have h : lo ≤ n := by assumption
    simp [h]
  · have h : n < lo := by assumption
    simp; omega
theorem pence_any (n : Int) (w : World) :
    Calls Try.prog 93 #[.int .i64 n] w fun e w' => e = .returned (.bool (inR n 0 1099511627776)) ∧ w = w' := by
  go_enter Try.func93, Try.ntmps93
  go_wp2_with fail
  refine (within_any _ _ _ _).mono ?_
  rintro e w' ⟨rfl, rfl⟩
  go_wp2_with fail
  go_ret
  exact ⟨rfl, rfl⟩
theorem bad67 (n : Int) (w : World) :
    Calls Try.prog 67 #[.int .i64 n] w fun e w' => e = .returned (.bool (!inR n 0 6)) ∧ w = w' := by
  go_enter Try.func67, Try.ntmps67
  go_wp2_with fail
  refine (within_any _ _ _ _).mono ?_
  rintro e w' ⟨rfl, rfl⟩
  go_wp2_with fail
  go_ret
  exact ⟨rfl, rfl⟩
theorem bad91 (n : Int) (w : World) :
    Calls Try.prog 91 #[.int .i64 n] w fun e w' => e = .returned (.bool (!inR n 0 60)) ∧ w = w' := by
  go_enter Try.func91, Try.ntmps91
  go_wp2_with fail
  refine (within_any _ _ _ _).mono ?_
  rintro e w' ⟨rfl, rfl⟩
  go_wp2_with fail
  go_ret
  exact ⟨rfl, rfl⟩
theorem bad92 (n : Int) (w : World) :
    Calls Try.prog 92 #[.int .i64 n] w fun e w' => e = .returned (.bool (!inR n 0 1099511627776)) ∧ w = w' := by
  go_enter Try.func92, Try.ntmps92
  go_wp2_with fail
  refine (pence_any _ _).mono ?_
  rintro e w' ⟨rfl, rfl⟩
  go_wp2_with fail
  go_ret
  exact ⟨rfl, rfl⟩
theorem need_yes (e : Int) (w : World) : Calls Try.prog 43 #[.bool true, .int .i64 e] w fun en w' => en = .returned (.tuple #[]) ∧ w = w' := by
  go_enter Try.func43, Try.ntmps43
  go_wp2
  go_end0
  exact ⟨rfl, rfl⟩
theorem need_no (e : Int) (w : World) : Calls Try.prog 43 #[.bool false, .int .i64 e] w fun en w' => en = .panicked [{ v := .iface 103 (.agg #[.int .i64 e]), recovered := false }] ∧ w = w' := by
  go_enter Try.func43, Try.ntmps43
  go_wp2
  exact ⟨rfl, rfl, rfl⟩
theorem assert103 (v : Value) (w : World) : (Instr.typeAssert (.iface 103 v) 20 103 true).run Try.prog w = .ok (.tuple #[v, .bool true]) w := by
  simp [Instr.typeAssert, run_underlying Try.underlying103, Result.andThen]
/-- The deferred call, where there was no panic. -/
theorem caught_ok (pe : Value) (w : World) : CallsD Try.prog 41 #[pe] .returning w fun e u' w' => e = .returned (.tuple #[]) ∧ u' = .returning ∧ w = w' := by
  refine callsD_of_wpS Try.func41 rfl fun c₀ cs hu => ?_
  refine wpS_seq ?_
  apply wpS_region
  simp [wpOpsS, go_sem, recoverD, hu, Try.ntmps41]
  show Code.wpS _ _ _ _ _ _
  have HU := Lib.hid hu
  clear hu
  refine wpS_of_wp (Code.wp_mono (Q := fun e a' w' => e = .normal ∧ a'.defers = [] ∧ w = w') ?_ ?_)
  · rintro e a' w' ⟨rfl, hd, rfl⟩
    have hu := HU.out
    simp [bodyPostS, results, Try.results41, hd]
    rw [← hu]
  · rw [show (#[pe] ++ ((Array.replicate 19 undef).setIfInBounds 4 (.nilIface)).setIfInBounds 1 (.nilIface)) = #[pe, undef, .nilIface, undef, undef, .nilIface, undef, undef, undef, undef, undef, undef, undef, undef, undef, undef, undef, undef, undef, undef] from by simp only [Array.replicate_succ, Array.replicate_zero, List.push_toArray, List.nil_append, List.cons_append, List.setIfInBounds_toArray, List.set_cons_zero, List.set_cons_succ, List.append_toArray]]
    go_wp2
/-- The deferred call, where need panicked. -/
theorem caught_no (x : Int) {b : Nat} {v : Value} {w : World} (hc : w.cell? ⟨b, 0, none⟩ = some v) (hf : w.frozen? ⟨b, 0, none⟩ = false) :
    CallsD Try.prog 41 #[.pointer (some ⟨b, 0, none⟩)] (.panicking [{ v := .iface 103 (.agg #[.int .i64 x]), recovered := false }]) w fun e u' w' =>
      e = .returned (.tuple #[]) ∧ u' = .panicking [{ v := .iface 103 (.agg #[.int .i64 x]), recovered := true }] ∧ w' = (w.alloc (.cells #[.int .i64 x] 103)).setCell ⟨b, 0, none⟩ (.int .i64 x) := by
  have hb := lt_of_cell hc
  have ha := assert103 (.agg #[.int .i64 x])
  refine callsD_of_wpS Try.func41 rfl fun c₀ cs hu => ?_
  refine wpS_seq ?_
  apply wpS_region
  simp [wpOpsS, go_sem, recoverD, hu, Try.ntmps41]
  show Code.wpS _ _ _ _ _ _
  have HU := Lib.hid hu
  clear hu
  refine wpS_of_wp (Code.wp_mono (Q := fun e a' w' => e = .normal ∧ a'.defers = [] ∧ w' = (w.alloc (.cells #[.int .i64 x] 103)).setCell ⟨b, 0, none⟩ (.int .i64 x)) ?_ ?_)
  · rintro e a' w' ⟨rfl, hd, rfl⟩
    simp [bodyPostS, results, Try.results41, hd]
  · rw [show (#[.pointer (some ⟨b, 0, none⟩)] ++ ((Array.replicate 19 undef).setIfInBounds 4 (.iface 103 (.agg #[.int .i64 x]))).setIfInBounds 1 (.iface 103 (.agg #[.int .i64 x]))) = #[.pointer (some ⟨b, 0, none⟩), undef, .iface 103 (.agg #[.int .i64 x]), undef, undef, .iface 103 (.agg #[.int .i64 x]), undef, undef, undef, undef, undef, undef, undef, undef, undef, undef, undef, undef, undef, undef] from by simp only [Array.replicate_succ, Array.replicate_zero, List.push_toArray, List.nil_append, List.cons_append, List.setIfInBounds_toArray, List.set_cons_zero, List.set_cons_succ, List.append_toArray]]
    go_wp2
theorem cf41 (args : Array Value) (w : World) : (callFunc 41 args).run Try.prog w = .ok (.enter 41 args) w := by simp [callFunc, Try.func41, Try.f41, go_sem]
end Go.Proofs.Ytjkhclijmcmdjaa
namespace Go.Proofs.Ytjkhclijmcmdjaa
open Go.RowKit
set_option linter.unusedVariables false
set_option linter.unusedSimpArgs false
/-- Where the first is of which something is so; -1: there is none. -/
def idxL {α : Type} (P : α → Bool) : List α → Nat → Int
  | [], _ => -1
  | x :: r, k => if P x then (k : Int) else idxL P r (k + 1)
theorem idxL_any {α : Type} (P : α → Bool) : ∀ (l : List α) (k : Nat), decide (0 ≤ idxL P l k) = l.any P
  | [], _ => rfl
  | x :: r, k => by
    unfold idxL
    by_cases h : P x = true
    · rw [if_pos h, List.any_cons, h]; simp
    · rw [if_neg h, List.any_cons, idxL_any P r (k + 1)]
      simp at h
      rw [h]; rfl
theorem idxL_drop {α : Type} {P : α → Bool} {l : List α} {k : Nat} (h : k < l.length) : idxL P (l.drop k) k = if P l[k] then (k : Int) else idxL P (l.drop (k + 1)) (k + 1) := by
  rw [List.drop_eq_getElem_cons h]
  rfl
abbrev Fme.arr (f : Fme) (a : Option Addr) (c : Nat) : Array Value := #[.slice a f.slots.length c, .int .i64 f.times]
abbrev Fme.v (f : Fme) (a : Option Addr) (c : Nat) : Value := .agg (f.arr a c)
abbrev Dl.arr (d : Dl) (a : Option Addr) (c : Nat) : Array Value := #[.int .i64 d.kind, .slice a d.forme.slots.length c, .int .i64 d.forme.times, .int .i64 d.view, .int .i64 d.many, .int .i64 d.pence]
abbrev Dl.v (d : Dl) (a : Option Addr) (c : Nat) : Value := .agg (d.arr a c)
/-- A slice's array holds these formes, these deals, these spans. -/
def IsFmes (w : World) (a : Option Addr) (l : List Fme) : Prop :=
  ∀ i, i < l.length → ∃ b off, a = some ⟨b, off, none⟩ ∧ ∃ ai ci, w.cell? ⟨b, off + i * 2, none⟩ = some (.slice ai (gf l i).slots.length ci) ∧ w.cell? ⟨b, off + i * 2 + 1, none⟩ = some (.int .i64 (gf l i).times) ∧ IsInts w ai (gf l i).slots
theorem IsFmes.mono {w w' : World} {a : Option Addr} {l : List Fme} (h : IsFmes w a l) (hb : Below w.heap.size w w') : IsFmes w' a l := fun i hi => by
  obtain ⟨b, off, ha, ai, ci, h0, h1, h2⟩ := h i hi
  exact ⟨b, off, ha, ai, ci, cell_stays hb h0, cell_stays hb h1, h2.mono hb⟩
def IsDls (w : World) (a : Option Addr) (l : List Dl) : Prop :=
  ∀ i, i < l.length → ∃ b off, a = some ⟨b, off, none⟩ ∧ ∃ ai ci, w.cell? ⟨b, off + i * 6, none⟩ = some (.int .i64 (gd l i).kind) ∧ w.cell? ⟨b, off + i * 6 + 1, none⟩ = some (.slice ai (gd l i).forme.slots.length ci) ∧ w.cell? ⟨b, off + i * 6 + 2, none⟩ = some (.int .i64 (gd l i).forme.times) ∧
    w.cell? ⟨b, off + i * 6 + 3, none⟩ = some (.int .i64 (gd l i).view) ∧ w.cell? ⟨b, off + i * 6 + 4, none⟩ = some (.int .i64 (gd l i).many) ∧ w.cell? ⟨b, off + i * 6 + 5, none⟩ = some (.int .i64 (gd l i).pence) ∧ IsInts w ai (gd l i).forme.slots
theorem IsDls.mono {w w' : World} {a : Option Addr} {l : List Dl} (h : IsDls w a l) (hb : Below w.heap.size w w') : IsDls w' a l := fun i hi => by
  obtain ⟨b, off, ha, ai, ci, h0, h1, h2, h3, h4, h5, h6⟩ := h i hi
  exact ⟨b, off, ha, ai, ci, cell_stays hb h0, cell_stays hb h1, cell_stays hb h2, cell_stays hb h3, cell_stays hb h4, cell_stays hb h5, h6.mono hb⟩
def IsSpns (w : World) (a : Option Addr) (l : List Spn) : Prop :=
  ∀ i, i < l.length → ∃ b off, a = some ⟨b, off, none⟩ ∧ w.cell? ⟨b, off + i * 2, none⟩ = some (.int .i64 (gs l i).lo) ∧ w.cell? ⟨b, off + i * 2 + 1, none⟩ = some (.int .i64 (gs l i).hi)
theorem IsSpns.mono {w w' : World} {a : Option Addr} {l : List Spn} (h : IsSpns w a l) (hb : Below w.heap.size w w') : IsSpns w' a l := fun i hi => by
  obtain ⟨b, off, ha, h0, h1⟩ := h i hi
  exact ⟨b, off, ha, cell_stays hb h0, cell_stays hb h1⟩
abbrev Spn.arr (s : Spn) : Array Value := #[.int .i64 s.lo, .int .i64 s.hi]
abbrev Spn.v (s : Spn) : Value := .agg s.arr
/-- Where a press's lists lie. -/
structure PrsA where
  aw : Option Addr
  cw : Nat
  ad : Option Addr
  cd : Nat
structure IsPrs (w : World) (p : Prs) (A : PrsA) : Prop where
  wanted : IsInts w A.aw p.wanted
  deals : IsDls w A.ad p.deals
theorem IsPrs.mono {w w' : World} {p : Prs} {A : PrsA} (h : IsPrs w p A) (hb : Below w.heap.size w w') : IsPrs w' p A := ⟨h.wanted.mono hb, h.deals.mono hb⟩
abbrev Prs.arr (p : Prs) (A : PrsA) : Array Value := #[.int .i64 p.room, .int .i64 p.formes, .int .i64 p.slo, .int .i64 p.shi, .int .i64 p.make, .int .i64 p.sheet, .slice A.aw p.wanted.length A.cw, .int .i64 p.paper, .int .i64 p.money, .slice A.ad p.deals.length A.cd]
abbrev Prs.v (p : Prs) (A : PrsA) : Value := .agg (p.arr A)
/-- No list is far too long. -/
structure Prs.Small (p : Prs) : Prop where
  wanted : p.wanted.length ≤ 20
  deals : p.deals.length ≤ 60
  slots : ∀ d ∈ p.deals, d.forme.slots.length ≤ 20
/-- A press's cells in a block. -/
structure PrsC (w : World) (b : Nat) (p : Prs) (A : PrsA) : Prop where
  c0 : w.cell? ⟨b, 0, none⟩ = some (.int .i64 p.room)
  c1 : w.cell? ⟨b, 1, none⟩ = some (.int .i64 p.formes)
  c2 : w.cell? ⟨b, 2, none⟩ = some (.int .i64 p.slo)
  c3 : w.cell? ⟨b, 3, none⟩ = some (.int .i64 p.shi)
  c4 : w.cell? ⟨b, 4, none⟩ = some (.int .i64 p.make)
  c5 : w.cell? ⟨b, 5, none⟩ = some (.int .i64 p.sheet)
  c6 : w.cell? ⟨b, 6, none⟩ = some (.slice A.aw p.wanted.length A.cw)
  c7 : w.cell? ⟨b, 7, none⟩ = some (.int .i64 p.paper)
  c8 : w.cell? ⟨b, 8, none⟩ = some (.int .i64 p.money)
  c9 : w.cell? ⟨b, 9, none⟩ = some (.slice A.ad p.deals.length A.cd)
theorem prs_cells {w : World} {b : Nat} {p : Prs} {A : PrsA} {t : TypeId} (hq : w.heap[b]? = some (.cells (p.arr A) t (0, 0))) : PrsC w b p A := by
  refine ⟨?_, ?_, ?_, ?_, ?_, ?_, ?_, ?_, ?_, ?_⟩ <;> (rw [cell_of_heap hq]; rfl)
theorem PrsC.mono {w w' : World} {b : Nat} {p : Prs} {A : PrsA} (h : PrsC w b p A) (hb : Below w.heap.size w w') : PrsC w' b p A :=
  ⟨cell_stays hb h.c0, cell_stays hb h.c1, cell_stays hb h.c2, cell_stays hb h.c3, cell_stays hb h.c4, cell_stays hb h.c5, cell_stays hb h.c6, cell_stays hb h.c7, cell_stays hb h.c8, cell_stays hb h.c9⟩
/-- A function that a list is asked by. -/
structure Asks (fn : FuncId) (P : Int → Bool) : Prop where
  ask : ∀ (x : Int) (w : World), Calls Try.prog fn #[.int .i64 x] w fun e w' => e = .returned (.bool (P x)) ∧ w = w'
  enter : ∀ (args : Array Value) (w : World), (callFunc fn args).run Try.prog w = .ok (.enter fn args) w
theorem asks67 : Asks 67 fun n => !inR n 0 6 := ⟨bad67, fun _ _ => by simp [callFunc, Try.func67, Try.f67, go_sem]⟩
theorem asks91 : Asks 91 fun n => !inR n 0 60 := ⟨bad91, fun _ _ => by simp [callFunc, Try.func91, Try.f91, go_sem]⟩
theorem asks92 : Asks 92 fun n => !inR n 0 1099511627776 := ⟨bad92, fun _ _ => by simp [callFunc, Try.func92, Try.f92, go_sem]⟩
set_option maxHeartbeats 1000000 in
theorem index95 {fn : FuncId} {P : Int → Bool} (hg : Asks fn P) {l : List Int} {a : Option Addr} {c : Nat} {w : World} (ha : IsInts w a l) (hl : l.length ≤ 9223372036854775807) :
    Calls Try.prog 95 #[.slice a l.length c, .func (.func fn) #[] #[]] w fun e w' => e = .returned (.int .i64 (idxL P l 0)) ∧ w = w' := by
  have HE := Lib.hid hg.enter
  go_enter Try.func95, Try.ntmps95
  go_wp2_with fail
  go_loop [8] (fun i => ∃ k : Nat, k ≤ l.length ∧ i = .int .i64 k ∧ Hid (idxL P l 0 = idxL P (l.drop k) k)) (fun i => l.length - (intOf i).toNat)
  case atStart => exact ⟨0, by omega, rfl, rfl⟩
  case round =>
    obtain ⟨k, hk, rfl, HK⟩ := hrel
    by_cases hlt : k < l.length
    · obtain ⟨b, off, hab, hcell⟩ := ha k hlt
      subst hab
      have hd := idxL_drop (P := P) hlt
      have hgk : gi l k = l[k] := by simp [gi, hlt]
      have HC := Lib.hid (hg.ask (gi l k) w)
      have henter := HE.out
      rw [← hgk] at hd
      revert hd HC
      rw [← hgk] at *
      generalize hx : gi l k = x at *
      intro hd HC
      cases hP : P x
      · rw [hP] at hd HC
        have HD := Lib.hid hd
        clear hd hP hgk hx
        go_wp2_with fail
        refine HC.out.mono ?_
        rintro e w' ⟨rfl, rfl⟩
        go_wp2_with fail
        go_round
        case rel => exact ⟨k + 1, by omega, by go_num, by rw [Hid, HK.out, HD.out]; rfl⟩
        case measure => simp [intOf]; omega
      · rw [hP] at hd HC
        have HD := Lib.hid hd
        clear hd hP hgk hx
        go_wp2_with fail
        refine HC.out.mono ?_
        rintro e w' ⟨rfl, rfl⟩
        go_wp2_with fail
        go_ret
        exact ⟨ret_int (by rw [HK.out, HD.out]; rfl), rfl⟩
    · have hke : l.drop k = [] := List.drop_eq_nil_of_le (by omega)
      have HK2 : Hid (idxL P l 0 = -1) := by rw [Hid, HK.out, hke]; rfl
      clear hke
      go_wp2_with fail
      go_ret
      exact ⟨ret_int HK2.out.symm, rfl⟩
theorem has68 {fn : FuncId} {P : Int → Bool} (hg : Asks fn P) {l : List Int} {a : Option Addr} {c : Nat} {w : World} (ha : IsInts w a l) (hl : l.length ≤ 9223372036854775807) :
    Calls Try.prog 68 #[.slice a l.length c, .func (.func fn) #[] #[]] w fun e w' => e = .returned (.bool (l.any P)) ∧ w = w' := by
  have HI := Lib.hid (idxL_any P l 0)
  have HC := Lib.hid (index95 hg (c := c) ha hl)
  go_enter Try.func68, Try.ntmps68
  go_wp2_with fail
  refine HC.out.mono ?_
  rintro e w' ⟨rfl, rfl⟩
  go_wp2_with fail
  go_ret
  exact ⟨ret_bool HI.out, rfl⟩
theorem sumL_append (l m : List Int) : sumL (l ++ m) = sumL l + sumL m := by
  induction l with
  | nil => simp [sumL]
  | cons x r ih => simp [sumL, ih]; omega
theorem sumL_take {l : List Int} {k : Nat} (h : k < l.length) : sumL (l.take (k + 1)) = sumL (l.take k) + gi l k := by
  rw [List.take_succ_eq_append_getElem h, sumL_append]
  simp [sumL, gi, h]
theorem sumL_bd {l : List Int} {m : Int} (h : ∀ x ∈ l, 0 ≤ x ∧ x ≤ m) : 0 ≤ sumL l ∧ sumL l ≤ l.length * m := by
  induction l with
  | nil => simp [sumL]
  | cons x r ih =>
    have h1 := h x (by simp)
    have h2 := ih (fun y hy => h y (by simp [hy]))
    simp only [sumL, List.length_cons]
    have : (((r.length + 1 : Nat)) : Int) * m = r.length * m + m := by rw [Int.natCast_add, Int.add_mul]; simp
    omega
theorem sumL_small {l : List Int} {m : Int} (h : ∀ x ∈ l, 0 ≤ x ∧ x ≤ m) {k : Nat} (hk : k ≤ l.length) : 0 ≤ sumL (l.take k) ∧ sumL (l.take k) ≤ sumL l := by
  have h1 := (sumL_bd (fun x hx => h x (List.mem_of_mem_take (i := k) hx))).1
  have h2 := (sumL_bd (fun x hx => h x (List.mem_of_mem_drop (i := k) hx))).1
  have h3 := sumL_append (l.take k) (l.drop k)
  rw [List.take_append_drop] at h3
  omega
set_option maxHeartbeats 1000000 in
/-- A sum of numbers that are not below 0. -/
theorem sum69 {l : List Int} {a : Option Addr} {c : Nat} {w : World} (ha : IsInts w a l) (hl : l.length ≤ 9223372036854775807) {m : Int} (h0 : ∀ x ∈ l, 0 ≤ x ∧ x ≤ m) (hm : sumL l ≤ 9223372036854775807) :
    Calls Try.prog 69 #[.slice a l.length c] w fun e w' => e = .returned (.int .i64 (sumL l)) ∧ w = w' := by
  have H0 := Lib.hid h0
  clear h0
  go_enter Try.func69, Try.ntmps69
  go_wp2_with fail
  go_loop [2, 7] (fun n i => ∃ k : Nat, k ≤ l.length ∧ i = .int .i64 k ∧ n = .int .i64 (sumL (l.take k))) (fun _ i => l.length - (intOf i).toNat)
  case atStart => exact ⟨0, by omega, rfl, rfl⟩
  case round =>
    obtain ⟨k, hk, rfl, rfl⟩ := hrel
    by_cases hlt : k < l.length
    · obtain ⟨b, off, hab, hcell⟩ := ha k hlt
      subst hab
      have h1 := sumL_small H0.out hk
      have h2 := sumL_small H0.out (show k + 1 ≤ l.length by omega)
      have h3 := sumL_take hlt
      rw [h3] at h2
      have HS := Lib.hid h3
      clear h3
      revert HS h1 h2 hcell
      generalize sumL (l.take k) = s
      generalize gi l k = x
      intro hcell h1 h2 HS
      go_wp2_with fail
      go_round
      case rel => exact ⟨k + 1, by omega, by go_num, by rw [HS.out]⟩
      case measure => simp [intOf]; omega
    · have hke : l.take k = l := List.take_of_length_le (by omega)
      rw [hke]
      clear hke
      go_wp2_with fail
      go_ret
      exact ⟨rfl, rfl⟩
end Go.Proofs.Ytjkhclijmcmdjaa
namespace Go.Proofs.Ytjkhclijmcmdjaa
open Go.RowKit
set_option linter.unusedVariables false
set_option linter.unusedSimpArgs false
theorem any_not {l : List Int} {P : Int → Bool} : l.any (fun n => !P n) = !l.all P := by
  induction l with
  | nil => rfl
  | cons x r ih => simp only [List.any_cons, List.all_cons, ih, Bool.not_and]
theorem all_rng {l : List Int} {lo hi : Int} (h : l.all (fun n => inR n lo hi) = true) : ∀ x ∈ l, lo ≤ x ∧ x ≤ hi := fun x hx => by
  have := List.all_eq_true.1 h x hx
  simpa [inR] using this
/-- Two blocks laid one behind the other. -/
theorem alloc2 (w : World) (c d : Array Value) (s t : TypeId) : ((w.alloc (.cells c s)).alloc (.cells d t)).heap[w.heap.size]? = some (.cells c s (0, 0)) ∧ ((w.alloc (.cells c s)).alloc (.cells d t)).heap[w.heap.size + 1]? = some (.cells d t (0, 0)) ∧ Below w.heap.size w ((w.alloc (.cells c s)).alloc (.cells d t)) := by
  refine ⟨?_, ?_, ((Below.refl _ w).alloc (Nat.le_refl _) _).alloc (by simp) _⟩
  · rw [Below.heap_alloc _ _ _ (by simp)]
    exact World.alloc_heap_new w _
  · have := World.alloc_heap_new (w.alloc (.cells c s)) (.cells d t)
    rwa [World.size_alloc] at this
set_option maxHeartbeats 2000000 in
theorem isForme44 {p : Prs} {A : PrsA} {f : Fme} {a : Option Addr} {c : Nat} {w : World} (hf : IsInts w a f.slots) (hl : f.slots.length ≤ 1000) :
    Calls Try.prog 44 #[p.v A, f.v a c] w fun e w' => e = .returned (.bool (fmeOk p f)) ∧ Below w.heap.size w w' := by
  have HW := Lib.hid (alloc2 w (p.arr A) (f.arr a c) 27 29)
  have HF := Lib.hid (hf.mono (alloc2 w (p.arr A) (f.arr a c) 27 29).2.2)
  have hok : fmeOk p f = (((f.slots.length : Int) == (p.wanted.length : Int)) && !(f.slots.any fun n => !inR n 0 6) && inR (sumL f.slots) 1 p.room && inR f.times 1 1048576) := by
    unfold fmeOk
    rw [any_not, Bool.not_not]
    congr 3
    rw [Bool.eq_iff_iff]; simp; omega
  have HOK := Lib.hid hok
  clear hok hf
  go_enter Try.func44, Try.ntmps44
  go_wp2_with fail
  revert HW HF
  generalize (w.alloc (.cells (p.arr A) 27)).alloc (.cells (f.arr a c) 29) = w1
  intro HW HF
  have pc := prs_cells HW.out.1
  have x0 : w1.cell? ⟨w.heap.size + 1, 0, none⟩ = some (.slice a f.slots.length c) := by rw [cell_of_heap HW.out.2.1]; rfl
  have x1 : w1.cell? ⟨w.heap.size + 1, 1, none⟩ = some (.int .i64 f.times) := by rw [cell_of_heap HW.out.2.1]; rfl
  have y0 := fun y : Aft w1.heap.size w1 => cell_stays y.h x0
  have y1 := fun y : Aft w1.heap.size w1 => cell_stays y.h x1
  have z0 := fun y : Aft w1.heap.size w1 => cell_stays y.h pc.c0
  have z6 := fun y : Aft w1.heap.size w1 => cell_stays y.h pc.c6
  have C68 := Lib.hid (fun y : Aft w1.heap.size w1 => has68 asks67 (c := c) (HF.out.mono y.h) (by omega))
  have C69 : Hid (f.slots.any (fun n => !inR n 0 6) = false → ∀ y : Aft w1.heap.size w1, Calls Try.prog 69 #[.slice a f.slots.length c] y.v fun e w' => e = .returned (.int .i64 (sumL f.slots)) ∧ y.v = w') := fun h y => by
    rw [any_not] at h
    have hr := all_rng (l := f.slots) (lo := 0) (hi := 6) (by simpa using h)
    have hbd := sumL_bd hr
    exact sum69 (HF.out.mono y.h) (by omega) hr (by omega)
  have C60 := Lib.hid (fun (n lo hi : Int) (y : Aft w1.heap.size w1) => within_any n lo hi y.v)
  clear x0 x1 pc
  obtain ⟨e1, he1⟩ : ∃ e, ((f.slots.length : Int) == (p.wanted.length : Int)) = e := ⟨_, rfl⟩
  obtain ⟨e2, he2⟩ : ∃ e, f.slots.any (fun n => !inR n 0 6) = e := ⟨_, rfl⟩
  obtain ⟨e3, he3⟩ : ∃ e, inR (sumL f.slots) 1 p.room = e := ⟨_, rfl⟩
  obtain ⟨e4, he4⟩ : ∃ e, inR f.times 1 1048576 = e := ⟨_, rfl⟩
  have C3 : Hid (∀ y : Aft w1.heap.size w1, Calls Try.prog 60 #[.int .i64 (sumL f.slots), .int .i64 1, .int .i64 p.room] y.v fun e w' => e = .returned (.bool e3) ∧ y.v = w') := fun y => by
    have := C60.out (sumL f.slots) 1 p.room y
    rw [he3] at this; exact this
  have C4 : Hid (∀ y : Aft w1.heap.size w1, Calls Try.prog 60 #[.int .i64 f.times, .int .i64 1, .int .i64 1048576] y.v fun e w' => e = .returned (.bool e4) ∧ y.v = w') := fun y => by
    have := C60.out f.times 1 1048576 y
    rw [he4] at this; exact this
  rw [he1, he2, he3, he4] at HOK
  rw [he2] at C68 C69
  have HE3 := Lib.hid he3
  have HE4 := Lib.hid he4
  have HE2 := Lib.hid he2
  clear he2 he3 he4 HE3 HE4 HE2 C60
  cases e1 <;> cases e2 <;> cases e3 <;> cases e4
  all_goals
    refine wp_region_aft mixed (by kernel_rfl) ?_
    repeat (go_big_quiet_step (first | (go_at_call 68; exact calls_aft_same (C68.out _)) | (go_at_call 69; exact calls_aft_same (C69.out rfl _)) | (go_at_call 60; first | (with_reducible exact calls_aft_same (C3.out _)) | (with_reducible exact calls_aft_same (C4.out _)))))
    refine wpQuiet_nil ?_
    rintro _ ⟨y, rfl⟩
    go_wp2_with fail
    go_ret
    exact ⟨ret_bool (by rw [HOK.out]; rfl), HW.out.2.2.trans (y.h.mono HW.out.2.2.size)⟩
theorem ok_len {p : Prs} {f : Fme} : fmeOk p f = (f.slots.all (fun n => inR n 0 6) && (((f.slots.length : Int) == (p.wanted.length : Int)) && inR (sumL f.slots) 1 p.room && inR f.times 1 1048576)) := by
  have e : decide (f.slots.length = p.wanted.length) = ((f.slots.length : Int) == (p.wanted.length : Int)) := by rw [Bool.eq_iff_iff]; simp; omega
  unfold fmeOk
  rw [e]
  generalize f.slots.all (fun n => inR n 0 6) = x
  generalize ((f.slots.length : Int) == (p.wanted.length : Int)) = y
  cases x <;> cases y <;> simp
set_option maxHeartbeats 2000000 in
theorem forme47 {p : Prs} {A : PrsA} {f : Fme} {a : Option Addr} {c : Nat} {w : World} (hf : IsInts w a f.slots) (hl : f.slots.length ≤ 1000) :
    Calls Try.prog 47 #[p.v A, f.v a c] w fun e w' => e = .returned (.bool (fmeOk p f)) ∧ Below w.heap.size w w' := by
  have HW := Lib.hid (alloc2 w (p.arr A) (f.arr a c) 27 29)
  have HF := Lib.hid (hf.mono (alloc2 w (p.arr A) (f.arr a c) 27 29).2.2)
  have HOK := Lib.hid (ok_len (p := p) (f := f))
  clear hf
  go_enter Try.func47, Try.ntmps47
  go_wp2_with fail
  revert HW HF
  generalize (w.alloc (.cells (p.arr A) 27)).alloc (.cells (f.arr a c) 29) = w1
  intro HW HF
  have pc := prs_cells HW.out.1
  have x0 : w1.cell? ⟨w.heap.size + 1, 0, none⟩ = some (.slice a f.slots.length c) := by rw [cell_of_heap HW.out.2.1]; rfl
  have x1 : w1.cell? ⟨w.heap.size + 1, 1, none⟩ = some (.int .i64 f.times) := by rw [cell_of_heap HW.out.2.1]; rfl
  have z0 := pc.c0
  have z6 := pc.c6
  clear pc
  go_loop [5, 6] (fun n i => ∃ k : Nat, k ≤ f.slots.length ∧ i = .int .i64 k ∧ n = .int .i64 (sumL (f.slots.take k)) ∧ Hid (∀ x ∈ f.slots.take k, 0 ≤ x ∧ x ≤ 6)) (fun _ i => f.slots.length - (intOf i).toNat)
  case atStart => exact ⟨0, by omega, rfl, rfl, fun x hx => by simp at hx⟩
  case round =>
    obtain ⟨k, hk, rfl, rfl, HR⟩ := hrel
    have hbd := sumL_bd HR.out
    have hlk : (f.slots.take k).length ≤ k := List.length_take_le _ _
    by_cases hlt : k < f.slots.length
    · obtain ⟨b, off, hab, hcell⟩ := HF.out k hlt
      subst hab
      have HS := Lib.hid (sumL_take hlt)
      have HTK : Hid (f.slots.take (k + 1) = f.slots.take k ++ [gi f.slots k]) := by
        rw [Hid, List.take_succ_eq_append_getElem hlt]
        simp [gi, hlt]
      have HIN : Hid (gi f.slots k ∈ f.slots) := by simp [Hid, gi, hlt]
      revert HS hcell HTK hbd HIN
      generalize sumL (f.slots.take k) = s
      generalize gi f.slots k = x
      intro hbd hcell HS HTK HIN
      cases hx : inR x 0 6
      · have HX := Lib.hid hx
        have HC := in_any x 0 6 w1
        rw [hx] at HC
        have HCH := Lib.hid HC
        clear hx HC
        go_wp2_with fail
        refine HCH.out.mono ?_
        rintro e w' ⟨rfl, rfl⟩
        go_wp2_with fail
        go_ret
        have e : f.slots.all (fun n => inR n 0 6) = false := by
          rw [List.all_eq_false]
          exact ⟨x, HIN.out, by rw [HX.out]; decide⟩
        exact ⟨ret_bool (by rw [HOK.out, e]; rfl), HW.out.2.2⟩
      · have HX := Lib.hid (show 0 ≤ x ∧ x ≤ 6 by simpa [inR] using hx)
        have hx2 := HX.out
        have HC := in_any x 0 6 w1
        rw [hx] at HC
        have HCH := Lib.hid HC
        clear hx HC
        go_wp2_with fail
        refine HCH.out.mono ?_
        rintro e w' ⟨rfl, rfl⟩
        go_wp2_with fail
        go_round
        case rel => exact ⟨k + 1, by omega, by go_num, by rw [HS.out], fun y hy => by
          rw [HTK.out, List.mem_append] at hy
          rcases hy with hy | hy
          · exact HR.out y hy
          · rw [List.mem_singleton] at hy; rw [hy]; exact HX.out⟩
        case measure => simp [intOf]; omega
    · have hke : f.slots.take k = f.slots := List.take_of_length_le (by omega)
      have hall : f.slots.all (fun n => inR n 0 6) = true := by
        rw [List.all_eq_true]
        intro x hx
        have := HR.out x (by rw [hke]; exact hx)
        simpa [inR] using this
      rw [hke] at hbd ⊢
      have HOK2 := HOK.out
      rw [hall, Bool.true_and] at HOK2
      have HO := Lib.hid HOK2
      obtain ⟨e1, he1⟩ : ∃ e, ((f.slots.length : Int) == (p.wanted.length : Int)) = e := ⟨_, rfl⟩
      obtain ⟨e3, he3⟩ : ∃ e, inR (sumL f.slots) 1 p.room = e := ⟨_, rfl⟩
      obtain ⟨e4, he4⟩ : ∃ e, inR f.times 1 1048576 = e := ⟨_, rfl⟩
      have C3 := in_any (sumL f.slots) 1 p.room w1
      have C4 := in_any f.times 1 1048576 w1
      rw [he3] at C3
      rw [he4] at C4
      rw [he1, he3, he4] at HO
      have H3 := Lib.hid C3
      have H4 := Lib.hid C4
      clear hke hall HOK2 he3 he4 C3 C4 HR HOK
      cases e1 <;> cases e3 <;> cases e4
      all_goals
        go_wp2_with fail
        all_goals first
          | (refine ⟨fun _ _ => trivial, ?_⟩; go_wp2_with fail)
          | (refine H3.out.mono ?_
             rintro e w' ⟨rfl, rfl⟩
             go_wp2_with fail)
          | skip
        all_goals first
          | (refine ⟨fun _ _ => trivial, ?_⟩; go_wp2_with fail)
          | (refine H4.out.mono ?_
             rintro e w' ⟨rfl, rfl⟩
             go_wp2_with fail)
          | skip
        go_ret
        exact ⟨ret_bool (by rw [HO.out]; rfl), HW.out.2.2⟩
end Go.Proofs.Ytjkhclijmcmdjaa
namespace Go.Proofs.Ytjkhclijmcmdjaa
open Go.RowKit
set_option linter.unusedVariables false
set_option linter.unusedSimpArgs false
/-- A press that is looked at. -/
structure IsPress (w : World) (p : Prs) (A : PrsA) (bp : Nat) : Prop where
  h : w.heap[bp]? = some (.cells (p.arr A) 91 (0, 0))
  prs : IsPrs w p A
theorem IsPress.mono {w w' : World} {p : Prs} {A : PrsA} {bp : Nat} (h : IsPress w p A bp) (hb : Below w.heap.size w w') : IsPress w' p A bp := ⟨(hb.block _ (heap_lt h.h)).trans h.h, h.prs.mono hb⟩
theorem IsPress.c {w : World} {p : Prs} {A : PrsA} {bp : Nat} (h : IsPress w p A bp) : PrsC w bp p A := prs_cells h.h
/-- Spoiled sheets, within bounds. -/
structure Spoil (p : Prs) : Prop where
  lo : 0 ≤ p.slo
  le : p.slo ≤ p.shi
  hi : p.shi ≤ 50
theorem mul_bd {n m : Int} {a b : Int} (h0 : 0 ≤ n) (h1 : n ≤ a) (h2 : 0 ≤ m) (h3 : m ≤ b) : 0 ≤ n * m ∧ n * m ≤ a * b := by
  refine ⟨Int.mul_nonneg h0 h2, ?_⟩
  exact Int.mul_le_mul h1 h3 h2 (by omega)
theorem good_bd {p : Prs} (S : Spoil p) {n : Int} (h0 : 0 ≤ n) (h1 : n ≤ 2097152) : (0 ≤ (p.good n).lo ∧ (p.good n).lo ≤ n) ∧ (p.good n).lo ≤ (p.good n).hi ∧ (p.good n).hi ≤ n := by
  have e1 := mul_bd h0 (Int.le_refl n) (by have := S.lo; have := S.le; omega : 0 ≤ p.shi) S.hi
  have e2 := mul_bd h0 (Int.le_refl n) S.lo (by have := S.le; have := S.hi; omega : p.slo ≤ 50)
  have e3 : n * p.slo ≤ n * p.shi := Int.mul_le_mul_of_nonneg_left S.le h0
  unfold Prs.good
  dsimp only
  omega
set_option maxHeartbeats 1000000 in
theorem good70 {p : Prs} {A : PrsA} {bp : Nat} {w : World} (hP : IsPress w p A bp) (S : Spoil p) {n : Int} (h0 : 0 ≤ n) (h1 : n ≤ 2097152) :
    Calls Try.prog 70 #[.pointer (some ⟨bp, 0, none⟩), .int .i64 n] w fun e w' => e = .returned (p.good n).v ∧ Below w.heap.size w w' := by
  have e1 := mul_bd h0 h1 (by have := S.lo; have := S.le; omega : 0 ≤ p.shi) S.hi
  have e2 := mul_bd h0 h1 S.lo (by have := S.le; have := S.hi; omega : p.slo ≤ 50)
  have hb0 : Below w.heap.size w (w.alloc (.cells #[.int .i64 0, .int .i64 0] 96)) := (Below.refl _ w).alloc (Nat.le_refl _) _
  have hn := World.alloc_heap_new w (.cells #[.int .i64 0, .int .i64 0] 96)
  have hgl : (p.good n).lo = n - (n * p.shi + 99) / 100 := rfl
  have hgh : (p.good n).hi = n - n * p.slo / 100 := rfl
  have HG := Lib.hid (And.intro hgl hgh)
  have HX := Lib.hid (And.intro hb0 (And.intro hn (hP.mono hb0)))
  clear hb0 hn hgl hgh
  have w1' : IntKind.i64.wrap (n * p.shi) = n * p.shi := IntWalk.i64_in _ (by omega)
  have w2' : IntKind.i64.wrap (n * p.shi + 99) = n * p.shi + 99 := IntWalk.i64_in _ (by omega)
  have w3' : (n * p.shi + 99).tdiv 100 = (n * p.shi + 99) / 100 := Int.tdiv_eq_ediv_of_nonneg (by omega)
  have w4' : IntKind.i64.wrap ((n * p.shi + 99) / 100) = (n * p.shi + 99) / 100 := IntWalk.i64_in _ (by omega)
  have w5' : IntKind.i64.wrap (n - (n * p.shi + 99) / 100) = n - (n * p.shi + 99) / 100 := IntWalk.i64_in _ (by omega)
  have v1 : IntKind.i64.wrap (n * p.slo) = n * p.slo := IntWalk.i64_in _ (by omega)
  have v3 : (n * p.slo).tdiv 100 = n * p.slo / 100 := Int.tdiv_eq_ediv_of_nonneg (by omega)
  have v4 : IntKind.i64.wrap (n * p.slo / 100) = n * p.slo / 100 := IntWalk.i64_in _ (by omega)
  have v5 : IntKind.i64.wrap (n - n * p.slo / 100) = n - n * p.slo / 100 := IntWalk.i64_in _ (by omega)
  go_enter Try.func70, Try.ntmps70
  go_wp2_with fail
  revert HX
  generalize (w.alloc (.cells #[.int .i64 0, .int .i64 0] 96)) = w1
  generalize hbx : w.heap.size = bx
  intro HX
  have pc := HX.out.2.2.c
  have y2 := fun y : Aft w1.heap.size w1 => cell_stays y.h pc.c2
  have y3 := fun y : Aft w1.heap.size w1 => cell_stays y.h pc.c3
  clear pc
  refine wp_region_aft_tail 24 mixed (by kernel_rfl) ?_
  simp only [List.take_succ_cons, List.take_zero, List.drop_succ_cons, List.drop_zero]
  repeat (go_big_quiet_step (fail))
  refine wpQuiet_nil ?_
  rintro _ ⟨y, rfl⟩
  have hq := (y.h.block _ (heap_lt HX.out.2.1)).trans HX.out.2.1
  have x0 : y.v.cell? ⟨bx, 0, none⟩ = some (.int .i64 0) := by rw [cell_of_heap hq]; rfl
  have x1 : y.v.cell? ⟨bx, 1, none⟩ = some (.int .i64 0) := by rw [cell_of_heap hq]; rfl
  have f0 : ∀ k, y.v.frozen? ⟨bx, k, none⟩ = false := fun k => frozen_of_heap hq
  have HQ := Lib.hid hq
  clear hq
  go_wp2_with fail
  have h4 := heap_setCell_at (k := 1) (heap_setCell_at (k := 0) HQ.out (.int .i64 (n - (n * p.shi + 99) / 100))) (.int .i64 (n - n * p.slo / 100))
  refine bodyPost_ret (v := (p.good n).v) (by
    have c0 : ((y.v.setCell ⟨bx, 0, none⟩ (.int .i64 (n - (n * p.shi + 99) / 100))).setCell ⟨bx, 1, none⟩ (.int .i64 (n - n * p.slo / 100))).cell? ⟨bx, 0, none⟩ = some (.int .i64 (n - (n * p.shi + 99) / 100)) := by rw [cell_of_heap h4]; rfl
    have c1 : ((y.v.setCell ⟨bx, 0, none⟩ (.int .i64 (n - (n * p.shi + 99) / 100))).setCell ⟨bx, 1, none⟩ (.int .i64 (n - n * p.slo / 100))).cell? ⟨bx, 1, none⟩ = some (.int .i64 (n - n * p.slo / 100)) := by rw [cell_of_heap h4]; rfl
    show _ = Result.ok (Value.agg #[.int .i64 (n - (n * p.shi + 99) / 100), .int .i64 (n - n * p.slo / 100)]) _
    simp [results, Try.results70, c0, c1, go_sem]) rfl ⟨rfl, ?_⟩
  have hsz := HX.out.1.size
  rw [hbx] at hsz ⊢
  have hbw : Below bx w y.v := HX.out.1.trans (y.h.mono hsz)
  exact (hbw.setCell (p := ⟨bx, _, none⟩) (Nat.le_refl _) _).setCell (p := ⟨bx, _, none⟩) (Nat.le_refl _) _
theorem pick71 (s : Spn) (b : Bool) (w : World) :
    Calls Try.prog 71 #[s.v, .bool b] w fun e w' => e = .returned (.int .i64 (if b then s.lo else s.hi)) ∧ Below w.heap.size w w' := by
  have hb0 : Below w.heap.size w (w.alloc (.cells s.arr 96)) := (Below.refl _ w).alloc (Nat.le_refl _) _
  have HB := Lib.hid hb0
  clear hb0
  cases b
  · go_enter Try.func71, Try.ntmps71
    go_wp2_with fail
    go_ret
    exact ⟨rfl, HB.out⟩
  · go_enter Try.func71, Try.ntmps71
    go_wp2_with fail
    go_ret
    exact ⟨rfl, HB.out⟩
end Go.Proofs.Ytjkhclijmcmdjaa
