/- What a cabinet of lent cards can come to, in plain Lean: no program in sight. Maps as lists of pairs, slices as lists: words on memory and their laws, over whatever program. The small functions of the cabinet: numbers, cards, slots. A region that draws its order, whose first operations are quiet in a class of worlds and whose last ones are forced; a range over a function; deferred calls that recover: laws over whatever program. Whether a cabinet is valid; the rules; sets; the least and the greatest number. Whether a cabinet is valid: the whole test; a cabinet that is looked at. Whether a cabinet is valid; a cabinet that is looked at. The states that can be reached, one loan after the other: plain Lean. The map of states; a state added to it; the rules. The rules; sets; the least and the greatest number; a misfit that is caught. -/
import Derived.WalkKit
import Derived.WalkSpells
import Derived.WalkLawsBesides
import Derived.Lib.Hide
import Derived.Maps.Keyed
import Derived.Maps.RangeRun
import Derived.DeepKeys5
import Derived.Test.YtbnhngfegnhaiaaGreatDoorProg
import Derived.StillTail
import Derived.BigQuiet
import Derived.RangeFuncLeaves
import Derived.RangeFuncNested
import Derived.RangeFuncCalls
import Derived.OrdersIn
import Derived.TacticsIn
import Derived.BigRegion
namespace Go.Proofs.YtbnhngfegnhaiaaGreatDoor
structure Ln where
  kind : Int
  card : Int
  person : Int
  slot : Int
deriving DecidableEq
structure Cab where
  slots : Int
  homes : List Int
  wrong : Int
  loans : List Ln
/-- The k-th number, the k-th loan. -/
def gi (l : List Int) (k : Nat) : Int := l.getD k 0
def gl (l : List Ln) (k : Nat) : Ln := l.getD k ⟨0, 0, 0, 0⟩
def inR (n lo hi : Int) : Bool := decide (lo ≤ n) && decide (n ≤ hi)
namespace Cab
def card (c : Cab) (n : Int) : Bool := inR n 0 ((c.homes.length : Int) - 1)
def slotOf (c : Cab) (n : Int) : Bool := inR n 0 (c.slots - 1)
def lent (c : Cab) (l : Ln) : Bool := c.card l.card && inR l.person 0 7
def look (c : Cab) (l : Ln) : Bool := c.slotOf l.slot && (decide (l.card = -1) || c.card l.card)
def loanOk (c : Cab) (l : Ln) : Bool :=
  if l.kind = 0 then c.lent l else if l.kind = 1 then c.lent l else if l.kind = 2 then c.look l else false
def homesOk (c : Cab) : Bool := decide (c.homes.Nodup) && c.homes.all c.slotOf
def sizes (c : Cab) : Bool := inR c.slots 1 6 && decide (c.homes.length ≤ 5) && inR c.wrong 0 12 && decide (c.loans.length ≤ 12)
def valid (c : Cab) : Bool := c.sizes && c.homesOk && c.loans.all c.loanOk
end Cab
/-- Which card lies in a slot, from card k on; -1: none. -/
def liesFrom : List Int → Int → Nat → Int
  | [], _, _ => -1
  | x :: r, slot, k => if x = slot then (k : Int) else liesFrom r slot (k + 1)
def lies (at_ : List Int) (slot : Int) : Int := liesFrom at_ slot 0
/-- What a loan can come to: where the cards are then, and whether one was put back wrong. -/
def step (c : Cab) (at_ : List Int) (l : Ln) : List (List Int × Bool) :=
  if l.kind = 0 then (if gi at_ l.card.toNat = -1 then [] else [(at_.set l.card.toNat (-1), false)])
  else if l.kind = 1 then
    (if gi at_ l.card.toNat = -1 then
      (List.range c.slots.toNat).filterMap fun (s : Nat) =>
        if lies at_ (s : Int) = -1 then some (at_.set l.card.toNat (s : Int), !decide ((s : Int) = gi c.homes l.card.toNat)) else none
     else [])
  else (if lies at_ l.slot = l.card then [(at_, false)] else [])
/-- All ways through some loans. -/
def paths (c : Cab) : List Ln → List Int → List (List Int × List Bool)
  | [], at_ => [(at_, [])]
  | l :: ls, at_ => (step c at_ l).flatMap fun x => (paths c ls x.1).map fun y => (y.1, x.2 :: y.2)
def wrongs (bs : List Bool) : Nat := bs.countP id
/-- A rule: whether a loan (its number, itself) may be right, or wrong. -/
abbrev Rule := Nat → Ln → Bool → Bool
def okAll (r : Rule) : Nat → List Ln → List Bool → Bool
  | _, [], _ => true
  | _, _, [] => true
  | i, l :: ls, b :: bs => r i l b && okAll r (i + 1) ls bs
def anyRule : Rule := fun _ _ _ => true
/-- All truths by a rule, for so many loans, if at most so many are wrong. -/
def truthsBy (c : Cab) (r : Rule) (ls : List Ln) (W : Int) : List (List Int × List Bool) :=
  (paths c ls c.homes).filter fun x => okAll r 0 ls x.2 && decide ((wrongs x.2 : Int) ≤ W)
def truths (c : Cab) : List (List Int × List Bool) := truthsBy c anyRule c.loans c.wrong
/-- A set of small numbers. -/
def bitsOf (l : List Nat) : Nat := l.foldl (fun s n => s ||| 2 ^ n) 0
def checkFrom (c : Cab) : Nat → Nat → Int × Int
  | 0, _ => (0, 4)
  | f + 1, i => if (truthsBy c anyRule (c.loans.take (i + 1)) c.wrong).isEmpty then ((i : Int), 0) else checkFrom c f (i + 1)
def check (c : Cab) : Int × Int := if c.valid then checkFrom c c.loans.length 0 else (0, 1)
def openE (c : Cab) (ok : Bool) : Int :=
  if !c.valid then 1 else if !ok then 2 else if (truths c).isEmpty then 4 else 0
def whereE (c : Cab) (card : Int) : Int × Bool × Int :=
  let e := openE c (c.card card)
  if e = 0 then
    let l := (truths c).map fun x => gi x.1 card.toNat
    ((bitsOf ((l.filter fun s => !decide (s = -1)).map Int.toNat) : Int), l.any (fun s => decide (s = -1)), 0)
  else (0, false, e)
def slotE (c : Cab) (slot : Int) : Int × Bool × Int :=
  let e := openE c (c.slotOf slot)
  if e = 0 then
    let l := (truths c).map fun x => lies x.1 slot
    ((bitsOf ((l.filter fun s => !decide (s = -1)).map Int.toNat) : Int), l.any (fun s => decide (s = -1)), 0)
  else (0, false, e)
def minL : List Nat → Nat
  | [] => 0
  | x :: l => l.foldl min x
def maxL : List Nat → Nat := fun l => l.foldl max 0
def away (c : Cab) (at_ : List Int) : Nat := (at_.zip c.homes).countP fun x => !decide (x.1 = -1) && !decide (x.1 = x.2)
def misplacedE (c : Cab) : (Int × Int) × Int :=
  let e := openE c true
  if e = 0 then
    let l := (truths c).map fun x => away c x.1
    (((minL l : Int), (maxL l : Int)), 0)
  else ((0, 0), e)
/-- Each state once. -/
def dedup : List (List Int) → List (List Int)
  | [] => []
  | x :: l => if l.contains x then dedup l else x :: dedup l
def states (c : Cab) : List (List Int) := dedup ((truths c).map (·.1))
end Go.Proofs.YtbnhngfegnhaiaaGreatDoor
namespace Go.Proofs.YtbnhngfegnhaiaaGreatDoor
open Go.RowKit
open Go.MapKept (Stamped)
open Go.ChangeMaps (setBlock)
theorem below_cellOf {B : Nat} {w w' : World} (h : Below B w w') {b o : Nat} {v : Value} (hb : b < B) (hc : w.cell? ⟨b, o, none⟩ = some v) : w'.cell? ⟨b, o, none⟩ = some v :=
  (h.cell (p := ⟨b, o, none⟩) hb).trans hc
theorem lt_of_cell {w : World} {b o : Nat} {v : Value} (h : w.cell? ⟨b, o, none⟩ = some v) : b < w.heap.size := World.block_lt_of_cell? _ _ h
/-- What lay in the world when the call began lies there still. -/
theorem cell_stays {w w' : World} (h : Below w.heap.size w w') {b o : Nat} {v : Value} (hc : w.cell? ⟨b, o, none⟩ = some v) : w'.cell? ⟨b, o, none⟩ = some v :=
  below_cellOf h (lt_of_cell hc) hc
/-- A slice's array holds these integers, from the slice's start on. -/
def IsInts (w : World) (a : Option Addr) (l : List Int) : Prop :=
  ∀ i, i < l.length → ∃ b off, a = some ⟨b, off, none⟩ ∧ w.cell? ⟨b, off + i, none⟩ = some (.int .i64 (gi l i))
theorem IsInts.mono {w w' : World} {a : Option Addr} {l : List Int} (h : IsInts w a l) (hb : Below w.heap.size w w') : IsInts w' a l := fun i hi => by
  obtain ⟨b, off, ha, hc⟩ := h i hi
  exact ⟨b, off, ha, cell_stays hb hc⟩
theorem IsInts.at {w : World} {a : Option Addr} {l : List Int} (h : IsInts w a l) {k : Nat} (hk : k < l.length) :
    ∃ b off, a = some ⟨b, off, none⟩ ∧ ∀ i, i < l.length → w.cell? ⟨b, off + i, none⟩ = some (.int .i64 (gi l i)) := by
  obtain ⟨b, off, ha, _⟩ := h k hk
  refine ⟨b, off, ha, fun i hi => ?_⟩
  obtain ⟨b', off', ha', hc⟩ := h i hi
  rw [ha] at ha'
  cases ha'
  exact hc
/-- Block b is a map whose entries, in their order in memory, are these. -/
def MapRaw (P : Program) (kt : TypeId) (w : World) (b : Nat) (L : List (Value × Value)) : Prop :=
  ∃ es clock, w.heap[b]? = some (.map es clock) ∧ Stamped es clock ∧ es.toList.map (fun e => (e.key, e.val)) = L ∧ ∀ e ∈ es.toList, ∃ l, keyOf P kt e.key = some l
theorem MapRaw.kept {P : Program} {kt : TypeId} {w w' : World} {b : Nat} {L : List (Value × Value)} (h : MapRaw P kt w b L) (hb : w'.heap[b]? = w.heap[b]?) : MapRaw P kt w' b L := by
  obtain ⟨es, clock, h1, h2⟩ := h
  exact ⟨es, clock, hb.trans h1, h2⟩
theorem MapRaw.lt {P : Program} {kt : TypeId} {w : World} {b : Nat} {L : List (Value × Value)} (h : MapRaw P kt w b L) : b < w.heap.size := by
  obtain ⟨es, clock, h1, _⟩ := h
  exact (Array.getElem?_eq_some_iff.1 h1).1
theorem MapRaw.made (P : Program) (kt : TypeId) (w : World) : MapRaw P kt (w.alloc (.map #[] 0)) w.heap.size [] :=
  ⟨#[], 0, (MapKept.heap_alloc w _).1, MapKept.stamped_empty 0, rfl, by simp⟩
theorem MapRaw.nodup {P : Program} {kt : TypeId} {w : World} {b : Nat} {L : List (Value × Value)} (h : MapRaw P kt w b L) : (L.map (·.1)).Nodup := by
  obtain ⟨es, clock, _, h2, rfl, _⟩ := h
  rw [List.map_map]
  exact h2.2.2
theorem MapRaw.find {P : Program} {kt : TypeId} {w : World} {b : Nat} {L : List (Value × Value)} (K : Maps.Keyed P kt) (h : MapRaw P kt w b L) {key : Value} (hkey : ∃ l, keyOf P kt key = some l) :
    ∃ es clock, w.heap[b]? = some (.map es clock) ∧ Stamped es clock ∧ es.toList.map (fun e => (e.key, e.val)) = L ∧ (∀ e ∈ es.toList, ∃ l, keyOf P kt e.key = some l) ∧
      (((Instr.findKey kt key es.toList).run P w = .ok none w ∧ ∀ p ∈ L, p.1 ≠ key) ∨
       ∃ j v, (Instr.findKey kt key es.toList).run P w = .ok (some (j, v)) w ∧ L[j]? = some (key, v)) := by
  obtain ⟨es, clock, h1, h2, h3, h4⟩ := h
  obtain ⟨l, hl⟩ := hkey
  refine ⟨es, clock, h1, h2, h3, h4, ?_⟩
  rcases K.find w hl es.toList h4 with ⟨hr, hn⟩ | ⟨j, e, hr, hj, he⟩
  · refine .inl ⟨hr, fun p hp => ?_⟩
    rw [← h3] at hp
    obtain ⟨e, he, rfl⟩ := List.mem_map.1 hp
    exact hn e he
  · refine .inr ⟨j, e.val, hr, ?_⟩
    rw [← h3, List.getElem?_map, hj]
    simp [he]
/-- 'v, ok := m[k]'. -/
theorem MapRaw.look {P : Program} {kt t et : TypeId} {w : World} {b : Nat} {L : List (Value × Value)} (K : Maps.Keyed P kt) (ht : P.underlying t = some (.map kt et)) (h : MapRaw P kt w b L)
    {key z : Value} (hkey : ∃ l, keyOf P kt key = some l) (hz : (zeroValue et).run P w = .ok z w) (commaOk : Bool) :
    ∃ v ok, (Instr.lookup t (.map (some b)) key commaOk).run P w = .ok (if commaOk then .tuple #[v, .bool ok] else v) w ∧
      ((ok = false ∧ v = z ∧ ∀ p ∈ L, p.1 ≠ key) ∨ (ok = true ∧ (key, v) ∈ L)) := by
  obtain ⟨es, clock, h1, h2, h3, h4, hf⟩ := h.find K hkey
  obtain ⟨l, hl⟩ := hkey
  rcases hf with ⟨hr, hn⟩ | ⟨j, v, hr, hj⟩
  · refine ⟨z, false, ?_, .inl ⟨rfl, rfl, hn⟩⟩
    simp [Instr.lookup, run_underlying ht, MapKept.run_getObj_map h1, K.check w _ hl, hr, hz, Result.andThen]
  · refine ⟨v, true, ?_, .inr ⟨rfl, List.mem_of_getElem? hj⟩⟩
    simp [Instr.lookup, run_underlying ht, MapKept.run_getObj_map h1, K.check w _ hl, hr, Result.andThen]
/-- 'm[k] = v'. -/
theorem MapRaw.update {P : Program} {kt t et : TypeId} {w : World} {b : Nat} {L : List (Value × Value)} (K : Maps.Keyed P kt) (ht : P.underlying t = some (.map kt et)) (h : MapRaw P kt w b L)
    {key : Value} (hkey : ∃ l, keyOf P kt key = some l) (val : Value) :
    ∃ w', (Instr.mapUpdate t (.map (some b)) key val).run P w = .ok () w' ∧ w.grownBy w' (some b) ∧ w'.heap.size = w.heap.size ∧
      (((∀ p ∈ L, p.1 ≠ key) ∧ MapRaw P kt w' b (L ++ [(key, val)])) ∨ ∃ j v, L[j]? = some (key, v) ∧ MapRaw P kt w' b (L.set j (key, val))) := by
  obtain ⟨es, clock, h1, h2, h3, h4, hf⟩ := h.find K hkey
  obtain ⟨l, hl⟩ := hkey
  have grown : ∀ o : Obj, w.grownBy (setBlock w b o) (some b) := fun o => ⟨rfl, rfl, rfl, by simp [setBlock], fun i _ hi => ChangeMaps.heap_setBlock_other h1 _ (fun e => hi (by rw [e]))⟩
  rcases hf with ⟨hr, hn⟩ | ⟨j, v, hr, hj⟩
  · refine ⟨setBlock w b (.map (es.push ⟨key, val, clock⟩) (clock + 1)), ?_, grown _, by simp [setBlock], .inl ⟨hn, es.push ⟨key, val, clock⟩, clock + 1, ChangeMaps.heap_setBlock_same h1 _, ?_, ?_, ?_⟩⟩
    · simp [Instr.mapUpdate, run_underlying ht, MapKept.run_getObj_map h1, K.check w false hl, hr, MapKept.run_setObj_map _ h1, Result.andThen, setBlock]
    · exact MapKept.stamped_push h2 (fun x hx => hn (x.key, x.val) (by rw [← h3]; exact List.mem_map.2 ⟨x, hx, rfl⟩))
    · simp [h3]
    · intro e he
      simp only [Array.toList_push, List.mem_append, List.mem_singleton] at he
      rcases he with he | rfl
      · exact h4 e he
      · exact ⟨l, hl⟩
  · have hj' : ∃ e, es.toList[j]? = some e ∧ e.key = key ∧ e.val = v := by
      rw [← h3, List.getElem?_map] at hj
      cases he : es.toList[j]? with
      | none => rw [he] at hj; simp at hj
      | some e =>
        rw [he] at hj
        simp at hj
        exact ⟨e, rfl, hj.1, hj.2⟩
    obtain ⟨e, he, hek, hev⟩ := hj'
    have heA : es[j]? = some e := by simpa using he
    refine ⟨setBlock w b (.map (es.modify j fun x => { x with key, val := val }) clock), ?_, grown _, by simp [setBlock], .inr ⟨j, v, hj, _, clock, ChangeMaps.heap_setBlock_same h1 _, ?_, ?_, ?_⟩⟩
    · simp [Instr.mapUpdate, run_underlying ht, MapKept.run_getObj_map h1, K.check w false hl, hr, heA, hek, K.stays w hl, MapKept.run_setObj_map _ h1, Result.andThen, setBlock]
    · exact MapKept.stamped_modify h2 j _ (fun _ _ => rfl) (fun x _ hx => by rw [heA] at hx; cases hx; exact hek.symm)
    · apply List.ext_getElem?
      intro i
      rw [List.getElem?_map, Array.getElem?_toList, Array.getElem?_modify, ← h3, List.getElem?_set]
      by_cases hij : j = i
      · subst hij
        have hlt : j < es.size := (Array.getElem?_eq_some_iff.1 heA).1
        simp [hlt]
      · simp [hij]
    · intro x hx
      have hx' : x ∈ es.modify j (fun x => { x with key, val := val }) := Array.mem_toList_iff.1 hx
      obtain ⟨i, hi, rfl⟩ := Array.getElem_of_mem hx'
      rw [Array.getElem_modify]
      split
      · exact ⟨l, hl⟩
      · exact h4 _ (by simp)
/-- 'len(m)'. -/
theorem MapRaw.len {P : Program} {kt et t : TypeId} {w : World} {b : Nat} {L : List (Value × Value)} (ht : P.underlying t = some (.map kt et)) (h : MapRaw P kt w b L) (ty : TypeId) :
    (Builtin.len_ #[t] ty #[.map (some b)]).run P w = .ok (.int .i64 L.length) w := by
  obtain ⟨es, clock, h1, _, rfl, _⟩ := h
  simp [Builtin.len_, run_underlying ht, MapKept.run_getObj_map h1, Result.andThen, goInt]
/-- 'for k, v := range m' under way: block r is an iterator over the map b; what is still to come. -/
def Rng (P : Program) (kt : TypeId) (w : World) (b r : Nat) (L todo : List (Value × Value)) : Prop :=
  ∃ es clock seen, w.heap[b]? = some (.map es clock) ∧ Stamped es clock ∧ es.toList.map (fun e => (e.key, e.val)) = L ∧ (∀ e ∈ es.toList, ∃ l, keyOf P kt e.key = some l) ∧
    w.heap[r]? = some (.mapIter (some b) clock seen clock) ∧ (leftOf es seen).toList.map (fun e => (e.key, e.val)) = todo
theorem Rng.raw {P : Program} {kt : TypeId} {w : World} {b r : Nat} {L todo : List (Value × Value)} (h : Rng P kt w b r L todo) : MapRaw P kt w b L := by
  obtain ⟨es, clock, seen, h1, h2, h3, h4, _⟩ := h
  exact ⟨es, clock, h1, h2, h3, h4⟩
theorem Rng.kept {P : Program} {kt : TypeId} {w w' : World} {b r : Nat} {L todo : List (Value × Value)} (h : Rng P kt w b r L todo) (hb : w'.heap[b]? = w.heap[b]?) (hr : w'.heap[r]? = w.heap[r]?) : Rng P kt w' b r L todo := by
  obtain ⟨es, clock, seen, h1, h2, h3, h4, h5, h6⟩ := h
  exact ⟨es, clock, seen, hb.trans h1, h2, h3, h4, hr.trans h5, h6⟩
theorem Rng.lt {P : Program} {kt : TypeId} {w : World} {b r : Nat} {L todo : List (Value × Value)} (h : Rng P kt w b r L todo) : r < w.heap.size := by
  obtain ⟨es, clock, seen, _, _, _, _, h5, _⟩ := h
  exact (Array.getElem?_eq_some_iff.1 h5).1
/-- How many are still to come, read off the world: a loop's measure. -/
def rngLeft (w : World) (b r : Nat) : Nat :=
  match w.heap[b]?, w.heap[r]? with
  | some (.map es _), some (.mapIter _ _ seen _) => (leftOf es seen).size
  | _, _ => 0
theorem Rng.left {P : Program} {kt : TypeId} {w : World} {b r : Nat} {L todo : List (Value × Value)} (h : Rng P kt w b r L todo) : rngLeft w b r = todo.length := by
  obtain ⟨es, clock, seen, h1, _, _, _, h5, rfl⟩ := h
  simp [rngLeft, h1, h5]
/-- 'range m' begins. -/
theorem MapRaw.range {P : Program} {kt et t : TypeId} {w : World} {b : Nat} {L : List (Value × Value)} (ht : P.underlying t = some (.map kt et)) (h : MapRaw P kt w b L) :
    ∃ w', (Instr.range t (.map (some b))).run P w = .ok (.pointer (some ⟨w.heap.size, 0, none⟩)) w' ∧ Rng P kt w' b w.heap.size L L ∧ w.grownBy w' none ∧ w'.heap.size = w.heap.size + 1 := by
  obtain ⟨es, clock, h1, h2, h3, h4⟩ := h
  refine ⟨w.alloc (.mapIter (some b) clock #[] clock), ?_, ⟨es, clock, #[], (Below.heap_alloc _ _ _ (Array.getElem?_eq_some_iff.1 h1).1).trans h1, h2, h3, h4, (MapKept.heap_alloc w _).1, ?_⟩, World.grownBy_alloc _ _ _, by simp⟩
  · simp [Instr.range, run_underlying ht, MapKept.run_getObj_map h1, Result.andThen]
  · rw [← h3]; unfold leftOf; simp only [Array.toList_filter]; rw [List.filter_eq_self.2 (fun x _ => by simp)]
theorem put_same {w : World} {r : Nat} {o : Obj} (h : w.heap[r]? = some o) (o' : Obj) : (setBlock w r o').heap[r]? = some o' := by
  have := (Array.getElem?_eq_some_iff.1 h).1
  simp [setBlock, this]
theorem put_other {w : World} {r k : Nat} (o' : Obj) (hk : k ≠ r) : (setBlock w r o').heap[k]? = w.heap[k]? := by
  simp [setBlock, Array.getElem?_setIfInBounds_ne (Ne.symm hk)]
/-- A step of 'range m'. -/
theorem Rng.next {P : Program} {kt : TypeId} {w : World} {b r : Nat} {L todo : List (Value × Value)} (h : Rng P kt w b r L todo) (ty : TypeId) :
    (todo = [] ∧ (Instr.next (.pointer (some ⟨r, 0, none⟩)) false ty).run P w = .ok (.tuple #[.bool false]) w) ∨
    ∃ k v l1 l2 w', todo = l1 ++ (k, v) :: l2 ∧ (k, v) ∈ L ∧ (Instr.next (.pointer (some ⟨r, 0, none⟩)) false ty).run P w = .ok (.tuple #[.bool true, k, v]) w' ∧
      Rng P kt w' b r L (l1 ++ l2) ∧ w.grownBy w' (some r) ∧ w'.heap.size = w.heap.size ∧ (Instr.entry (.pointer (some ⟨r, 0, none⟩))).run P w' = .ok (.tuple #[k, v]) w' := by
  obtain ⟨es, clock, seen, h1, h2, h3, h4, h5, h6⟩ := h
  rcases run_next_at (P := P) w ty r b clock clock seen es clock h5 h1 h2.1 (Nat.le_refl _) with ⟨h0, hr⟩ | ⟨e, he, w1, hw1, hr⟩
  · refine .inl ⟨?_, hr⟩
    rw [← h6]
    have : leftOf es seen = #[] := Array.eq_empty_of_size_eq_zero h0
    simp [this]
  · right
    have hrb : r ≠ b := fun e => by rw [e, h1] at h5; cases h5
    have hh1 : w1.heap = w.heap := by rcases hw1 with rfl | rfl <;> rfl
    have hr1 : w1.heap[r]? = some (.mapIter (some b) clock seen clock) := by rw [hh1]; exact h5
    have hb' : (setBlock w1 r (.mapIter (some b) clock (seen.push e.born) clock)).heap[b]? = some (.map es clock) := by
      rw [put_other _ (Ne.symm hrb), hh1]; exact h1
    have hr' := put_same hr1 (.mapIter (some b) clock (seen.push e.born) clock)
    have hmem : e ∈ es.toList := by
      simp [leftOf] at he
      simpa using he.1
    obtain ⟨l1, l2, hl⟩ := List.append_of_mem he
    have hnd : ((leftOf es seen).toList.map (·.born)).Nodup := by
      have := h2.2.1
      refine List.Nodup.sublist ?_ this
      exact List.Sublist.map _ (by simp [leftOf])
    have hnew : (leftOf es (seen.push e.born)).toList = l1 ++ l2 := by
      have e1 : (leftOf es (seen.push e.born)).toList = (leftOf es seen).toList.filter (fun x => !(x.born == e.born)) := by
        simp only [leftOf, Array.toList_filter, List.filter_filter]
        apply List.filter_congr
        intro x _
        have e2 : (x.born == e.born) = decide (x.born = e.born) := rfl
        simp [Bool.and_comm, e2]
      rw [e1, hl]
      rw [hl] at hnd
      simp only [List.map_append, List.map_cons] at hnd
      have hn1 : ∀ x ∈ l1, x.born ≠ e.born := fun x hx => by
        have := (List.nodup_append.1 hnd).2.2
        exact this _ (List.mem_map.2 ⟨x, hx, rfl⟩) _ (by simp)
      have hn2 : ∀ x ∈ l2, x.born ≠ e.born := fun x hx => by
        have := ((List.nodup_cons.1 (List.nodup_append.1 hnd).2.1).1)
        exact fun hb => this (List.mem_map.2 ⟨x, hx, hb⟩)
      rw [List.filter_append, List.filter_cons]
      rw [List.filter_eq_self.2 (fun x hx => by simpa using hn1 x hx), List.filter_eq_self.2 (fun x hx => by simpa using hn2 x hx)]
      simp
    refine ⟨e.key, e.val, l1.map (fun e => (e.key, e.val)), l2.map (fun e => (e.key, e.val)), _, ?_, ?_, hr, ⟨es, clock, seen.push e.born, hb', h2, h3, h4, hr', ?_⟩, ?_, ?_, ?_⟩
    · rw [← h6, hl]; simp
    · rw [← h3]; exact List.mem_map.2 ⟨e, hmem, rfl⟩
    · rw [hnew]; simp
    · refine ⟨?_, ?_, ?_, ?_, fun i hi hne => ?_⟩
      · rcases hw1 with rfl | rfl <;> rfl
      · rcases hw1 with rfl | rfl <;> rfl
      · rcases hw1 with rfl | rfl <;> rfl
      · simp [setBlock, hh1]
      · rw [put_other _ (fun e => hne (by rw [e])), hh1]
    · simp [setBlock, hh1]
    · exact run_entry_at _ r b clock seen es clock e hr' hb' hmem h2.2.1
end Go.Proofs.YtbnhngfegnhaiaaGreatDoor
namespace Go.Proofs.YtbnhngfegnhaiaaGreatDoor
open Go.RowKit
theorem ret_bool {a b : Bool} (h : a = b) : Ending.returned (.bool a) = .returned (.bool b) := by rw [h]
theorem ret_int {k : IntKind} {a b : Int} (h : a = b) : Ending.returned (.int k a) = .returned (.int k b) := by rw [h]
theorem within_any (n lo hi : Int) (w : World) :
    Calls Tryz.prog 53 #[.int .i64 n, .int .i64 lo, .int .i64 hi] w fun e w' => e = .returned (.bool (inR n lo hi)) ∧ w = w' := by
  unfold inR
  go_enter Tryz.func53, Tryz.ntmps53
  go_wp2
  all_goals go_ret
  all_goals refine ⟨ret_bool ?_, rfl⟩
  · have h : lo ≤ n := by assumption
    simp [h]
  · have h : n < lo := by assumption
    simp; omega
/-- A slice's array holds these loans. -/
def IsLoans (w : World) (a : Option Addr) (l : List Ln) : Prop :=
  ∀ i, i < l.length → ∃ b off, a = some ⟨b, off, none⟩ ∧ w.cell? ⟨b, off + i * 4, none⟩ = some (.int .i64 (gl l i).kind) ∧ w.cell? ⟨b, off + i * 4 + 1, none⟩ = some (.int .i64 (gl l i).card) ∧
    w.cell? ⟨b, off + i * 4 + 2, none⟩ = some (.int .i64 (gl l i).person) ∧ w.cell? ⟨b, off + i * 4 + 3, none⟩ = some (.int .i64 (gl l i).slot)
theorem IsLoans.mono {w w' : World} {a : Option Addr} {l : List Ln} (h : IsLoans w a l) (hb : Below w.heap.size w w') : IsLoans w' a l := fun i hi => by
  obtain ⟨b, off, ha, h0, h1, h2, h3⟩ := h i hi
  exact ⟨b, off, ha, cell_stays hb h0, cell_stays hb h1, cell_stays hb h2, cell_stays hb h3⟩
/-- Block bc holds a cabinet. -/
structure CabP (w : World) (bc : Nat) (c : Cab) (ah : Option Addr) (ch : Nat) (al : Option Addr) (cl : Nat) : Prop where
  s : w.cell? ⟨bc, 0, none⟩ = some (.int .i64 c.slots)
  h : w.cell? ⟨bc, 1, none⟩ = some (.slice ah c.homes.length ch)
  g : w.cell? ⟨bc, 2, none⟩ = some (.int .i64 c.wrong)
  l : w.cell? ⟨bc, 3, none⟩ = some (.slice al c.loans.length cl)
  hi : IsInts w ah c.homes
  li : IsLoans w al c.loans
theorem CabP.mono {w w' : World} {bc : Nat} {c : Cab} {ah : Option Addr} {ch : Nat} {al : Option Addr} {cl : Nat} (h : CabP w bc c ah ch al cl) (hb : Below w.heap.size w w') : CabP w' bc c ah ch al cl :=
  ⟨cell_stays hb h.s, cell_stays hb h.h, cell_stays hb h.g, cell_stays hb h.l, h.hi.mono hb, h.li.mono hb⟩
theorem isCard_any (n : Int) {bc : Nat} {c : Cab} {ah : Option Addr} {ch : Nat} {al : Option Addr} {cl : Nat} {w : World} (hc : CabP w bc c ah ch al cl) (hn : c.homes.length ≤ 16) :
    Calls Tryz.prog 34 #[.pointer (some ⟨bc, 0, none⟩), .int .i64 n] w fun e w' => e = .returned (.bool (c.card n)) ∧ w = w' := by
  have h1 := hc.h
  go_enter Tryz.func34, Tryz.ntmps34
  go_wp2_with (go_at_call 53; refine (within_any _ _ _ _).mono ?_; rintro e w' ⟨rfl, rfl⟩)
  go_ret
  exact ⟨rfl, rfl⟩
theorem isSlot_any (n : Int) {bc : Nat} {c : Cab} {ah : Option Addr} {ch : Nat} {al : Option Addr} {cl : Nat} {w : World} (hc : CabP w bc c ah ch al cl) (hs : 0 ≤ c.slots ∧ c.slots ≤ 100) :
    Calls Tryz.prog 44 #[.pointer (some ⟨bc, 0, none⟩), .int .i64 n] w fun e w' => e = .returned (.bool (c.slotOf n)) ∧ w = w' := by
  have h1 := hc.s
  go_enter Tryz.func44, Tryz.ntmps44
  go_wp2_with (go_at_call 53; refine (within_any _ _ _ _).mono ?_; rintro e w' ⟨rfl, rfl⟩)
  go_ret
  exact ⟨rfl, rfl⟩
/-- A state of at most five cards as the program's array: what is beyond is 0. -/
abbrev stA (at_ : List Int) : Array Value := #[.int .i64 (gi at_ 0), .int .i64 (gi at_ 1), .int .i64 (gi at_ 2), .int .i64 (gi at_ 3), .int .i64 (gi at_ 4)]
abbrev stV (at_ : List Int) : Value := .agg (stA at_)
theorem stA_get (at_ : List Int) (k : Nat) (h : k < 5) : (stA at_)[k]? = some (.int .i64 (gi at_ k)) := by
  match k, h with
  | 0, _ | 1, _ | 2, _ | 3, _ | 4, _ => rfl
theorem stA_set (at_ : List Int) (k : Nat) (h : k < 5) (hk : k < at_.length) (v : Int) : (stA at_).setIfInBounds k (.int .i64 v) = stA (at_.set k v) := by
  match k, h with
  | 0, _ | 1, _ | 2, _ | 3, _ | 4, _ => simp [gi, hk]
theorem liesFrom_hit {at_ : List Int} {slot : Int} {k : Nat} (hk : k < at_.length) (h : gi at_ k = slot) : liesFrom (at_.drop k) slot k = k := by
  rw [List.drop_eq_getElem_cons hk]
  have : at_[k] = slot := by simpa [gi, hk] using h
  simp [liesFrom, this]
theorem liesFrom_miss {at_ : List Int} {slot : Int} {k : Nat} (hk : k < at_.length) (h : ¬ gi at_ k = slot) : liesFrom (at_.drop k) slot k = liesFrom (at_.drop (k + 1)) slot (k + 1) := by
  rw [List.drop_eq_getElem_cons hk]
  have : ¬ at_[k] = slot := by simpa [gi, hk] using h
  simp [liesFrom, this]
set_option maxHeartbeats 400000 in
theorem lies_any (at_ : List Int) (slot : Int) {bc : Nat} {c : Cab} {ah : Option Addr} {ch : Nat} {al : Option Addr} {cl : Nat} {w : World} (hc : CabP w bc c ah ch al cl) (hn : c.homes.length ≤ 5) (hl : at_.length = c.homes.length) :
    Calls Tryz.prog 45 #[.pointer (some ⟨bc, 0, none⟩), stV at_, .int .i64 slot] w fun e w' => e = .returned (.int .i64 (lies at_ slot)) ∧ Below w.heap.size w w' := by
  have h1 := hc.h
  have hbc := lt_of_cell h1
  rw [← hl] at h1 hn
  clear hl hc
  go_enter Tryz.func45, Tryz.ntmps45
  go_wp2
  go_loop [6, 7, 14] (fun _ _ i => ∃ k : Nat, k ≤ at_.length ∧ i = .int .i64 k ∧ Hid (lies at_ slot = liesFrom (at_.drop k) slot k)) (fun _ _ i => at_.length - (intOf i).toNat)
  case atStart => exact ⟨0, by omega, rfl, rfl⟩
  case round =>
    obtain ⟨k, hk, rfl, HL⟩ := hrel
    by_cases hlt : k < at_.length
    · have hg := stA_get at_ k (by omega)
      go_wp2
      · have ht : (gi at_ k == slot) = true := by assumption
        go_ret
        refine ⟨ret_int ?_, (Below.refl _ _).alloc (Nat.le_refl _) _⟩
        rw [HL.out, liesFrom_hit hlt (by simpa using ht)]
      · have ht : (gi at_ k == slot) = false := by assumption
        go_round
        case rel => exact ⟨k + 1, by omega, by go_num, by rw [Hid, HL.out, liesFrom_miss hlt (by simpa using ht)]⟩
        case measure => simp [intOf]; omega
    · go_wp2
      go_ret
      refine ⟨ret_int ?_, (Below.refl _ _).alloc (Nat.le_refl _) _⟩
      rw [HL.out, List.drop_of_length_le (by omega)]
      rfl
theorem need_yes (e : Int) (w : World) : Calls Tryz.prog 48 #[.bool true, .int .i64 e] w fun en w' => en = .returned (.tuple #[]) ∧ w = w' := by
  go_enter Tryz.func48, Tryz.ntmps48
  go_wp2
  go_end0
  exact ⟨rfl, rfl⟩
theorem need_no (e : Int) (w : World) : Calls Tryz.prog 48 #[.bool false, .int .i64 e] w fun en w' => en = .panicked [{ v := .iface 106 (.agg #[.int .i64 e]), recovered := false }] ∧ w = w' := by
  go_enter Tryz.func48, Tryz.ntmps48
  go_wp2
  exact ⟨rfl, rfl, rfl⟩
end Go.Proofs.YtbnhngfegnhaiaaGreatDoor
namespace Go.Proofs.YtbnhngfegnhaiaaGreatDoor
open Go.RowKit
section
variable {P : Program} {ops : Array Oper} {md : Region.Mode} {C : World → Prop}
def wpAnyLQ (P : Program) (md : Region.Mode) (ops : Array Oper) (C : World → Prop) (n : Nat) (L : Array Bool → Act → Prop) : Nat → Array Bool → Act → Prop
  | 0, listed, a => L listed a
  | f + 1, listed, a =>
    Region.ready md ops listed ≠ [] ∧ ∀ i ∈ Region.ready md ops listed, i < n ∧ qOp P ops C i (wpAnyLQ P md ops C n L f (listed.setIfInBounds i true)) a
theorem wpAny_of_headQ {n g : Nat} {L : Array Bool → Act → Prop} {Q' : Exit → Act → World → Prop} (hL : ∀ listed a w, C w → L listed a → wpAny P md ops Q' g listed a w) :
    ∀ (f : Nat) (listed : Array Bool) (a : Act) (w : World), C w → wpAnyLQ P md ops C n L f listed a → wpAny P md ops Q' (f + g) listed a w
  | 0, listed, a, w, hw, h => by rw [Nat.zero_add]; exact hL _ _ _ hw h
  | f + 1, listed, a, w, hw, h => by
    rw [show f + 1 + g = (f + g) + 1 by omega]
    exact ⟨fun h0 => absurd h0 h.1, fun i hi => wpOp_of_qOp hw (fun a' w' hw' h' => wpAny_of_headQ hL f _ a' w' hw' h') (h.2 i hi).2⟩
theorem wpAnyLQ_first {n i : Nat} {oi : Oper} {v : Value} {L : Array Bool → Act → Prop} (hi : ops[i]? = some oi) (hsel : ∀ (j : Nat) (o : Oper) cs b, ops[j]? = some o → o.op ≠ .select cs b)
    (hs : Region.sinkB md ops n = true) (hc : Region.chainB md ops n = true) (hn : n < ops.size) (hin : i < n)
    (hdone : ∀ listed a, L listed a → ∀ j ∈ Region.ready md ops listed, n ≤ j) :
    ∀ (f : Nat) (listed : Array Bool) (a : Act), HeadInv md ops n listed →
      (∀ j oj, ops[j]? = some oj → j ≠ i → listed.getD j true = false → (∀ e ∈ oj.after, Region.binds md e = true → e.on ≠ i) → oi.apart ops oj = true) →
      i ∈ Region.ready md ops listed → YieldsIn P ops C oi v a →
      wpAnyLQ P md ops C n L f (listed.setIfInBounds i true) (a.put oi.dst v) → wpAnyLQ P md ops C n L (f + 1) listed a := by
  intro f
  induction f with
  | zero =>
    intro listed a inv _ hr hy H
    have hun := (mem_ready.1 hr).1
    refine ⟨fun h => (by rw [h] at hr; cases hr), fun j hj => ?_⟩
    have hjn : j < n := by
      rcases Nat.lt_or_ge j n with h | h
      · exact h
      · exact absurd hj (tail_waits hs hc hn inv _ i rfl hin hun j h)
    refine ⟨hjn, ?_⟩
    by_cases hji : j = i
    · subst hji; exact hy.qOp hi H
    · have := hdone _ _ H j (ready_mono hj hji)
      omega
  | succ f ih =>
    intro listed a inv hfree hr hy H
    have hun := (mem_ready.1 hr).1
    refine ⟨fun h => (by rw [h] at hr; cases hr), fun j hj => ?_⟩
    have hjn : j < n := by
      rcases Nat.lt_or_ge j n with h | h
      · exact h
      · exact absurd hj (tail_waits hs hc hn inv _ i rfl hin hun j h)
    refine ⟨hjn, ?_⟩
    by_cases hji : j = i
    · subst hji; exact hy.qOp hi H
    · have h1 := (H.2 j (ready_mono hj hji)).2
      obtain ⟨hjun, oj, hoj, hall⟩ := mem_ready.1 hj
      have hnot : ∀ e ∈ oj.after, Region.binds md e = true → e.on ≠ i := fun e he hb heq => by
        have h1 := hall e he hb
        rw [heq, getD_both hun] at h1
        cases h1
      have h2 := qOp_put hoj (hfree j oj hoj hji hjun hnot) (fun cs b => hsel i oi cs b hi) (fun cs b => hsel j oj cs b hoj) hy h1
      have hfree' : ∀ k ok, ops[k]? = some ok → k ≠ i → (listed.setIfInBounds j true).getD k true = false →
          (∀ e ∈ ok.after, Region.binds md e = true → e.on ≠ i) → oi.apart ops ok = true := fun k ok hk hki hun hno => by
        refine hfree k ok hk hki ?_ hno
        by_cases hjk : j = k
        · subst hjk; exact hjun
        · rw [getD_set_ne true hjk] at hun; exact hun
      refine qOp_mono (fun a' h3 => ih (listed.setIfInBounds j true) a' (inv.set hj hjn) hfree' (ready_mono hr (Ne.symm hji)) h3.1 ?_) h2
      rw [Array.setIfInBounds_comm _ _ hji]
      exact h3.2
theorem wpAnyLQ_lex {n g : Nat} {Lq : Act → Prop} (hsel : Region.noSelect ops = true) (hs : Region.sinkB md ops n = true) (hc : Region.chainB md ops n = true) (hn : n < ops.size) :
    ∀ (l : List Oper) (k : Nat) (listed : Array Bool) (a : Act), (∀ j, j < l.length → l[j]? = ops[k + j]?) → k + l.length = n → HeadInv md ops n listed →
    Region.lexHead md ops g l.length k listed = true → wpQuiet P ops C Lq l a →
    wpAnyLQ P md ops C n (fun listed' a' => Region.seqB md ops g n listed' = true ∧ Lq a') l.length listed a
  | [], k, listed, a, _, hk, _, hB, h => by
    have : k = n := by simpa using hk
    subst this
    exact ⟨by simpa [Region.lexHead] using hB, h⟩
  | o :: l, k, listed, a, hl, hk, inv, hB, h => by
    have h0 : ops[k]? = some o := by simpa using (hl 0 (by simp)).symm
    simp only [List.length_cons, Region.lexHead, Bool.and_eq_true] at hB
    obtain ⟨⟨hr, hf⟩, hB'⟩ := hB
    have hkn : k < n := by simp only [List.length_cons] at hk; omega
    have hr' : k ∈ Region.ready md ops listed := by simpa using hr
    have hst : qOp P ops C k (wpQuiet P ops C Lq l) a := by unfold qOp; simp only [h0]; exact h
    obtain ⟨v, hy, hK⟩ := yieldsIn_of_qOp h0 hst
    exact wpAnyLQ_first h0 (Region.noSelect_spec hsel) hs hc hn hkn (fun listed' a' hL => seqB_ready hL.1) l.length listed a inv (Region.free_spec h0 hf) hr' hy
      (wpAnyLQ_lex hsel hs hc hn l (k + 1) _ _ (fun j hj => by have := hl (j + 1) (by simp; omega); simpa [Nat.add_assoc, Nat.add_comm 1 j] using this) (by simp only [List.length_cons] at hk; omega) (inv.set hr' hkn) hB' hK)
/-- A region that draws: its first n operations quiet in the class C, walked in the order of the text; the others, forced, from whatever world of the class. -/
theorem wp_region_quiet_tail {id : Nat} {Q : Exit → Act → World → Prop} {a : Act} {w : World} {l : List Oper} (C : World → Prop) (n : Nat) (hm : P.follows .mixedOrders = true) (hB : Region.lexTailB .any l.toArray n = true) (hC : C w.drew)
    (h : wpQuiet P l.toArray C (fun a' => ∀ w', C w' → wpList P l.toArray Q (l.drop n) a' w') (l.take n) a) : (Code.region id l.toArray true).wp P Q a w := by
  simp only [Region.lexTailB, Bool.and_eq_true, decide_eq_true_eq] at hB
  obtain ⟨⟨⟨⟨hsel, hn⟩, hs⟩, hc⟩, hlex⟩ := hB
  have hn' : n < l.length := by simpa using hn
  have htl : (l.take n).length = n := by simp; omega
  have hdl : (l.drop n).length = l.toArray.size - n := by simp
  have inv0 : HeadInv .any l.toArray n (Array.replicate l.toArray.size false) :=
    ⟨by simp, fun j oj _ hl => (by rw [getD_replicate_false] at hl; cases hl), fun t _ ht => getD_in (by simpa using ht) (getD_replicate_false _ _)⟩
  have H := wpAnyLQ_lex (C := C) (md := .any) (g := l.toArray.size - n) hsel hs hc hn (l.take n) 0 _ a (fun j hj => by
    have hj' : j < n := by rw [htl] at hj; exact hj
    simp [hj']) (by simpa using htl) inv0 (by rw [htl]; exact hlex) h
  refine wp_region_any hm ?_
  have := wpAny_of_headQ (Q' := Q) (g := l.toArray.size - n) (fun listed a' w' hw' hL => by
    have := wpAny_of_seq (md := .any) (Q' := Q) (l.drop n) n listed a' w' (fun j => by simp [List.getElem?_drop]) (by rw [hdl]; exact hL.1) (hL.2 w' hw')
    rwa [hdl] at this) _ _ _ w.drew hC H
  rw [htl, show n + (l.toArray.size - n) = l.toArray.size by omega] at this
  exact this
/-- The same where all are quiet. -/
theorem wp_region_quiet_all {id : Nat} {Q : Exit → Act → World → Prop} {a : Act} {w : World} {l : List Oper} (C : World → Prop) (hm : P.follows .mixedOrders = true) (hB : Region.lexB .any l.toArray = true) (hC : C w.drew)
    (h : wpQuiet P l.toArray C (fun a' => ∀ w', C w' → Q .normal a' w') l a) : (Code.region id l.toArray true).wp P Q a w :=
  wp_region_quiet (C := C) hm hB hC (by simpa using h)
end
/-- A world in which all that lay in w below B lies as it lay. -/
structure Aft (B : Nat) (w : World) where
  v : World
  h : Below B w v
instance (B : Nat) (w : World) : Nonempty (Aft B w) := ⟨⟨w, Below.refl B w⟩⟩
/-- A region that draws: whatever its operations lay anew, they leave alone what was there; each gives one value in all such worlds. -/
theorem wp_region_aft {P : Program} {id : Nat} {Q : Exit → Act → World → Prop} {a : Act} {w : World} {l : List Oper} (hm : P.follows .mixedOrders = true) (hB : Region.lexB .any l.toArray = true)
    (h : wpQuiet P l.toArray (fun w' => ∃ x : Aft w.heap.size w, w' = x.v) (fun a' => ∀ w', (∃ x : Aft w.heap.size w, w' = x.v) → Q .normal a' w') l a) : (Code.region id l.toArray true).wp P Q a w :=
  wp_region_quiet_all _ hm hB ⟨⟨w.drew, (Below.refl _ w).drew⟩, rfl⟩ h
theorem wp_region_aft_tail {P : Program} {id : Nat} {Q : Exit → Act → World → Prop} {a : Act} {w : World} {l : List Oper} (n : Nat) (hm : P.follows .mixedOrders = true) (hB : Region.lexTailB .any l.toArray n = true)
    (h : wpQuiet P l.toArray (fun w' => ∃ x : Aft w.heap.size w, w' = x.v) (fun a' => ∀ w', (∃ x : Aft w.heap.size w, w' = x.v) → wpList P l.toArray Q (l.drop n) a' w') (l.take n) a) : (Code.region id l.toArray true).wp P Q a w :=
  wp_region_quiet_tail _ n hm hB ⟨⟨w.drew, (Below.refl _ w).drew⟩, rfl⟩ h
/-- A contract, met in such a world. -/
theorem calls_aft {P : Program} {f : FuncId} {args : Array Value} {w : World} {v : Value} {x : Aft w.heap.size w}
    (h : Calls P f args x.v fun e w' => e = .returned v ∧ Below x.v.heap.size x.v w') : Calls P f args x.v fun e w'' => e = .returned v ∧ ∃ y : Aft w.heap.size w, w'' = y.v :=
  h.mono fun _ w' ⟨he, hb⟩ => ⟨he, ⟨w', x.h.trans (hb.mono x.h.size)⟩, rfl⟩
section
variable {P : Program} {ops : Array Oper} {md : Region.Mode} {C : World → Prop} {r : Option Nat}
/-- No bound on depth, every function let in. -/
abbrev wideAt (r : Option Nat) : Fence := { Fence.wide with round := r }
theorem wideAt_calls {n : Nat} {f : FuncId} {args : Array Value} {w : World} {R : Ending → World → Prop} (h : Calls P f args w R) : CallsIn (wideAt r) n P f args w R :=
  (callsIn_wide (n := n)).2 h
theorem Oper.wpIn_of_quiet {n : Nat} {o : Oper} {a : Act} {K : Act → Prop} {K' : Act → World → Prop} {Q' : Exit → Act → World → Prop} {w : World} (hw : C w) (h : ∀ a w', C w' → K a → K' a w') (hh : o.quiet P a C K) : o.wpIn (wideAt r) n P a w K' Q' := by
  obtain ⟨v, h1, h2⟩ := hh
  have h3 := h1 w hw
  unfold Oper.quietAt at h3
  refine ⟨fun _ _ => trivial, ?_⟩
  have hsem : (o.semAt (wideAt r).round a.eval).run P w = (execOp a.eval o).run P w := by
    cases r with
    | none => rfl
    | some l =>
      have hd : ∀ c, o.op ≠ .defer c := fun c hc => by
        have : (execOp a.eval o).run P w = ((resolve a.eval c o.type).run P w).andThen fun d w' => .ok (.defer d) w' := by
          simp [execOp, hc]
        rw [this] at h3
        cases hr : (resolve a.eval c o.type).run P w with
        | ok d w' => rw [hr] at h3; simp [Result.andThen, Oper.quietUpon] at h3
        | halt x w' => rw [hr] at h3; simp [Result.andThen, Oper.quietUpon] at h3
      rw [Oper.semAt_some]
      exact hd
  rw [hsem]
  generalize (execOp a.eval o).run P w = res at *
  cases res with
  | ok x w' =>
    cases x <;> simp only [Oper.quietUpon] at h3 <;> simp only [Oper.uponIn]
    case value u =>
      obtain ⟨e1, e2⟩ := h3
      rw [e1, e2]
      exact h _ _ hw h2
    case skip =>
      obtain ⟨e1, e2⟩ := h3
      rw [e1, ← e2]
      exact h _ _ hw h2
    case enter f args =>
      obtain ⟨e1, hc⟩ := h3
      rw [e1]
      exact ⟨fun hd => by simp [Fence.wide] at hd, wideAt_calls (hc.mono fun e w'' ⟨he, hw''⟩ => by subst he; exact h _ _ hw'' h2)⟩
  | halt x w' => simp only [Oper.quietUpon] at h3
theorem wpOpIn_of_qOp {n i : Nat} {a : Act} {K : Act → Prop} {K' : Act → World → Prop} {Q' : Exit → Act → World → Prop} {w : World} (hC : C w) (h : ∀ a w', C w' → K a → K' a w') (hh : qOp P ops C i K a) : wpOpIn (wideAt r) n P ops Q' i K' a w := by
  unfold qOp at hh
  unfold wpOpIn
  split
  · rename_i ho; simp only [ho] at hh; exact h _ _ hC hh
  · rename_i o ho
    simp only [ho] at hh
    split
    · rename_i hw; simp only [hw, if_true] at hh; exact Oper.wpIn_of_quiet hC h hh
    · rename_i hw; simp only [hw] at hh; exact ⟨fun _ _ => trivial, h _ _ hC hh⟩
theorem wpAnyIn_of_headQ {n m g : Nat} {L : Array Bool → Act → Prop} {Q' : Exit → Act → World → Prop} (hL : ∀ listed a w, C w → L listed a → wpAnyIn (wideAt r) m P md ops Q' g listed a w) :
    ∀ (f : Nat) (listed : Array Bool) (a : Act) (w : World), C w → wpAnyLQ P md ops C n L f listed a → wpAnyIn (wideAt r) m P md ops Q' (f + g) listed a w
  | 0, listed, a, w, hw, h => by rw [Nat.zero_add]; exact hL _ _ _ hw h
  | f + 1, listed, a, w, hw, h => by
    rw [show f + 1 + g = (f + g) + 1 by omega]
    exact ⟨fun h0 => absurd h0 h.1, fun i hi => wpOpIn_of_qOp hw (fun a' w' hw' h' => wpAnyIn_of_headQ hL f _ a' w' hw' h') (h.2 i hi).2⟩
theorem wpAnyIn_of_seq {m : Nat} {Q' : Exit → Act → World → Prop} : ∀ (l : List Oper) (k : Nat) (listed : Array Bool) (a : Act) (w : World), (∀ j, l[j]? = ops[k + j]?) →
    Region.seqB md ops l.length k listed = true → wpListIn (wideAt r) m P ops Q' l a w → wpAnyIn (wideAt r) m P md ops Q' l.length listed a w
  | [], _, _, _, _, _, hB, h => ⟨by simpa [Region.seqB] using hB, h⟩
  | o :: l, k, listed, a, w, hl, hB, h => by
    have h0 : ops[k]? = some o := by simpa using (hl 0).symm
    simp only [List.length_cons, Region.seqB, Bool.and_eq_true, decide_eq_true_eq] at hB
    refine ⟨fun h1 => (by rw [hB.1] at h1; cases h1), fun i hi => ?_⟩
    rw [hB.1] at hi
    have hik : i = k := by simpa using hi
    subst hik
    have hw : wpOpIn (wideAt r) m P ops Q' i (wpListIn (wideAt r) m P ops Q' l) a w := by unfold wpOpIn; simp only [h0]; exact h
    exact wpOpIn_mono (fun a' w' h' => wpAnyIn_of_seq l (i + 1) _ a' w' (fun j => by have := hl (j + 1); simpa [Nat.add_assoc, Nat.add_comm 1 j] using this) hB.2 h') hw
/-- A region that draws, quiet at its head, forced at its tail: in a round, or where its tail begins one. -/
theorem wpIn_region_quiet_tail {m : Nat} {id : Nat} {Q : Exit → Act → World → Prop} {a : Act} {w : World} {l : List Oper} (C : World → Prop) (n : Nat) (hm : P.follows .mixedOrders = true) (hB : Region.lexTailB .any l.toArray n = true) (hC : C w.drew)
    (h : wpQuiet P l.toArray C (fun a' => ∀ w', C w' → wpListIn (wideAt r) m P l.toArray Q (l.drop n) a' w') (l.take n) a) : (Code.region id l.toArray true).wpIn (wideAt r) m P Q a w := by
  simp only [Region.lexTailB, Bool.and_eq_true, decide_eq_true_eq] at hB
  obtain ⟨⟨⟨⟨hsel, hn⟩, hs⟩, hc⟩, hlex⟩ := hB
  have hn' : n < l.length := by simpa using hn
  have htl : (l.take n).length = n := by simp; omega
  have hdl : (l.drop n).length = l.toArray.size - n := by simp
  have inv0 : HeadInv .any l.toArray n (Array.replicate l.toArray.size false) :=
    ⟨by simp, fun j oj _ hl => (by rw [getD_replicate_false] at hl; cases hl), fun t _ ht => getD_in (by simpa using ht) (getD_replicate_false _ _)⟩
  have H := wpAnyLQ_lex (C := C) (md := .any) (g := l.toArray.size - n) hsel hs hc hn (l.take n) 0 _ a (fun j hj => by
    have hj' : j < n := by rw [htl] at hj; exact hj
    simp [hj']) (by simpa using htl) inv0 (by rw [htl]; exact hlex) h
  refine wpIn_region_any hm ?_
  have := wpAnyIn_of_headQ (r := r) (m := m) (Q' := Q) (g := l.toArray.size - n) (fun listed a' w' hw' hL => by
    have := wpAnyIn_of_seq (r := r) (m := m) (md := .any) (Q' := Q) (l.drop n) n listed a' w' (fun j => by simp [List.getElem?_drop]) (by rw [hdl]; exact hL.1) (hL.2 w' hw')
    rwa [hdl] at this) _ _ _ w.drew hC H
  rw [htl, show n + (l.toArray.size - n) = l.toArray.size by omega] at this
  exact this
theorem wpIn_region_aft_tail {m : Nat} {id : Nat} {Q : Exit → Act → World → Prop} {a : Act} {w : World} {l : List Oper} (n : Nat) (hm : P.follows .mixedOrders = true) (hB : Region.lexTailB .any l.toArray n = true)
    (h : wpQuiet P l.toArray (fun w' => ∃ x : Aft w.heap.size w, w' = x.v) (fun a' => ∀ w', (∃ x : Aft w.heap.size w, w' = x.v) → wpListIn (wideAt r) m P l.toArray Q (l.drop n) a' w') (l.take n) a) : (Code.region id l.toArray true).wpIn (wideAt r) m P Q a w :=
  wpIn_region_quiet_tail _ n hm hB ⟨⟨w.drew, (Below.refl _ w).drew⟩, rfl⟩ h
end
/-- All blocks of A but those of M lie in B as they lay. -/
structure Same (M : Nat → Prop) (A B : World) : Prop where
  os : B.os = A.os
  tape : B.tape = A.tape
  output : B.output = A.output
  size : A.heap.size ≤ B.heap.size
  block : ∀ k, k < A.heap.size → ¬ M k → B.heap[k]? = A.heap[k]?
theorem Same.refl (M : Nat → Prop) (A : World) : Same M A A := ⟨rfl, rfl, rfl, Nat.le_refl _, fun _ _ _ => rfl⟩
theorem Same.trans {M : Nat → Prop} {A B C : World} (h : Same M A B) (k : Same M B C) : Same M A C :=
  ⟨k.os.trans h.os, k.tape.trans h.tape, k.output.trans h.output, Nat.le_trans h.size k.size, fun i hi hm => (k.block i (Nat.lt_of_lt_of_le hi h.size) hm).trans (h.block i hi hm)⟩
theorem Same.mono {M M' : Nat → Prop} {A B : World} (h : Same M A B) (hm : ∀ k, k < A.heap.size → M k → M' k) : Same M' A B :=
  ⟨h.os, h.tape, h.output, h.size, fun i hi hn => h.block i hi (fun e => hn (hm i hi e))⟩
theorem Same.drew {M : Nat → Prop} {A B : World} (h : Same M A B) : Same M A B.drew := ⟨h.os, h.tape, h.output, h.size, h.block⟩
theorem Same.alloc {M : Nat → Prop} {A B : World} (h : Same M A B) (o : Obj) : Same M A (B.alloc o) :=
  h.trans ⟨rfl, rfl, rfl, by simp, fun k hk _ => Below.heap_alloc _ _ _ hk⟩
theorem Same.setCell {M : Nat → Prop} {A B : World} (h : Same M A B) {p : Addr} (hp : M p.block ∨ A.heap.size ≤ p.block) (v : Value) : Same M A (B.setCell p v) :=
  ⟨h.os, h.tape, h.output, by simpa using h.size, fun k hk hm => (Below.heap_setCell _ _ _ _ (by rcases hp with hp | hp; (exact fun e => hm (e ▸ hp)); omega)).trans (h.block k hk hm)⟩
theorem Same.grown {M : Nat → Prop} {A B C : World} {row : Option Nat} (h : Same M A B) (hg : B.grownBy C row) (hr : ∀ k, row = some k → M k ∨ A.heap.size ≤ k) : Same M A C :=
  ⟨hg.os.trans h.os, hg.tape.trans h.tape, hg.output.trans h.output, Nat.le_trans h.size hg.size, fun k hk hm => (hg.block k (Nat.lt_of_lt_of_le hk h.size) (fun e => by
    rcases hr k e.symm with h' | h'
    · exact hm h'
    · omega)).trans (h.block k hk hm)⟩
theorem Same.of_below {A B : World} (M : Nat → Prop) (h : Below A.heap.size A B) : Same M A B := ⟨h.os, h.tape, h.output, h.size, fun k hk _ => h.block k hk⟩
theorem Same.below {M : Nat → Prop} {A B : World} {n : Nat} (h : Same M A B) (hn : n ≤ A.heap.size) (hm : ∀ k, k < n → ¬ M k) : Below n A B := ⟨h.os, h.tape, h.output, h.size, fun k hk => h.block k (by omega) (hm k hk)⟩
theorem Same.cell {M : Nat → Prop} {A B : World} (h : Same M A B) {b o : Nat} {v : Value} (hc : A.cell? ⟨b, o, none⟩ = some v) (hm : ¬ M b) : B.cell? ⟨b, o, none⟩ = some v :=
  (World.cell?_of_block (w := A) (h.block b (lt_of_cell hc) hm)).trans hc
theorem Same.frozen {M : Nat → Prop} {A B : World} (h : Same M A B) {b o : Nat} (hb : b < A.heap.size) (hm : ¬ M b) : B.frozen? ⟨b, o, none⟩ = A.frozen? ⟨b, o, none⟩ :=
  World.frozen?_of_block (w := A) (h.block b hb hm)
theorem Same.putObj {M : Nat → Prop} {A B : World} (h : Same M A B) {l : Nat} (hl : M l ∨ A.heap.size ≤ l) (o : Obj) : Same M A (B.putObj l o) :=
  h.grown (grownBy_putObj' B l o) (fun k e => by cases e; exact hl)
section
variable {P : Program}
/-- An iterator that hands over these elements, one after the other, as long as the rounds want more. O: the blocks that it writes itself; M: those that a round may write. -/
def IterOk (P : Program) (g : Nat) (lb : Array Value) (encs : List (Array Value)) (O M : Nat → Prop) (W : World) : Prop :=
  ∀ (l : Nat) (J Jx : Nat → World → Prop),
    (∀ i A B, J i A → Same O A B → J i B) → (∀ i A B, Jx i A → Same O A B → Jx i B) →
    (∀ i v, encs[i]? = some v → ∀ A, J i A → YieldAt Fence.wide 0 P l v A fun e B => (e = .returned (.bool true) ∧ J (i + 1) B ∧ Same M A B) ∨ (e = .returned (.bool false) ∧ Jx (i + 1) B ∧ Same M A B)) →
    J 0 W → CallsIn Fence.wide 0 P g (#[.func (.yield l) #[] #[]] ++ lb) W fun e W' => (∃ v, e = .returned v) ∧ (J encs.length W' ∨ ∃ i, i < encs.length ∧ Jx (i + 1) W')
/-- How a round's body may end. -/
def roundEnd (l : Nat) (M : Nat → Prop) (I : Nat → World → Prop) (Ix : Code → Nat → World → Prop) (i : Nat) (W : World) : Exit → Act → World → Prop
  | .normal, _, W' => Same M W W' ∧ W'.heap[l]? = W.heap[l]? ∧ I (i + 1) W'
  | .ret, _, W' => Same M W W' ∧ W'.heap[l]? = W.heap[l]? ∧ Ix .ret (i + 1) W'
  | .exit id, _, W' => Same M W W' ∧ W'.heap[l]? = W.heap[l]? ∧ Ix (.exit id) (i + 1) W'
  | .goto t, _, W' => Same M W W' ∧ W'.heap[l]? = W.heap[l]? ∧ Ix (.goto t) (i + 1) W'
  | .panic _, _, _ => False
  | .outgrown, _, _ => False
theorem wp_rangeFunc {g : Operand} {ps : Array Tmp} {assign body : Code} {Q : Exit → Act → World → Prop} {a : Act} {w : World}
    {gf : Nat} {lb : Array Value} (hg : a.eval g = .func (.func gf) #[] lb) (eg : ∀ args w, (callFunc gf args).run P w = .ok (.enter gf args) w)
    (encs : List (Array Value)) (O M : Nat → Prop) (hps : ∀ v ∈ encs, v.size = ps.size)
    (hOl : ¬ O (w.heap.size + 1)) (hOD : ¬ O w.heap.size) (hMD : ¬ M w.heap.size) (hMl : M (w.heap.size + 1))
    (hit : ∀ W, Below w.heap.size w W → W.heap.size = w.heap.size + 2 → IterOk P gf lb encs O M W)
    (I : Nat → World → Prop) (Ix : Code → Nat → World → Prop)
    (hI : ∀ i A B, I i A → Same (fun k => O k ∨ k = w.heap.size + 1) A B → I i B) (hIx : ∀ c i A B, Ix c i A → Same (fun k => O k ∨ k = w.heap.size + 1) A B → Ix c i B)
    (h0 : ∀ W, Below w.heap.size w W → W.heap.size = w.heap.size + 2 → I 0 W)
    (hround : ∀ i v, encs[i]? = some v → ∀ W, I i W → w.heap.size + 1 < W.heap.size →
      assign.wpIn (Fence.wide.inRound (w.heap.size + 1)) 0 P (Exit.then (fun a₁ W₁ => Same M W W₁ ∧ W₁.heap[w.heap.size + 1]? = W.heap[w.heap.size + 1]? ∧
          ∀ W₂, Same (fun k => k = w.heap.size + 1) W₁ W₂ → W₂.heap.size = W₁.heap.size → body.wpIn (Fence.wide.inRound (w.heap.size + 1)) 0 P (roundEnd (w.heap.size + 1) M I Ix i W₂) a₁ W₂) (fun _ _ _ => False))
        { tmps := (ps.zip v).foldl (fun t (p, v) => t.setIfInBounds p v) a.tmps, defers := [] } W)
    (hdone : ∀ W, I encs.length W → W.heap[w.heap.size]? = some (.deferred (some [])) → Q .normal { a with defers := { target := .collected w.heap.size, args := #[] } :: a.defers } W)
    (hstop : ∀ c i W, i < encs.length → Ix c (i + 1) W → W.heap[w.heap.size]? = some (.deferred (some [])) → c.wp P Q { a with defers := { target := .collected w.heap.size, args := #[] } :: a.defers } W) :
    (Code.rangeFunc g ps assign body).wp P Q a w := by
  rw [← wpIn_wide (n := 0)]
  refine wpIn_rangeFunc ?_
  intro fn hfn
  obtain ⟨rec, hrec⟩ : ∃ rec : LoopState → Option Code → Loop, rec = fun st pe => { state := st, pending := pe, fn, tmps := a.tmps, params := ps, assign, body, defers := w.heap.size } := ⟨_, rfl⟩
  obtain ⟨W1, hW1⟩ : ∃ W1, (w.alloc (.deferred (some []))).alloc (.loop (rec .ready none)) = W1 := ⟨_, rfl⟩
  have hL1 : W1.heap[w.heap.size + 1]? = some (.loop (rec .ready none)) := by
    rw [← hW1]; have := World.alloc_heap_new (w.alloc (.deferred (some []))) (.loop (rec .ready none)); rwa [World.size_alloc] at this
  have hK1 : W1.heap[w.heap.size]? = some (.deferred (some [])) := by
    rw [← hW1]; exact (Below.heap_alloc _ _ _ (by simp)).trans (World.alloc_heap_new w _)
  have hs1 : W1.heap.size = w.heap.size + 2 := by rw [← hW1]; simp
  have hb1 : Below w.heap.size w W1 := by rw [← hW1]; exact ((Below.refl _ w).alloc (Nat.le_refl _) _).alloc (by simp) _
  refine ⟨w.heap.size + 1, [{ target := .collected w.heap.size, args := #[] }], W1, { target := .fn (.func gf) lb, args := #[.func (.yield (w.heap.size + 1)) #[] #[]] }, W1, gf,
    #[.func (.yield (w.heap.size + 1)) #[] #[]] ++ lb, W1, ?_, ?_, ?_, ?_, fun h => by simp [Fence.wide] at h, ?_⟩
  · rw [← hW1, hrec]; exact run_enterLoop_outer _ _ _ _ _
  · simp only [resolve, hg]
    simp [go_sem]
  · intro f' hf'; trivial
  · simp [invoke, go_sem, eg]
  · have hput : ∀ (W : World) (o : Obj), w.heap.size + 1 < W.heap.size → Same (fun k => k = w.heap.size + 1) W (W.putObj (w.heap.size + 1) o) := fun W o _ => Same.putObj (M := fun k => k = w.heap.size + 1) (Same.refl _ W) (.inl rfl) o
    have lift : ∀ {A B : World}, Same (fun k => k = w.heap.size + 1) A B → Same (fun k => O k ∨ k = w.heap.size + 1) A B := fun h => h.mono (fun _ _ e => .inr e)
    have liftM : ∀ {A B : World}, Same (fun k => k = w.heap.size + 1) A B → Same M A B := fun h => h.mono (fun _ _ e => e ▸ hMl)
    refine (hit W1 hb1 hs1 (w.heap.size + 1)
      (fun i W => I i W ∧ W.heap[w.heap.size + 1]? = some (.loop (rec .ready none)) ∧ W.heap[w.heap.size]? = some (.deferred (some [])))
      (fun i W => ∃ c, Ix c i W ∧ W.heap[w.heap.size + 1]? = some (.loop (rec .done (some c))) ∧ W.heap[w.heap.size]? = some (.deferred (some [])))
      (fun i A B hs hg' => ⟨hI i A B hs.1 (hg'.mono (fun _ _ e => .inl e)), (hg'.block _ (Array.getElem?_eq_some_iff.1 hs.2.1).1 hOl).trans hs.2.1, (hg'.block _ (Array.getElem?_eq_some_iff.1 hs.2.2).1 hOD).trans hs.2.2⟩)
      (fun i A B hs hg' => by
        obtain ⟨c, hc, hl, hk⟩ := hs
        exact ⟨c, hIx c i A B hc (hg'.mono (fun _ _ e => .inl e)), (hg'.block _ (Array.getElem?_eq_some_iff.1 hl).1 hOl).trans hl, (hg'.block _ (Array.getElem?_eq_some_iff.1 hk).1 hOD).trans hk⟩)
      ?_ ⟨h0 W1 hb1 hs1, hL1, hK1⟩).mono ?_
    · rintro i v hv W ⟨hi, hl, hk⟩
      have hlt : w.heap.size + 1 < W.heap.size := (Array.getElem?_eq_some_iff.1 hl).1
      have hy := run_yield (P := P) (args := v) hl (by rw [hrec]; exact hps v (List.mem_of_getElem? hv))
      rw [hrec] at hy
      refine ⟨fn, _, assign, body, hy, roundIn_of_wpIn hfn (wpIn_mono (hround i v hv W hi hlt) ?_)⟩
      rintro e a₁ Wa hp
      cases e with
      | normal =>
        obtain ⟨hsa, hla, hbody⟩ := hp
        rw [hl] at hla
        have hka : Wa.heap[w.heap.size]? = some (.deferred (some [])) := (hsa.block _ (by omega) hMD).trans hk
        have hlta : w.heap.size + 1 < Wa.heap.size := (Array.getElem?_eq_some_iff.1 hla).1
        refine ⟨_, run_beginRound hla (by rw [hrec]), ?_⟩
        have hl2 : (Wa.putObj (w.heap.size + 1) (.loop { rec .ready none with state := .busy })).heap[w.heap.size + 1]? = some (.loop { rec .ready none with state := .busy }) := World.putObj_heap_same hlta
        have hk2 : (Wa.putObj (w.heap.size + 1) (.loop { rec .ready none with state := .busy })).heap[w.heap.size]? = some (.deferred (some [])) := (World.putObj_heap_other (by omega)).trans hka
        have hs2 := hput Wa (.loop { rec .ready none with state := .busy }) hlta
        refine wpIn_mono (hbody _ hs2 (by simp)) ?_
        have fin : ∀ (jump : Option Code) (W3 : World), Same M (Wa.putObj (w.heap.size + 1) (.loop { rec .ready none with state := .busy })) W3 → W3.heap[w.heap.size + 1]? = (Wa.putObj (w.heap.size + 1) (.loop { rec .ready none with state := .busy })).heap[w.heap.size + 1]? →
            (Instr.endRound (w.heap.size + 1) jump).run P W3 = .ok (.bool jump.isNone) (W3.putObj (w.heap.size + 1) (.loop (rec (if jump.isNone then .ready else .done) jump))) ∧
            (W3.putObj (w.heap.size + 1) (.loop (rec (if jump.isNone then .ready else .done) jump))).heap[w.heap.size + 1]? = some (.loop (rec (if jump.isNone then .ready else .done) jump)) ∧
            (W3.putObj (w.heap.size + 1) (.loop (rec (if jump.isNone then .ready else .done) jump))).heap[w.heap.size]? = some (.deferred (some [])) ∧
            Same (fun k => k = w.heap.size + 1) W3 (W3.putObj (w.heap.size + 1) (.loop (rec (if jump.isNone then .ready else .done) jump))) ∧
            Same M W (W3.putObj (w.heap.size + 1) (.loop (rec (if jump.isNone then .ready else .done) jump))) := fun jump W3 hk3 hl3 => by
          rw [hl2] at hl3
          have hlt3 := (Array.getElem?_eq_some_iff.1 hl3).1
          have hkk := (hk3.block _ (Array.getElem?_eq_some_iff.1 hk2).1 hMD).trans hk2
          have := run_endRound (P := P) jump hl3
          rw [hrec] at this ⊢
          exact ⟨this, World.putObj_heap_same hlt3, (World.putObj_heap_other (by omega)).trans hkk, hput _ _ hlt3, ((hsa.trans (liftM hs2)).trans hk3).trans (liftM (hput _ _ hlt3))⟩
        rintro e a3 W3 hp
        cases e with
        | normal =>
          obtain ⟨hk3, hl3, hi3⟩ := hp
          obtain ⟨hr, hl4, hk4, hs4, hs5⟩ := fin none W3 hk3 hl3
          exact ⟨_, _, hr, .inl ⟨rfl, ⟨hI _ _ _ hi3 (lift hs4), hl4, hk4⟩, hs5⟩⟩
        | ret =>
          obtain ⟨hk3, hl3, hi3⟩ := hp
          obtain ⟨hr, hl4, hk4, hs4, hs5⟩ := fin (some .ret) W3 hk3 hl3
          exact ⟨_, _, hr, .inr ⟨rfl, ⟨.ret, hIx _ _ _ _ hi3 (lift hs4), hl4, hk4⟩, hs5⟩⟩
        | exit id =>
          obtain ⟨hk3, hl3, hi3⟩ := hp
          obtain ⟨hr, hl4, hk4, hs4, hs5⟩ := fin (some (.exit id)) W3 hk3 hl3
          exact ⟨_, _, hr, .inr ⟨rfl, ⟨.exit id, hIx _ _ _ _ hi3 (lift hs4), hl4, hk4⟩, hs5⟩⟩
        | goto t =>
          obtain ⟨hk3, hl3, hi3⟩ := hp
          obtain ⟨hr, hl4, hk4, hs4, hs5⟩ := fin (some (.goto t)) W3 hk3 hl3
          exact ⟨_, _, hr, .inr ⟨rfl, ⟨.goto t, hIx _ _ _ _ hi3 (lift hs4), hl4, hk4⟩, hs5⟩⟩
        | panic ch => exact hp.elim
        | outgrown => exact hp.elim
      | exit id => exact hp.elim
      | goto t => exact hp.elim
      | ret => exact hp.elim
      | panic chain => exact hp.elim
      | outgrown => exact hp.elim
    · rintro e W2 ⟨⟨v, rfl⟩, (⟨hi, hl, hk⟩ | ⟨i, hin, c, hi, hl, hk⟩)⟩
      · have hlt := (Array.getElem?_eq_some_iff.1 hl).1
        exact ⟨none, _, by have := run_endLoop (P := P) hl (by rw [hrec]; simp); rw [hrec] at this; exact this, hdone _ (hI _ _ _ hi (lift (hput _ _ hlt))) ((World.putObj_heap_other (by omega)).trans hk)⟩
      · have hlt := (Array.getElem?_eq_some_iff.1 hl).1
        exact ⟨some c, _, by have := run_endLoop (P := P) hl (by rw [hrec]; simp); rw [hrec] at this; exact this, wpIn_wide.2 (hstop c i _ hin (hIx c _ _ _ hi (lift (hput _ _ hlt))) ((World.putObj_heap_other (by omega)).trans hk))⟩
/-- The marks that ranges over functions have left: each block is open still. -/
def MarksAt (n : Nat) (ds : List Deferred) (w : World) : Prop :=
  ∃ ks : List Nat, ds = ks.map (fun k => { target := .collected k, args := #[] }) ∧ ks.Nodup ∧ ∀ k ∈ ks, n ≤ k ∧ w.heap[k]? = some (.deferred (some []))
theorem MarksAt.nil (n : Nat) (w : World) : MarksAt n [] w := ⟨[], rfl, by simp, by simp⟩
theorem MarksAt.cons {n : Nat} {ds : List Deferred} {w w' : World} {D : Nat} (h : MarksAt n ds w) (hD : w.heap.size ≤ D) (hn : n ≤ D) (hk : w'.heap[D]? = some (.deferred (some [])))
    (hs : ∀ k, k < w.heap.size → w.heap[k]? = some (.deferred (some [])) → w'.heap[k]? = some (.deferred (some []))) : MarksAt n ({ target := .collected D, args := #[] } :: ds) w' := by
  obtain ⟨ks, rfl, hnd, hall⟩ := h
  refine ⟨D :: ks, rfl, List.nodup_cons.2 ⟨fun hm => ?_, hnd⟩, fun k hk' => ?_⟩
  · have := (Array.getElem?_eq_some_iff.1 (hall D hm).2).1
    omega
  · rcases List.mem_cons.1 hk' with rfl | hk'
    · exact ⟨hn, hk⟩
    · have := hall k hk'
      exact ⟨this.1, hs k (Array.getElem?_eq_some_iff.1 this.2).1 this.2⟩
theorem MarksAt.mono {n : Nat} {ds : List Deferred} {w w' : World} (h : MarksAt n ds w) (hs : ∀ k, k < w.heap.size → w.heap[k]? = some (.deferred (some [])) → w'.heap[k]? = some (.deferred (some []))) : MarksAt n ds w' := by
  obtain ⟨ks, rfl, hnd, hall⟩ := h
  exact ⟨ks, rfl, hnd, fun k hk => ⟨(hall k hk).1, hs k (Array.getElem?_eq_some_iff.1 (hall k hk).2).1 (hall k hk).2⟩⟩
theorem leaves_marks {fn : Func} {tmps : Array Value} {R : Ending → World → Prop} {v : Value} {n : Nat} : ∀ (ks : List Nat) (w : World), ks.Nodup → (∀ k ∈ ks, n ≤ k ∧ w.heap[k]? = some (.deferred (some []))) →
    (∀ W', Same (fun k => n ≤ k ∧ w.heap[k]? = some (.deferred (some []))) w W' → W'.heap.size = w.heap.size → (results fn tmps).run P W' = .ok v W' ∧ R (.returned v) W') →
    LeavesInM Fence.wide 0 P fn tmps R (ks.map (fun k => { target := .collected k, args := #[] })) .returning w
  | [], w, _, _, h => by
    have := h w (Same.refl _ _) rfl
    exact ⟨v, this.1, this.2⟩
  | k :: ks, w, hnd, hall, h => by
    have hk := hall k (by simp)
    refine ⟨by simp, .inl ⟨k, _, rfl, run_takeDeferred hk.2, ?_⟩⟩
    have hnd' := List.nodup_cons.1 hnd
    refine leaves_marks (n := n) ks _ hnd'.2 (fun j hj => ⟨(hall j (by simp [hj])).1, (World.putObj_heap_other (fun e : j = k => hnd'.1 (by rw [← e]; exact hj))).trans (hall j (by simp [hj])).2⟩) (fun W' hs hsz => h W' ?_ (by simpa using hsz))
    have h1 : Same (fun k => n ≤ k ∧ w.heap[k]? = some (.deferred (some []))) w (w.putObj k (.deferred none)) := (Same.refl _ w).putObj (.inl hk) _
    refine h1.trans (hs.mono (fun j _ hj => ⟨hj.1, ?_⟩))
    by_cases e : j = k
    · subst e; exact hk.2
    · exact (World.putObj_heap_other e).symm.trans hj.2
/-- A function's contract from its body, where ranges over functions have left marks. -/
theorem calls_of_wp_marks {f : FuncId} {fn : Func} {c : Code} {args : Array Value} {w : World} {R : Ending → World → Prop}
    (hf : P.funcs[f]? = some fn) (hb : fn.body = some c)
    (h : c.wp P (bodyPostM Fence.wide 0 P fn R) { tmps := args ++ Array.replicate (fn.ntmps - args.size) undef, defers := [] } w) : Calls P f args w R :=
  callsIn_wide.1 (callsIn_of_wp_marks hf hb trivial (wpIn_wide.2 h))
end
end Go.Proofs.YtbnhngfegnhaiaaGreatDoor
namespace Go.Proofs.YtbnhngfegnhaiaaGreatDoor
open Go.RowKit
abbrev Ln.v (l : Ln) : Value := .agg #[.int .i64 l.kind, .int .i64 l.card, .int .i64 l.person, .int .i64 l.slot]
theorem isLent_any (l : Ln) {bc : Nat} {c : Cab} {ah : Option Addr} {ch : Nat} {al : Option Addr} {cl : Nat} {w : World} (hc : CabP w bc c ah ch al cl) (hn : c.homes.length ≤ 16) :
    Calls Tryz.prog 60 #[.pointer (some ⟨bc, 0, none⟩), l.v] w fun e w' => e = .returned (.bool (c.lent l)) ∧ Below w.heap.size w w' := by
  have hb : Below w.heap.size w (w.alloc (.cells #[.int .i64 l.kind, .int .i64 l.card, .int .i64 l.person, .int .i64 l.slot] 37)) := (Below.refl _ w).alloc (Nat.le_refl _) _
  have hc' := hc.mono hb
  unfold Cab.lent
  cases h : c.card l.card
  all_goals
    go_enter Tryz.func60, Tryz.ntmps60
    go_wp2_with fail
    refine (isCard_any l.card hc' hn).mono ?_
    rintro e w' ⟨rfl, rfl⟩
    rw [h]
    go_wp2_with (go_at_call 53; refine (within_any _ _ _ _).mono ?_; rintro e w' ⟨rfl, rfl⟩)
    go_ret
    exact ⟨by simp, hb⟩
theorem isLook_any (l : Ln) {bc : Nat} {c : Cab} {ah : Option Addr} {ch : Nat} {al : Option Addr} {cl : Nat} {w : World} (hc : CabP w bc c ah ch al cl) (hn : c.homes.length ≤ 16) (hs : 0 ≤ c.slots ∧ c.slots ≤ 100) :
    Calls Tryz.prog 63 #[.pointer (some ⟨bc, 0, none⟩), l.v] w fun e w' => e = .returned (.bool (c.look l)) ∧ Below w.heap.size w w' := by
  have hb : Below w.heap.size w (w.alloc (.cells #[.int .i64 l.kind, .int .i64 l.card, .int .i64 l.person, .int .i64 l.slot] 37)) := (Below.refl _ w).alloc (Nat.le_refl _) _
  have hc' := hc.mono hb
  unfold Cab.look
  cases h : c.slotOf l.slot
  · go_enter Tryz.func63, Tryz.ntmps63
    go_wp2_with fail
    refine (isSlot_any l.slot hc' hs).mono ?_
    rintro e w' ⟨rfl, rfl⟩
    rw [h]
    go_wp2
    go_ret
    exact ⟨by simp, hb⟩
  · by_cases h1 : l.card = -1
    · have H1 := Lib.hid h1
      clear h1
      go_enter Tryz.func63, Tryz.ntmps63
      go_wp2_with fail
      refine (isSlot_any l.slot hc' hs).mono ?_
      rintro e w' ⟨rfl, rfl⟩
      rw [h]
      have h1 := H1.out
      go_wp2
      go_ret
      exact ⟨by simp [h1], (Below.refl _ w).alloc (Nat.le_refl _) _⟩
    · have h2 : (l.card == -1) = false := by simpa using h1
      have H2 := Lib.hid h2
      clear h2
      go_enter Tryz.func63, Tryz.ntmps63
      go_wp2_with fail
      refine (isSlot_any l.slot hc' hs).mono ?_
      rintro e w' ⟨rfl, rfl⟩
      rw [h]
      have h2 := H2.out
      go_wp2_with (go_at_call 34; refine (isCard_any l.card hc' hn).mono ?_; rintro e w' ⟨rfl, rfl⟩)
      go_ret
      exact ⟨by simp [h1], hb⟩
/-- What kinds() returns: three pairs of functions in new memory. -/
def IsKinds (w : World) (v : Value) : Prop := ∃ b, v = .slice (some ⟨b, 0, none⟩) 3 3 ∧
  w.cell? ⟨b, 0, none⟩ = some (.func (.func 60) #[] #[]) ∧ w.cell? ⟨b, 1, none⟩ = some (.func (.func 61) #[] #[]) ∧ w.cell? ⟨b, 2, none⟩ = some (.func (.func 60) #[] #[]) ∧
  w.cell? ⟨b, 3, none⟩ = some (.func (.func 62) #[] #[]) ∧ w.cell? ⟨b, 4, none⟩ = some (.func (.func 63) #[] #[]) ∧ w.cell? ⟨b, 5, none⟩ = some (.func (.func 64) #[] #[])
theorem IsKinds.mono {w w' : World} {v : Value} (h : IsKinds w v) (hb : Below w.heap.size w w') : IsKinds w' v := by
  obtain ⟨b, hv, h0, h1, h2, h3, h4, h5⟩ := h
  exact ⟨b, hv, cell_stays hb h0, cell_stays hb h1, cell_stays hb h2, cell_stays hb h3, cell_stays hb h4, cell_stays hb h5⟩
theorem kinds_any (w : World) : Calls Tryz.prog 50 #[] w fun e w' => (∃ v, e = .returned v ∧ IsKinds w' v) ∧ Below w.heap.size w w' := by
  go_enter Tryz.func50, Tryz.ntmps50
  go_wp2
  go_ret
  exact ⟨⟨_, rfl, _, rfl, by simp, by simp, by simp, by simp, by simp, by simp⟩, (Below.refl _ w).alloc (Nat.le_refl _) _⟩
theorem within_q {n lo hi : Int} {w : World} {m : Nat} {b : Bool} (h : inR n lo hi = b) : Calls Tryz.prog 53 #[.int .i64 n, .int .i64 lo, .int .i64 hi] (w.drewN m) fun e w' => e = .returned (.bool b) ∧ ∃ k, w' = w.drewN k :=
  (within_any n lo hi (w.drewN m)).mono fun _ _ ⟨h1, h2⟩ => ⟨h ▸ h1, m, h2.symm⟩
theorem below_draws {B : Nat} {a w : World} (h : Below B a w) (n : Nat) : Below B a (w.drewN n) := ⟨h.os, h.tape, h.output, h.size, h.block⟩
set_option maxHeartbeats 1000000 in
theorem loanBad_any (l : Ln) {bk bp : Nat} {kv : Value} {bc : Nat} {c : Cab} {ah : Option Addr} {ch : Nat} {al : Option Addr} {cl : Nat} {w : World} (hk : w.cell? ⟨bk, 0, none⟩ = some kv) (hkv : IsKinds w kv)
    (hp : w.cell? ⟨bp, 0, none⟩ = some (.pointer (some ⟨bc, 0, none⟩))) (hc : CabP w bc c ah ch al cl) (hn : c.homes.length ≤ 16) (hs : 0 ≤ c.slots ∧ c.slots ≤ 100) :
    Calls Tryz.prog 59 #[l.v, .pointer (some ⟨bk, 0, none⟩), .pointer (some ⟨bp, 0, none⟩)] w fun e w' => e = .returned (.bool (!c.loanOk l)) ∧ Below w.heap.size w w' := by
  obtain ⟨b, rfl, k0, k1, k2, k3, k4, k5⟩ := hkv
  obtain ⟨lk, lc, lp, ls⟩ := l
  have hbk := lt_of_cell hk
  have hbp := lt_of_cell hp
  have hbb := lt_of_cell k0
  have hb : Below w.heap.size w (w.alloc (.cells #[.int .i64 lk, .int .i64 lc, .int .i64 lp, .int .i64 ls] 37)) := (Below.refl _ w).alloc (Nat.le_refl _) _
  by_cases hin : 0 ≤ lk ∧ lk ≤ 2
  · have hlk : lk = 0 ∨ lk = 1 ∨ lk = 2 := by omega
    clear hin
    rcases hlk with rfl | rfl | rfl
    · have hd := fun n => below_draws hb n
      go_enter Tryz.func59, Tryz.ntmps59
      go_wp2
      refine wp_region_quiet_tail (fun w' => ∃ n, w' = World.drewN (w.alloc (.cells #[.int .i64 0, .int .i64 lc, .int .i64 lp, .int .i64 ls] 37)) n) 16 (by kernel_rfl) (by kernel_rfl) ⟨1, rfl⟩ ?_
      simp only [List.take_succ_cons, List.take_zero, List.drop_succ_cons, List.drop_zero]
      repeat (go_big_quiet_step ((go_at_call 53; exact within_q (b := true) (by decide))))
      refine wpQuiet_nil ?_
      rintro _ ⟨nq, rfl⟩
      have hb1 := hd nq
      go_wp2_with fail
      refine (isLent_any ⟨0, lc, lp, ls⟩ (hc.mono hb1) hn).mono ?_
      rintro e w2 ⟨rfl, hb2⟩
      go_wp2
      go_ret
      exact ⟨by simp [Cab.loanOk], hb1.trans (hb2.mono hb1.size)⟩
    · have hd := fun n => below_draws hb n
      go_enter Tryz.func59, Tryz.ntmps59
      go_wp2
      refine wp_region_quiet_tail (fun w' => ∃ n, w' = World.drewN (w.alloc (.cells #[.int .i64 1, .int .i64 lc, .int .i64 lp, .int .i64 ls] 37)) n) 16 (by kernel_rfl) (by kernel_rfl) ⟨1, rfl⟩ ?_
      simp only [List.take_succ_cons, List.take_zero, List.drop_succ_cons, List.drop_zero]
      repeat (go_big_quiet_step ((go_at_call 53; exact within_q (b := true) (by decide))))
      refine wpQuiet_nil ?_
      rintro _ ⟨nq, rfl⟩
      have hb1 := hd nq
      go_wp2_with fail
      refine (isLent_any ⟨1, lc, lp, ls⟩ (hc.mono hb1) hn).mono ?_
      rintro e w2 ⟨rfl, hb2⟩
      go_wp2
      go_ret
      exact ⟨by simp [Cab.loanOk], hb1.trans (hb2.mono hb1.size)⟩
    · have hd := fun n => below_draws hb n
      go_enter Tryz.func59, Tryz.ntmps59
      go_wp2
      refine wp_region_quiet_tail (fun w' => ∃ n, w' = World.drewN (w.alloc (.cells #[.int .i64 2, .int .i64 lc, .int .i64 lp, .int .i64 ls] 37)) n) 16 (by kernel_rfl) (by kernel_rfl) ⟨1, rfl⟩ ?_
      simp only [List.take_succ_cons, List.take_zero, List.drop_succ_cons, List.drop_zero]
      repeat (go_big_quiet_step ((go_at_call 53; exact within_q (b := true) (by decide))))
      refine wpQuiet_nil ?_
      rintro _ ⟨nq, rfl⟩
      have hb1 := hd nq
      go_wp2_with fail
      refine (isLook_any ⟨2, lc, lp, ls⟩ (hc.mono hb1) hn hs).mono ?_
      rintro e w2 ⟨rfl, hb2⟩
      go_wp2
      go_ret
      exact ⟨by simp [Cab.loanOk], hb1.trans (hb2.mono hb1.size)⟩
  · have hr : inR lk 0 2 = false := by unfold inR; simp; omega
    have hbad : Cab.loanOk c ⟨lk, lc, lp, ls⟩ = false := by
      unfold Cab.loanOk
      rw [if_neg (by show ¬ lk = 0; omega), if_neg (by show ¬ lk = 1; omega), if_neg (by show ¬ lk = 2; omega)]
    have HB := Lib.hid hbad
    clear hbad
    go_enter Tryz.func59, Tryz.ntmps59
    go_wp2
    go_quiet ((go_at_call 53; exact within_q hr))
    go_wp2
    go_ret
    rw [HB.out]
    exact ⟨rfl, below_draws hb _⟩
end Go.Proofs.YtbnhngfegnhaiaaGreatDoor
namespace Go.Proofs.YtbnhngfegnhaiaaGreatDoor
open Go.RowKit
/-- The first loan, from number k on, that is not valid; -1: none. -/
def badFrom (c : Cab) : List Ln → Nat → Int
  | [], _ => -1
  | l :: r, k => if c.loanOk l then badFrom c r (k + 1) else (k : Int)
theorem badFrom_ge (c : Cab) : ∀ (l : List Ln) (k : Nat), decide (0 ≤ badFrom c l k) = !l.all c.loanOk
  | [], k => by simp [badFrom]
  | x :: r, k => by
    unfold badFrom
    cases h : c.loanOk x
    · simp [h]
    · simp [h, badFrom_ge c r (k + 1)]
theorem badFrom_step (c : Cab) {l : List Ln} {k : Nat} (hk : k < l.length) : badFrom c (l.drop k) k = if c.loanOk (gl l k) then badFrom c (l.drop (k + 1)) (k + 1) else (k : Int) := by
  rw [List.drop_eq_getElem_cons hk]
  have : gl l k = l[k] := by simp [gl, hk]
  rw [this]
  rfl
set_option maxHeartbeats 1000000 in
theorem indexFunc_any {bk bp : Nat} {kv : Value} {bc : Nat} {c : Cab} {ah : Option Addr} {ch : Nat} {al : Option Addr} {cl : Nat} {w : World} (hk : w.cell? ⟨bk, 0, none⟩ = some kv) (hkv : IsKinds w kv)
    (hp : w.cell? ⟨bp, 0, none⟩ = some (.pointer (some ⟨bc, 0, none⟩))) (hc : CabP w bc c ah ch al cl) (hn : c.homes.length ≤ 16) (hs : 0 ≤ c.slots ∧ c.slots ≤ 100) (hl : c.loans.length ≤ 30) :
    Calls Tryz.prog 78 #[.slice al c.loans.length cl, .func (.func 59) #[] #[.pointer (some ⟨bk, 0, none⟩), .pointer (some ⟨bp, 0, none⟩)]] w fun e w' => e = .returned (.int .i64 (badFrom c c.loans 0)) ∧ Below w.heap.size w w' := by
  go_enter Tryz.func78, Tryz.ntmps78
  go_wp2
  go_loopw [4, 5, 8] (fun _ _ i wr => ∃ k : Nat, k ≤ c.loans.length ∧ i = .int .i64 k ∧ Hid (badFrom c c.loans 0 = badFrom c (c.loans.drop k) k) ∧ Below w.heap.size w wr) (fun _ _ i _ => c.loans.length - (intOf i).toNat)
  case atStart => exact ⟨0, by omega, rfl, rfl, Below.refl _ _⟩
  case round =>
    obtain ⟨k, hkn, rfl, HL, hbr⟩ := hrel
    by_cases hlt : k < c.loans.length
    · obtain ⟨b, off, rfl, l0, l1, l2, l3⟩ := (hc.mono hbr).li k hlt
      have HB := Lib.hid (badFrom_step c hlt)
      have hcall := loanBad_any (gl c.loans k) (cell_stays hbr hk) (hkv.mono hbr) (cell_stays hbr hp) (hc.mono hbr) hn hs
      go_wp2_with fail
      cases hok : c.loanOk (gl c.loans k)
      · rw [hok] at hcall
        refine hcall.mono ?_
        rintro e w2 ⟨rfl, hb2⟩
        go_wp2
        go_ret
        refine ⟨ret_int ?_, hbr.trans (hb2.mono hbr.size)⟩
        rw [HL.out, HB.out, hok]; rfl
      · rw [hok] at hcall
        refine hcall.mono ?_
        rintro e w2 ⟨rfl, hb2⟩
        go_wp2
        go_roundw
        case rel => exact ⟨k + 1, by omega, by go_num, by rw [Hid, HL.out, HB.out, hok]; rfl, hbr.trans (hb2.mono hbr.size)⟩
        case measure => simp [intOf]; omega
    · go_wp2
      go_ret
      refine ⟨ret_int ?_, hbr⟩
      rw [HL.out, List.drop_of_length_le (by omega)]
      rfl
theorem containsFunc_any {bk bp : Nat} {kv : Value} {bc : Nat} {c : Cab} {ah : Option Addr} {ch : Nat} {al : Option Addr} {cl : Nat} {w : World} (hk : w.cell? ⟨bk, 0, none⟩ = some kv) (hkv : IsKinds w kv)
    (hp : w.cell? ⟨bp, 0, none⟩ = some (.pointer (some ⟨bc, 0, none⟩))) (hc : CabP w bc c ah ch al cl) (hn : c.homes.length ≤ 16) (hs : 0 ≤ c.slots ∧ c.slots ≤ 100) (hl : c.loans.length ≤ 30) :
    Calls Tryz.prog 58 #[.slice al c.loans.length cl, .func (.func 59) #[] #[.pointer (some ⟨bk, 0, none⟩), .pointer (some ⟨bp, 0, none⟩)]] w fun e w' => e = .returned (.bool (!c.loans.all c.loanOk)) ∧ Below w.heap.size w w' := by
  have HG := Lib.hid (badFrom_ge c c.loans 0)
  have hcall := indexFunc_any hk hkv hp hc hn hs hl
  clear hk hkv hp hc
  go_enter Tryz.func58, Tryz.ntmps58
  go_wp2_with fail
  refine hcall.mono ?_
  rintro e w2 ⟨rfl, hb2⟩
  go_wp2
  go_ret
  exact ⟨ret_bool HG.out, hb2⟩
set_option maxHeartbeats 400000 in
theorem index_any (l : List Int) (x : Int) {a : Option Addr} {cap : Nat} {w : World} (ha : IsInts w a l) (hn : l.length ≤ 16) :
    Calls Tryz.prog 57 #[.slice a l.length cap, .int .i64 x] w fun e w' => e = .returned (.int .i64 (lies l x)) ∧ w = w' := by
  go_enter Tryz.func57, Tryz.ntmps57
  go_wp2
  go_loop [4, 5, 8] (fun _ _ i => ∃ k : Nat, k ≤ l.length ∧ i = .int .i64 k ∧ Hid (lies l x = liesFrom (l.drop k) x k)) (fun _ _ i => l.length - (intOf i).toNat)
  case atStart => exact ⟨0, by omega, rfl, rfl⟩
  case round =>
    obtain ⟨k, hk, rfl, HL⟩ := hrel
    by_cases hlt : k < l.length
    · obtain ⟨b, off, rfl, hc⟩ := ha k hlt
      go_wp2
      · have ht : (x == gi l k) = true := by assumption
        go_ret
        refine ⟨ret_int ?_, rfl⟩
        rw [HL.out, liesFrom_hit hlt (by simpa using Eq.symm (by simpa using ht : x = gi l k))]
      · have ht : (x == gi l k) = false := by assumption
        go_round
        case rel => exact ⟨k + 1, by omega, by go_num, by rw [Hid, HL.out, liesFrom_miss hlt (fun h => by simp [h] at ht)]⟩
        case measure => simp [intOf]; omega
    · go_wp2
      go_ret
      refine ⟨ret_int ?_, rfl⟩
      rw [HL.out, List.drop_of_length_le (by omega)]
      rfl
end Go.Proofs.YtbnhngfegnhaiaaGreatDoor
namespace Go.Proofs.YtbnhngfegnhaiaaGreatDoor
open Go.RowKit
def homeOk (c : Cab) (i : Nat) : Bool := c.slotOf (gi c.homes i) && decide (lies c.homes (gi c.homes i) = (i : Int))
theorem lies_self {l : List Int} {k : Nat} (hk : k < l.length) (h : lies l (gi l k) = (k : Int)) : ∀ j, j < k → gi l j ≠ gi l k := by
  intro j hj he
  unfold lies at h
  have key : ∀ (m : Nat), m ≤ j → liesFrom (l.drop m) (gi l k) m ≤ j := by
    intro m hm
    induction hd : j - m generalizing m with
    | zero =>
      have : m = j := by omega
      subst this
      rw [liesFrom_hit (by omega) he]; omega
    | succ d ih =>
      by_cases hmm : gi l m = gi l k
      · rw [liesFrom_hit (by omega) hmm]; omega
      · rw [liesFrom_miss (by omega) hmm]
        exact ih (m + 1) (by omega) (by omega)
  have := key 0 (by omega)
  simp only [List.drop_zero] at this
  omega
theorem lies_first {l : List Int} {k : Nat} (hk : k < l.length) (hn : ∀ j, j < k → gi l j ≠ gi l k) : lies l (gi l k) = (k : Int) := by
  unfold lies
  have key : ∀ (m : Nat), m ≤ k → liesFrom (l.drop m) (gi l k) m = (k : Int) := by
    intro m hm
    induction hd : k - m generalizing m with
    | zero =>
      have : m = k := by omega
      subst this
      rw [liesFrom_hit hk rfl]
    | succ d ih =>
      rw [liesFrom_miss (by omega) (hn m (by omega))]
      exact ih (m + 1) (by omega) (by omega)
  have := key 0 (by omega)
  simpa using this
theorem gi_eq {l : List Int} {k : Nat} (hk : k < l.length) : gi l k = l[k] := by simp [gi, hk]
theorem homesOk_of {c : Cab} (h : ∀ j, j < c.homes.length → homeOk c j = true) : c.homesOk = true := by
  unfold Cab.homesOk
  simp only [Bool.and_eq_true, decide_eq_true_eq, List.all_eq_true]
  refine ⟨?_, ?_⟩
  · rw [List.nodup_iff_pairwise_ne, List.pairwise_iff_getElem]
    intro i j hi hj hij
    have := h j hj
    simp only [homeOk, Bool.and_eq_true, decide_eq_true_eq] at this
    have h2 := lies_self hj this.2 i hij
    rwa [gi_eq hi, gi_eq hj] at h2
  · intro x hx
    obtain ⟨i, hi, rfl⟩ := List.getElem_of_mem hx
    have := h i hi
    simp only [homeOk, Bool.and_eq_true] at this
    rw [gi_eq hi] at this
    exact this.1
theorem homesOk_not {c : Cab} {k : Nat} (hk : k < c.homes.length) (h : homeOk c k = false) : c.homesOk = false := by
  cases hh : c.homesOk with
  | false => rfl
  | true =>
    unfold Cab.homesOk at hh
    simp only [Bool.and_eq_true, decide_eq_true_eq, List.all_eq_true] at hh
    have h1 : c.slotOf (gi c.homes k) = true := by rw [gi_eq hk]; exact hh.2 _ (by simp)
    have h2 : lies c.homes (gi c.homes k) = (k : Int) := by
      refine lies_first hk (fun j hj he => ?_)
      rw [List.nodup_iff_pairwise_ne, List.pairwise_iff_getElem] at hh
      rw [gi_eq (by omega), gi_eq hk] at he
      exact hh.1 j k (by omega) hk hj he
    simp [homeOk, h1, h2] at h
set_option maxRecDepth 100000 in
set_option maxHeartbeats 2000000 in
theorem isCabinet_no {bc : Nat} {c : Cab} {ah : Option Addr} {ch : Nat} {al : Option Addr} {cl : Nat} {w : World} (hc : CabP w bc c ah ch al cl) (hs : c.sizes = false) (hh : c.homes.length ≤ 16) (hl : c.loans.length ≤ 30) :
    Calls Tryz.prog 49 #[.pointer (some ⟨bc, 0, none⟩)] w fun e w' => e = .returned (.bool false) ∧ Below w.heap.size w w' := by
  have hbc := lt_of_cell hc.s
  have c0 := hc.s
  have c1 := hc.h
  have c2 := hc.g
  have c3 := hc.l
  have hb : Below w.heap.size w (w.alloc (.cells #[.pointer (some ⟨bc, 0, none⟩)] 82)) := (Below.refl _ w).alloc (Nat.le_refl _) _
  clear hc
  unfold Cab.sizes at hs
  cases h1 : inR c.slots 1 6
  · clear hs
    go_enter Tryz.func49, Tryz.ntmps49
    go_wp2_with (go_at_call 53; refine (within_any _ _ _ _).mono ?_; rintro e w' ⟨rfl, rfl⟩; rw [h1])
    go_ret
    exact ⟨rfl, hb⟩
  · by_cases h2 : c.homes.length ≤ 5
    · cases h3 : inR c.wrong 0 12
      · clear hs
        go_enter Tryz.func49, Tryz.ntmps49
        go_wp2_with (go_at_call 53; refine (within_any _ _ _ _).mono ?_; rintro e w' ⟨rfl, rfl⟩; first | rw [h1] | rw [h3])
        go_ret
        exact ⟨rfl, hb⟩
      · have h4 : ¬ c.loans.length ≤ 12 := fun h4 => by simp [h1, h2, h3, h4] at hs
        clear hs
        go_enter Tryz.func49, Tryz.ntmps49
        go_wp2_with (go_at_call 53; refine (within_any _ _ _ _).mono ?_; rintro e w' ⟨rfl, rfl⟩; first | rw [h1] | rw [h3])
        go_ret
        exact ⟨rfl, hb⟩
    · clear hs
      go_enter Tryz.func49, Tryz.ntmps49
      go_wp2_with (go_at_call 53; refine (within_any _ _ _ _).mono ?_; rintro e w' ⟨rfl, rfl⟩; rw [h1])
      go_ret
      exact ⟨rfl, hb⟩
set_option maxRecDepth 100000 in
set_option maxHeartbeats 2000000 in
theorem isCabinet_yes {bc : Nat} {c : Cab} {ah : Option Addr} {ch : Nat} {al : Option Addr} {cl : Nat} {w : World} (hc : CabP w bc c ah ch al cl) (hs : c.sizes = true) :
    Calls Tryz.prog 49 #[.pointer (some ⟨bc, 0, none⟩)] w fun e w' => e = .returned (.bool c.valid) ∧ Below w.heap.size w w' := by
  have hbc := lt_of_cell hc.s
  have c0 := hc.s
  have c1 := hc.h
  have c2 := hc.g
  have c3 := hc.l
  have hb : Below w.heap.size w (w.alloc (.cells #[.pointer (some ⟨bc, 0, none⟩)] 82)) := (Below.refl _ w).alloc (Nat.le_refl _) _
  have hc1 := hc.mono hb
  have hv : c.valid = (c.homesOk && c.loans.all c.loanOk) := by unfold Cab.valid; rw [hs]; rfl
  have HV := Lib.hid hv
  unfold Cab.sizes at hs
  simp only [Bool.and_eq_true, decide_eq_true_eq] at hs
  obtain ⟨⟨⟨h1, h2⟩, h3⟩, h4⟩ := hs
  have hsl : 0 ≤ c.slots ∧ c.slots ≤ 100 := by unfold inR at h1; simp at h1; omega
  clear hv
  go_enter Tryz.func49, Tryz.ntmps49
  go_wp2_with (go_at_call 53; refine (within_any _ _ _ _).mono ?_; rintro e w' ⟨rfl, rfl⟩; first | rw [h1] | rw [h3])
  go_loop [3, 4, 46] (fun _ _ i => ∃ k : Nat, k ≤ c.homes.length ∧ i = .int .i64 k ∧ Hid (∀ j, j < k → homeOk c j = true)) (fun _ _ i => c.homes.length - (intOf i).toNat)
  case atStart => exact ⟨0, by omega, rfl, fun j hj => by omega⟩
  case round =>
    obtain ⟨k, hk, rfl, HA⟩ := hrel
    by_cases hlt : k < c.homes.length
    · have HK := Lib.hid (@homesOk_not c k hlt)
      obtain ⟨b, off, rfl, hcell⟩ := hc.hi k hlt
      have hbb := lt_of_cell hcell
      have hidx := index_any (cap := ch) c.homes (gi c.homes k) hc1.hi (by omega)
      cases hi1 : c.slotOf (gi c.homes k)
      · have hno : Hid (homeOk c k = false) := by unfold Hid homeOk; rw [hi1]; rfl
        go_wp2_with (go_at_call 44; refine (isSlot_any _ hc1 hsl).mono ?_; rintro e w' ⟨rfl, rfl⟩; rw [hi1])
        go_ret
        refine ⟨ret_bool ?_, hb⟩
        rw [HV.out, HK.out hno.out]; rfl
      · by_cases hi2 : lies c.homes (gi c.homes k) = (k : Int)
        · have hyes : Hid (homeOk c k = true) := by unfold Hid homeOk; rw [hi1, hi2]; simp
          have hi3 : (lies c.homes (gi c.homes k) != (k : Int)) = false := by simp [hi2]
          clear hi2
          go_wp2_with (first | (go_at_call 44; refine (isSlot_any _ hc1 hsl).mono ?_; rintro e w' ⟨rfl, rfl⟩; rw [hi1]) | (go_at_call 57; refine hidx.mono ?_; clear hidx; rintro e w' ⟨rfl, rfl⟩))
          go_round
          case rel => exact ⟨k + 1, by omega, by go_num, fun j hj => by
            by_cases e : j = k
            · subst e; exact hyes.out
            · exact HA.out j (by omega)⟩
          case measure => simp [intOf]; omega
        · have hno : Hid (homeOk c k = false) := by unfold Hid homeOk; rw [hi1]; simp [hi2]
          have hi3 : (lies c.homes (gi c.homes k) != (k : Int)) = true := by simp [hi2]
          clear hi2
          go_wp2_with (first | (go_at_call 44; refine (isSlot_any _ hc1 hsl).mono ?_; rintro e w' ⟨rfl, rfl⟩; rw [hi1]) | (go_at_call 57; refine hidx.mono ?_; clear hidx; rintro e w' ⟨rfl, rfl⟩))
          go_ret
          refine ⟨ret_bool ?_, hb⟩
          rw [HV.out, HK.out hno.out]; rfl
    · have hall : Hid (c.homesOk = true) := homesOk_of (fun j hj => HA.out j (by omega))
      go_wp2_with fail
      refine (kinds_any _).mono ?_
      rintro e w2 ⟨⟨_, rfl, ⟨b, rfl, hkk⟩⟩, hb2⟩
      have HK : Hid (IsKinds w2 (.slice (some ⟨b, 0, none⟩) 3 3)) := ⟨b, rfl, hkk⟩
      clear hkk
      have hs2 := hb2.size
      rw [World.size_alloc] at hs2
      have hbb := hb.trans (hb2.mono (by simp))
      have hp2 := cell_stays hb2 (b := w.heap.size) (o := 0) (v := .pointer (some ⟨bc, 0, none⟩)) (by simp)
      have d1 := (hc.mono hbb).l
      have hc2 := Lib.hid (hc.mono hbb)
      have e1 := lt_of_cell hp2
      have e2 := lt_of_cell d1
      have hbn : Below w2.heap.size w2 (w2.alloc (.cells #[.slice (some ⟨b, 0, none⟩) 3 3] 111)) := (Below.refl _ w2).alloc (Nat.le_refl _) _
      go_wp2_with fail
      refine (containsFunc_any (bk := w2.heap.size) (bp := w.heap.size) (by simp) (HK.out.mono hbn) (cell_stays hbn hp2) (hc2.out.mono hbn) (by omega) hsl (by omega)).mono ?_
      rintro e w3 ⟨rfl, hb3⟩
      go_wp2
      go_ret
      refine ⟨ret_bool ?_, (hbb.trans (hbn.mono (by omega))).trans (hb3.mono (by simp; omega))⟩
      rw [HV.out, hall.out]
      simp
theorem isCabinet_any {bc : Nat} {c : Cab} {ah : Option Addr} {ch : Nat} {al : Option Addr} {cl : Nat} {w : World} (hc : CabP w bc c ah ch al cl) (hh : c.homes.length ≤ 16) (hl : c.loans.length ≤ 30) :
    Calls Tryz.prog 49 #[.pointer (some ⟨bc, 0, none⟩)] w fun e w' => e = .returned (.bool c.valid) ∧ Below w.heap.size w w' := by
  cases hs : c.sizes with
  | true => exact isCabinet_yes hc hs
  | false =>
    have hv : c.valid = false := by unfold Cab.valid; rw [hs]; rfl
    rw [hv]
    exact isCabinet_no hc hs hh hl
/-- A cabinet by value. -/
abbrev Cab.v (c : Cab) (ah : Option Addr) (ch : Nat) (al : Option Addr) (cl : Nat) : Value :=
  .agg #[.int .i64 c.slots, .slice ah c.homes.length ch, .int .i64 c.wrong, .slice al c.loans.length cl]
abbrev Cab.cells (c : Cab) (ah : Option Addr) (ch : Nat) (al : Option Addr) (cl : Nat) : Array Value :=
  #[.int .i64 c.slots, .slice ah c.homes.length ch, .int .i64 c.wrong, .slice al c.loans.length cl]
theorem CabP.of_new {w : World} {c : Cab} {ah : Option Addr} {ch : Nat} {al : Option Addr} {cl : Nat} (hi : IsInts w ah c.homes) (li : IsLoans w al c.loans) (t : TypeId) :
    CabP (w.alloc (.cells (c.cells ah ch al cl) t)) w.heap.size c ah ch al cl := by
  have hb : Below w.heap.size w (w.alloc (.cells (c.cells ah ch al cl) t)) := (Below.refl _ w).alloc (Nat.le_refl _) _
  exact ⟨by simp, by simp, by simp, by simp, hi.mono hb, li.mono hb⟩
theorem look_yes {c : Cab} {ah : Option Addr} {ch : Nat} {al : Option Addr} {cl : Nat} {w : World} (hi : IsInts w ah c.homes) (li : IsLoans w al c.loans) (hh : c.homes.length ≤ 16) (hl : c.loans.length ≤ 30) (hv : c.valid = true) :
    Calls Tryz.prog 29 #[c.v ah ch al cl] w fun e w' => ∃ bc, e = .returned (.pointer (some ⟨bc, 0, none⟩)) ∧ w.heap.size ≤ bc ∧ CabP w' bc c ah ch al cl ∧ Below w.heap.size w w' := by
  have h1 : Below w.heap.size w (w.alloc (.cells (c.cells ah ch al cl) 40)) := (Below.refl _ w).alloc (Nat.le_refl _) _
  have h2 := CabP.of_new (ch := ch) (cl := cl) (hi.mono h1) (li.mono h1) 85
  have h3 : Below w.heap.size w ((w.alloc (.cells (c.cells ah ch al cl) 40)).alloc (.cells (c.cells ah ch al cl) 85)) := h1.alloc (by simp) _
  rw [World.size_alloc] at h2
  have H2 := Lib.hid h2
  clear h2
  go_enter Tryz.func29, Tryz.ntmps29
  go_wp2_with fail
  refine (isCabinet_any H2.out hh hl).mono ?_
  rintro e w3 ⟨rfl, hb3⟩
  rw [hv]
  go_wp2_with (go_at_call 48; refine (need_yes _ _).mono ?_; rintro e w' ⟨rfl, rfl⟩)
  go_ret
  exact ⟨_, rfl, by omega, H2.out.mono hb3, h3.trans (hb3.mono (by simp; omega))⟩
theorem look_no {c : Cab} {ah : Option Addr} {ch : Nat} {al : Option Addr} {cl : Nat} {w : World} (hi : IsInts w ah c.homes) (li : IsLoans w al c.loans) (hh : c.homes.length ≤ 16) (hl : c.loans.length ≤ 30) (hv : c.valid = false) :
    Calls Tryz.prog 29 #[c.v ah ch al cl] w fun e w' => e = .panicked [{ v := .iface 106 (.agg #[.int .i64 1]), recovered := false }] ∧ Below w.heap.size w w' := by
  have h1 : Below w.heap.size w (w.alloc (.cells (c.cells ah ch al cl) 40)) := (Below.refl _ w).alloc (Nat.le_refl _) _
  have h2 := CabP.of_new (ch := ch) (cl := cl) (hi.mono h1) (li.mono h1) 85
  have h3 : Below w.heap.size w ((w.alloc (.cells (c.cells ah ch al cl) 40)).alloc (.cells (c.cells ah ch al cl) 85)) := h1.alloc (by simp) _
  rw [World.size_alloc] at h2
  have H2 := Lib.hid h2
  clear h2
  go_enter Tryz.func29, Tryz.ntmps29
  go_wp2_with fail
  refine (isCabinet_any H2.out hh hl).mono ?_
  rintro e w3 ⟨rfl, hb3⟩
  rw [hv]
  go_wp2_with (go_at_call 48; refine (need_no _ _).mono ?_; rintro e w' ⟨rfl, rfl⟩)
  exact ⟨rfl, rfl, h3.trans (hb3.mono (by simp; omega))⟩
end Go.Proofs.YtbnhngfegnhaiaaGreatDoor
namespace Go.Proofs.YtbnhngfegnhaiaaGreatDoor
/-- What a state with so many wrong ones does to what is known. -/
def addAt (f : List Int → Option Int) (t : List Int) (m : Int) (s : List Int) : Option Int :=
  if s = t then some (match f t with | none => m | some x => if m < x then m else x) else f s
/-- The least number of each state of a list. -/
def minF (L : List (List Int × Int)) : List Int → Option Int := L.foldl (fun f p => addAt f p.1 p.2) (fun _ => none)
theorem minF_snoc (L : List (List Int × Int)) (p : List Int × Int) : minF (L ++ [p]) = addAt (minF L) p.1 p.2 := by simp [minF]
theorem minF_aux : ∀ (L : List (List Int × Int)) (f : List Int → Option Int) (t : List Int) (m : Int),
    L.foldl (fun f p => addAt f p.1 p.2) f t = some m ↔ ((f t = some m ∨ (t, m) ∈ L) ∧ (∀ x, f t = some x → m ≤ x) ∧ ∀ x, (t, x) ∈ L → m ≤ x)
  | [], f, t, m => by
    simp only [List.foldl_nil, List.not_mem_nil, or_false, false_imp_iff, implies_true, and_true]
    exact ⟨fun h => ⟨h, fun x hx => by rw [h] at hx; cases hx; exact Int.le_refl _⟩, fun h => h.1⟩
  | p :: L, f, t, m => by
    rw [List.foldl_cons, minF_aux L]
    by_cases ht : t = p.1
    · have e : addAt f p.1 p.2 t = some (match f t with | none => p.2 | some x => if p.2 < x then p.2 else x) := by unfold addAt; rw [if_pos ht, ht]
      have hp : ∀ x, (t, x) = p ↔ x = p.2 := fun x => by subst ht; exact ⟨fun h => by rw [← h], fun h => by rw [h]⟩
      cases hf : f t with
      | none =>
        rw [hf] at e
        simp only [e, Option.some.injEq, List.mem_cons, hp, reduceCtorEq, false_or, false_imp_iff, implies_true, true_and]
        constructor
        · rintro ⟨h1, h2, h3⟩
          exact ⟨h1.imp Eq.symm id, fun x hx => hx.elim (fun e => e ▸ h2 p.2 rfl) (h3 x)⟩
        · rintro ⟨h1, h2⟩
          exact ⟨h1.imp Eq.symm id, fun x hx => hx ▸ h2 p.2 (.inl rfl), fun x hx => h2 x (.inr hx)⟩
      | some y =>
        rw [hf] at e
        simp only [e, Option.some.injEq, List.mem_cons, hp]
        constructor
        · rintro ⟨h1, h2, h3⟩
          have h2' := h2 _ rfl
          refine ⟨?_, fun x hx => ?_, fun x hx => hx.elim (fun e => ?_) (h3 x)⟩
          · rcases h1 with h1 | h1
            · split at h1
              · exact .inr (.inl h1.symm)
              · exact .inl h1
            · exact .inr (.inr h1)
          · subst hx; split at h2' <;> omega
          · subst e; split at h2' <;> omega
        · rintro ⟨h1, h2, h3⟩
          have a1 := h2 y rfl
          have a2 := h3 p.2 (.inl rfl)
          refine ⟨?_, fun x hx => ?_, fun x hx => h3 x (.inr hx)⟩
          · rcases h1 with h1 | h1 | h1
            · left; split <;> omega
            · left; split <;> omega
            · exact .inr h1
          · subst hx; split <;> omega
    · have e : addAt f p.1 p.2 t = f t := by unfold addAt; rw [if_neg ht]
      have hp : ∀ x, (t, x) ≠ p := fun x h => ht (by rw [← h])
      simp only [e, List.mem_cons, hp, false_or]
theorem minF_some {L : List (List Int × Int)} {t : List Int} {m : Int} : minF L t = some m ↔ (t, m) ∈ L ∧ ∀ x, (t, x) ∈ L → m ≤ x := by
  unfold minF
  rw [minF_aux]
  simp
theorem minF_none_aux : ∀ (L : List (List Int × Int)) (f : List Int → Option Int) (t : List Int), L.foldl (fun f p => addAt f p.1 p.2) f t = none → f t = none ∧ ∀ x, (t, x) ∉ L
  | [], f, t, h => ⟨h, by simp⟩
  | p :: L, f, t, h => by
    rw [List.foldl_cons] at h
    obtain ⟨h1, h2⟩ := minF_none_aux L _ t h
    by_cases ht : t = p.1
    · have : addAt f p.1 p.2 t ≠ none := by unfold addAt; rw [if_pos ht]; intro h; cases h
      exact absurd h1 this
    · have e : addAt f p.1 p.2 t = f t := by unfold addAt; rw [if_neg ht]
      refine ⟨e ▸ h1, fun x hx => ?_⟩
      rcases List.mem_cons.1 hx with hx | hx
      · exact ht (by rw [← hx])
      · exact h2 x hx
theorem minF_none {L : List (List Int × Int)} {t : List Int} : minF L t = none ↔ ∀ x, (t, x) ∉ L := by
  constructor
  · intro h
    exact (minF_none_aux L _ t h).2
  · intro h
    cases hm : minF L t with
    | none => rfl
    | some m => exact absurd (minF_some.1 hm).1 (h m)
theorem minF_ex {L : List (List Int × Int)} {t : List Int} {x : Int} (h : (t, x) ∈ L) : ∃ m, minF L t = some m ∧ m ≤ x := by
  cases hm : minF L t with
  | none => exact absurd h (minF_none.1 hm x)
  | some m => exact ⟨m, rfl, (minF_some.1 hm).2 x h⟩
theorem minF_congr {L L' : List (List Int × Int)} (h1 : ∀ t m, (t, m) ∈ L → ∃ m', (t, m') ∈ L' ∧ m' ≤ m) (h2 : ∀ t m, (t, m) ∈ L' → ∃ m', (t, m') ∈ L ∧ m' ≤ m) : minF L = minF L' := by
  funext t
  cases hm : minF L t with
  | none =>
    symm
    rw [minF_none] at hm ⊢
    intro x hx
    obtain ⟨m', hm', _⟩ := h2 t x hx
    exact hm m' hm'
  | some m =>
    symm
    have h := minF_some.1 hm
    obtain ⟨m', hm', hle⟩ := h1 t m h.1
    obtain ⟨m'', hm'', hle'⟩ := h2 t m' hm'
    have := h.2 m'' hm''
    have hmm : m' = m := by omega
    subst hmm
    refine minF_some.2 ⟨hm', fun x hx => ?_⟩
    obtain ⟨y, hy, hyx⟩ := h2 t x hx
    have := h.2 y hy
    omega
theorem paths_snoc (c : Cab) (l : Ln) : ∀ (ls : List Ln) (a : List Int) (t : List Int) (bs : List Bool),
    (t, bs) ∈ paths c (ls ++ [l]) a ↔ ∃ s bs' b, (s, bs') ∈ paths c ls a ∧ (t, b) ∈ step c s l ∧ bs = bs' ++ [b]
  | [], a, t, bs => by
    simp only [List.nil_append, paths, List.mem_flatMap, List.mem_map, List.mem_singleton, Prod.mk.injEq]
    constructor
    · rintro ⟨x, hx, y, ⟨rfl⟩, rfl, rfl⟩
      exact ⟨a, [], x.2, ⟨rfl, rfl⟩, hx, rfl⟩
    · rintro ⟨s, bs', b, ⟨rfl, rfl⟩, hs, rfl⟩
      exact ⟨(t, b), hs, (t, []), rfl, rfl, rfl⟩
  | l0 :: ls, a, t, bs => by
    simp only [List.cons_append, paths, List.mem_flatMap, List.mem_map]
    constructor
    · rintro ⟨x, hx, y, hy, he⟩
      obtain ⟨s, bs', b, h1, h2, h3⟩ := (paths_snoc c l ls x.1 y.1 y.2).1 hy
      cases he
      exact ⟨s, x.2 :: bs', b, ⟨x, hx, (s, bs'), h1, rfl⟩, h2, by rw [h3]; rfl⟩
    · rintro ⟨s, bs', b, ⟨x, hx, y, hy, he⟩, h2, rfl⟩
      cases he
      exact ⟨x, hx, (t, y.2 ++ [b]), (paths_snoc c l ls x.1 t (y.2 ++ [b])).2 ⟨y.1, y.2, b, hy, h2, rfl⟩, rfl⟩
theorem paths_len (c : Cab) : ∀ (ls : List Ln) (a t : List Int) (bs : List Bool), (t, bs) ∈ paths c ls a → bs.length = ls.length
  | [], a, t, bs, h => by simp [paths] at h; simp [h.2]
  | l :: ls, a, t, bs, h => by
    simp only [paths, List.mem_flatMap, List.mem_map] at h
    obtain ⟨x, _, y, hy, he⟩ := h
    cases he
    simp [paths_len c ls x.1 y.1 y.2 hy]
theorem okAll_snoc (r : Rule) (l : Ln) (b : Bool) : ∀ (i : Nat) (ls : List Ln) (bs : List Bool), bs.length = ls.length → okAll r i (ls ++ [l]) (bs ++ [b]) = (okAll r i ls bs && r (i + ls.length) l b)
  | i, [], [], _ => by simp [okAll]
  | i, x :: ls, y :: bs, h => by
    have h' : bs.length = ls.length := by simpa using h
    simp only [List.cons_append, okAll, okAll_snoc r l b (i + 1) ls bs h', List.length_cons, Bool.and_assoc]
    rw [show i + 1 + ls.length = i + (ls.length + 1) by omega]
theorem wrongs_snoc (bs : List Bool) (b : Bool) : wrongs (bs ++ [b]) = wrongs bs + if b then 1 else 0 := by
  unfold wrongs; rw [List.countP_append]; cases b <;> simp
/-- The states that can be reached by some loans, each with how many were put back wrong at least. -/
def reachF (c : Cab) (r : Rule) (W : Int) (ls : List Ln) : List Int → Option Int := minF ((truthsBy c r ls W).map fun x => (x.1, (wrongs x.2 : Int)))
/-- What a state can come to by a loan more. -/
def contrib (c : Cab) (r : Rule) (W : Int) (i : Nat) (l : Ln) (p : List Int × Int) : List (List Int × Int) :=
  (step c p.1 l).filterMap fun x => if p.2 + (if x.2 then 1 else 0) ≤ W ∧ r i l x.2 = true then some (x.1, p.2 + (if x.2 then 1 else 0)) else none
theorem reachF_mem {c : Cab} {r : Rule} {W : Int} {ls : List Ln} {t : List Int} {m : Int} : (t, m) ∈ ((truthsBy c r ls W).map fun x => (x.1, (wrongs x.2 : Int))) ↔
    ∃ bs, (t, bs) ∈ paths c ls c.homes ∧ okAll r 0 ls bs = true ∧ (wrongs bs : Int) = m ∧ m ≤ W := by
  simp only [truthsBy, List.mem_map, List.mem_filter, Bool.and_eq_true, decide_eq_true_eq, Prod.mk.injEq]
  constructor
  · rintro ⟨x, ⟨h1, h2, h3⟩, rfl, rfl⟩
    exact ⟨x.2, h1, h2, rfl, h3⟩
  · rintro ⟨bs, h1, h2, rfl, h3⟩
    exact ⟨(t, bs), ⟨h1, h2, h3⟩, rfl, rfl⟩
theorem reach_step (c : Cab) (r : Rule) (W : Int) (ls : List Ln) (l : Ln) (M : List (List Int × Int)) (hM : ∀ t n, (t, n) ∈ M ↔ reachF c r W ls t = some n) :
    reachF c r W (ls ++ [l]) = minF (M.flatMap (contrib c r W ls.length l)) := by
  have mem2 : ∀ t m, (t, m) ∈ M.flatMap (contrib c r W ls.length l) ↔ ∃ s n b, (s, n) ∈ M ∧ (t, b) ∈ step c s l ∧ m = n + (if b then 1 else 0) ∧ m ≤ W ∧ r ls.length l b = true := by
    intro t m
    simp only [List.mem_flatMap, contrib, List.mem_filterMap]
    constructor
    · rintro ⟨p, hp, x, hx, he⟩
      by_cases hc : p.2 + (if x.2 then 1 else 0) ≤ W ∧ r ls.length l x.2 = true
      · rw [if_pos hc, Option.some.injEq, Prod.mk.injEq] at he
        obtain ⟨rfl, rfl⟩ := he
        exact ⟨p.1, p.2, x.2, hp, hx, rfl, hc.1, hc.2⟩
      · rw [if_neg hc] at he
        exact absurd he (by simp)
    · rintro ⟨s, n, b, h1, h2, rfl, h3, h4⟩
      exact ⟨(s, n), h1, (t, b), h2, by rw [if_pos ⟨h3, h4⟩]⟩
  refine minF_congr (fun t m h => ?_) (fun t m h => ?_)
  · obtain ⟨bs, h1, h2, rfl, h3⟩ := reachF_mem.1 h
    obtain ⟨s, bs', b, h4, h5, rfl⟩ := (paths_snoc c l ls _ t bs).1 h1
    have hlen := paths_len c ls _ _ _ h4
    rw [okAll_snoc r l b 0 ls bs' hlen, Bool.and_eq_true] at h2
    rw [wrongs_snoc] at h3 ⊢
    have hs : (s, (wrongs bs' : Int)) ∈ ((truthsBy c r ls W).map fun x => (x.1, (wrongs x.2 : Int))) := reachF_mem.2 ⟨bs', h4, h2.1, rfl, by cases b <;> simp at h3 <;> omega⟩
    obtain ⟨n, hn, hle⟩ := minF_ex hs
    refine ⟨n + if b then 1 else 0, (mem2 _ _).2 ⟨s, n, b, (hM s n).2 hn, h5, rfl, ?_, by simpa using h2.2⟩, ?_⟩
    · cases b <;> simp at h3 ⊢ <;> omega
    · cases b <;> simp <;> omega
  · obtain ⟨s, n, b, h1, h2, rfl, h3, h4⟩ := (mem2 t m).1 h
    obtain ⟨bs, h5, h6, h7, h8⟩ := reachF_mem.1 (minF_some.1 ((hM s n).1 h1)).1
    refine ⟨n + if b then 1 else 0, reachF_mem.2 ⟨bs ++ [b], (paths_snoc c l ls _ t _).2 ⟨s, bs, b, h5, h2, rfl⟩, ?_, ?_, h3⟩, Int.le_refl _⟩
    · rw [okAll_snoc r l b 0 ls bs (paths_len c ls _ _ _ h5), h6]; simpa using h4
    · rw [wrongs_snoc]; cases b <;> simp <;> omega
theorem reach_nil (c : Cab) (r : Rule) (W : Int) (hW : 0 ≤ W) : reachF c r W [] = minF [(c.homes, 0)] := by
  have : ((truthsBy c r [] W).map fun x => (x.1, (wrongs x.2 : Int))) = [(c.homes, 0)] := by
    simp [truthsBy, paths, okAll, wrongs, hW]
  unfold reachF
  rw [this]
end Go.Proofs.YtbnhngfegnhaiaaGreatDoor
namespace Go.Proofs.YtbnhngfegnhaiaaGreatDoor
open Go.RowKit
theorem mixed : Tryz.prog.follows .mixedOrders = true := by kernel_rfl
theorem laidOut : laidOutB Tryz.prog = true := by kernel_rfl
theorem keyed78 : Maps.Keyed Tryz.prog 95 :=
  Maps.Keyed.of_law (deep_law_laid laidOut (m := 3) (by decide) (by rw [show Tryz.prog.types.size = 191 from by kernel_rfl]; decide) (by kernel_rfl) (by kernel_rfl))
theorem keyType78 : Tryz.prog.keyType 95 = true := by kernel_rfl
theorem cells3 : Tryz.prog.cellsOf 3 = 1 := by kernel_rfl
theorem cells78 : Tryz.prog.cellsOf 95 = 5 := by kernel_rfl
theorem lits78 (n : Nat) (a b c d e : Int) (ha : (Lit.int .i64 a).wf = true) (hb : (Lit.int .i64 b).wf = true) (hc : (Lit.int .i64 c).wf = true) (hd : (Lit.int .i64 d).wf = true) (he : (Lit.int .i64 e).wf = true) :
    ∃ l, Tryz.prog.keyLits (n + 1 + 1) 95 [.int .i64 a, .int .i64 b, .int .i64 c, .int .i64 d, .int .i64 e] = some l := by
  simp [Program.keyLits, Tryz.underlying95, Tryz.underlying3, cells78, cells3, List.range_succ, ha, hb, hc, hd, he]
theorem key78 (a b c d e : Int) (ha : (Lit.int .i64 a).wf = true) (hb : (Lit.int .i64 b).wf = true) (hc : (Lit.int .i64 c).wf = true) (hd : (Lit.int .i64 d).wf = true) (he : (Lit.int .i64 e).wf = true) :
    ∃ l, keyOf Tryz.prog 95 (.agg #[.int .i64 a, .int .i64 b, .int .i64 c, .int .i64 d, .int .i64 e]) = some l := by
  obtain ⟨l, hl⟩ := lits78 190 a b c d e ha hb hc hd he
  have hl' : Tryz.prog.keyLits 192 95 [.int .i64 a, .int .i64 b, .int .i64 c, .int .i64 d, .int .i64 e] = some l := hl
  refine ⟨.string (keyBytes l), ?_⟩
  simp [keyOf, Tryz.underlying95, keyType78, Value.formed, cells78, Value.cells, hl']
/-- A state as the program keeps it: so many cards, each in a slot, or out. -/
def GoodSt (n : Nat) (s : List Int) : Prop := s.length = n ∧ ∀ x ∈ s, -1 ≤ x ∧ x ≤ 5
theorem GoodSt.gi {n : Nat} {s : List Int} (h : GoodSt n s) (k : Nat) : -1 ≤ gi s k ∧ gi s k ≤ 5 := by
  by_cases hk : k < s.length
  · rw [gi_eq hk]; exact h.2 _ (by simp)
  · simp [YtbnhngfegnhaiaaGreatDoor.gi, List.getD, List.getElem?_eq_none (Nat.le_of_not_lt hk)]
theorem wf_small {x : Int} (h : -1 ≤ x ∧ x ≤ 5) : (Lit.int .i64 x).wf = true := WalkArith.wf_i64 (by omega)
theorem GoodSt.key {n : Nat} {s : List Int} (h : GoodSt n s) : ∃ l, keyOf Tryz.prog 95 (stV s) = some l :=
  key78 _ _ _ _ _ (wf_small (h.gi 0)) (wf_small (h.gi 1)) (wf_small (h.gi 2)) (wf_small (h.gi 3)) (wf_small (h.gi 4))
theorem stV_inj {n : Nat} (hn : n ≤ 5) {s t : List Int} (hs : GoodSt n s) (ht : GoodSt n t) (h : stV s = stV t) : s = t := by
  simp only [Value.agg.injEq, Array.mk.injEq, List.cons.injEq, Value.int.injEq, true_and, and_true] at h
  refine List.ext_getElem (hs.1.trans ht.1.symm) (fun i h1 h2 => ?_)
  rw [← gi_eq h1, ← gi_eq h2]
  have : i < 5 := by have := hs.1; omega
  match i, this with
  | 0, _ => exact h.1
  | 1, _ => exact h.2.1
  | 2, _ => exact h.2.2.1
  | 3, _ => exact h.2.2.2.1
  | 4, _ => exact h.2.2.2.2
/-- Block b is a map of states, each with how many cards were put back wrong at least. -/
structure StMap (n : Nat) (w : World) (b : Nat) (M : List (List Int × Int)) : Prop where
  raw : MapRaw Tryz.prog 95 w b (M.map fun p => (stV p.1, .int .i64 p.2))
  good : ∀ p ∈ M, GoodSt n p.1
  small : ∀ p ∈ M, 0 ≤ p.2 ∧ p.2 ≤ 100
def lookM (M : List (List Int × Int)) (t : List Int) : Option Int := (M.find? fun p => p.1 == t).map (·.2)
theorem StMap.kept {n : Nat} {w w' : World} {b : Nat} {M : List (List Int × Int)} (h : StMap n w b M) (hb : w'.heap[b]? = w.heap[b]?) : StMap n w' b M := ⟨h.raw.kept hb, h.good, h.small⟩
theorem StMap.lt {n : Nat} {w : World} {b : Nat} {M : List (List Int × Int)} (h : StMap n w b M) : b < w.heap.size := h.raw.lt
theorem StMap.keys {n : Nat} {w : World} {b : Nat} {M : List (List Int × Int)} (h : StMap n w b M) : (M.map (·.1)).Nodup := by
  have := h.raw.nodup
  rw [List.map_map] at this
  rw [List.nodup_iff_pairwise_ne, List.pairwise_map] at this ⊢
  exact this.imp (fun hne e => hne (by simp only [Function.comp]; rw [e]))
theorem look_none {M : List (List Int × Int)} {t : List Int} : lookM M t = none ↔ ∀ p ∈ M, p.1 ≠ t := by
  unfold lookM
  simp
theorem look_some {M : List (List Int × Int)} (hk : (M.map (·.1)).Nodup) {t : List Int} {x : Int} : lookM M t = some x ↔ (t, x) ∈ M := by
  induction M with
  | nil => simp [lookM]
  | cons p M ih =>
    simp only [List.map_cons, List.nodup_cons] at hk
    unfold lookM at ih ⊢
    rw [List.find?_cons]
    by_cases he : p.1 = t
    · subst he
      have : (p.1, x) ∉ M := fun hm => hk.1 (List.mem_map.2 ⟨_, hm, rfl⟩)
      simp only [beq_self_eq_true, Option.map_some, Option.some.injEq, List.mem_cons, this, or_false]
      exact ⟨fun h => by rw [← h], fun h => by rw [← h]⟩
    · have hb : (p.1 == t) = false := by simpa using he
      simp only [hb, ih hk.2, List.mem_cons]
      exact ⟨.inr, fun h => h.resolve_left (fun e => he (by rw [← e]))⟩
theorem zero3 (w : World) : (zeroValue 3).run Tryz.prog w = .ok (.int .i64 0) w := by kernel_rfl
set_option maxHeartbeats 1000000 in
theorem add_any {n : Nat} (hn : n ≤ 5) {w : World} {b : Nat} {M : List (List Int × Int)} (hM : StMap n w b M) (t : List Int) (ht : GoodSt n t) (m : Int) (hm : 0 ≤ m ∧ m ≤ 100) :
    Calls Tryz.prog 51 #[.map (some b), stV t, .int .i64 m] w fun e w' => e = .returned (.tuple #[]) ∧ Same (fun k => k = b) w w' ∧ ∃ M', StMap n w' b M' ∧ ∀ s, lookM M' s = addAt (lookM M) t m s := by
  have hblt := hM.lt
  have hb1 : Below w.heap.size w (w.alloc (.cells (stA t) 95)) := (Below.refl _ w).alloc (Nat.le_refl _) _
  have hM1 := hM.kept (hb1.block b hblt)
  obtain ⟨v, ok, hrun, hcase⟩ := hM1.raw.look keyed78 Tryz.underlying87 ht.key (zero3 _) true
  have hS : Same (fun k => k = b) w (w.alloc (.cells (stA t) 95)) := (Same.refl _ w).alloc _
  rcases hcase with ⟨rfl, rfl, hno⟩ | ⟨rfl, hin⟩
  · -- it was not there
    obtain ⟨w2, hrun2, hg2, hs2, hup⟩ := hM1.raw.update keyed78 Tryz.underlying87 ht.key (.int .i64 m)
    have hfin : ∃ M', StMap n w2 b M' ∧ ∀ s, lookM M' s = addAt (lookM M) t m s := by
      have hn' : ∀ p ∈ M, p.1 ≠ t := fun p hp e => hno _ (List.mem_map.2 ⟨p, hp, rfl⟩) (by rw [e])
      rcases hup with ⟨_, hr⟩ | ⟨j, v, hj, _⟩
      · have hst : StMap n w2 b (M ++ [(t, m)]) := by
          refine ⟨by simpa using hr, fun p hp => ?_, fun p hp => ?_⟩
          · rcases List.mem_append.1 hp with hp | hp
            · exact hM.good p hp
            · obtain rfl := List.mem_singleton.1 hp; exact ht
          · rcases List.mem_append.1 hp with hp | hp
            · exact hM.small p hp
            · obtain rfl := List.mem_singleton.1 hp; exact hm
        refine ⟨_, hst, fun s => ?_⟩
        have e1 : lookM M t = none := look_none.2 hn'
        unfold addAt
        rw [e1]
        by_cases hst : s = t
        · subst hst
          unfold lookM at e1 ⊢
          rw [List.find?_append]
          rw [Option.map_eq_none_iff] at e1
          simp [e1]
        · rw [if_neg hst]
          unfold lookM
          rw [List.find?_append]
          have : (t == s) = false := by simpa using fun e => hst e.symm
          simp [this]
      · exact absurd rfl (hno _ (List.mem_of_getElem? hj))
    have HF := Lib.hid hfin
    clear hno hup hM hM1
    go_enter Tryz.func51, Tryz.ntmps51
    go_wp2
    go_end0
    exact ⟨rfl, hS.grown hg2 (fun k e => .inl (by cases e; rfl)), HF.out⟩
  · -- it was there
    obtain ⟨p, hp, he⟩ := List.mem_map.1 hin
    simp only [Prod.mk.injEq] at he
    obtain ⟨he1, rfl⟩ := he
    have hpt : p.1 = t := stV_inj hn (hM.good p hp) ht he1
    obtain ⟨x, hx⟩ : ∃ x, x = p.2 := ⟨_, rfl⟩
    have hx' := hM.small p hp
    rw [← hx] at hrun hx'
    have hlk : lookM M t = some x := (look_some hM.keys).2 (by rw [hx, ← hpt]; exact hp)
    by_cases hlt : m < x
    · obtain ⟨w2, hrun2, hg2, hs2, hup⟩ := hM1.raw.update keyed78 Tryz.underlying87 ht.key (.int .i64 m)
      have hfin : ∃ M', StMap n w2 b M' ∧ ∀ s, lookM M' s = addAt (lookM M) t m s := by
        rcases hup with ⟨hno, _⟩ | ⟨j, v, hj, hr⟩
        · exact absurd he1 (hno _ (List.mem_map.2 ⟨p, hp, rfl⟩))
        · rw [List.getElem?_map] at hj
          obtain ⟨q, hq, hqe⟩ := Option.map_eq_some_iff.1 hj
          simp only [Prod.mk.injEq] at hqe
          have hqt : q.1 = t := stV_inj hn (hM.good q (List.mem_of_getElem? hq)) ht hqe.1
          have hj' : j < M.length := (List.getElem?_eq_some_iff.1 hq).1
          have hst : StMap n w2 b (M.set j (t, m)) := by
            refine ⟨by simpa [List.map_set] using hr, fun r hr => ?_, fun r hr => ?_⟩
            · rcases List.mem_or_eq_of_mem_set hr with hr | rfl
              · exact hM.good r hr
              · exact ht
            · rcases List.mem_or_eq_of_mem_set hr with hr | rfl
              · exact hM.small r hr
              · exact hm
          refine ⟨_, hst, fun s => ?_⟩
          unfold addAt
          rw [hlk]
          by_cases hst' : s = t
          · subst hst'
            rw [if_pos rfl]
            simp only [if_pos hlt]
            exact (look_some hst.keys).2 (List.mem_iff_getElem?.2 ⟨j, by simp [hj']⟩)
          · rw [if_neg hst']
            have key : ∀ y, lookM (M.set j (t, m)) s = some y ↔ lookM M s = some y := fun y => by
              rw [look_some hst.keys, look_some hM.keys]
              constructor
              · intro hr
                rcases List.mem_or_eq_of_mem_set hr with hr | hr
                · exact hr
                · simp only [Prod.mk.injEq] at hr; exact absurd hr.1 hst'
              · intro hr
                obtain ⟨i, hi, hie⟩ := List.getElem_of_mem hr
                refine List.mem_iff_getElem.2 ⟨i, by simpa using hi, ?_⟩
                rw [List.getElem_set, if_neg (fun e => hst' ?_)]
                · exact hie
                · subst e
                  rw [List.getElem?_eq_getElem hi, hie] at hq
                  cases hq
                  exact hqt
            cases h1 : lookM M s with
            | none =>
              cases h2 : lookM (M.set j (t, m)) s with
              | none => rfl
              | some y => rw [(key y).1 h2] at h1; cases h1
            | some y => exact (key y).2 h1
      have HF := Lib.hid hfin
      clear hup hM hM1 hx hpt hlk hin he1 hp
      go_enter Tryz.func51, Tryz.ntmps51
      go_wp2
      go_end0
      exact ⟨rfl, hS.grown hg2 (fun k e => .inl (by cases e; rfl)), HF.out⟩
    · have hfin : ∃ M', StMap n (w.alloc (.cells (stA t) 95)) b M' ∧ ∀ s, lookM M' s = addAt (lookM M) t m s := by
        refine ⟨M, hM1, fun s => ?_⟩
        unfold addAt
        rw [hlk]
        by_cases hst' : s = t
        · subst hst'; simp only [if_neg hlt]; exact hlk
        · rw [if_neg hst']
      have HF := Lib.hid hfin
      clear hM hM1 hx hpt hlk hin he1 hp
      go_enter Tryz.func51, Tryz.ntmps51
      go_wp2
      go_end0
      exact ⟨rfl, hS, HF.out⟩
end Go.Proofs.YtbnhngfegnhaiaaGreatDoor
namespace Go.Proofs.YtbnhngfegnhaiaaGreatDoor
open Go.RowKit
theorem anything_any (i : Int) (l : Ln) (b : Bool) (w : World) :
    Calls Tryz.prog 125 #[.agg #[], .int .i64 i, l.v, .bool b] w fun e w' => e = .returned (.bool true) ∧ Below w.heap.size w w' := by
  go_enter Tryz.func125, Tryz.ntmps125
  go_wp2
  go_ret
  exact ⟨rfl, ((Below.refl _ w).alloc (Nat.le_refl _) _).alloc (by simp) _⟩
theorem or_nat (a b : Nat) (ha : a < 2 ^ 62) (hb : b < 2 ^ 62) : bits .or .i64 (a : Int) (b : Int) = ((a ||| b : Nat) : Int) :=
  (bits_nat .i64 62 (by decide) (fun n h1 h2 => by rw [IntKind.wrap_i64]; omega) a b ha hb).2
set_option maxHeartbeats 400000 in
/-- Two sets joined. -/
theorem union_any (x y : Nat) (hx : x < 2 ^ 62) (hy : y < 2 ^ 62) {b cap : Nat} {w : World} (h0 : w.cell? ⟨b, 0, none⟩ = some (.int .i64 x)) (h1 : w.cell? ⟨b, 1, none⟩ = some (.int .i64 y)) :
    Calls Tryz.prog 35 #[.slice (some ⟨b, 0, none⟩) 2 cap] w fun e w' => e = .returned (.int .i64 (x ||| y : Nat)) ∧ w = w' := by
  have e1 : bits .or .i64 0 (x : Int) = (x : Int) := by have := or_nat 0 x (by decide) hx; simpa using this
  have e2 := or_nat x y hx hy
  clear hx hy
  go_enter Tryz.func35, Tryz.ntmps35
  go_wp2
  refine wp_loop_rounds 3 ?_
  rw [rounds_succ]
  go_wp2
  rw [rounds_succ]
  go_wp2
  rw [rounds_succ]
  go_wp2
  go_ret
  exact ⟨rfl, rfl⟩
/-- Block b holds the least and the greatest number, and whether there is one. -/
def EndsAt (w : World) (b : Nat) (lo hi : Int) (s : Bool) : Prop := w.heap[b]? = some (.cells #[.int .i64 lo, .int .i64 hi, .bool s] 98 (0, 0))
theorem EndsAt.cells {w : World} {b : Nat} {lo hi : Int} {s : Bool} (h : EndsAt w b lo hi s) :
    w.cell? ⟨b, 0, none⟩ = some (.int .i64 lo) ∧ w.cell? ⟨b, 1, none⟩ = some (.int .i64 hi) ∧ w.cell? ⟨b, 2, none⟩ = some (.bool s) ∧ ∀ o, w.frozen? ⟨b, o, none⟩ = false := by
  unfold EndsAt at h
  refine ⟨by simp [World.cell?, h], by simp [World.cell?, h], by simp [World.cell?, h], fun o => by simp [World.frozen?, h]⟩
theorem heap_setCell_at {w : World} {b k : Nat} {c : Array Value} {t : TypeId} {f : Nat × Nat} (h : w.heap[b]? = some (.cells c t f)) (v : Value) :
    (w.setCell ⟨b, k, none⟩ v).heap[b]? = some (.cells (c.setIfInBounds k v) t f) := by
  simp [World.setCell, Array.getElem?_modify, h]
theorem EndsAt.lt {w : World} {b : Nat} {lo hi : Int} {s : Bool} (h : EndsAt w b lo hi s) : b < w.heap.size := (Array.getElem?_eq_some_iff.1 h).1
theorem caught_nil (pe : Value) (w : World) : Calls Tryz.prog 28 #[.nilIface, pe] w fun e w' => e = .returned (.tuple #[]) ∧ w = w' := by
  go_enter Tryz.func28, Tryz.ntmps28
  go_wp2
  refine bodyPost_ret (results_none rfl _ _ _) rfl ?_
  exact ⟨rfl, rfl⟩
theorem assert105 (v : Value) (w : World) : (Instr.typeAssert (.iface 106 v) 20 106 true).run Tryz.prog w = .ok (.tuple #[v, .bool true]) w := by
  simp [Instr.typeAssert, run_underlying Tryz.underlying106, Result.andThen]
theorem caught_misfit (x : Int) {b : Nat} {v : Value} {w : World} (hc : w.cell? ⟨b, 0, none⟩ = some v) (hf : w.frozen? ⟨b, 0, none⟩ = false) :
    Calls Tryz.prog 28 #[.iface 106 (.agg #[.int .i64 x]), .pointer (some ⟨b, 0, none⟩)] w fun e w' => e = .returned (.tuple #[]) ∧ w' = (w.alloc (.cells #[.int .i64 x] 106)).setCell ⟨b, 0, none⟩ (.int .i64 x) := by
  have hb := lt_of_cell hc
  have ha := assert105 (.agg #[.int .i64 x])
  go_enter Tryz.func28, Tryz.ntmps28
  go_wp2
  go_end0
  refine ⟨rfl, ?_⟩
  rw [World.setCell_alloc_past _ _ _ _ hb]
theorem recov46_ok (pe : Value) (w : World) : CallsD Tryz.prog 27 #[pe] .returning w fun e u' w' => e = .returned (.tuple #[]) ∧ u' = .returning ∧ w = w' := by
  refine callsD_of_wpS Tryz.func27 rfl fun c₀ cs hu => ?_
  apply wpS_region
  simp [wpOpsS, go_sem, recoverD, hu, Tryz.ntmps27]
  refine (caught_nil pe w).mono ?_
  rintro e w' ⟨rfl, rfl⟩
  simp [bodyPostS, results, Tryz.results27]
  rw [← hu]
theorem recov46_no (x : Int) {b : Nat} {v : Value} {w : World} (hc : w.cell? ⟨b, 0, none⟩ = some v) (hf : w.frozen? ⟨b, 0, none⟩ = false) :
    CallsD Tryz.prog 27 #[.pointer (some ⟨b, 0, none⟩)] (.panicking [{ v := .iface 106 (.agg #[.int .i64 x]), recovered := false }]) w fun e u' w' =>
      e = .returned (.tuple #[]) ∧ u' = .panicking [{ v := .iface 106 (.agg #[.int .i64 x]), recovered := true }] ∧ w' = (w.alloc (.cells #[.int .i64 x] 106)).setCell ⟨b, 0, none⟩ (.int .i64 x) := by
  refine callsD_of_wpS Tryz.func27 rfl fun c₀ cs hu => ?_
  apply wpS_region
  simp [wpOpsS, go_sem, recoverD, hu, Tryz.ntmps27]
  refine (caught_misfit x hc hf).mono ?_
  rintro e w' ⟨rfl, rfl⟩
  simp [bodyPostS, results, Tryz.results27]
theorem recov50_ok (pe : Value) (w : World) : CallsD Tryz.prog 31 #[pe] .returning w fun e u' w' => e = .returned (.tuple #[]) ∧ u' = .returning ∧ w = w' := by
  refine callsD_of_wpS Tryz.func31 rfl fun c₀ cs hu => ?_
  apply wpS_region
  simp [wpOpsS, go_sem, recoverD, hu, Tryz.ntmps31]
  refine (caught_nil pe w).mono ?_
  rintro e w' ⟨rfl, rfl⟩
  simp [bodyPostS, results, Tryz.results31]
  rw [← hu]
theorem recov50_no (x : Int) {b : Nat} {v : Value} {w : World} (hc : w.cell? ⟨b, 0, none⟩ = some v) (hf : w.frozen? ⟨b, 0, none⟩ = false) :
    CallsD Tryz.prog 31 #[.pointer (some ⟨b, 0, none⟩)] (.panicking [{ v := .iface 106 (.agg #[.int .i64 x]), recovered := false }]) w fun e u' w' =>
      e = .returned (.tuple #[]) ∧ u' = .panicking [{ v := .iface 106 (.agg #[.int .i64 x]), recovered := true }] ∧ w' = (w.alloc (.cells #[.int .i64 x] 106)).setCell ⟨b, 0, none⟩ (.int .i64 x) := by
  refine callsD_of_wpS Tryz.func31 rfl fun c₀ cs hu => ?_
  apply wpS_region
  simp [wpOpsS, go_sem, recoverD, hu, Tryz.ntmps31]
  refine (caught_misfit x hc hf).mono ?_
  rintro e w' ⟨rfl, rfl⟩
  simp [bodyPostS, results, Tryz.results31]
theorem recov58_ok (pe : Value) (w : World) : CallsD Tryz.prog 42 #[pe] .returning w fun e u' w' => e = .returned (.tuple #[]) ∧ u' = .returning ∧ w = w' := by
  refine callsD_of_wpS Tryz.func42 rfl fun c₀ cs hu => ?_
  apply wpS_region
  simp [wpOpsS, go_sem, recoverD, hu, Tryz.ntmps42]
  refine (caught_nil pe w).mono ?_
  rintro e w' ⟨rfl, rfl⟩
  simp [bodyPostS, results, Tryz.results42]
  rw [← hu]
theorem recov58_no (x : Int) {b : Nat} {v : Value} {w : World} (hc : w.cell? ⟨b, 0, none⟩ = some v) (hf : w.frozen? ⟨b, 0, none⟩ = false) :
    CallsD Tryz.prog 42 #[.pointer (some ⟨b, 0, none⟩)] (.panicking [{ v := .iface 106 (.agg #[.int .i64 x]), recovered := false }]) w fun e u' w' =>
      e = .returned (.tuple #[]) ∧ u' = .panicking [{ v := .iface 106 (.agg #[.int .i64 x]), recovered := true }] ∧ w' = (w.alloc (.cells #[.int .i64 x] 106)).setCell ⟨b, 0, none⟩ (.int .i64 x) := by
  refine callsD_of_wpS Tryz.func42 rfl fun c₀ cs hu => ?_
  apply wpS_region
  simp [wpOpsS, go_sem, recoverD, hu, Tryz.ntmps42]
  refine (caught_misfit x hc hf).mono ?_
  rintro e w' ⟨rfl, rfl⟩
  simp [bodyPostS, results, Tryz.results42]
theorem recov72_ok (pe : Value) (w : World) : CallsD Tryz.prog 38 #[pe] .returning w fun e u' w' => e = .returned (.tuple #[]) ∧ u' = .returning ∧ w = w' := by
  refine callsD_of_wpS Tryz.func38 rfl fun c₀ cs hu => ?_
  apply wpS_region
  simp [wpOpsS, go_sem, recoverD, hu, Tryz.ntmps38]
  refine (caught_nil pe w).mono ?_
  rintro e w' ⟨rfl, rfl⟩
  simp [bodyPostS, results, Tryz.results38]
  rw [← hu]
theorem recov72_no (x : Int) {b : Nat} {v : Value} {w : World} (hc : w.cell? ⟨b, 0, none⟩ = some v) (hf : w.frozen? ⟨b, 0, none⟩ = false) :
    CallsD Tryz.prog 38 #[.pointer (some ⟨b, 0, none⟩)] (.panicking [{ v := .iface 106 (.agg #[.int .i64 x]), recovered := false }]) w fun e u' w' =>
      e = .returned (.tuple #[]) ∧ u' = .panicking [{ v := .iface 106 (.agg #[.int .i64 x]), recovered := true }] ∧ w' = (w.alloc (.cells #[.int .i64 x] 106)).setCell ⟨b, 0, none⟩ (.int .i64 x) := by
  refine callsD_of_wpS Tryz.func38 rfl fun c₀ cs hu => ?_
  apply wpS_region
  simp [wpOpsS, go_sem, recoverD, hu, Tryz.ntmps38]
  refine (caught_misfit x hc hf).mono ?_
  rintro e w' ⟨rfl, rfl⟩
  simp [bodyPostS, results, Tryz.results38]
end Go.Proofs.YtbnhngfegnhaiaaGreatDoor
