/- What prints can come to, in plain Lean: no program in sight. Maps as lists of pairs, slices as lists: words on memory and their laws, over whatever program. A region that draws its order, whose first operations are quiet in a class of worlds and whose last ones are forced; a range over a function; deferred calls that recover: laws over whatever program. A range over a function whose elements lie in memory that it makes, and that hands each over: a law over whatever program. A function that leaves with marks among its deferred calls, and with calls that recover: a law over whatever program. append of whatever slice to a slice of the call's own: laws over whatever program. A region that draws its order, by an invariant over what has been done: a law over whatever program. A region that draws its order, some of whose edges the model's own order does not bind: a law over whatever program. append of one element to one's own, and what the elder slice holds behind it: a law over whatever program. -/
import Derived.WalkKit
import Derived.WalkSpells
import Derived.WalkLawsBesides
import Derived.Lib.Hide
import Derived.Maps.Keyed
import Derived.Maps.RangeRun
import Derived.DeepKeys5
import Derived.StillTail
import Derived.BigQuiet
import Derived.RangeFuncLeaves
import Derived.RangeFuncNested
import Derived.RangeFuncCalls
import Derived.OrdersIn
import Derived.TacticsIn
import Derived.Laws.AppendOwn
import Derived.Laws.OwnMore
import Derived.Maps.AppendAt
import Derived.Test.YtnfhlbmapfoifaaProg
import Derived.Deep.DeepCutAuto
import Derived.Deep.RegionHeld3
import Derived.Laws.EntriesVeiled
import Derived.BigRegionIn
import Derived.BigGuardIn
import Derived.Laws.MakeOwn
import Derived.LoopTactic
import Derived.BigGuard
import Derived.Below
import Derived.ChangeSame
import Derived.ProofKit
import Derived.Deep.Slices
import Derived.Deep.Fields
import Derived.Lib.SmallJoins
import Derived.Carry
import Derived.OpenShut
namespace Go.Proofs.Ytnfhlbmapfoifaa
structure Prt where
  slo : Int
  shi : Int
  wlo : Int
  whi : Int
  marks : Int
deriving DecidableEq
structure Prs where
  cards : List Prt
  llo : Int
  lhi : Int
  olo : Int
  ohi : Int
deriving DecidableEq
/-- The k-th number, the k-th print. -/
def gi (l : List Int) (k : Nat) : Int := l.getD k 0
def gp (l : List Prt) (k : Nat) : Prt := l.getD k ⟨0, 0, 0, 0, 0⟩
def inR (n lo hi : Int) : Bool := decide (lo ≤ n) && decide (n ≤ hi)
def spanOk (lo hi : Int) : Bool := decide (0 ≤ lo) && decide (lo ≤ hi) && decide (hi ≤ 16384)
def Prt.ok (c : Prt) : Bool := spanOk c.slo c.shi && spanOk c.wlo c.whi && inR c.marks 0 1023
def Prs.valid (p : Prs) : Bool := decide (p.cards.length ≤ 5) && p.cards.all Prt.ok && spanOk p.llo p.lhi && spanOk p.olo p.ohi
def Prs.card (p : Prs) (n : Int) : Bool := inR n 0 ((p.cards.length : Int) - 1)
/-- Where one is, so many cards up from a card. -/
def upW (w : List Int) : Nat → Int → Int
  | 0, k => k
  | m + 1, k => upW w m (if k = -1 then -1 else gi w k.toNat)
def roundB (w : List Int) : Bool := (List.range w.length).any fun (c : Nat) => !decide (upW w w.length c = -1)
/-- What is of a card: its size, or how much it shows; by how much it becomes less. -/
def Prt.of (c : Prt) (what : Bool) : Int × Int := if what then (c.wlo, c.whi) else (c.slo, c.shi)
def Prs.by_ (p : Prs) (what : Bool) : Int × Int := if what then (p.olo, p.ohi) else (p.llo, p.lhi)
/-- What can be of a card, by those of these cards that come from it. -/
def goW (by_ : Int × Int) (rec : Nat → (Int × Int) × Bool) (w : List Int) (card : Nat) : (Int × Int) → List Nat → (Int × Int) × Bool
  | own, [] => (own, decide (own.1 ≤ own.2))
  | own, j :: r => if gi w j = (card : Int) then
      (let s := rec j
       if s.2 then goW by_ rec w card (max own.1 (s.1.1 + by_.1), min own.2 (s.1.2 + by_.2)) r else (own, false))
    else goW by_ rec w card own r
def whatF (p : Prs) (w : List Int) (what : Bool) : Nat → Nat → (Int × Int) × Bool
  | 0, _ => ((0, 0), false)
  | d + 1, card => goW (p.by_ what) (whatF p w what d) w card ((gp p.cards card).of what) (List.range w.length)
def canB (p : Prs) (w : List Int) (what : Bool) : Bool := (List.range w.length).all fun (c : Nat) => !decide (gi w c = -1) || (whatF p w what (w.length + 1) c).2
def markedB (p : Prs) (card frm : Nat) : Bool := (List.range 10).all fun d => !(gp p.cards frm).marks.toNat.testBit d || (gp p.cards card).marks.toNat.testBit d
def marksB (p : Prs) (w : List Int) : Bool := (List.range w.length).all fun (c : Nat) => decide (gi w c = -1) || markedB p c (gi w c).toNat
def isWayB (p : Prs) (w : List Int) : Bool := marksB p w && !roundB w && canB p w false && canB p w true
/-- All ways that go on from some cards, in lexicographic order. -/
def froms (n : Nat) : List Int := (List.range (n + 1)).map fun (k : Nat) => (k : Int) - 1
def onW (p : Prs) : Nat → List Int → List (List Int)
  | 0, pre => if isWayB p pre then [pre] else []
  | d + 1, pre => (froms p.cards.length).flatMap fun f => if f = (pre.length : Int) then [] else onW p d (pre ++ [f])
def waysL (p : Prs) : List (List Int) := onW p p.cards.length []
def origN (w : List Int) : Nat := w.countP fun k => decide (k = -1)
def leastW (first : List Int) (l : List (List Int)) : List Int := l.foldl (fun f x => if origN x < origN f then x else f) first
def fewestW (p : Prs) : List Int := leastW ((waysL p).headD []) (waysL p).tail
def comesF (w : List Int) (frm : Int) : Nat → Int → Bool
  | 0, _ => false
  | m + 1, k => if k = -1 then false else if k = frm then true else comesF w frm m (gi w k.toNat)
def comesB (w : List Int) (card frm : Nat) : Bool := comesF w frm (w.length + 1) (gi w card)
/-- The way of an order. -/
def chainF : List Int → Int → List Int → List Int
  | w, _, [] => w
  | w, last, x :: r => chainF (w.set x.toNat last) x r
def chainL (o : List Int) : List Int := chainF (List.replicate o.length 0) (-1) o
def onO (p : Prs) : Nat → List Int → List (List Int)
  | 0, pre => if isWayB p (chainL pre) then [pre] else []
  | d + 1, pre => (List.range p.cards.length).flatMap fun (i : Nat) => if (i : Int) ∈ pre then [] else onO p d (pre ++ [(i : Int)])
def ordersL (p : Prs) : List (List Int) := onO p p.cards.length []
/-- Where a number is in a list; -1: it is not. -/
def indexFrom : List Int → Int → Nat → Int
  | [], _, _ => -1
  | x :: r, v, k => if x = v then (k : Int) else indexFrom r v (k + 1)
def indexL (l : List Int) (v : Int) : Int := indexFrom l v 0
/-- Which orders are left, by bits: how many; those in which a card comes before another one, and the others. -/
def manyS (S : Nat) : Nat := (List.range 128).countP fun k => S.testBit k
def allS (n : Nat) : Nat := (List.range n).foldl (fun s k => s ||| 2 ^ k) 0
def befS (os : List (List Int)) (S : Nat) (a b : Nat) : Nat := ((List.range os.length).filter fun k => S.testBit k && decide (indexL (os.getD k []) a < indexL (os.getD k []) b)).foldl (fun s k => s ||| 2 ^ k) 0
def aftS (os : List (List Int)) (S : Nat) (a b : Nat) : Nat := ((List.range os.length).filter fun k => S.testBit k && !decide (indexL (os.getD k []) a < indexL (os.getD k []) b)).foldl (fun s k => s ||| 2 ^ k) 0
def pairsL (n : Nat) : List (Nat × Nat) := (List.range n).flatMap fun a => ((List.range n).filter fun b => decide (a < b)).map fun b => (a, b)
def needsF (os : List (List Int)) (n : Nat) : Nat → Nat → Nat
  | 0, _ => 0
  | d + 1, S => if manyS S ≤ 1 then 0 else (pairsL n).foldl (fun best x =>
      if befS os S x.1 x.2 ≠ S ∧ aftS os S x.1 x.2 ≠ S then min best (1 + max (needsF os n d (befS os S x.1 x.2)) (needsF os n d (aftS os S x.1 x.2))) else best) (n * n)
def openE (p : Prs) (ok : Bool) : Int := if !p.valid then 1 else if !ok then 2 else 0
def fitsE (p : Prs) (card frm : Int) : Bool × Int :=
  let e := openE p (p.card card && p.card frm && !decide (card = frm))
  if e = 0 then (isWayB { p with cards := [gp p.cards frm.toNat, gp p.cards card.toNat] } [-1, 0], 0) else (false, e)
def waysE (p : Prs) : Int × Int := let e := openE p true; if e = 0 then (((waysL p).length : Int), 0) else (0, e)
def bitsOf (l : List Nat) : Nat := l.foldl (fun s n => s ||| 2 ^ n) 0
def parentsE (p : Prs) (card : Int) : Int × Bool × Int :=
  let e := openE p (p.card card)
  if e = 0 then
    (let l := (waysL p).map fun w => gi w card.toNat
     ((bitsOf ((l.filter fun k => !decide (k = -1)).map Int.toNat) : Int), l.any fun k => decide (k = -1), 0))
  else (0, false, e)
def fromE (p : Prs) (card frm : Int) : Int × Int :=
  let e := openE p (p.card card && p.card frm && !decide (card = frm))
  if e = 0 then
    (let few := origN (fewestW p)
     let l := ((waysL p).filter fun w => decide (origN w = few)).map fun w => comesB w card.toNat frm.toNat
     (if l.all id then 2 else if l.any id then 1 else 0, 0))
  else (0, e)
def ordersE (p : Prs) : Int := if !p.valid then 1 else if (ordersL p).isEmpty then 4 else 0
def pileP (n : Nat) : Prs := ⟨[⟨100, 101, 500, 505, 0⟩, ⟨96, 97, 485, 490, 1⟩, ⟨92, 93, 470, 476, 3⟩, ⟨95, 98, 480, 492, 4⟩].take n, 3, 5, 10, 20⟩
def pileQ : Prs := ⟨[⟨100, 110, 500, 530, 0⟩, ⟨100, 110, 500, 530, 0⟩, ⟨100, 110, 500, 530, 0⟩], 0, 5, 0, 10⟩
theorem ex_ways : waysE (pileP 4) = (8, 0) ∧ waysE pileQ = (16, 0) := by decide +kernel
theorem ex_from : fromE (pileP 4) 2 0 = (2, 0) ∧ fromE (pileP 4) 3 1 = (0, 0) := by decide +kernel
end Go.Proofs.Ytnfhlbmapfoifaa
namespace Go.Proofs.Ytnfhlbmapfoifaa
open Go.RowKit
open Go.MapKept (Stamped)
open Go.ChangeMaps (setBlock)
theorem below_cellOf {B : Nat} {w w' : World} (h : Below B w w') {b o : Nat} {v : Value} (hb : b < B) (hc : w.cell? ⟨b, o, none⟩ = some v) : w'.cell? ⟨b, o, none⟩ = some v :=
  (h.cell (p := ⟨b, o, none⟩) hb).trans hc
theorem lt_of_cell {w : World} {b o : Nat} {v : Value} (h : w.cell? ⟨b, o, none⟩ = some v) : b < w.heap.size := World.block_lt_of_cell? _ _ h
/-- What lay in the world when the call began lies there still. -/
theorem cell_stays {w w' : World} (h : Below w.heap.size w w') {b o : Nat} {v : Value} (hc : w.cell? ⟨b, o, none⟩ = some v) : w'.cell? ⟨b, o, none⟩ = some v :=
  below_cellOf h (lt_of_cell hc) hc
/-- A slice's array holds these integers, from the slice's start on. -/
def IsInts (w : World) (a : Option Addr) (l : List Int) : Prop :=
  ∀ i, i < l.length → ∃ b off, a = some ⟨b, off, none⟩ ∧ w.cell? ⟨b, off + i, none⟩ = some (.int .i64 (gi l i))
theorem IsInts.mono {w w' : World} {a : Option Addr} {l : List Int} (h : IsInts w a l) (hb : Below w.heap.size w w') : IsInts w' a l := fun i hi => by
  obtain ⟨b, off, ha, hc⟩ := h i hi
  exact ⟨b, off, ha, cell_stays hb hc⟩
theorem IsInts.at {w : World} {a : Option Addr} {l : List Int} (h : IsInts w a l) {k : Nat} (hk : k < l.length) :
    ∃ b off, a = some ⟨b, off, none⟩ ∧ ∀ i, i < l.length → w.cell? ⟨b, off + i, none⟩ = some (.int .i64 (gi l i)) := by
  obtain ⟨b, off, ha, _⟩ := h k hk
  refine ⟨b, off, ha, fun i hi => ?_⟩
  obtain ⟨b', off', ha', hc⟩ := h i hi
  rw [ha] at ha'
  cases ha'
  exact hc
/-- Block b is a map whose entries, in their order in memory, are these. -/
def MapRaw (P : Program) (kt : TypeId) (w : World) (b : Nat) (L : List (Value × Value)) : Prop :=
  ∃ es clock, w.heap[b]? = some (.map es clock) ∧ Stamped es clock ∧ es.toList.map (fun e => (e.key, e.val)) = L ∧ ∀ e ∈ es.toList, ∃ l, keyOf P kt e.key = some l
theorem MapRaw.kept {P : Program} {kt : TypeId} {w w' : World} {b : Nat} {L : List (Value × Value)} (h : MapRaw P kt w b L) (hb : w'.heap[b]? = w.heap[b]?) : MapRaw P kt w' b L := by
  obtain ⟨es, clock, h1, h2⟩ := h
  exact ⟨es, clock, hb.trans h1, h2⟩
theorem MapRaw.lt {P : Program} {kt : TypeId} {w : World} {b : Nat} {L : List (Value × Value)} (h : MapRaw P kt w b L) : b < w.heap.size := by
  obtain ⟨es, clock, h1, _⟩ := h
  exact (Array.getElem?_eq_some_iff.1 h1).1
theorem MapRaw.made (P : Program) (kt : TypeId) (w : World) : MapRaw P kt (w.alloc (.map #[] 0)) w.heap.size [] :=
  ⟨#[], 0, (MapKept.heap_alloc w _).1, MapKept.stamped_empty 0, rfl, by simp⟩
theorem MapRaw.find {P : Program} {kt : TypeId} {w : World} {b : Nat} {L : List (Value × Value)} (K : Maps.Keyed P kt) (h : MapRaw P kt w b L) {key : Value} (hkey : ∃ l, keyOf P kt key = some l) :
    ∃ es clock, w.heap[b]? = some (.map es clock) ∧ Stamped es clock ∧ es.toList.map (fun e => (e.key, e.val)) = L ∧ (∀ e ∈ es.toList, ∃ l, keyOf P kt e.key = some l) ∧
      (((Instr.findKey kt key es.toList).run P w = .ok none w ∧ ∀ p ∈ L, p.1 ≠ key) ∨
       ∃ j v, (Instr.findKey kt key es.toList).run P w = .ok (some (j, v)) w ∧ L[j]? = some (key, v)) := by
  obtain ⟨es, clock, h1, h2, h3, h4⟩ := h
  obtain ⟨l, hl⟩ := hkey
  refine ⟨es, clock, h1, h2, h3, h4, ?_⟩
  rcases K.find w hl es.toList h4 with ⟨hr, hn⟩ | ⟨j, e, hr, hj, he⟩
  · refine .inl ⟨hr, fun p hp => ?_⟩
    rw [← h3] at hp
    obtain ⟨e, he, rfl⟩ := List.mem_map.1 hp
    exact hn e he
  · refine .inr ⟨j, e.val, hr, ?_⟩
    rw [← h3, List.getElem?_map, hj]
    simp [he]
/-- 'v, ok := m[k]'. -/
theorem MapRaw.look {P : Program} {kt t et : TypeId} {w : World} {b : Nat} {L : List (Value × Value)} (K : Maps.Keyed P kt) (ht : P.underlying t = some (.map kt et)) (h : MapRaw P kt w b L)
    {key z : Value} (hkey : ∃ l, keyOf P kt key = some l) (hz : (zeroValue et).run P w = .ok z w) (commaOk : Bool) :
    ∃ v ok, (Instr.lookup t (.map (some b)) key commaOk).run P w = .ok (if commaOk then .tuple #[v, .bool ok] else v) w ∧
      ((ok = false ∧ v = z ∧ ∀ p ∈ L, p.1 ≠ key) ∨ (ok = true ∧ (key, v) ∈ L)) := by
  obtain ⟨es, clock, h1, h2, h3, h4, hf⟩ := h.find K hkey
  obtain ⟨l, hl⟩ := hkey
  rcases hf with ⟨hr, hn⟩ | ⟨j, v, hr, hj⟩
  · refine ⟨z, false, ?_, .inl ⟨rfl, rfl, hn⟩⟩
    simp [Instr.lookup, run_underlying ht, MapKept.run_getObj_map h1, K.check w _ hl, hr, hz, Result.andThen]
  · refine ⟨v, true, ?_, .inr ⟨rfl, List.mem_of_getElem? hj⟩⟩
    simp [Instr.lookup, run_underlying ht, MapKept.run_getObj_map h1, K.check w _ hl, hr, Result.andThen]
/-- 'm[k] = v'. -/
theorem MapRaw.update {P : Program} {kt t et : TypeId} {w : World} {b : Nat} {L : List (Value × Value)} (K : Maps.Keyed P kt) (ht : P.underlying t = some (.map kt et)) (h : MapRaw P kt w b L)
    {key : Value} (hkey : ∃ l, keyOf P kt key = some l) (val : Value) :
    ∃ w', (Instr.mapUpdate t (.map (some b)) key val).run P w = .ok () w' ∧ w.grownBy w' (some b) ∧ w'.heap.size = w.heap.size ∧
      (((∀ p ∈ L, p.1 ≠ key) ∧ MapRaw P kt w' b (L ++ [(key, val)])) ∨ ∃ j v, L[j]? = some (key, v) ∧ MapRaw P kt w' b (L.set j (key, val))) := by
  obtain ⟨es, clock, h1, h2, h3, h4, hf⟩ := h.find K hkey
  obtain ⟨l, hl⟩ := hkey
  have grown : ∀ o : Obj, w.grownBy (setBlock w b o) (some b) := fun o => ⟨rfl, rfl, rfl, by simp [setBlock], fun i _ hi => ChangeMaps.heap_setBlock_other h1 _ (fun e => hi (by rw [e]))⟩
  rcases hf with ⟨hr, hn⟩ | ⟨j, v, hr, hj⟩
  · refine ⟨setBlock w b (.map (es.push ⟨key, val, clock⟩) (clock + 1)), ?_, grown _, by simp [setBlock], .inl ⟨hn, es.push ⟨key, val, clock⟩, clock + 1, ChangeMaps.heap_setBlock_same h1 _, ?_, ?_, ?_⟩⟩
    · simp [Instr.mapUpdate, run_underlying ht, MapKept.run_getObj_map h1, K.check w false hl, hr, MapKept.run_setObj_map _ h1, Result.andThen, setBlock]
    · exact MapKept.stamped_push h2 (fun x hx => hn (x.key, x.val) (by rw [← h3]; exact List.mem_map.2 ⟨x, hx, rfl⟩))
    · simp [h3]
    · intro e he
      simp only [Array.toList_push, List.mem_append, List.mem_singleton] at he
      rcases he with he | rfl
      · exact h4 e he
      · exact ⟨l, hl⟩
  · have hj' : ∃ e, es.toList[j]? = some e ∧ e.key = key ∧ e.val = v := by
      rw [← h3, List.getElem?_map] at hj
      cases he : es.toList[j]? with
      | none => rw [he] at hj; simp at hj
      | some e =>
        rw [he] at hj
        simp at hj
        exact ⟨e, rfl, hj.1, hj.2⟩
    obtain ⟨e, he, hek, hev⟩ := hj'
    have heA : es[j]? = some e := by simpa using he
    refine ⟨setBlock w b (.map (es.modify j fun x => { x with key, val := val }) clock), ?_, grown _, by simp [setBlock], .inr ⟨j, v, hj, _, clock, ChangeMaps.heap_setBlock_same h1 _, ?_, ?_, ?_⟩⟩
    · simp [Instr.mapUpdate, run_underlying ht, MapKept.run_getObj_map h1, K.check w false hl, hr, heA, hek, K.stays w hl, MapKept.run_setObj_map _ h1, Result.andThen, setBlock]
    · exact MapKept.stamped_modify h2 j _ (fun _ _ => rfl) (fun x _ hx => by rw [heA] at hx; cases hx; exact hek.symm)
    · apply List.ext_getElem?
      intro i
      rw [List.getElem?_map, Array.getElem?_toList, Array.getElem?_modify, ← h3, List.getElem?_set]
      by_cases hij : j = i
      · subst hij
        have hlt : j < es.size := (Array.getElem?_eq_some_iff.1 heA).1
        simp [hlt]
      · simp [hij]
    · intro x hx
      have hx' : x ∈ es.modify j (fun x => { x with key, val := val }) := Array.mem_toList_iff.1 hx
      obtain ⟨i, hi, rfl⟩ := Array.getElem_of_mem hx'
      rw [Array.getElem_modify]
      split
      · exact ⟨l, hl⟩
      · exact h4 _ (by simp)
/-- 'len(m)'. -/
theorem MapRaw.len {P : Program} {kt et t : TypeId} {w : World} {b : Nat} {L : List (Value × Value)} (ht : P.underlying t = some (.map kt et)) (h : MapRaw P kt w b L) (ty : TypeId) :
    (Builtin.len_ #[t] ty #[.map (some b)]).run P w = .ok (.int .i64 L.length) w := by
  obtain ⟨es, clock, h1, _, rfl, _⟩ := h
  simp [Builtin.len_, run_underlying ht, MapKept.run_getObj_map h1, Result.andThen, goInt]
/-- 'for k, v := range m' under way: block r is an iterator over the map b; what is still to come. -/
def Rng (P : Program) (kt : TypeId) (w : World) (b r : Nat) (L todo : List (Value × Value)) : Prop :=
  ∃ es clock seen, w.heap[b]? = some (.map es clock) ∧ Stamped es clock ∧ es.toList.map (fun e => (e.key, e.val)) = L ∧ (∀ e ∈ es.toList, ∃ l, keyOf P kt e.key = some l) ∧
    w.heap[r]? = some (.mapIter (some b) clock seen clock) ∧ (leftOf es seen).toList.map (fun e => (e.key, e.val)) = todo
theorem Rng.kept {P : Program} {kt : TypeId} {w w' : World} {b r : Nat} {L todo : List (Value × Value)} (h : Rng P kt w b r L todo) (hb : w'.heap[b]? = w.heap[b]?) (hr : w'.heap[r]? = w.heap[r]?) : Rng P kt w' b r L todo := by
  obtain ⟨es, clock, seen, h1, h2, h3, h4, h5, h6⟩ := h
  exact ⟨es, clock, seen, hb.trans h1, h2, h3, h4, hr.trans h5, h6⟩
theorem Rng.lt {P : Program} {kt : TypeId} {w : World} {b r : Nat} {L todo : List (Value × Value)} (h : Rng P kt w b r L todo) : r < w.heap.size := by
  obtain ⟨es, clock, seen, _, _, _, _, h5, _⟩ := h
  exact (Array.getElem?_eq_some_iff.1 h5).1
/-- How many are still to come, read off the world: a loop's measure. -/
def rngLeft (w : World) (b r : Nat) : Nat :=
  match w.heap[b]?, w.heap[r]? with
  | some (.map es _), some (.mapIter _ _ seen _) => (leftOf es seen).size
  | _, _ => 0
theorem Rng.left {P : Program} {kt : TypeId} {w : World} {b r : Nat} {L todo : List (Value × Value)} (h : Rng P kt w b r L todo) : rngLeft w b r = todo.length := by
  obtain ⟨es, clock, seen, h1, _, _, _, h5, rfl⟩ := h
  simp [rngLeft, h1, h5]
/-- 'range m' begins. -/
theorem MapRaw.range {P : Program} {kt et t : TypeId} {w : World} {b : Nat} {L : List (Value × Value)} (ht : P.underlying t = some (.map kt et)) (h : MapRaw P kt w b L) :
    ∃ w', (Instr.range t (.map (some b))).run P w = .ok (.pointer (some ⟨w.heap.size, 0, none⟩)) w' ∧ Rng P kt w' b w.heap.size L L ∧ w.grownBy w' none ∧ w'.heap.size = w.heap.size + 1 := by
  obtain ⟨es, clock, h1, h2, h3, h4⟩ := h
  refine ⟨w.alloc (.mapIter (some b) clock #[] clock), ?_, ⟨es, clock, #[], (Below.heap_alloc _ _ _ (Array.getElem?_eq_some_iff.1 h1).1).trans h1, h2, h3, h4, (MapKept.heap_alloc w _).1, ?_⟩, World.grownBy_alloc _ _ _, by simp⟩
  · simp [Instr.range, run_underlying ht, MapKept.run_getObj_map h1, Result.andThen]
  · rw [← h3]; unfold leftOf; simp only [Array.toList_filter]; rw [List.filter_eq_self.2 (fun x _ => by simp)]
theorem put_same {w : World} {r : Nat} {o : Obj} (h : w.heap[r]? = some o) (o' : Obj) : (setBlock w r o').heap[r]? = some o' := by
  have := (Array.getElem?_eq_some_iff.1 h).1
  simp [setBlock, this]
theorem put_other {w : World} {r k : Nat} (o' : Obj) (hk : k ≠ r) : (setBlock w r o').heap[k]? = w.heap[k]? := by
  simp [setBlock, Array.getElem?_setIfInBounds_ne (Ne.symm hk)]
/-- A step of 'range m'. -/
theorem Rng.next {P : Program} {kt : TypeId} {w : World} {b r : Nat} {L todo : List (Value × Value)} (h : Rng P kt w b r L todo) (ty : TypeId) :
    (todo = [] ∧ (Instr.next (.pointer (some ⟨r, 0, none⟩)) false ty).run P w = .ok (.tuple #[.bool false]) w) ∨
    ∃ k v l1 l2 w', todo = l1 ++ (k, v) :: l2 ∧ (k, v) ∈ L ∧ (Instr.next (.pointer (some ⟨r, 0, none⟩)) false ty).run P w = .ok (.tuple #[.bool true, k, v]) w' ∧
      Rng P kt w' b r L (l1 ++ l2) ∧ w.grownBy w' (some r) ∧ w'.heap.size = w.heap.size ∧ (Instr.entry (.pointer (some ⟨r, 0, none⟩))).run P w' = .ok (.tuple #[k, v]) w' := by
  obtain ⟨es, clock, seen, h1, h2, h3, h4, h5, h6⟩ := h
  rcases run_next_at (P := P) w ty r b clock clock seen es clock h5 h1 h2.1 (Nat.le_refl _) with ⟨h0, hr⟩ | ⟨e, he, w1, hw1, hr⟩
  · refine .inl ⟨?_, hr⟩
    rw [← h6]
    have : leftOf es seen = #[] := Array.eq_empty_of_size_eq_zero h0
    simp [this]
  · right
    have hrb : r ≠ b := fun e => by rw [e, h1] at h5; cases h5
    have hh1 : w1.heap = w.heap := by rcases hw1 with rfl | rfl <;> rfl
    have hr1 : w1.heap[r]? = some (.mapIter (some b) clock seen clock) := by rw [hh1]; exact h5
    have hb' : (setBlock w1 r (.mapIter (some b) clock (seen.push e.born) clock)).heap[b]? = some (.map es clock) := by
      rw [put_other _ (Ne.symm hrb), hh1]; exact h1
    have hr' := put_same hr1 (.mapIter (some b) clock (seen.push e.born) clock)
    have hmem : e ∈ es.toList := by
      simp [leftOf] at he
      simpa using he.1
    obtain ⟨l1, l2, hl⟩ := List.append_of_mem he
    have hnd : ((leftOf es seen).toList.map (·.born)).Nodup := by
      have := h2.2.1
      refine List.Nodup.sublist ?_ this
      exact List.Sublist.map _ (by simp [leftOf])
    have hnew : (leftOf es (seen.push e.born)).toList = l1 ++ l2 := by
      have e1 : (leftOf es (seen.push e.born)).toList = (leftOf es seen).toList.filter (fun x => !(x.born == e.born)) := by
        simp only [leftOf, Array.toList_filter, List.filter_filter]
        apply List.filter_congr
        intro x _
        have e2 : (x.born == e.born) = decide (x.born = e.born) := rfl
        simp [Bool.and_comm, e2]
      rw [e1, hl]
      rw [hl] at hnd
      simp only [List.map_append, List.map_cons] at hnd
      have hn1 : ∀ x ∈ l1, x.born ≠ e.born := fun x hx => by
        have := (List.nodup_append.1 hnd).2.2
        exact this _ (List.mem_map.2 ⟨x, hx, rfl⟩) _ (by simp)
      have hn2 : ∀ x ∈ l2, x.born ≠ e.born := fun x hx => by
        have := ((List.nodup_cons.1 (List.nodup_append.1 hnd).2.1).1)
        exact fun hb => this (List.mem_map.2 ⟨x, hx, hb⟩)
      rw [List.filter_append, List.filter_cons]
      rw [List.filter_eq_self.2 (fun x hx => by simpa using hn1 x hx), List.filter_eq_self.2 (fun x hx => by simpa using hn2 x hx)]
      simp
    refine ⟨e.key, e.val, l1.map (fun e => (e.key, e.val)), l2.map (fun e => (e.key, e.val)), _, ?_, ?_, hr, ⟨es, clock, seen.push e.born, hb', h2, h3, h4, hr', ?_⟩, ?_, ?_, ?_⟩
    · rw [← h6, hl]; simp
    · rw [← h3]; exact List.mem_map.2 ⟨e, hmem, rfl⟩
    · rw [hnew]; simp
    · refine ⟨?_, ?_, ?_, ?_, fun i hi hne => ?_⟩
      · rcases hw1 with rfl | rfl <;> rfl
      · rcases hw1 with rfl | rfl <;> rfl
      · rcases hw1 with rfl | rfl <;> rfl
      · simp [setBlock, hh1]
      · rw [put_other _ (fun e => hne (by rw [e])), hh1]
    · simp [setBlock, hh1]
    · exact run_entry_at _ r b clock seen es clock e hr' hb' hmem h2.2.1
end Go.Proofs.Ytnfhlbmapfoifaa
namespace Go.Proofs.Ytnfhlbmapfoifaa
open Go.RowKit
section
variable {P : Program} {ops : Array Oper} {md : Region.Mode} {C : World → Prop}
/-- The same where all are quiet. -/
theorem wp_region_quiet_all {id : Nat} {Q : Exit → Act → World → Prop} {a : Act} {w : World} {l : List Oper} (C : World → Prop) (hm : P.follows .mixedOrders = true) (hB : Region.lexB .any l.toArray = true) (hC : C w.drew)
    (h : wpQuiet P l.toArray C (fun a' => ∀ w', C w' → Q .normal a' w') l a) : (Code.region id l.toArray true).wp P Q a w :=
  wp_region_quiet (C := C) hm hB hC (by simpa using h)
end
/-- A world in which all that lay in w below B lies as it lay. -/
structure Aft (B : Nat) (w : World) where
  v : World
  h : Below B w v
instance (B : Nat) (w : World) : Nonempty (Aft B w) := ⟨⟨w, Below.refl B w⟩⟩
/-- A region that draws: whatever its operations lay anew, they leave alone what was there; each gives one value in all such worlds. -/
theorem wp_region_aft {P : Program} {id : Nat} {Q : Exit → Act → World → Prop} {a : Act} {w : World} {l : List Oper} (hm : P.follows .mixedOrders = true) (hB : Region.lexB .any l.toArray = true)
    (h : wpQuiet P l.toArray (fun w' => ∃ x : Aft w.heap.size w, w' = x.v) (fun a' => ∀ w', (∃ x : Aft w.heap.size w, w' = x.v) → Q .normal a' w') l a) : (Code.region id l.toArray true).wp P Q a w :=
  wp_region_quiet_all _ hm hB ⟨⟨w.drew, (Below.refl _ w).drew⟩, rfl⟩ h
/-- A contract, met in such a world. -/
theorem calls_aft {P : Program} {f : FuncId} {args : Array Value} {w : World} {v : Value} {x : Aft w.heap.size w}
    (h : Calls P f args x.v fun e w' => e = .returned v ∧ Below x.v.heap.size x.v w') : Calls P f args x.v fun e w'' => e = .returned v ∧ ∃ y : Aft w.heap.size w, w'' = y.v :=
  h.mono fun _ w' ⟨he, hb⟩ => ⟨he, ⟨w', x.h.trans (hb.mono x.h.size)⟩, rfl⟩
section
variable {P : Program} {ops : Array Oper} {md : Region.Mode} {C : World → Prop} {r : Option Nat}
/-- No bound on depth, every function let in. -/
abbrev wideAt (r : Option Nat) : Fence := { Fence.wide with round := r }
theorem wideAt_calls {n : Nat} {f : FuncId} {args : Array Value} {w : World} {R : Ending → World → Prop} (h : Calls P f args w R) : CallsIn (wideAt r) n P f args w R :=
  (callsIn_wide (n := n)).2 h
end
/-- All blocks of A but those of M lie in B as they lay. -/
structure Same (M : Nat → Prop) (A B : World) : Prop where
  os : B.os = A.os
  tape : B.tape = A.tape
  output : B.output = A.output
  size : A.heap.size ≤ B.heap.size
  block : ∀ k, k < A.heap.size → ¬ M k → B.heap[k]? = A.heap[k]?
theorem Same.refl (M : Nat → Prop) (A : World) : Same M A A := ⟨rfl, rfl, rfl, Nat.le_refl _, fun _ _ _ => rfl⟩
theorem Same.trans {M : Nat → Prop} {A B C : World} (h : Same M A B) (k : Same M B C) : Same M A C :=
  ⟨k.os.trans h.os, k.tape.trans h.tape, k.output.trans h.output, Nat.le_trans h.size k.size, fun i hi hm => (k.block i (Nat.lt_of_lt_of_le hi h.size) hm).trans (h.block i hi hm)⟩
theorem Same.mono {M M' : Nat → Prop} {A B : World} (h : Same M A B) (hm : ∀ k, k < A.heap.size → M k → M' k) : Same M' A B :=
  ⟨h.os, h.tape, h.output, h.size, fun i hi hn => h.block i hi (fun e => hn (hm i hi e))⟩
theorem Same.drew {M : Nat → Prop} {A B : World} (h : Same M A B) : Same M A B.drew := ⟨h.os, h.tape, h.output, h.size, h.block⟩
theorem Same.alloc {M : Nat → Prop} {A B : World} (h : Same M A B) (o : Obj) : Same M A (B.alloc o) :=
  h.trans ⟨rfl, rfl, rfl, by simp, fun k hk _ => Below.heap_alloc _ _ _ hk⟩
theorem Same.setCell {M : Nat → Prop} {A B : World} (h : Same M A B) {p : Addr} (hp : M p.block ∨ A.heap.size ≤ p.block) (v : Value) : Same M A (B.setCell p v) :=
  ⟨h.os, h.tape, h.output, by simpa using h.size, fun k hk hm => (Below.heap_setCell _ _ _ _ (by rcases hp with hp | hp; (exact fun e => hm (e ▸ hp)); omega)).trans (h.block k hk hm)⟩
theorem Same.grown {M : Nat → Prop} {A B C : World} {row : Option Nat} (h : Same M A B) (hg : B.grownBy C row) (hr : ∀ k, row = some k → M k ∨ A.heap.size ≤ k) : Same M A C :=
  ⟨hg.os.trans h.os, hg.tape.trans h.tape, hg.output.trans h.output, Nat.le_trans h.size hg.size, fun k hk hm => (hg.block k (Nat.lt_of_lt_of_le hk h.size) (fun e => by
    rcases hr k e.symm with h' | h'
    · exact hm h'
    · omega)).trans (h.block k hk hm)⟩
theorem Same.of_below {A B : World} (M : Nat → Prop) (h : Below A.heap.size A B) : Same M A B := ⟨h.os, h.tape, h.output, h.size, fun k hk _ => h.block k hk⟩
theorem Same.below {M : Nat → Prop} {A B : World} {n : Nat} (h : Same M A B) (hn : n ≤ A.heap.size) (hm : ∀ k, k < n → ¬ M k) : Below n A B := ⟨h.os, h.tape, h.output, h.size, fun k hk => h.block k (by omega) (hm k hk)⟩
theorem Same.cell {M : Nat → Prop} {A B : World} (h : Same M A B) {b o : Nat} {v : Value} (hc : A.cell? ⟨b, o, none⟩ = some v) (hm : ¬ M b) : B.cell? ⟨b, o, none⟩ = some v :=
  (World.cell?_of_block (w := A) (h.block b (lt_of_cell hc) hm)).trans hc
theorem Same.frozen {M : Nat → Prop} {A B : World} (h : Same M A B) {b o : Nat} (hb : b < A.heap.size) (hm : ¬ M b) : B.frozen? ⟨b, o, none⟩ = A.frozen? ⟨b, o, none⟩ :=
  World.frozen?_of_block (w := A) (h.block b hb hm)
theorem Same.putObj {M : Nat → Prop} {A B : World} (h : Same M A B) {l : Nat} (hl : M l ∨ A.heap.size ≤ l) (o : Obj) : Same M A (B.putObj l o) :=
  h.grown (grownBy_putObj' B l o) (fun k e => by cases e; exact hl)
section
variable {P : Program}
/-- The marks that ranges over functions have left: each block is open still. -/
def MarksAt (n : Nat) (ds : List Deferred) (w : World) : Prop :=
  ∃ ks : List Nat, ds = ks.map (fun k => { target := .collected k, args := #[] }) ∧ ks.Nodup ∧ ∀ k ∈ ks, n ≤ k ∧ w.heap[k]? = some (.deferred (some []))
theorem MarksAt.nil (n : Nat) (w : World) : MarksAt n [] w := ⟨[], rfl, by simp, by simp⟩
theorem MarksAt.cons {n : Nat} {ds : List Deferred} {w w' : World} {D : Nat} (h : MarksAt n ds w) (hD : w.heap.size ≤ D) (hn : n ≤ D) (hk : w'.heap[D]? = some (.deferred (some [])))
    (hs : ∀ k, k < w.heap.size → w.heap[k]? = some (.deferred (some [])) → w'.heap[k]? = some (.deferred (some []))) : MarksAt n ({ target := .collected D, args := #[] } :: ds) w' := by
  obtain ⟨ks, rfl, hnd, hall⟩ := h
  refine ⟨D :: ks, rfl, List.nodup_cons.2 ⟨fun hm => ?_, hnd⟩, fun k hk' => ?_⟩
  · have := (Array.getElem?_eq_some_iff.1 (hall D hm).2).1
    omega
  · rcases List.mem_cons.1 hk' with rfl | hk'
    · exact ⟨hn, hk⟩
    · have := hall k hk'
      exact ⟨this.1, hs k (Array.getElem?_eq_some_iff.1 this.2).1 this.2⟩
theorem MarksAt.mono {n : Nat} {ds : List Deferred} {w w' : World} (h : MarksAt n ds w) (hs : ∀ k, k < w.heap.size → w.heap[k]? = some (.deferred (some [])) → w'.heap[k]? = some (.deferred (some []))) : MarksAt n ds w' := by
  obtain ⟨ks, rfl, hnd, hall⟩ := h
  exact ⟨ks, rfl, hnd, fun k hk => ⟨(hall k hk).1, hs k (Array.getElem?_eq_some_iff.1 (hall k hk).2).1 (hall k hk).2⟩⟩
theorem leaves_marks {fn : Func} {tmps : Array Value} {R : Ending → World → Prop} {v : Value} {n : Nat} : ∀ (ks : List Nat) (w : World), ks.Nodup → (∀ k ∈ ks, n ≤ k ∧ w.heap[k]? = some (.deferred (some []))) →
    (∀ W', Same (fun k => n ≤ k ∧ w.heap[k]? = some (.deferred (some []))) w W' → W'.heap.size = w.heap.size → (results fn tmps).run P W' = .ok v W' ∧ R (.returned v) W') →
    LeavesInM Fence.wide 0 P fn tmps R (ks.map (fun k => { target := .collected k, args := #[] })) .returning w
  | [], w, _, _, h => by
    have := h w (Same.refl _ _) rfl
    exact ⟨v, this.1, this.2⟩
  | k :: ks, w, hnd, hall, h => by
    have hk := hall k (by simp)
    refine ⟨by simp, .inl ⟨k, _, rfl, run_takeDeferred hk.2, ?_⟩⟩
    have hnd' := List.nodup_cons.1 hnd
    refine leaves_marks (n := n) ks _ hnd'.2 (fun j hj => ⟨(hall j (by simp [hj])).1, (World.putObj_heap_other (fun e : j = k => hnd'.1 (by rw [← e]; exact hj))).trans (hall j (by simp [hj])).2⟩) (fun W' hs hsz => h W' ?_ (by simpa using hsz))
    have h1 : Same (fun k => n ≤ k ∧ w.heap[k]? = some (.deferred (some []))) w (w.putObj k (.deferred none)) := (Same.refl _ w).putObj (.inl hk) _
    refine h1.trans (hs.mono (fun j _ hj => ⟨hj.1, ?_⟩))
    by_cases e : j = k
    · subst e; exact hk.2
    · exact (World.putObj_heap_other e).symm.trans hj.2
/-- A function's contract from its body, where ranges over functions have left marks. -/
theorem calls_of_wp_marks {f : FuncId} {fn : Func} {c : Code} {args : Array Value} {w : World} {R : Ending → World → Prop}
    (hf : P.funcs[f]? = some fn) (hb : fn.body = some c)
    (h : c.wp P (bodyPostM Fence.wide 0 P fn R) { tmps := args ++ Array.replicate (fn.ntmps - args.size) undef, defers := [] } w) : Calls P f args w R :=
  callsIn_wide.1 (callsIn_of_wp_marks hf hb trivial (wpIn_wide.2 h))
end
end Go.Proofs.Ytnfhlbmapfoifaa
namespace Go.Proofs.Ytnfhlbmapfoifaa
open Go.RowKit
section
variable {P : Program}
/-- What a round may write: of the blocks that are the consumer's those that are new, and those of M. -/
def mayC (M : Nat → Prop) (B : Nat) (C : Nat → Prop) (k : Nat) : Prop := C k ∧ (k < B → M k)
/-- An iterator that hands over N elements, one after the other, as long as the rounds want more. C: the consumer's blocks, which it leaves alone; K: the blocks of an element, which the consumer may keep. -/
def IterC (P : Program) (g : Nat) (lb : Array Value) (N : Nat) (Ok : Nat → Array Value → World → (Nat → Prop) → Prop) (M : Nat → Prop) (W : World) : Prop :=
  ∀ (l : Nat) (J Jx : Nat → World → (Nat → Prop) → Prop),
    (∀ i A B C, J i A C → Same (fun k => ¬ C k) A B → J i B C) → (∀ i A B C, Jx i A C → Same (fun k => ¬ C k) A B → Jx i B C) →
    (∀ i v A C K, i < N → Ok i v A K → (∀ k, K k → ¬ C k) → J i A C → YieldAt Fence.wide 0 P l v A fun e B => Same (mayC M W.heap.size C) A B ∧
      ∃ C' : Nat → Prop, (∀ k, k < W.heap.size → C' k) ∧ (∀ k, C' k → k < B.heap.size) ∧ (∀ k, C' k → C k ∨ K k ∨ A.heap.size ≤ k) ∧ ((e = .returned (.bool true) ∧ J (i + 1) B C') ∨ (e = .returned (.bool false) ∧ Jx (i + 1) B C'))) →
    J 0 W (fun k => k < W.heap.size) →
    CallsIn Fence.wide 0 P g (#[.func (.yield l) #[] #[]] ++ lb) W fun e W' => (∃ v, e = .returned v) ∧ ∃ C', J N W' C' ∨ ∃ i, i < N ∧ Jx (i + 1) W' C'
/-- How a round's body may end. -/
def roundEndC (l B : Nat) (M C K : Nat → Prop) (I : Nat → World → (Nat → Prop) → Prop) (Ix : Code → Nat → World → (Nat → Prop) → Prop) (i : Nat) (W : World) : Exit → Act → World → Prop
  | .normal, _, W' => Same (mayC M B C) W W' ∧ W'.heap[l]? = W.heap[l]? ∧ ∃ C' : Nat → Prop, (∀ k, k < B → C' k) ∧ (∀ k, C' k → k < W'.heap.size) ∧ (∀ k, C' k → C k ∨ K k ∨ W.heap.size ≤ k) ∧ I (i + 1) W' C'
  | .ret, _, W' => Same (mayC M B C) W W' ∧ W'.heap[l]? = W.heap[l]? ∧ ∃ C' : Nat → Prop, (∀ k, k < B → C' k) ∧ (∀ k, C' k → k < W'.heap.size) ∧ (∀ k, C' k → C k ∨ K k ∨ W.heap.size ≤ k) ∧ Ix .ret (i + 1) W' C'
  | .exit id, _, W' => Same (mayC M B C) W W' ∧ W'.heap[l]? = W.heap[l]? ∧ ∃ C' : Nat → Prop, (∀ k, k < B → C' k) ∧ (∀ k, C' k → k < W'.heap.size) ∧ (∀ k, C' k → C k ∨ K k ∨ W.heap.size ≤ k) ∧ Ix (.exit id) (i + 1) W' C'
  | .goto _, _, _ => False
  | .panic _, _, _ => False
  | .outgrown, _, _ => False
theorem wp_rangeFuncC {g : Operand} {ps : Array Tmp} {assign body : Code} {Q : Exit → Act → World → Prop} {a : Act} {w : World}
    {gf : Nat} {lb : Array Value} (hg : a.eval g = .func (.func gf) #[] lb) (eg : ∀ args w, (callFunc gf args).run P w = .ok (.enter gf args) w)
    (N : Nat) (Ok : Nat → Array Value → World → (Nat → Prop) → Prop) (M : Nat → Prop) (hps : ∀ i v A K, Ok i v A K → v.size = ps.size)
    (hMD : ¬ M w.heap.size) (hMl : M (w.heap.size + 1))
    (hit : ∀ W, Below w.heap.size w W → W.heap.size = w.heap.size + 2 → IterC P gf lb N Ok M W)
    (I : Nat → World → (Nat → Prop) → Prop) (Ix : Code → Nat → World → (Nat → Prop) → Prop)
    (hI : ∀ i A B C, I i A C → Same (fun k => ¬ C k ∨ k = w.heap.size + 1) A B → I i B C) (hIx : ∀ c i A B C, Ix c i A C → Same (fun k => ¬ C k ∨ k = w.heap.size + 1) A B → Ix c i B C)
    (h0 : ∀ W, Below w.heap.size w W → W.heap.size = w.heap.size + 2 → I 0 W (fun k => k < w.heap.size + 2))
    (hround : ∀ i v W C K, i < N → Ok i v W K → (∀ k, K k → ¬ C k) → (∀ k, k < w.heap.size + 2 → C k) → I i W C → w.heap.size + 1 < W.heap.size →
      assign.wpIn (Fence.wide.inRound (w.heap.size + 1)) 0 P (Exit.then (fun a₁ W₁ => W = W₁ ∧
          ∀ W₂, Same (fun k => k = w.heap.size + 1) W W₂ → W₂.heap.size = W.heap.size → body.wpIn (Fence.wide.inRound (w.heap.size + 1)) 0 P (roundEndC (w.heap.size + 1) (w.heap.size + 2) M C K I Ix i W₂) a₁ W₂) (fun _ _ _ => False))
        { tmps := (ps.zip v).foldl (fun t (p, v) => t.setIfInBounds p v) a.tmps, defers := [] } W)
    (hdone : ∀ W C, I N W C → W.heap[w.heap.size]? = some (.deferred (some [])) → Q .normal { a with defers := { target := .collected w.heap.size, args := #[] } :: a.defers } W)
    (hstop : ∀ c i W C, i < N → Ix c (i + 1) W C → W.heap[w.heap.size]? = some (.deferred (some [])) → c.wp P Q { a with defers := { target := .collected w.heap.size, args := #[] } :: a.defers } W) :
    (Code.rangeFunc g ps assign body).wp P Q a w := by
  rw [← wpIn_wide (n := 0)]
  refine wpIn_rangeFunc ?_
  intro fn hfn
  obtain ⟨rec, hrec⟩ : ∃ rec : LoopState → Option Code → Loop, rec = fun st pe => { state := st, pending := pe, fn, tmps := a.tmps, params := ps, assign, body, defers := w.heap.size } := ⟨_, rfl⟩
  obtain ⟨W1, hW1⟩ : ∃ W1, (w.alloc (.deferred (some []))).alloc (.loop (rec .ready none)) = W1 := ⟨_, rfl⟩
  have hL1 : W1.heap[w.heap.size + 1]? = some (.loop (rec .ready none)) := by
    rw [← hW1]; have := World.alloc_heap_new (w.alloc (.deferred (some []))) (.loop (rec .ready none)); rwa [World.size_alloc] at this
  have hK1 : W1.heap[w.heap.size]? = some (.deferred (some [])) := by
    rw [← hW1]; exact (Below.heap_alloc _ _ _ (by simp)).trans (World.alloc_heap_new w _)
  have hs1 : W1.heap.size = w.heap.size + 2 := by rw [← hW1]; simp
  have hb1 : Below w.heap.size w W1 := by rw [← hW1]; exact ((Below.refl _ w).alloc (Nat.le_refl _) _).alloc (by simp) _
  refine ⟨w.heap.size + 1, [{ target := .collected w.heap.size, args := #[] }], W1, { target := .fn (.func gf) lb, args := #[.func (.yield (w.heap.size + 1)) #[] #[]] }, W1, gf,
    #[.func (.yield (w.heap.size + 1)) #[] #[]] ++ lb, W1, ?_, ?_, ?_, ?_, fun h => by simp [Fence.wide] at h, ?_⟩
  · rw [← hW1, hrec]; exact run_enterLoop_outer _ _ _ _ _
  · simp only [resolve, hg]
    simp [go_sem]
  · intro f' hf'; trivial
  · simp [invoke, go_sem, eg]
  · have hput : ∀ (W : World) (o : Obj), Same (fun k => k = w.heap.size + 1) W (W.putObj (w.heap.size + 1) o) := fun W o => Same.putObj (M := fun k => k = w.heap.size + 1) (Same.refl _ W) (.inl rfl) o
    have hl2' : w.heap.size + 1 < w.heap.size + 2 := by omega
    have hD2' : w.heap.size < w.heap.size + 2 := by omega
    have liftM : ∀ {A B : World} {C : Nat → Prop}, (∀ k, k < w.heap.size + 2 → C k) → Same (fun k => k = w.heap.size + 1) A B → Same (mayC M W1.heap.size C) A B := fun hC h => h.mono (fun _ _ e => by
      subst e; exact ⟨hC _ hl2', fun _ => hMl⟩)
    have liftI : ∀ {A B : World} {C : Nat → Prop}, Same (fun k => k = w.heap.size + 1) A B → Same (fun k => ¬ C k ∨ k = w.heap.size + 1) A B := fun h => h.mono (fun _ _ e => .inr e)
    have hnD : ∀ C, ¬ mayC M W1.heap.size C w.heap.size := fun C h => hMD (h.2 (by omega))
    refine (hit W1 hb1 hs1 (w.heap.size + 1)
      (fun i W C => I i W C ∧ (∀ k, k < w.heap.size + 2 → C k) ∧ W.heap[w.heap.size + 1]? = some (.loop (rec .ready none)) ∧ W.heap[w.heap.size]? = some (.deferred (some [])))
      (fun i W C => ∃ c, Ix c i W C ∧ (∀ k, k < w.heap.size + 2 → C k) ∧ W.heap[w.heap.size + 1]? = some (.loop (rec .done (some c))) ∧ W.heap[w.heap.size]? = some (.deferred (some [])))
      (fun i A B C hs hg' => ⟨hI i A B C hs.1 (hg'.mono (fun _ _ e => .inl e)), hs.2.1, (hg'.block _ (Array.getElem?_eq_some_iff.1 hs.2.2.1).1 (fun h => h (hs.2.1 _ hl2'))).trans hs.2.2.1, (hg'.block _ (Array.getElem?_eq_some_iff.1 hs.2.2.2).1 (fun h => h (hs.2.1 _ hD2'))).trans hs.2.2.2⟩)
      (fun i A B C hs hg' => by
        obtain ⟨c, hc, hC, hl, hk⟩ := hs
        exact ⟨c, hIx c i A B C hc (hg'.mono (fun _ _ e => .inl e)), hC, (hg'.block _ (Array.getElem?_eq_some_iff.1 hl).1 (fun h => h (hC _ hl2'))).trans hl, (hg'.block _ (Array.getElem?_eq_some_iff.1 hk).1 (fun h => h (hC _ hD2'))).trans hk⟩)
      ?_ ⟨by rw [hs1]; exact h0 W1 hb1 hs1, fun k hk => by omega, hL1, hK1⟩).mono ?_
    · rintro i v W C K hiN hok hKC ⟨hi, hC, hl, hk⟩
      have hlt : w.heap.size + 1 < W.heap.size := (Array.getElem?_eq_some_iff.1 hl).1
      have hy := run_yield (P := P) (args := v) hl (by rw [hrec]; exact hps i v W K hok)
      rw [hrec] at hy
      refine ⟨fn, _, assign, body, hy, roundIn_of_wpIn hfn (wpIn_mono (hround i v W C K hiN hok hKC hC hi hlt) ?_)⟩
      rintro e a₁ Wa hp
      cases e with
      | normal =>
        obtain ⟨rfl, hbody⟩ := hp
        refine ⟨_, run_beginRound hl (by rw [hrec]), ?_⟩
        have hl2 : (W.putObj (w.heap.size + 1) (.loop { rec .ready none with state := .busy })).heap[w.heap.size + 1]? = some (.loop { rec .ready none with state := .busy }) := World.putObj_heap_same hlt
        have hk2 : (W.putObj (w.heap.size + 1) (.loop { rec .ready none with state := .busy })).heap[w.heap.size]? = some (.deferred (some [])) := (World.putObj_heap_other (by omega)).trans hk
        have hs2 := hput W (.loop { rec .ready none with state := .busy })
        refine wpIn_mono (hbody _ hs2 (by simp)) ?_
        have fin : ∀ (jump : Option Code) (W3 : World), Same (mayC M (w.heap.size + 2) C) (W.putObj (w.heap.size + 1) (.loop { rec .ready none with state := .busy })) W3 → W3.heap[w.heap.size + 1]? = (W.putObj (w.heap.size + 1) (.loop { rec .ready none with state := .busy })).heap[w.heap.size + 1]? →
            (Instr.endRound (w.heap.size + 1) jump).run P W3 = .ok (.bool jump.isNone) (W3.putObj (w.heap.size + 1) (.loop (rec (if jump.isNone then .ready else .done) jump))) ∧
            (W3.putObj (w.heap.size + 1) (.loop (rec (if jump.isNone then .ready else .done) jump))).heap[w.heap.size + 1]? = some (.loop (rec (if jump.isNone then .ready else .done) jump)) ∧
            (W3.putObj (w.heap.size + 1) (.loop (rec (if jump.isNone then .ready else .done) jump))).heap[w.heap.size]? = some (.deferred (some [])) ∧
            Same (fun k => k = w.heap.size + 1) W3 (W3.putObj (w.heap.size + 1) (.loop (rec (if jump.isNone then .ready else .done) jump))) ∧
            Same (mayC M W1.heap.size C) W (W3.putObj (w.heap.size + 1) (.loop (rec (if jump.isNone then .ready else .done) jump))) := fun jump W3 hk3 hl3 => by
          rw [hl2] at hl3
          rw [← hs1] at hk3
          have hlt3 := (Array.getElem?_eq_some_iff.1 hl3).1
          have hkk := (hk3.block _ (Array.getElem?_eq_some_iff.1 hk2).1 (hnD C)).trans hk2
          have := run_endRound (P := P) jump hl3
          rw [hrec] at this ⊢
          exact ⟨this, World.putObj_heap_same hlt3, (World.putObj_heap_other (by omega)).trans hkk, hput _ _, ((liftM hC hs2).trans hk3).trans (liftM hC (hput _ _))⟩
        have hsz : (W.putObj (w.heap.size + 1) (.loop { rec .ready none with state := .busy })).heap.size = W.heap.size := by simp
        rintro e a3 W3 hp
        cases e with
        | normal =>
          obtain ⟨hk3, hl3, C', hC', hCB, hCK, hi3⟩ := hp
          obtain ⟨hr, hl4, hk4, hs4, hs5⟩ := fin none W3 hk3 hl3
          rw [hsz] at hCK
          exact ⟨_, _, hr, hs5, C', by rw [hs1]; exact hC', fun k hk => by simpa using hCB k hk, hCK, .inl ⟨rfl, hI _ _ _ _ hi3 (liftI hs4), hC', hl4, hk4⟩⟩
        | ret =>
          obtain ⟨hk3, hl3, C', hC', hCB, hCK, hi3⟩ := hp
          obtain ⟨hr, hl4, hk4, hs4, hs5⟩ := fin (some .ret) W3 hk3 hl3
          rw [hsz] at hCK
          exact ⟨_, _, hr, hs5, C', by rw [hs1]; exact hC', fun k hk => by simpa using hCB k hk, hCK, .inr ⟨rfl, .ret, hIx _ _ _ _ _ hi3 (liftI hs4), hC', hl4, hk4⟩⟩
        | exit id =>
          obtain ⟨hk3, hl3, C', hC', hCB, hCK, hi3⟩ := hp
          obtain ⟨hr, hl4, hk4, hs4, hs5⟩ := fin (some (.exit id)) W3 hk3 hl3
          rw [hsz] at hCK
          exact ⟨_, _, hr, hs5, C', by rw [hs1]; exact hC', fun k hk => by simpa using hCB k hk, hCK, .inr ⟨rfl, .exit id, hIx _ _ _ _ _ hi3 (liftI hs4), hC', hl4, hk4⟩⟩
        | goto t => exact hp.elim
        | panic ch => exact hp.elim
        | outgrown => exact hp.elim
      | exit id => exact hp.elim
      | goto t => exact hp.elim
      | ret => exact hp.elim
      | panic chain => exact hp.elim
      | outgrown => exact hp.elim
    · rintro e W2 ⟨⟨v, rfl⟩, C', (⟨hi, hC, hl, hk⟩ | ⟨i, hin, c, hi, hC, hl, hk⟩)⟩
      · have hlt := (Array.getElem?_eq_some_iff.1 hl).1
        exact ⟨none, _, by have := run_endLoop (P := P) hl (by rw [hrec]; simp); rw [hrec] at this; exact this, hdone _ C' (hI _ _ _ _ hi (liftI (hput _ _))) ((World.putObj_heap_other (by omega)).trans hk)⟩
      · have hlt := (Array.getElem?_eq_some_iff.1 hl).1
        exact ⟨some c, _, by have := run_endLoop (P := P) hl (by rw [hrec]; simp); rw [hrec] at this; exact this, wpIn_wide.2 (hstop c i _ C' hin (hIx c _ _ _ _ hi (liftI (hput _ _))) ((World.putObj_heap_other (by omega)).trans hk))⟩
end
end Go.Proofs.Ytnfhlbmapfoifaa
namespace Go.Proofs.Ytnfhlbmapfoifaa
open Go.RowKit
section
variable {P : Program}
abbrev markOf (k : Nat) : Deferred := { target := .collected k, args := #[] }
/-- Marks first, each shut; then what 'Leaves' says. -/
def LeavesX (P : Program) (fn : Func) (tmps : Array Value) (R : Ending → World → Prop) (ds : List Deferred) (u : FrameMode) : List Nat → World → Prop
  | [], w => Leaves P fn tmps R ds u w
  | k :: ks, w => u ≠ .run ∧ ∃ w', (Instr.takeDeferred k).run P w = .ok [] w' ∧ LeavesX P fn tmps R ds u ks w'
theorem leavesX_steps {fn : Func} {tmps : Array Value} {R : Ending → World → Prop} {ds : List Deferred} {u : FrameMode} : ∀ (ks : List Nat) (w : World) (fr : Frame) (cs : List Frame),
    fr.mode = u → fr.defers = ks.map markOf ++ ds → fr.tmps = tmps → P.funcs[fr.fn]? = some fn → fr.kind = .normal → LeavesX P fn tmps R ds u ks w →
    ∃ e w' fr', R e w' ∧ Comes P (lone fr cs w) (lone fr' cs w') e ∧ fr'.fn = fr.fn ∧ fr'.leaving P w' e
  | [], w, fr, cs, hu, hd, ht, hf, hk, h => leaves_steps ds u w fr cs hu (by simpa using hd) ht hf hk h
  | k :: ks, w, fr, cs, hu, hd, ht, hf, hk, h => by
    obtain ⟨hrun, w', htake, hrest⟩ := h
    have h1 := step_collected (cs := cs) (fr := fr) (hu ▸ hrun) (d := markOf k) (ds := ks.map markOf ++ ds) (by simpa using hd) rfl htake
    obtain ⟨e', w'', fr', hR', hs', hfn', hl'⟩ := leavesX_steps ks w' { fr with defers := [] ++ (ks.map markOf ++ ds) } cs hu rfl ht hf hk hrest
    exact ⟨e', w'', fr', hR', Comes.of_steps (.one h1) hs', hfn', hl'⟩
/-- How such a body ends. -/
def bodyPostX (P : Program) (fn : Func) (R : Ending → World → Prop) : Exit → Act → World → Prop
  | .normal, a, w | .ret, a, w => ∃ ks ds, a.defers = ks.map markOf ++ ds ∧ LeavesX P fn a.tmps R ds .returning ks w
  | .panic chain, a, w => ∃ ks ds, a.defers = ks.map markOf ++ ds ∧ LeavesX P fn a.tmps R ds (.panicking chain) ks w
  | .outgrown, _, w => R .outgrown w
  | _, _, _ => False
theorem calls_of_wp_x {f : FuncId} {fn : Func} {c : Code} {args : Array Value} {w : World} {R : Ending → World → Prop} (hf : P.funcs[f]? = some fn) (hb : fn.body = some c)
    (h : c.wp P (bodyPostX P fn R) { tmps := args ++ Array.replicate (fn.ntmps - args.size) undef, defers := [] } w) : Calls P f args w R := by
  intro cs
  let b : Frame := { (default : Frame) with fn := f, kind := .normal }
  have henter : Frame.enter P f args .normal = b.at { tmps := args ++ Array.replicate (fn.ntmps - args.size) undef, defers := [] } [.code c] := by
    simp [Frame.enter, Frame.at, hf, hb, b]
  obtain ⟨e, a', w', hq, harr⟩ := h b [] cs
  rw [← henter] at harr
  cases e with
  | normal =>
    obtain ⟨ks, ds, hd, hl⟩ := hq
    obtain ⟨e', w'', fr', hR, hs, hfn, hl⟩ := leavesX_steps ks w' { b.at a' [] with mode := .returning } cs rfl hd rfl hf rfl hl
    exact ⟨e', w'', fr', hR, Comes.of_steps (Steps.trans harr (.one step_end)) hs, hfn, hl⟩
  | ret =>
    obtain ⟨ks, ds, hd, hl⟩ := hq
    obtain ⟨todo, hs₀⟩ := harr
    obtain ⟨e', w'', fr', hR, hs, hfn, hl⟩ := leavesX_steps ks w' { b.at a' todo with mode := .returning } cs rfl hd rfl hf rfl hl
    exact ⟨e', w'', fr', hR, Comes.of_steps hs₀ hs, hfn, hl⟩
  | panic chain =>
    obtain ⟨ks, ds, hd, hl⟩ := hq
    obtain ⟨todo, hs₀⟩ := harr
    obtain ⟨e', w'', fr', hR, hs, hfn, hl⟩ := leavesX_steps ks w' { b.at a' todo with mode := .panicking chain } cs rfl hd rfl hf rfl hl
    exact ⟨e', w'', fr', hR, Comes.of_steps hs₀ hs, hfn, hl⟩
  | exit id => exact hq.elim
  | goto l => exact hq.elim
  | outgrown =>
    exact ⟨.outgrown, w', b, hq, harr.resolve_left (by simp [b]), rfl, trivial⟩
end
end Go.Proofs.Ytnfhlbmapfoifaa
namespace Go.Proofs.Ytnfhlbmapfoifaa
open Go.RowKit
theorem wpList_append_run {P : Program} {w : World} {ops : Array Oper} {rest : List Oper} {o : Oper} {a : Act} {Q : Exit → Act → World → Prop} (hgd : o.guard = none) (s x : Operand) (t : TypeId)
    (ho : o.op = .call { callee := .builtin .append, args := #[s, x], argTypes := #[t, t] }) (v xv v' : Value) (w' : World) (hs : a.eval s = v) (hx : a.eval x = xv)
    (hr : (Builtin.append_ #[t, t] o.type #[v, xv]).run P w = .ok v' w') (h : wpList P ops Q rest (a.put o.dst v') w') : wpList P ops Q (o :: rest) a w := by
  refine wpList_plain hgd fun K hK => ?_
  unfold Oper.wp execOp
  simp only [ho, resolve, invoke, builtin, Sem.run_bind, Sem.run_pure, Result.andThen_ok, List.map_toArray, List.map_cons, List.map_nil, hs, hx, hr]
  exact hK _ _ h
theorem append_none {P : Program} {w : World} (base : Nat) (t ty e : TypeId) (i : TypeInfo) (size c : Nat) (ht : P.underlying t = some (.slice e)) (hi : P.info? e = some i)
    (v : Value) (n : Nat) (xs : List Value) (hown : w.ownsRow base e size v n xs) :
    (Builtin.append_ #[t, t] ty #[v, .slice none 0 c]).run P w = .ok v w := by
  rcases hown.2 with ⟨rfl, rfl⟩ | ⟨g, cap, cur, rfl, _, _, hnc, _⟩
  · simp [Builtin.append_, run_underlying ht, sizeOf, typeInfo, hi, Builtin.lenOf, Builtin.firstCells]
  · simp [Builtin.append_, run_underlying ht, sizeOf, typeInfo, hi, Builtin.lenOf, Builtin.firstCells, hnc, storeCells]
/-- append(own, whatever...). -/
theorem append_rows {P : Program} {w : World} (base : Nat) (t ty e : TypeId) (i : TypeInfo) (z : Value) (size bytes : Nat) (ht : P.underlying t = some (.slice e)) (hi : P.info? e = some i) (hz : i.zero = some z)
    (hsize : i.size = size) (hby : i.bytes = bytes) (hzs : z.cells.size = size) (hsz : 0 < size)
    (v : Value) (n : Nat) (xs : List Value) (hown : w.ownsRow base e size v n xs)
    (a : Option Addr) (m c : Nat) (news : List Value) (hl : news.length = m * size) (hnews : m ≠ 0 → ∃ ad, a = some ad ∧ ∀ j u, news[j]? = some u → w.cell? (ad.add j) = some u) (h1 : ∀ u ∈ news, u.oneCell' = true)
    (h63 : n + m ≤ maxLen) (hbytes : (n + m) * bytes ≤ 140737488355328) (hbase : base ≤ w.heap.size) :
    ∃ v' w', (Builtin.append_ #[t, t] ty #[v, .slice a m c]).run P w = .ok v' w' ∧ w'.ownsRow base e size v' (n + m) (xs ++ news) ∧ w.grownBy w' v.ownBlock := by
  cases a with
  | none =>
    by_cases hm : m = 0
    · subst hm
      have hn : news = [] := List.eq_nil_of_length_eq_zero (by simpa using hl)
      subst hn
      refine ⟨v, w, append_none base t ty e i size c ht hi v n xs hown, by simpa using hown, ⟨rfl, rfl, rfl, Nat.le_refl _, fun _ _ _ => rfl⟩⟩
    · obtain ⟨ad, h, _⟩ := hnews hm
      cases h
  | some ad =>
    have hn' : ∀ j u, news[j]? = some u → w.cell? (ad.add j) = some u := by
      by_cases hm : m = 0
      · subst hm
        have hn : news = [] := List.eq_nil_of_length_eq_zero (by simpa using hl)
        subst hn
        intro j u h; simp at h
      · obtain ⟨ad', h, h2⟩ := hnews hm
        cases h
        exact h2
    obtain ⟨v', w', h2, h3, h4, _⟩ := run_append_own (P := P) (w := w) base t ty e i z size bytes ht hi hz hsize hby hzs hsz v n xs hown ad m c news hl hn' h1 h63 hbytes hbase
    exact ⟨v', w', h2, h3, h4⟩
/-- What a slice of the call's own holds, cell by cell. -/
theorem own_cell {w : World} {base : Nat} {e : TypeId} {size : Nat} {v : Value} {n : Nat} {xs : List Value} (h : w.ownsRow base e size v n xs) (hn : 0 < n) :
    ∃ g cap, v = .slice (some ⟨g, 0, none⟩) n cap ∧ base ≤ g ∧ g < w.heap.size ∧ n ≤ cap ∧ cap ≤ maxLen ∧ ∀ j u, xs[j]? = some u → w.cell? ⟨g, j, none⟩ = some u := by
  rcases h.2 with ⟨_, h0⟩ | ⟨g, cap, cur, rfl, h1, h2, h3, h4, _⟩
  · omega
  · refine ⟨g, cap, rfl, h1, (Array.getElem?_eq_some_iff.1 h2).1, h3, h4, fun j u hj => ?_⟩
    have := h.cells (g := g) rfl j u hj
    have e : ((⟨g, 0, none⟩ : Addr).add j) = ⟨g, j, none⟩ := by unfold Addr.add; split <;> simp_all
    rwa [e] at this
/-- A slice of the call's own, whatever it is, is a slice. -/
theorem own_slice {w : World} {base : Nat} {e : TypeId} {size : Nat} {v : Value} {n : Nat} {xs : List Value} (h : w.ownsRow base e size v n xs) : ∃ a cap, v = .slice a n cap ∧ n ≤ cap ∧ cap ≤ maxLen := by
  rcases h.2 with ⟨rfl, rfl⟩ | ⟨g, cap, cur, rfl, h1, h2, h3, h4, _⟩
  · exact ⟨_, _, rfl, by simp, by simp [maxLen]⟩
  · exact ⟨_, _, rfl, h3, h4⟩
theorem grown_below {w w' : World} {v : Value} {base : Nat} {e : TypeId} {size n : Nat} {xs : List Value} {W : World} (hb : Below base W w) (h : w.ownsRow base e size v n xs) (hg : w.grownBy w' v.ownBlock) (hs : base ≤ w.heap.size) : Below base W w' := by
  refine hb.grown hg hs (fun k hk => ?_)
  exact (h.lt k hk).1
theorem own_below {w w' : World} {v : Value} {base : Nat} {e : TypeId} {size n : Nat} {xs : List Value} (h : w.ownsRow base e size v n xs) (hb : Below w.heap.size w w') : w'.ownsRow base e size v n xs := by
  have hg : w.grownBy w' none := ⟨hb.os, hb.tape, hb.output, hb.size, fun k hk _ => hb.block k hk⟩
  refine h.kept hg ?_
  cases v.ownBlock with
  | none => exact .inl rfl
  | some k => exact .inr (by simp)
/-- One element more: the walk's own way (the element was laid in a new block). -/
theorem append_one {P : Program} {w : World} (base : Nat) (t ty e : TypeId) (i : TypeInfo) (z : Value) (bytes : Nat) (ht : P.underlying t = some (.slice e)) (hi : P.info? e = some i) (hz : i.zero = some z)
    (hsize : i.size = 1) (hby : i.bytes = bytes) (hzs : z.cells.size = 1) (v : Value) (n : Nat) (xs : List Value) (hown : w.ownsRow base e 1 v n xs) (x : Value) (hx : x.oneCell' = true)
    (h63 : n + 1 ≤ maxLen) (hbytes : (n + 1) * bytes ≤ 140737488355328) (hbase : base ≤ w.heap.size) :
    ∃ v' w', (Builtin.append_ #[t, t] ty #[v, .slice (some ⟨w.heap.size, 0, none⟩) 1 1]).run P (w.alloc (.cells #[x] e)) = .ok v' w' ∧ w'.ownsRow base e 1 v' (n + 1) (xs ++ [x]) ∧ (w.alloc (.cells #[x] e)).grownBy w' v.ownBlock := by
  refine append_rows base t ty e i z 1 bytes ht hi hz hsize hby hzs (by decide) v n xs (hown.alloc _) _ 1 1 [x] rfl (fun _ => ⟨_, rfl, fun j u hj => ?_⟩) (by simpa using hx) h63 hbytes (by simp; omega)
  cases j with
  | zero =>
    simp only [List.getElem?_cons_zero, Option.some.injEq] at hj
    subst hj
    show (w.alloc (.cells #[x] e)).cell? ⟨w.heap.size, 0, none⟩ = some x
    have := heap_alloc_new w (.cells #[x] e)
    simp only [World.cell?, this]; rfl
  | succ j => simp at hj
end Go.Proofs.Ytnfhlbmapfoifaa
namespace Go.Proofs.Ytnfhlbmapfoifaa
open Go.RowKit
/-- One thing more done. -/
def upd (d : Nat → Bool) (k : Nat) : Nat → Bool := fun j => if j = k then true else d j
/-- Each operation keeps the invariant, whatever of the others has been done that need not wait for it. -/
def InvSteps (P : Program) (Q : Exit → Act → World → Prop) (Inv : (Nat → Bool) → Act → World → Prop) : Nat → List Oper → Prop
  | _, [] => True
  | k, o :: r => (∀ d a w K, d k = false → (∀ e ∈ o.after, Region.binds .any e = true → d e.on = true) → Inv d a w → Hid (∀ a' w', Inv (upd d k) a' w' → K a' w') → o.wp P a w K Q) ∧ InvSteps P Q Inv (k + 1) r
theorem InvSteps.get {P : Program} {Q : Exit → Act → World → Prop} {Inv : (Nat → Bool) → Act → World → Prop} : ∀ {l : List Oper} {k : Nat}, InvSteps P Q Inv k l → ∀ {i : Nat} {o : Oper}, l[i]? = some o →
    ∀ d a w, d (k + i) = false → (∀ e ∈ o.after, Region.binds .any e = true → d e.on = true) → Inv d a w → o.wp P a w (fun a' w' => Inv (fun j => if j = k + i then true else d j) a' w') Q
  | [], _, _, i, o, h => by simp at h
  | o' :: r, k, hs, 0, o, h => by
    simp only [List.getElem?_cons_zero, Option.some.injEq] at h
    subst h
    exact fun d a w h1 h2 h3 => hs.1 d a w _ h1 h2 h3 (fun _ _ h => h)
  | o' :: r, k, hs, i + 1, o, h => by
    rw [List.getElem?_cons_succ] at h
    have := InvSteps.get hs.2 h
    rw [show k + 1 + i = k + (i + 1) by omega] at this
    exact this
/-- No guard; each waits for earlier ones alone. -/
def plainB (l : List Oper) : Bool := (List.range l.length).all fun i => match l[i]? with
  | some o => o.guard.isNone && o.after.all fun e => decide (e.on < i)
  | none => true
theorem plainB_at {l : List Oper} (h : plainB l = true) {i : Nat} {o : Oper} (ho : l[i]? = some o) : o.guard = none ∧ ∀ e ∈ o.after, e.on < i := by
  have hi : i < l.length := (List.getElem?_eq_some_iff.1 ho).1
  have := (List.all_eq_true.1 h) i (List.mem_range.2 hi)
  rw [ho] at this
  simp only [Bool.and_eq_true, Array.all_eq_true_iff_forall_mem, decide_eq_true_eq] at this
  exact ⟨by simpa using this.1, this.2⟩
theorem wpAny_inv {P : Program} {l : List Oper} {Q : Exit → Act → World → Prop} {Inv : (Nat → Bool) → Act → World → Prop} (hp : plainB l = true) (hs : InvSteps P Q Inv 0 l)
    (hend : ∀ d a w, (∀ i, i < l.length → d i = true) → Inv d a w → Q .normal a w) :
    ∀ (f : Nat) (listed : Array Bool) (a : Act) (w : World), listed.size = l.length → (listed.toList.countP (fun b => !b)) = f → Inv (fun j => listed.getD j false) a w → wpAny P .any l.toArray Q f listed a w := by
  have first : ∀ listed : Array Bool, listed.size = l.length → Region.ready .any l.toArray listed = [] → ∀ i, i < l.length → listed.getD i false = true := by
    intro listed hz hr i
    induction i using Nat.strongRecOn with
    | ind i ih =>
      intro hi
      cases hb : listed.getD i false with
      | true => rfl
      | false =>
        exfalso
        have : i ∈ Region.ready .any l.toArray listed := by
          rw [mem_ready]
          have hlt : i < listed.size := by omega
          refine ⟨by simpa [hlt] using hb, l[i], by simp [hi], fun e he _ => ?_⟩
          have := (plainB_at hp (List.getElem?_eq_getElem hi)).2 e he
          exact ih e.on this (by omega)
        rw [hr] at this
        simp at this
  intro f
  induction f with
  | zero =>
    intro listed a w hz hc hI
    have hall : ∀ i, i < l.length → listed.getD i false = true := by
      intro i hi
      have hlt : i < listed.size := by omega
      have := List.countP_eq_zero.1 hc (listed[i]) (by simp)
      simpa [hlt] using this
    refine ⟨?_, hend _ a w hall hI⟩
    rw [List.eq_nil_iff_forall_not_mem]
    intro i hi
    obtain ⟨h1, o, ho, _⟩ := mem_ready.1 hi
    have hlt : i < listed.size := by
      have := (Array.getElem?_eq_some_iff.1 ho).1
      simpa [hz] using this
    have := hall i (by omega)
    simp [hlt] at h1 this
    rw [this] at h1
    cases h1
  | succ f ih =>
    intro listed a w hz hc hI
    refine ⟨fun hr => hend _ a w (first listed hz hr) hI, fun i hi => ?_⟩
    obtain ⟨h1, o, ho, hdep⟩ := mem_ready.1 hi
    have hil : i < l.length := by simpa using (Array.getElem?_eq_some_iff.1 ho).1
    have hlt : i < listed.size := by omega
    have ho' : l[i]? = some o := by simpa using ho
    have hb : listed.getD i false = false := by simpa [hlt] using h1
    have hw : Region.wanted o (yielded l.toArray a.tmps) = true := by simp [Region.wanted, (plainB_at hp ho').1]
    have := hs.get ho' (fun j => listed.getD j false) a w (by simpa using hb) hdep hI
    unfold wpOp
    simp only [ho, hw, if_true]
    refine .inl (Oper.wp_mono (fun a' w' hI' => ih _ a' w' (by simpa using hz) ?_ ?_) this)
    · have h2 : listed.toList = listed.toList.take i ++ false :: listed.toList.drop (i + 1) := by
        have e : listed[i] = false := by simpa [hlt] using hb
        have := List.drop_eq_getElem_cons (l := listed.toList) (i := i) (by simpa using hlt)
        simp only [Array.getElem_toList, e] at this
        rw [← this, List.take_append_drop]
      have h3 : (listed.setIfInBounds i true).toList = listed.toList.take i ++ true :: listed.toList.drop (i + 1) := by
        rw [Array.toList_setIfInBounds, List.set_eq_take_append_cons_drop, if_pos (by simpa using hlt)]
      rw [h2] at hc
      rw [h3]
      simp only [List.countP_append, List.countP_cons, Bool.not_false, if_true, Bool.not_true] at hc ⊢
      simp at hc ⊢
      omega
    · have e : (fun j => (listed.setIfInBounds i true).getD j false) = (fun j => if j = 0 + i then true else listed.getD j false) := by
        funext j
        rw [Nat.zero_add]
        by_cases hj : j = i
        · subst hj; simp [hlt]
        · rw [if_neg hj, getD_set_ne false (fun e => hj e.symm)]
      rw [e]
      exact hI'
/-- A region that draws: by an invariant. -/
theorem wp_region_inv {P : Program} {id : Nat} {l : List Oper} {Q : Exit → Act → World → Prop} {a : Act} {w : World} (hm : P.follows .mixedOrders = true) (hp : plainB l = true)
    (Inv : (Nat → Bool) → Act → World → Prop) (h0 : Inv (fun _ => false) a w.drew) (hs : InvSteps P Q Inv 0 l)
    (hend : ∀ d a w, (∀ i, i < l.length → d i = true) → Inv d a w → Q .normal a w) : (Code.region id l.toArray true).wp P Q a w := by
  refine wp_region_any hm (wpAny_inv hp hs hend _ _ _ _ (by simp) (by simp [List.countP_replicate]) ?_)
  have e : (fun j => (Array.replicate l.toArray.size false).getD j false) = fun _ => false := by
    funext j
    by_cases hj : j < l.length <;> simp [hj]
  rw [e]
  exact h0
end Go.Proofs.Ytnfhlbmapfoifaa
namespace Go.Proofs.Ytnfhlbmapfoifaa
open Go.RowKit
set_option linter.unusedVariables false
/-- No guard; each waits for earlier ones alone. -/
def plainB' (l : List Oper) : Bool := (List.range l.length).all fun i => match l[i]? with
  | some o => o.guard.isNone && o.after.all fun e => decide (e.on < i) || !Region.binds .any e
  | none => true
theorem plainB_at' {l : List Oper} (h : plainB' l = true) {i : Nat} {o : Oper} (ho : l[i]? = some o) : o.guard = none ∧ ∀ e ∈ o.after, Region.binds .any e = true → e.on < i := by
  have hi : i < l.length := (List.getElem?_eq_some_iff.1 ho).1
  have := (List.all_eq_true.1 h) i (List.mem_range.2 hi)
  rw [ho] at this
  simp only [Bool.and_eq_true, Array.all_eq_true_iff_forall_mem, decide_eq_true_eq, Bool.or_eq_true] at this
  exact ⟨by simpa using this.1, fun e he hb => by
    rcases this.2 e he with h | h
    · exact h
    · rw [hb] at h; cases h⟩
theorem wpAny_inv' {P : Program} {l : List Oper} {Q : Exit → Act → World → Prop} {Inv : (Nat → Bool) → Act → World → Prop} (hp : plainB' l = true) (hs : InvSteps P Q Inv 0 l)
    (hend : ∀ d a w, (∀ i, i < l.length → d i = true) → Inv d a w → Q .normal a w) :
    ∀ (f : Nat) (listed : Array Bool) (a : Act) (w : World), listed.size = l.length → (listed.toList.countP (fun b => !b)) = f → Inv (fun j => listed.getD j false) a w → wpAny P .any l.toArray Q f listed a w := by
  have first : ∀ listed : Array Bool, listed.size = l.length → Region.ready .any l.toArray listed = [] → ∀ i, i < l.length → listed.getD i false = true := by
    intro listed hz hr i
    induction i using Nat.strongRecOn with
    | ind i ih =>
      intro hi
      cases hb : listed.getD i false with
      | true => rfl
      | false =>
        exfalso
        have : i ∈ Region.ready .any l.toArray listed := by
          rw [mem_ready]
          have hlt : i < listed.size := by omega
          refine ⟨by simpa [hlt] using hb, l[i], by simp [hi], fun e he hbd => ?_⟩
          have := (plainB_at' hp (List.getElem?_eq_getElem hi)).2 e he hbd
          exact ih e.on this (by omega)
        rw [hr] at this
        simp at this
  intro f
  induction f with
  | zero =>
    intro listed a w hz hc hI
    have hall : ∀ i, i < l.length → listed.getD i false = true := by
      intro i hi
      have hlt : i < listed.size := by omega
      have := List.countP_eq_zero.1 hc (listed[i]) (by simp)
      simpa [hlt] using this
    refine ⟨?_, hend _ a w hall hI⟩
    rw [List.eq_nil_iff_forall_not_mem]
    intro i hi
    obtain ⟨h1, o, ho, _⟩ := mem_ready.1 hi
    have hlt : i < listed.size := by
      have := (Array.getElem?_eq_some_iff.1 ho).1
      simpa [hz] using this
    have := hall i (by omega)
    simp [hlt] at h1 this
    rw [this] at h1
    cases h1
  | succ f ih =>
    intro listed a w hz hc hI
    refine ⟨fun hr => hend _ a w (first listed hz hr) hI, fun i hi => ?_⟩
    obtain ⟨h1, o, ho, hdep⟩ := mem_ready.1 hi
    have hil : i < l.length := by simpa using (Array.getElem?_eq_some_iff.1 ho).1
    have hlt : i < listed.size := by omega
    have ho' : l[i]? = some o := by simpa using ho
    have hb : listed.getD i false = false := by simpa [hlt] using h1
    have hw : Region.wanted o (yielded l.toArray a.tmps) = true := by simp [Region.wanted, (plainB_at' hp ho').1]
    have := hs.get ho' (fun j => listed.getD j false) a w (by simpa using hb) hdep hI
    unfold wpOp
    simp only [ho, hw, if_true]
    refine .inl (Oper.wp_mono (fun a' w' hI' => ih _ a' w' (by simpa using hz) ?_ ?_) this)
    · have h2 : listed.toList = listed.toList.take i ++ false :: listed.toList.drop (i + 1) := by
        have e : listed[i] = false := by simpa [hlt] using hb
        have := List.drop_eq_getElem_cons (l := listed.toList) (i := i) (by simpa using hlt)
        simp only [Array.getElem_toList, e] at this
        rw [← this, List.take_append_drop]
      have h3 : (listed.setIfInBounds i true).toList = listed.toList.take i ++ true :: listed.toList.drop (i + 1) := by
        rw [Array.toList_setIfInBounds, List.set_eq_take_append_cons_drop, if_pos (by simpa using hlt)]
      rw [h2] at hc
      rw [h3]
      simp only [List.countP_append, List.countP_cons, Bool.not_false, if_true, Bool.not_true] at hc ⊢
      simp at hc ⊢
      omega
    · have e : (fun j => (listed.setIfInBounds i true).getD j false) = (fun j => if j = 0 + i then true else listed.getD j false) := by
        funext j
        rw [Nat.zero_add]
        by_cases hj : j = i
        · subst hj; simp [hlt]
        · rw [if_neg hj, getD_set_ne false (fun e => hj e.symm)]
      rw [e]
      exact hI'
/-- A region that draws: by an invariant. -/
theorem wp_region_inv' {P : Program} {id : Nat} {l : List Oper} {Q : Exit → Act → World → Prop} {a : Act} {w : World} (hm : P.follows .mixedOrders = true) (hp : plainB' l = true)
    (Inv : (Nat → Bool) → Act → World → Prop) (h0 : Inv (fun _ => false) a w.drew) (hs : InvSteps P Q Inv 0 l)
    (hend : ∀ d a w, (∀ i, i < l.length → d i = true) → Inv d a w → Q .normal a w) : (Code.region id l.toArray true).wp P Q a w := by
  refine wp_region_any hm (wpAny_inv' hp hs hend _ _ _ _ (by simp) (by simp [List.countP_replicate]) ?_)
  have e : (fun j => (Array.replicate l.toArray.size false).getD j false) = fun _ => false := by
    funext j
    by_cases hj : j < l.length <;> simp [hj]
  rw [e]
  exact h0
end Go.Proofs.Ytnfhlbmapfoifaa
namespace Go.Proofs.Ytnfhlbmapfoifaa
open Go.RowKit
set_option linter.unusedVariables false
/-- The first cells of a block are kept. -/
def KeptTo (e : TypeId) (k : Nat) (w w' : World) (b : Nat) : Prop := ∀ cur, w.heap[b]? = some (.cells cur e (0, 0)) → ∃ cur', w'.heap[b]? = some (.cells cur' e (0, 0)) ∧ cur'.size = cur.size ∧ cur'.toList.take k = cur.toList.take k
theorem KeptTo.of_eq {e : TypeId} {k : Nat} {w w' : World} {b : Nat} (h : w'.heap[b]? = w.heap[b]?) : KeptTo e k w w' b := fun cur hc => ⟨cur, h.trans hc, rfl, rfl⟩
theorem KeptTo.trans {e : TypeId} {k : Nat} {w w' w'' : World} {b : Nat} (h : KeptTo e k w w' b) (h' : KeptTo e k w' w'' b) : KeptTo e k w w'' b := fun cur hc => by
  obtain ⟨c1, h1, h2, h3⟩ := h cur hc
  obtain ⟨c2, h4, h5, h6⟩ := h' c1 h1
  exact ⟨c2, h4, h5.trans h2, h6.trans h3⟩
theorem KeptTo.mono {e : TypeId} {k j : Nat} {w w' : World} {b : Nat} (h : KeptTo e k w w' b) (hj : j ≤ k) : KeptTo e j w w' b := fun cur hc => by
  obtain ⟨c1, h1, h2, h3⟩ := h cur hc
  refine ⟨c1, h1, h2, ?_⟩
  have := congrArg (fun l => l.take j) h3
  simpa [List.take_take, Nat.min_eq_left hj] using this
theorem own_keptTo {w w' : World} {base : Nat} {e : TypeId} {v : Value} {n : Nat} {xs : List Value} (h : w.ownsRow base e 1 v n xs) (hk : ∀ g, v.ownBlock = some g → KeptTo e n w w' g) : w'.ownsRow base e 1 v n xs := by
  obtain ⟨h1, h2⟩ := h
  refine ⟨h1, ?_⟩
  rcases h2 with h2 | ⟨g, cap, cur, rfl, hg, hh, h3, h4, h5, h6⟩
  · exact .inl h2
  · obtain ⟨c', k1, k2, k3⟩ := hk g rfl cur hh
    rw [Nat.mul_one] at h6
    exact .inr ⟨g, cap, c', rfl, hg, k1, h3, h4, by rw [k2]; exact h5, by rw [Nat.mul_one, k3]; exact h6⟩
theorem append_keep {P : Program} {w : World} (base : Nat) (t ty e : TypeId) (i : TypeInfo) (z : Value) (bytes : Nat) (ht : P.underlying t = some (.slice e)) (hi : P.info? e = some i) (hz : i.zero = some z)
    (hsize : i.size = 1) (hby : i.bytes = bytes) (hzs : z.cells.size = 1) (v : Value) (n : Nat) (xs : List Value) (hown : w.ownsRow base e 1 v n xs) (ad : Addr) (x : Value) (hx : w.cell? ad = some x) (h1 : x.oneCell' = true)
    (h63 : n + 1 ≤ maxLen) (hbytes : (n + 1) * bytes ≤ 140737488355328) (hbase : base ≤ w.heap.size) :
    ∃ v' w', (Builtin.append_ #[t, t] ty #[v, .slice (some ad) 1 1]).run P w = .ok v' w' ∧ w'.ownsRow base e 1 v' (n + 1) (xs ++ [x]) ∧ w.grownBy w' v.ownBlock ∧ (v'.ownBlock = v.ownBlock ∨ v'.ownBlock = some w.heap.size) ∧ (∀ g, v.ownBlock = some g → KeptTo e n w w' g) := by
  have hnews : ∀ j u, [x][j]? = some u → w.cell? (ad.add j) = some u := fun j u hj => by
    cases j with
    | zero => simp at hj; subst hj; exact hx
    | succ j => simp at hj
  have h1' : ∀ u ∈ [x], u.oneCell' = true := by intro u hu; simp at hu; subst hu; exact h1
  obtain ⟨v', w', hr, h2, h3, _, h5⟩ := run_append_own_at (P := P) (w := w) base t ty e i z 1 bytes ht hi hz hsize hby hzs (by decide) v n xs hown ad 1 1 [x] rfl hnews h1' h63 hbytes hbase
  refine ⟨v', w', hr, h2, h3, h5, fun g hg => ?_⟩
  rcases hown.2 with ⟨rfl, _⟩ | ⟨g', cap, cur, rfl, hbg, hh, hnc, hcm, hcs, htake⟩
  · simp [Value.ownBlock] at hg
  · simp [Value.ownBlock] at hg
    subst hg
    by_cases hroom : n + 1 ≤ cap
    · have hfit : n * i.size + [x].length ≤ cur.size := by rw [hsize, hcs]; simp; omega
      have hr2 := run_append_room (P := P) w t ty e i ht hi g' n cap cur hh ad 1 1 [x] (by rw [hsize]; rfl) hnews h1' hroom hfit
      rw [hr] at hr2
      cases hr2
      intro cur' hc'
      rw [hh] at hc'
      cases hc'
      refine ⟨_, setRow_heap w g' cur _ e _ hh, ?_, ?_⟩
      · rw [hsize] at hfit ⊢
        simp at hfit ⊢
        omega
      · rw [hsize, Nat.mul_one]
        have hl : (cur.toList.take n).length = n := by simp; simp at hfit; rw [hsize] at hfit; omega
        simp only [List.append_assoc]
        rw [List.take_append_of_le_length (by omega), List.take_of_length_le (by omega)]
    · have holds : ∀ j u, xs[j]? = some u → w.cell? ((⟨g', 0, none⟩ : Addr).add j) = some u := hown.cells (g := g') rfl
      have hr2 := run_append_grow (P := P) w t ty e i z ht hi hz ⟨g', 0, none⟩ n cap xs (by rw [hsize]; exact hown.1) holds ad 1 1 [x] (by rw [hsize]; rfl) hnews (by omega) (by unfold maxLen at h63; omega) (growslice_fits (by omega) (by rw [hby]; exact hbytes))
      rw [hr] at hr2
      cases hr2
      exact KeptTo.of_eq (heap_alloc_old w.drew _ (Array.getElem?_eq_some_iff.1 hh).1)
end Go.Proofs.Ytnfhlbmapfoifaa
