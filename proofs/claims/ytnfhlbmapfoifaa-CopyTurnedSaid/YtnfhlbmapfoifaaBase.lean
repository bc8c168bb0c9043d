/- Maps as lists of pairs, slices as lists: words on memory and their laws, over whatever program. A region that draws its order, whose first operations are quiet in a class of worlds and whose last ones are forced; a range over a function; deferred calls that recover: laws over whatever program. A range over a function whose elements lie in memory that it makes, and that hands each over: a law over whatever program. A function that leaves with marks among its deferred calls, and with calls that recover: a law over whatever program. -/
import Derived.Test.YtnfhlbmapfoifaaPure
import Derived.WalkKit
import Derived.WalkSpells
import Derived.WalkLawsBesides
import Derived.Lib.Hide
import Derived.Maps.Keyed
import Derived.Maps.RangeRun
import Derived.DeepKeys5
import Derived.StillTail
import Derived.BigQuiet
import Derived.RangeFuncLeaves
import Derived.RangeFuncNested
import Derived.RangeFuncCalls
import Derived.OrdersIn
import Derived.TacticsIn
namespace Go.Proofs.Ytnfhlbmapfoifaa
open Go.RowKit
open Go.MapKept (Stamped)
open Go.ChangeMaps (setBlock)

theorem below_cellOf {B : Nat} {w w' : World} (h : Below B w w') {b o : Nat} {v : Value} (hb : b < B) (hc : w.cell? ⟨b, o, none⟩ = some v) : w'.cell? ⟨b, o, none⟩ = some v :=
  (h.cell (p := ⟨b, o, none⟩) hb).trans hc
theorem lt_of_cell {w : World} {b o : Nat} {v : Value} (h : w.cell? ⟨b, o, none⟩ = some v) : b < w.heap.size := World.block_lt_of_cell? _ _ h
/-- What lay in the world when the call began lies there still. -/
theorem cell_stays {w w' : World} (h : Below w.heap.size w w') {b o : Nat} {v : Value} (hc : w.cell? ⟨b, o, none⟩ = some v) : w'.cell? ⟨b, o, none⟩ = some v :=
  below_cellOf h (lt_of_cell hc) hc

/-- A slice's array holds these integers, from the slice's start on. -/
def IsInts (w : World) (a : Option Addr) (l : List Int) : Prop :=
  ∀ i, i < l.length → ∃ b off, a = some ⟨b, off, none⟩ ∧ w.cell? ⟨b, off + i, none⟩ = some (.int .i64 (gi l i))

theorem IsInts.mono {w w' : World} {a : Option Addr} {l : List Int} (h : IsInts w a l) (hb : Below w.heap.size w w') : IsInts w' a l := fun i hi => by
  obtain ⟨b, off, ha, hc⟩ := h i hi
  exact ⟨b, off, ha, cell_stays hb hc⟩

theorem IsInts.at {w : World} {a : Option Addr} {l : List Int} (h : IsInts w a l) {k : Nat} (hk : k < l.length) :
    ∃ b off, a = some ⟨b, off, none⟩ ∧ ∀ i, i < l.length → w.cell? ⟨b, off + i, none⟩ = some (.int .i64 (gi l i)) := by
  obtain ⟨b, off, ha, _⟩ := h k hk
  refine ⟨b, off, ha, fun i hi => ?_⟩
  obtain ⟨b', off', ha', hc⟩ := h i hi
  rw [ha] at ha'
  cases ha'
  exact hc

/-! ### maps -/
/-- Block b is a map whose entries, in their order in memory, are these. -/
def MapRaw (P : Program) (kt : TypeId) (w : World) (b : Nat) (L : List (Value × Value)) : Prop :=
  ∃ es clock, w.heap[b]? = some (.map es clock) ∧ Stamped es clock ∧ es.toList.map (fun e => (e.key, e.val)) = L ∧ ∀ e ∈ es.toList, ∃ l, keyOf P kt e.key = some l

theorem MapRaw.kept {P : Program} {kt : TypeId} {w w' : World} {b : Nat} {L : List (Value × Value)} (h : MapRaw P kt w b L) (hb : w'.heap[b]? = w.heap[b]?) : MapRaw P kt w' b L := by
  obtain ⟨es, clock, h1, h2⟩ := h
  exact ⟨es, clock, hb.trans h1, h2⟩
theorem MapRaw.lt {P : Program} {kt : TypeId} {w : World} {b : Nat} {L : List (Value × Value)} (h : MapRaw P kt w b L) : b < w.heap.size := by
  obtain ⟨es, clock, h1, _⟩ := h
  exact (Array.getElem?_eq_some_iff.1 h1).1
theorem MapRaw.made (P : Program) (kt : TypeId) (w : World) : MapRaw P kt (w.alloc (.map #[] 0)) w.heap.size [] :=
  ⟨#[], 0, (MapKept.heap_alloc w _).1, MapKept.stamped_empty 0, rfl, by simp⟩
theorem MapRaw.nodup {P : Program} {kt : TypeId} {w : World} {b : Nat} {L : List (Value × Value)} (h : MapRaw P kt w b L) : (L.map (·.1)).Nodup := by
  obtain ⟨es, clock, _, h2, rfl, _⟩ := h
  rw [List.map_map]
  exact h2.2.2

theorem MapRaw.find {P : Program} {kt : TypeId} {w : World} {b : Nat} {L : List (Value × Value)} (K : Maps.Keyed P kt) (h : MapRaw P kt w b L) {key : Value} (hkey : ∃ l, keyOf P kt key = some l) :
    ∃ es clock, w.heap[b]? = some (.map es clock) ∧ Stamped es clock ∧ es.toList.map (fun e => (e.key, e.val)) = L ∧ (∀ e ∈ es.toList, ∃ l, keyOf P kt e.key = some l) ∧
      (((Instr.findKey kt key es.toList).run P w = .ok none w ∧ ∀ p ∈ L, p.1 ≠ key) ∨
       ∃ j v, (Instr.findKey kt key es.toList).run P w = .ok (some (j, v)) w ∧ L[j]? = some (key, v)) := by
  obtain ⟨es, clock, h1, h2, h3, h4⟩ := h
  obtain ⟨l, hl⟩ := hkey
  refine ⟨es, clock, h1, h2, h3, h4, ?_⟩
  rcases K.find w hl es.toList h4 with ⟨hr, hn⟩ | ⟨j, e, hr, hj, he⟩
  · refine .inl ⟨hr, fun p hp => ?_⟩
    rw [← h3] at hp
    obtain ⟨e, he, rfl⟩ := List.mem_map.1 hp
    exact hn e he
  · refine .inr ⟨j, e.val, hr, ?_⟩
    rw [← h3, List.getElem?_map, hj]
    simp [he]

/-- 'v, ok := m[k]'. -/
theorem MapRaw.look {P : Program} {kt t et : TypeId} {w : World} {b : Nat} {L : List (Value × Value)} (K : Maps.Keyed P kt) (ht : P.underlying t = some (.map kt et)) (h : MapRaw P kt w b L)
    {key z : Value} (hkey : ∃ l, keyOf P kt key = some l) (hz : (zeroValue et).run P w = .ok z w) (commaOk : Bool) :
    ∃ v ok, (Instr.lookup t (.map (some b)) key commaOk).run P w = .ok (if commaOk then .tuple #[v, .bool ok] else v) w ∧
      ((ok = false ∧ v = z ∧ ∀ p ∈ L, p.1 ≠ key) ∨ (ok = true ∧ (key, v) ∈ L)) := by
  obtain ⟨es, clock, h1, h2, h3, h4, hf⟩ := h.find K hkey
  obtain ⟨l, hl⟩ := hkey
  rcases hf with ⟨hr, hn⟩ | ⟨j, v, hr, hj⟩
  · refine ⟨z, false, ?_, .inl ⟨rfl, rfl, hn⟩⟩
    simp [Instr.lookup, run_underlying ht, MapKept.run_getObj_map h1, K.check w _ hl, hr, hz, Result.andThen]
  · refine ⟨v, true, ?_, .inr ⟨rfl, List.mem_of_getElem? hj⟩⟩
    simp [Instr.lookup, run_underlying ht, MapKept.run_getObj_map h1, K.check w _ hl, hr, Result.andThen]

/-- 'm[k] = v'. -/
theorem MapRaw.update {P : Program} {kt t et : TypeId} {w : World} {b : Nat} {L : List (Value × Value)} (K : Maps.Keyed P kt) (ht : P.underlying t = some (.map kt et)) (h : MapRaw P kt w b L)
    {key : Value} (hkey : ∃ l, keyOf P kt key = some l) (val : Value) :
    ∃ w', (Instr.mapUpdate t (.map (some b)) key val).run P w = .ok () w' ∧ w.grownBy w' (some b) ∧ w'.heap.size = w.heap.size ∧
      (((∀ p ∈ L, p.1 ≠ key) ∧ MapRaw P kt w' b (L ++ [(key, val)])) ∨ ∃ j v, L[j]? = some (key, v) ∧ MapRaw P kt w' b (L.set j (key, val))) := by
  obtain ⟨es, clock, h1, h2, h3, h4, hf⟩ := h.find K hkey
  obtain ⟨l, hl⟩ := hkey
  have grown : ∀ o : Obj, w.grownBy (setBlock w b o) (some b) := fun o => ⟨rfl, rfl, rfl, by simp [setBlock], fun i _ hi => ChangeMaps.heap_setBlock_other h1 _ (fun e => hi (by rw [e]))⟩
  rcases hf with ⟨hr, hn⟩ | ⟨j, v, hr, hj⟩
  · refine ⟨setBlock w b (.map (es.push ⟨key, val, clock⟩) (clock + 1)), ?_, grown _, by simp [setBlock], .inl ⟨hn, es.push ⟨key, val, clock⟩, clock + 1, ChangeMaps.heap_setBlock_same h1 _, ?_, ?_, ?_⟩⟩
    · simp [Instr.mapUpdate, run_underlying ht, MapKept.run_getObj_map h1, K.check w false hl, hr, MapKept.run_setObj_map _ h1, Result.andThen, setBlock]
    · exact MapKept.stamped_push h2 (fun x hx => hn (x.key, x.val) (by rw [← h3]; exact List.mem_map.2 ⟨x, hx, rfl⟩))
    · simp [h3]
    · intro e he
      simp only [Array.toList_push, List.mem_append, List.mem_singleton] at he
      rcases he with he | rfl
      · exact h4 e he
      · exact ⟨l, hl⟩
  · have hj' : ∃ e, es.toList[j]? = some e ∧ e.key = key ∧ e.val = v := by
      rw [← h3, List.getElem?_map] at hj
      cases he : es.toList[j]? with
      | none => rw [he] at hj; simp at hj
      | some e =>
        rw [he] at hj
        simp at hj
        exact ⟨e, rfl, hj.1, hj.2⟩
    obtain ⟨e, he, hek, hev⟩ := hj'
    have heA : es[j]? = some e := by simpa using he
    refine ⟨setBlock w b (.map (es.modify j fun x => { x with key, val := val }) clock), ?_, grown _, by simp [setBlock], .inr ⟨j, v, hj, _, clock, ChangeMaps.heap_setBlock_same h1 _, ?_, ?_, ?_⟩⟩
    · simp [Instr.mapUpdate, run_underlying ht, MapKept.run_getObj_map h1, K.check w false hl, hr, heA, hek, K.stays w hl, MapKept.run_setObj_map _ h1, Result.andThen, setBlock]
    · exact MapKept.stamped_modify h2 j _ (fun _ _ => rfl) (fun x _ hx => by rw [heA] at hx; cases hx; exact hek.symm)
    · apply List.ext_getElem?
      intro i
      rw [List.getElem?_map, Array.getElem?_toList, Array.getElem?_modify, ← h3, List.getElem?_set]
      by_cases hij : j = i
      · subst hij
        have hlt : j < es.size := (Array.getElem?_eq_some_iff.1 heA).1
        simp [hlt]
      · simp [hij]
    · intro x hx
      have hx' : x ∈ es.modify j (fun x => { x with key, val := val }) := Array.mem_toList_iff.1 hx
      obtain ⟨i, hi, rfl⟩ := Array.getElem_of_mem hx'
      rw [Array.getElem_modify]
      split
      · exact ⟨l, hl⟩
      · exact h4 _ (by simp)

/-- 'len(m)'. -/
theorem MapRaw.len {P : Program} {kt et t : TypeId} {w : World} {b : Nat} {L : List (Value × Value)} (ht : P.underlying t = some (.map kt et)) (h : MapRaw P kt w b L) (ty : TypeId) :
    (Builtin.len_ #[t] ty #[.map (some b)]).run P w = .ok (.int .i64 L.length) w := by
  obtain ⟨es, clock, h1, _, rfl, _⟩ := h
  simp [Builtin.len_, run_underlying ht, MapKept.run_getObj_map h1, Result.andThen, goInt]

/-- 'for k, v := range m' under way: block r is an iterator over the map b; what is still to come. -/
def Rng (P : Program) (kt : TypeId) (w : World) (b r : Nat) (L todo : List (Value × Value)) : Prop :=
  ∃ es clock seen, w.heap[b]? = some (.map es clock) ∧ Stamped es clock ∧ es.toList.map (fun e => (e.key, e.val)) = L ∧ (∀ e ∈ es.toList, ∃ l, keyOf P kt e.key = some l) ∧
    w.heap[r]? = some (.mapIter (some b) clock seen clock) ∧ (leftOf es seen).toList.map (fun e => (e.key, e.val)) = todo

theorem Rng.raw {P : Program} {kt : TypeId} {w : World} {b r : Nat} {L todo : List (Value × Value)} (h : Rng P kt w b r L todo) : MapRaw P kt w b L := by
  obtain ⟨es, clock, seen, h1, h2, h3, h4, _⟩ := h
  exact ⟨es, clock, h1, h2, h3, h4⟩
theorem Rng.kept {P : Program} {kt : TypeId} {w w' : World} {b r : Nat} {L todo : List (Value × Value)} (h : Rng P kt w b r L todo) (hb : w'.heap[b]? = w.heap[b]?) (hr : w'.heap[r]? = w.heap[r]?) : Rng P kt w' b r L todo := by
  obtain ⟨es, clock, seen, h1, h2, h3, h4, h5, h6⟩ := h
  exact ⟨es, clock, seen, hb.trans h1, h2, h3, h4, hr.trans h5, h6⟩
theorem Rng.lt {P : Program} {kt : TypeId} {w : World} {b r : Nat} {L todo : List (Value × Value)} (h : Rng P kt w b r L todo) : r < w.heap.size := by
  obtain ⟨es, clock, seen, _, _, _, _, h5, _⟩ := h
  exact (Array.getElem?_eq_some_iff.1 h5).1

/-- How many are still to come, read off the world: a loop's measure. -/
def rngLeft (w : World) (b r : Nat) : Nat :=
  match w.heap[b]?, w.heap[r]? with
  | some (.map es _), some (.mapIter _ _ seen _) => (leftOf es seen).size
  | _, _ => 0
theorem Rng.left {P : Program} {kt : TypeId} {w : World} {b r : Nat} {L todo : List (Value × Value)} (h : Rng P kt w b r L todo) : rngLeft w b r = todo.length := by
  obtain ⟨es, clock, seen, h1, _, _, _, h5, rfl⟩ := h
  simp [rngLeft, h1, h5]

/-- 'range m' begins. -/
theorem MapRaw.range {P : Program} {kt et t : TypeId} {w : World} {b : Nat} {L : List (Value × Value)} (ht : P.underlying t = some (.map kt et)) (h : MapRaw P kt w b L) :
    ∃ w', (Instr.range t (.map (some b))).run P w = .ok (.pointer (some ⟨w.heap.size, 0, none⟩)) w' ∧ Rng P kt w' b w.heap.size L L ∧ w.grownBy w' none ∧ w'.heap.size = w.heap.size + 1 := by
  obtain ⟨es, clock, h1, h2, h3, h4⟩ := h
  refine ⟨w.alloc (.mapIter (some b) clock #[] clock), ?_, ⟨es, clock, #[], (Below.heap_alloc _ _ _ (Array.getElem?_eq_some_iff.1 h1).1).trans h1, h2, h3, h4, (MapKept.heap_alloc w _).1, ?_⟩, World.grownBy_alloc _ _ _, by simp⟩
  · simp [Instr.range, run_underlying ht, MapKept.run_getObj_map h1, Result.andThen]
  · rw [← h3]; unfold leftOf; simp only [Array.toList_filter]; rw [List.filter_eq_self.2 (fun x _ => by simp)]

theorem put_same {w : World} {r : Nat} {o : Obj} (h : w.heap[r]? = some o) (o' : Obj) : (setBlock w r o').heap[r]? = some o' := by
  have := (Array.getElem?_eq_some_iff.1 h).1
  simp [setBlock, this]
theorem put_other {w : World} {r k : Nat} (o' : Obj) (hk : k ≠ r) : (setBlock w r o').heap[k]? = w.heap[k]? := by
  simp [setBlock, Array.getElem?_setIfInBounds_ne (Ne.symm hk)]

/-- A step of 'range m'. -/
theorem Rng.next {P : Program} {kt : TypeId} {w : World} {b r : Nat} {L todo : List (Value × Value)} (h : Rng P kt w b r L todo) (ty : TypeId) :
    (todo = [] ∧ (Instr.next (.pointer (some ⟨r, 0, none⟩)) false ty).run P w = .ok (.tuple #[.bool false]) w) ∨
    ∃ k v l1 l2 w', todo = l1 ++ (k, v) :: l2 ∧ (k, v) ∈ L ∧ (Instr.next (.pointer (some ⟨r, 0, none⟩)) false ty).run P w = .ok (.tuple #[.bool true, k, v]) w' ∧
      Rng P kt w' b r L (l1 ++ l2) ∧ w.grownBy w' (some r) ∧ w'.heap.size = w.heap.size ∧ (Instr.entry (.pointer (some ⟨r, 0, none⟩))).run P w' = .ok (.tuple #[k, v]) w' := by
  obtain ⟨es, clock, seen, h1, h2, h3, h4, h5, h6⟩ := h
  rcases run_next_at (P := P) w ty r b clock clock seen es clock h5 h1 h2.1 (Nat.le_refl _) with ⟨h0, hr⟩ | ⟨e, he, w1, hw1, hr⟩
  · refine .inl ⟨?_, hr⟩
    rw [← h6]
    have : leftOf es seen = #[] := Array.eq_empty_of_size_eq_zero h0
    simp [this]
  · right
    have hrb : r ≠ b := fun e => by rw [e, h1] at h5; cases h5
    have hh1 : w1.heap = w.heap := by rcases hw1 with rfl | rfl <;> rfl
    have hr1 : w1.heap[r]? = some (.mapIter (some b) clock seen clock) := by rw [hh1]; exact h5
    have hb' : (setBlock w1 r (.mapIter (some b) clock (seen.push e.born) clock)).heap[b]? = some (.map es clock) := by
      rw [put_other _ (Ne.symm hrb), hh1]; exact h1
    have hr' := put_same hr1 (.mapIter (some b) clock (seen.push e.born) clock)
    have hmem : e ∈ es.toList := by
      simp [leftOf] at he
      simpa using he.1
    obtain ⟨l1, l2, hl⟩ := List.append_of_mem he
    have hnd : ((leftOf es seen).toList.map (·.born)).Nodup := by
      have := h2.2.1
      refine List.Nodup.sublist ?_ this
      exact List.Sublist.map _ (by simp [leftOf])
    have hnew : (leftOf es (seen.push e.born)).toList = l1 ++ l2 := by
      have e1 : (leftOf es (seen.push e.born)).toList = (leftOf es seen).toList.filter (fun x => !(x.born == e.born)) := by
        simp only [leftOf, Array.toList_filter, List.filter_filter]
        apply List.filter_congr
        intro x _
        have e2 : (x.born == e.born) = decide (x.born = e.born) := rfl
        simp [Bool.and_comm, e2]
      rw [e1, hl]
      rw [hl] at hnd
      simp only [List.map_append, List.map_cons] at hnd
      have hn1 : ∀ x ∈ l1, x.born ≠ e.born := fun x hx => by
        have := (List.nodup_append.1 hnd).2.2
        exact this _ (List.mem_map.2 ⟨x, hx, rfl⟩) _ (by simp)
      have hn2 : ∀ x ∈ l2, x.born ≠ e.born := fun x hx => by
        have := ((List.nodup_cons.1 (List.nodup_append.1 hnd).2.1).1)
        exact fun hb => this (List.mem_map.2 ⟨x, hx, hb⟩)
      rw [List.filter_append, List.filter_cons]
      rw [List.filter_eq_self.2 (fun x hx => by simpa using hn1 x hx), List.filter_eq_self.2 (fun x hx => by simpa using hn2 x hx)]
      simp
    refine ⟨e.key, e.val, l1.map (fun e => (e.key, e.val)), l2.map (fun e => (e.key, e.val)), _, ?_, ?_, hr, ⟨es, clock, seen.push e.born, hb', h2, h3, h4, hr', ?_⟩, ?_, ?_, ?_⟩
    · rw [← h6, hl]; simp
    · rw [← h3]; exact List.mem_map.2 ⟨e, hmem, rfl⟩
    · rw [hnew]; simp
    · refine ⟨?_, ?_, ?_, ?_, fun i hi hne => ?_⟩
      · rcases hw1 with rfl | rfl <;> rfl
      · rcases hw1 with rfl | rfl <;> rfl
      · rcases hw1 with rfl | rfl <;> rfl
      · simp [setBlock, hh1]
      · rw [put_other _ (fun e => hne (by rw [e])), hh1]
    · simp [setBlock, hh1]
    · exact run_entry_at _ r b clock seen es clock e hr' hb' hmem h2.2.1

end Go.Proofs.Ytnfhlbmapfoifaa

namespace Go.Proofs.Ytnfhlbmapfoifaa
open Go.RowKit

/-! ### a region: a quiet head, a forced tail -/
section
variable {P : Program} {ops : Array Oper} {md : Region.Mode} {C : World → Prop}

def wpAnyLQ (P : Program) (md : Region.Mode) (ops : Array Oper) (C : World → Prop) (n : Nat) (L : Array Bool → Act → Prop) : Nat → Array Bool → Act → Prop
  | 0, listed, a => L listed a
  | f + 1, listed, a =>
    Region.ready md ops listed ≠ [] ∧ ∀ i ∈ Region.ready md ops listed, i < n ∧ qOp P ops C i (wpAnyLQ P md ops C n L f (listed.setIfInBounds i true)) a

theorem wpAny_of_headQ {n g : Nat} {L : Array Bool → Act → Prop} {Q' : Exit → Act → World → Prop} (hL : ∀ listed a w, C w → L listed a → wpAny P md ops Q' g listed a w) :
    ∀ (f : Nat) (listed : Array Bool) (a : Act) (w : World), C w → wpAnyLQ P md ops C n L f listed a → wpAny P md ops Q' (f + g) listed a w
  | 0, listed, a, w, hw, h => by rw [Nat.zero_add]; exact hL _ _ _ hw h
  | f + 1, listed, a, w, hw, h => by
    rw [show f + 1 + g = (f + g) + 1 by omega]
    exact ⟨fun h0 => absurd h0 h.1, fun i hi => wpOp_of_qOp hw (fun a' w' hw' h' => wpAny_of_headQ hL f _ a' w' hw' h') (h.2 i hi).2⟩

theorem wpAnyLQ_first {n i : Nat} {oi : Oper} {v : Value} {L : Array Bool → Act → Prop} (hi : ops[i]? = some oi) (hsel : ∀ (j : Nat) (o : Oper) cs b, ops[j]? = some o → o.op ≠ .select cs b)
    (hs : Region.sinkB md ops n = true) (hc : Region.chainB md ops n = true) (hn : n < ops.size) (hin : i < n)
    (hdone : ∀ listed a, L listed a → ∀ j ∈ Region.ready md ops listed, n ≤ j) :
    ∀ (f : Nat) (listed : Array Bool) (a : Act), HeadInv md ops n listed →
      (∀ j oj, ops[j]? = some oj → j ≠ i → listed.getD j true = false → (∀ e ∈ oj.after, Region.binds md e = true → e.on ≠ i) → oi.apart ops oj = true) →
      i ∈ Region.ready md ops listed → YieldsIn P ops C oi v a →
      wpAnyLQ P md ops C n L f (listed.setIfInBounds i true) (a.put oi.dst v) → wpAnyLQ P md ops C n L (f + 1) listed a := by
  intro f
  induction f with
  | zero =>
    intro listed a inv _ hr hy H
    have hun := (mem_ready.1 hr).1
    refine ⟨fun h => (by rw [h] at hr; cases hr), fun j hj => ?_⟩
    have hjn : j < n := by
      rcases Nat.lt_or_ge j n with h | h
      · exact h
      · exact absurd hj (tail_waits hs hc hn inv _ i rfl hin hun j h)
    refine ⟨hjn, ?_⟩
    by_cases hji : j = i
    · subst hji; exact hy.qOp hi H
    · have := hdone _ _ H j (ready_mono hj hji)
      omega
  | succ f ih =>
    intro listed a inv hfree hr hy H
    have hun := (mem_ready.1 hr).1
    refine ⟨fun h => (by rw [h] at hr; cases hr), fun j hj => ?_⟩
    have hjn : j < n := by
      rcases Nat.lt_or_ge j n with h | h
      · exact h
      · exact absurd hj (tail_waits hs hc hn inv _ i rfl hin hun j h)
    refine ⟨hjn, ?_⟩
    by_cases hji : j = i
    · subst hji; exact hy.qOp hi H
    · have h1 := (H.2 j (ready_mono hj hji)).2
      obtain ⟨hjun, oj, hoj, hall⟩ := mem_ready.1 hj
      have hnot : ∀ e ∈ oj.after, Region.binds md e = true → e.on ≠ i := fun e he hb heq => by
        have h1 := hall e he hb
        rw [heq, getD_both hun] at h1
        cases h1
      have h2 := qOp_put hoj (hfree j oj hoj hji hjun hnot) (fun cs b => hsel i oi cs b hi) (fun cs b => hsel j oj cs b hoj) hy h1
      have hfree' : ∀ k ok, ops[k]? = some ok → k ≠ i → (listed.setIfInBounds j true).getD k true = false →
          (∀ e ∈ ok.after, Region.binds md e = true → e.on ≠ i) → oi.apart ops ok = true := fun k ok hk hki hun hno => by
        refine hfree k ok hk hki ?_ hno
        by_cases hjk : j = k
        · subst hjk; exact hjun
        · rw [getD_set_ne true hjk] at hun; exact hun
      refine qOp_mono (fun a' h3 => ih (listed.setIfInBounds j true) a' (inv.set hj hjn) hfree' (ready_mono hr (Ne.symm hji)) h3.1 ?_) h2
      rw [Array.setIfInBounds_comm _ _ hji]
      exact h3.2

theorem wpAnyLQ_lex {n g : Nat} {Lq : Act → Prop} (hsel : Region.noSelect ops = true) (hs : Region.sinkB md ops n = true) (hc : Region.chainB md ops n = true) (hn : n < ops.size) :
    ∀ (l : List Oper) (k : Nat) (listed : Array Bool) (a : Act), (∀ j, j < l.length → l[j]? = ops[k + j]?) → k + l.length = n → HeadInv md ops n listed →
    Region.lexHead md ops g l.length k listed = true → wpQuiet P ops C Lq l a →
    wpAnyLQ P md ops C n (fun listed' a' => Region.seqB md ops g n listed' = true ∧ Lq a') l.length listed a
  | [], k, listed, a, _, hk, _, hB, h => by
    have : k = n := by simpa using hk
    subst this
    exact ⟨by simpa [Region.lexHead] using hB, h⟩
  | o :: l, k, listed, a, hl, hk, inv, hB, h => by
    have h0 : ops[k]? = some o := by simpa using (hl 0 (by simp)).symm
    simp only [List.length_cons, Region.lexHead, Bool.and_eq_true] at hB
    obtain ⟨⟨hr, hf⟩, hB'⟩ := hB
    have hkn : k < n := by simp only [List.length_cons] at hk; omega
    have hr' : k ∈ Region.ready md ops listed := by simpa using hr
    have hst : qOp P ops C k (wpQuiet P ops C Lq l) a := by unfold qOp; simp only [h0]; exact h
    obtain ⟨v, hy, hK⟩ := yieldsIn_of_qOp h0 hst
    exact wpAnyLQ_first h0 (Region.noSelect_spec hsel) hs hc hn hkn (fun listed' a' hL => seqB_ready hL.1) l.length listed a inv (Region.free_spec h0 hf) hr' hy
      (wpAnyLQ_lex hsel hs hc hn l (k + 1) _ _ (fun j hj => by have := hl (j + 1) (by simp; omega); simpa [Nat.add_assoc, Nat.add_comm 1 j] using this) (by simp only [List.length_cons] at hk; omega) (inv.set hr' hkn) hB' hK)

/-- A region that draws: its first n operations quiet in the class C, walked in the order of the text; the others, forced, from whatever world of the class. -/
theorem wp_region_quiet_tail {id : Nat} {Q : Exit → Act → World → Prop} {a : Act} {w : World} {l : List Oper} (C : World → Prop) (n : Nat) (hm : P.follows .mixedOrders = true) (hB : Region.lexTailB .any l.toArray n = true) (hC : C w.drew)
    (h : wpQuiet P l.toArray C (fun a' => ∀ w', C w' → wpList P l.toArray Q (l.drop n) a' w') (l.take n) a) : (Code.region id l.toArray true).wp P Q a w := by
  simp only [Region.lexTailB, Bool.and_eq_true, decide_eq_true_eq] at hB
  obtain ⟨⟨⟨⟨hsel, hn⟩, hs⟩, hc⟩, hlex⟩ := hB
  have hn' : n < l.length := by simpa using hn
  have htl : (l.take n).length = n := by simp; omega
  have hdl : (l.drop n).length = l.toArray.size - n := by simp
  have inv0 : HeadInv .any l.toArray n (Array.replicate l.toArray.size false) :=
    ⟨by simp, fun j oj _ hl => (by rw [getD_replicate_false] at hl; cases hl), fun t _ ht => getD_in (by simpa using ht) (getD_replicate_false _ _)⟩
  have H := wpAnyLQ_lex (C := C) (md := .any) (g := l.toArray.size - n) hsel hs hc hn (l.take n) 0 _ a (fun j hj => by
    have hj' : j < n := by rw [htl] at hj; exact hj
    simp [hj']) (by simpa using htl) inv0 (by rw [htl]; exact hlex) h
  refine wp_region_any hm ?_
  have := wpAny_of_headQ (Q' := Q) (g := l.toArray.size - n) (fun listed a' w' hw' hL => by
    have := wpAny_of_seq (md := .any) (Q' := Q) (l.drop n) n listed a' w' (fun j => by simp [List.getElem?_drop]) (by rw [hdl]; exact hL.1) (hL.2 w' hw')
    rwa [hdl] at this) _ _ _ w.drew hC H
  rw [htl, show n + (l.toArray.size - n) = l.toArray.size by omega] at this
  exact this

/-- The same where all are quiet. -/
theorem wp_region_quiet_all {id : Nat} {Q : Exit → Act → World → Prop} {a : Act} {w : World} {l : List Oper} (C : World → Prop) (hm : P.follows .mixedOrders = true) (hB : Region.lexB .any l.toArray = true) (hC : C w.drew)
    (h : wpQuiet P l.toArray C (fun a' => ∀ w', C w' → Q .normal a' w') l a) : (Code.region id l.toArray true).wp P Q a w :=
  wp_region_quiet (C := C) hm hB hC (by simpa using h)
end

/-- A world in which all that lay in w below B lies as it lay. -/
structure Aft (B : Nat) (w : World) where
  v : World
  h : Below B w v
instance (B : Nat) (w : World) : Nonempty (Aft B w) := ⟨⟨w, Below.refl B w⟩⟩
/-- A region that draws: whatever its operations lay anew, they leave alone what was there; each gives one value in all such worlds. -/
theorem wp_region_aft {P : Program} {id : Nat} {Q : Exit → Act → World → Prop} {a : Act} {w : World} {l : List Oper} (hm : P.follows .mixedOrders = true) (hB : Region.lexB .any l.toArray = true)
    (h : wpQuiet P l.toArray (fun w' => ∃ x : Aft w.heap.size w, w' = x.v) (fun a' => ∀ w', (∃ x : Aft w.heap.size w, w' = x.v) → Q .normal a' w') l a) : (Code.region id l.toArray true).wp P Q a w :=
  wp_region_quiet_all _ hm hB ⟨⟨w.drew, (Below.refl _ w).drew⟩, rfl⟩ h
theorem wp_region_aft_tail {P : Program} {id : Nat} {Q : Exit → Act → World → Prop} {a : Act} {w : World} {l : List Oper} (n : Nat) (hm : P.follows .mixedOrders = true) (hB : Region.lexTailB .any l.toArray n = true)
    (h : wpQuiet P l.toArray (fun w' => ∃ x : Aft w.heap.size w, w' = x.v) (fun a' => ∀ w', (∃ x : Aft w.heap.size w, w' = x.v) → wpList P l.toArray Q (l.drop n) a' w') (l.take n) a) : (Code.region id l.toArray true).wp P Q a w :=
  wp_region_quiet_tail _ n hm hB ⟨⟨w.drew, (Below.refl _ w).drew⟩, rfl⟩ h
/-- A contract, met in such a world. -/
theorem calls_aft {P : Program} {f : FuncId} {args : Array Value} {w : World} {v : Value} {x : Aft w.heap.size w}
    (h : Calls P f args x.v fun e w' => e = .returned v ∧ Below x.v.heap.size x.v w') : Calls P f args x.v fun e w'' => e = .returned v ∧ ∃ y : Aft w.heap.size w, w'' = y.v :=
  h.mono fun _ w' ⟨he, hb⟩ => ⟨he, ⟨w', x.h.trans (hb.mono x.h.size)⟩, rfl⟩
theorem calls_aft_same {P : Program} {f : FuncId} {args : Array Value} {w : World} {v : Value} {x : Aft w.heap.size w}
    (h : Calls P f args x.v fun e w' => e = .returned v ∧ x.v = w') : Calls P f args x.v fun e w'' => e = .returned v ∧ ∃ y : Aft w.heap.size w, w'' = y.v :=
  h.mono fun _ _ ⟨he, hb⟩ => ⟨he, x, hb.symm⟩

/-! ### the same inside a round, or where a round is begun -/
section
variable {P : Program} {ops : Array Oper} {md : Region.Mode} {C : World → Prop} {r : Option Nat}
/-- No bound on depth, every function let in. -/
abbrev wideAt (r : Option Nat) : Fence := { Fence.wide with round := r }
theorem wideAt_calls {n : Nat} {f : FuncId} {args : Array Value} {w : World} {R : Ending → World → Prop} (h : Calls P f args w R) : CallsIn (wideAt r) n P f args w R :=
  (callsIn_wide (n := n)).2 h
theorem Oper.wpIn_of_quiet {n : Nat} {o : Oper} {a : Act} {K : Act → Prop} {K' : Act → World → Prop} {Q' : Exit → Act → World → Prop} {w : World} (hw : C w) (h : ∀ a w', C w' → K a → K' a w') (hh : o.quiet P a C K) : o.wpIn (wideAt r) n P a w K' Q' := by
  obtain ⟨v, h1, h2⟩ := hh
  have h3 := h1 w hw
  unfold Oper.quietAt at h3
  refine ⟨fun _ _ => trivial, ?_⟩
  have hsem : (o.semAt (wideAt r).round a.eval).run P w = (execOp a.eval o).run P w := by
    cases r with
    | none => rfl
    | some l =>
      have hd : ∀ c, o.op ≠ .defer c := fun c hc => by
        have : (execOp a.eval o).run P w = ((resolve a.eval c o.type).run P w).andThen fun d w' => .ok (.defer d) w' := by
          simp [execOp, hc]
        rw [this] at h3
        cases hr : (resolve a.eval c o.type).run P w with
        | ok d w' => rw [hr] at h3; simp [Result.andThen, Oper.quietUpon] at h3
        | halt x w' => rw [hr] at h3; simp [Result.andThen, Oper.quietUpon] at h3
      rw [Oper.semAt_some]
      exact hd
  rw [hsem]
  generalize (execOp a.eval o).run P w = res at *
  cases res with
  | ok x w' =>
    cases x <;> simp only [Oper.quietUpon] at h3 <;> simp only [Oper.uponIn]
    case value u =>
      obtain ⟨e1, e2⟩ := h3
      rw [e1, e2]
      exact h _ _ hw h2
    case skip =>
      obtain ⟨e1, e2⟩ := h3
      rw [e1, ← e2]
      exact h _ _ hw h2
    case enter f args =>
      obtain ⟨e1, hc⟩ := h3
      rw [e1]
      exact ⟨fun hd => by simp [Fence.wide] at hd, wideAt_calls (hc.mono fun e w'' ⟨he, hw''⟩ => by subst he; exact h _ _ hw'' h2)⟩
  | halt x w' => simp only [Oper.quietUpon] at h3
theorem wpOpIn_of_qOp {n i : Nat} {a : Act} {K : Act → Prop} {K' : Act → World → Prop} {Q' : Exit → Act → World → Prop} {w : World} (hC : C w) (h : ∀ a w', C w' → K a → K' a w') (hh : qOp P ops C i K a) : wpOpIn (wideAt r) n P ops Q' i K' a w := by
  unfold qOp at hh
  unfold wpOpIn
  split
  · rename_i ho; simp only [ho] at hh; exact h _ _ hC hh
  · rename_i o ho
    simp only [ho] at hh
    split
    · rename_i hw; simp only [hw, if_true] at hh; exact Oper.wpIn_of_quiet hC h hh
    · rename_i hw; simp only [hw] at hh; exact ⟨fun _ _ => trivial, h _ _ hC hh⟩
theorem wpAnyIn_of_headQ {n m g : Nat} {L : Array Bool → Act → Prop} {Q' : Exit → Act → World → Prop} (hL : ∀ listed a w, C w → L listed a → wpAnyIn (wideAt r) m P md ops Q' g listed a w) :
    ∀ (f : Nat) (listed : Array Bool) (a : Act) (w : World), C w → wpAnyLQ P md ops C n L f listed a → wpAnyIn (wideAt r) m P md ops Q' (f + g) listed a w
  | 0, listed, a, w, hw, h => by rw [Nat.zero_add]; exact hL _ _ _ hw h
  | f + 1, listed, a, w, hw, h => by
    rw [show f + 1 + g = (f + g) + 1 by omega]
    exact ⟨fun h0 => absurd h0 h.1, fun i hi => wpOpIn_of_qOp hw (fun a' w' hw' h' => wpAnyIn_of_headQ hL f _ a' w' hw' h') (h.2 i hi).2⟩
theorem wpAnyIn_of_seq {m : Nat} {Q' : Exit → Act → World → Prop} : ∀ (l : List Oper) (k : Nat) (listed : Array Bool) (a : Act) (w : World), (∀ j, l[j]? = ops[k + j]?) →
    Region.seqB md ops l.length k listed = true → wpListIn (wideAt r) m P ops Q' l a w → wpAnyIn (wideAt r) m P md ops Q' l.length listed a w
  | [], _, _, _, _, _, hB, h => ⟨by simpa [Region.seqB] using hB, h⟩
  | o :: l, k, listed, a, w, hl, hB, h => by
    have h0 : ops[k]? = some o := by simpa using (hl 0).symm
    simp only [List.length_cons, Region.seqB, Bool.and_eq_true, decide_eq_true_eq] at hB
    refine ⟨fun h1 => (by rw [hB.1] at h1; cases h1), fun i hi => ?_⟩
    rw [hB.1] at hi
    have hik : i = k := by simpa using hi
    subst hik
    have hw : wpOpIn (wideAt r) m P ops Q' i (wpListIn (wideAt r) m P ops Q' l) a w := by unfold wpOpIn; simp only [h0]; exact h
    exact wpOpIn_mono (fun a' w' h' => wpAnyIn_of_seq l (i + 1) _ a' w' (fun j => by have := hl (j + 1); simpa [Nat.add_assoc, Nat.add_comm 1 j] using this) hB.2 h') hw
/-- A region that draws, quiet at its head, forced at its tail: in a round, or where its tail begins one. -/
theorem wpIn_region_quiet_tail {m : Nat} {id : Nat} {Q : Exit → Act → World → Prop} {a : Act} {w : World} {l : List Oper} (C : World → Prop) (n : Nat) (hm : P.follows .mixedOrders = true) (hB : Region.lexTailB .any l.toArray n = true) (hC : C w.drew)
    (h : wpQuiet P l.toArray C (fun a' => ∀ w', C w' → wpListIn (wideAt r) m P l.toArray Q (l.drop n) a' w') (l.take n) a) : (Code.region id l.toArray true).wpIn (wideAt r) m P Q a w := by
  simp only [Region.lexTailB, Bool.and_eq_true, decide_eq_true_eq] at hB
  obtain ⟨⟨⟨⟨hsel, hn⟩, hs⟩, hc⟩, hlex⟩ := hB
  have hn' : n < l.length := by simpa using hn
  have htl : (l.take n).length = n := by simp; omega
  have hdl : (l.drop n).length = l.toArray.size - n := by simp
  have inv0 : HeadInv .any l.toArray n (Array.replicate l.toArray.size false) :=
    ⟨by simp, fun j oj _ hl => (by rw [getD_replicate_false] at hl; cases hl), fun t _ ht => getD_in (by simpa using ht) (getD_replicate_false _ _)⟩
  have H := wpAnyLQ_lex (C := C) (md := .any) (g := l.toArray.size - n) hsel hs hc hn (l.take n) 0 _ a (fun j hj => by
    have hj' : j < n := by rw [htl] at hj; exact hj
    simp [hj']) (by simpa using htl) inv0 (by rw [htl]; exact hlex) h
  refine wpIn_region_any hm ?_
  have := wpAnyIn_of_headQ (r := r) (m := m) (Q' := Q) (g := l.toArray.size - n) (fun listed a' w' hw' hL => by
    have := wpAnyIn_of_seq (r := r) (m := m) (md := .any) (Q' := Q) (l.drop n) n listed a' w' (fun j => by simp [List.getElem?_drop]) (by rw [hdl]; exact hL.1) (hL.2 w' hw')
    rwa [hdl] at this) _ _ _ w.drew hC H
  rw [htl, show n + (l.toArray.size - n) = l.toArray.size by omega] at this
  exact this
theorem wpIn_region_aft_tail {m : Nat} {id : Nat} {Q : Exit → Act → World → Prop} {a : Act} {w : World} {l : List Oper} (n : Nat) (hm : P.follows .mixedOrders = true) (hB : Region.lexTailB .any l.toArray n = true)
    (h : wpQuiet P l.toArray (fun w' => ∃ x : Aft w.heap.size w, w' = x.v) (fun a' => ∀ w', (∃ x : Aft w.heap.size w, w' = x.v) → wpListIn (wideAt r) m P l.toArray Q (l.drop n) a' w') (l.take n) a) : (Code.region id l.toArray true).wpIn (wideAt r) m P Q a w :=
  wpIn_region_quiet_tail _ n hm hB ⟨⟨w.drew, (Below.refl _ w).drew⟩, rfl⟩ h
end

/-! ### what a step leaves alone -/
/-- All blocks of A but those of M lie in B as they lay. -/
structure Same (M : Nat → Prop) (A B : World) : Prop where
  os : B.os = A.os
  tape : B.tape = A.tape
  output : B.output = A.output
  size : A.heap.size ≤ B.heap.size
  block : ∀ k, k < A.heap.size → ¬ M k → B.heap[k]? = A.heap[k]?
theorem Same.refl (M : Nat → Prop) (A : World) : Same M A A := ⟨rfl, rfl, rfl, Nat.le_refl _, fun _ _ _ => rfl⟩
theorem Same.trans {M : Nat → Prop} {A B C : World} (h : Same M A B) (k : Same M B C) : Same M A C :=
  ⟨k.os.trans h.os, k.tape.trans h.tape, k.output.trans h.output, Nat.le_trans h.size k.size, fun i hi hm => (k.block i (Nat.lt_of_lt_of_le hi h.size) hm).trans (h.block i hi hm)⟩
theorem Same.mono {M M' : Nat → Prop} {A B : World} (h : Same M A B) (hm : ∀ k, k < A.heap.size → M k → M' k) : Same M' A B :=
  ⟨h.os, h.tape, h.output, h.size, fun i hi hn => h.block i hi (fun e => hn (hm i hi e))⟩
theorem Same.drew {M : Nat → Prop} {A B : World} (h : Same M A B) : Same M A B.drew := ⟨h.os, h.tape, h.output, h.size, h.block⟩
theorem Same.alloc {M : Nat → Prop} {A B : World} (h : Same M A B) (o : Obj) : Same M A (B.alloc o) :=
  h.trans ⟨rfl, rfl, rfl, by simp, fun k hk _ => Below.heap_alloc _ _ _ hk⟩
theorem Same.setCell {M : Nat → Prop} {A B : World} (h : Same M A B) {p : Addr} (hp : M p.block ∨ A.heap.size ≤ p.block) (v : Value) : Same M A (B.setCell p v) :=
  ⟨h.os, h.tape, h.output, by simpa using h.size, fun k hk hm => (Below.heap_setCell _ _ _ _ (by rcases hp with hp | hp; (exact fun e => hm (e ▸ hp)); omega)).trans (h.block k hk hm)⟩
theorem Same.grown {M : Nat → Prop} {A B C : World} {row : Option Nat} (h : Same M A B) (hg : B.grownBy C row) (hr : ∀ k, row = some k → M k ∨ A.heap.size ≤ k) : Same M A C :=
  ⟨hg.os.trans h.os, hg.tape.trans h.tape, hg.output.trans h.output, Nat.le_trans h.size hg.size, fun k hk hm => (hg.block k (Nat.lt_of_lt_of_le hk h.size) (fun e => by
    rcases hr k e.symm with h' | h'
    · exact hm h'
    · omega)).trans (h.block k hk hm)⟩
theorem Same.of_below {A B : World} (M : Nat → Prop) (h : Below A.heap.size A B) : Same M A B := ⟨h.os, h.tape, h.output, h.size, fun k hk _ => h.block k hk⟩
theorem Same.below {M : Nat → Prop} {A B : World} {n : Nat} (h : Same M A B) (hn : n ≤ A.heap.size) (hm : ∀ k, k < n → ¬ M k) : Below n A B := ⟨h.os, h.tape, h.output, h.size, fun k hk => h.block k (by omega) (hm k hk)⟩
theorem Same.cell {M : Nat → Prop} {A B : World} (h : Same M A B) {b o : Nat} {v : Value} (hc : A.cell? ⟨b, o, none⟩ = some v) (hm : ¬ M b) : B.cell? ⟨b, o, none⟩ = some v :=
  (World.cell?_of_block (w := A) (h.block b (lt_of_cell hc) hm)).trans hc
theorem Same.frozen {M : Nat → Prop} {A B : World} (h : Same M A B) {b o : Nat} (hb : b < A.heap.size) (hm : ¬ M b) : B.frozen? ⟨b, o, none⟩ = A.frozen? ⟨b, o, none⟩ :=
  World.frozen?_of_block (w := A) (h.block b hb hm)
theorem Same.putObj {M : Nat → Prop} {A B : World} (h : Same M A B) {l : Nat} (hl : M l ∨ A.heap.size ≤ l) (o : Obj) : Same M A (B.putObj l o) :=
  h.grown (grownBy_putObj' B l o) (fun k e => by cases e; exact hl)

/-! ### a range over a function -/
section
variable {P : Program}

/-- An iterator that hands over these elements, one after the other, as long as the rounds want more. O: the blocks that it writes itself; M: those that a round may write. -/
def IterOk (P : Program) (g : Nat) (lb : Array Value) (encs : List (Array Value)) (O M : Nat → Prop) (W : World) : Prop :=
  ∀ (l : Nat) (J Jx : Nat → World → Prop),
    (∀ i A B, J i A → Same O A B → J i B) → (∀ i A B, Jx i A → Same O A B → Jx i B) →
    (∀ i v, encs[i]? = some v → ∀ A, J i A → YieldAt Fence.wide 0 P l v A fun e B => (e = .returned (.bool true) ∧ J (i + 1) B ∧ Same M A B) ∨ (e = .returned (.bool false) ∧ Jx (i + 1) B ∧ Same M A B)) →
    J 0 W → CallsIn Fence.wide 0 P g (#[.func (.yield l) #[] #[]] ++ lb) W fun e W' => (∃ v, e = .returned v) ∧ (J encs.length W' ∨ ∃ i, i < encs.length ∧ Jx (i + 1) W')

/-- How a round's body may end. -/
def roundEnd (l : Nat) (M : Nat → Prop) (I : Nat → World → Prop) (Ix : Code → Nat → World → Prop) (i : Nat) (W : World) : Exit → Act → World → Prop
  | .normal, _, W' => Same M W W' ∧ W'.heap[l]? = W.heap[l]? ∧ I (i + 1) W'
  | .ret, _, W' => Same M W W' ∧ W'.heap[l]? = W.heap[l]? ∧ Ix .ret (i + 1) W'
  | .exit id, _, W' => Same M W W' ∧ W'.heap[l]? = W.heap[l]? ∧ Ix (.exit id) (i + 1) W'
  | .goto t, _, W' => Same M W W' ∧ W'.heap[l]? = W.heap[l]? ∧ Ix (.goto t) (i + 1) W'
  | .panic _, _, _ => False
  | .outgrown, _, _ => False

theorem wp_rangeFunc {g : Operand} {ps : Array Tmp} {assign body : Code} {Q : Exit → Act → World → Prop} {a : Act} {w : World}
    {gf : Nat} {lb : Array Value} (hg : a.eval g = .func (.func gf) #[] lb) (eg : ∀ args w, (callFunc gf args).run P w = .ok (.enter gf args) w)
    (encs : List (Array Value)) (O M : Nat → Prop) (hps : ∀ v ∈ encs, v.size = ps.size)
    (hOl : ¬ O (w.heap.size + 1)) (hOD : ¬ O w.heap.size) (hMD : ¬ M w.heap.size) (hMl : M (w.heap.size + 1))
    (hit : ∀ W, Below w.heap.size w W → W.heap.size = w.heap.size + 2 → IterOk P gf lb encs O M W)
    (I : Nat → World → Prop) (Ix : Code → Nat → World → Prop)
    (hI : ∀ i A B, I i A → Same (fun k => O k ∨ k = w.heap.size + 1) A B → I i B) (hIx : ∀ c i A B, Ix c i A → Same (fun k => O k ∨ k = w.heap.size + 1) A B → Ix c i B)
    (h0 : ∀ W, Below w.heap.size w W → W.heap.size = w.heap.size + 2 → I 0 W)
    (hround : ∀ i v, encs[i]? = some v → ∀ W, I i W → w.heap.size + 1 < W.heap.size →
      assign.wpIn (Fence.wide.inRound (w.heap.size + 1)) 0 P (Exit.then (fun a₁ W₁ => Same M W W₁ ∧ W₁.heap[w.heap.size + 1]? = W.heap[w.heap.size + 1]? ∧
          ∀ W₂, Same (fun k => k = w.heap.size + 1) W₁ W₂ → W₂.heap.size = W₁.heap.size → body.wpIn (Fence.wide.inRound (w.heap.size + 1)) 0 P (roundEnd (w.heap.size + 1) M I Ix i W₂) a₁ W₂) (fun _ _ _ => False))
        { tmps := (ps.zip v).foldl (fun t (p, v) => t.setIfInBounds p v) a.tmps, defers := [] } W)
    (hdone : ∀ W, I encs.length W → W.heap[w.heap.size]? = some (.deferred (some [])) → Q .normal { a with defers := { target := .collected w.heap.size, args := #[] } :: a.defers } W)
    (hstop : ∀ c i W, i < encs.length → Ix c (i + 1) W → W.heap[w.heap.size]? = some (.deferred (some [])) → c.wp P Q { a with defers := { target := .collected w.heap.size, args := #[] } :: a.defers } W) :
    (Code.rangeFunc g ps assign body).wp P Q a w := by
  rw [← wpIn_wide (n := 0)]
  refine wpIn_rangeFunc ?_
  intro fn hfn
  obtain ⟨rec, hrec⟩ : ∃ rec : LoopState → Option Code → Loop, rec = fun st pe => { state := st, pending := pe, fn, tmps := a.tmps, params := ps, assign, body, defers := w.heap.size } := ⟨_, rfl⟩
  obtain ⟨W1, hW1⟩ : ∃ W1, (w.alloc (.deferred (some []))).alloc (.loop (rec .ready none)) = W1 := ⟨_, rfl⟩
  have hL1 : W1.heap[w.heap.size + 1]? = some (.loop (rec .ready none)) := by
    rw [← hW1]; have := World.alloc_heap_new (w.alloc (.deferred (some []))) (.loop (rec .ready none)); rwa [World.size_alloc] at this
  have hK1 : W1.heap[w.heap.size]? = some (.deferred (some [])) := by
    rw [← hW1]; exact (Below.heap_alloc _ _ _ (by simp)).trans (World.alloc_heap_new w _)
  have hs1 : W1.heap.size = w.heap.size + 2 := by rw [← hW1]; simp
  have hb1 : Below w.heap.size w W1 := by rw [← hW1]; exact ((Below.refl _ w).alloc (Nat.le_refl _) _).alloc (by simp) _
  refine ⟨w.heap.size + 1, [{ target := .collected w.heap.size, args := #[] }], W1, { target := .fn (.func gf) lb, args := #[.func (.yield (w.heap.size + 1)) #[] #[]] }, W1, gf,
    #[.func (.yield (w.heap.size + 1)) #[] #[]] ++ lb, W1, ?_, ?_, ?_, ?_, fun h => by simp [Fence.wide] at h, ?_⟩
  · rw [← hW1, hrec]; exact run_enterLoop_outer _ _ _ _ _
  · simp only [resolve, hg]
    simp [go_sem]
  · intro f' hf'; trivial
  · simp [invoke, go_sem, eg]
  · have hput : ∀ (W : World) (o : Obj), w.heap.size + 1 < W.heap.size → Same (fun k => k = w.heap.size + 1) W (W.putObj (w.heap.size + 1) o) := fun W o _ => Same.putObj (M := fun k => k = w.heap.size + 1) (Same.refl _ W) (.inl rfl) o
    have lift : ∀ {A B : World}, Same (fun k => k = w.heap.size + 1) A B → Same (fun k => O k ∨ k = w.heap.size + 1) A B := fun h => h.mono (fun _ _ e => .inr e)
    have liftM : ∀ {A B : World}, Same (fun k => k = w.heap.size + 1) A B → Same M A B := fun h => h.mono (fun _ _ e => e ▸ hMl)
    refine (hit W1 hb1 hs1 (w.heap.size + 1)
      (fun i W => I i W ∧ W.heap[w.heap.size + 1]? = some (.loop (rec .ready none)) ∧ W.heap[w.heap.size]? = some (.deferred (some [])))
      (fun i W => ∃ c, Ix c i W ∧ W.heap[w.heap.size + 1]? = some (.loop (rec .done (some c))) ∧ W.heap[w.heap.size]? = some (.deferred (some [])))
      (fun i A B hs hg' => ⟨hI i A B hs.1 (hg'.mono (fun _ _ e => .inl e)), (hg'.block _ (Array.getElem?_eq_some_iff.1 hs.2.1).1 hOl).trans hs.2.1, (hg'.block _ (Array.getElem?_eq_some_iff.1 hs.2.2).1 hOD).trans hs.2.2⟩)
      (fun i A B hs hg' => by
        obtain ⟨c, hc, hl, hk⟩ := hs
        exact ⟨c, hIx c i A B hc (hg'.mono (fun _ _ e => .inl e)), (hg'.block _ (Array.getElem?_eq_some_iff.1 hl).1 hOl).trans hl, (hg'.block _ (Array.getElem?_eq_some_iff.1 hk).1 hOD).trans hk⟩)
      ?_ ⟨h0 W1 hb1 hs1, hL1, hK1⟩).mono ?_
    · rintro i v hv W ⟨hi, hl, hk⟩
      have hlt : w.heap.size + 1 < W.heap.size := (Array.getElem?_eq_some_iff.1 hl).1
      have hy := run_yield (P := P) (args := v) hl (by rw [hrec]; exact hps v (List.mem_of_getElem? hv))
      rw [hrec] at hy
      refine ⟨fn, _, assign, body, hy, roundIn_of_wpIn hfn (wpIn_mono (hround i v hv W hi hlt) ?_)⟩
      rintro e a₁ Wa hp
      cases e with
      | normal =>
        obtain ⟨hsa, hla, hbody⟩ := hp
        rw [hl] at hla
        have hka : Wa.heap[w.heap.size]? = some (.deferred (some [])) := (hsa.block _ (by omega) hMD).trans hk
        have hlta : w.heap.size + 1 < Wa.heap.size := (Array.getElem?_eq_some_iff.1 hla).1
        refine ⟨_, run_beginRound hla (by rw [hrec]), ?_⟩
        have hl2 : (Wa.putObj (w.heap.size + 1) (.loop { rec .ready none with state := .busy })).heap[w.heap.size + 1]? = some (.loop { rec .ready none with state := .busy }) := World.putObj_heap_same hlta
        have hk2 : (Wa.putObj (w.heap.size + 1) (.loop { rec .ready none with state := .busy })).heap[w.heap.size]? = some (.deferred (some [])) := (World.putObj_heap_other (by omega)).trans hka
        have hs2 := hput Wa (.loop { rec .ready none with state := .busy }) hlta
        refine wpIn_mono (hbody _ hs2 (by simp)) ?_
        have fin : ∀ (jump : Option Code) (W3 : World), Same M (Wa.putObj (w.heap.size + 1) (.loop { rec .ready none with state := .busy })) W3 → W3.heap[w.heap.size + 1]? = (Wa.putObj (w.heap.size + 1) (.loop { rec .ready none with state := .busy })).heap[w.heap.size + 1]? →
            (Instr.endRound (w.heap.size + 1) jump).run P W3 = .ok (.bool jump.isNone) (W3.putObj (w.heap.size + 1) (.loop (rec (if jump.isNone then .ready else .done) jump))) ∧
            (W3.putObj (w.heap.size + 1) (.loop (rec (if jump.isNone then .ready else .done) jump))).heap[w.heap.size + 1]? = some (.loop (rec (if jump.isNone then .ready else .done) jump)) ∧
            (W3.putObj (w.heap.size + 1) (.loop (rec (if jump.isNone then .ready else .done) jump))).heap[w.heap.size]? = some (.deferred (some [])) ∧
            Same (fun k => k = w.heap.size + 1) W3 (W3.putObj (w.heap.size + 1) (.loop (rec (if jump.isNone then .ready else .done) jump))) ∧
            Same M W (W3.putObj (w.heap.size + 1) (.loop (rec (if jump.isNone then .ready else .done) jump))) := fun jump W3 hk3 hl3 => by
          rw [hl2] at hl3
          have hlt3 := (Array.getElem?_eq_some_iff.1 hl3).1
          have hkk := (hk3.block _ (Array.getElem?_eq_some_iff.1 hk2).1 hMD).trans hk2
          have := run_endRound (P := P) jump hl3
          rw [hrec] at this ⊢
          exact ⟨this, World.putObj_heap_same hlt3, (World.putObj_heap_other (by omega)).trans hkk, hput _ _ hlt3, ((hsa.trans (liftM hs2)).trans hk3).trans (liftM (hput _ _ hlt3))⟩
        rintro e a3 W3 hp
        cases e with
        | normal =>
          obtain ⟨hk3, hl3, hi3⟩ := hp
          obtain ⟨hr, hl4, hk4, hs4, hs5⟩ := fin none W3 hk3 hl3
          exact ⟨_, _, hr, .inl ⟨rfl, ⟨hI _ _ _ hi3 (lift hs4), hl4, hk4⟩, hs5⟩⟩
        | ret =>
          obtain ⟨hk3, hl3, hi3⟩ := hp
          obtain ⟨hr, hl4, hk4, hs4, hs5⟩ := fin (some .ret) W3 hk3 hl3
          exact ⟨_, _, hr, .inr ⟨rfl, ⟨.ret, hIx _ _ _ _ hi3 (lift hs4), hl4, hk4⟩, hs5⟩⟩
        | exit id =>
          obtain ⟨hk3, hl3, hi3⟩ := hp
          obtain ⟨hr, hl4, hk4, hs4, hs5⟩ := fin (some (.exit id)) W3 hk3 hl3
          exact ⟨_, _, hr, .inr ⟨rfl, ⟨.exit id, hIx _ _ _ _ hi3 (lift hs4), hl4, hk4⟩, hs5⟩⟩
        | goto t =>
          obtain ⟨hk3, hl3, hi3⟩ := hp
          obtain ⟨hr, hl4, hk4, hs4, hs5⟩ := fin (some (.goto t)) W3 hk3 hl3
          exact ⟨_, _, hr, .inr ⟨rfl, ⟨.goto t, hIx _ _ _ _ hi3 (lift hs4), hl4, hk4⟩, hs5⟩⟩
        | panic ch => exact hp.elim
        | outgrown => exact hp.elim
      | exit id => exact hp.elim
      | goto t => exact hp.elim
      | ret => exact hp.elim
      | panic chain => exact hp.elim
      | outgrown => exact hp.elim
    · rintro e W2 ⟨⟨v, rfl⟩, (⟨hi, hl, hk⟩ | ⟨i, hin, c, hi, hl, hk⟩)⟩
      · have hlt := (Array.getElem?_eq_some_iff.1 hl).1
        exact ⟨none, _, by have := run_endLoop (P := P) hl (by rw [hrec]; simp); rw [hrec] at this; exact this, hdone _ (hI _ _ _ hi (lift (hput _ _ hlt))) ((World.putObj_heap_other (by omega)).trans hk)⟩
      · have hlt := (Array.getElem?_eq_some_iff.1 hl).1
        exact ⟨some c, _, by have := run_endLoop (P := P) hl (by rw [hrec]; simp); rw [hrec] at this; exact this, wpIn_wide.2 (hstop c i _ hin (hIx c _ _ _ hi (lift (hput _ _ hlt))) ((World.putObj_heap_other (by omega)).trans hk))⟩

/-! ### marks -/
/-- The marks that ranges over functions have left: each block is open still. -/
def MarksAt (n : Nat) (ds : List Deferred) (w : World) : Prop :=
  ∃ ks : List Nat, ds = ks.map (fun k => { target := .collected k, args := #[] }) ∧ ks.Nodup ∧ ∀ k ∈ ks, n ≤ k ∧ w.heap[k]? = some (.deferred (some []))
theorem MarksAt.nil (n : Nat) (w : World) : MarksAt n [] w := ⟨[], rfl, by simp, by simp⟩
theorem MarksAt.cons {n : Nat} {ds : List Deferred} {w w' : World} {D : Nat} (h : MarksAt n ds w) (hD : w.heap.size ≤ D) (hn : n ≤ D) (hk : w'.heap[D]? = some (.deferred (some [])))
    (hs : ∀ k, k < w.heap.size → w.heap[k]? = some (.deferred (some [])) → w'.heap[k]? = some (.deferred (some []))) : MarksAt n ({ target := .collected D, args := #[] } :: ds) w' := by
  obtain ⟨ks, rfl, hnd, hall⟩ := h
  refine ⟨D :: ks, rfl, List.nodup_cons.2 ⟨fun hm => ?_, hnd⟩, fun k hk' => ?_⟩
  · have := (Array.getElem?_eq_some_iff.1 (hall D hm).2).1
    omega
  · rcases List.mem_cons.1 hk' with rfl | hk'
    · exact ⟨hn, hk⟩
    · have := hall k hk'
      exact ⟨this.1, hs k (Array.getElem?_eq_some_iff.1 this.2).1 this.2⟩
theorem MarksAt.mono {n : Nat} {ds : List Deferred} {w w' : World} (h : MarksAt n ds w) (hs : ∀ k, k < w.heap.size → w.heap[k]? = some (.deferred (some [])) → w'.heap[k]? = some (.deferred (some []))) : MarksAt n ds w' := by
  obtain ⟨ks, rfl, hnd, hall⟩ := h
  exact ⟨ks, rfl, hnd, fun k hk => ⟨(hall k hk).1, hs k (Array.getElem?_eq_some_iff.1 (hall k hk).2).1 (hall k hk).2⟩⟩

theorem leaves_marks {fn : Func} {tmps : Array Value} {R : Ending → World → Prop} {v : Value} {n : Nat} : ∀ (ks : List Nat) (w : World), ks.Nodup → (∀ k ∈ ks, n ≤ k ∧ w.heap[k]? = some (.deferred (some []))) →
    (∀ W', Same (fun k => n ≤ k ∧ w.heap[k]? = some (.deferred (some []))) w W' → W'.heap.size = w.heap.size → (results fn tmps).run P W' = .ok v W' ∧ R (.returned v) W') →
    LeavesInM Fence.wide 0 P fn tmps R (ks.map (fun k => { target := .collected k, args := #[] })) .returning w
  | [], w, _, _, h => by
    have := h w (Same.refl _ _) rfl
    exact ⟨v, this.1, this.2⟩
  | k :: ks, w, hnd, hall, h => by
    have hk := hall k (by simp)
    refine ⟨by simp, .inl ⟨k, _, rfl, run_takeDeferred hk.2, ?_⟩⟩
    have hnd' := List.nodup_cons.1 hnd
    refine leaves_marks (n := n) ks _ hnd'.2 (fun j hj => ⟨(hall j (by simp [hj])).1, (World.putObj_heap_other (fun e : j = k => hnd'.1 (by rw [← e]; exact hj))).trans (hall j (by simp [hj])).2⟩) (fun W' hs hsz => h W' ?_ (by simpa using hsz))
    have h1 : Same (fun k => n ≤ k ∧ w.heap[k]? = some (.deferred (some []))) w (w.putObj k (.deferred none)) := (Same.refl _ w).putObj (.inl hk) _
    refine h1.trans (hs.mono (fun j _ hj => ⟨hj.1, ?_⟩))
    by_cases e : j = k
    · subst e; exact hk.2
    · exact (World.putObj_heap_other e).symm.trans hj.2

/-- A function's contract from its body, where ranges over functions have left marks. -/
theorem calls_of_wp_marks {f : FuncId} {fn : Func} {c : Code} {args : Array Value} {w : World} {R : Ending → World → Prop}
    (hf : P.funcs[f]? = some fn) (hb : fn.body = some c)
    (h : c.wp P (bodyPostM Fence.wide 0 P fn R) { tmps := args ++ Array.replicate (fn.ntmps - args.size) undef, defers := [] } w) : Calls P f args w R :=
  callsIn_wide.1 (callsIn_of_wp_marks hf hb trivial (wpIn_wide.2 h))
end
end Go.Proofs.Ytnfhlbmapfoifaa

namespace Go.Proofs.Ytnfhlbmapfoifaa
open Go.RowKit
section
variable {P : Program}

/-- What a round may write: of the blocks that are the consumer's those that are new, and those of M. -/
def mayC (M : Nat → Prop) (B : Nat) (C : Nat → Prop) (k : Nat) : Prop := C k ∧ (k < B → M k)
/-- An iterator that hands over N elements, one after the other, as long as the rounds want more. C: the consumer's blocks, which it leaves alone; K: the blocks of an element, which the consumer may keep. -/
def IterC (P : Program) (g : Nat) (lb : Array Value) (N : Nat) (Ok : Nat → Array Value → World → (Nat → Prop) → Prop) (M : Nat → Prop) (W : World) : Prop :=
  ∀ (l : Nat) (J Jx : Nat → World → (Nat → Prop) → Prop),
    (∀ i A B C, J i A C → Same (fun k => ¬ C k) A B → J i B C) → (∀ i A B C, Jx i A C → Same (fun k => ¬ C k) A B → Jx i B C) →
    (∀ i v A C K, i < N → Ok i v A K → (∀ k, K k → ¬ C k) → J i A C → YieldAt Fence.wide 0 P l v A fun e B => Same (mayC M W.heap.size C) A B ∧
      ∃ C' : Nat → Prop, (∀ k, k < W.heap.size → C' k) ∧ (∀ k, C' k → k < B.heap.size) ∧ (∀ k, C' k → C k ∨ K k ∨ A.heap.size ≤ k) ∧ ((e = .returned (.bool true) ∧ J (i + 1) B C') ∨ (e = .returned (.bool false) ∧ Jx (i + 1) B C'))) →
    J 0 W (fun k => k < W.heap.size) →
    CallsIn Fence.wide 0 P g (#[.func (.yield l) #[] #[]] ++ lb) W fun e W' => (∃ v, e = .returned v) ∧ ∃ C', J N W' C' ∨ ∃ i, i < N ∧ Jx (i + 1) W' C'

/-- How a round's body may end. -/
def roundEndC (l B : Nat) (M C K : Nat → Prop) (I : Nat → World → (Nat → Prop) → Prop) (Ix : Code → Nat → World → (Nat → Prop) → Prop) (i : Nat) (W : World) : Exit → Act → World → Prop
  | .normal, _, W' => Same (mayC M B C) W W' ∧ W'.heap[l]? = W.heap[l]? ∧ ∃ C' : Nat → Prop, (∀ k, k < B → C' k) ∧ (∀ k, C' k → k < W'.heap.size) ∧ (∀ k, C' k → C k ∨ K k ∨ W.heap.size ≤ k) ∧ I (i + 1) W' C'
  | .ret, _, W' => Same (mayC M B C) W W' ∧ W'.heap[l]? = W.heap[l]? ∧ ∃ C' : Nat → Prop, (∀ k, k < B → C' k) ∧ (∀ k, C' k → k < W'.heap.size) ∧ (∀ k, C' k → C k ∨ K k ∨ W.heap.size ≤ k) ∧ Ix .ret (i + 1) W' C'
  | .exit id, _, W' => Same (mayC M B C) W W' ∧ W'.heap[l]? = W.heap[l]? ∧ ∃ C' : Nat → Prop, (∀ k, k < B → C' k) ∧ (∀ k, C' k → k < W'.heap.size) ∧ (∀ k, C' k → C k ∨ K k ∨ W.heap.size ≤ k) ∧ Ix (.exit id) (i + 1) W' C'
  | .goto _, _, _ => False
  | .panic _, _, _ => False
  | .outgrown, _, _ => False

theorem wp_rangeFuncC {g : Operand} {ps : Array Tmp} {assign body : Code} {Q : Exit → Act → World → Prop} {a : Act} {w : World}
    {gf : Nat} {lb : Array Value} (hg : a.eval g = .func (.func gf) #[] lb) (eg : ∀ args w, (callFunc gf args).run P w = .ok (.enter gf args) w)
    (N : Nat) (Ok : Nat → Array Value → World → (Nat → Prop) → Prop) (M : Nat → Prop) (hps : ∀ i v A K, Ok i v A K → v.size = ps.size)
    (hMD : ¬ M w.heap.size) (hMl : M (w.heap.size + 1))
    (hit : ∀ W, Below w.heap.size w W → W.heap.size = w.heap.size + 2 → IterC P gf lb N Ok M W)
    (I : Nat → World → (Nat → Prop) → Prop) (Ix : Code → Nat → World → (Nat → Prop) → Prop)
    (hI : ∀ i A B C, I i A C → Same (fun k => ¬ C k ∨ k = w.heap.size + 1) A B → I i B C) (hIx : ∀ c i A B C, Ix c i A C → Same (fun k => ¬ C k ∨ k = w.heap.size + 1) A B → Ix c i B C)
    (h0 : ∀ W, Below w.heap.size w W → W.heap.size = w.heap.size + 2 → I 0 W (fun k => k < w.heap.size + 2))
    (hround : ∀ i v W C K, i < N → Ok i v W K → (∀ k, K k → ¬ C k) → (∀ k, k < w.heap.size + 2 → C k) → I i W C → w.heap.size + 1 < W.heap.size →
      assign.wpIn (Fence.wide.inRound (w.heap.size + 1)) 0 P (Exit.then (fun a₁ W₁ => W = W₁ ∧
          ∀ W₂, Same (fun k => k = w.heap.size + 1) W W₂ → W₂.heap.size = W.heap.size → body.wpIn (Fence.wide.inRound (w.heap.size + 1)) 0 P (roundEndC (w.heap.size + 1) (w.heap.size + 2) M C K I Ix i W₂) a₁ W₂) (fun _ _ _ => False))
        { tmps := (ps.zip v).foldl (fun t (p, v) => t.setIfInBounds p v) a.tmps, defers := [] } W)
    (hdone : ∀ W C, I N W C → W.heap[w.heap.size]? = some (.deferred (some [])) → Q .normal { a with defers := { target := .collected w.heap.size, args := #[] } :: a.defers } W)
    (hstop : ∀ c i W C, i < N → Ix c (i + 1) W C → W.heap[w.heap.size]? = some (.deferred (some [])) → c.wp P Q { a with defers := { target := .collected w.heap.size, args := #[] } :: a.defers } W) :
    (Code.rangeFunc g ps assign body).wp P Q a w := by
  rw [← wpIn_wide (n := 0)]
  refine wpIn_rangeFunc ?_
  intro fn hfn
  obtain ⟨rec, hrec⟩ : ∃ rec : LoopState → Option Code → Loop, rec = fun st pe => { state := st, pending := pe, fn, tmps := a.tmps, params := ps, assign, body, defers := w.heap.size } := ⟨_, rfl⟩
  obtain ⟨W1, hW1⟩ : ∃ W1, (w.alloc (.deferred (some []))).alloc (.loop (rec .ready none)) = W1 := ⟨_, rfl⟩
  have hL1 : W1.heap[w.heap.size + 1]? = some (.loop (rec .ready none)) := by
    rw [← hW1]; have := World.alloc_heap_new (w.alloc (.deferred (some []))) (.loop (rec .ready none)); rwa [World.size_alloc] at this
  have hK1 : W1.heap[w.heap.size]? = some (.deferred (some [])) := by
    rw [← hW1]; exact (Below.heap_alloc _ _ _ (by simp)).trans (World.alloc_heap_new w _)
  have hs1 : W1.heap.size = w.heap.size + 2 := by rw [← hW1]; simp
  have hb1 : Below w.heap.size w W1 := by rw [← hW1]; exact ((Below.refl _ w).alloc (Nat.le_refl _) _).alloc (by simp) _
  refine ⟨w.heap.size + 1, [{ target := .collected w.heap.size, args := #[] }], W1, { target := .fn (.func gf) lb, args := #[.func (.yield (w.heap.size + 1)) #[] #[]] }, W1, gf,
    #[.func (.yield (w.heap.size + 1)) #[] #[]] ++ lb, W1, ?_, ?_, ?_, ?_, fun h => by simp [Fence.wide] at h, ?_⟩
  · rw [← hW1, hrec]; exact run_enterLoop_outer _ _ _ _ _
  · simp only [resolve, hg]
    simp [go_sem]
  · intro f' hf'; trivial
  · simp [invoke, go_sem, eg]
  · have hput : ∀ (W : World) (o : Obj), Same (fun k => k = w.heap.size + 1) W (W.putObj (w.heap.size + 1) o) := fun W o => Same.putObj (M := fun k => k = w.heap.size + 1) (Same.refl _ W) (.inl rfl) o
    have hl2' : w.heap.size + 1 < w.heap.size + 2 := by omega
    have hD2' : w.heap.size < w.heap.size + 2 := by omega
    have liftM : ∀ {A B : World} {C : Nat → Prop}, (∀ k, k < w.heap.size + 2 → C k) → Same (fun k => k = w.heap.size + 1) A B → Same (mayC M W1.heap.size C) A B := fun hC h => h.mono (fun _ _ e => by
      subst e; exact ⟨hC _ hl2', fun _ => hMl⟩)
    have liftI : ∀ {A B : World} {C : Nat → Prop}, Same (fun k => k = w.heap.size + 1) A B → Same (fun k => ¬ C k ∨ k = w.heap.size + 1) A B := fun h => h.mono (fun _ _ e => .inr e)
    have hnD : ∀ C, ¬ mayC M W1.heap.size C w.heap.size := fun C h => hMD (h.2 (by omega))
    refine (hit W1 hb1 hs1 (w.heap.size + 1)
      (fun i W C => I i W C ∧ (∀ k, k < w.heap.size + 2 → C k) ∧ W.heap[w.heap.size + 1]? = some (.loop (rec .ready none)) ∧ W.heap[w.heap.size]? = some (.deferred (some [])))
      (fun i W C => ∃ c, Ix c i W C ∧ (∀ k, k < w.heap.size + 2 → C k) ∧ W.heap[w.heap.size + 1]? = some (.loop (rec .done (some c))) ∧ W.heap[w.heap.size]? = some (.deferred (some [])))
      (fun i A B C hs hg' => ⟨hI i A B C hs.1 (hg'.mono (fun _ _ e => .inl e)), hs.2.1, (hg'.block _ (Array.getElem?_eq_some_iff.1 hs.2.2.1).1 (fun h => h (hs.2.1 _ hl2'))).trans hs.2.2.1, (hg'.block _ (Array.getElem?_eq_some_iff.1 hs.2.2.2).1 (fun h => h (hs.2.1 _ hD2'))).trans hs.2.2.2⟩)
      (fun i A B C hs hg' => by
        obtain ⟨c, hc, hC, hl, hk⟩ := hs
        exact ⟨c, hIx c i A B C hc (hg'.mono (fun _ _ e => .inl e)), hC, (hg'.block _ (Array.getElem?_eq_some_iff.1 hl).1 (fun h => h (hC _ hl2'))).trans hl, (hg'.block _ (Array.getElem?_eq_some_iff.1 hk).1 (fun h => h (hC _ hD2'))).trans hk⟩)
      ?_ ⟨by rw [hs1]; exact h0 W1 hb1 hs1, fun k hk => by omega, hL1, hK1⟩).mono ?_
    · rintro i v W C K hiN hok hKC ⟨hi, hC, hl, hk⟩
      have hlt : w.heap.size + 1 < W.heap.size := (Array.getElem?_eq_some_iff.1 hl).1
      have hy := run_yield (P := P) (args := v) hl (by rw [hrec]; exact hps i v W K hok)
      rw [hrec] at hy
      refine ⟨fn, _, assign, body, hy, roundIn_of_wpIn hfn (wpIn_mono (hround i v W C K hiN hok hKC hC hi hlt) ?_)⟩
      rintro e a₁ Wa hp
      cases e with
      | normal =>
        obtain ⟨rfl, hbody⟩ := hp
        refine ⟨_, run_beginRound hl (by rw [hrec]), ?_⟩
        have hl2 : (W.putObj (w.heap.size + 1) (.loop { rec .ready none with state := .busy })).heap[w.heap.size + 1]? = some (.loop { rec .ready none with state := .busy }) := World.putObj_heap_same hlt
        have hk2 : (W.putObj (w.heap.size + 1) (.loop { rec .ready none with state := .busy })).heap[w.heap.size]? = some (.deferred (some [])) := (World.putObj_heap_other (by omega)).trans hk
        have hs2 := hput W (.loop { rec .ready none with state := .busy })
        refine wpIn_mono (hbody _ hs2 (by simp)) ?_
        have fin : ∀ (jump : Option Code) (W3 : World), Same (mayC M (w.heap.size + 2) C) (W.putObj (w.heap.size + 1) (.loop { rec .ready none with state := .busy })) W3 → W3.heap[w.heap.size + 1]? = (W.putObj (w.heap.size + 1) (.loop { rec .ready none with state := .busy })).heap[w.heap.size + 1]? →
            (Instr.endRound (w.heap.size + 1) jump).run P W3 = .ok (.bool jump.isNone) (W3.putObj (w.heap.size + 1) (.loop (rec (if jump.isNone then .ready else .done) jump))) ∧
            (W3.putObj (w.heap.size + 1) (.loop (rec (if jump.isNone then .ready else .done) jump))).heap[w.heap.size + 1]? = some (.loop (rec (if jump.isNone then .ready else .done) jump)) ∧
            (W3.putObj (w.heap.size + 1) (.loop (rec (if jump.isNone then .ready else .done) jump))).heap[w.heap.size]? = some (.deferred (some [])) ∧
            Same (fun k => k = w.heap.size + 1) W3 (W3.putObj (w.heap.size + 1) (.loop (rec (if jump.isNone then .ready else .done) jump))) ∧
            Same (mayC M W1.heap.size C) W (W3.putObj (w.heap.size + 1) (.loop (rec (if jump.isNone then .ready else .done) jump))) := fun jump W3 hk3 hl3 => by
          rw [hl2] at hl3
          rw [← hs1] at hk3
          have hlt3 := (Array.getElem?_eq_some_iff.1 hl3).1
          have hkk := (hk3.block _ (Array.getElem?_eq_some_iff.1 hk2).1 (hnD C)).trans hk2
          have := run_endRound (P := P) jump hl3
          rw [hrec] at this ⊢
          exact ⟨this, World.putObj_heap_same hlt3, (World.putObj_heap_other (by omega)).trans hkk, hput _ _, ((liftM hC hs2).trans hk3).trans (liftM hC (hput _ _))⟩
        have hsz : (W.putObj (w.heap.size + 1) (.loop { rec .ready none with state := .busy })).heap.size = W.heap.size := by simp
        rintro e a3 W3 hp
        cases e with
        | normal =>
          obtain ⟨hk3, hl3, C', hC', hCB, hCK, hi3⟩ := hp
          obtain ⟨hr, hl4, hk4, hs4, hs5⟩ := fin none W3 hk3 hl3
          rw [hsz] at hCK
          exact ⟨_, _, hr, hs5, C', by rw [hs1]; exact hC', fun k hk => by simpa using hCB k hk, hCK, .inl ⟨rfl, hI _ _ _ _ hi3 (liftI hs4), hC', hl4, hk4⟩⟩
        | ret =>
          obtain ⟨hk3, hl3, C', hC', hCB, hCK, hi3⟩ := hp
          obtain ⟨hr, hl4, hk4, hs4, hs5⟩ := fin (some .ret) W3 hk3 hl3
          rw [hsz] at hCK
          exact ⟨_, _, hr, hs5, C', by rw [hs1]; exact hC', fun k hk => by simpa using hCB k hk, hCK, .inr ⟨rfl, .ret, hIx _ _ _ _ _ hi3 (liftI hs4), hC', hl4, hk4⟩⟩
        | exit id =>
          obtain ⟨hk3, hl3, C', hC', hCB, hCK, hi3⟩ := hp
          obtain ⟨hr, hl4, hk4, hs4, hs5⟩ := fin (some (.exit id)) W3 hk3 hl3
          rw [hsz] at hCK
          exact ⟨_, _, hr, hs5, C', by rw [hs1]; exact hC', fun k hk => by simpa using hCB k hk, hCK, .inr ⟨rfl, .exit id, hIx _ _ _ _ _ hi3 (liftI hs4), hC', hl4, hk4⟩⟩
        | goto t => exact hp.elim
        | panic ch => exact hp.elim
        | outgrown => exact hp.elim
      | exit id => exact hp.elim
      | goto t => exact hp.elim
      | ret => exact hp.elim
      | panic chain => exact hp.elim
      | outgrown => exact hp.elim
    · rintro e W2 ⟨⟨v, rfl⟩, C', (⟨hi, hC, hl, hk⟩ | ⟨i, hin, c, hi, hC, hl, hk⟩)⟩
      · have hlt := (Array.getElem?_eq_some_iff.1 hl).1
        exact ⟨none, _, by have := run_endLoop (P := P) hl (by rw [hrec]; simp); rw [hrec] at this; exact this, hdone _ C' (hI _ _ _ _ hi (liftI (hput _ _))) ((World.putObj_heap_other (by omega)).trans hk)⟩
      · have hlt := (Array.getElem?_eq_some_iff.1 hl).1
        exact ⟨some c, _, by have := run_endLoop (P := P) hl (by rw [hrec]; simp); rw [hrec] at this; exact this, wpIn_wide.2 (hstop c i _ C' hin (hIx c _ _ _ _ hi (liftI (hput _ _))) ((World.putObj_heap_other (by omega)).trans hk))⟩
end
end Go.Proofs.Ytnfhlbmapfoifaa

namespace Go.Proofs.Ytnfhlbmapfoifaa
open Go.RowKit
section
variable {P : Program}

abbrev markOf (k : Nat) : Deferred := { target := .collected k, args := #[] }
/-- Marks first, each shut; then what 'Leaves' says. -/
def LeavesX (P : Program) (fn : Func) (tmps : Array Value) (R : Ending → World → Prop) (ds : List Deferred) (u : FrameMode) : List Nat → World → Prop
  | [], w => Leaves P fn tmps R ds u w
  | k :: ks, w => u ≠ .run ∧ ∃ w', (Instr.takeDeferred k).run P w = .ok [] w' ∧ LeavesX P fn tmps R ds u ks w'
theorem leavesX_steps {fn : Func} {tmps : Array Value} {R : Ending → World → Prop} {ds : List Deferred} {u : FrameMode} : ∀ (ks : List Nat) (w : World) (fr : Frame) (cs : List Frame),
    fr.mode = u → fr.defers = ks.map markOf ++ ds → fr.tmps = tmps → P.funcs[fr.fn]? = some fn → fr.kind = .normal → LeavesX P fn tmps R ds u ks w →
    ∃ e w' fr', R e w' ∧ Comes P (lone fr cs w) (lone fr' cs w') e ∧ fr'.fn = fr.fn ∧ fr'.leaving P w' e
  | [], w, fr, cs, hu, hd, ht, hf, hk, h => leaves_steps ds u w fr cs hu (by simpa using hd) ht hf hk h
  | k :: ks, w, fr, cs, hu, hd, ht, hf, hk, h => by
    obtain ⟨hrun, w', htake, hrest⟩ := h
    have h1 := step_collected (cs := cs) (fr := fr) (hu ▸ hrun) (d := markOf k) (ds := ks.map markOf ++ ds) (by simpa using hd) rfl htake
    obtain ⟨e', w'', fr', hR', hs', hfn', hl'⟩ := leavesX_steps ks w' { fr with defers := [] ++ (ks.map markOf ++ ds) } cs hu rfl ht hf hk hrest
    exact ⟨e', w'', fr', hR', Comes.of_steps (.one h1) hs', hfn', hl'⟩
/-- How such a body ends. -/
def bodyPostX (P : Program) (fn : Func) (R : Ending → World → Prop) : Exit → Act → World → Prop
  | .normal, a, w | .ret, a, w => ∃ ks ds, a.defers = ks.map markOf ++ ds ∧ LeavesX P fn a.tmps R ds .returning ks w
  | .panic chain, a, w => ∃ ks ds, a.defers = ks.map markOf ++ ds ∧ LeavesX P fn a.tmps R ds (.panicking chain) ks w
  | .outgrown, _, w => R .outgrown w
  | _, _, _ => False
theorem calls_of_wp_x {f : FuncId} {fn : Func} {c : Code} {args : Array Value} {w : World} {R : Ending → World → Prop} (hf : P.funcs[f]? = some fn) (hb : fn.body = some c)
    (h : c.wp P (bodyPostX P fn R) { tmps := args ++ Array.replicate (fn.ntmps - args.size) undef, defers := [] } w) : Calls P f args w R := by
  intro cs
  let b : Frame := { (default : Frame) with fn := f, kind := .normal }
  have henter : Frame.enter P f args .normal = b.at { tmps := args ++ Array.replicate (fn.ntmps - args.size) undef, defers := [] } [.code c] := by
    simp [Frame.enter, Frame.at, hf, hb, b]
  obtain ⟨e, a', w', hq, harr⟩ := h b [] cs
  rw [← henter] at harr
  cases e with
  | normal =>
    obtain ⟨ks, ds, hd, hl⟩ := hq
    obtain ⟨e', w'', fr', hR, hs, hfn, hl⟩ := leavesX_steps ks w' { b.at a' [] with mode := .returning } cs rfl hd rfl hf rfl hl
    exact ⟨e', w'', fr', hR, Comes.of_steps (Steps.trans harr (.one step_end)) hs, hfn, hl⟩
  | ret =>
    obtain ⟨ks, ds, hd, hl⟩ := hq
    obtain ⟨todo, hs₀⟩ := harr
    obtain ⟨e', w'', fr', hR, hs, hfn, hl⟩ := leavesX_steps ks w' { b.at a' todo with mode := .returning } cs rfl hd rfl hf rfl hl
    exact ⟨e', w'', fr', hR, Comes.of_steps hs₀ hs, hfn, hl⟩
  | panic chain =>
    obtain ⟨ks, ds, hd, hl⟩ := hq
    obtain ⟨todo, hs₀⟩ := harr
    obtain ⟨e', w'', fr', hR, hs, hfn, hl⟩ := leavesX_steps ks w' { b.at a' todo with mode := .panicking chain } cs rfl hd rfl hf rfl hl
    exact ⟨e', w'', fr', hR, Comes.of_steps hs₀ hs, hfn, hl⟩
  | exit id => exact hq.elim
  | goto l => exact hq.elim
  | outgrown =>
    exact ⟨.outgrown, w', b, hq, harr.resolve_left (by simp [b]), rfl, trivial⟩
end
end Go.Proofs.Ytnfhlbmapfoifaa

