/- Maps as lists of pairs, slices as lists: words on memory and their laws, over whatever program. -/
import Derived.Test.YtlhobddaojdnoaaPure
import Derived.WalkKit
import Derived.WalkSpells
import Derived.WalkLawsBesides
import Derived.Lib.Hide
import Derived.Maps.Keyed
import Derived.Maps.RangeRun
import Derived.DeepKeys5
namespace Go.Proofs.Ytlhobddaojdnoaa
open Go.RowKit
open Go.MapKept (Stamped)
open Go.ChangeMaps (setBlock)

theorem below_cellOf {B : Nat} {w w' : World} (h : Below B w w') {b o : Nat} {v : Value} (hb : b < B) (hc : w.cell? ⟨b, o, none⟩ = some v) : w'.cell? ⟨b, o, none⟩ = some v :=
  (h.cell (p := ⟨b, o, none⟩) hb).trans hc
theorem lt_of_cell {w : World} {b o : Nat} {v : Value} (h : w.cell? ⟨b, o, none⟩ = some v) : b < w.heap.size := World.block_lt_of_cell? _ _ h
/-- What lay in the world when the call began lies there still. -/
theorem cell_stays {w w' : World} (h : Below w.heap.size w w') {b o : Nat} {v : Value} (hc : w.cell? ⟨b, o, none⟩ = some v) : w'.cell? ⟨b, o, none⟩ = some v :=
  below_cellOf h (lt_of_cell hc) hc

/-- A slice's array holds these integers, from the slice's start on. -/
def IsInts (w : World) (a : Option Addr) (l : List Int) : Prop :=
  ∀ i, i < l.length → ∃ b off, a = some ⟨b, off, none⟩ ∧ w.cell? ⟨b, off + i, none⟩ = some (.int .i64 (gi l i))

theorem IsInts.mono {w w' : World} {a : Option Addr} {l : List Int} (h : IsInts w a l) (hb : Below w.heap.size w w') : IsInts w' a l := fun i hi => by
  obtain ⟨b, off, ha, hc⟩ := h i hi
  exact ⟨b, off, ha, cell_stays hb hc⟩

theorem IsInts.at {w : World} {a : Option Addr} {l : List Int} (h : IsInts w a l) {k : Nat} (hk : k < l.length) :
    ∃ b off, a = some ⟨b, off, none⟩ ∧ ∀ i, i < l.length → w.cell? ⟨b, off + i, none⟩ = some (.int .i64 (gi l i)) := by
  obtain ⟨b, off, ha, _⟩ := h k hk
  refine ⟨b, off, ha, fun i hi => ?_⟩
  obtain ⟨b', off', ha', hc⟩ := h i hi
  rw [ha] at ha'
  cases ha'
  exact hc

/-! ### maps -/
/-- Block b is a map whose entries, in their order in memory, are these. -/
def MapRaw (P : Program) (kt : TypeId) (w : World) (b : Nat) (L : List (Value × Value)) : Prop :=
  ∃ es clock, w.heap[b]? = some (.map es clock) ∧ Stamped es clock ∧ es.toList.map (fun e => (e.key, e.val)) = L ∧ ∀ e ∈ es.toList, ∃ l, keyOf P kt e.key = some l

theorem MapRaw.kept {P : Program} {kt : TypeId} {w w' : World} {b : Nat} {L : List (Value × Value)} (h : MapRaw P kt w b L) (hb : w'.heap[b]? = w.heap[b]?) : MapRaw P kt w' b L := by
  obtain ⟨es, clock, h1, h2⟩ := h
  exact ⟨es, clock, hb.trans h1, h2⟩
theorem MapRaw.lt {P : Program} {kt : TypeId} {w : World} {b : Nat} {L : List (Value × Value)} (h : MapRaw P kt w b L) : b < w.heap.size := by
  obtain ⟨es, clock, h1, _⟩ := h
  exact (Array.getElem?_eq_some_iff.1 h1).1
theorem MapRaw.made (P : Program) (kt : TypeId) (w : World) : MapRaw P kt (w.alloc (.map #[] 0)) w.heap.size [] :=
  ⟨#[], 0, (MapKept.heap_alloc w _).1, MapKept.stamped_empty 0, rfl, by simp⟩
theorem MapRaw.nodup {P : Program} {kt : TypeId} {w : World} {b : Nat} {L : List (Value × Value)} (h : MapRaw P kt w b L) : (L.map (·.1)).Nodup := by
  obtain ⟨es, clock, _, h2, rfl, _⟩ := h
  rw [List.map_map]
  exact h2.2.2

theorem MapRaw.find {P : Program} {kt : TypeId} {w : World} {b : Nat} {L : List (Value × Value)} (K : Maps.Keyed P kt) (h : MapRaw P kt w b L) {key : Value} (hkey : ∃ l, keyOf P kt key = some l) :
    ∃ es clock, w.heap[b]? = some (.map es clock) ∧ Stamped es clock ∧ es.toList.map (fun e => (e.key, e.val)) = L ∧ (∀ e ∈ es.toList, ∃ l, keyOf P kt e.key = some l) ∧
      (((Instr.findKey kt key es.toList).run P w = .ok none w ∧ ∀ p ∈ L, p.1 ≠ key) ∨
       ∃ j v, (Instr.findKey kt key es.toList).run P w = .ok (some (j, v)) w ∧ L[j]? = some (key, v)) := by
  obtain ⟨es, clock, h1, h2, h3, h4⟩ := h
  obtain ⟨l, hl⟩ := hkey
  refine ⟨es, clock, h1, h2, h3, h4, ?_⟩
  rcases K.find w hl es.toList h4 with ⟨hr, hn⟩ | ⟨j, e, hr, hj, he⟩
  · refine .inl ⟨hr, fun p hp => ?_⟩
    rw [← h3] at hp
    obtain ⟨e, he, rfl⟩ := List.mem_map.1 hp
    exact hn e he
  · refine .inr ⟨j, e.val, hr, ?_⟩
    rw [← h3, List.getElem?_map, hj]
    simp [he]

/-- 'v, ok := m[k]'. -/
theorem MapRaw.look {P : Program} {kt t et : TypeId} {w : World} {b : Nat} {L : List (Value × Value)} (K : Maps.Keyed P kt) (ht : P.underlying t = some (.map kt et)) (h : MapRaw P kt w b L)
    {key z : Value} (hkey : ∃ l, keyOf P kt key = some l) (hz : (zeroValue et).run P w = .ok z w) (commaOk : Bool) :
    ∃ v ok, (Instr.lookup t (.map (some b)) key commaOk).run P w = .ok (if commaOk then .tuple #[v, .bool ok] else v) w ∧
      ((ok = false ∧ v = z ∧ ∀ p ∈ L, p.1 ≠ key) ∨ (ok = true ∧ (key, v) ∈ L)) := by
  obtain ⟨es, clock, h1, h2, h3, h4, hf⟩ := h.find K hkey
  obtain ⟨l, hl⟩ := hkey
  rcases hf with ⟨hr, hn⟩ | ⟨j, v, hr, hj⟩
  · refine ⟨z, false, ?_, .inl ⟨rfl, rfl, hn⟩⟩
    simp [Instr.lookup, run_underlying ht, MapKept.run_getObj_map h1, K.check w _ hl, hr, hz, Result.andThen]
  · refine ⟨v, true, ?_, .inr ⟨rfl, List.mem_of_getElem? hj⟩⟩
    simp [Instr.lookup, run_underlying ht, MapKept.run_getObj_map h1, K.check w _ hl, hr, Result.andThen]

/-- 'm[k] = v'. -/
theorem MapRaw.update {P : Program} {kt t et : TypeId} {w : World} {b : Nat} {L : List (Value × Value)} (K : Maps.Keyed P kt) (ht : P.underlying t = some (.map kt et)) (h : MapRaw P kt w b L)
    {key : Value} (hkey : ∃ l, keyOf P kt key = some l) (val : Value) :
    ∃ w', (Instr.mapUpdate t (.map (some b)) key val).run P w = .ok () w' ∧ w.grownBy w' (some b) ∧ w'.heap.size = w.heap.size ∧
      (((∀ p ∈ L, p.1 ≠ key) ∧ MapRaw P kt w' b (L ++ [(key, val)])) ∨ ∃ j v, L[j]? = some (key, v) ∧ MapRaw P kt w' b (L.set j (key, val))) := by
  obtain ⟨es, clock, h1, h2, h3, h4, hf⟩ := h.find K hkey
  obtain ⟨l, hl⟩ := hkey
  have grown : ∀ o : Obj, w.grownBy (setBlock w b o) (some b) := fun o => ⟨rfl, rfl, rfl, by simp [setBlock], fun i _ hi => ChangeMaps.heap_setBlock_other h1 _ (fun e => hi (by rw [e]))⟩
  rcases hf with ⟨hr, hn⟩ | ⟨j, v, hr, hj⟩
  · refine ⟨setBlock w b (.map (es.push ⟨key, val, clock⟩) (clock + 1)), ?_, grown _, by simp [setBlock], .inl ⟨hn, es.push ⟨key, val, clock⟩, clock + 1, ChangeMaps.heap_setBlock_same h1 _, ?_, ?_, ?_⟩⟩
    · simp [Instr.mapUpdate, run_underlying ht, MapKept.run_getObj_map h1, K.check w false hl, hr, MapKept.run_setObj_map _ h1, Result.andThen, setBlock]
    · exact MapKept.stamped_push h2 (fun x hx => hn (x.key, x.val) (by rw [← h3]; exact List.mem_map.2 ⟨x, hx, rfl⟩))
    · simp [h3]
    · intro e he
      simp only [Array.toList_push, List.mem_append, List.mem_singleton] at he
      rcases he with he | rfl
      · exact h4 e he
      · exact ⟨l, hl⟩
  · have hj' : ∃ e, es.toList[j]? = some e ∧ e.key = key ∧ e.val = v := by
      rw [← h3, List.getElem?_map] at hj
      cases he : es.toList[j]? with
      | none => rw [he] at hj; simp at hj
      | some e =>
        rw [he] at hj
        simp at hj
        exact ⟨e, rfl, hj.1, hj.2⟩
    obtain ⟨e, he, hek, hev⟩ := hj'
    have heA : es[j]? = some e := by simpa using he
    refine ⟨setBlock w b (.map (es.modify j fun x => { x with key, val := val }) clock), ?_, grown _, by simp [setBlock], .inr ⟨j, v, hj, _, clock, ChangeMaps.heap_setBlock_same h1 _, ?_, ?_, ?_⟩⟩
    · simp [Instr.mapUpdate, run_underlying ht, MapKept.run_getObj_map h1, K.check w false hl, hr, heA, hek, K.stays w hl, MapKept.run_setObj_map _ h1, Result.andThen, setBlock]
    · exact MapKept.stamped_modify h2 j _ (fun _ _ => rfl) (fun x _ hx => by rw [heA] at hx; cases hx; exact hek.symm)
    · apply List.ext_getElem?
      intro i
      rw [List.getElem?_map, Array.getElem?_toList, Array.getElem?_modify, ← h3, List.getElem?_set]
      by_cases hij : j = i
      · subst hij
        have hlt : j < es.size := (Array.getElem?_eq_some_iff.1 heA).1
        simp [hlt]
      · simp [hij]
    · intro x hx
      have hx' : x ∈ es.modify j (fun x => { x with key, val := val }) := Array.mem_toList_iff.1 hx
      obtain ⟨i, hi, rfl⟩ := Array.getElem_of_mem hx'
      rw [Array.getElem_modify]
      split
      · exact ⟨l, hl⟩
      · exact h4 _ (by simp)

/-- 'len(m)'. -/
theorem MapRaw.len {P : Program} {kt et t : TypeId} {w : World} {b : Nat} {L : List (Value × Value)} (ht : P.underlying t = some (.map kt et)) (h : MapRaw P kt w b L) (ty : TypeId) :
    (Builtin.len_ #[t] ty #[.map (some b)]).run P w = .ok (.int .i64 L.length) w := by
  obtain ⟨es, clock, h1, _, rfl, _⟩ := h
  simp [Builtin.len_, run_underlying ht, MapKept.run_getObj_map h1, Result.andThen, goInt]

/-- 'for k, v := range m' under way: block r is an iterator over the map b; what is still to come. -/
def Rng (P : Program) (kt : TypeId) (w : World) (b r : Nat) (L todo : List (Value × Value)) : Prop :=
  ∃ es clock seen, w.heap[b]? = some (.map es clock) ∧ Stamped es clock ∧ es.toList.map (fun e => (e.key, e.val)) = L ∧ (∀ e ∈ es.toList, ∃ l, keyOf P kt e.key = some l) ∧
    w.heap[r]? = some (.mapIter (some b) clock seen clock) ∧ (leftOf es seen).toList.map (fun e => (e.key, e.val)) = todo

theorem Rng.raw {P : Program} {kt : TypeId} {w : World} {b r : Nat} {L todo : List (Value × Value)} (h : Rng P kt w b r L todo) : MapRaw P kt w b L := by
  obtain ⟨es, clock, seen, h1, h2, h3, h4, _⟩ := h
  exact ⟨es, clock, h1, h2, h3, h4⟩
theorem Rng.kept {P : Program} {kt : TypeId} {w w' : World} {b r : Nat} {L todo : List (Value × Value)} (h : Rng P kt w b r L todo) (hb : w'.heap[b]? = w.heap[b]?) (hr : w'.heap[r]? = w.heap[r]?) : Rng P kt w' b r L todo := by
  obtain ⟨es, clock, seen, h1, h2, h3, h4, h5, h6⟩ := h
  exact ⟨es, clock, seen, hb.trans h1, h2, h3, h4, hr.trans h5, h6⟩
theorem Rng.lt {P : Program} {kt : TypeId} {w : World} {b r : Nat} {L todo : List (Value × Value)} (h : Rng P kt w b r L todo) : r < w.heap.size := by
  obtain ⟨es, clock, seen, _, _, _, _, h5, _⟩ := h
  exact (Array.getElem?_eq_some_iff.1 h5).1

/-- How many are still to come, read off the world: a loop's measure. -/
def rngLeft (w : World) (b r : Nat) : Nat :=
  match w.heap[b]?, w.heap[r]? with
  | some (.map es _), some (.mapIter _ _ seen _) => (leftOf es seen).size
  | _, _ => 0
theorem Rng.left {P : Program} {kt : TypeId} {w : World} {b r : Nat} {L todo : List (Value × Value)} (h : Rng P kt w b r L todo) : rngLeft w b r = todo.length := by
  obtain ⟨es, clock, seen, h1, _, _, _, h5, rfl⟩ := h
  simp [rngLeft, h1, h5]

/-- 'range m' begins. -/
theorem MapRaw.range {P : Program} {kt et t : TypeId} {w : World} {b : Nat} {L : List (Value × Value)} (ht : P.underlying t = some (.map kt et)) (h : MapRaw P kt w b L) :
    ∃ w', (Instr.range t (.map (some b))).run P w = .ok (.pointer (some ⟨w.heap.size, 0, none⟩)) w' ∧ Rng P kt w' b w.heap.size L L ∧ w.grownBy w' none ∧ w'.heap.size = w.heap.size + 1 := by
  obtain ⟨es, clock, h1, h2, h3, h4⟩ := h
  refine ⟨w.alloc (.mapIter (some b) clock #[] clock), ?_, ⟨es, clock, #[], (Below.heap_alloc _ _ _ (Array.getElem?_eq_some_iff.1 h1).1).trans h1, h2, h3, h4, (MapKept.heap_alloc w _).1, ?_⟩, World.grownBy_alloc _ _ _, by simp⟩
  · simp [Instr.range, run_underlying ht, MapKept.run_getObj_map h1, Result.andThen]
  · rw [← h3]; unfold leftOf; simp only [Array.toList_filter]; rw [List.filter_eq_self.2 (fun x _ => by simp)]

theorem put_same {w : World} {r : Nat} {o : Obj} (h : w.heap[r]? = some o) (o' : Obj) : (setBlock w r o').heap[r]? = some o' := by
  have := (Array.getElem?_eq_some_iff.1 h).1
  simp [setBlock, this]
theorem put_other {w : World} {r k : Nat} (o' : Obj) (hk : k ≠ r) : (setBlock w r o').heap[k]? = w.heap[k]? := by
  simp [setBlock, Array.getElem?_setIfInBounds_ne (Ne.symm hk)]

/-- A step of 'range m'. -/
theorem Rng.next {P : Program} {kt : TypeId} {w : World} {b r : Nat} {L todo : List (Value × Value)} (h : Rng P kt w b r L todo) (ty : TypeId) :
    (todo = [] ∧ (Instr.next (.pointer (some ⟨r, 0, none⟩)) false ty).run P w = .ok (.tuple #[.bool false]) w) ∨
    ∃ k v l1 l2 w', todo = l1 ++ (k, v) :: l2 ∧ (k, v) ∈ L ∧ (Instr.next (.pointer (some ⟨r, 0, none⟩)) false ty).run P w = .ok (.tuple #[.bool true, k, v]) w' ∧
      Rng P kt w' b r L (l1 ++ l2) ∧ w.grownBy w' (some r) ∧ w'.heap.size = w.heap.size ∧ (Instr.entry (.pointer (some ⟨r, 0, none⟩))).run P w' = .ok (.tuple #[k, v]) w' := by
  obtain ⟨es, clock, seen, h1, h2, h3, h4, h5, h6⟩ := h
  rcases run_next_at (P := P) w ty r b clock clock seen es clock h5 h1 h2.1 (Nat.le_refl _) with ⟨h0, hr⟩ | ⟨e, he, w1, hw1, hr⟩
  · refine .inl ⟨?_, hr⟩
    rw [← h6]
    have : leftOf es seen = #[] := Array.eq_empty_of_size_eq_zero h0
    simp [this]
  · right
    have hrb : r ≠ b := fun e => by rw [e, h1] at h5; cases h5
    have hh1 : w1.heap = w.heap := by rcases hw1 with rfl | rfl <;> rfl
    have hr1 : w1.heap[r]? = some (.mapIter (some b) clock seen clock) := by rw [hh1]; exact h5
    have hb' : (setBlock w1 r (.mapIter (some b) clock (seen.push e.born) clock)).heap[b]? = some (.map es clock) := by
      rw [put_other _ (Ne.symm hrb), hh1]; exact h1
    have hr' := put_same hr1 (.mapIter (some b) clock (seen.push e.born) clock)
    have hmem : e ∈ es.toList := by
      simp [leftOf] at he
      simpa using he.1
    obtain ⟨l1, l2, hl⟩ := List.append_of_mem he
    have hnd : ((leftOf es seen).toList.map (·.born)).Nodup := by
      have := h2.2.1
      refine List.Nodup.sublist ?_ this
      exact List.Sublist.map _ (by simp [leftOf])
    have hnew : (leftOf es (seen.push e.born)).toList = l1 ++ l2 := by
      have e1 : (leftOf es (seen.push e.born)).toList = (leftOf es seen).toList.filter (fun x => !(x.born == e.born)) := by
        simp only [leftOf, Array.toList_filter, List.filter_filter]
        apply List.filter_congr
        intro x _
        have e2 : (x.born == e.born) = decide (x.born = e.born) := rfl
        simp [Bool.and_comm, e2]
      rw [e1, hl]
      rw [hl] at hnd
      simp only [List.map_append, List.map_cons] at hnd
      have hn1 : ∀ x ∈ l1, x.born ≠ e.born := fun x hx => by
        have := (List.nodup_append.1 hnd).2.2
        exact this _ (List.mem_map.2 ⟨x, hx, rfl⟩) _ (by simp)
      have hn2 : ∀ x ∈ l2, x.born ≠ e.born := fun x hx => by
        have := ((List.nodup_cons.1 (List.nodup_append.1 hnd).2.1).1)
        exact fun hb => this (List.mem_map.2 ⟨x, hx, hb⟩)
      rw [List.filter_append, List.filter_cons]
      rw [List.filter_eq_self.2 (fun x hx => by simpa using hn1 x hx), List.filter_eq_self.2 (fun x hx => by simpa using hn2 x hx)]
      simp
    refine ⟨e.key, e.val, l1.map (fun e => (e.key, e.val)), l2.map (fun e => (e.key, e.val)), _, ?_, ?_, hr, ⟨es, clock, seen.push e.born, hb', h2, h3, h4, hr', ?_⟩, ?_, ?_, ?_⟩
    · rw [← h6, hl]; simp
    · rw [← h3]; exact List.mem_map.2 ⟨e, hmem, rfl⟩
    · rw [hnew]; simp
    · refine ⟨?_, ?_, ?_, ?_, fun i hi hne => ?_⟩
      · rcases hw1 with rfl | rfl <;> rfl
      · rcases hw1 with rfl | rfl <;> rfl
      · rcases hw1 with rfl | rfl <;> rfl
      · simp [setBlock, hh1]
      · rw [put_other _ (fun e => hne (by rw [e])), hh1]
    · simp [setBlock, hh1]
    · exact run_entry_at _ r b clock seen es clock e hr' hb' hmem h2.2.1

end Go.Proofs.Ytlhobddaojdnoaa
