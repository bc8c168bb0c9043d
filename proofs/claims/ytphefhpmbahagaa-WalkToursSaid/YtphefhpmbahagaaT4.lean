/- Views, orders; a tour that is opened. -/
import Derived.Test.YtphefhpmbahagaaT3
namespace Go.Proofs.Ytphefhpmbahagaa
open Go.RowKit
set_option linter.unusedVariables false
set_option linter.unusedSimpArgs false

abbrev Tr.obj (t : Tr) (A : TrA) : Array Value := #[.int .i64 t.dawn, .slice A.af t.frm.length A.cf, .slice A.aw t.ways.length A.cw, .slice A.as_ t.stay.length A.cs, .slice A.al t.light.length A.cl, .int .i64 t.frm.length]
/-- A tour that is looked at. -/
structure TourP (w : World) (tb : Nat) (t : Tr) (A : TrA) : Prop where
  obj : w.heap[tb]? = some (.cells (t.obj A) 91 (0, 0))
  tr : IsTr w t A
theorem TourP.mono {w w' : World} {tb : Nat} {t : Tr} {A : TrA} (h : TourP w tb t A) (hb : Below w.heap.size w w') : TourP w' tb t A := ⟨(hb.block _ (heap_lt h.obj)).trans h.obj, h.tr.mono hb⟩
theorem TourP.cells {w : World} {tb : Nat} {t : Tr} {A : TrA} (h : TourP w tb t A) : w.cell? ⟨tb, 0, none⟩ = some (.int .i64 t.dawn) ∧ w.cell? ⟨tb, 1, none⟩ = some (.slice A.af t.frm.length A.cf) ∧
    w.cell? ⟨tb, 2, none⟩ = some (.slice A.aw t.ways.length A.cw) ∧ w.cell? ⟨tb, 3, none⟩ = some (.slice A.as_ t.stay.length A.cs) ∧ w.cell? ⟨tb, 4, none⟩ = some (.slice A.al t.light.length A.cl) ∧ w.cell? ⟨tb, 5, none⟩ = some (.int .i64 t.frm.length) := by
  refine ⟨?_, ?_, ?_, ?_, ?_, ?_⟩ <;> (rw [cell_of_heap h.obj]; rfl)
theorem isView75 {t : Tr} {A : TrA} {tb : Nat} {w : World} (hP : TourP w tb t A) (hn : t.frm.length ≤ 16) (v : Int) :
    Calls Try.prog 75 #[.pointer (some ⟨tb, 0, none⟩), .int .i64 v] w fun e w' => e = .returned (.bool (t.view v)) ∧ w = w' := by
  obtain ⟨_, _, _, _, _, c5⟩ := hP.cells
  have HV : Hid (t.view v = inR v 0 ((t.frm.length : Int) - 1)) := rfl
  clear hP
  go_enter Try.func75, Try.ntmps75
  go_wp2_with fail
  refine (within_any _ _ _ _).mono ?_
  rintro e w' ⟨rfl, rfl⟩
  go_wp2_with fail
  go_ret
  exact ⟨ret_bool (by rw [HV.out]), rfl⟩
/-- Which views have been seen. -/
def seenA (l : List Int) : Array Value := ((List.range 6).map fun (i : Nat) => Value.bool (decide ((i : Int) ∈ l))).toArray
theorem seenA_at {l : List Int} {i : Nat} (h : i < 6) : (seenA l)[i]? = some (.bool (decide ((i : Int) ∈ l))) := by simp [seenA, h]
theorem seenA_set (l : List Int) {i : Nat} (h : i < 6) : (seenA l).setIfInBounds i (.bool true) = seenA (l ++ [(i : Int)]) := by
  apply Array.ext
  · simp [seenA]
  · intro j h1 h2
    have hj : j < 6 := by simpa [seenA] using h2
    rw [Array.getElem_setIfInBounds (by simpa [seenA] using hj)]
    by_cases e : i = j
    · subst e; simp [seenA]
    · have e2 : ¬ (j : Int) = (i : Int) := by omega
      simp [seenA, e, e2]
theorem seenA_zero : seenA [] = #[.bool false, .bool false, .bool false, .bool false, .bool false, .bool false] := by simp [seenA, List.range_succ]
theorem order_step (t : Tr) {l : List Int} {k : Nat} (h : k < l.length) : t.order (l.take (k + 1)) = (t.order (l.take k) && t.view (gi l k) && !decide (gi l k ∈ l.take k)) := by
  have e : l[k] = gi l k := by simp [gi, h]
  unfold Tr.order
  rw [List.take_succ_eq_append_getElem h, e, List.all_append]
  have hn : (l.take k ++ [gi l k]).Nodup ↔ (l.take k).Nodup ∧ gi l k ∉ l.take k := by
    rw [List.nodup_append]
    simp
    intro _
    exact ⟨fun h hm => h _ hm rfl, fun h x hx e => h (e ▸ hx)⟩
  have hd : decide ((l.take k ++ [gi l k]).Nodup) = (decide ((l.take k).Nodup) && !decide (gi l k ∈ l.take k)) := by
    rw [Bool.eq_iff_iff]; simp only [decide_eq_true_eq, Bool.and_eq_true, Bool.not_eq_true', decide_eq_false_iff_not]; exact hn
  rw [hd]
  simp only [List.all_cons, List.all_nil, Bool.and_true, Bool.decide_and, decide_not]
  cases (l.take k).all t.view <;> cases t.view (gi l k) <;> cases decide ((l.take k).Nodup) <;> rfl
theorem order_cut (t : Tr) {l : List Int} {k : Nat} (h : t.order (l.take k) = false) : t.order l = false := by
  cases ho : t.order l
  · rfl
  · unfold Tr.order at h ho
    simp only [Bool.and_eq_true, decide_eq_true_eq, List.all_eq_true] at ho
    simp only [Bool.and_eq_false_iff, decide_eq_false_iff_not] at h
    rcases h with h | h
    · rw [List.all_eq_false] at h
      obtain ⟨x, hx, h2⟩ := h
      exact (h2 (ho.1 x (List.mem_of_mem_take hx))).elim
    · exact (h (ho.2.sublist (List.take_sublist k l))).elim
set_option maxRecDepth 100000 in
set_option maxHeartbeats 4000000 in
theorem isOrder48 {t : Tr} {A : TrA} {tb : Nat} {w : World} (hP : TourP w tb t A) (hn : t.frm.length ≤ 6) {l : List Int} (hl : l.length ≤ 16) {a : Option Addr} {cap : Nat} (ha : IsInts w a l) :
    Calls Try.prog 48 #[.pointer (some ⟨tb, 0, none⟩), .slice a l.length cap] w fun e w' => e = .returned (.bool (t.order l)) ∧ Below w.heap.size w w' := by
  have HP := Lib.hid (And.intro hP ha)
  have hb0 : Below w.heap.size w (w.alloc (.cells #[.bool false, .bool false, .bool false, .bool false, .bool false, .bool false] 108)) := (Below.refl _ w).alloc (Nat.le_refl _) _
  have q0 := World.alloc_heap_new w (.cells #[.bool false, .bool false, .bool false, .bool false, .bool false, .bool false] 108)
  have HW := Lib.hid (And.intro hb0 q0)
  clear hP ha hb0 q0
  go_enter Try.func48, Try.ntmps48
  go_wp2_with fail
  go_loopw [10] (fun i wr => ∃ k : Nat, k ≤ l.length ∧ i = .int .i64 k ∧ Hid (t.order (l.take k) = true) ∧ Hid (Below w.heap.size w wr) ∧ Hid (wr.heap[w.heap.size]? = some (.cells (seenA (l.take k)) 108 (0, 0)))) (fun i _ => l.length - (intOf i).toNat)
  case atStart => exact ⟨0, by omega, rfl, rfl, HW.out.1, by rw [Hid, List.take_zero, seenA_zero]; exact HW.out.2⟩
  case round =>
    obtain ⟨k, hk, rfl, HO, HB, HS⟩ := hrel
    by_cases hlt : k < l.length
    · obtain ⟨b, off, rfl, hc⟩ := (HP.out.2.mono HB.out) k hlt
      have HST := Lib.hid (order_step t hlt)
      have HSA : Hid (∀ m : Nat, m < 6 → gi l k = (m : Int) → (seenA (l.take k)).setIfInBounds m (.bool true) = seenA (l.take (k + 1))) := fun m hm e => by
        rw [seenA_set _ hm, List.take_succ_eq_append_getElem hlt, ← e]
        simp [gi, hlt]
      have HCUT : Hid (t.order (l.take (k + 1)) = false → t.order l = false) := fun h => order_cut t h
      have HVW := Lib.hid (isView75 (HP.out.1.mono HB.out) (by omega) (gi l k))
      have HRG : Hid (t.view (gi l k) = true → 0 ≤ gi l k ∧ gi l k < t.frm.length) := fun h => by
        unfold Tr.view inR Tr.n at h
        simp at h
        omega
      revert hc HST HSA HVW HRG
      generalize gi l k = v
      intro hc HST HSA HVW HRG
      go_wp2_with fail
      refine HVW.out.mono ?_
      rintro e w' ⟨rfl, rfl⟩
      cases hv : t.view v
      · have HF : Hid (t.order l = false) := HCUT.out (by rw [HST.out, hv]; simp)
        clear hv
        go_wp2_with fail
        go_ret
        exact ⟨ret_bool (by rw [HF.out]), HB.out⟩
      · obtain ⟨h0, h1⟩ := HRG.out hv
        obtain ⟨m, rfl⟩ := Int.eq_ofNat_of_zero_le h0
        have hm6 : m < 6 := by omega
        have ca : wr.cell? ⟨w.heap.size, m, none⟩ = some (.bool (decide ((m : Int) ∈ l.take k))) := by rw [cell_of_heap HS.out]; exact seenA_at hm6
        have fa : wr.frozen? ⟨w.heap.size, m, none⟩ = false := frozen_of_heap HS.out
        have HV := Lib.hid hv
        clear hv
        cases hd : decide ((m : Int) ∈ l.take k)
        · have HO2 : Hid (t.order (l.take (k + 1)) = true) := by rw [Hid, HST.out, HO.out, HV.out, hd]; rfl
          rw [hd] at ca
          clear hd
          go_wp2_with fail
          go_roundw
          case rel => exact ⟨k + 1, by omega, by go_num, HO2.out, HB.out.setCell (Nat.le_refl _) _, by rw [Hid, ← HSA.out m hm6 rfl]; exact heap_setCell_at HS.out _⟩
          case measure => simp [intOf]; omega
        · have HF : Hid (t.order l = false) := HCUT.out (by rw [HST.out, hd]; simp)
          rw [hd] at ca
          clear hd
          go_wp2_with fail
          go_ret
          exact ⟨ret_bool (by rw [HF.out]), HB.out⟩
    · obtain rfl : k = l.length := by omega
      rw [List.take_length] at HO
      go_wp2_with fail
      go_ret
      exact ⟨ret_bool (by rw [HO.out]), HB.out⟩
theorem cf47 (args : Array Value) (w : World) : (callFunc 47 args).run Try.prog w = .ok (.enter 47 args) w := by simp [callFunc, Try.func47, Try.f47, go_sem]
theorem order47 {t : Tr} {A : TrA} {tb ob : Nat} {w : World} (hP : TourP w tb t A) (hn : t.frm.length ≤ 6) {l : List Int} (hl : l.length ≤ 16) {a : Option Addr} {cap : Nat} (ha : IsInts w a l) (ho : w.cell? ⟨ob, 0, none⟩ = some (.slice a l.length cap)) :
    Calls Try.prog 47 #[.pointer (some ⟨tb, 0, none⟩), .pointer (some ⟨ob, 0, none⟩)] w fun e w' => e = .returned (.bool (t.order l)) ∧ Below w.heap.size w w' := by
  have HC := Lib.hid (isOrder48 (cap := cap) hP hn hl ha)
  clear hP ha
  go_enter Try.func47, Try.ntmps47
  go_wp2_with fail
  refine HC.out.mono ?_
  rintro e w' ⟨rfl, hb⟩
  go_wp2_with fail
  go_ret
  exact ⟨rfl, hb⟩
theorem cf54 (args : Array Value) (w : World) : (callFunc 54 args).run Try.prog w = .ok (.enter 54 args) w := by simp [callFunc, Try.func54, Try.f54, go_sem]
theorem order54 {t : Tr} {A : TrA} {tb ob : Nat} {w : World} (hP : TourP w tb t A) (hn : t.frm.length ≤ 6) {l : List Int} (hl : l.length ≤ 16) {a : Option Addr} {cap : Nat} (ha : IsInts w a l) (ho : w.cell? ⟨ob, 0, none⟩ = some (.slice a l.length cap)) :
    Calls Try.prog 54 #[.pointer (some ⟨tb, 0, none⟩), .pointer (some ⟨ob, 0, none⟩)] w fun e w' => e = .returned (.bool (t.order l)) ∧ Below w.heap.size w w' := by
  have HC := Lib.hid (isOrder48 (cap := cap) hP hn hl ha)
  clear hP ha
  go_enter Try.func54, Try.ntmps54
  go_wp2_with fail
  refine HC.out.mono ?_
  rintro e w' ⟨rfl, hb⟩
  go_wp2_with fail
  go_ret
  exact ⟨rfl, hb⟩
theorem cf58 (args : Array Value) (w : World) : (callFunc 58 args).run Try.prog w = .ok (.enter 58 args) w := by simp [callFunc, Try.func58, Try.f58, go_sem]
theorem order58 {t : Tr} {A : TrA} {tb ob : Nat} {w : World} (hP : TourP w tb t A) (hn : t.frm.length ≤ 6) {l : List Int} (hl : l.length ≤ 16) {a : Option Addr} {cap : Nat} (ha : IsInts w a l) (ho : w.cell? ⟨ob, 0, none⟩ = some (.slice a l.length cap)) :
    Calls Try.prog 58 #[.pointer (some ⟨tb, 0, none⟩), .pointer (some ⟨ob, 0, none⟩)] w fun e w' => e = .returned (.bool (t.order l)) ∧ Below w.heap.size w w' := by
  have HC := Lib.hid (isOrder48 (cap := cap) hP hn hl ha)
  clear hP ha
  go_enter Try.func58, Try.ntmps58
  go_wp2_with fail
  refine HC.out.mono ?_
  rintro e w' ⟨rfl, hb⟩
  go_wp2_with fail
  go_ret
  exact ⟨rfl, hb⟩
theorem cf62 (args : Array Value) (w : World) : (callFunc 62 args).run Try.prog w = .ok (.enter 62 args) w := by simp [callFunc, Try.func62, Try.f62, go_sem]
theorem order62 {t : Tr} {A : TrA} {tb ob : Nat} {w : World} (hP : TourP w tb t A) (hn : t.frm.length ≤ 6) {l : List Int} (hl : l.length ≤ 16) {a : Option Addr} {cap : Nat} (ha : IsInts w a l) (ho : w.cell? ⟨ob, 0, none⟩ = some (.slice a l.length cap)) :
    Calls Try.prog 62 #[.pointer (some ⟨tb, 0, none⟩), .pointer (some ⟨ob, 0, none⟩)] w fun e w' => e = .returned (.bool (t.order l)) ∧ Below w.heap.size w w' := by
  have HC := Lib.hid (isOrder48 (cap := cap) hP hn hl ha)
  clear hP ha
  go_enter Try.func62, Try.ntmps62
  go_wp2_with fail
  refine HC.out.mono ?_
  rintro e w' ⟨rfl, hb⟩
  go_wp2_with fail
  go_ret
  exact ⟨rfl, hb⟩
theorem cf66 (args : Array Value) (w : World) : (callFunc 66 args).run Try.prog w = .ok (.enter 66 args) w := by simp [callFunc, Try.func66, Try.f66, go_sem]
theorem always66 {tb : Nat} {w : World} : Calls Try.prog 66 #[.pointer (some ⟨tb, 0, none⟩)] w fun e w' => e = .returned (.bool true) ∧ Below w.heap.size w w' := by
  go_enter Try.func66, Try.ntmps66
  go_wp2
  go_ret
  exact ⟨rfl, Below.refl _ _⟩
theorem cf74 (args : Array Value) (w : World) : (callFunc 74 args).run Try.prog w = .ok (.enter 74 args) w := by simp [callFunc, Try.func74, Try.f74, go_sem]
theorem before74 {t : Tr} {A : TrA} {tb pa pb : Nat} {w : World} (hP : TourP w tb t A) (hn : t.frm.length ≤ 16) {a b : Int} (ha : w.cell? ⟨pa, 0, none⟩ = some (.int .i64 a)) (hb : w.cell? ⟨pb, 0, none⟩ = some (.int .i64 b)) :
    Calls Try.prog 74 #[.pointer (some ⟨tb, 0, none⟩), .pointer (some ⟨pa, 0, none⟩), .pointer (some ⟨pb, 0, none⟩)] w fun e w' => e = .returned (.bool (t.view a && t.view b && (a != b))) ∧ Below w.heap.size w w' := by
  have C1 := Lib.hid (isView75 hP hn a)
  have C2 := Lib.hid (isView75 hP hn b)
  clear hP
  go_enter Try.func74, Try.ntmps74
  go_wp2_with fail
  refine C1.out.mono ?_
  rintro e w' ⟨rfl, rfl⟩
  cases h1 : t.view a
  · go_wp2_with fail
    all_goals try refine ⟨fun _ _ => trivial, ?_⟩
    all_goals try go_wp2_with fail
    go_ret
    exact ⟨ret_bool (by rw [h1]; rfl), Below.refl _ _⟩
  · go_wp2_with fail
    refine C2.out.mono ?_
    rintro e w' ⟨rfl, rfl⟩
    cases h2 : t.view b
    · go_wp2_with fail
      go_ret
      exact ⟨ret_bool (by simp only [h1, h2]; first | rfl | simp), Below.refl _ _⟩
    · go_wp2_with fail
      go_ret
      exact ⟨ret_bool (by simp only [h1, h2]; first | rfl | simp), Below.refl _ _⟩
end Go.Proofs.Ytphefhpmbahagaa
