/- Views, orders; a tour that is opened. A walk's single steps: when one begins, when one is after. A walk's single steps: begin, holds, over. Whether a view is in time; what a walk came to; a walk's two functions. An iterator that has blocks of its own. -/
import Derived.Test.YtphefhpmbahagaaT3
namespace Go.Proofs.Ytphefhpmbahagaa
open Go.RowKit
set_option linter.unusedVariables false
set_option linter.unusedSimpArgs false

abbrev Tr.obj (t : Tr) (A : TrA) : Array Value := #[.int .i64 t.dawn,.slice A.af t.frm.length A.cf,.slice A.aw t.ways.length A.cw,.slice A.as_ t.stay.length A.cs,.slice A.al t.light.length A.cl,.int .i64 t.frm.length]
/-- A tour that is looked at. -/
structure TourP (w : World) (tb : Nat) (t : Tr) (A : TrA) : Prop where
  obj : w.heap[tb]? = some (.cells (t.obj A) 91 (0,0))
  tr : IsTr w t A
theorem TourP.mono {w w' : World} {tb : Nat} {t : Tr} {A : TrA} (h : TourP w tb t A) (hb : Below w.heap.size w w') : TourP w' tb t A := ⟨(hb.block _ (heap_lt h.obj)).trans h.obj,h.tr.mono hb⟩
theorem TourP.cells {w : World} {tb : Nat} {t : Tr} {A : TrA} (h : TourP w tb t A) : w.cell? ⟨tb,0,none⟩ = some (.int .i64 t.dawn) ∧ w.cell? ⟨tb,1,none⟩ = some (.slice A.af t.frm.length A.cf) ∧
    w.cell? ⟨tb,2,none⟩ = some (.slice A.aw t.ways.length A.cw) ∧ w.cell? ⟨tb,3,none⟩ = some (.slice A.as_ t.stay.length A.cs) ∧ w.cell? ⟨tb,4,none⟩ = some (.slice A.al t.light.length A.cl) ∧ w.cell? ⟨tb,5,none⟩ = some (.int .i64 t.frm.length) := by
  refine ⟨?_,?_,?_,?_,?_,?_⟩ <;> (rw [cell_of_heap h.obj]; rfl)
theorem isView75 {t : Tr} {A : TrA} {tb : Nat} {w : World} (hP : TourP w tb t A) (hn : t.frm.length ≤ 16) (v : Int) :
    Calls Try.prog 75 #[.pointer (some ⟨tb,0,none⟩),.int .i64 v] w fun e w' => e = .returned (.bool (t.view v)) ∧ w = w' := by
  obtain ⟨_,_,_,_,_,c5⟩ := hP.cells
  have HV : Hid (t.view v = inR v 0 ((t.frm.length : Int) - 1)) := rfl
  clear hP
  go_enter Try.func75,Try.ntmps75
  go_wp2_with fail
  refine (within_any _ _ _ _).mono ?_
  rintro e w' ⟨rfl,rfl⟩
  go_wp2_with fail
  go_ret
  exact ⟨ret_bool (by rw [HV.out]),rfl⟩
/-- Which views have been seen. -/
def seenA (l : List Int) : Array Value := ((List.range 6).map fun (i : Nat) => Value.bool (decide ((i : Int) ∈ l))).toArray
theorem seenA_at {l : List Int} {i : Nat} (h : i < 6) : (seenA l)[i]? = some (.bool (decide ((i : Int) ∈ l))) := by simp [seenA,h]
theorem seenA_set (l : List Int) {i : Nat} (h : i < 6) : (seenA l).setIfInBounds i (.bool true) = seenA (l ++ [(i : Int)]) := by
  apply Array.ext
  · simp [seenA]
  · intro j h1 h2
    have hj : j < 6 := by simpa [seenA] using h2
    rw [Array.getElem_setIfInBounds (by simpa [seenA] using hj)]
    by_cases e : i = j
    · subst e; simp [seenA]
    · have e2 : ¬ (j : Int) = (i : Int) := by omega
      simp [seenA,e,e2]
theorem seenA_zero : seenA [] = #[.bool false,.bool false,.bool false,.bool false,.bool false,.bool false] := by simp [seenA,List.range_succ]
theorem order_step (t : Tr) {l : List Int} {k : Nat} (h : k < l.length) : t.order (l.take (k + 1)) = (t.order (l.take k) && t.view (gi l k) && !decide (gi l k ∈ l.take k)) := by
  have e : l[k] = gi l k := by simp [gi,h]
  unfold Tr.order
  rw [List.take_succ_eq_append_getElem h,e,List.all_append]
  have hn : (l.take k ++ [gi l k]).Nodup ↔ (l.take k).Nodup ∧ gi l k ∉ l.take k := by
    rw [List.nodup_append]
    simp
    intro _
    exact ⟨fun h hm => h _ hm rfl,fun h x hx e => h (e ▸ hx)⟩
  have hd : decide ((l.take k ++ [gi l k]).Nodup) = (decide ((l.take k).Nodup) && !decide (gi l k ∈ l.take k)) := by
    rw [Bool.eq_iff_iff]; simp only [decide_eq_true_eq,Bool.and_eq_true,Bool.not_eq_true',decide_eq_false_iff_not]; exact hn
  rw [hd]
  simp only [List.all_cons,List.all_nil,Bool.and_true,Bool.decide_and,decide_not]
  cases (l.take k).all t.view <;> cases t.view (gi l k) <;> cases decide ((l.take k).Nodup) <;> rfl
theorem order_cut (t : Tr) {l : List Int} {k : Nat} (h : t.order (l.take k) = false) : t.order l = false := by
  cases ho : t.order l
  · rfl
  · unfold Tr.order at h ho
    simp only [Bool.and_eq_true,decide_eq_true_eq,List.all_eq_true] at ho
    simp only [Bool.and_eq_false_iff,decide_eq_false_iff_not] at h
    rcases h with h | h
    · rw [List.all_eq_false] at h
      obtain ⟨x,hx,h2⟩ := h
      exact (h2 (ho.1 x (List.mem_of_mem_take hx))).elim
    · exact (h (ho.2.sublist (List.take_sublist k l))).elim
set_option maxRecDepth 100000 in
set_option maxHeartbeats 4000000 in
theorem isOrder48 {t : Tr} {A : TrA} {tb : Nat} {w : World} (hP : TourP w tb t A) (hn : t.frm.length ≤ 6) {l : List Int} (hl : l.length ≤ 16) {a : Option Addr} {cap : Nat} (ha : IsInts w a l) :
    Calls Try.prog 48 #[.pointer (some ⟨tb,0,none⟩),.slice a l.length cap] w fun e w' => e = .returned (.bool (t.order l)) ∧ Below w.heap.size w w' := by
  have HP := Lib.hid (And.intro hP ha)
  have hb0 : Below w.heap.size w (w.alloc (.cells #[.bool false,.bool false,.bool false,.bool false,.bool false,.bool false] 108)) := (Below.refl _ w).alloc (Nat.le_refl _) _
  have q0 := World.alloc_heap_new w (.cells #[.bool false,.bool false,.bool false,.bool false,.bool false,.bool false] 108)
  have HW := Lib.hid (And.intro hb0 q0)
  clear hP ha hb0 q0
  go_enter Try.func48,Try.ntmps48
  go_wp2_with fail
  go_loopw [10] (fun i wr => ∃ k : Nat,k ≤ l.length ∧ i = .int .i64 k ∧ Hid (t.order (l.take k) = true) ∧ Hid (Below w.heap.size w wr) ∧ Hid (wr.heap[w.heap.size]? = some (.cells (seenA (l.take k)) 108 (0,0)))) (fun i _ => l.length - (intOf i).toNat)
  case atStart => exact ⟨0,by omega,rfl,rfl,HW.out.1,by rw [Hid,List.take_zero,seenA_zero]; exact HW.out.2⟩
  case round =>
    obtain ⟨k,hk,rfl,HO,HB,HS⟩ := hrel
    by_cases hlt : k < l.length
    · obtain ⟨b,off,rfl,hc⟩ := (HP.out.2.mono HB.out) k hlt
      have HST := Lib.hid (order_step t hlt)
      have HSA : Hid (∀ m : Nat,m < 6 → gi l k = (m : Int) → (seenA (l.take k)).setIfInBounds m (.bool true) = seenA (l.take (k + 1))) := fun m hm e => by
        rw [seenA_set _ hm,List.take_succ_eq_append_getElem hlt,← e]
        simp [gi,hlt]
      have HCUT : Hid (t.order (l.take (k + 1)) = false → t.order l = false) := fun h => order_cut t h
      have HVW := Lib.hid (isView75 (HP.out.1.mono HB.out) (by omega) (gi l k))
      have HRG : Hid (t.view (gi l k) = true → 0 ≤ gi l k ∧ gi l k < t.frm.length) := fun h => by
        unfold Tr.view inR Tr.n at h
        simp at h
        omega
      revert hc HST HSA HVW HRG
      generalize gi l k = v
      intro hc HST HSA HVW HRG
      go_wp2_with fail
      refine HVW.out.mono ?_
      rintro e w' ⟨rfl,rfl⟩
      cases hv : t.view v
      · have HF : Hid (t.order l = false) := HCUT.out (by rw [HST.out,hv]; simp)
        clear hv
        go_wp2_with fail
        go_ret
        exact ⟨ret_bool (by rw [HF.out]),HB.out⟩
      · obtain ⟨h0,h1⟩ := HRG.out hv
        obtain ⟨m,rfl⟩ := Int.eq_ofNat_of_zero_le h0
        have hm6 : m < 6 := by omega
        have ca : wr.cell? ⟨w.heap.size,m,none⟩ = some (.bool (decide ((m : Int) ∈ l.take k))) := by rw [cell_of_heap HS.out]; exact seenA_at hm6
        have fa : wr.frozen? ⟨w.heap.size,m,none⟩ = false := frozen_of_heap HS.out
        have HV := Lib.hid hv
        clear hv
        cases hd : decide ((m : Int) ∈ l.take k)
        · have HO2 : Hid (t.order (l.take (k + 1)) = true) := by rw [Hid,HST.out,HO.out,HV.out,hd]; rfl
          rw [hd] at ca
          clear hd
          go_wp2_with fail
          go_roundw
          case rel => exact ⟨k + 1,by omega,by go_num,HO2.out,HB.out.setCell (Nat.le_refl _) _,by rw [Hid,← HSA.out m hm6 rfl]; exact heap_setCell_at HS.out _⟩
          case measure => simp [intOf]; omega
        · have HF : Hid (t.order l = false) := HCUT.out (by rw [HST.out,hd]; simp)
          rw [hd] at ca
          clear hd
          go_wp2_with fail
          go_ret
          exact ⟨ret_bool (by rw [HF.out]),HB.out⟩
    · obtain rfl : k = l.length := by omega
      rw [List.take_length] at HO
      go_wp2_with fail
      go_ret
      exact ⟨ret_bool (by rw [HO.out]),HB.out⟩
theorem cf47 (args : Array Value) (w : World) : (callFunc 47 args).run Try.prog w = .ok (.enter 47 args) w := by simp [callFunc,Try.func47,Try.f47,go_sem]
theorem order47 {t : Tr} {A : TrA} {tb ob : Nat} {w : World} (hP : TourP w tb t A) (hn : t.frm.length ≤ 6) {l : List Int} (hl : l.length ≤ 16) {a : Option Addr} {cap : Nat} (ha : IsInts w a l) (ho : w.cell? ⟨ob,0,none⟩ = some (.slice a l.length cap)) :
    Calls Try.prog 47 #[.pointer (some ⟨tb,0,none⟩),.pointer (some ⟨ob,0,none⟩)] w fun e w' => e = .returned (.bool (t.order l)) ∧ Below w.heap.size w w' := by
  have HC := Lib.hid (isOrder48 (cap := cap) hP hn hl ha)
  clear hP ha
  go_enter Try.func47,Try.ntmps47
  go_wp2_with fail
  refine HC.out.mono ?_
  rintro e w' ⟨rfl,hb⟩
  go_wp2_with fail
  go_ret
  exact ⟨rfl,hb⟩
theorem cf54 (args : Array Value) (w : World) : (callFunc 54 args).run Try.prog w = .ok (.enter 54 args) w := by simp [callFunc,Try.func54,Try.f54,go_sem]
theorem order54 {t : Tr} {A : TrA} {tb ob : Nat} {w : World} (hP : TourP w tb t A) (hn : t.frm.length ≤ 6) {l : List Int} (hl : l.length ≤ 16) {a : Option Addr} {cap : Nat} (ha : IsInts w a l) (ho : w.cell? ⟨ob,0,none⟩ = some (.slice a l.length cap)) :
    Calls Try.prog 54 #[.pointer (some ⟨tb,0,none⟩),.pointer (some ⟨ob,0,none⟩)] w fun e w' => e = .returned (.bool (t.order l)) ∧ Below w.heap.size w w' := by
  have HC := Lib.hid (isOrder48 (cap := cap) hP hn hl ha)
  clear hP ha
  go_enter Try.func54,Try.ntmps54
  go_wp2_with fail
  refine HC.out.mono ?_
  rintro e w' ⟨rfl,hb⟩
  go_wp2_with fail
  go_ret
  exact ⟨rfl,hb⟩
theorem cf58 (args : Array Value) (w : World) : (callFunc 58 args).run Try.prog w = .ok (.enter 58 args) w := by simp [callFunc,Try.func58,Try.f58,go_sem]
theorem order58 {t : Tr} {A : TrA} {tb ob : Nat} {w : World} (hP : TourP w tb t A) (hn : t.frm.length ≤ 6) {l : List Int} (hl : l.length ≤ 16) {a : Option Addr} {cap : Nat} (ha : IsInts w a l) (ho : w.cell? ⟨ob,0,none⟩ = some (.slice a l.length cap)) :
    Calls Try.prog 58 #[.pointer (some ⟨tb,0,none⟩),.pointer (some ⟨ob,0,none⟩)] w fun e w' => e = .returned (.bool (t.order l)) ∧ Below w.heap.size w w' := by
  have HC := Lib.hid (isOrder48 (cap := cap) hP hn hl ha)
  clear hP ha
  go_enter Try.func58,Try.ntmps58
  go_wp2_with fail
  refine HC.out.mono ?_
  rintro e w' ⟨rfl,hb⟩
  go_wp2_with fail
  go_ret
  exact ⟨rfl,hb⟩
theorem cf62 (args : Array Value) (w : World) : (callFunc 62 args).run Try.prog w = .ok (.enter 62 args) w := by simp [callFunc,Try.func62,Try.f62,go_sem]
theorem order62 {t : Tr} {A : TrA} {tb ob : Nat} {w : World} (hP : TourP w tb t A) (hn : t.frm.length ≤ 6) {l : List Int} (hl : l.length ≤ 16) {a : Option Addr} {cap : Nat} (ha : IsInts w a l) (ho : w.cell? ⟨ob,0,none⟩ = some (.slice a l.length cap)) :
    Calls Try.prog 62 #[.pointer (some ⟨tb,0,none⟩),.pointer (some ⟨ob,0,none⟩)] w fun e w' => e = .returned (.bool (t.order l)) ∧ Below w.heap.size w w' := by
  have HC := Lib.hid (isOrder48 (cap := cap) hP hn hl ha)
  clear hP ha
  go_enter Try.func62,Try.ntmps62
  go_wp2_with fail
  refine HC.out.mono ?_
  rintro e w' ⟨rfl,hb⟩
  go_wp2_with fail
  go_ret
  exact ⟨rfl,hb⟩
theorem cf66 (args : Array Value) (w : World) : (callFunc 66 args).run Try.prog w = .ok (.enter 66 args) w := by simp [callFunc,Try.func66,Try.f66,go_sem]
theorem always66 {tb : Nat} {w : World} : Calls Try.prog 66 #[.pointer (some ⟨tb,0,none⟩)] w fun e w' => e = .returned (.bool true) ∧ Below w.heap.size w w' := by
  go_enter Try.func66,Try.ntmps66
  go_wp2
  go_ret
  exact ⟨rfl,Below.refl _ _⟩
theorem cf74 (args : Array Value) (w : World) : (callFunc 74 args).run Try.prog w = .ok (.enter 74 args) w := by simp [callFunc,Try.func74,Try.f74,go_sem]
theorem before74 {t : Tr} {A : TrA} {tb pa pb : Nat} {w : World} (hP : TourP w tb t A) (hn : t.frm.length ≤ 16) {a b : Int} (ha : w.cell? ⟨pa,0,none⟩ = some (.int .i64 a)) (hb : w.cell? ⟨pb,0,none⟩ = some (.int .i64 b)) :
    Calls Try.prog 74 #[.pointer (some ⟨tb,0,none⟩),.pointer (some ⟨pa,0,none⟩),.pointer (some ⟨pb,0,none⟩)] w fun e w' => e = .returned (.bool (t.view a && t.view b && (a != b))) ∧ Below w.heap.size w w' := by
  have C1 := Lib.hid (isView75 hP hn a)
  have C2 := Lib.hid (isView75 hP hn b)
  clear hP
  go_enter Try.func74,Try.ntmps74
  go_wp2_with fail
  refine C1.out.mono ?_
  rintro e w' ⟨rfl,rfl⟩
  cases h1 : t.view a
  · go_wp2_with fail
    all_goals try refine ⟨fun _ _ => trivial,?_⟩
    all_goals try go_wp2_with fail
    go_ret
    exact ⟨ret_bool (by rw [h1]; rfl),Below.refl _ _⟩
  · go_wp2_with fail
    refine C2.out.mono ?_
    rintro e w' ⟨rfl,rfl⟩
    cases h2 : t.view b
    · go_wp2_with fail
      go_ret
      exact ⟨ret_bool (by simp only [h1,h2]; first | rfl | simp),Below.refl _ _⟩
    · go_wp2_with fail
      go_ret
      exact ⟨ret_bool (by simp only [h1,h2]; first | rfl | simp),Below.refl _ _⟩
end Go.Proofs.Ytphefhpmbahagaa

namespace Go.Proofs.Ytphefhpmbahagaa
open Go.RowKit
set_option linter.unusedVariables false
set_option linter.unusedSimpArgs false

abbrev mv (p : Int × Int) : Value := .agg #[.int .i64 p.1,.int .i64 p.2]
/-- Minutes that do not run over. -/
def Low (p : Int × Int) : Prop := 0 ≤ p.1 ∧ p.1 ≤ 1000000000 ∧ 0 ≤ p.2 ∧ p.2 ≤ 1000000000
theorem ret_mv {a b c d : Int} (h1 : a = c) (h2 : b = d) : Ending.returned (.agg #[.int .i64 a,.int .i64 b]) = .returned (.agg #[.int .i64 c,.int .i64 d]) := by rw [h1,h2]
theorem ok_iff (s : Spn) : s.ok = true ↔ 0 ≤ s.lo ∧ s.lo ≤ s.hi ∧ s.hi ≤ 1440 := by simp [Spn.ok,and_assoc]
theorem areB_at {l : List Spn} {n k : Nat} (h : areB l n = true) (hk : k < n) : l.length = n ∧ (gs l k).ok = true := by
  simp only [areB,Bool.and_eq_true,decide_eq_true_eq,List.all_eq_true] at h
  refine ⟨h.1,h.2 _ ?_⟩
  have hl : k < l.length := by omega
  simp [gs,hl]
theorem res_c82 {fn : Func} {p : Tmp} (h : fn.results = #[.cell p 82]) (tmps : Array Value) {w : World} {a : Nat} {x y : Value} (hp : tmps.getD p undef = .pointer (some ⟨a,0,none⟩)) (hx : w.cell? ⟨a,0,none⟩ = some x) (hy : w.cell? ⟨a,1,none⟩ = some y) :
    (results fn tmps).run Try.prog w = .ok (.agg #[x,y]) w := by
  have hp' : tmps[p]?.getD undef = .pointer (some ⟨a,0,none⟩) := by simpa using hp
  simp [results,h,hp',hx,hy,go_sem]
/-- What a valid tour's parts are. -/
structure Tr.Fit (t : Tr) : Prop where
  n : t.frm.length ≤ 6
  dawn : 0 ≤ t.dawn ∧ t.dawn ≤ 1440
  ways : t.ways.length = t.frm.length
  stay : t.stay.length = t.frm.length
  light : t.light.length = t.frm.length
  rows : ∀ k,k < t.frm.length → (gw t.ways k).length = t.frm.length
  okf : ∀ k,k < t.frm.length → (gs t.frm k).ok = true
  oks : ∀ k,k < t.frm.length → (gs t.stay k).ok = true
  okl : ∀ k,k < t.frm.length → (gs t.light k).ok = true
  okw : ∀ k j,k < t.frm.length → j < t.frm.length → (gs (gw t.ways k) j).ok = true
theorem fit_of_valid {t : Tr} (h : t.valid = true) : t.Fit := by
  have h : (decide (t.frm.length ≤ 6) && decide (t.ways.length = t.frm.length) && inR t.dawn 0 1440 && (t.ways ++ [t.frm,t.stay,t.light]).all fun l => areB l t.frm.length) = true := h
  simp only [inR,List.all_append,List.all_cons,List.all_nil,Bool.and_true,Bool.and_eq_true,decide_eq_true_eq] at h
  obtain ⟨⟨⟨h1,h2⟩,h3⟩,h4,h5,h6,h7⟩ := h
  have hw : ∀ k,k < t.frm.length → areB (gw t.ways k) t.frm.length = true := fun k hk => by
    rw [List.all_eq_true] at h4
    refine h4 _ ?_
    have hl : k < t.ways.length := by omega
    simp [gw,hl]
  have len : ∀ l,areB l t.frm.length = true → l.length = t.frm.length := fun l h => by
    simp only [areB,Bool.and_eq_true,decide_eq_true_eq] at h; exact h.1
  exact ⟨h1,h3,h2,len _ h6,len _ h7,fun k hk => len _ (hw k hk),fun k hk => (areB_at h5 hk).2,fun k hk => (areB_at h6 hk).2,fun k hk => (areB_at h7 hk).2,fun k j hk hj => (areB_at (hw k hk) hj).2⟩

theorem after83 {x y : Int} {s : Spn} {w : World} (hL : Low (x,y)) (hs : s.ok = true) :
    Calls Try.prog 83 #[.agg #[.int .i64 x,.int .i64 y],s.v] w fun e w' => e = .returned (.agg #[.int .i64 (x + s.lo),.int .i64 (y + s.hi)]) ∧ Below w.heap.size w w' := by
  obtain ⟨h1,h2,h3,h4⟩ := hL
  obtain ⟨s1,s2,s3⟩ := (ok_iff s).1 hs
  obtain ⟨lo,hi⟩ := s
  have e1 : IntKind.i64.wrap (x + lo) = x + lo := IntWalk.i64_in _ (by simp at h1 h2 h3 h4 s1 s2 s3; omega)
  have e2 : IntKind.i64.wrap (y + hi) = y + hi := IntWalk.i64_in _ (by simp at h1 h2 h3 h4 s1 s2 s3; omega)
  have hb : Below w.heap.size w (((w.alloc (.cells #[.int .i64 x,.int .i64 y] 82)).alloc (.cells #[.int .i64 lo,.int .i64 hi] 33)).alloc (.cells #[.int .i64 (x + lo),.int .i64 (y + hi)] 82)) :=
    (((Below.refl _ w).alloc (Nat.le_refl _) _).alloc (by simp) _).alloc (by simp; omega) _
  have HB := Lib.hid hb
  have HN := Lib.hid (World.alloc_heap_new ((w.alloc (.cells #[.int .i64 x,.int .i64 y] 82)).alloc (.cells #[.int .i64 lo,.int .i64 hi] 33)) (.cells #[.int .i64 (x + lo),.int .i64 (y + hi)] 82))
  clear hb h1 h2 h3 h4 s1 s2 s3 hs
  go_enter Try.func83,Try.ntmps83
  go_wp2_with fail
  have hn := HN.out
  simp only [World.size_alloc] at hn
  exact bodyPost_ret (v := .agg #[.int .i64 (x + lo),.int .i64 (y + hi)]) (res_c82 rfl _ rfl ((cell_of_heap hn).trans rfl) ((cell_of_heap hn).trans rfl)) rfl ⟨rfl,HB.out⟩
theorem from100 {x y v : Int} {w : World} :
    Calls Try.prog 100 #[.agg #[.int .i64 x,.int .i64 y],.int .i64 v] w fun e w' => e = .returned (.agg #[.int .i64 (max x v),.int .i64 (max y v)]) ∧ Below w.heap.size w w' := by
  have HB : Hid (∀ p q : Int,Below w.heap.size w ((w.alloc (.cells #[.int .i64 x,.int .i64 y] 82)).alloc (.cells #[.int .i64 p,.int .i64 q] 82))) := fun p q =>
    ((Below.refl _ w).alloc (Nat.le_refl _) _).alloc (by simp) _
  have HN : Hid (∀ p q : Int,((w.alloc (.cells #[.int .i64 x,.int .i64 y] 82)).alloc (.cells #[.int .i64 p,.int .i64 q] 82)).heap[w.heap.size + 1]? = some (.cells #[.int .i64 p,.int .i64 q] 82 (0,0))) := fun p q => by
    have h := World.alloc_heap_new (w.alloc (.cells #[.int .i64 x,.int .i64 y] 82)) (.cells #[.int .i64 p,.int .i64 q] 82)
    rw [World.size_alloc] at h
    exact h
  go_enter Try.func100,Try.ntmps100
  go_wp2_with fail
  all_goals refine bodyPost_ret (res_c82 rfl _ rfl ((cell_of_heap (HN.out _ _)).trans rfl) ((cell_of_heap (HN.out _ _)).trans rfl)) rfl ⟨?_,HB.out _ _⟩
  all_goals exact ret_mv (by omega) (by omega)
end Go.Proofs.Ytphefhpmbahagaa

namespace Go.Proofs.Ytphefhpmbahagaa
open Go.RowKit
set_option linter.unusedVariables false
set_option linter.unusedSimpArgs false

set_option maxRecDepth 100000 in
set_option maxHeartbeats 1000000 in
theorem begin82_first {t : Tr} {A : TrA} {tb : Nat} {w : World} (hP : TourP w tb t A) (hF : t.Fit) {v : Nat} (hv : v < t.frm.length) {x y : Int} (hL : Low (x,y)) :
    Calls Try.prog 82 #[.pointer (some ⟨tb,0,none⟩),.int .i64 (-1),.int .i64 v,.agg #[.int .i64 x,.int .i64 y]] w fun e w' => e = .returned (mv (t.begin (-1) v (x,y))) ∧ Below w.heap.size w w' := by
  have hmf : ∀ (fn : Fn) (first cap : Array Value) (w : World),(Instr.makeFunc fn first cap).run Try.prog w = .ok (.func fn first cap) w := fun _ _ _ _ => rfl
  obtain ⟨_,c1,c2,_,c4,_⟩ := hP.cells
  obtain ⟨fb,fo,f0,f1,f2⟩ := hP.tr.frm v hv
  obtain ⟨lb,lo,l0,l1,l2⟩ := hP.tr.light v (by rw [hF.light]; exact hv)
  rw [f0] at c1
  rw [l0] at c4
  have hfl := hv
  have hll : v < t.light.length := by rw [hF.light]; exact hv
  have hn := hF.n
  have b1 := lt_of_cell c1
  have b2 := lt_of_cell f1
  have b3 := lt_of_cell l1
  have HA := Lib.hid (fun w => after83 (w := w) hL (hF.okf v hv))
  have HBG : Hid (t.begin (-1) v (x,y) = (max (x + (gs t.frm v).lo) (gs t.light v).lo,max (y + (gs t.frm v).hi) (gs t.light v).lo)) := by
    simp [Hid,Tr.begin,Tr.way]
  clear hP f0 l0 hF hL
  revert f1 f2 l1 l2 HA HBG
  generalize gs t.frm v = s
  generalize (gs t.light v).lo = g
  intro f1 f2 l1 l2 HA HBG
  have BW : Hid (Below w.heap.size w (((w.alloc (.cells #[.int .i64 x,.int .i64 y] 82)).alloc (.cells #[.int .i64 0,.int .i64 0] 82)).alloc (.cells #[.int .i64 s.lo,.int .i64 s.hi] 33))) :=
    (((Below.refl _ w).alloc (Nat.le_refl _) _).alloc (by simp) _).alloc (by simp; omega) _
  have QR : Hid ((((w.alloc (.cells #[.int .i64 x,.int .i64 y] 82)).alloc (.cells #[.int .i64 0,.int .i64 0] 82)).alloc (.cells #[.int .i64 s.lo,.int .i64 s.hi] 33)).heap[w.heap.size + 1]? = some (.cells #[.int .i64 0,.int .i64 0] 82 (0,0))) := by
    have h := World.alloc_heap_new (w.alloc (.cells #[.int .i64 x,.int .i64 y] 82)) (.cells #[.int .i64 0,.int .i64 0] 82)
    rw [World.size_alloc] at h
    exact (((Below.refl _ _).alloc (Nat.le_refl _) _).block _ (by simp)).trans h
  go_enter Try.func82,Try.ntmps82
  go_wp2_with fail
  refine (HA.out _).mono ?_
  rintro e w2 ⟨rfl,hb2⟩
  have hb : Below w.heap.size w w2 := BW.out.trans (hb2.mono (by simp; omega))
  have q2 := (hb2.block _ (by simp)).trans QR.out
  have c4' := cell_stays hb c4
  have l1' := cell_stays hb l1
  have k0 : w2.cell? ⟨w.heap.size + 1,0,none⟩ = some (.int .i64 0) := by rw [cell_of_heap q2]; rfl
  have k1 : w2.cell? ⟨w.heap.size + 1,1,none⟩ = some (.int .i64 0) := by rw [cell_of_heap q2]; rfl
  have fz : ∀ k,w2.frozen? ⟨w.heap.size + 1,k,none⟩ = false := fun k => frozen_of_heap q2
  have HB := Lib.hid hb
  have HQ := Lib.hid q2
  clear hb hb2 q2 BW QR HA
  go_wp2_with fail
  refine from100.mono ?_
  rintro e w3 ⟨rfl,hb3⟩
  have k0' := cell_stays hb3 k0
  have k1' := cell_stays hb3 k1
  have q3 := (hb3.block _ (heap_lt HQ.out)).trans HQ.out
  have fz' : ∀ k,w3.frozen? ⟨w.heap.size + 1,k,none⟩ = false := fun k => frozen_of_heap q3
  have HB3 := Lib.hid (HB.out.trans (hb3.mono HB.out.size))
  have HQ3 := Lib.hid q3
  clear hb3 q3 k0 k1 fz
  go_wp2_with fail
  have Q1 := heap_setCell_at (k := 0) HQ3.out (.int .i64 (max (x + s.lo) g))
  have Q2 := heap_setCell_at (k := 1) Q1 (.int .i64 (max (y + s.hi) g))
  refine bodyPost_ret (res_c82 rfl _ rfl ((cell_of_heap Q2).trans rfl) ((cell_of_heap Q2).trans rfl)) rfl ⟨?_,(HB3.out.setCell (Nat.le_succ _) _).setCell (Nat.le_succ _) _⟩
  rw [HBG.out]
  rfl
set_option maxRecDepth 100000 in
set_option maxHeartbeats 1000000 in
theorem begin82_next {t : Tr} {A : TrA} {tb : Nat} {w : World} (hP : TourP w tb t A) (hF : t.Fit) {v m : Nat} (hv : v < t.frm.length) (hm : m < t.frm.length) {x y : Int} (hL : Low (x,y)) :
    Calls Try.prog 82 #[.pointer (some ⟨tb,0,none⟩),(.int .i64 m),.int .i64 v,.agg #[.int .i64 x,.int .i64 y]] w fun e w' => e = .returned (mv (t.begin m v (x,y))) ∧ Below w.heap.size w w' := by
  have hmf : ∀ (fn : Fn) (first cap : Array Value) (w : World),(Instr.makeFunc fn first cap).run Try.prog w = .ok (.func fn first cap) w := fun _ _ _ _ => rfl
  obtain ⟨_,c1,c2,_,c4,_⟩ := hP.cells
  obtain ⟨fb,fo,f0,f1,f2⟩ := hP.tr.frm v hv
  obtain ⟨lb,lo,l0,l1,l2⟩ := hP.tr.light v (by rw [hF.light]; exact hv)
  rw [f0] at c1
  rw [l0] at c4
  have hfl := hv
  have hll : v < t.light.length := by rw [hF.light]; exact hv
  have hn := hF.n
  obtain ⟨wb,wo,w0,ai,ci,w1,hri⟩ := hP.tr.ways m (by rw [hF.ways]; exact hm)
  obtain ⟨rb,ro,r0,r1,r2⟩ := hri v (by rw [hF.rows m hm]; exact hv)
  rw [w0] at c2
  rw [r0] at w1
  have hrw := hF.rows m hm
  have hww := hF.ways
  have hrl : v < (gw t.ways m).length := by omega
  have hwl : m < t.ways.length := by omega
  have b4 := lt_of_cell w1
  have b5 := lt_of_cell r1
  have b6 := lt_of_cell c2
  have b1 := lt_of_cell c1
  have b2 := lt_of_cell f1
  have b3 := lt_of_cell l1
  have HA := Lib.hid (fun w => after83 (w := w) hL (hF.okw m v hm hv))
  have HBG : Hid (t.begin m v (x,y) = (max (x + (gs (gw t.ways m) v).lo) (gs t.light v).lo,max (y + (gs (gw t.ways m) v).hi) (gs t.light v).lo)) := by
    have e : ¬ (m : Int) = -1 := by omega
    simp [Hid,Tr.begin,Tr.way,e]
  have BF : Below w.heap.size w (((w.alloc (.cells #[.int .i64 x,.int .i64 y] 82)).alloc (.cells #[.int .i64 0,.int .i64 0] 82)).alloc (.cells #[.int .i64 (gs t.frm v).lo,.int .i64 (gs t.frm v).hi] 33)) :=
    (((Below.refl _ w).alloc (Nat.le_refl _) _).alloc (by simp) _).alloc (by simp; omega) _
  have g2 := cell_stays BF c2
  have g3 := cell_stays BF w1
  have r1' := cell_stays BF r1
  have r2' := cell_stays BF r2
  have hmb : ((m : Int) != -1) = true := by simp
  clear hP f0 l0 hF hL hri w0 r0 BF
  revert l1 l2 r1 r2 r1' r2' HA HBG
  generalize gs (gw t.ways m) v = s
  generalize (gs t.light v).lo = g
  intro l1 l2 r1 r2 HA HBG r1' r2'
  have BW : Hid (Below w.heap.size w (((w.alloc (.cells #[.int .i64 x,.int .i64 y] 82)).alloc (.cells #[.int .i64 0,.int .i64 0] 82)).alloc (.cells #[.int .i64 s.lo,.int .i64 s.hi] 33))) :=
    (((Below.refl _ w).alloc (Nat.le_refl _) _).alloc (by simp) _).alloc (by simp; omega) _
  have QR : Hid ((((w.alloc (.cells #[.int .i64 x,.int .i64 y] 82)).alloc (.cells #[.int .i64 0,.int .i64 0] 82)).alloc (.cells #[.int .i64 s.lo,.int .i64 s.hi] 33)).heap[w.heap.size + 1]? = some (.cells #[.int .i64 0,.int .i64 0] 82 (0,0))) := by
    have h := World.alloc_heap_new (w.alloc (.cells #[.int .i64 x,.int .i64 y] 82)) (.cells #[.int .i64 0,.int .i64 0] 82)
    rw [World.size_alloc] at h
    exact (((Below.refl _ _).alloc (Nat.le_refl _) _).block _ (by simp)).trans h
  go_enter Try.func82,Try.ntmps82
  go_wp2_with fail
  refine (HA.out _).mono ?_
  rintro e w2 ⟨rfl,hb2⟩
  have hb : Below w.heap.size w w2 := BW.out.trans (hb2.mono (by simp; omega))
  have q2 := (hb2.block _ (by simp)).trans QR.out
  have c4' := cell_stays hb c4
  have l1' := cell_stays hb l1
  have k0 : w2.cell? ⟨w.heap.size + 1,0,none⟩ = some (.int .i64 0) := by rw [cell_of_heap q2]; rfl
  have k1 : w2.cell? ⟨w.heap.size + 1,1,none⟩ = some (.int .i64 0) := by rw [cell_of_heap q2]; rfl
  have fz : ∀ k,w2.frozen? ⟨w.heap.size + 1,k,none⟩ = false := fun k => frozen_of_heap q2
  have HB := Lib.hid hb
  have HQ := Lib.hid q2
  clear hb hb2 q2 BW QR HA
  go_wp2_with fail
  refine from100.mono ?_
  rintro e w3 ⟨rfl,hb3⟩
  have k0' := cell_stays hb3 k0
  have k1' := cell_stays hb3 k1
  have q3 := (hb3.block _ (heap_lt HQ.out)).trans HQ.out
  have fz' : ∀ k,w3.frozen? ⟨w.heap.size + 1,k,none⟩ = false := fun k => frozen_of_heap q3
  have HB3 := Lib.hid (HB.out.trans (hb3.mono HB.out.size))
  have HQ3 := Lib.hid q3
  clear hb3 q3 k0 k1 fz
  go_wp2_with fail
  have Q1 := heap_setCell_at (k := 0) HQ3.out (.int .i64 (max (x + s.lo) g))
  have Q2 := heap_setCell_at (k := 1) Q1 (.int .i64 (max (y + s.hi) g))
  refine bodyPost_ret (res_c82 rfl _ rfl ((cell_of_heap Q2).trans rfl) ((cell_of_heap Q2).trans rfl)) rfl ⟨?_,(HB3.out.setCell (Nat.le_succ _) _).setCell (Nat.le_succ _) _⟩
  rw [HBG.out]
  rfl
end Go.Proofs.Ytphefhpmbahagaa

namespace Go.Proofs.Ytphefhpmbahagaa
open Go.RowKit
set_option linter.unusedVariables false
set_option linter.unusedSimpArgs false

set_option maxRecDepth 100000 in
set_option maxHeartbeats 1000000 in
theorem holds59 {t : Tr} {A : TrA} {tb : Nat} {w : World} (hP : TourP w tb t A) (hF : t.Fit) {v : Nat} (hv : v < t.frm.length) (x y : Int) :
    Calls Try.prog 59 #[.agg #[],.pointer (some ⟨tb,0,none⟩),.int .i64 v,.agg #[.int .i64 x,.int .i64 y]] w fun e w' => e = .returned (.bool (decide (y ≤ (gs t.light v).hi))) ∧ Below w.heap.size w w' := by
  obtain ⟨_,_,_,_,c4,_⟩ := hP.cells
  obtain ⟨lb,lo,l0,l1,l2⟩ := hP.tr.light v (by rw [hF.light]; exact hv)
  rw [l0] at c4
  have hll : v < t.light.length := by rw [hF.light]; exact hv
  have hn := hF.n
  have hlc := hF.light
  have hb : Below w.heap.size w ((w.alloc (.cells #[] 74)).alloc (.cells #[.int .i64 x,.int .i64 y] 82)) := ((Below.refl _ w).alloc (Nat.le_refl _) _).alloc (by simp) _
  have k0 : ((w.alloc (.cells #[] 74)).alloc (.cells #[.int .i64 x,.int .i64 y] 82)).cell? ⟨w.heap.size + 1,1,none⟩ = some (.int .i64 y) := by
    have h := World.alloc_heap_new (w.alloc (.cells #[] 74)) (.cells #[.int .i64 x,.int .i64 y] 82)
    rw [World.size_alloc] at h
    rw [cell_of_heap h]
    rfl
  have g4 := cell_stays hb c4
  have g2 := cell_stays hb l2
  clear hP hF l0 l1 l2 c4
  revert g2
  generalize (gs t.light v).hi = g
  intro g2
  go_enter Try.func59,Try.ntmps59
  go_upto_region 1 with fail
  revert hb k0 g4 g2
  generalize (w.alloc (.cells #[] 74)).alloc (.cells #[.int .i64 x,.int .i64 y] 82) = w1
  intro hb k0 g4 g2
  have HB := Lib.hid hb
  have z0 := fun u : Aft w1.heap.size w1 => cell_stays u.h k0
  have z1 := fun u : Aft w1.heap.size w1 => cell_stays u.h g4
  have z2 := fun u : Aft w1.heap.size w1 => cell_stays u.h g2
  clear hb k0 g4 g2
  refine wp_region_aft mixed (by kernel_rfl) ?_
  repeat (go_big_quiet_step (fail))
  refine wpQuiet_nil ?_
  rintro _ ⟨u,rfl⟩
  go_wp2_with fail
  go_ret
  exact ⟨rfl,HB.out.trans (u.h.mono HB.out.size)⟩
set_option maxRecDepth 100000 in
set_option maxHeartbeats 1000000 in
theorem holds60 {t : Tr} {A : TrA} {tb : Nat} {w : World} (hP : TourP w tb t A) (hF : t.Fit) {v : Nat} (hv : v < t.frm.length) (x y : Int) :
    Calls Try.prog 60 #[.agg #[],.pointer (some ⟨tb,0,none⟩),.int .i64 v,.agg #[.int .i64 x,.int .i64 y]] w fun e w' => e = .returned (.bool (decide (x ≤ (gs t.light v).hi))) ∧ Below w.heap.size w w' := by
  obtain ⟨_,_,_,_,c4,_⟩ := hP.cells
  obtain ⟨lb,lo,l0,l1,l2⟩ := hP.tr.light v (by rw [hF.light]; exact hv)
  rw [l0] at c4
  have hll : v < t.light.length := by rw [hF.light]; exact hv
  have hn := hF.n
  have hlc := hF.light
  have hb : Below w.heap.size w ((w.alloc (.cells #[] 75)).alloc (.cells #[.int .i64 x,.int .i64 y] 82)) := ((Below.refl _ w).alloc (Nat.le_refl _) _).alloc (by simp) _
  have k0 : ((w.alloc (.cells #[] 75)).alloc (.cells #[.int .i64 x,.int .i64 y] 82)).cell? ⟨w.heap.size + 1,0,none⟩ = some (.int .i64 x) := by
    have h := World.alloc_heap_new (w.alloc (.cells #[] 75)) (.cells #[.int .i64 x,.int .i64 y] 82)
    rw [World.size_alloc] at h
    rw [cell_of_heap h]
    rfl
  have g4 := cell_stays hb c4
  have g2 := cell_stays hb l2
  clear hP hF l0 l1 l2 c4
  revert g2
  generalize (gs t.light v).hi = g
  intro g2
  go_enter Try.func60,Try.ntmps60
  go_upto_region 1 with fail
  revert hb k0 g4 g2
  generalize (w.alloc (.cells #[] 75)).alloc (.cells #[.int .i64 x,.int .i64 y] 82) = w1
  intro hb k0 g4 g2
  have HB := Lib.hid hb
  have z0 := fun u : Aft w1.heap.size w1 => cell_stays u.h k0
  have z1 := fun u : Aft w1.heap.size w1 => cell_stays u.h g4
  have z2 := fun u : Aft w1.heap.size w1 => cell_stays u.h g2
  clear hb k0 g4 g2
  refine wp_region_aft mixed (by kernel_rfl) ?_
  repeat (go_big_quiet_step (fail))
  refine wpQuiet_nil ?_
  rintro _ ⟨u,rfl⟩
  go_wp2_with fail
  go_ret
  exact ⟨rfl,HB.out.trans (u.h.mono HB.out.size)⟩
theorem over84 {nb : Nat} {x y : Int} {w : World} (h0 : w.cell? ⟨nb,0,none⟩ = some (.int .i64 x)) (h1 : w.cell? ⟨nb,1,none⟩ = some (.int .i64 y)) :
    Calls Try.prog 84 #[.pointer (some ⟨nb,0,none⟩)] w fun e w' => e = .returned (mv (x,y)) ∧ Below w.heap.size w w' := by
  have HB : Hid (Below w.heap.size w (w.alloc (.cells #[.int .i64 x,.int .i64 y] 82))) := (Below.refl _ w).alloc (Nat.le_refl _) _
  have HN := Lib.hid (World.alloc_heap_new w (.cells #[.int .i64 x,.int .i64 y] 82))
  have b0 := lt_of_cell h0
  go_enter Try.func84,Try.ntmps84
  go_wp2_with fail
  have hn := HN.out
  exact bodyPost_ret (v := .agg #[.int .i64 x,.int .i64 y]) (res_c82 rfl _ rfl ((cell_of_heap hn).trans rfl) ((cell_of_heap hn).trans rfl)) rfl ⟨rfl,HB.out⟩
end Go.Proofs.Ytphefhpmbahagaa

namespace Go.Proofs.Ytphefhpmbahagaa
open Go.RowKit
set_option linter.unusedVariables false
section
variable {P : Program}

/-- An iterator with blocks X of its own; Sd: what holds at its end. An iterator that hands over N elements,one after the other,as long as the rounds want more. C: the consumer's blocks,which it leaves alone; K: the blocks of an element,which the consumer may keep. -/
def IterX (P : Program) (g : Nat) (lb : Array Value) (N : Nat) (Ok : Nat → Array Value → World → (Nat → Prop) → Prop) (M X : Nat → Prop) (Sd : World → Prop) (W : World) : Prop :=
  ∀ (l : Nat) (J Jx : Nat → World → (Nat → Prop) → Prop),
    (∀ i A B C,J i A C → Same (fun k => ¬ C k) A B → J i B C) → (∀ i A B C,Jx i A C → Same (fun k => ¬ C k) A B → Jx i B C) →
    (∀ i v A C K,i < N → Ok i v A K → (∀ k,K k → ¬ C k) → J i A C → YieldAt Fence.wide 0 P l v A fun e B => Same (mayC M W.heap.size C) A B ∧
      ∃ C' : Nat → Prop,(∀ k,k < W.heap.size → ¬ X k → C' k) ∧ (∀ k,C' k → k < B.heap.size) ∧ (∀ k,C' k → C k ∨ K k ∨ A.heap.size ≤ k) ∧ ((e = .returned (.bool true) ∧ J (i + 1) B C') ∨ (e = .returned (.bool false) ∧ Jx (i + 1) B C'))) →
    J 0 W (fun k => k < W.heap.size ∧ ¬ X k) →
    CallsIn Fence.wide 0 P g (#[.func (.yield l) #[] #[]] ++ lb) W fun e W' => (∃ v,e = .returned v) ∧ ∃ C',(J N W' C' ∧ Sd W') ∨ ∃ i,i < N ∧ Jx (i + 1) W' C'

/-- How a round's body may end. -/
def roundEndX (l B : Nat) (X M C K : Nat → Prop) (I : Nat → World → (Nat → Prop) → Prop) (Ix : Code → Nat → World → (Nat → Prop) → Prop) (i : Nat) (W : World) : Exit → Act → World → Prop
  | .normal,_,W' => Same (mayC M B C) W W' ∧ W'.heap[l]? = W.heap[l]? ∧ ∃ C' : Nat → Prop,(∀ k,k < B → ¬ X k → C' k) ∧ (∀ k,C' k → k < W'.heap.size) ∧ (∀ k,C' k → C k ∨ K k ∨ W.heap.size ≤ k) ∧ I (i + 1) W' C'
  | .ret,_,W' => Same (mayC M B C) W W' ∧ W'.heap[l]? = W.heap[l]? ∧ ∃ C' : Nat → Prop,(∀ k,k < B → ¬ X k → C' k) ∧ (∀ k,C' k → k < W'.heap.size) ∧ (∀ k,C' k → C k ∨ K k ∨ W.heap.size ≤ k) ∧ Ix .ret (i + 1) W' C'
  | .exit id,_,W' => Same (mayC M B C) W W' ∧ W'.heap[l]? = W.heap[l]? ∧ ∃ C' : Nat → Prop,(∀ k,k < B → ¬ X k → C' k) ∧ (∀ k,C' k → k < W'.heap.size) ∧ (∀ k,C' k → C k ∨ K k ∨ W.heap.size ≤ k) ∧ Ix (.exit id) (i + 1) W' C'
  | .goto _,_,_ => False
  | .panic _,_,_ => False
  | .outgrown,_,_ => False

theorem wp_rangeFuncX {g : Operand} {ps : Array Tmp} {assign body : Code} {Q : Exit → Act → World → Prop} {a : Act} {w : World}
    {gf : Nat} {lb : Array Value} (hg : a.eval g = .func (.func gf) #[] lb) (eg : ∀ args w,(callFunc gf args).run P w = .ok (.enter gf args) w)
    (N : Nat) (Ok : Nat → Array Value → World → (Nat → Prop) → Prop) (M X : Nat → Prop) (Sd : World → Prop) (hX : ∀ k,X k → k < w.heap.size) (hSd : ∀ A B,Sd A → Same (fun k => k = w.heap.size + 1) A B → Sd B) (hps : ∀ i v A K,Ok i v A K → v.size = ps.size)
    (hMD : ¬ M w.heap.size) (hMl : M (w.heap.size + 1))
    (hit : ∀ W,Below w.heap.size w W → W.heap.size = w.heap.size + 2 → IterX P gf lb N Ok M X Sd W)
    (I : Nat → World → (Nat → Prop) → Prop) (Ix : Code → Nat → World → (Nat → Prop) → Prop)
    (hI : ∀ i A B C,I i A C → Same (fun k => ¬ C k ∨ k = w.heap.size + 1) A B → I i B C) (hIx : ∀ c i A B C,Ix c i A C → Same (fun k => ¬ C k ∨ k = w.heap.size + 1) A B → Ix c i B C)
    (h0 : ∀ W,Below w.heap.size w W → W.heap.size = w.heap.size + 2 → I 0 W (fun k => k < w.heap.size + 2 ∧ ¬ X k))
    (hround : ∀ i v W C K,i < N → Ok i v W K → (∀ k,K k → ¬ C k) → (∀ k,k < w.heap.size + 2 → ¬ X k → C k) → I i W C → w.heap.size + 1 < W.heap.size →
      assign.wpIn (Fence.wide.inRound (w.heap.size + 1)) 0 P (Exit.then (fun a₁ W₁ => Below W.heap.size W W₁ ∧
          ∀ W₂,Same (fun k => k = w.heap.size + 1) W₁ W₂ → W₂.heap.size = W₁.heap.size → body.wpIn (Fence.wide.inRound (w.heap.size + 1)) 0 P (roundEndX (w.heap.size + 1) (w.heap.size + 2) X M C K I Ix i W₂) a₁ W₂) (fun _ _ _ => False))
        { tmps := (ps.zip v).foldl (fun t (p,v) => t.setIfInBounds p v) a.tmps,defers := [] } W)
    (hdone : ∀ W C,I N W C → Sd W → W.heap[w.heap.size]? = some (.deferred (some [])) → Q .normal { a with defers := { target := .collected w.heap.size,args := #[] } :: a.defers } W)
    (hstop : ∀ c i W C,i < N → Ix c (i + 1) W C → W.heap[w.heap.size]? = some (.deferred (some [])) → c.wp P Q { a with defers := { target := .collected w.heap.size,args := #[] } :: a.defers } W) :
    (Code.rangeFunc g ps assign body).wp P Q a w := by
  rw [← wpIn_wide (n := 0)]
  refine wpIn_rangeFunc ?_
  intro fn hfn
  obtain ⟨rec,hrec⟩ : ∃ rec : LoopState → Option Code → Loop,rec = fun st pe => { state := st,pending := pe,fn,tmps := a.tmps,params := ps,assign,body,defers := w.heap.size } := ⟨_,rfl⟩
  obtain ⟨W1,hW1⟩ : ∃ W1,(w.alloc (.deferred (some []))).alloc (.loop (rec .ready none)) = W1 := ⟨_,rfl⟩
  have hL1 : W1.heap[w.heap.size + 1]? = some (.loop (rec .ready none)) := by
    rw [← hW1]; have := World.alloc_heap_new (w.alloc (.deferred (some []))) (.loop (rec .ready none)); rwa [World.size_alloc] at this
  have hK1 : W1.heap[w.heap.size]? = some (.deferred (some [])) := by
    rw [← hW1]; exact (Below.heap_alloc _ _ _ (by simp)).trans (World.alloc_heap_new w _)
  have hs1 : W1.heap.size = w.heap.size + 2 := by rw [← hW1]; simp
  have hb1 : Below w.heap.size w W1 := by rw [← hW1]; exact ((Below.refl _ w).alloc (Nat.le_refl _) _).alloc (by simp) _
  refine ⟨w.heap.size + 1,[{ target := .collected w.heap.size,args := #[] }],W1,{ target := .fn (.func gf) lb,args := #[.func (.yield (w.heap.size + 1)) #[] #[]] },W1,gf,
    #[.func (.yield (w.heap.size + 1)) #[] #[]] ++ lb,W1,?_,?_,?_,?_,fun h => by simp [Fence.wide] at h,?_⟩
  · rw [← hW1,hrec]; exact run_enterLoop_outer _ _ _ _ _
  · simp only [resolve,hg]
    simp [go_sem]
  · intro f' hf'; trivial
  · simp [invoke,go_sem,eg]
  · have hput : ∀ (W : World) (o : Obj),Same (fun k => k = w.heap.size + 1) W (W.putObj (w.heap.size + 1) o) := fun W o => Same.putObj (M := fun k => k = w.heap.size + 1) (Same.refl _ W) (.inl rfl) o
    have hl2' : w.heap.size + 1 < w.heap.size + 2 := by omega
    have hD2' : w.heap.size < w.heap.size + 2 := by omega
    have hnl : ¬ X (w.heap.size + 1) := fun h => by have := hX _ h; omega
    have hnd : ¬ X w.heap.size := fun h => by have := hX _ h; omega
    have liftM : ∀ {A B : World} {C : Nat → Prop},(∀ k,k < w.heap.size + 2 → ¬ X k → C k) → Same (fun k => k = w.heap.size + 1) A B → Same (mayC M W1.heap.size C) A B := fun hC h => h.mono (fun _ _ e => by
      subst e; exact ⟨hC _ hl2' hnl,fun _ => hMl⟩)
    have liftI : ∀ {A B : World} {C : Nat → Prop},Same (fun k => k = w.heap.size + 1) A B → Same (fun k => ¬ C k ∨ k = w.heap.size + 1) A B := fun h => h.mono (fun _ _ e => .inr e)
    have hnD : ∀ C,¬ mayC M W1.heap.size C w.heap.size := fun C h => hMD (h.2 (by omega))
    refine (hit W1 hb1 hs1 (w.heap.size + 1)
      (fun i W C => I i W C ∧ (∀ k,k < w.heap.size + 2 → ¬ X k → C k) ∧ W.heap[w.heap.size + 1]? = some (.loop (rec .ready none)) ∧ W.heap[w.heap.size]? = some (.deferred (some [])))
      (fun i W C => ∃ c,Ix c i W C ∧ (∀ k,k < w.heap.size + 2 → ¬ X k → C k) ∧ W.heap[w.heap.size + 1]? = some (.loop (rec .done (some c))) ∧ W.heap[w.heap.size]? = some (.deferred (some [])))
      (fun i A B C hs hg' => ⟨hI i A B C hs.1 (hg'.mono (fun _ _ e => .inl e)),hs.2.1,(hg'.block _ (Array.getElem?_eq_some_iff.1 hs.2.2.1).1 (fun h => h (hs.2.1 _ hl2' hnl))).trans hs.2.2.1,(hg'.block _ (Array.getElem?_eq_some_iff.1 hs.2.2.2).1 (fun h => h (hs.2.1 _ hD2' hnd))).trans hs.2.2.2⟩)
      (fun i A B C hs hg' => by
        obtain ⟨c,hc,hC,hl,hk⟩ := hs
        exact ⟨c,hIx c i A B C hc (hg'.mono (fun _ _ e => .inl e)),hC,(hg'.block _ (Array.getElem?_eq_some_iff.1 hl).1 (fun h => h (hC _ hl2' hnl))).trans hl,(hg'.block _ (Array.getElem?_eq_some_iff.1 hk).1 (fun h => h (hC _ hD2' hnd))).trans hk⟩)
      ?_ ⟨by rw [hs1]; exact h0 W1 hb1 hs1,fun k hk hx => ⟨by omega,hx⟩,hL1,hK1⟩).mono ?_
    · rintro i v W C K hiN hok hKC ⟨hi,hC,hl,hk⟩
      have hlt : w.heap.size + 1 < W.heap.size := (Array.getElem?_eq_some_iff.1 hl).1
      have hy := run_yield (P := P) (args := v) hl (by rw [hrec]; exact hps i v W K hok)
      rw [hrec] at hy
      refine ⟨fn,_,assign,body,hy,roundIn_of_wpIn hfn (wpIn_mono (hround i v W C K hiN hok hKC hC hi hlt) ?_)⟩
      rintro e a₁ Wa hp
      cases e with
      | normal =>
        obtain ⟨hbW,hbody⟩ := hp
        have hl' := (hbW.block _ hlt).trans hl
        have hk' := (hbW.block _ (Array.getElem?_eq_some_iff.1 hk).1).trans hk
        have hlt' := (Array.getElem?_eq_some_iff.1 hl').1
        refine ⟨_,run_beginRound hl' (by rw [hrec]),?_⟩
        have hl2 : (Wa.putObj (w.heap.size + 1) (.loop { rec .ready none with state := .busy })).heap[w.heap.size + 1]? = some (.loop { rec .ready none with state := .busy }) := World.putObj_heap_same hlt'
        have hk2 : (Wa.putObj (w.heap.size + 1) (.loop { rec .ready none with state := .busy })).heap[w.heap.size]? = some (.deferred (some [])) := (World.putObj_heap_other (by omega)).trans hk'
        have hs2 := hput Wa (.loop { rec .ready none with state := .busy })
        refine wpIn_mono (hbody _ hs2 (by simp)) ?_
        have fin : ∀ (jump : Option Code) (W3 : World),Same (mayC M (w.heap.size + 2) C) (Wa.putObj (w.heap.size + 1) (.loop { rec .ready none with state := .busy })) W3 → W3.heap[w.heap.size + 1]? = (Wa.putObj (w.heap.size + 1) (.loop { rec .ready none with state := .busy })).heap[w.heap.size + 1]? →
            (Instr.endRound (w.heap.size + 1) jump).run P W3 = .ok (.bool jump.isNone) (W3.putObj (w.heap.size + 1) (.loop (rec (if jump.isNone then .ready else .done) jump))) ∧
            (W3.putObj (w.heap.size + 1) (.loop (rec (if jump.isNone then .ready else .done) jump))).heap[w.heap.size + 1]? = some (.loop (rec (if jump.isNone then .ready else .done) jump)) ∧
            (W3.putObj (w.heap.size + 1) (.loop (rec (if jump.isNone then .ready else .done) jump))).heap[w.heap.size]? = some (.deferred (some [])) ∧
            Same (fun k => k = w.heap.size + 1) W3 (W3.putObj (w.heap.size + 1) (.loop (rec (if jump.isNone then .ready else .done) jump))) ∧
            Same (mayC M W1.heap.size C) Wa (W3.putObj (w.heap.size + 1) (.loop (rec (if jump.isNone then .ready else .done) jump))) := fun jump W3 hk3 hl3 => by
          rw [hl2] at hl3
          rw [← hs1] at hk3
          have hlt3 := (Array.getElem?_eq_some_iff.1 hl3).1
          have hkk := (hk3.block _ (Array.getElem?_eq_some_iff.1 hk2).1 (hnD C)).trans hk2
          have := run_endRound (P := P) jump hl3
          rw [hrec] at this ⊢
          exact ⟨this,World.putObj_heap_same hlt3,(World.putObj_heap_other (by omega)).trans hkk,hput _ _,((liftM hC hs2).trans hk3).trans (liftM hC (hput _ _))⟩
        have hsz : (Wa.putObj (w.heap.size + 1) (.loop { rec .ready none with state := .busy })).heap.size = Wa.heap.size := by simp
        rintro e a3 W3 hp
        cases e with
        | normal =>
          obtain ⟨hk3,hl3,C',hC',hCB,hCK,hi3⟩ := hp
          obtain ⟨hr,hl4,hk4,hs4,hs5⟩ := fin none W3 hk3 hl3
          rw [hsz] at hCK
          exact ⟨_,_,hr,(Same.of_below _ hbW).trans hs5,C',by rw [hs1]; exact hC',fun k hk' => by simpa using hCB k hk',fun k hk => (hCK k hk).elim .inl fun h => .inr (h.elim .inl fun h => .inr (Nat.le_trans hbW.size h)),.inl ⟨rfl,hI _ _ _ _ hi3 (liftI hs4),hC',hl4,hk4⟩⟩
        | ret =>
          obtain ⟨hk3,hl3,C',hC',hCB,hCK,hi3⟩ := hp
          obtain ⟨hr,hl4,hk4,hs4,hs5⟩ := fin (some .ret) W3 hk3 hl3
          rw [hsz] at hCK
          exact ⟨_,_,hr,(Same.of_below _ hbW).trans hs5,C',by rw [hs1]; exact hC',fun k hk' => by simpa using hCB k hk',fun k hk => (hCK k hk).elim .inl fun h => .inr (h.elim .inl fun h => .inr (Nat.le_trans hbW.size h)),.inr ⟨rfl,.ret,hIx _ _ _ _ _ hi3 (liftI hs4),hC',hl4,hk4⟩⟩
        | exit id =>
          obtain ⟨hk3,hl3,C',hC',hCB,hCK,hi3⟩ := hp
          obtain ⟨hr,hl4,hk4,hs4,hs5⟩ := fin (some (.exit id)) W3 hk3 hl3
          rw [hsz] at hCK
          exact ⟨_,_,hr,(Same.of_below _ hbW).trans hs5,C',by rw [hs1]; exact hC',fun k hk' => by simpa using hCB k hk',fun k hk => (hCK k hk).elim .inl fun h => .inr (h.elim .inl fun h => .inr (Nat.le_trans hbW.size h)),.inr ⟨rfl,.exit id,hIx _ _ _ _ _ hi3 (liftI hs4),hC',hl4,hk4⟩⟩
        | goto t => exact hp.elim
        | panic ch => exact hp.elim
        | outgrown => exact hp.elim
      | exit id => exact hp.elim
      | goto t => exact hp.elim
      | ret => exact hp.elim
      | panic chain => exact hp.elim
      | outgrown => exact hp.elim
    · rintro e W2 ⟨⟨v,rfl⟩,C',(⟨⟨hi,hC,hl,hk⟩,hsd⟩ | ⟨i,hin,c,hi,hC,hl,hk⟩)⟩
      · have hlt := (Array.getElem?_eq_some_iff.1 hl).1
        exact ⟨none,_,by have := run_endLoop (P := P) hl (by rw [hrec]; simp); rw [hrec] at this; exact this,hdone _ C' (hI _ _ _ _ hi (liftI (hput _ _))) (hSd _ _ hsd (hput _ _)) ((World.putObj_heap_other (by omega)).trans hk)⟩
      · have hlt := (Array.getElem?_eq_some_iff.1 hl).1
        exact ⟨some c,_,by have := run_endLoop (P := P) hl (by rw [hrec]; simp); rw [hrec] at this; exact this,wpIn_wide.2 (hstop c i _ C' hin (hIx c _ _ _ _ hi (liftI (hput _ _))) ((World.putObj_heap_other (by omega)).trans hk))⟩
end
end Go.Proofs.Ytphefhpmbahagaa

