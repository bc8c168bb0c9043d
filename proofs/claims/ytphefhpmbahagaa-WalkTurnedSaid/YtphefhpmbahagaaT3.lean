/- Whether tours are valid. -/
import Derived.Test.YtphefhpmbahagaaT2
namespace Go.Proofs.Ytphefhpmbahagaa
open Go.RowKit
set_option linter.unusedVariables false
set_option linter.unusedSimpArgs false

theorem infoW : (Try.prog.info? 22).map (fun i => (i.zero,i.size,i.bytes)) = some (some (.slice none 0 0),1,24) := by kernel_rfl
/-- Lists of spans by their slices. -/
def RowsS (w : World) (vs : List Value) (l : List (List Spn)) : Prop := vs.length = l.length ∧ ∀ i,i < l.length → ∃ ai ci,vs[i]? = some (.slice ai (gw l i).length ci) ∧ IsSpns w ai (gw l i)
theorem add_none (b o i : Nat) : (⟨b,o,none⟩ : Addr).add i = ⟨b,o + i,none⟩ := by unfold Addr.add; split <;> simp_all
theorem ways_vals {w : World} {a : Option Addr} {l : List (List Spn)} (h : IsWays w a l) : ∃ vs,RowsS w vs l ∧ (l.length ≠ 0 → ∃ ad,a = some ad ∧ ∀ j u,vs[j]? = some u → w.cell? (ad.add j) = some u) := by
  have each : ∀ i,∃ v : Value,i < l.length → ∃ b off,a = some ⟨b,off,none⟩ ∧ w.cell? ⟨b,off + i,none⟩ = some v ∧ ∃ ai ci,v = .slice ai (gw l i).length ci ∧ IsSpns w ai (gw l i) := fun i => by
    by_cases hi : i < l.length
    · obtain ⟨b,off,e,ai,ci,h1,h2⟩ := h i hi
      exact ⟨_,fun _ => ⟨b,off,e,h1,ai,ci,rfl,h2⟩⟩
    · exact ⟨undef,fun h => (hi h).elim⟩
  obtain ⟨f,hf⟩ := Classical.axiomOfChoice each
  refine ⟨(List.range l.length).map f,⟨by simp,fun i hi => ?_⟩,fun h0 => ?_⟩
  · obtain ⟨b,off,e,h1,ai,ci,h2,h3⟩ := hf i hi
    exact ⟨ai,ci,by simp [hi,h2],h3⟩
  · obtain ⟨b,off,e,_⟩ := hf 0 (by omega)
    refine ⟨⟨b,off,none⟩,e,fun j u hj => ?_⟩
    have hjl : j < l.length := by have := (List.getElem?_eq_some_iff.1 hj).1; simpa using this
    obtain ⟨b',off',e',h1,_⟩ := hf j hjl
    rw [e] at e'
    cases e'
    rw [add_none,h1]
    simp [hjl] at hj
    rw [hj]
theorem RowsS.one {w : World} {vs : List Value} {l : List (List Spn)} (h : RowsS w vs l) : ∀ u ∈ vs,u.oneCell' = true := fun u hu => by
  obtain ⟨i,hi,e⟩ := List.getElem_of_mem hu
  obtain ⟨ai,ci,h1,_⟩ := h.2 i (by rw [← h.1]; exact hi)
  rw [List.getElem?_eq_getElem hi,e] at h1
  cases h1
  cases ai <;> rfl
theorem RowsS.mono {w w' : World} {vs : List Value} {l : List (List Spn)} (h : RowsS w vs l) (hb : Below w.heap.size w w') : RowsS w' vs l := ⟨h.1,fun i hi => by
  obtain ⟨ai,ci,h1,h2⟩ := h.2 i hi
  exact ⟨ai,ci,h1,h2.mono hb⟩⟩
/-- A row of one's own that holds these lists. -/
theorem rows_ways {w : World} {B : Nat} {a : Option Addr} {c : Nat} {vs : List Value} {l : List (List Spn)} (h : w.ownsRow B 22 1 (.slice a l.length c) l.length vs) (hr : RowsS w vs l) : IsWays w a l := fun i hi => by
  obtain ⟨g,cp,e,_,_,_,_,hc⟩ := own_cell h (by omega)
  cases e
  obtain ⟨ai,ci,h1,h2⟩ := hr.2 i hi
  exact ⟨g,0,rfl,ai,ci,by rw [Nat.zero_add]; exact hc i _ h1,h2⟩
set_option maxHeartbeats 1000000 in
theorem clone99 {l : List (List Spn)} {a : Option Addr} {cap : Nat} {w w0 : World} {vs : List Value} (hvs : RowsS w0 vs l) (hnews : l.length ≠ 0 → ∃ ad,a = some ad ∧ ∀ j u,vs[j]? = some u → w.cell? (ad.add j) = some u) (hl : l.length ≤ 16) :
    Calls Try.prog 99 #[.slice a l.length cap] w fun e w' => ∃ v',e = .returned v' ∧ w'.ownsRow w.heap.size 22 1 v' l.length vs ∧ Below w.heap.size w w' := by
  obtain ⟨i0,hi0,hz0,hz1,hz2⟩ := info_parts infoW
  cases a with
  | none =>
    have hx : l = [] := by
      cases l with
      | nil => rfl
      | cons x r => obtain ⟨ad,e,_⟩ := hnews (by simp); cases e
    subst hx
    have hv0 : vs = [] := List.eq_nil_of_length_eq_zero hvs.1
    subst hv0
    have he := Lib.run_eql_slice_nil (P := Try.prog)
    go_enter Try.func99,Try.ntmps99
    go_wp2
    go_ret
    exact ⟨_,rfl,World.ownsRow_nil w _ _ _,Below.refl _ _⟩
  | some ad =>
    have hm := World.ownsRow_made (e := 22) (size := 1) w #[] 0 (base := w.heap.size) (Nat.le_refl _) (by simp [maxLen]) (by simp)
    obtain ⟨v',w',hr,hn,hg⟩ := append_rows (P := Try.prog) w.heap.size 23 23 22 i0 _ 1 24 Try.underlying23 hi0 hz0 hz1 hz2 rfl (by decide) _ 0 [] hm (some ad) l.length cap vs (by rw [hvs.1]; simp) (fun h0 => by
      obtain ⟨ad',e,hc⟩ := hnews h0
      exact ⟨ad',e,fun j u hj => by
        have h1 := hc j u hj
        have hlt : (ad'.add j).block < w.heap.size := World.block_lt_of_cell? _ _ h1
        exact (((Below.refl _ w).alloc (Nat.le_refl _) _).cell hlt).trans h1⟩) hvs.one (by simp [maxLen]; omega) (by omega) (by simp)
    rw [Nat.zero_add,List.nil_append] at hn
    have HR := Lib.hid hr
    have HN := Lib.hid (And.intro hn hg)
    have he := Lib.run_eql_slice_nil (P := Try.prog)
    clear hr hn hg hm hvs hnews hi0 hz0 hz1 hz2
    go_enter Try.func99,Try.ntmps99
    go_wp2_with (at_builtin; refine wpList_append_run rfl (.tmp 5) (.tmp 6) 23 rfl _ _ _ _ rfl rfl HR.out ?_)
    go_ret
    exact ⟨v',rfl,HN.out.1,((Below.refl _ w).alloc (Nat.le_refl _) _).grown HN.out.2 (by simp) (fun k hk => by cases hk; exact Nat.le_refl _)⟩
theorem heap2 (w : World) (a b : Obj) : let W := (w.alloc a).alloc b
    W.heap[w.heap.size]? = some a ∧ W.heap[w.heap.size + 1]? = some b ∧ W.heap.size = w.heap.size + 2 ∧ Below w.heap.size w W := by
  have q0 := World.alloc_heap_new w a
  have q1 := World.alloc_heap_new (w.alloc a) b
  rw [World.size_alloc] at q1
  exact ⟨(Below.heap_alloc _ _ _ (by simp)).trans q0,q1,by simp,((Below.refl _ w).alloc (Nat.le_refl _) _).alloc (by simp) _⟩
/-- What lies in memory while a tour is judged. -/
structure TourJ (t : Tr) (A : TrA) (bx nb : Nat) (w0 w : World) : Prop where
  below : Below w0.heap.size w0 w
  box : w.heap[bx]? = some (.cells (t.cells A) 25 (0,0))
  num : w.heap[nb]? = some (.cells #[.int .i64 t.frm.length] 3 (0,0))
  tr : IsTr w t A
theorem TourJ.mono {t : Tr} {A : TrA} {bx nb : Nat} {w0 w w' : World} (h : TourJ t A bx nb w0 w) (hb : Below w.heap.size w w') : TourJ t A bx nb w0 w' :=
  ⟨h.below.trans (hb.mono h.below.size),(hb.block _ (heap_lt h.box)).trans h.box,(hb.block _ (heap_lt h.num)).trans h.num,h.tr.mono hb⟩
theorem TourJ.cells {t : Tr} {A : TrA} {bx nb : Nat} {w0 w : World} (h : TourJ t A bx nb w0 w) : (w.cell? ⟨bx,0,none⟩ = some (.int .i64 t.dawn) ∧ w.cell? ⟨bx,1,none⟩ = some (.slice A.af t.frm.length A.cf) ∧
    w.cell? ⟨bx,2,none⟩ = some (.slice A.aw t.ways.length A.cw) ∧ w.cell? ⟨bx,3,none⟩ = some (.slice A.as_ t.stay.length A.cs) ∧ w.cell? ⟨bx,4,none⟩ = some (.slice A.al t.light.length A.cl)) ∧ w.cell? ⟨nb,0,none⟩ = some (.int .i64 t.frm.length) :=
  ⟨tr_cells h.box,by rw [cell_of_heap h.num]; rfl⟩
theorem fin_three (l : List (List Spn)) (a b c : List Spn) (i : Nat) : gw (l ++ [a,b,c]) i = if i < l.length then gw l i else if i = l.length then a else if i = l.length + 1 then b else if i = l.length + 2 then c else [] := by
  unfold gw
  by_cases h : i < l.length
  · rw [if_pos h]; simp [List.getElem?_append_left h]
  · rw [if_neg h]
    simp only [List.getD_eq_getElem?_getD]
    rw [List.getElem?_append_right (by omega)]
    obtain ⟨j,hj⟩ : ∃ j,i = l.length + j := ⟨i - l.length,by omega⟩
    subst hj
    have e : l.length + j - l.length = j := by omega
    rw [e]
    match j with
    | 0 => simp
    | 1 => simp
    | 2 => simp
    | j + 3 => simp
theorem rows_three {w : World} {vs : List Value} {l : List (List Spn)} {a b c : List Spn} {a1 a2 a3 : Option Addr} {c1 c2 c3 : Nat} (h : RowsS w vs l) (ha : IsSpns w a1 a) (hb : IsSpns w a2 b) (hc : IsSpns w a3 c) :
    RowsS w (vs ++ [.slice a1 a.length c1,.slice a2 b.length c2,.slice a3 c.length c3]) (l ++ [a,b,c]) := by
  refine ⟨by simp [h.1],fun i hi => ?_⟩
  rw [fin_three]
  by_cases hil : i < l.length
  · rw [if_pos hil]
    obtain ⟨ai,ci,h1,h2⟩ := h.2 i hil
    exact ⟨ai,ci,by rw [List.getElem?_append_left (by rw [h.1]; exact hil)]; exact h1,h2⟩
  · rw [if_neg hil]
    have hi' : i < l.length + 3 := by simpa using hi
    rcases (show i = l.length ∨ i = l.length + 1 ∨ i = l.length + 2 by omega) with e | e | e
    · subst e
      rw [if_pos rfl]
      exact ⟨a1,c1,by rw [← h.1]; simp,ha⟩
    · subst e
      rw [if_neg (by omega),if_pos rfl]
      exact ⟨a2,c2,by rw [← h.1]; simp,hb⟩
    · subst e
      rw [if_neg (by omega),if_neg (by omega),if_pos rfl]
      exact ⟨a3,c3,by rw [← h.1]; simp,hc⟩
set_option maxRecDepth 100000 in
set_option maxHeartbeats 4000000 in
theorem isTour79 {t : Tr} {A : TrA} {w : World} (ha : IsTr w t A) (hs : t.Small) :
    Calls Try.prog 79 #[t.v A] w fun e w' => e = .returned (.bool t.valid) ∧ Below w.heap.size w w' := by
  have hmf : ∀ (fn : Fn) (first cap : Array Value) (w : World),(Instr.makeFunc fn first cap).run Try.prog w = .ok (.func fn first cap) w := fun _ _ _ _ => rfl
  have HV : Hid (t.valid = (decide (t.frm.length ≤ 6) && decide (t.ways.length = t.frm.length) && inR t.dawn 0 1440 && (t.ways ++ [t.frm,t.stay,t.light]).all fun l => areB l t.frm.length)) := rfl
  obtain ⟨q0,q1,hz,hb⟩ := heap2 w (.cells (t.cells A) 25) (.cells #[.int .i64 t.frm.length] 3)
  have HJ : Hid (TourJ t A w.heap.size (w.heap.size + 1) w ((w.alloc (.cells (t.cells A) 25)).alloc (.cells #[.int .i64 t.frm.length] 3))) := ⟨hb,q0,q1,ha.mono hb⟩
  have HS := Lib.hid hs
  have HT := Lib.hid ha
  obtain ⟨vs,hvs,hnews⟩ := ways_vals ha.ways
  have HVS := Lib.hid (And.intro hvs hnews)
  have hn := hs.frm
  have hnw := hs.ways
  have hsz : (w.alloc (.cells (t.cells A) 25)).heap.size = w.heap.size + 1 := World.size_alloc ..
  clear q0 q1 hz hb ha hs hvs hnews
  go_enter Try.func79,Try.ntmps79
  go_wp2_with fail
  revert HJ
  generalize (w.alloc (.cells (t.cells A) 25)).alloc (.cells #[.int .i64 t.frm.length] 3) = w1
  intro HJ
  obtain ⟨⟨k0,k1,k2,k3,k4⟩,k5⟩ := HJ.out.cells
  by_cases h6 : t.frm.length ≤ 6
  · by_cases hw : t.ways.length = t.frm.length
    · cases hd : inR t.dawn 0 1440
      · have hd6 : decide ((t.frm.length : Int) ≤ 6) = true := by simp; omega
        have hbw : ((t.ways.length : Int) == (t.frm.length : Int)) = true := by simp; omega
        have HD := Lib.hid hd
        have z0 := fun y : Aft w1.heap.size w1 => cell_stays y.h k0
        have z1 := fun y : Aft w1.heap.size w1 => cell_stays y.h k1
        have z2 := fun y : Aft w1.heap.size w1 => cell_stays y.h k2
        have z3 := fun y : Aft w1.heap.size w1 => cell_stays y.h k3
        have z4 := fun y : Aft w1.heap.size w1 => cell_stays y.h k4
        have z5 := fun y : Aft w1.heap.size w1 => cell_stays y.h k5
        have C1 := Lib.hid (fun y : Aft w1.heap.size w1 => within_any t.dawn 0 1440 y.v)
        rw [hd] at C1
        clear hd
        clear k0 k1 k2 k3 k4 k5
        refine wp_region_aft mixed (by kernel_rfl) ?_
        repeat (go_big_quiet_step ((go_at_call 95; exact calls_aft_same (C1.out _))))
        refine wpQuiet_nil ?_
        rintro _ ⟨y,rfl⟩
        clear z0 z1 z2 z3 z4 z5 C1
        have HB := Lib.hid (HJ.out.mono y.h).below
        go_wp2_with fail
        go_ret
        exact ⟨ret_bool (by rw [HV.out]; simp [HD.out]),HB.out⟩
      · have HD := Lib.hid (And.intro hd (And.intro hw h6))
        obtain ⟨qq,hq⟩ : ∃ qq,(!(t.ways ++ [t.frm,t.stay,t.light]).all fun x => areB x t.frm.length) = qq := ⟨_,rfl⟩
        have HQQ := Lib.hid hq
        have hbw : ((t.ways.length : Int) == (t.frm.length : Int)) = true := by simp; omega
        clear k0 k1 k2 k3 k4 k5 hq hd
        have KC : ∀ v,TourJ t A w.heap.size (w.heap.size + 1) w v → _ := fun v h => h.cells
        refine wpIn_wide.1 (tour3 (t := t) (A := A) (bx := w.heap.size) (nb := w.heap.size + 1) (q := qq)
          (S0 := fun fs ms v => TourJ t A w.heap.size (w.heap.size + 1) w v ∧ (fs = true → v.heap[ms]? = some (.cells #[.slice A.af t.frm.length A.cf,.slice A.as_ t.stay.length A.cs,.slice A.al t.light.length A.cl] 22 (0,0))))
          (S1 := fun fs ms u v => TourJ t A w.heap.size (w.heap.size + 1) w v ∧ (fs = true → v.heap[ms]? = some (.cells #[.slice A.af t.frm.length A.cf,.slice A.as_ t.stay.length A.cs,.slice A.al t.light.length A.cl] 22 (0,0))))
          (S2 := fun fs ms u r1 v => TourJ t A w.heap.size (w.heap.size + 1) w v ∧ (v.ownsRow (w.heap.size + 2) 22 1 (.slice r1.1 t.ways.length r1.2) t.ways.length vs) ∧ (fs = true → v.heap[ms]? = some (.cells #[.slice A.af t.frm.length A.cf,.slice A.as_ t.stay.length A.cs,.slice A.al t.light.length A.cl] 22 (0,0))))
          (S3 := fun fs ms u r1 r2 v => TourJ t A w.heap.size (w.heap.size + 1) w v ∧ IsWays v r2.1 (t.ways ++ [t.frm,t.stay,t.light]))
          (S4 := fun fs ms u r1 r2 u2 v => Below w.heap.size w v) h6 hbw ?h0 ?l0 ?l4 ?l6 ?l11 ?c12 ?l16 ?c17 ?l19 ?l21 ?l23 ?s1 ?s2 ?c25 ?c27 ?hQ)
        case h0 => exact ⟨HJ.out.mono (Below.refl _ w1).drew,fun h => by cases h⟩
        case l0 => exact fun fs ms v h => h.1.cells.2
        case l4 => exact fun fs ms v h => h.1.cells.1.2.2.1
        case l6 => exact fun fs ms v h => h.1.cells.2
        case l11 => exact fun fs ms v h => h.1.cells.1.1
        case c12 =>
          intro fs ms v h
          refine (within_any _ _ _ _).mono ?_
          rintro e w' ⟨rfl,rfl⟩
          exact ⟨(),by rw [HD.out.1],h⟩
        case l16 => exact fun fs ms u v h => h.1.cells.1.2.2.1
        case c17 =>
          intro fs ms u v h
          refine (clone99 HVS.out.1 (fun h0 => by
            obtain ⟨ad,e,hc⟩ := HVS.out.2 h0
            exact ⟨ad,e,fun j uu hj => by
              have h1 := hc j uu hj
              exact (h.1.below.cell (World.block_lt_of_cell? _ _ h1)).trans h1⟩) hnw).mono ?_
          rintro e w' ⟨v',rfl,h1,hb⟩
          obtain ⟨a1,c1,rfl,_⟩ := own_slice h1
          have hlt := heap_lt h.1.num
          exact ⟨(a1,c1),rfl,h.1.mono hb,own_base h1 (by omega),fun hf => (hb.block _ (heap_lt (h.2 hf))).trans (h.2 hf)⟩
        case l19 => exact fun fs ms u r1 v h => by rcases h with h | h <;> exact h.1.cells.1.2.1
        case l21 => exact fun fs ms u r1 v h => by rcases h with h | h <;> exact h.1.cells.1.2.2.2.1
        case l23 => exact fun fs ms u r1 v h => by rcases h with h | h <;> exact h.1.cells.1.2.2.2.2
        case s1 => exact fun u v h => ⟨h.1.mono ((Below.refl _ v).alloc (Nat.le_refl _) _),fun _ => World.alloc_heap_new _ _⟩
        case s2 => exact fun u r1 v h => ⟨h.1.mono ((Below.refl _ v).alloc (Nat.le_refl _) _),h.2.1.alloc _,fun _ => World.alloc_heap_new _ _⟩
        case c25 =>
          intro ms u r1 v h
          obtain ⟨i0,hi0,hz0,hz1,hz2⟩ := info_parts infoW
          have hms := h.2.2 rfl
          have hlt := heap_lt h.1.num
          obtain ⟨v',w',hr,hn,hg,_⟩ := append_rows_at (P := Try.prog) (w := v) (w.heap.size + 2) 23 23 22 i0 _ 1 24 Try.underlying23 hi0 hz0 hz1 hz2 rfl (by decide) _ _ _ h.2.1 (some ⟨ms,0,none⟩) 3 3 [.slice A.af t.frm.length A.cf,.slice A.as_ t.stay.length A.cs,.slice A.al t.light.length A.cl] (by simp) (fun _ => ⟨_,rfl,fun j uu hj => by
            rw [add_none,Nat.zero_add,cell_of_heap hms]
            simpa using hj⟩) (by intro uu hu; simp at hu; rcases hu with rfl | rfl | rfl <;> first | (cases A.af <;> rfl) | (cases A.as_ <;> rfl) | (cases A.al <;> rfl)) (by simp [maxLen]; omega) (by omega) (by omega)
          obtain ⟨a2,c2,rfl,_⟩ := own_slice hn
          have hbw2 : Below w.heap.size w w' := h.1.below.grown hg h.1.below.size (fun k hk => by have := (h.2.1.lt k hk).1; omega)
          refine ⟨(a2,c2),w',hr,⟨hbw2,(hg.block _ (by omega) (fun e => by have := (h.2.1.lt _ e.symm).1; omega)).trans h.1.box,(hg.block _ hlt (fun e => by have := (h.2.1.lt _ e.symm).1; omega)).trans h.1.num,HT.out.mono hbw2⟩,?_⟩
          have e3 : t.ways.length + 3 = (t.ways ++ [t.frm,t.stay,t.light]).length := by simp
          rw [e3] at hn
          exact rows_ways hn ((rows_three HVS.out.1 HT.out.frm HT.out.stay HT.out.light).mono hbw2)
        case c27 =>
          intro ms u r1 r2 v h
          have hc := contains98 (cap := r2.2) h.2 (by simp; omega) (fun x hx => by
            rcases List.mem_append.1 hx with hx | hx
            · exact HS.out.rows x hx
            · simp at hx
              rcases hx with rfl | rfl | rfl
              · exact HS.out.frm
              · exact HS.out.stay
              · exact HS.out.light) t.frm.length (by omega) h.1.cells.2
          rw [HQQ.out] at hc
          have e3 : (t.ways ++ [t.frm,t.stay,t.light]).length = t.ways.length + 3 := by simp
          rw [e3] at hc
          refine hc.mono ?_
          rintro e w' ⟨rfl,hb⟩
          exact ⟨(),rfl,h.1.below.trans (hb.mono h.1.below.size)⟩
        case hQ =>
          intro ms u r1 r2 u2 v h
          have HB := Lib.hid h
          clear h
          go_wp2_with fail
          go_ret
          exact ⟨ret_bool (by rw [HV.out,← HQQ.out,HD.out.1]; simp [HD.out.2.1,HD.out.2.2]),HB.out⟩
    · have hd6 : decide ((t.frm.length : Int) ≤ 6) = true := by simp; omega
      have hbw : ((t.ways.length : Int) == (t.frm.length : Int)) = false := by simp; omega
      have HW := Lib.hid hw
      have z0 := fun y : Aft w1.heap.size w1 => cell_stays y.h k0
      have z1 := fun y : Aft w1.heap.size w1 => cell_stays y.h k1
      have z2 := fun y : Aft w1.heap.size w1 => cell_stays y.h k2
      have z3 := fun y : Aft w1.heap.size w1 => cell_stays y.h k3
      have z4 := fun y : Aft w1.heap.size w1 => cell_stays y.h k4
      have z5 := fun y : Aft w1.heap.size w1 => cell_stays y.h k5
      have C1 := Lib.hid (fun y : Aft w1.heap.size w1 => within_any t.dawn 0 1440 y.v)
      clear hw
      clear k0 k1 k2 k3 k4 k5
      refine wp_region_aft mixed (by kernel_rfl) ?_
      repeat (go_big_quiet_step ((go_at_call 95; exact calls_aft_same (C1.out _))))
      refine wpQuiet_nil ?_
      rintro _ ⟨y,rfl⟩
      clear z0 z1 z2 z3 z4 z5 C1
      have HB := Lib.hid (HJ.out.mono y.h).below
      go_wp2_with fail
      go_ret
      exact ⟨ret_bool (by rw [HV.out]; simp [HW.out]),HB.out⟩
  · have hd6 : decide ((t.frm.length : Int) ≤ 6) = false := by simp; omega
    have H6 := Lib.hid h6
    have z0 := fun y : Aft w1.heap.size w1 => cell_stays y.h k0
    have z1 := fun y : Aft w1.heap.size w1 => cell_stays y.h k1
    have z2 := fun y : Aft w1.heap.size w1 => cell_stays y.h k2
    have z3 := fun y : Aft w1.heap.size w1 => cell_stays y.h k3
    have z4 := fun y : Aft w1.heap.size w1 => cell_stays y.h k4
    have z5 := fun y : Aft w1.heap.size w1 => cell_stays y.h k5
    have C1 := Lib.hid (fun y : Aft w1.heap.size w1 => within_any t.dawn 0 1440 y.v)
    clear h6
    clear k0 k1 k2 k3 k4 k5
    refine wp_region_aft mixed (by kernel_rfl) ?_
    repeat (go_big_quiet_step ((go_at_call 95; exact calls_aft_same (C1.out _))))
    refine wpQuiet_nil ?_
    rintro _ ⟨y,rfl⟩
    clear z0 z1 z2 z3 z4 z5 C1
    have HB := Lib.hid (HJ.out.mono y.h).below
    go_wp2_with fail
    go_ret
    exact ⟨ret_bool (by rw [HV.out]; simp [H6.out]),HB.out⟩
end Go.Proofs.Ytphefhpmbahagaa
