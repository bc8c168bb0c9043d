/- The best sure order: Shortest, Most. -/
import Derived.Test.YtphefhpmbahagaaT43
import Derived.Test.YtphefhpmbahagaaT37
namespace Go.Proofs.Ytphefhpmbahagaa
open Go.RowKit
set_option linter.unusedVariables false
set_option linter.unusedSimpArgs false

theorem field98 (p : PV) (w : World) : (Instr.field 98 p.v 0).run Try.prog w = .ok (.slice p.a p.o.length p.c) w := by
  show (Instr.field 98 (.agg #[.slice p.a p.o.length p.c,.int .i64 p.over]) 0).run Try.prog w = _
  simp [Instr.field,run_underlying Try.underlying98,part,run_underlying Try.underlying26,isAgg,asAgg,Result.andThen,go_sem]
theorem OrdAt.base {B B' : Nat} {w : World} {p : PV} (h : OrdAt B w p) (hb : B' ≤ B) : OrdAt B' w p := by
  rcases h with h | ⟨b,cur,h0,r⟩
  · exact .inl h
  · exact .inr ⟨b,cur,by omega,r⟩
def bestE (t : Tr) : List Int × Int := t.bestV 0 (-1) t.dawn
set_option maxRecDepth 100000 in
set_option maxHeartbeats 4000000 in
theorem best70 {t : Tr} {A : TrA} {tb : Nat} {w : World} (hP : TourP w tb t A) (hF : t.Fit) :
    Calls Try.prog 70 #[.pointer (some ⟨tb,0,none⟩)] w fun e w' => ∃ p : PV,e = .returned p.v ∧ p.p = bestE t ∧ OrdAt w.heap.size w' p ∧ Below w.heap.size w w' := by
  have hmf : ∀ (fn : Fn) (first cap : Array Value) (w : World),(Instr.makeFunc fn first cap).run Try.prog w = .ok (.func fn first cap) w := fun _ _ _ _ => rfl
  have hmk : ∀ w : World,(Instr.makeMap 119 none).run Try.prog w = .ok (.map (some w.heap.size)) (w.alloc (.map #[] 0)) := fun w => by simp [Instr.makeMap,go_sem]
  have HP := Lib.hid (And.intro hP hF)
  clear hP hF
  go_enter Try.func70,Try.ntmps70
  go_upto_region 4 with fail
  obtain ⟨q0,q1,q2,hz3,hb3⟩ := heap3 w (.cells #[.pointer (some ⟨tb,0,none⟩)] 69) (.cells #[.slice none 0 0,.int .i64 0] 98) (.map #[] 0)
  revert q0 q1 q2 hz3 hb3
  generalize ((w.alloc (.cells #[.pointer (some ⟨tb,0,none⟩)] 69)).alloc (.cells #[.slice none 0 0,.int .i64 0] 98)).alloc (.map #[] 0) = W3
  intro q0 q1 q2 hz3 hb3
  obtain ⟨q3,q4,hz5,hb5⟩ := heap2 W3 (.cells #[.map (some (w.heap.size + 1 + 1))] 119) (.cells #[.func (.func 91) #[] #[.pointer (some ⟨w.heap.size + 1 + 1 + 1,0,none⟩),.pointer (some ⟨w.heap.size,0,none⟩),.pointer (some ⟨w.heap.size + 1 + 1 + 1 + 1,0,none⟩)]] 120)
  rw [hz3] at q3 q4 hz5
  revert q3 q4 hz5 hb5
  generalize (W3.alloc (.cells #[.map (some (w.heap.size + 1 + 1))] 119)).alloc (.cells #[.func (.func 91) #[] #[.pointer (some ⟨w.heap.size + 1 + 1 + 1,0,none⟩),.pointer (some ⟨w.heap.size,0,none⟩),.pointer (some ⟨w.heap.size + 1 + 1 + 1 + 1,0,none⟩)]] 120) = W5
  intro q3 q4 hz5 hb5
  have hBW : Below w.heap.size w W5 := hb3.trans (hb5.mono (by omega))
  have hP5 := HP.out.1.mono hBW
  have hC : BstC t A (w.heap.size + 1 + 1 + 1) w.heap.size (w.heap.size + 1 + 1 + 1 + 1) (w.heap.size + 1 + 1) tb W5 := ⟨q3,(hb5.block _ (heap_lt q0)).trans q0,q4,hP5⟩
  have hm5 := (hb5.block _ (heap_lt q2)).trans q2
  have hK : KnownB w.heap.size t W5 (w.heap.size + 1 + 1) := ⟨[],⟨#[],0,hm5,MapKept.stamped_empty 0,rfl,by simp⟩,fun X hX => by simp at hX⟩
  have hr5 := (hb5.block _ (heap_lt q1)).trans q1
  have H5 := Lib.hid (And.intro hBW (And.intro hC (And.intro hK (And.intro hr5 hm5))))
  have HZ : Hid (W5.heap.size = w.heap.size + 5) := by rw [Hid]; omega
  obtain ⟨d0,_,_,_,_,_⟩ := hP5.cells
  have z0 := fun y : Aft W5.heap.size W5 => cell_stays y.h d0
  have z1 : ∀ y : Aft W5.heap.size W5,y.v.cell? ⟨w.heap.size,0,none⟩ = some (.pointer (some ⟨tb,0,none⟩)) := fun y => by rw [cell_of_heap ((y.h.block _ (heap_lt hC.htx)).trans hC.htx)]; rfl
  have z2 : ∀ y : Aft W5.heap.size W5,y.v.cell? ⟨w.heap.size + 1 + 1 + 1 + 1,0,none⟩ = some (.func (.func 91) #[] #[.pointer (some ⟨w.heap.size + 1 + 1 + 1,0,none⟩),.pointer (some ⟨w.heap.size,0,none⟩),.pointer (some ⟨w.heap.size + 1 + 1 + 1 + 1,0,none⟩)]) := fun y => by rw [cell_of_heap ((y.h.block _ (heap_lt q4)).trans q4)]; rfl
  clear q0 q1 q2 hz3 hb3 q3 q4 hz5 hb5 hBW hP5 hC hm5 hK hr5 d0
  refine wp_region_aft_tail 7 mixed (by kernel_rfl) ?_
  simp only [List.take_succ_cons,List.take_zero,List.drop_succ_cons,List.drop_zero]
  repeat (go_big_quiet_step (fail))
  refine wpQuiet_nil ?_
  rintro _ ⟨y,rfl⟩
  have hby := y.h
  revert hby
  generalize y.v = V
  intro hby
  clear z0 z1 z2
  have hD := HP.out.2.dawn
  have hok : StV.Ok t ⟨0,-1,t.dawn⟩ := ⟨by show 0 < 64; decide,.inl rfl,by show 0 ≤ t.dawn ∧ t.dawn ≤ 2880; omega⟩
  have hmV := (hby.block _ (heap_lt H5.out.2.2.2.2)).trans H5.out.2.2.2.2
  have hcall := on91 (B := w.heap.size) (by omega) HP.out.2 t.frm.length ⟨0,-1,t.dawn⟩ V (free_le t 0) hok (H5.out.2.1.same ⟨_,_,H5.out.2.2.2.2⟩ (Same.of_below _ hby)) (H5.out.2.2.1.kept (hmV.trans H5.out.2.2.2.2.symm) (Keeps3.below hby))
  have HC := Lib.hid hcall
  have HY := Lib.hid hby
  clear hby hok hmV hcall
  go_wp2_with fail
  refine HC.out.mono ?_
  rintro e w6 ⟨p,rfl,hp,ho,hs,hk⟩
  have hz := HZ.out
  have hyz := HY.out.size
  have hr6 := (hs.block _ (by omega) (by omega)).trans ((HY.out.block _ (heap_lt H5.out.2.2.2.1)).trans H5.out.2.2.2.1)
  have r0 : w6.cell? ⟨w.heap.size + 1,0,none⟩ = some (.slice none 0 0) := by rw [cell_of_heap hr6]; rfl
  have r1 : w6.cell? ⟨w.heap.size + 1,1,none⟩ = some (.int .i64 0) := by rw [cell_of_heap hr6]; rfl
  have fz : ∀ k,w6.frozen? ⟨w.heap.size + 1,k,none⟩ = false := fun k => frozen_of_heap hr6
  have hB6 : Below w.heap.size w w6 := (H5.out.1.trans (HY.out.mono (by omega))).trans (hs.below (by omega) (fun k hk e => by omega))
  have H6 := Lib.hid (And.intro hp (And.intro ho (And.intro hr6 hB6)))
  clear hp ho hs hk hr6 hB6 hz hyz
  go_wp2_with fail
  obtain ⟨hp,ho,hr6,hB6⟩ := H6.out
  have Q2 := heap_setCell_at (k := 1) (heap_setCell_at (k := 0) hr6 (.slice p.a p.o.length p.c)) (.int .i64 p.over)
  have hSS := ((Same.refl (fun k => k = w.heap.size + 1) w6).setCell (p := ⟨w.heap.size + 1,0,none⟩) (.inl rfl) (.slice p.a p.o.length p.c)).setCell (p := ⟨w.heap.size + 1,1,none⟩) (.inl rfl) (.int .i64 p.over)
  refine bodyPost_ret (res_c98 rfl _ rfl ((cell_of_heap Q2).trans rfl) ((cell_of_heap Q2).trans rfl)) rfl ?_
  exact ⟨p,rfl,hp,ho.keep (keeps_own hSS hr6 (by decide)),(hB6.setCell (Nat.le_succ _) _).setCell (Nat.le_succ _) _⟩
def mostE (t : Tr) : List Int × Int := if openE t true = 0 then ((bestE t).1,0) else ([],openE t true)
def shortE (t : Tr) : List Int × Int := if openE t true = 0 then (if (bestE t).1.length = t.frm.length then ((bestE t).1,0) else ([],4)) else ([],openE t true)
/-- What is returned: an order in new memory. -/
def OrdRet (w w' : World) (e : Ending) (r : List Int × Int) : Prop := ∃ p : PV,e = .returned (.tuple #[.slice p.a p.o.length p.c,.int .i64 r.2]) ∧ p.o = r.1 ∧ OrdAt w.heap.size w' p ∧ Below w.heap.size w w'
set_option maxRecDepth 100000 in
set_option maxHeartbeats 4000000 in
theorem most27 {t : Tr} {A : TrA} {w : World} (ht : IsTr w t A) (hs : t.Small) :
    Calls Try.prog 27 #[t.v A] w fun e w' => OrdRet w w' e (mostE t) := by
  have hmf : ∀ (fn : Fn) (first cap : Array Value) (w : World),(Instr.makeFunc fn first cap).run Try.prog w = .ok (.func fn first cap) w := fun _ _ _ _ => rfl
  have HCF := Lib.hid cf71
  refine calls_of_wp_x Try.func27 rfl ?_
  simp only [Try.ntmps27,List.size_toArray,List.length_cons,List.length_nil,Nat.reduceAdd,Nat.reduceSub,Array.replicate_succ,Array.replicate_zero,List.push_toArray,List.append_toArray,List.nil_append,List.cons_append]
  go_wp2_with fail
  obtain ⟨q0,q1,hz1,hb1⟩ := heap2 w (.cells (t.cells A) 25) (.cells #[.int .i64 0] 29)
  revert q0 q1 hz1 hb1
  generalize (w.alloc (.cells (t.cells A) 25)).alloc (.cells #[.int .i64 0] 29) = W1
  intro q0 q1 hz1 hb1
  have ht1 := ht.mono hb1
  by_cases hE : openE t true = 0
  · obtain ⟨hv,_⟩ := openE_zero hE
    have hF := fit_of_valid hv
    refine (open_yes (g := 66) (cp := #[]) ht1 hs hv cf66 (fun tb W hP hbW => always66)).mono ?_
    rintro e w2 ⟨tb,rfl,htb,hP,hb2⟩
    have hB2 := hb1.trans (hb2.mono (by omega))
    have hz2 := hb2.size
    have q1' := (hb2.block _ (heap_lt q1)).trans q1
    have HI := Lib.hid (best70 hP hF)
    have HW : Hid (mostE t = ((bestE t).1,0)) := by unfold Hid mostE; rw [if_pos hE]
    have H2 := Lib.hid (And.intro hB2 q1')
    clear hb1 q0 q1 ht1 ht hs hv hF htb hP hb2 hB2 q1' hE
    go_wp2_with fail
    refine HI.out.mono ?_
    rintro e w3 ⟨p,rfl,hp,ho,hb3⟩
    have q3 := (hb3.block _ (heap_lt H2.out.2)).trans H2.out.2
    have e3 : w3.cell? ⟨w.heap.size + 1,0,none⟩ = some (.int .i64 0) := by rw [cell_of_heap q3]; rfl
    have f3 : w3.frozen? ⟨w.heap.size + 1,0,none⟩ = false := frozen_of_heap q3
    have HB3 := Lib.hid (And.intro hp (And.intro ho (And.intro q3 (H2.out.1.trans (hb3.mono (by omega))))))
    have hfd := field98 p w3
    have HCELL := Lib.hid (World.cell?_setCell_same w3 ⟨w.heap.size + 1,0,none⟩ (.int .i64 0) e3)
    clear hp ho hb3 q3
    go_wp2_with fail
    obtain ⟨hp,ho,q3,hB⟩ := HB3.out
    have hSS := (Same.refl (fun k => k = w.heap.size + 1) w3).setCell (p := ⟨w.heap.size + 1,0,none⟩) (.inl rfl) (.int .i64 0)
    refine ⟨[],_,rfl,leaves_ok (recov71_ok _ _) HCF.out (res_tc rfl _ rfl HCELL.out) ⟨p,?_,?_,(ho.base (by omega)).keep (keeps_own hSS q3 (by decide)),hB.setCell (by show w.heap.size ≤ w.heap.size + 1; omega) _⟩⟩
    · rw [HW.out]; rfl
    · rw [HW.out,← hp]
  · have hW : mostE t = ([],openE t true) := by unfold mostE; rw [if_neg hE]
    refine (open_no (g := 66) (cp := #[]) ht1 hs hE cf66 (fun hv tb W hP hbW => always66)).mono ?_
    rintro e w2 ⟨rfl,hb2⟩
    have g3 := (hb2.block _ (heap_lt q1)).trans q1
    have hc2 : w2.cell? ⟨w.heap.size + 1,0,none⟩ = some (.int .i64 0) := by rw [cell_of_heap g3]; rfl
    have hB2 := hb1.trans (hb2.mono (by omega))
    have hb3 : Below w.heap.size w ((w2.alloc (.cells #[.int .i64 (openE t true)] 106)).setCell ⟨w.heap.size + 1,0,none⟩ (.int .i64 (openE t true))) :=
      (hB2.alloc hB2.size _).setCell (by simp) _
    have hcell := World.cell?_setCell_same (w2.alloc (.cells #[.int .i64 (openE t true)] 106)) ⟨w.heap.size + 1,0,none⟩ (.int .i64 (openE t true)) (cell_stays ((Below.refl _ w2).alloc (Nat.le_refl _) _) hc2)
    refine ⟨[],_,rfl,leaves_no (recov71_no (openE t true) hc2 (frozen_of_heap g3)) rfl HCF.out (res_tc rfl _ rfl hcell) ⟨⟨[],0,none,0⟩,?_,by rw [hW],.inl ⟨rfl,rfl,rfl⟩,hb3⟩⟩
    rw [hW]
    rfl
set_option maxRecDepth 100000 in
set_option maxHeartbeats 4000000 in
theorem shortest25 {t : Tr} {A : TrA} {w : World} (ht : IsTr w t A) (hs : t.Small) :
    Calls Try.prog 25 #[t.v A] w fun e w' => OrdRet w w' e (shortE t) := by
  have hmf : ∀ (fn : Fn) (first cap : Array Value) (w : World),(Instr.makeFunc fn first cap).run Try.prog w = .ok (.func fn first cap) w := fun _ _ _ _ => rfl
  have HCF := Lib.hid cf69
  refine calls_of_wp_x Try.func25 rfl ?_
  simp only [Try.ntmps25,List.size_toArray,List.length_cons,List.length_nil,Nat.reduceAdd,Nat.reduceSub,Array.replicate_succ,Array.replicate_zero,List.push_toArray,List.append_toArray,List.nil_append,List.cons_append]
  go_wp2_with fail
  obtain ⟨q0,q1,hz1,hb1⟩ := heap2 w (.cells (t.cells A) 25) (.cells #[.int .i64 0] 29)
  revert q0 q1 hz1 hb1
  generalize (w.alloc (.cells (t.cells A) 25)).alloc (.cells #[.int .i64 0] 29) = W1
  intro q0 q1 hz1 hb1
  have ht1 := ht.mono hb1
  by_cases hE : openE t true = 0
  · obtain ⟨hv,_⟩ := openE_zero hE
    have hF := fit_of_valid hv
    refine (open_yes (g := 66) (cp := #[]) ht1 hs hv cf66 (fun tb W hP hbW => always66)).mono ?_
    rintro e w2 ⟨tb,rfl,htb,hP,hb2⟩
    have hB2 := hb1.trans (hb2.mono (by omega))
    have hz2 := hb2.size
    have q1' := (hb2.block _ (heap_lt q1)).trans q1
    have q0' := (hb2.block _ (heap_lt q0)).trans q0
    have HI := Lib.hid (best70 hP hF)
    have H2 := Lib.hid (And.intro hB2 (And.intro q1' (And.intro q0' (And.intro hE hF))))
    clear hb1 q0 q1 ht1 ht hs hv hF htb hP hb2 hB2 q1' q0' hE
    go_wp2_with fail
    refine HI.out.mono ?_
    rintro e w3 ⟨p,rfl,hp,ho,hb3⟩
    have hb34 : Below w3.heap.size w3 (w3.alloc (.cells p.arr 98)) := (Below.refl _ _).alloc (Nat.le_refl _) _
    have q3 := (hb3.block _ (heap_lt H2.out.2.1)).trans H2.out.2.1
    have q0' := (hb3.block _ (heap_lt H2.out.2.2.1)).trans H2.out.2.2.1
    obtain ⟨_,k1,_,_,_⟩ := tr_cells q0'
    have hz3 := hb3.size
    have b1 : w.heap.size + 1 < w3.heap.size := by omega
    have b0 : w.heap.size < w3.heap.size := by omega
    have e3 : w3.cell? ⟨w.heap.size + 1,0,none⟩ = some (.int .i64 0) := by rw [cell_of_heap q3]; rfl
    have f3 : w3.frozen? ⟨w.heap.size + 1,0,none⟩ = false := frozen_of_heap q3
    have hpl : p.o.length ≤ 6 := by
      have : p.o = (bestE t).1 := by rw [← hp]
      rw [this]; exact best_len6 H2.out.2.2.2.2.n _ _ _
    have h6 := H2.out.2.2.2.2.n
    have hpo : p.o = (bestE t).1 := by rw [← hp]
    have HB3 := Lib.hid (And.intro hpo (And.intro ho (And.intro q3 (H2.out.1.trans (hb3.mono (by omega))))))
    by_cases hl : p.o.length = t.frm.length
    · have hcb : ((p.o.length : Int) == (t.frm.length : Int)) = true := by simp [hl]
      have HW : Hid (shortE t = ((bestE t).1,0)) := by unfold Hid shortE; rw [if_pos H2.out.2.2.2.1,if_pos (by rw [← hpo]; exact hl)]
      clear hp ho hb3 q3 q0' hb34 hl hpo
      go_wp2_with (go_at_call 63; refine (need_yes _ _).mono ?_; rintro e w' ⟨rfl,rfl⟩)
      obtain ⟨hp,ho,q3,hB⟩ := HB3.out
      have hSS := ((Same.refl (fun k => k = w.heap.size + 1) w3).setCell (p := ⟨w.heap.size + 1,0,none⟩) (.inl rfl) (.int .i64 0)).alloc (.cells #[.slice p.a p.o.length p.c,.int .i64 p.over] 98)
      have Q1 := heap_setCell_at (k := 0) q3 (.int .i64 0)
      have Q2 := (Below.heap_alloc _ (.cells #[.slice p.a p.o.length p.c,.int .i64 p.over] 98) _ (heap_lt Q1)).trans Q1
      refine ⟨[],_,rfl,leaves_ok (recov69_ok _ _) HCF.out (res_tc rfl _ rfl (by rw [cell_of_heap Q2]; rfl)) ⟨p,?_,?_,(ho.base (by omega)).keep (keeps_own hSS q3 (by decide)),(hB.setCell (by show w.heap.size ≤ w.heap.size + 1; omega) _).alloc (by simp; omega) _⟩⟩
      · rw [HW.out]; rfl
      · rw [HW.out,hp]
    · have hcb : ((p.o.length : Int) == (t.frm.length : Int)) = false := by simp; omega
      have HW : Hid (shortE t = ([],4)) := by unfold Hid shortE; rw [if_pos H2.out.2.2.2.1,if_neg (by rw [← hpo]; exact hl)]
      clear hp ho hb3 q3 q0' hb34 hl hpo
      go_wp2_with fail
      refine (need_no 4 _).mono ?_
      rintro e w4 ⟨rfl,rfl⟩
      obtain ⟨hp,ho,q3,hB⟩ := HB3.out
      have g3 : (w3.alloc (.cells p.arr 98)).heap[w.heap.size + 1]? = _ := (Below.heap_alloc _ _ _ (heap_lt q3)).trans q3
      have hB4 : Below w.heap.size w (w3.alloc (.cells p.arr 98)) := hB.alloc (by omega) _
      have hc2 : (w3.alloc (.cells p.arr 98)).cell? ⟨w.heap.size + 1,0,none⟩ = some (.int .i64 0) := by rw [cell_of_heap g3]; rfl
      have hb5 : Below w.heap.size w (((w3.alloc (.cells p.arr 98)).alloc (.cells #[.int .i64 4] 106)).setCell ⟨w.heap.size + 1,0,none⟩ (.int .i64 4)) := (hB4.alloc hB4.size _).setCell (by simp) _
      have hcell := World.cell?_setCell_same ((w3.alloc (.cells p.arr 98)).alloc (.cells #[.int .i64 4] 106)) ⟨w.heap.size + 1,0,none⟩ (.int .i64 4) (cell_stays ((Below.refl _ _).alloc (Nat.le_refl _) _) hc2)
      refine ⟨[],_,rfl,leaves_no (recov69_no 4 hc2 (frozen_of_heap g3)) rfl HCF.out (res_tc rfl _ rfl hcell) ⟨⟨[],0,none,0⟩,?_,by rw [HW.out],.inl ⟨rfl,rfl,rfl⟩,hb5⟩⟩
      rw [HW.out]
      rfl
  · have hW : shortE t = ([],openE t true) := by unfold shortE; rw [if_neg hE]
    refine (open_no (g := 66) (cp := #[]) ht1 hs hE cf66 (fun hv tb W hP hbW => always66)).mono ?_
    rintro e w2 ⟨rfl,hb2⟩
    have g3 := (hb2.block _ (heap_lt q1)).trans q1
    have hc2 : w2.cell? ⟨w.heap.size + 1,0,none⟩ = some (.int .i64 0) := by rw [cell_of_heap g3]; rfl
    have hB2 := hb1.trans (hb2.mono (by omega))
    have hb3 : Below w.heap.size w ((w2.alloc (.cells #[.int .i64 (openE t true)] 106)).setCell ⟨w.heap.size + 1,0,none⟩ (.int .i64 (openE t true))) :=
      (hB2.alloc hB2.size _).setCell (by simp) _
    have hcell := World.cell?_setCell_same (w2.alloc (.cells #[.int .i64 (openE t true)] 106)) ⟨w.heap.size + 1,0,none⟩ (.int .i64 (openE t true)) (cell_stays ((Below.refl _ w2).alloc (Nat.le_refl _) _) hc2)
    refine ⟨[],_,rfl,leaves_no (recov69_no (openE t true) hc2 (frozen_of_heap g3)) rfl HCF.out (res_tc rfl _ rfl hcell) ⟨⟨[],0,none,0⟩,?_,by rw [hW],.inl ⟨rfl,rfl,rfl⟩,hb3⟩⟩
    rw [hW]
    rfl
end Go.Proofs.Ytphefhpmbahagaa
