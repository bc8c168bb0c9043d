/- Before. -/
import Derived.Test.YtphefhpmbahagaaT36
namespace Go.Proofs.Ytphefhpmbahagaa
open Go.RowKit
set_option linter.unusedVariables false
set_option linter.unusedSimpArgs false

/-- How many of the first k tours are sure and have (p = true),or have not,a view before another one. -/
def befB (a b : Int) (x : List Int) : Bool := decide (indexL x a < indexL x b)
def Tr.cntB (t : Tr) (a b : Int) (p : Bool) (k : Nat) : Nat := ((toursL t.frm.length).take k).countP (fun x => t.is true x && (befB a b x == p))
theorem cntB_succ {t : Tr} {a b : Int} {p : Bool} {k : Nat} {x : List Int} (h : (toursL t.frm.length)[k]? = some x) : t.cntB a b p (k + 1) = t.cntB a b p k + (if t.is true x && (befB a b x == p) then 1 else 0) := by
  have hk := (List.getElem?_eq_some_iff.1 h).1
  unfold Tr.cntB
  rw [List.take_succ_eq_append_getElem hk,(List.getElem?_eq_some_iff.1 h).2,List.countP_append]
  simp [List.countP_cons]
theorem cntB_le (t : Tr) (a b : Int) (p : Bool) (k : Nat) : t.cntB a b p k ≤ k := by
  unfold Tr.cntB
  refine Nat.le_trans List.countP_le_length ?_
  rw [List.length_take]; omega
def befOk (t : Tr) (a b : Int) : Bool := t.view a && t.view b && (a != b)
def tellE (y n : Nat) : Int × Int := if y + n = 0 then (0,4) else if n = 0 then (2,0) else if y = 0 then (0,0) else (1,0)
def beforeE (t : Tr) (a b : Int) : Int × Int := if openE t (befOk t a b) = 0 then tellE (t.cntB a b true (toursL t.frm.length).length) (t.cntB a b false (toursL t.frm.length).length) else (0,openE t (befOk t a b))
/-- What stays while tours are counted. -/
abbrev befF (t : Tr) (TA : TrA) (a b : Int) (B p tb i : Nat) : List (Nat × Obj) :=
  [(B + 1,.cells #[.int .i64 a] 3 (0,0)),(B + 2,.cells #[.int .i64 b] 3 (0,0)),(B + 3,.cells #[.int .i64 0] 29 (0,0)),(tb,.cells (t.obj TA) 91 (0,0)),(p,.cells #[.pointer (some ⟨tb,0,none⟩)] 69 (0,0)),
   (p + 1,.cells #[.int .i64 (t.cntB a b true i : Nat)] 3 (0,0)),(p + 2,.cells #[.int .i64 (t.cntB a b false i : Nat)] 3 (0,0))]
theorem heap3 (w : World) (a b c : Obj) : let W := ((w.alloc a).alloc b).alloc c
    W.heap[w.heap.size]? = some a ∧ W.heap[w.heap.size + 1]? = some b ∧ W.heap[w.heap.size + 2]? = some c ∧ W.heap.size = w.heap.size + 3 ∧ Below w.heap.size w W := by
  obtain ⟨q0,q1,hz,hb⟩ := heap2 w a b
  have h3 : Below ((w.alloc a).alloc b).heap.size ((w.alloc a).alloc b) (((w.alloc a).alloc b).alloc c) := (Below.refl _ _).alloc (Nat.le_refl _) _
  have q2 := World.alloc_heap_new ((w.alloc a).alloc b) c
  rw [hz] at q2
  refine ⟨(h3.block _ (heap_lt q0)).trans q0,(h3.block _ (heap_lt q1)).trans q1,q2,by simp,hb.trans (h3.mono (by omega))⟩
attribute [local go_sem] Oper.semAt_some
set_option maxRecDepth 100000 in
set_option maxHeartbeats 4000000 in
theorem before29 {t : Tr} {A : TrA} {w : World} (ht : IsTr w t A) (hs : t.Small) (a b : Int) :
    Calls Try.prog 29 #[t.v A,.int .i64 a,.int .i64 b] w fun e w' => e = .returned (.tuple #[.int .i64 (beforeE t a b).1,.int .i64 (beforeE t a b).2]) ∧ Below w.heap.size w w' := by
  have hmf : ∀ (fn : Fn) (first cap : Array Value) (w : World),(Instr.makeFunc fn first cap).run Try.prog w = .ok (.func fn first cap) w := fun _ _ _ _ => rfl
  have HCF := Lib.hid cf73
  refine calls_of_wp_x Try.func29 rfl ?_
  simp only [Try.ntmps29,List.size_toArray,List.length_cons,List.length_nil,Nat.reduceAdd,Nat.reduceSub,Array.replicate_succ,Array.replicate_zero,List.push_toArray,List.append_toArray,List.nil_append,List.cons_append]
  go_wp2_with fail
  obtain ⟨W1,hW1⟩ : ∃ W1 : World,W1 = (((w.alloc (.cells (t.cells A) 25)).alloc (.cells #[.int .i64 a] 3)).alloc (.cells #[.int .i64 b] 3)).alloc (.cells #[.int .i64 0] 29) := ⟨_,rfl⟩
  obtain ⟨q0,q1,hz,hb⟩ := heap2 w (.cells (t.cells A) 25) (.cells #[.int .i64 a] 3)
  obtain ⟨q2,q3,hzb,hbx⟩ := heap2 ((w.alloc (.cells (t.cells A) 25)).alloc (.cells #[.int .i64 a] 3)) (.cells #[.int .i64 b] 3) (.cells #[.int .i64 0] 29)
  rw [hz] at q2 q3 hzb
  rw [← hW1] at q2 q3 hzb hbx
  have hb1 : Below w.heap.size w W1 := hb.trans (hbx.mono (by omega))
  have q1 := (hbx.block _ (heap_lt q1)).trans q1
  have ht1 := ht.mono hb1
  rw [← hW1]
  have hz1 : W1.heap.size = w.heap.size + 4 := by omega
  have p1 : W1.cell? ⟨w.heap.size + 1,0,none⟩ = some (.int .i64 a) := by rw [cell_of_heap q1]; rfl
  have p2 : W1.cell? ⟨w.heap.size + 2,0,none⟩ = some (.int .i64 b) := by rw [cell_of_heap q2]; rfl
  clear hW1 hb hbx hz hzb q0
  by_cases hE : openE t (befOk t a b) = 0
  · obtain ⟨hv,hok⟩ := openE_zero hE
    have hF := fit_of_valid hv
    refine (open_yes (g := 74) (cp := #[.pointer (some ⟨w.heap.size + 1,0,none⟩),.pointer (some ⟨w.heap.size + 2,0,none⟩)]) ht1 hs hv cf74 (fun tb W hP hbW => ?_)).mono ?_
    · have := before74 hP (by have := hF.n; omega) (cell_stays hbW p1) (cell_stays hbW p2)
      rw [show (t.view a && t.view b && (a != b)) = true from hok] at this
      exact this
    rintro e w2 ⟨tb,rfl,htb,hP,hb2⟩
    have hB2 := hb1.trans (hb2.mono (by omega))
    have hz2 : w.heap.size + 4 ≤ w2.heap.size := by have := hb2.size; omega
    have q1 := (hb2.block _ (heap_lt q1)).trans q1
    have q2 := (hb2.block _ (heap_lt q2)).trans q2
    have q3 := (hb2.block _ (heap_lt q3)).trans q3
    have htw := heap_lt hP.obj
    have htb4 : w.heap.size + 4 ≤ tb := by omega
    have H2 := Lib.hid (And.intro hB2 (And.intro q1 (And.intro q2 (And.intro q3 (And.intro hP (And.intro hF (And.intro hE ht)))))))
    clear hb1 hz1 q1 q2 q3 ht1 ht hs hv hok hF htb hP hb2 hB2 hE p1 p2
    go_wp2_with fail
    obtain ⟨r0,r1,r2,hz3,hb3⟩ := heap3 w2 (.cells #[.pointer (some ⟨tb,0,none⟩)] 69) (.cells #[.int .i64 0] 3) (.cells #[.int .i64 0] 3)
    revert r0 r1 r2 hz3 hb3
    generalize ((w2.alloc (.cells #[.pointer (some ⟨tb,0,none⟩)] 69)).alloc (.cells #[.int .i64 0] 3)).alloc (.cells #[.int .i64 0] 3) = v2
    intro r0 r1 r2 hz3' hb3
    refine tours67.mono ?_
    rintro e w3 ⟨rfl,rfl⟩
    have hba : Below v2.heap.size v2 (v2.alloc (.cells #[.pointer (some ⟨tb,0,none⟩)] 69)) := (Below.refl _ _).alloc (Nat.le_refl _) _
    have r3 := World.alloc_heap_new v2 (.cells #[.pointer (some ⟨tb,0,none⟩)] 69)
    have hz3 : (v2.alloc (.cells #[.pointer (some ⟨tb,0,none⟩)] 69)).heap.size = w2.heap.size + 4 := by simp; omega
    rw [hz3'] at r3 ⊢
    revert hba r3 hz3
    generalize v2.alloc (.cells #[.pointer (some ⟨tb,0,none⟩)] 69) = w3
    intro hba r3 hz3
    have H3 := Lib.hid (And.intro ((hba.block _ (heap_lt r0)).trans r0) (And.intro ((hba.block _ (heap_lt r1)).trans r1) (And.intro ((hba.block _ (heap_lt r2)).trans r2) (And.intro r3 (hb3.trans (hba.mono (by omega)))))))
    clear r0 r1 r2 r3 hb3 hba hz3'
    go_wp2_with fail
    refine wp_rangeFuncC (gf := 87) (lb := #[.pointer (some ⟨w2.heap.size + 3,0,none⟩)]) rfl (fun args w => by simp [callFunc,Try.func87,Try.f87,go_sem]) (toursL t.frm.length).length (WayOk t.frm.length (w3.heap.size + 2)) (fun q => q = w2.heap.size + 1 ∨ q = w2.heap.size + 2 ∨ q = w3.heap.size + 1) ?hps (by omega) (by omega) ?hit
      (fun i V C => KeepI w (w3.heap.size + 2) (befF t A a b w.heap.size w2.heap.size tb i) V C) (fun _ _ _ _ => False) ?hI ?hIx ?h0 ?hround ?hdone ?hstop
    case hps =>
      rintro i v A K ⟨x,vc,_,rfl,_⟩
      rfl
    case hit =>
      intro W hb hsz
      rw [← hsz]
      obtain ⟨hB2,q1,q2,q3,hP,hF,hE,ht⟩ := H2.out
      refine tours_iter (TA := A) (tb := tb) hF.n (fun V hV => ?_)
      have hbV : ∀ k,k < w3.heap.size → k ≠ w2.heap.size + 1 → k ≠ w2.heap.size + 2 → V.heap[k]? = w3.heap[k]? := fun k hk h1 h2 => (hV.block k (by omega) (by rintro (e | e | e) <;> omega)).trans (hb.block k hk)
      have hBV : Below w.heap.size w V := ((hB2.trans (H3.out.2.2.2.2.mono (by omega))).trans (hb.mono (by omega))).trans (hV.below (by omega) (fun k hk e => by rcases e with e | e | e <;> omega))
      exact ⟨(hbV _ (by omega) (by omega) (by omega)).trans H3.out.2.2.2.1,(hbV _ (by omega) (by omega) (by omega)).trans ((H3.out.2.2.2.2.block _ htw).trans hP.obj),ht.mono hBV⟩
    case hI =>
      intro i A B C h hs
      exact h.stable hs (fun p hp => by simp only [List.mem_cons,List.not_mem_nil,or_false] at hp; rcases hp with rfl | rfl | rfl | rfl | rfl | rfl | rfl <;> simp <;> omega) (by omega) (by omega)
    case hIx =>
      intro c i A B C h _
      exact h
    case h0 =>
      intro W hb hsz
      obtain ⟨hB2,q1,q2,q3,hP,hF,hE,ht⟩ := H2.out
      have hbk : ∀ k,k < w2.heap.size → W.heap[k]? = w2.heap[k]? := fun k hk => (hb.block k (by omega)).trans (H3.out.2.2.2.2.block k hk)
      refine ⟨(hB2.trans (H3.out.2.2.2.2.mono (by omega))).trans (hb.mono (by omega)),fun p hp => ?_,fun k hk => hk⟩
      simp only [List.mem_cons,List.not_mem_nil,or_false] at hp; rcases hp with rfl | rfl | rfl | rfl | rfl | rfl | rfl
      · exact (hbk _ (by omega)).trans q1
      · exact (hbk _ (by omega)).trans q2
      · exact (hbk _ (by omega)).trans q3
      · exact (hbk _ htw).trans hP.obj
      · exact (hb.block _ (by omega)).trans H3.out.1
      · exact (hb.block _ (by omega)).trans H3.out.2.1
      · exact (hb.block _ (by omega)).trans H3.out.2.2.1
    case hround =>
      rintro i v W C K hiN ⟨x,vc,hx,rfl,hvc,rfl⟩ hKC hC hI hlt
      obtain ⟨av,cv,rfl,_⟩ := own_slice hvc
      have HH := Lib.hid (And.intro hC (And.intro hI (And.intro hlt (And.intro hiN (And.intro hx hvc)))))
      clear hx hvc hKC hC hI hlt hiN
      gi_wp2_with fail
      refine ⟨trivial,fun V2 hS2 hsz2 => ?_⟩
      obtain ⟨hC,hI,hlt,hiN,hx,hvc⟩ := HH.out
      have hI2 := hI.stable (lb := w3.heap.size + 1) (hS2.mono (fun _ _ e => .inr e)) (fun p hp => by simp only [List.mem_cons,List.not_mem_nil,or_false] at hp; rcases hp with rfl | rfl | rfl | rfl | rfl | rfl | rfl <;> simp <;> omega) (by omega) (by omega)
      have g1 := hI2.at_ (w.heap.size + 1,_) (.head _)
      have g2 := hI2.at_ (w.heap.size + 2,_) (.tail _ (.head _))
      have g3 := hI2.at_ (w.heap.size + 3,_) (.tail _ (.tail _ (.head _)))
      have g4 := hI2.at_ (tb,_) (.tail _ (.tail _ (.tail _ (.head _))))
      have g5 := hI2.at_ (w2.heap.size,_) (.tail _ (.tail _ (.tail _ (.tail _ (.head _)))))
      have g6 := hI2.at_ (w2.heap.size + 1,_) (.tail _ (.tail _ (.tail _ (.tail _ (.tail _ (.head _))))))
      have g7 := hI2.at_ (w2.heap.size + 2,_) (.tail _ (.tail _ (.tail _ (.tail _ (.tail _ (.tail _ (.head _)))))))
      have hlv : w3.heap.size + 2 ≤ V2.heap.size := by omega
      obtain ⟨X,hX⟩ : ∃ X : Nat,X = t.cntB a b true i := ⟨_,rfl⟩
      obtain ⟨Y,hY⟩ : ∃ Y : Nat,Y = t.cntB a b false i := ⟨_,rfl⟩
      have hXb : X ≤ 1000000 ∧ Y ≤ 1000000 := by
        have := cntB_le t a b true i
        have := cntB_le t a b false i
        have := tours_len H2.out.2.2.2.2.2.1.n
        omega
      have HX := Lib.hid (And.intro hX hY)
      rw [← hX] at g6
      rw [← hY] at g7
      have c5 : V2.cell? ⟨w2.heap.size,0,none⟩ = some (.pointer (some ⟨tb,0,none⟩)) := by rw [cell_of_heap g5]; rfl
      have hTP : TourP V2 tb t A := ⟨g4,H2.out.2.2.2.2.2.2.2.mono hI2.below⟩
      have hv2 : V2.ownsRow (w3.heap.size + 2) 3 1 (.slice av x.length cv) x.length (x.map (Value.int .i64)) := own_blocks hvc (fun g hg => hS2.block g (hvc.lt g hg).2 (fun e => by have := (hvc.lt g hg).1; omega))
      have hin2 := own_ints hv2
      have hmx := tour_mem (List.mem_of_getElem? hx)
      have hxl : x.length ≤ 16 := by have := H2.out.2.2.2.2.2.1.n; omega
      have HMX := Lib.hid (tour_view (List.mem_of_getElem? hx))
      have HCT := Lib.hid (fun q => cntB_succ (t := t) (a := a) (b := b) (p := q) hx)
      have HC1 := Lib.hid (is49_74 (cap := cv) hTP H2.out.2.2.2.2.2.1 hxl HMX.out hin2)
      have HI2 := Lib.hid (And.intro hI2 (And.intro hlv (And.intro g1 (And.intro g2 (And.intro g3 (And.intro g4 (And.intro g5 (And.intro g6 (And.intro g7 hin2)))))))))
      clear hC hI hlt hiN hx hvc hI2 hS2 hsz2 HH g1 g2 g3 g4 g5 g6 g7 hlv hTP hin2 hv2 hmx hX hY
      gi_wp2_with fail
      refine ⟨trivial,rfl,wideAt_calls (HC1.out.mono ?_)⟩
      rintro e w5 ⟨rfl,hb5⟩
      have hlv := HI2.out.2.1
      obtain ⟨_,_,g1,g2,g3,g4,g5,g6,g7,hin2⟩ := HI2.out
      have g1 := (hb5.block _ (heap_lt g1)).trans g1
      have g2 := (hb5.block _ (heap_lt g2)).trans g2
      have g3 := (hb5.block _ (heap_lt g3)).trans g3
      have g4 := (hb5.block _ (heap_lt g4)).trans g4
      have g5 := (hb5.block _ (heap_lt g5)).trans g5
      have g6 := (hb5.block _ (heap_lt g6)).trans g6
      have g7 := (hb5.block _ (heap_lt g7)).trans g7
      have hin5 := hin2.mono hb5
      have hzv := hb5.size
      clear hin2 HC1
      cases ha : t.is true x
      · have HA1 := Lib.hid ha
        have HY := Lib.hid (And.intro g1 (And.intro g2 (And.intro g3 (And.intro g4 (And.intro g5 (And.intro g6 (And.intro g7 hb5)))))))
        clear ha g1 g2 g3 g4 g5 g6 g7 hb5 hin5
        gi_wp2_with fail
        obtain ⟨g1,g2,g3,g4,g5,g6,g7,hb5⟩ := HY.out
        refine HI2.out.1.next (S := fun _ => False) (K := fun k => (Value.slice av x.length cv).ownBlock = some k) (Same.of_below _ hb5) (fun k hk e => e.elim) (fun p hp => ?_) HI2.out.2.1
        simp only [List.mem_cons,List.not_mem_nil,or_false] at hp; rcases hp with rfl | rfl | rfl | rfl | rfl | rfl | rfl
        · exact g1
        · exact g2
        · exact g3
        · exact g4
        · exact g5
        · rw [HCT.out true,HA1.out,← HX.out.1]; exact g6
        · rw [HCT.out false,HA1.out,← HX.out.2]; exact g7
      · have HA1 := Lib.hid ha
        have c1 : w5.cell? ⟨w.heap.size + 1,0,none⟩ = some (.int .i64 a) := by rw [cell_of_heap g1]; rfl
        have c2 : w5.cell? ⟨w.heap.size + 2,0,none⟩ = some (.int .i64 b) := by rw [cell_of_heap g2]; rfl
        have x1 := fun y : Aft w5.heap.size w5 => cell_stays y.h c1
        have x2 := fun y : Aft w5.heap.size w5 => cell_stays y.h c2
        have e1 : Hid (∀ (v : Int) (y : Aft w5.heap.size w5),Calls Try.prog 76 #[.slice av x.length cv,.int .i64 v] y.v fun e w' => e = .returned (.int .i64 (indexL x v)) ∧ y.v = w') := fun v y => index76 (by omega) (hin5.mono y.h)
        have HY := Lib.hid (And.intro g1 (And.intro g2 (And.intro g3 (And.intro g4 (And.intro g5 (And.intro g6 (And.intro g7 hb5)))))))
        clear ha g1 g2 g3 g4 g5 g6 g7 hb5 hin5 c1 c2
        gi_wp2_with fail
        cases hbf : decide (indexL x a < indexL x b)
        · refine wpIn_region_aft_tail (r := some (w3.heap.size + 1)) (m := 0) 7 mixed (by kernel_rfl) ?_
          simp only [List.take_succ_cons,List.take_zero,List.drop_succ_cons,List.drop_zero]
          repeat (go_big_quiet_step ((go_at_call 76; exact calls_aft_same (e1.out _ _))))
          refine wpQuiet_nil ?_
          rintro _ ⟨z,rfl⟩
          have hzb := z.h
          revert hzb
          generalize z.v = w6
          intro hzb
          clear x1 x2 e1
          obtain ⟨g1,g2,g3,g4,g5,g6,g7,hb5⟩ := HY.out
          have y1 := (hzb.block _ (heap_lt g1)).trans g1
          have y2 := (hzb.block _ (heap_lt g2)).trans g2
          have y3 := (hzb.block _ (heap_lt g3)).trans g3
          have y4 := (hzb.block _ (heap_lt g4)).trans g4
          have y5 := (hzb.block _ (heap_lt g5)).trans g5
          have y6 := (hzb.block _ (heap_lt g6)).trans g6
          have y7 := (hzb.block _ (heap_lt g7)).trans g7
          have d6 : w6.cell? ⟨w2.heap.size + 2,0,none⟩ = some (.int .i64 Y) := by rw [cell_of_heap y7]; rfl
          have f6 : w6.frozen? ⟨w2.heap.size + 2,0,none⟩ = false := frozen_of_heap y7
          have HBF : Hid (befB a b x = false) := hbf
          have hzz := hzb.size
          have HZ := Lib.hid (And.intro y1 (And.intro y2 (And.intro y3 (And.intro y4 (And.intro y5 (And.intro y6 (And.intro y7 (hb5.trans (hzb.mono hb5.size)))))))))
          clear g1 g2 g3 g4 g5 g6 g7 hb5 y1 y2 y3 y4 y5 y6 y7 hzb hbf HY
          gi_wp2_with fail
          obtain ⟨y1,y2,y3,y4,y5,y6,y7,hb6⟩ := HZ.out
          have ho : ∀ k,k ≠ w2.heap.size + 2 → (w6.setCell ⟨w2.heap.size + 2,0,none⟩ (.int .i64 ((Y : Int) + 1))).heap[k]? = w6.heap[k]? := fun k hk => Below.heap_setCell _ _ _ _ hk
          have u := heap_setCell_at (k := 0) y7 (.int .i64 ((Y : Int) + 1))
          refine HI2.out.1.next (K := fun k => (Value.slice av x.length cv).ownBlock = some k) ((Same.of_below (fun k => k = w2.heap.size + 2) hb6).setCell (p := ⟨w2.heap.size + 2,0,none⟩) (.inl rfl) _) (fun k hk e => by subst e; exact ⟨by omega,by omega,by simp⟩) (fun p hp => ?_) HI2.out.2.1
          simp only [List.mem_cons,List.not_mem_nil,or_false] at hp; rcases hp with rfl | rfl | rfl | rfl | rfl | rfl | rfl
          · exact (ho _ (by omega)).trans y1
          · exact (ho _ (by omega)).trans y2
          · exact (ho _ (by omega)).trans y3
          · exact (ho _ (by omega)).trans y4
          · exact (ho _ (by omega)).trans y5
          · rw [HCT.out true,HA1.out,HBF.out,← HX.out.1]; exact (ho _ (by omega)).trans y6
          · rw [HCT.out false,HA1.out,HBF.out,← HX.out.2]; exact u
        · refine wpIn_region_aft_tail (r := some (w3.heap.size + 1)) (m := 0) 7 mixed (by kernel_rfl) ?_
          simp only [List.take_succ_cons,List.take_zero,List.drop_succ_cons,List.drop_zero]
          repeat (go_big_quiet_step ((go_at_call 76; exact calls_aft_same (e1.out _ _))))
          refine wpQuiet_nil ?_
          rintro _ ⟨z,rfl⟩
          have hzb := z.h
          revert hzb
          generalize z.v = w6
          intro hzb
          clear x1 x2 e1
          obtain ⟨g1,g2,g3,g4,g5,g6,g7,hb5⟩ := HY.out
          have y1 := (hzb.block _ (heap_lt g1)).trans g1
          have y2 := (hzb.block _ (heap_lt g2)).trans g2
          have y3 := (hzb.block _ (heap_lt g3)).trans g3
          have y4 := (hzb.block _ (heap_lt g4)).trans g4
          have y5 := (hzb.block _ (heap_lt g5)).trans g5
          have y6 := (hzb.block _ (heap_lt g6)).trans g6
          have y7 := (hzb.block _ (heap_lt g7)).trans g7
          have d6 : w6.cell? ⟨w2.heap.size + 1,0,none⟩ = some (.int .i64 X) := by rw [cell_of_heap y6]; rfl
          have f6 : w6.frozen? ⟨w2.heap.size + 1,0,none⟩ = false := frozen_of_heap y6
          have HBF : Hid (befB a b x = true) := hbf
          have hzz := hzb.size
          have HZ := Lib.hid (And.intro y1 (And.intro y2 (And.intro y3 (And.intro y4 (And.intro y5 (And.intro y6 (And.intro y7 (hb5.trans (hzb.mono hb5.size)))))))))
          clear g1 g2 g3 g4 g5 g6 g7 hb5 y1 y2 y3 y4 y5 y6 y7 hzb hbf HY
          gi_wp2_with fail
          obtain ⟨y1,y2,y3,y4,y5,y6,y7,hb6⟩ := HZ.out
          have ho : ∀ k,k ≠ w2.heap.size + 1 → (w6.setCell ⟨w2.heap.size + 1,0,none⟩ (.int .i64 ((X : Int) + 1))).heap[k]? = w6.heap[k]? := fun k hk => Below.heap_setCell _ _ _ _ hk
          have u := heap_setCell_at (k := 0) y6 (.int .i64 ((X : Int) + 1))
          refine HI2.out.1.next (K := fun k => (Value.slice av x.length cv).ownBlock = some k) ((Same.of_below (fun k => k = w2.heap.size + 1) hb6).setCell (p := ⟨w2.heap.size + 1,0,none⟩) (.inl rfl) _) (fun k hk e => by subst e; exact ⟨by omega,by omega,by simp⟩) (fun p hp => ?_) HI2.out.2.1
          simp only [List.mem_cons,List.not_mem_nil,or_false] at hp; rcases hp with rfl | rfl | rfl | rfl | rfl | rfl | rfl
          · exact (ho _ (by omega)).trans y1
          · exact (ho _ (by omega)).trans y2
          · exact (ho _ (by omega)).trans y3
          · exact (ho _ (by omega)).trans y4
          · exact (ho _ (by omega)).trans y5
          · rw [HCT.out true,HA1.out,HBF.out,← HX.out.1]; exact u
          · rw [HCT.out false,HA1.out,HBF.out,← HX.out.2]; exact (ho _ (by omega)).trans y7
    case hdone =>
      intro W C hI hdef
      have g3 := hI.at_ (w.heap.size + 3,_) (.tail _ (.tail _ (.head _)))
      have g6 := hI.at_ (w2.heap.size + 1,_) (.tail _ (.tail _ (.tail _ (.tail _ (.tail _ (.head _))))))
      have g7 := hI.at_ (w2.heap.size + 2,_) (.tail _ (.tail _ (.tail _ (.tail _ (.tail _ (.tail _ (.head _)))))))
      obtain ⟨X,hX⟩ : ∃ X : Nat,X = t.cntB a b true (toursL t.frm.length).length := ⟨_,rfl⟩
      obtain ⟨Y,hY⟩ : ∃ Y : Nat,Y = t.cntB a b false (toursL t.frm.length).length := ⟨_,rfl⟩
      have hXb : X ≤ 1000000 ∧ Y ≤ 1000000 := by
        have := cntB_le t a b true (toursL t.frm.length).length
        have := cntB_le t a b false (toursL t.frm.length).length
        have := tours_len H2.out.2.2.2.2.2.1.n
        omega
      rw [← hX] at g6
      rw [← hY] at g7
      have HW : Hid (beforeE t a b = tellE X Y) := by unfold Hid beforeE; rw [if_pos H2.out.2.2.2.2.2.2.1,← hX,← hY]
      have c6 : W.cell? ⟨w2.heap.size + 1,0,none⟩ = some (.int .i64 X) := by rw [cell_of_heap g6]; rfl
      have c7 : W.cell? ⟨w2.heap.size + 2,0,none⟩ = some (.int .i64 Y) := by rw [cell_of_heap g7]; rfl
      have c3 : W.cell? ⟨w.heap.size + 3,0,none⟩ = some (.int .i64 0) := by rw [cell_of_heap g3]; rfl
      have f3 : W.frozen? ⟨w.heap.size + 3,0,none⟩ = false := frozen_of_heap g3
      have HG := Lib.hid (And.intro g3 (And.intro hdef hI.below))
      clear hX hY g3 g6 g7 hdef hI
      by_cases h0 : X + Y = 0
      · have hgt : decide ((0 : Int) < (X : Int) + (Y : Int)) = false := by simp; omega
        have HT : Hid (tellE X Y = (0,4)) := by unfold Hid tellE; rw [if_pos h0]
        clear h0
        go_wp2_with fail
        refine (need_no 4 _).mono ?_
        rintro e w' ⟨rfl,rfl⟩
        obtain ⟨g3,e5,hBl⟩ := HG.out
        have k3 := (World.putObj_heap_other (w := W) (o := .deferred none) (show w.heap.size + 3 ≠ w3.heap.size by omega)).trans g3
        have hput : Below w.heap.size w (W.putObj w3.heap.size (.deferred none)) :=
          (((Same.of_below (fun q => w.heap.size ≤ q) hBl).putObj (.inl (by omega)) _).below (Nat.le_refl _) (fun q hq h => by omega))
        have hc2 : (W.putObj w3.heap.size (.deferred none)).cell? ⟨w.heap.size + 3,0,none⟩ = some (.int .i64 0) := by rw [cell_of_heap k3]; rfl
        have hb4 : Below w.heap.size w (((W.putObj w3.heap.size (.deferred none)).alloc (.cells #[.int .i64 4] 106)).setCell ⟨w.heap.size + 3,0,none⟩ (.int .i64 4)) := (hput.alloc hput.size _).setCell (by simp) _
        have hcell := World.cell?_setCell_same ((W.putObj w3.heap.size (.deferred none)).alloc (.cells #[.int .i64 4] 106)) ⟨w.heap.size + 3,0,none⟩ (.int .i64 4) (cell_stays ((Below.refl _ _).alloc (Nat.le_refl _) _) hc2)
        rw [hz3] at e5 hput k3 hc2 hb4 hcell
        refine ⟨[w2.heap.size + 4],_,rfl,by simp,_,run_takeDeferred e5,leaves_no (recov73_no 4 hc2 (frozen_of_heap k3)) rfl HCF.out (res_tc rfl _ rfl hcell) ⟨?_,hb4⟩⟩
        rw [HW.out,HT.out]; rfl
      · have hgt : decide ((0 : Int) < (X : Int) + (Y : Int)) = true := by simp; omega
        by_cases hn : Y = 0
        · have hb0 : ((Y : Int) == 0) = true := by simp; omega
          have HT : Hid (tellE X Y = (2,0)) := by unfold Hid tellE; rw [if_neg h0,if_pos hn]
          clear h0 hn
          go_wp2_with (go_at_call 63; refine (need_yes _ _).mono ?_; rintro e w' ⟨rfl,rfl⟩)
          obtain ⟨g3,e5,hBl⟩ := HG.out
          have d3 := heap_setCell_at (k := 0) g3 (.int .i64 0)
          have e5 := (Below.heap_setCell W ⟨w.heap.size + 3,0,none⟩ (.int .i64 0) w3.heap.size (by show w3.heap.size ≠ w.heap.size + 3; omega)).trans e5
          have hBW := hBl.setCell (p := ⟨w.heap.size + 3,0,none⟩) (by show w.heap.size ≤ w.heap.size + 3; omega) (.int .i64 0)
          have hput : Below w.heap.size w ((W.setCell ⟨w.heap.size + 3,0,none⟩ (.int .i64 0)).putObj w3.heap.size (.deferred none)) :=
            (((Same.of_below (fun q => w.heap.size ≤ q) hBW).putObj (.inl (by omega)) _).below (Nat.le_refl _) (fun q hq h => by omega))
          have k3 := (World.putObj_heap_other (w := W.setCell ⟨w.heap.size + 3,0,none⟩ (.int .i64 0)) (o := .deferred none) (show w.heap.size + 3 ≠ w3.heap.size by omega)).trans d3
          rw [hz3] at e5 hput k3
          refine ⟨[w2.heap.size + 4],_,rfl,by simp,_,run_takeDeferred e5,leaves_ok (recov73_ok _ _) HCF.out (res_tc rfl _ rfl (by rw [cell_of_heap k3]; rfl)) ⟨?_,hput⟩⟩
          rw [HW.out,HT.out]; rfl
        · have hb0 : ((Y : Int) == 0) = false := by simp; omega
          by_cases hy : X = 0
          · have hb1 : ((X : Int) == 0) = true := by simp; omega
            have HT : Hid (tellE X Y = (0,0)) := by unfold Hid tellE; rw [if_neg h0,if_neg hn,if_pos hy]
            clear h0 hn hy
            go_wp2_with (go_at_call 63; refine (need_yes _ _).mono ?_; rintro e w' ⟨rfl,rfl⟩)
            obtain ⟨g3,e5,hBl⟩ := HG.out
            have d3 := heap_setCell_at (k := 0) g3 (.int .i64 0)
            have e5 := (Below.heap_setCell W ⟨w.heap.size + 3,0,none⟩ (.int .i64 0) w3.heap.size (by show w3.heap.size ≠ w.heap.size + 3; omega)).trans e5
            have hBW := hBl.setCell (p := ⟨w.heap.size + 3,0,none⟩) (by show w.heap.size ≤ w.heap.size + 3; omega) (.int .i64 0)
            have hput : Below w.heap.size w ((W.setCell ⟨w.heap.size + 3,0,none⟩ (.int .i64 0)).putObj w3.heap.size (.deferred none)) :=
              (((Same.of_below (fun q => w.heap.size ≤ q) hBW).putObj (.inl (by omega)) _).below (Nat.le_refl _) (fun q hq h => by omega))
            have k3 := (World.putObj_heap_other (w := W.setCell ⟨w.heap.size + 3,0,none⟩ (.int .i64 0)) (o := .deferred none) (show w.heap.size + 3 ≠ w3.heap.size by omega)).trans d3
            rw [hz3] at e5 hput k3
            refine ⟨[w2.heap.size + 4],_,rfl,by simp,_,run_takeDeferred e5,leaves_ok (recov73_ok _ _) HCF.out (res_tc rfl _ rfl (by rw [cell_of_heap k3]; rfl)) ⟨?_,hput⟩⟩
            rw [HW.out,HT.out]; rfl
          · have hb1 : ((X : Int) == 0) = false := by simp; omega
            have HT : Hid (tellE X Y = (1,0)) := by unfold Hid tellE; rw [if_neg h0,if_neg hn,if_neg hy]
            clear h0 hn hy
            go_wp2_with (go_at_call 63; refine (need_yes _ _).mono ?_; rintro e w' ⟨rfl,rfl⟩)
            obtain ⟨g3,e5,hBl⟩ := HG.out
            have d3 := heap_setCell_at (k := 0) g3 (.int .i64 0)
            have e5 := (Below.heap_setCell W ⟨w.heap.size + 3,0,none⟩ (.int .i64 0) w3.heap.size (by show w3.heap.size ≠ w.heap.size + 3; omega)).trans e5
            have hBW := hBl.setCell (p := ⟨w.heap.size + 3,0,none⟩) (by show w.heap.size ≤ w.heap.size + 3; omega) (.int .i64 0)
            have hput : Below w.heap.size w ((W.setCell ⟨w.heap.size + 3,0,none⟩ (.int .i64 0)).putObj w3.heap.size (.deferred none)) :=
              (((Same.of_below (fun q => w.heap.size ≤ q) hBW).putObj (.inl (by omega)) _).below (Nat.le_refl _) (fun q hq h => by omega))
            have k3 := (World.putObj_heap_other (w := W.setCell ⟨w.heap.size + 3,0,none⟩ (.int .i64 0)) (o := .deferred none) (show w.heap.size + 3 ≠ w3.heap.size by omega)).trans d3
            rw [hz3] at e5 hput k3
            refine ⟨[w2.heap.size + 4],_,rfl,by simp,_,run_takeDeferred e5,leaves_ok (recov73_ok _ _) HCF.out (res_tc rfl _ rfl (by rw [cell_of_heap k3]; rfl)) ⟨?_,hput⟩⟩
            rw [HW.out,HT.out]; rfl
    case hstop =>
      intro c i W C _ h
      exact h.elim
  · have hW : beforeE t a b = (0,openE t (befOk t a b)) := by unfold beforeE; rw [if_neg hE]
    refine (open_no (g := 74) (cp := #[.pointer (some ⟨w.heap.size + 1,0,none⟩),.pointer (some ⟨w.heap.size + 2,0,none⟩)]) ht1 hs hE cf74 (fun hv tb W hP hbW => before74 hP (by have := (fit_of_valid hv).n; omega) (cell_stays hbW p1) (cell_stays hbW p2))).mono ?_
    rintro e w2 ⟨rfl,hb2⟩
    have g3 := (hb2.block _ (heap_lt q3)).trans q3
    have hc2 : w2.cell? ⟨w.heap.size + 3,0,none⟩ = some (.int .i64 0) := by rw [cell_of_heap g3]; rfl
    have hB2 := hb1.trans (hb2.mono (by omega))
    have hb3 : Below w.heap.size w ((w2.alloc (.cells #[.int .i64 (openE t (befOk t a b))] 106)).setCell ⟨w.heap.size + 3,0,none⟩ (.int .i64 (openE t (befOk t a b)))) :=
      (hB2.alloc hB2.size _).setCell (by simp) _
    have hcell := World.cell?_setCell_same (w2.alloc (.cells #[.int .i64 (openE t (befOk t a b))] 106)) ⟨w.heap.size + 3,0,none⟩ (.int .i64 (openE t (befOk t a b))) (cell_stays ((Below.refl _ w2).alloc (Nat.le_refl _) _) hc2)
    refine ⟨[],_,rfl,leaves_no (recov73_no (openE t (befOk t a b)) hc2 (frozen_of_heap g3)) rfl HCF.out (res_tc rfl _ rfl hcell) ⟨?_,hb3⟩⟩
    rw [hW]
    rfl
end Go.Proofs.Ytphefhpmbahagaa
