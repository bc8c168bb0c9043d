/- Late. -/
import Derived.Test.YtphefhpmbahagaaT17
namespace Go.Proofs.Ytphefhpmbahagaa
open Go.RowKit
set_option linter.unusedVariables false
set_option linter.unusedSimpArgs false

theorem res_c349 {fn : Func} {p q r : Tmp} (h : fn.results = #[.cell p 3,.cell q 4,.cell r 29]) (tmps : Array Value) {w : World} {a b c : Nat} {x y z : Value} (hp : tmps.getD p undef = .pointer (some ⟨a,0,none⟩)) (hq : tmps.getD q undef = .pointer (some ⟨b,0,none⟩)) (hr : tmps.getD r undef = .pointer (some ⟨c,0,none⟩))
    (hx : w.cell? ⟨a,0,none⟩ = some x) (hy : w.cell? ⟨b,0,none⟩ = some y) (hz : w.cell? ⟨c,0,none⟩ = some z) :
    (results fn tmps).run Try.prog w = .ok (.tuple #[x,y,z]) w := by
  have hp' : tmps[p]?.getD undef = .pointer (some ⟨a,0,none⟩) := by simpa using hp
  have hq' : tmps[q]?.getD undef = .pointer (some ⟨b,0,none⟩) := by simpa using hq
  have hr' : tmps[r]?.getD undef = .pointer (some ⟨c,0,none⟩) := by simpa using hr
  simp [results,h,hp',hq',hr',hx,hy,hz,go_sem]
def Tr.late (t : Tr) (l : List (Int × Int × Int)) : Int × Bool × Int := match l.find? (fun x => !t.holds true x) with
  | some x => (x.1,!t.holds false x,0)
  | none => (0,false,4)
def lateE (t : Tr) (o : List Int) : Int × Bool × Int := if openE t (t.order o) = 0 then t.late (t.steps (-1) (t.dawn,t.dawn) o) else (0,false,openE t (t.order o))
theorem late_none {t : Tr} {l : List (Int × Int × Int)} (h : l.all (t.holds true) = true) : t.late l = (0,false,4) := by
  have : l.find? (fun x => !t.holds true x) = none := by
    rw [List.find?_eq_none]
    intro x hx
    simp [List.all_eq_true.1 h x hx]
  rw [Tr.late,this]
theorem late_some {t : Tr} {l : List (Int × Int × Int)} {i : Nat} {x : Int × Int × Int} (h : (l.take i).all (t.holds true) = true) (hx : l[i]? = some x) (hn : t.holds true x = false) : t.late l = (x.1,!t.holds false x,0) := by
  have hi := (List.getElem?_eq_some_iff.1 hx).1
  have hd : l.drop i = x :: l.drop (i + 1) := by rw [List.drop_eq_getElem_cons hi,(List.getElem?_eq_some_iff.1 hx).2]
  have e : l.find? (fun x => !t.holds true x) = some x := by
    rw [← List.take_append_drop i l,List.find?_append,hd]
    have : (l.take i).find? (fun x => !t.holds true x) = none := by
      rw [List.find?_eq_none]
      intro y hy
      simp [List.all_eq_true.1 h y hy]
    rw [this]
    simp [hn]
  rw [Tr.late,e]
structure LatI (w0 : World) (t : Tr) (TA : TrA) (o : List Int) (b pb tb nb L i : Nat) (A : World) (C : Nat → Prop) : Prop where
  below : Below w0.heap.size w0 A
  c2 : A.heap[b + 2]? = some (.cells #[.int .i64 0] 3 (0,0))
  c3 : A.heap[b + 3]? = some (.cells #[.bool false] 4 (0,0))
  c4 : A.heap[b + 4]? = some (.cells #[.int .i64 0] 29 (0,0))
  tob : A.heap[tb]? = some (.cells (t.obj TA) 91 (0,0))
  box : A.heap[pb]? = some (.cells #[.pointer (some ⟨tb,0,none⟩)] 69 (0,0))
  all : ((t.steps (-1) (t.dawn,t.dawn) o).take i).all (t.holds true) = true
  mine : ∀ k,k < L → k ≠ nb → C k
structure LatX (w0 : World) (t : Tr) (o : List Int) (b nb L : Nat) (A : World) (C : Nat → Prop) : Prop where
  below : Below w0.heap.size w0 A
  c2 : A.heap[b + 2]? = some (.cells #[.int .i64 (t.late (t.steps (-1) (t.dawn,t.dawn) o)).1] 3 (0,0))
  c3 : A.heap[b + 3]? = some (.cells #[.bool (t.late (t.steps (-1) (t.dawn,t.dawn) o)).2.1] 4 (0,0))
  c4 : A.heap[b + 4]? = some (.cells #[.int .i64 (t.late (t.steps (-1) (t.dawn,t.dawn) o)).2.2] 29 (0,0))
  mine : ∀ k,k < L → k ≠ nb → C k
theorem LatI.stable {w0 : World} {t : Tr} {TA : TrA} {o : List Int} {b pb tb nb L i lb : Nat} {A B : World} {C : Nat → Prop} (h : LatI w0 t TA o b pb tb nb L i A C) (hs : Same (fun k => ¬ C k ∨ k = lb) A B) (hw : w0.heap.size ≤ b) (ht : tb < pb) (hp : b + 4 < pb) (hn : pb < nb) (hl : nb < lb) (hl2 : lb < L) : LatI w0 t TA o b pb tb nb L i B C := by
  obtain ⟨h1,h2,h3,h4,h8,h5,h6,h7⟩ := h
  have hb : ∀ k,k < nb → ¬ (¬ C k ∨ k = lb) := fun k hk e => e.elim (fun e => e (h7 k (by omega) (by omega))) (fun e => by omega)
  exact ⟨h1.trans (hs.below h1.size (fun k hk => hb k (by omega))),(hs.block _ (heap_lt h2) (hb _ (by omega))).trans h2,(hs.block _ (heap_lt h3) (hb _ (by omega))).trans h3,(hs.block _ (heap_lt h4) (hb _ (by omega))).trans h4,(hs.block _ (heap_lt h8) (hb _ (by omega))).trans h8,(hs.block _ (heap_lt h5) (hb _ (by omega))).trans h5,h6,h7⟩
theorem LatX.stable {w0 : World} {t : Tr} {o : List Int} {b nb L lb : Nat} {A B : World} {C : Nat → Prop} (h : LatX w0 t o b nb L A C) (hs : Same (fun k => ¬ C k ∨ k = lb) A B) (hw : w0.heap.size ≤ b) (hn : b + 4 < nb) (hl : nb < lb) (hl2 : lb < L) : LatX w0 t o b nb L B C := by
  obtain ⟨h1,h2,h3,h4,h7⟩ := h
  have hb : ∀ k,k < nb → ¬ (¬ C k ∨ k = lb) := fun k hk e => e.elim (fun e => e (h7 k (by omega) (by omega))) (fun e => by omega)
  exact ⟨h1.trans (hs.below h1.size (fun k hk => hb k (by omega))),(hs.block _ (heap_lt h2) (hb _ (by omega))).trans h2,(hs.block _ (heap_lt h3) (hb _ (by omega))).trans h3,(hs.block _ (heap_lt h4) (hb _ (by omega))).trans h4,h7⟩
attribute [local go_sem] Oper.semAt_some
set_option maxRecDepth 100000 in
set_option maxHeartbeats 4000000 in
theorem late18 {t : Tr} {A : TrA} {w : World} (ht : IsTr w t A) (hs : t.Small) {o : List Int} (hol : o.length ≤ 16) {a : Option Addr} {cap : Nat} (ha : IsInts w a o) :
    Calls Try.prog 18 #[t.v A,.slice a o.length cap] w fun e w' => e = .returned (.tuple #[.int .i64 (lateE t o).1,.bool (lateE t o).2.1,.int .i64 (lateE t o).2.2]) ∧ Below w.heap.size w w' := by
  have hmf : ∀ (fn : Fn) (first cap : Array Value) (w : World),(Instr.makeFunc fn first cap).run Try.prog w = .ok (.func fn first cap) w := fun _ _ _ _ => rfl
  have HCF := Lib.hid cf57
  refine calls_of_wp_x Try.func18 rfl ?_
  simp only [Try.ntmps18,List.size_toArray,List.length_cons,List.length_nil,Nat.reduceAdd,Nat.reduceSub,Array.replicate_succ,Array.replicate_zero,List.push_toArray,List.append_toArray,List.nil_append,List.cons_append]
  go_wp2_with fail
  obtain ⟨W1,hW1⟩ : ∃ W1 : World,W1 = ((((w.alloc (.cells (t.cells A) 25)).alloc (.cells #[.slice a o.length cap] 26)).alloc (.cells #[.int .i64 0] 3)).alloc (.cells #[.bool false] 4)).alloc (.cells #[.int .i64 0] 29) := ⟨_,rfl⟩
  obtain ⟨q0,q1,hz,hb⟩ := heap2 w (.cells (t.cells A) 25) (.cells #[.slice a o.length cap] 26)
  obtain ⟨q2,q3,hzb,hbx⟩ := heap2 ((w.alloc (.cells (t.cells A) 25)).alloc (.cells #[.slice a o.length cap] 26)) (.cells #[.int .i64 0] 3) (.cells #[.bool false] 4)
  have hbb : Below ((((w.alloc (.cells (t.cells A) 25)).alloc (.cells #[.slice a o.length cap] 26)).alloc (.cells #[.int .i64 0] 3)).alloc (.cells #[.bool false] 4)).heap.size ((((w.alloc (.cells (t.cells A) 25)).alloc (.cells #[.slice a o.length cap] 26)).alloc (.cells #[.int .i64 0] 3)).alloc (.cells #[.bool false] 4)) W1 := by rw [hW1]; exact (Below.refl _ _).alloc (Nat.le_refl _) _
  have hb1 : Below w.heap.size w W1 := hb.trans ((hbx.trans (hbb.mono (by omega))).mono (by omega))
  have hz1 : W1.heap.size = w.heap.size + 5 := by rw [hW1]; simp
  have q1 := (hbb.block _ (by omega)).trans ((hbx.block _ (heap_lt q1)).trans q1)
  have q2 := (hbb.block _ (heap_lt q2)).trans q2
  have q3 := (hbb.block _ (heap_lt q3)).trans q3
  have q4 : W1.heap[w.heap.size + 4]? = some (.cells #[.int .i64 0] 29 (0,0)) := by
    rw [hW1,show w.heap.size + 4 = ((((w.alloc (.cells (t.cells A) 25)).alloc (.cells #[.slice a o.length cap] 26)).alloc (.cells #[.int .i64 0] 3)).alloc (.cells #[.bool false] 4)).heap.size by simp]; exact World.alloc_heap_new _ _
  rw [hz] at q2 q3
  have hob : W1.cell? ⟨w.heap.size + 1,0,none⟩ = some (.slice a o.length cap) := by rw [cell_of_heap q1]; rfl
  have ht1 := ht.mono hb1
  have ha1 := ha.mono hb1
  rw [← hW1]
  clear hW1 hb hbb hbx hz hzb q0
  by_cases hE : openE t (t.order o) = 0
  · obtain ⟨hv,hor⟩ := openE_zero hE
    have hF := fit_of_valid hv
    refine (open_yes (g := 58) (cp := #[.pointer (some ⟨w.heap.size + 1,0,none⟩)]) ht1 hs hv cf58 (fun tb W hP hbW => ?_)).mono ?_
    · have := order58 hP hF.n hol (ha1.mono hbW) (cell_stays hbW hob)
      rw [hor] at this
      exact this
    rintro e w2 ⟨tb,rfl,htb,hP,hb2⟩
    have hB2 := hb1.trans (hb2.mono (by omega))
    have hz2 := hb2.size
    have q1' := (hb2.block _ (heap_lt q1)).trans q1
    have c1 : w2.cell? ⟨w.heap.size + 1,0,none⟩ = some (.slice a o.length cap) := by rw [cell_of_heap q1']; rfl
    have H0 := Lib.hid (And.intro ht ha)
    have hbp : Below w2.heap.size w2 (w2.alloc (.cells #[.pointer (some ⟨tb,0,none⟩)] 69)) := (Below.refl _ w2).alloc (Nat.le_refl _) _
    have c1p := cell_stays hbp c1
    have qpb := World.alloc_heap_new w2 (.cells #[.pointer (some ⟨tb,0,none⟩)] 69)
    have hwk := walk55 (a := a) (len := o.length) (cap := cap) (hP.mono hbp)
    simp only [World.size_alloc] at hwk
    have HWK := Lib.hid hwk
    clear hwk
    have HBP := Lib.hid (And.intro hbp qpb)
    have H2 := Lib.hid (And.intro hB2 (And.intro ((hb2.block _ (heap_lt q2)).trans q2) (And.intro ((hb2.block _ (heap_lt q3)).trans q3) (And.intro ((hb2.block _ (heap_lt q4)).trans q4) (And.intro hP (And.intro hF (And.intro (order_view hor) (And.intro (ha1.mono hb2) (And.intro hE (show w.heap.size + 5 ≤ w2.heap.size by omega))))))))))
    clear hb1 hz1 q1 q2 q3 q4 hob ht1 ha1 ht ha hs hv hor hF htb hP hb2 hB2 hz2 q1' hE hbp qpb
    go_wp2_with fail
    refine HWK.out.mono ?_
    rintro e w3 ⟨rfl,hb3,r0,r1,r2,hz3⟩
    have HH := Lib.hid (And.intro (HBP.out.1.trans (hb3.mono (by omega))) (And.intro ((hb3.block _ (by omega)).trans HBP.out.2) (And.intro r0 (And.intro r1 (And.intro r2 hz3)))))
    have hz3' : w3.heap.size = w2.heap.size + 4 := by omega
    have hz5 := H2.out.2.2.2.2.2.2.2.2.2
    have htbl := heap_lt H2.out.2.2.2.2.1.obj
    clear hb3 r0 r1 r2 hz3 HWK c1 c1p HBP
    go_wp2_with fail
    refine wp_rangeFuncX (gf := 81) (lb := #[.pointer (some ⟨w2.heap.size + 1,0,none⟩),.pointer (some ⟨w2.heap.size + 1 + 2,0,none⟩),.pointer (some ⟨w2.heap.size + 1 + 1,0,none⟩)]) rfl (fun args w => by simp [callFunc,Try.func81,Try.f81,go_sem]) o.length (StepOk t o)
      (fun k => k = w.heap.size + 2 ∨ k = w.heap.size + 3 ∨ k = w.heap.size + 4 ∨ k = w3.heap.size + 1) (fun k => k = w2.heap.size + 1 + 2) (fun w' => w'.heap[w2.heap.size + 1 + 2]? = some (.cells #[.int .i64 (t.at_ o o.length).2.1,.int .i64 (t.at_ o o.length).2.2] 82 (0,0))) (fun k hk => by omega) ?hSd ?hps (by omega) (by omega) ?hit
      (fun i V C => LatI w t A o w.heap.size w2.heap.size tb (w2.heap.size + 1 + 2) (w3.heap.size + 2) i V C) (fun c i A C => c = .ret ∧ LatX w t o w.heap.size (w2.heap.size + 1 + 2) (w3.heap.size + 2) A C) ?hI ?hIx ?h0 ?hround ?hdone ?hstop
    case hit =>
      intro W hbW hsz
      obtain ⟨hb3,rb,r0,r1,r2,_⟩ := HH.out
      obtain ⟨hB2,p2,p3,p4,hP,hF,ho,ha,_,_⟩ := H2.out
      refine walk_iter (a := a) (cap := cap) (tb := tb) (nb := w2.heap.size + 1 + 2) (A := A) hF hol ho (fun V hV => ?_) ⟨_,_,(hbW.block _ (by omega)).trans r2⟩
      have e0 := (hV.block (w2.heap.size + 1) (by omega) (fun e => by omega)).trans ((hbW.block _ (by omega)).trans r0)
      have e1 := (hV.block (w2.heap.size + 1 + 1) (by omega) (fun e => by omega)).trans ((hbW.block _ (by omega)).trans r1)
      have hBV : Below w.heap.size w V := ((hB2.trans (hb3.mono (by omega))).trans (hbW.mono (by omega))).trans (hV.below (by omega) (fun k hk e => by omega))
      have htw := heap_lt hP.obj
      have hnt : tb ≠ w.heap.size + 2 := by
        intro e
        have h1 := hP.obj
        rw [e,p2] at h1
        simp at h1
      have hnt3 : tb ≠ w.heap.size + 3 := by
        intro e
        have h1 := hP.obj
        rw [e,p3] at h1
        simp at h1
      have hnt4 : tb ≠ w.heap.size + 4 := by
        intro e
        have h1 := hP.obj
        rw [e,p4] at h1
        simp at h1
      have et := (hV.block tb (by omega) (fun e => by omega)).trans ((hbW.block _ (by omega)).trans ((hb3.block _ htw).trans hP.obj))
      exact ⟨⟨et,H0.out.1.mono hBV⟩,by rw [cell_of_heap e0]; rfl,by rw [cell_of_heap e1]; rfl,H0.out.2.mono hBV⟩
    case hSd =>
      intro A B h hs
      exact (hs.block _ (heap_lt h) (fun e => by omega)).trans h
    case hps =>
      rintro i v A K ⟨_,rfl,_⟩
      rfl
    case hI =>
      intro i A B C h hs
      exact h.stable hs (Nat.le_refl _) htbl (by omega) (by omega) (by omega) (by omega)
    case hIx =>
      intro c i A B C h hs
      exact ⟨h.1,h.2.stable hs (Nat.le_refl _) (by omega) (by omega) (by omega)⟩
    case h0 =>
      intro W hb hsz
      obtain ⟨hb3,rb,r0,r1,r2,_⟩ := HH.out
      obtain ⟨hB2,p2,p3,p4,hP,hF,ho,ha,_,_⟩ := H2.out
      have hbk : ∀ k,k < w2.heap.size → W.heap[k]? = w2.heap[k]? := fun k hk => (hb.block k (by omega)).trans (hb3.block k hk)
      exact ⟨(hB2.trans (hb3.mono (by omega))).trans (hb.mono (by omega)),(hbk _ (by omega)).trans p2,(hbk _ (by omega)).trans p3,(hbk _ (by omega)).trans p4,(hbk _ htbl).trans hP.obj,(hb.block _ (by omega)).trans rb,rfl,fun k hk hne => ⟨hk,hne⟩⟩
    case hround =>
      rintro i v W C K hiN ⟨hi,rfl,rfl⟩ hKC hC hI hlt
      obtain ⟨x,hx,hxn⟩ := view_nat (H2.out.2.2.2.2.2.2.1 _ (gi_mem' hi))
      have HST := Lib.hid (steps_at t hi)
      have HH2 := Lib.hid (And.intro hC (And.intro hI hlt))
      clear hKC hC hI hlt
      rw [hx] at HST ⊢
      clear hx
      revert HST
      generalize t.begin (t.at_ o i).1 (x : Int) (t.at_ o i).2 = p
      obtain ⟨px,py⟩ := p
      intro HST
      gi_wp2_with fail
      refine ⟨(Below.refl _ W).alloc (Nat.le_refl _) _,fun V2 hS2 hsz2 => ?_⟩
      obtain ⟨hC,hI,hlt⟩ := HH2.out
      have hba : Below W.heap.size W (W.alloc (.cells #[.int .i64 px,.int .i64 py] 82)) := (Below.refl _ W).alloc (Nat.le_refl _) _
      have hI2 := (hI.stable (lb := w3.heap.size + 1) (Same.of_below _ hba) (Nat.le_refl _) htbl (by omega) (by omega) (by omega) (by omega)).stable (lb := w3.heap.size + 1) (hS2.mono (fun _ _ e => .inr e)) (Nat.le_refl _) htbl (by omega) (by omega) (by omega) (by omega)
      have qa : V2.heap[W.heap.size]? = some (.cells #[.int .i64 px,.int .i64 py] 82 (0,0)) := (hS2.block _ (by simp) (by omega)).trans (World.alloc_heap_new _ _)
      have c22 : V2.cell? ⟨W.heap.size,0,none⟩ = some (.int .i64 px) := by rw [cell_of_heap qa]; rfl
      have c23 : V2.cell? ⟨W.heap.size,1,none⟩ = some (.int .i64 py) := by rw [cell_of_heap qa]; rfl
      have c24 : V2.cell? ⟨w2.heap.size,0,none⟩ = some (.pointer (some ⟨tb,0,none⟩)) := by rw [cell_of_heap hI2.box]; rfl
      have hlv : w3.heap.size + 2 ≤ V2.heap.size := by rw [hsz2,World.size_alloc]; omega
      have H5 := Lib.hid (And.intro hC (And.intro hI2 (And.intro hlv qa)))
      have hWl := heap_lt qa
      have HCL := Lib.hid (holds59 ⟨hI2.tob,H0.out.1.mono hI2.below⟩ H2.out.2.2.2.2.2.1 hxn px py)
      clear hC hI hlt hba hI2 qa hS2 hsz2 HH2 hlv
      gi_wp2_with fail
      refine ⟨trivial,rfl,wideAt_calls (HCL.out.mono ?_)⟩
      rintro e w6 ⟨rfl,hb6⟩
      have HB6 := Lib.hid hb6
      have d22 := cell_stays hb6 c22
      have d23 := cell_stays hb6 c23
      have d24 := cell_stays hb6 c24
      clear hb6 c22 c23 c24 HCL
      have hhd : t.holds true ((x : Int),px,py) = decide (py ≤ (gs t.light x).hi) := by simp [Tr.holds]
      have hhe : t.holds false ((x : Int),px,py) = decide (px ≤ (gs t.light x).hi) := by simp [Tr.holds]
      cases hd : decide (py ≤ (gs t.light x).hi)
      · obtain ⟨hC,hI2,hlv,qa⟩ := H5.out
        have HLA := Lib.hid (late_some hI2.all HST.out (hhd.trans hd))
        have hI6 := hI2.stable (lb := w3.heap.size + 1) (Same.of_below _ HB6.out) (Nat.le_refl _) htbl (by omega) (by omega) (by omega) (by omega)
        have HCM := Lib.hid (holds60 ⟨hI6.tob,H0.out.1.mono hI6.below⟩ H2.out.2.2.2.2.2.1 hxn px py)
        have HI6 := Lib.hid (And.intro hC (And.intro hI6 hlv))
        have HHE := Lib.hid hhe
        clear hC hI2 hlv qa hI6 H5 hd hhd hhe
        gi_wp2_with fail
        refine ⟨trivial,rfl,wideAt_calls (HCM.out.mono ?_)⟩
        rintro e w7 ⟨rfl,hb7⟩
        obtain ⟨hC,hI6,hlv⟩ := HI6.out
        have hI7 := hI6.stable (lb := w3.heap.size + 1) (Same.of_below _ hb7) (Nat.le_refl _) htbl (by omega) (by omega) (by omega) (by omega)
        have e2 : w7.cell? ⟨w.heap.size + 2,0,none⟩ = some (.int .i64 0) := by rw [cell_of_heap hI7.c2]; rfl
        have e3 : w7.cell? ⟨w.heap.size + 3,0,none⟩ = some (.bool false) := by rw [cell_of_heap hI7.c3]; rfl
        have e4 : w7.cell? ⟨w.heap.size + 4,0,none⟩ = some (.int .i64 0) := by rw [cell_of_heap hI7.c4]; rfl
        have f2 : w7.frozen? ⟨w.heap.size + 2,0,none⟩ = false := frozen_of_heap hI7.c2
        have f3 : w7.frozen? ⟨w.heap.size + 3,0,none⟩ = false := frozen_of_heap hI7.c3
        have f4 : w7.frozen? ⟨w.heap.size + 4,0,none⟩ = false := frozen_of_heap hI7.c4
        have hL : t.late (t.steps (-1) (t.dawn,t.dawn) o) = ((x : Int),!decide (px ≤ (gs t.light x).hi),0) := by rw [HLA.out,HHE.out]
        have HL := Lib.hid hL
        have H7 := Lib.hid (And.intro hC (And.intro hI7 (And.intro hlv (Same.of_below (fun _ => False) (HB6.out.trans (hb7.mono HB6.out.size))))))
        clear hC hI6 hlv hI7 hb7 HI6 HCM hL d22 d23 d24
        gi_wp2_with fail
        obtain ⟨hC,hI7,hlv,hS⟩ := H7.out
        have hsz7 := hS.size
        have a2 := heap_setCell_at (k := 0) hI7.c2 (.int .i64 (x : Int))
        have a3 := (Below.heap_setCell w7 ⟨w.heap.size + 2,0,none⟩ (.int .i64 (x : Int)) (w.heap.size + 3) (by show w.heap.size + 3 ≠ w.heap.size + 2; omega)).trans hI7.c3
        have a4 := (Below.heap_setCell w7 ⟨w.heap.size + 2,0,none⟩ (.int .i64 (x : Int)) (w.heap.size + 4) (by show w.heap.size + 4 ≠ w.heap.size + 2; omega)).trans hI7.c4
        have b2 := (Below.heap_setCell _ ⟨w.heap.size + 3,0,none⟩ (.bool !decide (px ≤ (gs t.light x).hi)) (w.heap.size + 2) (by show w.heap.size + 2 ≠ w.heap.size + 3; omega)).trans a2
        have b3 := heap_setCell_at (k := 0) a3 (.bool !decide (px ≤ (gs t.light x).hi))
        have b4 := (Below.heap_setCell _ ⟨w.heap.size + 3,0,none⟩ (.bool !decide (px ≤ (gs t.light x).hi)) (w.heap.size + 4) (by show w.heap.size + 4 ≠ w.heap.size + 3; omega)).trans a4
        have d2 := (Below.heap_setCell _ ⟨w.heap.size + 4,0,none⟩ (.int .i64 0) (w.heap.size + 2) (by show w.heap.size + 2 ≠ w.heap.size + 4; omega)).trans b2
        have d3 := (Below.heap_setCell _ ⟨w.heap.size + 4,0,none⟩ (.int .i64 0) (w.heap.size + 3) (by show w.heap.size + 3 ≠ w.heap.size + 4; omega)).trans b3
        have d4 := heap_setCell_at (k := 0) b4 (.int .i64 0)
        have hlb : ∀ (Z : World) (q : Nat) (u : Value),q < w3.heap.size + 1 → (Z.setCell ⟨q,0,none⟩ u).heap[w3.heap.size + 1]? = Z.heap[w3.heap.size + 1]? := fun Z q u hq => Below.heap_setCell _ _ _ _ (by show w3.heap.size + 1 ≠ q; omega)
        have hm : ∀ q,q < w3.heap.size + 2 → q ≠ w2.heap.size + 1 + 2 → (q = w.heap.size + 2 ∨ q = w.heap.size + 3 ∨ q = w.heap.size + 4 ∨ q = w3.heap.size + 1) → mayC (fun k => k = w.heap.size + 2 ∨ k = w.heap.size + 3 ∨ k = w.heap.size + 4 ∨ k = w3.heap.size + 1) (w3.heap.size + 2) C q := fun q h1 h2 h3 => ⟨hC q h1 h2,fun _ => h3⟩
        refine ⟨(((hS.mono (fun _ _ h => h.elim)).setCell (p := ⟨w.heap.size + 2,0,none⟩) (.inl (hm _ (by show w.heap.size + 2 < _; omega) (by show w.heap.size + 2 ≠ _; omega) (.inl rfl))) _).setCell (p := ⟨w.heap.size + 3,0,none⟩) (.inl (hm _ (by show w.heap.size + 3 < _; omega) (by show w.heap.size + 3 ≠ _; omega) (.inr (.inl rfl)))) _).setCell (p := ⟨w.heap.size + 4,0,none⟩) (.inl (hm _ (by show w.heap.size + 4 < _; omega) (by show w.heap.size + 4 ≠ _; omega) (.inr (.inr (.inl rfl))))) _,
          (hlb _ _ _ (by omega)).trans ((hlb _ _ _ (by omega)).trans ((hlb _ _ _ (by omega)).trans (hS.block _ (by omega) (fun h => h)))),fun k => C k ∧ k < V2.heap.size,fun k hk hx => ⟨hC k hk hx,by omega⟩,fun k hk => by have := hk.2; simp; omega,fun k hk => .inl hk.1,
          rfl,((hI7.below.setCell (p := ⟨w.heap.size + 2,0,none⟩) (by show w.heap.size ≤ w.heap.size + 2; omega) _).setCell (p := ⟨w.heap.size + 3,0,none⟩) (by show w.heap.size ≤ w.heap.size + 3; omega) _).setCell (p := ⟨w.heap.size + 4,0,none⟩) (by show w.heap.size ≤ w.heap.size + 4; omega) _,by rw [HL.out]; exact d2,by rw [HL.out]; exact d3,by rw [HL.out]; exact d4,fun k hk hx => ⟨hC k hk hx,by omega⟩⟩
      · have HF := Lib.hid (hhd.trans hd)
        clear hd hhd hhe d22 d23 d24
        gi_wp2_with fail
        obtain ⟨hC,hI2,hlv,qa⟩ := H5.out
        have hI6 := hI2.stable (lb := w3.heap.size + 1) (Same.of_below _ HB6.out) (Nat.le_refl _) htbl (by omega) (by omega) (by omega) (by omega)
        have hs6 := HB6.out.size
        refine ⟨Same.of_below _ HB6.out,HB6.out.block _ (by omega),fun k => C k ∧ k < V2.heap.size,fun k hk hx => ⟨hC k hk hx,by omega⟩,fun k hk => by have := hk.2; omega,fun k hk => .inl hk.1,
          hI6.below,hI6.c2,hI6.c3,hI6.c4,hI6.tob,hI6.box,all_next HST.out HF.out hI6.all,fun k hk hx => ⟨hC k hk hx,by omega⟩⟩
    case hdone =>
      intro W C hI hsd hdef
      have e2 : W.cell? ⟨w.heap.size + 2,0,none⟩ = some (.int .i64 0) := by rw [cell_of_heap hI.c2]; rfl
      have e3 : W.cell? ⟨w.heap.size + 3,0,none⟩ = some (.bool false) := by rw [cell_of_heap hI.c3]; rfl
      have e4 : W.cell? ⟨w.heap.size + 4,0,none⟩ = some (.int .i64 0) := by rw [cell_of_heap hI.c4]; rfl
      have f2 : W.frozen? ⟨w.heap.size + 2,0,none⟩ = false := frozen_of_heap hI.c2
      have f3 : W.frozen? ⟨w.heap.size + 3,0,none⟩ = false := frozen_of_heap hI.c3
      have f4 : W.frozen? ⟨w.heap.size + 4,0,none⟩ = false := frozen_of_heap hI.c4
      have HF := Lib.hid (And.intro hI hdef)
      clear hI hsd hdef
      go_wp2_with fail
      obtain ⟨hI,hdef⟩ := HF.out
      have a2 := heap_setCell_at (k := 0) hI.c2 (.int .i64 0)
      have a3 := (Below.heap_setCell W ⟨w.heap.size + 2,0,none⟩ (.int .i64 0) (w.heap.size + 3) (by show w.heap.size + 3 ≠ w.heap.size + 2; omega)).trans hI.c3
      have a4 := (Below.heap_setCell W ⟨w.heap.size + 2,0,none⟩ (.int .i64 0) (w.heap.size + 4) (by show w.heap.size + 4 ≠ w.heap.size + 2; omega)).trans hI.c4
      have b2 := (Below.heap_setCell _ ⟨w.heap.size + 3,0,none⟩ (.bool false) (w.heap.size + 2) (by show w.heap.size + 2 ≠ w.heap.size + 3; omega)).trans a2
      have b3 := heap_setCell_at (k := 0) a3 (.bool false)
      have b4 := (Below.heap_setCell _ ⟨w.heap.size + 3,0,none⟩ (.bool false) (w.heap.size + 4) (by show w.heap.size + 4 ≠ w.heap.size + 3; omega)).trans a4
      have d2 := (Below.heap_setCell _ ⟨w.heap.size + 4,0,none⟩ (.int .i64 4) (w.heap.size + 2) (by show w.heap.size + 2 ≠ w.heap.size + 4; omega)).trans b2
      have d3 := (Below.heap_setCell _ ⟨w.heap.size + 4,0,none⟩ (.int .i64 4) (w.heap.size + 3) (by show w.heap.size + 3 ≠ w.heap.size + 4; omega)).trans b3
      have d4 := heap_setCell_at (k := 0) b4 (.int .i64 4)
      have hd3 : ∀ (Z : World) (q : Nat) (u : Value),q < w3.heap.size → (Z.setCell ⟨q,0,none⟩ u).heap[w3.heap.size]? = Z.heap[w3.heap.size]? := fun Z q u hq => Below.heap_setCell _ _ _ _ (by show w3.heap.size ≠ q; omega)
      have e5 := (hd3 _ (w.heap.size + 4) (.int .i64 4) (by omega)).trans ((hd3 _ (w.heap.size + 3) (.bool false) (by omega)).trans ((hd3 W (w.heap.size + 2) (.int .i64 0) (by omega)).trans hdef))
      have hBW := ((hI.below.setCell (p := ⟨w.heap.size + 2,0,none⟩) (by show w.heap.size ≤ w.heap.size + 2; omega) (.int .i64 0)).setCell (p := ⟨w.heap.size + 3,0,none⟩) (by show w.heap.size ≤ w.heap.size + 3; omega) (.bool false)).setCell (p := ⟨w.heap.size + 4,0,none⟩) (by show w.heap.size ≤ w.heap.size + 4; omega) (.int .i64 4)
      have hall : (t.steps (-1) (t.dawn,t.dawn) o).all (t.holds true) = true := by
        have := hI.all
        rw [← steps_len t o (-1) (t.dawn,t.dawn),List.take_length] at this
        exact this
      have hW : lateE t o = (0,false,4) := by unfold lateE; rw [if_pos H2.out.2.2.2.2.2.2.2.2.1,late_none hall]
      clear a2 a3 a4 b2 b3 b4 e2 e3 e4 f2 f3 f4
      revert d2 d3 d4 e5 hBW
      generalize (((W.setCell ⟨w.heap.size + 2,0,none⟩ (.int .i64 0)).setCell ⟨w.heap.size + 3,0,none⟩ (.bool false)).setCell ⟨w.heap.size + 4,0,none⟩ (.int .i64 4)) = X
      intro d2 d3 d4 e5 hBW
      have hput : Below w.heap.size w (X.putObj w3.heap.size (.deferred none)) :=
        (((Same.of_below (fun q => w.heap.size ≤ q) hBW).putObj (.inl (by omega)) _).below (Nat.le_refl _) (fun q hq h => by omega))
      have g2 := (World.putObj_heap_other (w := X) (o := .deferred none) (show w.heap.size + 2 ≠ w3.heap.size by omega)).trans d2
      have g3 := (World.putObj_heap_other (w := X) (o := .deferred none) (show w.heap.size + 3 ≠ w3.heap.size by omega)).trans d3
      have g4 := (World.putObj_heap_other (w := X) (o := .deferred none) (show w.heap.size + 4 ≠ w3.heap.size by omega)).trans d4
      refine ⟨[w3.heap.size],_,rfl,by simp,_,run_takeDeferred e5,leaves_ok (recov57_ok _ _) HCF.out (res_c349 rfl _ rfl rfl rfl (by rw [cell_of_heap g2]; rfl) (by rw [cell_of_heap g3]; rfl) (by rw [cell_of_heap g4]; rfl)) ⟨?_,hput⟩⟩
      rw [hW]; rfl
    case hstop =>
      rintro c i W C _ ⟨rfl,hX⟩ hdef
      have HF := Lib.hid (And.intro hX hdef)
      clear hX hdef
      go_wp2_with fail
      obtain ⟨hX,e5⟩ := HF.out
      have hput : Below w.heap.size w (W.putObj w3.heap.size (.deferred none)) :=
        (((Same.of_below (fun q => w.heap.size ≤ q) hX.below).putObj (.inl (by omega)) _).below (Nat.le_refl _) (fun q hq h => by omega))
      have g2 := (World.putObj_heap_other (w := W) (o := .deferred none) (show w.heap.size + 2 ≠ w3.heap.size by omega)).trans hX.c2
      have g3 := (World.putObj_heap_other (w := W) (o := .deferred none) (show w.heap.size + 3 ≠ w3.heap.size by omega)).trans hX.c3
      have g4 := (World.putObj_heap_other (w := W) (o := .deferred none) (show w.heap.size + 4 ≠ w3.heap.size by omega)).trans hX.c4
      have hW : lateE t o = t.late (t.steps (-1) (t.dawn,t.dawn) o) := by unfold lateE; rw [if_pos H2.out.2.2.2.2.2.2.2.2.1]
      refine ⟨[w3.heap.size],_,rfl,by simp,_,run_takeDeferred e5,leaves_ok (recov57_ok _ _) HCF.out (res_c349 rfl _ rfl rfl rfl (by rw [cell_of_heap g2]; rfl) (by rw [cell_of_heap g3]; rfl) (by rw [cell_of_heap g4]; rfl)) ⟨?_,hput⟩⟩
      rw [hW]; rfl
  · have hW : lateE t o = (0,false,openE t (t.order o)) := by unfold lateE; rw [if_neg hE]
    refine (open_no (g := 58) (cp := #[.pointer (some ⟨w.heap.size + 1,0,none⟩)]) ht1 hs hE cf58 (fun hv tb W hP hbW => order58 hP (fit_of_valid hv).n hol (ha1.mono hbW) (cell_stays hbW hob))).mono ?_
    rintro e w2 ⟨rfl,hb2⟩
    have g2 := (hb2.block _ (heap_lt q2)).trans q2
    have g3 := (hb2.block _ (heap_lt q3)).trans q3
    have g4 := (hb2.block _ (heap_lt q4)).trans q4
    have hc2 : w2.cell? ⟨w.heap.size + 4,0,none⟩ = some (.int .i64 0) := by rw [cell_of_heap g4]; rfl
    have hB2 := hb1.trans (hb2.mono (by omega))
    have hb3 : Below w.heap.size w ((w2.alloc (.cells #[.int .i64 (openE t (t.order o))] 106)).setCell ⟨w.heap.size + 4,0,none⟩ (.int .i64 (openE t (t.order o)))) :=
      (hB2.alloc hB2.size _).setCell (by simp) _
    have hcell := World.cell?_setCell_same (w2.alloc (.cells #[.int .i64 (openE t (t.order o))] 106)) ⟨w.heap.size + 4,0,none⟩ (.int .i64 (openE t (t.order o))) (cell_stays ((Below.refl _ w2).alloc (Nat.le_refl _) _) hc2)
    have k2 : ((w2.alloc (.cells #[.int .i64 (openE t (t.order o))] 106)).setCell ⟨w.heap.size + 4,0,none⟩ (.int .i64 (openE t (t.order o)))).heap[w.heap.size + 2]? = _ := (Below.heap_setCell _ _ _ _ (by show w.heap.size + 2 ≠ w.heap.size + 4; omega)).trans ((Below.heap_alloc _ _ _ (heap_lt g2)).trans g2)
    have k3 : ((w2.alloc (.cells #[.int .i64 (openE t (t.order o))] 106)).setCell ⟨w.heap.size + 4,0,none⟩ (.int .i64 (openE t (t.order o)))).heap[w.heap.size + 3]? = _ := (Below.heap_setCell _ _ _ _ (by show w.heap.size + 3 ≠ w.heap.size + 4; omega)).trans ((Below.heap_alloc _ _ _ (heap_lt g3)).trans g3)
    refine ⟨[],_,rfl,leaves_no (recov57_no (openE t (t.order o)) hc2 (frozen_of_heap g4)) rfl HCF.out (res_c349 rfl _ rfl rfl rfl (by rw [cell_of_heap k2]; rfl) (by rw [cell_of_heap k3]; rfl) hcell) ⟨?_,hb3⟩⟩
    rw [hW]
    rfl
end Go.Proofs.Ytphefhpmbahagaa
