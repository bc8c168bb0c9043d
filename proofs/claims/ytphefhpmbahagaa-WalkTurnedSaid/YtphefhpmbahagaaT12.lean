/- Whether each view of an order is in time. -/
import Derived.Test.YtphefhpmbahagaaT11
namespace Go.Proofs.Ytphefhpmbahagaa
open Go.RowKit
set_option linter.unusedVariables false
set_option linter.unusedSimpArgs false

theorem res_c4 {fn : Func} {p : Tmp} (h : fn.results = #[.cell p 4]) (tmps : Array Value) {w : World} {a : Nat} {x : Value} (hp : tmps.getD p undef = .pointer (some ⟨a,0,none⟩)) (hx : w.cell? ⟨a,0,none⟩ = some x) :
    (results fn tmps).run Try.prog w = .ok x w := by
  have hp' : tmps[p]?.getD undef = .pointer (some ⟨a,0,none⟩) := by simpa using hp
  simp [results,h,hp',hx,go_sem]
/-- The state of such a range. -/
structure IsI (w0 : World) (t : Tr) (q : Bool) (o : List Int) (b L : Nat) (tb ty : Nat) (i : Nat) (A : World) (C : Nat → Prop) : Prop where
  below : Below w0.heap.size w0 A
  box : A.heap[b]? = some (.cells #[.pointer (some ⟨tb,0,none⟩)] 69 (0,0))
  ask : A.heap[b + 1]? = some (.cells #[.iface ty (.agg #[])] 110 (0,0))
  res : A.heap[b + 2]? = some (.cells #[.bool false] 4 (0,0))
  all : ((t.steps (-1) (t.dawn,t.dawn) o).take i).all (t.holds q) = true
  mine : ∀ k,k < L → k ≠ b + 5 → C k
structure IsX (w0 : World) (t : Tr) (q : Bool) (o : List Int) (b L : Nat) (A : World) (C : Nat → Prop) : Prop where
  below : Below w0.heap.size w0 A
  res : A.heap[b + 2]? = some (.cells #[.bool false] 4 (0,0))
  no : t.is q o = false
  mine : ∀ k,k < L → k ≠ b + 5 → C k
theorem all_stop {α : Type} {f : α → Bool} {l : List α} {i : Nat} {x : α} (h : l[i]? = some x) (hx : f x = false) : l.all f = false := by
  rw [List.all_eq_false]
  exact ⟨x,List.mem_of_getElem? h,by simp [hx]⟩
theorem all_next {α : Type} {f : α → Bool} {l : List α} {i : Nat} {x : α} (h : l[i]? = some x) (hx : f x = true) (hi : (l.take i).all f = true) : (l.take (i + 1)).all f = true := by
  rw [List.take_add_one,h,List.all_append,hi]
  simp [hx]
theorem IsI.stable {w0 : World} {t : Tr} {q : Bool} {o : List Int} {b L tb ty i lb : Nat} {A B : World} {C : Nat → Prop} (h : IsI w0 t q o b L tb ty i A C) (hs : Same (fun k => ¬ C k ∨ k = lb) A B) (h1 : b + 5 < lb) (h2 : w0.heap.size ≤ b) (h3 : b + 5 < L) : IsI w0 t q o b L tb ty i B C := by
  obtain ⟨k1,k2,k3,k4,k5,k6⟩ := h
  have hb : ∀ k,k < b + 5 → ¬ (¬ C k ∨ k = lb) := fun k hk e => e.elim (fun e => e (k6 k (by omega) (by omega))) (fun e => by omega)
  exact ⟨k1.trans (hs.below k1.size (fun k hk => hb k (by omega))),(hs.block _ (heap_lt k2) (hb _ (by omega))).trans k2,(hs.block _ (heap_lt k3) (hb _ (by omega))).trans k3,(hs.block _ (heap_lt k4) (hb _ (by omega))).trans k4,k5,k6⟩
theorem IsX.stable {w0 : World} {t : Tr} {q : Bool} {o : List Int} {b L lb : Nat} {A B : World} {C : Nat → Prop} (h : IsX w0 t q o b L A C) (hs : Same (fun k => ¬ C k ∨ k = lb) A B) (h1 : b + 5 < lb) (h2 : w0.heap.size ≤ b) (h3 : b + 5 < L) : IsX w0 t q o b L B C := by
  obtain ⟨k1,k4,k5,k6⟩ := h
  have hb : ∀ k,k < b + 5 → ¬ (¬ C k ∨ k = lb) := fun k hk e => e.elim (fun e => e (k6 k (by omega) (by omega))) (fun e => by omega)
  exact ⟨k1.trans (hs.below k1.size (fun k hk => hb k (by omega))),(hs.block _ (heap_lt k4) (hb _ (by omega))).trans k4,k5,k6⟩
theorem cf59 (args : Array Value) (w : World) : (callFunc 59 args).run Try.prog w = .ok (.enter 59 args) w := by simp [callFunc,Try.func59,Try.f59,go_sem]
theorem meth74 (w : World) : (method 259 74 (.agg #[]) "pairworks/walk.holds").run Try.prog w = .ok (59,.agg #[]) w := by kernel_rfl
attribute [local go_sem] Oper.semAt_some in
set_option maxRecDepth 100000 in
set_option maxHeartbeats 4000000 in
theorem is49_74 {t : Tr} {A : TrA} {tb : Nat} {w : World} (hP : TourP w tb t A) (hF : t.Fit) {o : List Int} (hol : o.length ≤ 16) (ho : ∀ x ∈ o,t.view x = true) {a : Option Addr} {cap : Nat} (ha : IsInts w a o) :
    Calls Try.prog 49 #[.pointer (some ⟨tb,0,none⟩),.slice a o.length cap,.iface 74 (.agg #[])] w fun e w' => e = .returned (.bool (t.is true o)) ∧ Below w.heap.size w w' := by
  obtain ⟨W1,hW1⟩ : ∃ W1 : World,W1 = ((w.alloc (.cells #[.pointer (some ⟨tb,0,none⟩)] 69)).alloc (.cells #[.iface 74 (.agg #[])] 110)).alloc (.cells #[.bool false] 4) := ⟨_,rfl⟩
  obtain ⟨q0,q1,hz,hb⟩ := heap2 w (.cells #[.pointer (some ⟨tb,0,none⟩)] 69) (.cells #[.iface 74 (.agg #[])] 110)
  have hbb : Below ((w.alloc (.cells #[.pointer (some ⟨tb,0,none⟩)] 69)).alloc (.cells #[.iface 74 (.agg #[])] 110)).heap.size ((w.alloc (.cells #[.pointer (some ⟨tb,0,none⟩)] 69)).alloc (.cells #[.iface 74 (.agg #[])] 110)) W1 := by rw [hW1]; exact (Below.refl _ _).alloc (Nat.le_refl _) _
  have hb1 : Below w.heap.size w W1 := hb.trans (hbb.mono (by omega))
  have hz1 : W1.heap.size = w.heap.size + 3 := by rw [hW1]; simp
  have q0 := (hbb.block _ (heap_lt q0)).trans q0
  have q1 := (hbb.block _ (heap_lt q1)).trans q1
  have q2 : W1.heap[w.heap.size + 2]? = some (.cells #[.bool false] 4 (0,0)) := by
    rw [hW1,← hz]; exact World.alloc_heap_new _ _
  refine calls_of_wp_marks Try.func49 rfl ?_
  simp only [Try.ntmps49,List.size_toArray,List.length_cons,List.length_nil,Nat.reduceAdd,Nat.reduceSub,Array.replicate_succ,Array.replicate_zero,List.push_toArray,List.append_toArray,List.nil_append,List.cons_append]
  go_upto_region 1 with fail
  rw [← hW1]
  have c0 : W1.cell? ⟨w.heap.size,0,none⟩ = some (.pointer (some ⟨tb,0,none⟩)) := by rw [cell_of_heap q0]; rfl
  clear hW1 hz hb hbb
  have HW1 := Lib.hid (And.intro hb1 (And.intro q0 (And.intro q1 (And.intro q2 hz1))))
  have HC := Lib.hid (walk55 (a := a) (len := o.length) (cap := cap) (hP.mono hb1))
  have HI := Lib.hid (And.intro hP (And.intro ha (And.intro hF ho)))
  clear hb1 q0 q1 q2 hz1 hP ha hF ho
  go_wp2_with fail
  refine HC.out.mono ?_
  rintro e w2 ⟨rfl,hb2,r0,r1,r2,hz2⟩
  have H2 := Lib.hid (And.intro hb2 (And.intro r0 (And.intro r1 (And.intro r2 hz2))))
  clear hb2 r0 r1 r2 hz2 HC c0
  have hz1 := HW1.out.2.2.2.2
  rw [hz1]
  clear hz1
  go_wp2_with fail
  obtain ⟨hb2,r0,r1,r2,hz2⟩ := H2.out
  obtain ⟨hb1,q0,q1,q2,hz1⟩ := HW1.out
  have hz6 : w2.heap.size = w.heap.size + 6 := by omega
  rw [hz1] at r0 r1 r2
  have hB2 : Below w.heap.size w w2 := hb1.trans (hb2.mono (by omega))
  have p0 := (hb2.block _ (heap_lt q0)).trans q0
  have p1 := (hb2.block _ (heap_lt q1)).trans q1
  have p2 := (hb2.block _ (heap_lt q2)).trans q2
  have HH := Lib.hid (And.intro hB2 (And.intro p0 (And.intro p1 (And.intro p2 (And.intro r0 (And.intro r1 r2))))))
  clear hb2 r0 r1 r2 hz2 hb1 q0 q1 q2 hz1 H2 HW1 hB2 p0 p1 p2
  refine wp_rangeFuncX (gf := 81) (lb := #[.pointer (some ⟨w.heap.size + 3,0,none⟩),.pointer (some ⟨w.heap.size + 3 + 2,0,none⟩),.pointer (some ⟨w.heap.size + 3 + 1,0,none⟩)]) rfl (fun args w => by simp [callFunc,Try.func81,Try.f81,go_sem]) o.length (StepOk t o)
    (fun k => k = w.heap.size + 2 ∨ k = w2.heap.size + 1) (fun k => k = w.heap.size + 3 + 2) (fun w' => w'.heap[w.heap.size + 3 + 2]? = some (.cells #[.int .i64 (t.at_ o o.length).2.1,.int .i64 (t.at_ o o.length).2.2] 82 (0,0))) (fun k hk => by omega) ?hSd ?hps (by omega) (by omega) ?hit
    (fun i A C => IsI w t true o w.heap.size (w2.heap.size + 2) tb 74 i A C) (fun c i A C => c = .ret ∧ IsX w t true o w.heap.size (w2.heap.size + 2) A C) ?hI ?hIx ?h0 ?hround ?hdone ?hstop
  case hit =>
    intro W hbW hsz
    obtain ⟨hB2,p0,p1,p2,r0,r1,r2⟩ := HH.out
    obtain ⟨hP,ha,hF,ho⟩ := HI.out
    refine walk_iter (a := a) (cap := cap) (tb := tb) (nb := w.heap.size + 3 + 2) (A := A) hF hol ho (fun V hV => ?_) ⟨_,_,(hbW.block _ (by omega)).trans r2⟩
    have hBV : Below w.heap.size w V := (hB2.trans (hbW.mono (by omega))).trans (hV.below (by omega) (fun k hk e => by omega))
    have e0 := (hV.block (w.heap.size + 3) (by omega) (fun e => by omega)).trans ((hbW.block _ (by omega)).trans r0)
    have e1 := (hV.block (w.heap.size + 3 + 1) (by omega) (fun e => by omega)).trans ((hbW.block _ (by omega)).trans r1)
    exact ⟨hP.mono hBV,by rw [cell_of_heap e0]; rfl,by rw [cell_of_heap e1]; rfl,ha.mono hBV⟩
  case hSd =>
    intro A B h hs
    exact (hs.block _ (heap_lt h) (fun e => by omega)).trans h
  case hps =>
    rintro i v A K ⟨_,rfl,_⟩
    rfl
  case hI =>
    intro i A B C h hs
    exact h.stable hs (by omega) (Nat.le_refl _) (by omega)
  case hIx =>
    intro c i A B C h hs
    exact ⟨h.1,h.2.stable hs (by omega) (Nat.le_refl _) (by omega)⟩
  case h0 =>
    intro W hb hsz
    obtain ⟨hB2,p0,p1,p2,r0,r1,r2⟩ := HH.out
    exact ⟨hB2.trans (hb.mono (by omega)),(hb.block _ (by omega)).trans p0,(hb.block _ (by omega)).trans p1,(hb.block _ (by omega)).trans p2,rfl,fun k hk hne => ⟨hk,fun e => by omega⟩⟩
  case hround =>
    rintro i v W C K hiN ⟨hi,rfl,rfl⟩ hKC hC hI hlt
    obtain ⟨x,hx,hxn⟩ := view_nat (HI.out.2.2.2 _ (gi_mem' hi))
    have HST := Lib.hid (steps_at t hi)
    have HH2 := Lib.hid (And.intro hC (And.intro hI hlt))
    clear hKC hC hI hlt
    rw [hx] at HST ⊢
    clear hx
    revert HST
    generalize t.begin (t.at_ o i).1 (x : Int) (t.at_ o i).2 = p
    obtain ⟨px,py⟩ := p
    intro HST
    gi_wp2_with fail
    refine ⟨(Below.refl _ W).alloc (Nat.le_refl _) _,fun V2 hS2 hsz2 => ?_⟩
    obtain ⟨hC,hI,hlt⟩ := HH2.out
    have hba : Below W.heap.size W (W.alloc (.cells #[.int .i64 px,.int .i64 py] 82)) := (Below.refl _ W).alloc (Nat.le_refl _) _
    have hI2 := (hI.stable (lb := w2.heap.size + 1) (Same.of_below _ hba) (by omega) (Nat.le_refl _) (by omega)).stable (lb := w2.heap.size + 1) (hS2.mono (fun _ _ e => .inr e)) (by omega) (Nat.le_refl _) (by omega)
    have qa : V2.heap[W.heap.size]? = some (.cells #[.int .i64 px,.int .i64 py] 82 (0,0)) := (hS2.block _ (by simp) (by omega)).trans (World.alloc_heap_new _ _)
    have c20 : V2.cell? ⟨w.heap.size + 1,0,none⟩ = some (.iface 74 (.agg #[])) := by rw [cell_of_heap hI2.ask]; rfl
    have c21 : V2.cell? ⟨w.heap.size,0,none⟩ = some (.pointer (some ⟨tb,0,none⟩)) := by rw [cell_of_heap hI2.box]; rfl
    have c22 : V2.cell? ⟨W.heap.size,0,none⟩ = some (.int .i64 px) := by rw [cell_of_heap qa]; rfl
    have c23 : V2.cell? ⟨W.heap.size,1,none⟩ = some (.int .i64 py) := by rw [cell_of_heap qa]; rfl
    have HCL := Lib.hid (holds59 (HI.out.1.mono hI2.below) HI.out.2.2.1 hxn px py)
    have H5 := Lib.hid (And.intro hC (And.intro hI2 (And.intro hlt (show w2.heap.size + 2 ≤ V2.heap.size by rw [hsz2,World.size_alloc]; omega))))
    have hme := meth74
    clear hC hI hlt hba hI2 qa hS2 hsz2 HH2
    gi_wp2_with fail
    refine ⟨trivial,rfl,wideAt_calls (HCL.out.mono ?_)⟩
    rintro e w6 ⟨rfl,hb6⟩
    have HB6 := Lib.hid hb6
    clear hb6 c20 c21 c22 c23 hme HCL
    have hhd : t.holds true ((x : Int),px,py) = decide (py ≤ (gs t.light x).hi) := by simp [Tr.holds]
    cases hd : decide (py ≤ (gs t.light x).hi)
    · have HF := Lib.hid (all_stop HST.out (hhd.trans hd))
      obtain ⟨hC,hI2,hlt,hl2⟩ := H5.out
      have hI6 := hI2.stable (lb := w2.heap.size + 1) (Same.of_below _ HB6.out) (by omega) (Nat.le_refl _) (by omega)
      have c62 : w6.cell? ⟨w.heap.size + 2,0,none⟩ = some (.bool false) := by rw [cell_of_heap hI6.res]; rfl
      have f62 : w6.frozen? ⟨w.heap.size + 2,0,none⟩ = false := frozen_of_heap hI6.res
      have HI6 := Lib.hid (And.intro hC (And.intro hI6 (And.intro hlt hl2)))
      clear hC hI2 hlt hl2 hI6 H5 hd hhd
      gi_wp2_with fail
      obtain ⟨hC,hI6,hlt,hl2⟩ := HI6.out
      have hs6 := HB6.out.size
      refine ⟨(Same.of_below _ HB6.out).setCell (.inl ⟨hC _ (by show w.heap.size + 2 < _; omega) (by show ¬ w.heap.size + 2 = _; omega),fun _ => .inl rfl⟩) _,(Below.heap_setCell _ _ _ _ (by show _ ≠ w.heap.size + 2; omega)).trans (HB6.out.block _ (by omega)),fun k => C k ∧ k < V2.heap.size,
        fun k hk hx => ⟨hC k hk hx,by omega⟩,fun k hk => by have := hk.2; simp; omega,fun k hk => .inl hk.1,rfl,hI6.below.setCell (by show w.heap.size ≤ w.heap.size + 2; omega) _,heap_setCell_at hI6.res _,HF.out,fun k hk hx => ⟨hC k hk (fun e => hx (by omega)),by omega⟩⟩
    · have HF := Lib.hid (hhd.trans hd)
      clear hd hhd
      gi_wp2_with fail
      obtain ⟨hC,hI2,hlt,hl2⟩ := H5.out
      have hI6 := hI2.stable (lb := w2.heap.size + 1) (Same.of_below _ HB6.out) (by omega) (Nat.le_refl _) (by omega)
      have hs6 := HB6.out.size
      refine ⟨Same.of_below _ HB6.out,HB6.out.block _ (by omega),fun k => C k ∧ k < V2.heap.size,fun k hk hx => ⟨hC k hk hx,by omega⟩,fun k hk => by have := hk.2; omega,fun k hk => .inl hk.1,
        hI6.below,hI6.box,hI6.ask,hI6.res,all_next HST.out HF.out hI6.all,fun k hk hx => ⟨hC k hk (fun e => hx (by omega)),by omega⟩⟩
  case hdone =>
    intro W C hI hsd hdef
    have c2 : W.cell? ⟨w.heap.size + 2,0,none⟩ = some (.bool false) := by rw [cell_of_heap hI.res]; rfl
    have f2 : W.frozen? ⟨w.heap.size + 2,0,none⟩ = false := frozen_of_heap hI.res
    have hall : t.is true o = true := by
      have := hI.all
      rw [← steps_len t o (-1) (t.dawn,t.dawn),List.take_length] at this
      exact this
    have HF := Lib.hid (And.intro hI (And.intro hdef hall))
    clear hI hsd hdef hall
    go_wp2_with fail
    have q2 := heap_setCell_at (k := 0) HF.out.1.res (.bool true)
    refine leaves_marks (n := w.heap.size) [w2.heap.size] _ (by simp) (fun k hk => ?_) (fun W' hs hsz => ⟨res_c4 rfl _ rfl (hs.cell (by rw [cell_of_heap q2]; rfl) (fun e => by have := e.2; rw [q2] at this; simp at this)),?_,?_⟩)
    · rw [List.mem_singleton] at hk
      subst hk
      exact ⟨by omega,(Below.heap_setCell _ _ _ _ (by show _ ≠ w.heap.size + 2; omega)).trans HF.out.2.1⟩
    · rw [HF.out.2.2]; rfl
    · exact (HF.out.1.below.setCell (by show w.heap.size ≤ w.heap.size + 2; omega) _).trans (hs.below (by simpa using HF.out.1.below.size) (fun k hk e => by have := e.1; omega))
  case hstop =>
    rintro c i W C _ ⟨rfl,hX⟩ hdef
    have HF := Lib.hid (And.intro hX hdef)
    clear hX hdef
    go_wp2_with fail
    have q2 := HF.out.1.res
    refine leaves_marks (n := w.heap.size) [w2.heap.size] _ (by simp) (fun k hk => ?_) (fun W' hs hsz => ⟨res_c4 rfl _ rfl (hs.cell (by rw [cell_of_heap q2]; rfl) (fun e => by have := e.2; rw [q2] at this; simp at this)),?_,?_⟩)
    · rw [List.mem_singleton] at hk
      subst hk
      exact ⟨by omega,HF.out.2⟩
    · rw [HF.out.1.no]; rfl
    · exact HF.out.1.below.trans (hs.below HF.out.1.below.size (fun k hk e => by have := e.1; omega))
theorem cf60 (args : Array Value) (w : World) : (callFunc 60 args).run Try.prog w = .ok (.enter 60 args) w := by simp [callFunc,Try.func60,Try.f60,go_sem]
theorem meth75 (w : World) : (method 259 75 (.agg #[]) "pairworks/walk.holds").run Try.prog w = .ok (60,.agg #[]) w := by kernel_rfl
attribute [local go_sem] Oper.semAt_some in
set_option maxRecDepth 100000 in
set_option maxHeartbeats 4000000 in
theorem is49_75 {t : Tr} {A : TrA} {tb : Nat} {w : World} (hP : TourP w tb t A) (hF : t.Fit) {o : List Int} (hol : o.length ≤ 16) (ho : ∀ x ∈ o,t.view x = true) {a : Option Addr} {cap : Nat} (ha : IsInts w a o) :
    Calls Try.prog 49 #[.pointer (some ⟨tb,0,none⟩),.slice a o.length cap,.iface 75 (.agg #[])] w fun e w' => e = .returned (.bool (t.is false o)) ∧ Below w.heap.size w w' := by
  obtain ⟨W1,hW1⟩ : ∃ W1 : World,W1 = ((w.alloc (.cells #[.pointer (some ⟨tb,0,none⟩)] 69)).alloc (.cells #[.iface 75 (.agg #[])] 110)).alloc (.cells #[.bool false] 4) := ⟨_,rfl⟩
  obtain ⟨q0,q1,hz,hb⟩ := heap2 w (.cells #[.pointer (some ⟨tb,0,none⟩)] 69) (.cells #[.iface 75 (.agg #[])] 110)
  have hbb : Below ((w.alloc (.cells #[.pointer (some ⟨tb,0,none⟩)] 69)).alloc (.cells #[.iface 75 (.agg #[])] 110)).heap.size ((w.alloc (.cells #[.pointer (some ⟨tb,0,none⟩)] 69)).alloc (.cells #[.iface 75 (.agg #[])] 110)) W1 := by rw [hW1]; exact (Below.refl _ _).alloc (Nat.le_refl _) _
  have hb1 : Below w.heap.size w W1 := hb.trans (hbb.mono (by omega))
  have hz1 : W1.heap.size = w.heap.size + 3 := by rw [hW1]; simp
  have q0 := (hbb.block _ (heap_lt q0)).trans q0
  have q1 := (hbb.block _ (heap_lt q1)).trans q1
  have q2 : W1.heap[w.heap.size + 2]? = some (.cells #[.bool false] 4 (0,0)) := by
    rw [hW1,← hz]; exact World.alloc_heap_new _ _
  refine calls_of_wp_marks Try.func49 rfl ?_
  simp only [Try.ntmps49,List.size_toArray,List.length_cons,List.length_nil,Nat.reduceAdd,Nat.reduceSub,Array.replicate_succ,Array.replicate_zero,List.push_toArray,List.append_toArray,List.nil_append,List.cons_append]
  go_upto_region 1 with fail
  rw [← hW1]
  have c0 : W1.cell? ⟨w.heap.size,0,none⟩ = some (.pointer (some ⟨tb,0,none⟩)) := by rw [cell_of_heap q0]; rfl
  clear hW1 hz hb hbb
  have HW1 := Lib.hid (And.intro hb1 (And.intro q0 (And.intro q1 (And.intro q2 hz1))))
  have HC := Lib.hid (walk55 (a := a) (len := o.length) (cap := cap) (hP.mono hb1))
  have HI := Lib.hid (And.intro hP (And.intro ha (And.intro hF ho)))
  clear hb1 q0 q1 q2 hz1 hP ha hF ho
  go_wp2_with fail
  refine HC.out.mono ?_
  rintro e w2 ⟨rfl,hb2,r0,r1,r2,hz2⟩
  have H2 := Lib.hid (And.intro hb2 (And.intro r0 (And.intro r1 (And.intro r2 hz2))))
  clear hb2 r0 r1 r2 hz2 HC c0
  have hz1 := HW1.out.2.2.2.2
  rw [hz1]
  clear hz1
  go_wp2_with fail
  obtain ⟨hb2,r0,r1,r2,hz2⟩ := H2.out
  obtain ⟨hb1,q0,q1,q2,hz1⟩ := HW1.out
  have hz6 : w2.heap.size = w.heap.size + 6 := by omega
  rw [hz1] at r0 r1 r2
  have hB2 : Below w.heap.size w w2 := hb1.trans (hb2.mono (by omega))
  have p0 := (hb2.block _ (heap_lt q0)).trans q0
  have p1 := (hb2.block _ (heap_lt q1)).trans q1
  have p2 := (hb2.block _ (heap_lt q2)).trans q2
  have HH := Lib.hid (And.intro hB2 (And.intro p0 (And.intro p1 (And.intro p2 (And.intro r0 (And.intro r1 r2))))))
  clear hb2 r0 r1 r2 hz2 hb1 q0 q1 q2 hz1 H2 HW1 hB2 p0 p1 p2
  refine wp_rangeFuncX (gf := 81) (lb := #[.pointer (some ⟨w.heap.size + 3,0,none⟩),.pointer (some ⟨w.heap.size + 3 + 2,0,none⟩),.pointer (some ⟨w.heap.size + 3 + 1,0,none⟩)]) rfl (fun args w => by simp [callFunc,Try.func81,Try.f81,go_sem]) o.length (StepOk t o)
    (fun k => k = w.heap.size + 2 ∨ k = w2.heap.size + 1) (fun k => k = w.heap.size + 3 + 2) (fun w' => w'.heap[w.heap.size + 3 + 2]? = some (.cells #[.int .i64 (t.at_ o o.length).2.1,.int .i64 (t.at_ o o.length).2.2] 82 (0,0))) (fun k hk => by omega) ?hSd ?hps (by omega) (by omega) ?hit
    (fun i A C => IsI w t false o w.heap.size (w2.heap.size + 2) tb 75 i A C) (fun c i A C => c = .ret ∧ IsX w t false o w.heap.size (w2.heap.size + 2) A C) ?hI ?hIx ?h0 ?hround ?hdone ?hstop
  case hit =>
    intro W hbW hsz
    obtain ⟨hB2,p0,p1,p2,r0,r1,r2⟩ := HH.out
    obtain ⟨hP,ha,hF,ho⟩ := HI.out
    refine walk_iter (a := a) (cap := cap) (tb := tb) (nb := w.heap.size + 3 + 2) (A := A) hF hol ho (fun V hV => ?_) ⟨_,_,(hbW.block _ (by omega)).trans r2⟩
    have hBV : Below w.heap.size w V := (hB2.trans (hbW.mono (by omega))).trans (hV.below (by omega) (fun k hk e => by omega))
    have e0 := (hV.block (w.heap.size + 3) (by omega) (fun e => by omega)).trans ((hbW.block _ (by omega)).trans r0)
    have e1 := (hV.block (w.heap.size + 3 + 1) (by omega) (fun e => by omega)).trans ((hbW.block _ (by omega)).trans r1)
    exact ⟨hP.mono hBV,by rw [cell_of_heap e0]; rfl,by rw [cell_of_heap e1]; rfl,ha.mono hBV⟩
  case hSd =>
    intro A B h hs
    exact (hs.block _ (heap_lt h) (fun e => by omega)).trans h
  case hps =>
    rintro i v A K ⟨_,rfl,_⟩
    rfl
  case hI =>
    intro i A B C h hs
    exact h.stable hs (by omega) (Nat.le_refl _) (by omega)
  case hIx =>
    intro c i A B C h hs
    exact ⟨h.1,h.2.stable hs (by omega) (Nat.le_refl _) (by omega)⟩
  case h0 =>
    intro W hb hsz
    obtain ⟨hB2,p0,p1,p2,r0,r1,r2⟩ := HH.out
    exact ⟨hB2.trans (hb.mono (by omega)),(hb.block _ (by omega)).trans p0,(hb.block _ (by omega)).trans p1,(hb.block _ (by omega)).trans p2,rfl,fun k hk hne => ⟨hk,fun e => by omega⟩⟩
  case hround =>
    rintro i v W C K hiN ⟨hi,rfl,rfl⟩ hKC hC hI hlt
    obtain ⟨x,hx,hxn⟩ := view_nat (HI.out.2.2.2 _ (gi_mem' hi))
    have HST := Lib.hid (steps_at t hi)
    have HH2 := Lib.hid (And.intro hC (And.intro hI hlt))
    clear hKC hC hI hlt
    rw [hx] at HST ⊢
    clear hx
    revert HST
    generalize t.begin (t.at_ o i).1 (x : Int) (t.at_ o i).2 = p
    obtain ⟨px,py⟩ := p
    intro HST
    gi_wp2_with fail
    refine ⟨(Below.refl _ W).alloc (Nat.le_refl _) _,fun V2 hS2 hsz2 => ?_⟩
    obtain ⟨hC,hI,hlt⟩ := HH2.out
    have hba : Below W.heap.size W (W.alloc (.cells #[.int .i64 px,.int .i64 py] 82)) := (Below.refl _ W).alloc (Nat.le_refl _) _
    have hI2 := (hI.stable (lb := w2.heap.size + 1) (Same.of_below _ hba) (by omega) (Nat.le_refl _) (by omega)).stable (lb := w2.heap.size + 1) (hS2.mono (fun _ _ e => .inr e)) (by omega) (Nat.le_refl _) (by omega)
    have qa : V2.heap[W.heap.size]? = some (.cells #[.int .i64 px,.int .i64 py] 82 (0,0)) := (hS2.block _ (by simp) (by omega)).trans (World.alloc_heap_new _ _)
    have c20 : V2.cell? ⟨w.heap.size + 1,0,none⟩ = some (.iface 75 (.agg #[])) := by rw [cell_of_heap hI2.ask]; rfl
    have c21 : V2.cell? ⟨w.heap.size,0,none⟩ = some (.pointer (some ⟨tb,0,none⟩)) := by rw [cell_of_heap hI2.box]; rfl
    have c22 : V2.cell? ⟨W.heap.size,0,none⟩ = some (.int .i64 px) := by rw [cell_of_heap qa]; rfl
    have c23 : V2.cell? ⟨W.heap.size,1,none⟩ = some (.int .i64 py) := by rw [cell_of_heap qa]; rfl
    have HCL := Lib.hid (holds60 (HI.out.1.mono hI2.below) HI.out.2.2.1 hxn px py)
    have H5 := Lib.hid (And.intro hC (And.intro hI2 (And.intro hlt (show w2.heap.size + 2 ≤ V2.heap.size by rw [hsz2,World.size_alloc]; omega))))
    have hme := meth75
    clear hC hI hlt hba hI2 qa hS2 hsz2 HH2
    gi_wp2_with fail
    refine ⟨trivial,rfl,wideAt_calls (HCL.out.mono ?_)⟩
    rintro e w6 ⟨rfl,hb6⟩
    have HB6 := Lib.hid hb6
    clear hb6 c20 c21 c22 c23 hme HCL
    have hhd : t.holds false ((x : Int),px,py) = decide (px ≤ (gs t.light x).hi) := by simp [Tr.holds]
    cases hd : decide (px ≤ (gs t.light x).hi)
    · have HF := Lib.hid (all_stop HST.out (hhd.trans hd))
      obtain ⟨hC,hI2,hlt,hl2⟩ := H5.out
      have hI6 := hI2.stable (lb := w2.heap.size + 1) (Same.of_below _ HB6.out) (by omega) (Nat.le_refl _) (by omega)
      have c62 : w6.cell? ⟨w.heap.size + 2,0,none⟩ = some (.bool false) := by rw [cell_of_heap hI6.res]; rfl
      have f62 : w6.frozen? ⟨w.heap.size + 2,0,none⟩ = false := frozen_of_heap hI6.res
      have HI6 := Lib.hid (And.intro hC (And.intro hI6 (And.intro hlt hl2)))
      clear hC hI2 hlt hl2 hI6 H5 hd hhd
      gi_wp2_with fail
      obtain ⟨hC,hI6,hlt,hl2⟩ := HI6.out
      have hs6 := HB6.out.size
      refine ⟨(Same.of_below _ HB6.out).setCell (.inl ⟨hC _ (by show w.heap.size + 2 < _; omega) (by show ¬ w.heap.size + 2 = _; omega),fun _ => .inl rfl⟩) _,(Below.heap_setCell _ _ _ _ (by show _ ≠ w.heap.size + 2; omega)).trans (HB6.out.block _ (by omega)),fun k => C k ∧ k < V2.heap.size,
        fun k hk hx => ⟨hC k hk hx,by omega⟩,fun k hk => by have := hk.2; simp; omega,fun k hk => .inl hk.1,rfl,hI6.below.setCell (by show w.heap.size ≤ w.heap.size + 2; omega) _,heap_setCell_at hI6.res _,HF.out,fun k hk hx => ⟨hC k hk (fun e => hx (by omega)),by omega⟩⟩
    · have HF := Lib.hid (hhd.trans hd)
      clear hd hhd
      gi_wp2_with fail
      obtain ⟨hC,hI2,hlt,hl2⟩ := H5.out
      have hI6 := hI2.stable (lb := w2.heap.size + 1) (Same.of_below _ HB6.out) (by omega) (Nat.le_refl _) (by omega)
      have hs6 := HB6.out.size
      refine ⟨Same.of_below _ HB6.out,HB6.out.block _ (by omega),fun k => C k ∧ k < V2.heap.size,fun k hk hx => ⟨hC k hk hx,by omega⟩,fun k hk => by have := hk.2; omega,fun k hk => .inl hk.1,
        hI6.below,hI6.box,hI6.ask,hI6.res,all_next HST.out HF.out hI6.all,fun k hk hx => ⟨hC k hk (fun e => hx (by omega)),by omega⟩⟩
  case hdone =>
    intro W C hI hsd hdef
    have c2 : W.cell? ⟨w.heap.size + 2,0,none⟩ = some (.bool false) := by rw [cell_of_heap hI.res]; rfl
    have f2 : W.frozen? ⟨w.heap.size + 2,0,none⟩ = false := frozen_of_heap hI.res
    have hall : t.is false o = true := by
      have := hI.all
      rw [← steps_len t o (-1) (t.dawn,t.dawn),List.take_length] at this
      exact this
    have HF := Lib.hid (And.intro hI (And.intro hdef hall))
    clear hI hsd hdef hall
    go_wp2_with fail
    have q2 := heap_setCell_at (k := 0) HF.out.1.res (.bool true)
    refine leaves_marks (n := w.heap.size) [w2.heap.size] _ (by simp) (fun k hk => ?_) (fun W' hs hsz => ⟨res_c4 rfl _ rfl (hs.cell (by rw [cell_of_heap q2]; rfl) (fun e => by have := e.2; rw [q2] at this; simp at this)),?_,?_⟩)
    · rw [List.mem_singleton] at hk
      subst hk
      exact ⟨by omega,(Below.heap_setCell _ _ _ _ (by show _ ≠ w.heap.size + 2; omega)).trans HF.out.2.1⟩
    · rw [HF.out.2.2]; rfl
    · exact (HF.out.1.below.setCell (by show w.heap.size ≤ w.heap.size + 2; omega) _).trans (hs.below (by simpa using HF.out.1.below.size) (fun k hk e => by have := e.1; omega))
  case hstop =>
    rintro c i W C _ ⟨rfl,hX⟩ hdef
    have HF := Lib.hid (And.intro hX hdef)
    clear hX hdef
    go_wp2_with fail
    have q2 := HF.out.1.res
    refine leaves_marks (n := w.heap.size) [w2.heap.size] _ (by simp) (fun k hk => ?_) (fun W' hs hsz => ⟨res_c4 rfl _ rfl (hs.cell (by rw [cell_of_heap q2]; rfl) (fun e => by have := e.2; rw [q2] at this; simp at this)),?_,?_⟩)
    · rw [List.mem_singleton] at hk
      subst hk
      exact ⟨by omega,HF.out.2⟩
    · rw [HF.out.1.no]; rfl
    · exact HF.out.1.below.trans (hs.below HF.out.1.below.size (fun k hk e => by have := e.1; omega))
end Go.Proofs.Ytphefhpmbahagaa
