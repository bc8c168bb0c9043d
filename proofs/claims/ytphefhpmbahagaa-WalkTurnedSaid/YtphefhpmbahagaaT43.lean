/- The best sure order: the closure, walked. -/
import Derived.Test.YtphefhpmbahagaaT42
namespace Go.Proofs.Ytphefhpmbahagaa
open Go.RowKit
set_option linter.unusedVariables false
set_option linter.unusedSimpArgs false

theorem and_nat (a b : Nat) (ha : a < 2 ^ 62) (hb : b < 2 ^ 62) : bits .and .i64 (a : Int) (b : Int) = ((a &&& b : Nat) : Int) :=
  (bits_nat .i64 62 (by decide) (fun n h1 h2 => by rw [IntKind.wrap_i64]; omega) a b ha hb).1
theorem bit_test (n k : Nat) (hn : n < 2 ^ 62) : (bits .and .i64 ((n : Int) / 2 ^ k) 1 == 1) = n.testBit k := by
  have h1 : ((n : Int) / 2 ^ k) = ((n / 2 ^ k : Nat) : Int) := by simp
  have h2 : n / 2 ^ k < 2 ^ 62 := Nat.lt_of_le_of_lt (Nat.div_le_self _ _) hn
  rw [h1]
  have := and_nat (n / 2 ^ k) 1 h2 (by decide)
  rw [show ((1 : Nat) : Int) = 1 from rfl] at this
  rw [this,Nat.and_one_is_mod,Nat.testBit_eq_decide_div_mod_eq]
  rw [Bool.eq_iff_iff]
  simp
  omega
theorem two_wrap {f : Nat} (h : f ≤ 5) : IntKind.i64.wrap (2 ^ f) = ((2 ^ f : Nat) : Int) := by
  have : f = 0 ∨ f = 1 ∨ f = 2 ∨ f = 3 ∨ f = 4 ∨ f = 5 := by omega
  rcases this with rfl | rfl | rfl | rfl | rfl | rfl <;> decide +kernel
theorem or_i64 (a b : Nat) (ha : a < 2 ^ 62) (hb : b < 2 ^ 62) : bits .or .i64 (a : Int) (b : Int) = ((a ||| b : Nat) : Int) :=
  (bits_nat .i64 62 (by decide) (fun n h1 h2 => by rw [IntKind.wrap_i64]; omega) a b ha hb).2

theorem cell_same {w w' : World} {mb b o : Nat} {v : Value} (hm : ∃ es c,w.heap[mb]? = some (.map es c)) (hs : Same (fun k => k = mb) w w') (hc : w.cell? ⟨b,o,none⟩ = some v) : w'.cell? ⟨b,o,none⟩ = some v := by
  refine hs.cell hc (fun e => ?_)
  obtain ⟨es,c,h⟩ := hm
  subst e
  simp [World.cell?,h] at hc
theorem IsSpns.same {w w' : World} {mb : Nat} {a : Option Addr} {l : List Spn} (h : IsSpns w a l) (hm : ∃ es c,w.heap[mb]? = some (.map es c)) (hs : Same (fun k => k = mb) w w') : IsSpns w' a l := fun i hi => by
  obtain ⟨b,off,e,h0,h1⟩ := h i hi
  exact ⟨b,off,e,cell_same hm hs h0,cell_same hm hs h1⟩
theorem IsTr.same {w w' : World} {mb : Nat} {t : Tr} {A : TrA} (h : IsTr w t A) (hm : ∃ es c,w.heap[mb]? = some (.map es c)) (hs : Same (fun k => k = mb) w w') : IsTr w' t A :=
  ⟨h.frm.same hm hs,fun i hi => by
    obtain ⟨b,off,e,ai,ci,h0,h1⟩ := h.ways i hi
    exact ⟨b,off,e,ai,ci,cell_same hm hs h0,h1.same hm hs⟩,h.stay.same hm hs,h.light.same hm hs⟩
/-- What the closure has captured. -/
structure BstC (t : Tr) (A : TrA) (mx tx sx mb tb : Nat) (w : World) : Prop where
  hmx : w.heap[mx]? = some (.cells #[.map (some mb)] 119 (0,0))
  htx : w.heap[tx]? = some (.cells #[.pointer (some ⟨tb,0,none⟩)] 69 (0,0))
  hsx : w.heap[sx]? = some (.cells #[.func (.func 91) #[] #[.pointer (some ⟨mx,0,none⟩),.pointer (some ⟨tx,0,none⟩),.pointer (some ⟨sx,0,none⟩)]] 120 (0,0))
  tp : TourP w tb t A
theorem BstC.same {t : Tr} {A : TrA} {mx tx sx mb tb : Nat} {w w' : World} (h : BstC t A mx tx sx mb tb w) (hm : ∃ es c,w.heap[mb]? = some (.map es c)) (hs : Same (fun k => k = mb) w w') : BstC t A mx tx sx mb tb w' := by
  have hk : ∀ {k : Nat} {x : Obj},(∀ es c,x ≠ .map es c) → w.heap[k]? = some x → w'.heap[k]? = some x := fun hx h1 => (hs.block _ (heap_lt h1) (fun e => by
    obtain ⟨es,c,h2⟩ := hm
    rw [e,h2] at h1
    exact hx es c (Option.some.inj h1).symm)).trans h1
  exact ⟨hk (by simp) h.hmx,hk (by simp) h.htx,hk (by simp) h.hsx,hk (by simp) h.tp.obj,h.tp.tr.same hm hs⟩
theorem keep_map {w w' : World} {mb : Nat} (hm : ∃ es c,w.heap[mb]? = some (.map es c)) (hs : Same (fun k => k = mb) w w') : Keeps3 w w' := Keeps3.same hs (fun k e cur h => by
  obtain ⟨es,c,h2⟩ := hm
  rw [e,h2] at h
  cases h)
theorem KnownB.update {B : Nat} {t : Tr} {w : World} {mb : Nat} {s : StV} {p : PV} (h6 : t.frm.length ≤ 6) (h : KnownB B t w mb) (hs : s.Ok t) (hp : p.p = t.bestV s.seen s.f s.left) (ho : OrdAt B w p) :
    ∃ w',(Instr.mapUpdate 119 (.map (some mb)) s.v p.v).run Try.prog w = .ok () w' ∧ Same (fun k => k = mb) w w' ∧ KnownB B t w' mb ∧
      (∀ w'',w''.heap[mb]? = w'.heap[mb]? → ∃ q : PV,(Instr.lookup 119 (.map (some mb)) s.v false).run Try.prog w'' = .ok q.v w'' ∧ q.p = t.bestV s.seen s.f s.left ∧ (∀ w3,Keeps3 w' w3 → OrdAt B w3 q)) := by
  have hmap := h.map
  obtain ⟨M,h1,h2⟩ := h
  obtain ⟨w',hr,hg,hsz,hc⟩ := h1.update keyed122 Try.underlying119 (state_key h6 hs) p.v
  have hS : Same (fun k => k = mb) w w' := (Same.refl _ w).grown hg (fun k hk => by cases hk; exact .inl rfl)
  have hk3 := keep_map hmap hS
  have hM : ∃ M' : List KnE,MapRaw Try.prog 122 w' mb (M'.map fun X => (X.s.v,X.p.v)) ∧ (∀ X ∈ M',X.s.Ok t ∧ X.p.p = t.bestV X.s.seen X.s.f X.s.left ∧ OrdAt B w X.p) ∧ ∃ X ∈ M',X.s = s := by
    rcases hc with ⟨_,hm⟩ | ⟨j,v,hj,hm⟩
    · refine ⟨M ++ [⟨s,p⟩],by rw [List.map_append]; exact hm,fun X hX => ?_,⟨s,p⟩,by simp,rfl⟩
      rcases List.mem_append.1 hX with hX | hX
      · exact h2 X hX
      · rw [List.mem_singleton.1 hX]; exact ⟨hs,hp,ho⟩
    · have hjl : j < M.length := by
        have := (List.getElem?_eq_some_iff.1 hj).1
        simpa using this
      refine ⟨M.set j ⟨s,p⟩,?_,fun X hX => ?_,⟨s,p⟩,List.mem_set hjl _,rfl⟩
      · rw [List.map_set]; exact hm
      · rcases List.mem_or_eq_of_mem_set hX with hX | hX
        · exact h2 X hX
        · rw [hX]; exact ⟨hs,hp,ho⟩
  obtain ⟨M',m1,m2,X0,hX0,hXs⟩ := hM
  refine ⟨w',hr,hS,⟨M',m1,fun X hX => ⟨(m2 X hX).1,(m2 X hX).2.1,(m2 X hX).2.2.keep hk3⟩⟩,fun w'' hw => ?_⟩
  obtain ⟨v,ok,hr,hc⟩ := (m1.kept hw).look keyed122 Try.underlying119 (state_key h6 hs) (zero98 w'') false
  rcases hc with ⟨rfl,rfl,hn⟩ | ⟨rfl,hmm⟩
  · exact (hn (X0.s.v,X0.p.v) (List.mem_map.2 ⟨X0,hX0,rfl⟩) (by rw [hXs])).elim
  · obtain ⟨Z,hZ,e⟩ := List.mem_map.1 hmm
    simp only [Prod.mk.injEq] at e
    have hzs := state_inj e.1
    refine ⟨Z.p,?_,by rw [← hzs]; exact (m2 Z hZ).2.1,fun w3 hk => ((m2 Z hZ).2.2.keep hk3).keep hk⟩
    rw [e.2]
    simpa using hr
/-- The cells of a row of plans. -/
def rowC (l : List PV) : List Value := l.flatMap fun p => [.slice p.a p.o.length p.c,.int .i64 p.over]
theorem rowC_add (l : List PV) (p : PV) : rowC (l ++ [p]) = rowC l ++ [.slice p.a p.o.length p.c,.int .i64 p.over] := by simp [rowC]
theorem rowC_at : ∀ {l : List PV} {i : Nat},i < l.length → (rowC l)[i * 2]? = some (.slice (gp l i).a (gp l i).o.length (gp l i).c) ∧ (rowC l)[i * 2 + 1]? = some (.int .i64 (gp l i).over)
  | [],i,h => by simp at h
  | x :: l,0,h => by simp [rowC,gp]
  | x :: l,i + 1,h => by
    have := rowC_at (l := l) (i := i) (by simpa using h)
    have e : rowC (x :: l) = .slice x.a x.o.length x.c :: .int .i64 x.over :: rowC l := by simp [rowC]
    have e2 : gp (x :: l) (i + 1) = gp l i := by simp [gp]
    rw [e,e2,show (i + 1) * 2 = i * 2 + 2 by omega]
    simpa using this
theorem keeps_own {w1 Z : World} {b : Nat} {c : Array Value} {ty : TypeId} (hs : Same (fun k => k = b) w1 Z) (hb : w1.heap[b]? = some (.cells c ty (0,0))) (hty : ty ≠ 3) : Keeps3 w1 Z := Keeps3.same hs (fun k e cur h => by
  subst e
  rw [hb] at h
  simp at h
  exact hty h.2)
def firstP (left : Int) : PV := ⟨[],left,none,0⟩
/-- What holds while the views are tried. -/
structure BstI (B : Nat) (t : Tr) (w : World) (mb : Nat) (s : StV) (k : Nat) (L : List PV) (wr : World) : Prop where
  ps : L.map PV.p = (List.range k).filterMap (t.candV s.seen s.f s.left)
  ord : ∀ x ∈ L,OrdAt B wr x
  same : Same (fun k => k = mb) w wr
  kn : KnownB B t wr mb
  st : wr.heap[w.heap.size]? = some (.cells s.arr 122 (0,0))
  res : wr.heap[w.heap.size + 1]? = some (.cells #[.slice none 0 0,.int .i64 0] 98 (0,0))
theorem cand_lens {t : Tr} {s : StV} {k : Nat} {L : List PV} (h6 : t.frm.length ≤ 6) (h : L.map PV.p = (List.range k).filterMap (t.candV s.seen s.f s.left)) : ∀ x ∈ L,x.o.length ≤ 7 := fun x hx => by
  have hm : x.p ∈ (List.range k).filterMap (t.candV s.seen s.f s.left) := by rw [← h]; exact List.mem_map.2 ⟨x,hx,rfl⟩
  rw [List.mem_filterMap] at hm
  obtain ⟨v,_,hv⟩ := hm
  unfold Tr.candV at hv
  split at hv
  · cases hv
  · rw [Option.map_eq_some_iff] at hv
    obtain ⟨q,_,e⟩ := hv
    have e1 : x.o = (v : Int) :: (t.bestV (s.seen ||| 2 ^ v) v q).1 := by rw [Prod.mk.injEq] at e; exact e.1.symm
    have := best_len6 h6 (s.seen ||| 2 ^ v) v q
    rw [e1]; simp; omega
attribute [local go_sem] Oper.semAt_some
set_option maxRecDepth 100000 in
set_option maxHeartbeats 8000000 in
theorem on91_step {B : Nat} {t : Tr} {A : TrA} {mx tx sx mb tb : Nat} (hBm : B ≤ mb) (hF : t.Fit) {s : StV} (hs : s.Ok t) {w : World} (hB : BstC t A mx tx sx mb tb w) (hK : KnownB B t w mb)
    (IH : ∀ (r : StV) (w : World),t.free r.seen < t.free s.seen → r.Ok t → BstC t A mx tx sx mb tb w → KnownB B t w mb → Calls Try.prog 91 #[r.v,.pointer (some ⟨mx,0,none⟩),.pointer (some ⟨tx,0,none⟩),.pointer (some ⟨sx,0,none⟩)] w fun e w' => ∃ p : PV,e = .returned p.v ∧ p.p = t.bestV r.seen r.f r.left ∧ OrdAt B w' p ∧ Same (fun k => k = mb) w w' ∧ KnownB B t w' mb) :
    Calls Try.prog 91 #[s.v,.pointer (some ⟨mx,0,none⟩),.pointer (some ⟨tx,0,none⟩),.pointer (some ⟨sx,0,none⟩)] w fun e w' => ∃ p : PV,e = .returned p.v ∧ p.p = t.bestV s.seen s.f s.left ∧ OrdAt B w' p ∧ Same (fun k => k = mb) w w' ∧ KnownB B t w' mb := by
  have hmap := hK.map
  have h6 := hF.n
  obtain ⟨q0,q1,hz,hb⟩ := heap2 w (.cells s.arr 122) (.cells #[.slice none 0 0,.int .i64 0] 98)
  have HIN := Lib.hid (And.intro hF (And.intro hs (And.intro hB (And.intro hK (And.intro IH hmap)))))
  clear hF hs hB hK IH
  go_enter Try.func91,Try.ntmps91
  go_upto_region 1 with fail
  revert q0 q1 hz hb
  generalize (w.alloc (.cells s.arr 122)).alloc (.cells #[.slice none 0 0,.int .i64 0] 98) = w1
  intro q0 q1 hz hb
  have hS1 := Same.of_below (fun k => k = mb) hb
  have hB1 := HIN.out.2.2.1.same hmap hS1
  have hK1 : KnownB B t w1 mb := HIN.out.2.2.2.1.kept (hb.block _ HIN.out.2.2.2.1.lt) (Keeps3.below hb)
  obtain ⟨p,ok,hlk,hok⟩ := hK1.look h6 HIN.out.2.1
  have hlk1 := hlk w1 rfl
  have cm : w1.cell? ⟨mx,0,none⟩ = some (.map (some mb)) := by rw [cell_of_heap hB1.hmx]; rfl
  have s0 : w1.cell? ⟨w.heap.size,0,none⟩ = some (.int .i64 s.seen) := by rw [cell_of_heap q0]; rfl
  have s1 : w1.cell? ⟨w.heap.size,1,none⟩ = some (.int .i64 s.f) := by rw [cell_of_heap q0]; rfl
  have s2 : w1.cell? ⟨w.heap.size,2,none⟩ = some (.int .i64 s.left) := by rw [cell_of_heap q0]; rfl
  have H1 := Lib.hid (And.intro hb (And.intro hz (And.intro q0 (And.intro q1 (And.intro hB1 (And.intro hK1 hok))))))
  have bz0 : w.heap.size < w1.heap.size := by omega
  have bz1 : w.heap.size + 1 < w1.heap.size := by omega
  clear q0 q1 hz hb hS1 hB1 hK1 hlk hok hmap
  go_step3
  cases ok with
  | true =>
    have hb3 : Hid (Below w1.heap.size w1 (w1.alloc (.cells p.arr 98))) := (Below.refl _ _).alloc (Nat.le_refl _) _
    have qa : Hid ((w1.alloc (.cells p.arr 98)).heap[w1.heap.size]? = some (.cells p.arr 98 (0,0))) := World.alloc_heap_new _ _
    have r0 : w1.cell? ⟨w.heap.size + 1,0,none⟩ = some (.slice none 0 0) := by rw [cell_of_heap H1.out.2.2.2.1]; rfl
    have r1 : w1.cell? ⟨w.heap.size + 1,1,none⟩ = some (.int .i64 0) := by rw [cell_of_heap H1.out.2.2.2.1]; rfl
    have fz : ∀ k,w1.frozen? ⟨w.heap.size + 1,k,none⟩ = false := fun k => frozen_of_heap H1.out.2.2.2.1
    go_wp2_with fail
    obtain ⟨hb,hz,q0,q1,hB1,hK1,hok⟩ := H1.out
    have Q2 := heap_setCell_at (k := 1) (heap_setCell_at (k := 0) q1 (.slice p.a p.o.length p.c)) (.int .i64 p.over)
    have Q3 := (Below.heap_alloc _ (.cells #[.slice p.a p.o.length p.c,.int .i64 p.over] 98) _ (heap_lt Q2)).trans Q2
    have hSS := (((Same.refl (fun k => k = w.heap.size + 1) w1).setCell (p := ⟨w.heap.size + 1,0,none⟩) (.inl rfl) (.slice p.a p.o.length p.c)).setCell (p := ⟨w.heap.size + 1,1,none⟩) (.inl rfl) (.int .i64 p.over)).alloc (.cells #[.slice p.a p.o.length p.c,.int .i64 p.over] 98)
    have hk3 := keeps_own hSS q1 (by decide)
    have hmw := HIN.out.2.2.2.1.lt
    refine bodyPost_ret (res_c98 rfl _ rfl ((cell_of_heap Q3).trans rfl) ((cell_of_heap Q3).trans rfl)) rfl ?_
    exact ⟨p,rfl,(hok trivial).1,(hok trivial).2.keep hk3,same_later (Same.of_below _ hb) hSS (fun k e => .inr (by omega)),hK1.kept (hSS.block _ (by omega) (by omega)) hk3⟩
  | false =>
    go_wp2_with fail
    have hb2 : Below w1.heap.size w1 ((w1.alloc (.cells p.arr 98)).alloc (.cells #[.slice none 0 0,.int .i64 s.left] 98)) := ((Below.refl _ _).alloc (Nat.le_refl _) _).alloc (by simp) _
    have hrow : ((w1.alloc (.cells p.arr 98)).alloc (.cells #[.slice none 0 0,.int .i64 s.left] 98)).ownsRow (w.heap.size + 2) 98 2 (.slice (some ⟨w1.heap.size + 1,0,none⟩) 1 1) 1 (rowC [firstP s.left]) := by
      have hq := World.alloc_heap_new (w1.alloc (.cells p.arr 98)) (.cells #[.slice none 0 0,.int .i64 s.left] 98)
      rw [World.size_alloc] at hq
      exact ⟨by simp [rowC],.inr ⟨w1.heap.size + 1,1,_,rfl,by have := H1.out.2.1; omega,hq,Nat.le_refl _,by simp [maxLen],by simp,by simp [rowC,firstP]⟩⟩
    have hz2 : ((w1.alloc (.cells p.arr 98)).alloc (.cells #[.slice none 0 0,.int .i64 s.left] 98)).heap.size = w1.heap.size + 2 := by simp
    revert hb2 hrow hz2
    generalize (w1.alloc (.cells p.arr 98)).alloc (.cells #[.slice none 0 0,.int .i64 s.left] 98) = W2
    intro hb2 hrow hz2
    have hI : BstI B t w mb s 0 [] W2 := by
      obtain ⟨hb,hz,q0,q1,hB1,hK1,hok⟩ := H1.out
      exact ⟨rfl,fun x hx => (by cases hx),(Same.of_below _ hb).trans (Same.of_below _ hb2),hK1.kept (hb2.block _ hK1.lt) (Keeps3.below hb2),(hb2.block _ (heap_lt q0)).trans q0,(hb2.block _ (heap_lt q1)).trans q1⟩
    have H2 := Lib.hid (And.intro hb2 (And.intro hrow (And.intro hz2 hI)))
    have hB2 := HIN.out.2.2.1.same HIN.out.2.2.2.2.2 hI.same
    have d0 : W2.cell? ⟨tx,0,none⟩ = some (.pointer (some ⟨tb,0,none⟩)) := by rw [cell_of_heap hB2.htx]; rfl
    obtain ⟨_,_,_,_,_,d5⟩ := hB2.tp.cells
    clear hb2 hrow hz2 hI hB2 cm s0 s1 s2 hlk1
    go_step3
    go_wp2_with fail
    clear d0 d5
    go_loopw [8,28] (fun r i wr => ∃ (k : Nat) (L : List PV),k ≤ t.frm.length ∧ i = .int .i64 k ∧ Hid (BstI B t w mb s k L wr ∧ wr.ownsRow (w.heap.size + 2) 98 2 r (L.length + 1) (rowC (firstP s.left :: L)) ∧ W2.heap.size ≤ wr.heap.size ∧ L.length ≤ k)) (fun _ i _ => t.frm.length - (intOf i).toNat)
    case atStart => exact ⟨0,[],by omega,rfl,H2.out.2.2.2,H2.out.2.1,Nat.le_refl _,Nat.le_refl _⟩
    case round =>
      obtain ⟨k,L,hk,rfl,HR⟩ := hrel
      obtain ⟨ra,rc,hu,hrc,_⟩ := own_slice HR.out.2.1
      subst hu
      have hB := HIN.out.2.2.1.same HIN.out.2.2.2.2.2 HR.out.1.same
      have hmw := HIN.out.2.2.2.1.lt
      have hz2 := H2.out.2.2.1
      have hzr := HR.out.2.2.1
      have hLk := HR.out.2.2.2
      have s0 : wr.cell? ⟨w.heap.size,0,none⟩ = some (.int .i64 s.seen) := by rw [cell_of_heap HR.out.1.st]; rfl
      have s1 : wr.cell? ⟨w.heap.size,1,none⟩ = some (.int .i64 s.f) := by rw [cell_of_heap HR.out.1.st]; rfl
      have s2 : wr.cell? ⟨w.heap.size,2,none⟩ = some (.int .i64 s.left) := by rw [cell_of_heap HR.out.1.st]; rfl
      have c1 : wr.cell? ⟨tx,0,none⟩ = some (.pointer (some ⟨tb,0,none⟩)) := by rw [cell_of_heap hB.htx]; rfl
      by_cases hlt : k < t.frm.length
      · have hs := HIN.out.2.1
        have hF := HIN.out.1
        have hbt := bit_test s.seen k (by have := hs.seen; omega)
        have HCM : Hid ((List.range (k + 1)).filterMap (t.candV s.seen s.f s.left) = (List.range k).filterMap (t.candV s.seen s.f s.left) ++ (t.candV s.seen s.f s.left k).toList) := by
          rw [Hid,List.range_succ,List.filterMap_append]
          cases hcc : t.candV s.seen s.f s.left k <;> simp [hcc]
        cases hsb : s.seen.testBit k
        · rw [hsb] at hbt
          obtain ⟨pp,hpp⟩ : ∃ pp,pp = t.begin s.f k (s.left,s.left) := ⟨_,rfl⟩
          have HPP := Lib.hid hpp
          have HC1 : Hid (Calls Try.prog 82 #[.pointer (some ⟨tb,0,none⟩),.int .i64 s.f,.int .i64 k,.agg #[.int .i64 s.left,.int .i64 s.left]] wr fun e w' => e = .returned (mv pp) ∧ Below wr.heap.size wr w') := by
            rw [hpp]
            exact begin82 hB.tp hF hs.f hlt (by have := hs.left; exact ⟨by show 0 ≤ s.left; omega,by show s.left ≤ _; omega,by show 0 ≤ s.left; omega,by show s.left ≤ _; omega⟩)
          have hlow := begin_low hF hs.f hlt (x := s.left) (y := s.left) (B := 2880) (by have := hs.left; omega) (by omega)
          rw [← hpp] at hlow
          obtain ⟨px,py⟩ := pp
          dsimp only at hlow
          have HBS := Lib.hid hsb
          clear hpp hs hF hsb
          go_wp2_with fail
          refine HC1.out.mono ?_
          rintro e w3 ⟨rfl,hb3⟩
          have hS3 := HR.out.1.same.trans (Same.of_below (fun k => k = mb) hb3)
          have hB3 := HIN.out.2.2.1.same HIN.out.2.2.2.2.2 hS3
          obtain ⟨W4,hW4⟩ : ∃ W4 : World,W4 = w3.alloc (.cells #[.int .i64 px,.int .i64 py] 82) := ⟨_,rfl⟩
          have hb34 : Below w3.heap.size w3 W4 := by rw [hW4]; exact (Below.refl _ _).alloc (Nat.le_refl _) _
          have q4 : W4.heap[w3.heap.size]? = some (.cells #[.int .i64 px,.int .i64 py] 82 (0,0)) := by rw [hW4]; exact World.alloc_heap_new _ _
          have hb4 : Below wr.heap.size wr W4 := hb3.trans (hb34.mono hb3.size)
          have hz3 := hb3.size
          have hI4 : BstI B t w mb s k L W4 := ⟨HR.out.1.ps,fun x hx => (HR.out.1.ord x hx).keep (Keeps3.below hb4),HR.out.1.same.trans (Same.of_below _ hb4),HR.out.1.kn.kept (hb4.block _ HR.out.1.kn.lt) (Keeps3.below hb4),(hb4.block _ (heap_lt HR.out.1.st)).trans HR.out.1.st,(hb4.block _ (heap_lt HR.out.1.res)).trans HR.out.1.res⟩
          have hB4 := HIN.out.2.2.1.same HIN.out.2.2.2.2.2 hI4.same
          have HC2 : Hid (Calls Try.prog 59 #[.agg #[],.pointer (some ⟨tb,0,none⟩),.int .i64 k,.agg #[.int .i64 px,.int .i64 py]] (w3.alloc (.cells #[.int .i64 px,.int .i64 py] 82)) fun e w' => e = .returned (.bool (decide (py ≤ (gs t.light k).hi))) ∧ Below (w3.alloc (.cells #[.int .i64 px,.int .i64 py] 82)).heap.size (w3.alloc (.cells #[.int .i64 px,.int .i64 py] 82)) w') := by
            rw [← hW4]; exact holds59 hB4.tp HIN.out.1 hlt px py
          have c1' : w3.cell? ⟨tx,0,none⟩ = some (.pointer (some ⟨tb,0,none⟩)) := by rw [cell_of_heap hB3.htx]; rfl
          have btx := lt_of_cell c1'
          have HW4 := Lib.hid hW4
          have H4 := Lib.hid (And.intro hI4 (And.intro hB4 (And.intro hb4 (And.intro q4 (own_below HR.out.2.1 hb4)))))
          clear hb3 hS3 hB3 hW4 hb34 q4 hb4 hI4 hB4 s0 s1 s2 c1 hB HC1
          go_wp2_with fail
          refine HC2.out.mono ?_
          rintro e w5 ⟨rfl,hb5⟩
          rw [← HW4.out] at hb5
          have hz4 : W4.heap.size = w3.heap.size + 1 := by rw [HW4.out]; simp
          have hz5 := hb5.size
          obtain ⟨hI4,hB4,hb4,q4,ho4⟩ := H4.out
          have hI5 : BstI B t w mb s k L w5 := ⟨hI4.ps,fun x hx => (hI4.ord x hx).keep (Keeps3.below hb5),hI4.same.trans (Same.of_below _ hb5),hI4.kn.kept (hb5.block _ hI4.kn.lt) (Keeps3.below hb5),(hb5.block _ (heap_lt hI4.st)).trans hI4.st,(hb5.block _ (heap_lt hI4.res)).trans hI4.res⟩
          have ho5 := own_below ho4 hb5
          have q5 := (hb5.block _ (heap_lt q4)).trans q4
          have H5 := Lib.hid (And.intro hI5 (And.intro ho5 q5))
          clear hI4 hB4 hb4 q4 ho4 hI5 ho5 q5 hb5 HC2 c1' HW4
          cases hd : decide (py ≤ (gs t.light k).hi)
          · have HND : Hid (t.candV s.seen s.f s.left k = none) := by
              rw [Hid,Tr.candV,HBS.out]
              have : t.thru s.f k s.left = none := by
                rw [Tr.thru,← HPP.out,if_neg (by simpa using hd)]
              rw [this]; rfl
            clear hd
            go_wp2_with fail
            go_roundw
            case rel =>
              obtain ⟨hI5,ho5,_⟩ := H5.out
              exact ⟨k + 1,L,by omega,by go_num,⟨by rw [HCM.out,HND.out,hI5.ps]; simp,hI5.ord,hI5.same,hI5.kn,hI5.st,hI5.res⟩,ho5,by omega,by omega⟩
            case measure => simp [intOf]; omega
          · obtain ⟨q,hq⟩ : ∃ q : Int,q = py + (gs t.stay k).hi := ⟨_,rfl⟩
            have hpl : py ≤ (gs t.light k).hi := by simpa using hd
            have hokl := (ok_iff _).1 (HIN.out.1.okl k hlt)
            have hoks := (ok_iff _).1 (HIN.out.1.oks k hlt)
            have hqb : 0 ≤ q ∧ q ≤ 2880 := by omega
            have HTH : Hid (t.candV s.seen s.f s.left k = some ((k : Int) :: (t.bestV (s.seen ||| 2 ^ k) k q).1,(t.bestV (s.seen ||| 2 ^ k) k q).2)) := by
              rw [Hid,Tr.candV,HBS.out]
              have : t.thru s.f k s.left = some q := by
                rw [Tr.thru,← HPP.out,if_pos hpl,hq]
              rw [this]; rfl
            have hRok : StV.Ok t ⟨s.seen ||| 2 ^ k,k,q⟩ := by
              refine ⟨?_,.inr ⟨k,rfl,hlt⟩,hqb⟩
              have h2 : 2 ^ k < 2 ^ 6 := Nat.pow_lt_pow_right (by decide) (by omega)
              exact Nat.or_lt_two_pow (n := 6) HIN.out.2.1.seen h2
            have hfree : t.free (s.seen ||| 2 ^ k) < t.free s.seen := by have := free_less t hlt HBS.out; omega
            have hc83 : ∀ w,Calls Try.prog 83 #[.agg #[.int .i64 px,.int .i64 py],(gs t.stay k).v] w fun e w' => e = .returned (.agg #[.int .i64 (px + (gs t.stay k).lo),.int .i64 q]) ∧ Below w.heap.size w w' := fun w => by
              rw [hq]; exact after83 ⟨by show 0 ≤ px; omega,by show px ≤ _; omega,by show 0 ≤ py; omega,by show py ≤ _; omega⟩ (HIN.out.1.oks k hlt)
            have H83 := Lib.hid hc83
            have hsn := HIN.out.1.stay
            have HRO := Lib.hid (And.intro hRok hfree)
            have hIS := HIN.out.2.2.1.same HIN.out.2.2.2.2.2 H5.out.1.same
            obtain ⟨sb,so,se,t0,t1⟩ := hIS.tp.tr.stay k (by omega)
            obtain ⟨_,_,_,d3,_,_⟩ := hIS.tp.cells
            rw [se] at d3
            have HD := Lib.hid (And.intro d3 (And.intro t0 t1))
            have hkt : k < t.stay.length := by omega
            clear hpl hokl hoks hd hRok hfree hc83 hIS d3 t0 t1 hq
            go_upto_region 11 with fail
            refine wpIn_wide.1 (best11 (mx := mx) (tx := tx) (sx := sx) (s := gs t.stay k) (tb := tb) (px := px) (py := py) (q := q) (z := 2 ^ k) (seen := s.seen) (sb := sb) (so := so) (sn := t.stay.length) (sc := A.cs)
              (S0 := fun fs ms v => Below w5.heap.size w5 v ∧ (fs = true → w5.heap.size ≤ ms ∧ v.heap[ms]? = some (.cells #[.slice none 0 0,.int .i64 0] 98 (0,0))))
              (S1 := fun fs ms _ v => Below w5.heap.size w5 v ∧ (fs = true → w5.heap.size ≤ ms ∧ v.heap[ms]? = some (.cells #[.slice none 0 0,.int .i64 0] 98 (0,0))))
              (S2 := fun fs ms _ p v => p.p = t.bestV (s.seen ||| 2 ^ k) k q ∧ OrdAt B v p ∧ Same (fun k => k = mb) w5 v ∧ KnownB B t v mb ∧ (fs = true → w5.heap.size ≤ ms ∧ v.heap[ms]? = some (.cells #[.slice none 0 0,.int .i64 0] 98 (0,0))))
              (S3 := fun _ ms _ p v => p.p = t.bestV (s.seen ||| 2 ^ k) k q ∧ OrdAt B v p ∧ Same (fun k => k = mb) w5 v ∧ KnownB B t v mb ∧ w5.heap.size ≤ ms ∧ v.heap[ms]? = some (.cells p.arr 98 (0,0)))
              hkt (by omega) (two_wrap (by omega)) ?or ?h0 ?l0 ?l2 ?l7 ?l8 ?l12 ?l15 ?c16 ?c19 ?s0 ?s1 ?s2 ?c21 ?hQ)
            case or => exact or_i64 _ _ (by have := HIN.out.2.1.seen; omega) (Nat.pow_lt_pow_right (by decide) (by omega))
            case h0 => exact ⟨(Below.refl _ _).drew,fun h => by cases h⟩
            case l0 =>
              intro fs ms r v h
              have hb : Below w5.heap.size w5 v := h.elim (·.1) (·.1)
              rw [cell_of_heap ((HIN.out.2.2.1.same HIN.out.2.2.2.2.2 (H5.out.1.same.trans (Same.of_below _ hb))).hsx)]; rfl
            case l2 =>
              intro fs ms r v h
              have hb : Below w5.heap.size w5 v := h.elim (·.1) (·.1)
              rw [cell_of_heap ((hb.block _ (heap_lt H5.out.1.st)).trans H5.out.1.st)]; rfl
            case l7 =>
              intro fs ms v h
              have e := (h.1.block _ (heap_lt H5.out.2.2)).trans H5.out.2.2
              exact ⟨by rw [cell_of_heap e]; rfl,by rw [cell_of_heap e]; rfl⟩
            case l8 =>
              intro fs ms v h
              rw [cell_of_heap ((HIN.out.2.2.1.same HIN.out.2.2.2.2.2 (H5.out.1.same.trans (Same.of_below _ h.1))).htx)]; rfl
            case l12 => exact fun fs ms v h => cell_stays h.1 HD.out.1
            case l15 => exact fun fs ms v h => ⟨cell_stays h.1 HD.out.2.1,cell_stays h.1 HD.out.2.2⟩
            case c16 =>
              intro fs ms v h
              refine (H83.out v).mono ?_
              rintro e v' ⟨rfl,hb'⟩
              exact ⟨_,rfl,h.1.trans (hb'.mono h.1.size),fun hf => ⟨(h.2 hf).1,(hb'.block _ (heap_lt (h.2 hf).2)).trans (h.2 hf).2⟩⟩
            case c19 =>
              intro fs ms r v h
              refine (HIN.out.2.2.2.2.1 ⟨s.seen ||| 2 ^ k,k,q⟩ v HRO.out.2 HRO.out.1 (HIN.out.2.2.1.same HIN.out.2.2.2.2.2 (H5.out.1.same.trans (Same.of_below _ h.1))) (H5.out.1.kn.kept (h.1.block _ H5.out.1.kn.lt) (Keeps3.below h.1))).mono ?_
              rintro e v' ⟨p,rfl,hp,ho,hs',hk'⟩
              refine ⟨p,rfl,hp,ho,(Same.of_below _ h.1).trans hs',hk',fun hf => ⟨(h.2 hf).1,(hs'.block _ (heap_lt (h.2 hf).2) ?_).trans (h.2 hf).2⟩⟩
              have := (h.2 hf).1
              omega
            case s0 => exact fun v h => ⟨h.1.alloc h.1.size _,fun _ => ⟨h.1.size,World.alloc_heap_new _ _⟩⟩
            case s1 => exact fun _ v h => ⟨h.1.alloc h.1.size _,fun _ => ⟨h.1.size,World.alloc_heap_new _ _⟩⟩
            case s2 =>
              intro _ p v h
              have hba : Below v.heap.size v (v.alloc (.cells #[.slice none 0 0,.int .i64 0] 98)) := (Below.refl _ _).alloc (Nat.le_refl _) _
              exact ⟨h.1,h.2.1.keep (Keeps3.below hba),h.2.2.1.trans (Same.of_below _ hba),h.2.2.2.1.kept (hba.block _ h.2.2.2.1.lt) (Keeps3.below hba),fun _ => ⟨h.2.2.1.size,World.alloc_heap_new _ _⟩⟩
            case c21 =>
              intro ms r p v h
              obtain ⟨h1,h2,h3,h4,h5⟩ := h
              obtain ⟨hms,hq⟩ := h5 rfl
              have hss := ((Same.refl (fun k => k = ms) v).setCell (p := ⟨ms,0,none⟩) (.inl rfl) (.slice p.a p.o.length p.c)).setCell (p := ⟨ms,1,none⟩) (.inl rfl) (.int .i64 p.over)
              have hk3 := keeps_own hss hq (by decide)
              have hmm : mb ≠ ms := by omega
              exact ⟨⟨_,by rw [cell_of_heap hq]; rfl⟩,frozen_of_heap hq,⟨_,by rw [cell_of_heap hq]; rfl⟩,frozen_of_heap hq,h1,h2.keep hk3,same_later h3 hss (fun k e => .inr (by omega)),h4.kept (hss.block _ h4.lt hmm) hk3,hms,heap_setCell_at (k := 1) (heap_setCell_at (k := 0) hq _) _⟩
            intro ms r p' V hV
            obtain ⟨hp,hop,hSV,hKV,hms,hqv⟩ := hV
            have hIV : BstI B t w mb s k L V := by
              have hI5 := H5.out.1
              have hk5 := keep_map hI5.kn.map hSV
              exact ⟨hI5.ps,fun x hx => (hI5.ord x hx).keep hk5,hI5.same.trans hSV,hKV,(hSV.block _ (heap_lt hI5.st) (by omega)).trans hI5.st,(hSV.block _ (heap_lt hI5.res) (by omega)).trans hI5.res⟩
            have hoV : V.ownsRow (w.heap.size + 2) 98 2 (.slice ra (L.length + 1) rc) (L.length + 1) (rowC (firstP s.left :: L)) := own_blocks H5.out.2.1 (fun g hg => hSV.block g (H5.out.2.1.lt g hg).2 (by have := (H5.out.2.1.lt g hg).1; omega))
            have hzV := hSV.size
            have hpl : p'.o.length ≤ 6 := by
              have : p'.o = (t.bestV (s.seen ||| 2 ^ k) k q).1 := by rw [← hp]
              rw [this]; exact best_len6 HIN.out.1.n _ _ _
            have HV := Lib.hid (And.intro hp (And.intro hop (And.intro hIV (And.intro hoV (And.intro hms hqv)))))
            clear hp hop hSV hKV hqv hIV hoV
            go_upto_region 12 with fail
            refine wpIn_wide.1 (best12 (p := p') (k := L.length + 1) (v := k)
              (S0 := fun v => Below V.heap.size V v)
              (S1 := fun xs v => Below V.heap.size V v ∧ v.ownsRow V.heap.size 3 1 xs 1 [.int .i64 k])
              (S2 := fun _ oc v => Below V.heap.size V v ∧ v.ownsRow V.heap.size 3 1 (.slice oc.1 (p'.o.length + 1) oc.2) (p'.o.length + 1) (((k : Int) :: p'.o).map (Value.int .i64)))
              (S3 := fun _ oc ys v => Below V.heap.size V v ∧ v.ownsRow V.heap.size 3 1 (.slice oc.1 (p'.o.length + 1) oc.2) (p'.o.length + 1) (((k : Int) :: p'.o).map (Value.int .i64)) ∧ ∃ g,ys = .slice (some ⟨g,0,none⟩) 1 1 ∧ v.heap[g]? = some (.cells #[.slice oc.1 (p'.o.length + 1) oc.2,.int .i64 p'.over] 98 (0,0)))
              (S4 := fun _ oc _ r2 v => BstI B t w mb s (k + 1) (L ++ [⟨(k : Int) :: p'.o,p'.over,oc.1,oc.2⟩]) v ∧ v.ownsRow (w.heap.size + 2) 98 2 r2 (L.length + 1 + 1) (rowC (firstP s.left :: (L ++ [⟨(k : Int) :: p'.o,p'.over,oc.1,oc.2⟩]))) ∧ V.heap.size ≤ v.heap.size)
              (Below.refl _ V).drew ?c2 ?l4b ?c5 ?l7b ?c9 ?c10 ?hQb)
            case c2 =>
              intro v h
              have hq := World.alloc_heap_new v (.cells #[.int .i64 (k : Int)] 3)
              exact ⟨h.alloc h.size _,by simp,.inr ⟨v.heap.size,1,_,rfl,h.size,hq,Nat.le_refl _,by simp [maxLen],by simp,by simp⟩⟩
            case l4b =>
              intro xs v h
              have hb : Below V.heap.size V v := h.elim id (·.1)
              rw [cell_of_heap ((hb.block _ (heap_lt HV.out.2.2.2.2.2)).trans HV.out.2.2.2.2.2)]; rfl
            case l7b =>
              intro xs oc v h
              have hb : Below V.heap.size V v := by rcases h with h | h | h; exact h; exact h.1; exact h.1
              rw [cell_of_heap ((hb.block _ (heap_lt HV.out.2.2.2.2.2)).trans HV.out.2.2.2.2.2)]; rfl
            case c5 =>
              intro xs v h
              obtain ⟨hb,hown⟩ := h
              obtain ⟨i0,hi0,hz0,hz1,hz2'⟩ := info_parts infoI
              have hin := HV.out.2.1.ints.mono hb
              obtain ⟨v',w',hr,hn,hg⟩ := append_rows (P := Try.prog) (w := v) V.heap.size 26 26 3 i0 _ 1 8 Try.underlying26 hi0 hz0 hz1 hz2' rfl (by decide) xs 1 _ hown p'.a p'.o.length p'.c (p'.o.map (Value.int .i64)) (by simp)
                (fun h0 => by
                  obtain ⟨b,off,ha,_⟩ := hin 0 (by omega)
                  refine ⟨_,ha,fun j u hj => ?_⟩
                  have hjl : j < p'.o.length := by have := (List.getElem?_eq_some_iff.1 hj).1; simpa using this
                  obtain ⟨b',off',ha',hc'⟩ := hin j hjl
                  rw [ha] at ha'
                  cases ha'
                  have e : ((⟨b,off,none⟩ : Addr).add j) = ⟨b,off + j,none⟩ := add_none _ _ _
                  rw [e]
                  have : u = .int .i64 (gi p'.o j) := by
                    rw [List.getElem?_map] at hj
                    simp [gi,hjl] at hj ⊢
                    exact hj.symm
                  rw [this]; exact hc') (by intro u hu; simp at hu; obtain ⟨x,_,rfl⟩ := hu; rfl) (by simp [maxLen]; omega) (by omega) hb.size
              rw [Nat.add_comm 1] at hn
              obtain ⟨a',c',rfl,_,_⟩ := own_slice hn
              exact ⟨(a',c'),w',hr,hb.grown hg hb.size (fun k hk => (hown.lt k hk).1),hn⟩
            case c9 =>
              intro xs oc v h
              have hba : Below v.heap.size v (v.alloc (.cells #[.slice oc.1 (p'.o.length + 1) oc.2,.int .i64 p'.over] 98)) := (Below.refl _ _).alloc (Nat.le_refl _) _
              exact ⟨h.1.alloc h.1.size _,own_below h.2 hba,_,rfl,World.alloc_heap_new _ _⟩
            case c10 =>
              rintro xs oc ys v ⟨hb,hn3,g,rfl,hg⟩
              obtain ⟨i0,hi0,hz0,hz1,hz2'⟩ := info_parts2 infoPl
              obtain ⟨hp,hop,hIV,hoV,_,_⟩ := HV.out
              have hown := own_below hoV hb
              have hwV : w.heap.size + 2 ≤ v.heap.size := by have := hb.size; have := heap_lt hIV.res; omega
              obtain ⟨v',w',hr,hn,hgr⟩ := append_rows (P := Try.prog) (w := v) (w.heap.size + 2) 124 124 98 i0 _ 2 32 Try.underlying124 hi0 hz0 hz1 hz2' rfl (by decide) _ _ _ hown (some ⟨g,0,none⟩) 1 1 [.slice oc.1 (p'.o.length + 1) oc.2,.int .i64 p'.over] rfl
                (fun _ => ⟨_,rfl,fun j u hj => by
                  have e : (⟨g,0,none⟩ : Addr).add j = ⟨g,0 + j,none⟩ := add_none _ _ _
                  rw [e,cell_of_heap hg,Nat.zero_add]
                  simpa using hj⟩) (by simp [Value.oneCell']) (by simp [maxLen]; omega) (by omega) (by omega)
              have hbI : BstI B t w mb s k L v := ⟨hIV.ps,fun x hx => (hIV.ord x hx).keep (Keeps3.below hb),hIV.same.trans (Same.of_below _ hb),hIV.kn.kept (hb.block _ hIV.kn.lt) (Keeps3.below hb),(hb.block _ (heap_lt hIV.st)).trans hIV.st,(hb.block _ (heap_lt hIV.res)).trans hIV.res⟩
              have hss : Same (fun k => (Value.slice ra (L.length + 1) rc).ownBlock = some k) v w' := (Same.refl _ v).grown hgr (fun k hk => .inl hk)
              have hk3 : Keeps3 v w' := Keeps3.same hss (fun b hb' cur h3 => by
                rcases hown.2 with ⟨h0,_⟩ | ⟨g1,cap,cur1,e1,_,hh,_⟩
                · rw [h0] at hb'; cases hb'
                · rw [e1] at hb'
                  cases hb'
                  rw [h3] at hh
                  simp at hh)
              have hlt' : ∀ b,(Value.slice ra (L.length + 1) rc).ownBlock = some b → w.heap.size + 2 ≤ b := fun b hb' => (hown.lt b hb').1
              have hob : ∀ b,b < v.heap.size → b < w.heap.size + 2 → w'.heap[b]? = v.heap[b]? := fun b hb1 hb2 => hss.block b hb1 (fun e => by have := hlt' b e; omega)
              refine ⟨v',w',hr,⟨?_,?_,?_,?_,?_,?_⟩,?_,?_⟩
              · rw [List.map_append,HCM.out,HTH.out,hbI.ps]
                show _ ++ [((k : Int) :: p'.o,p'.over)] = _ ++ [_]
                have e1 : p'.o = (t.bestV (s.seen ||| 2 ^ k) k q).1 := by rw [← hp]
                have e2 : p'.over = (t.bestV (s.seen ||| 2 ^ k) k q).2 := by rw [← hp]
                rw [e1,e2]
              · intro x hx
                rcases List.mem_append.1 hx with hx | hx
                · exact (hbI.ord x hx).keep hk3
                · rw [List.mem_singleton.1 hx]
                  exact (OrdAt.own (p := ⟨(k : Int) :: p'.o,p'.over,oc.1,oc.2⟩) (own_base hn3 (show B ≤ V.heap.size by omega))).keep hk3
              · exact same_later hbI.same hss (fun b e => .inr (by have := hlt' b e; omega))
              · exact hbI.kn.kept (hob _ hbI.kn.lt (by omega)) hk3
              · exact (hob _ (heap_lt hbI.st) (by omega)).trans hbI.st
              · exact (hob _ (heap_lt hbI.res) (by omega)).trans hbI.res
              · have e : rowC (firstP s.left :: (L ++ [⟨(k : Int) :: p'.o,p'.over,oc.1,oc.2⟩])) = rowC (firstP s.left :: L) ++ [.slice oc.1 (p'.o.length + 1) oc.2,.int .i64 p'.over] := by
                  rw [show firstP s.left :: (L ++ [(⟨(k : Int) :: p'.o,p'.over,oc.1,oc.2⟩ : PV)]) = (firstP s.left :: L) ++ [⟨(k : Int) :: p'.o,p'.over,oc.1,oc.2⟩] from rfl,rowC_add]
                  rfl
                rw [e]
                exact hn
              · have := hb.size; have := hgr.size; omega
            intro xs oc ys r2 v5 hv5
            have HV5 := Lib.hid hv5
            clear hv5
            go_wp2_with fail
            go_roundw
            case rel =>
              obtain ⟨h1,h2,h3⟩ := HV5.out
              refine ⟨k + 1,L ++ [⟨(k : Int) :: p'.o,p'.over,oc.1,oc.2⟩],by omega,by go_num,h1,?_,by omega,by simp; omega⟩
              rw [List.length_append]
              exact h2
            case measure => simp [intOf]; omega
        · rw [hsb] at hbt
          have HND : Hid (t.candV s.seen s.f s.left k = none) := by rw [Hid,Tr.candV,hsb]; rfl
          clear hsb hs hF hB
          go_wp2_with fail
          go_roundw
          case rel => exact ⟨k + 1,L,by omega,by go_num,⟨by rw [HCM.out,HND.out,HR.out.1.ps]; simp,HR.out.1.ord,HR.out.1.same,HR.out.1.kn,HR.out.1.st,HR.out.1.res⟩,HR.out.2.1,by omega,by omega⟩
          case measure => simp [intOf]; omega
      · obtain rfl : k = t.frm.length := by omega
        obtain ⟨rb,cp,he,_,_,_,_,hcells⟩ := own_cell HR.out.2.1 (by omega)
        cases he
        have HCE := Lib.hid hcells
        have HBW := Lib.hid hB
        have HLN := Lib.hid (cand_lens HIN.out.1.n HR.out.1.ps)
        clear hcells hB s0 s1 s2 c1
        obtain ⟨ta,hta⟩ : ∃ ta : Option Addr,(if rc = 1 then some (⟨rb,0,none⟩ : Addr) else some ⟨rb,2,none⟩) = ta := ⟨_,rfl⟩
        have HTA := Lib.hid hta
        clear hta
        go_upto_region 14 with fail
        refine wpIn_wide.1 (best14 (mx := mx) (mb := mb) (b4 := w.heap.size) (seen := s.seen) (f := s.f) (left := s.left) (rb := rb) (k := L.length) (rc := rc) (p := firstP s.left) (ta := ta)
          (S0 := fun v => Below wr.heap.size wr v) (S1 := fun g v => Below wr.heap.size wr v ∧ g = leastP (firstP s.left) L)
          (S2 := fun _ v => Same (fun k => k = mb) wr v ∧ KnownB B t v mb ∧ ∃ q : PV,(Instr.lookup 119 (.map (some mb)) s.v false).run Try.prog v = .ok q.v v ∧ q.p = t.bestV s.seen s.f s.left ∧ ∀ w3,Keeps3 v w3 → OrdAt B w3 q)
          hrc HTA.out (Below.refl _ wr).drew ?m0 ?m1 ?m4 ?m7 ?m8 ?mQ)
        case m0 =>
          intro g v h
          have hb : Below wr.heap.size wr v := h.elim id (·.1)
          rw [cell_of_heap ((hb.block _ (heap_lt HBW.out.hmx)).trans HBW.out.hmx)]; rfl
        case m1 =>
          intro g v h
          have hb : Below wr.heap.size wr v := h.elim id (·.1)
          have e := (hb.block _ (heap_lt HR.out.1.st)).trans HR.out.1.st
          exact ⟨by rw [cell_of_heap e]; rfl,by rw [cell_of_heap e]; rfl,by rw [cell_of_heap e]; rfl⟩
        case m4 =>
          intro v h
          exact ⟨cell_stays h (HCE.out 0 _ rfl),cell_stays h (HCE.out 1 _ rfl)⟩
        case m7 =>
          intro v h
          refine (least92 (f := firstP s.left) (l := L) (by simp [firstP]) (fun x hx => by have := HLN.out x hx; omega) (by omega) (fun i hi => by simp [firstP] at hi) (fun i hi => ?_)).mono ?_
          · have hne : ¬ rc = 1 := by omega
            have hte := HTA.out
            rw [if_neg hne] at hte
            rw [← hte]
            have h1 := rowC_at (l := firstP s.left :: L) (i := i + 1) (by simp; omega)
            have e2 : gp (firstP s.left :: L) (i + 1) = gp L i := by simp [gp]
            rw [e2,show (i + 1) * 2 = 2 + i * 2 by omega] at h1
            have hm : gp L i ∈ L := by simp [gp,hi]
            exact ⟨rb,2,rfl,cell_stays h (HCE.out _ _ h1.1),cell_stays h (HCE.out _ _ h1.2),((HR.out.1.ord _ hm).keep (Keeps3.below h)).ints⟩
          · rintro e v' ⟨rfl,hb'⟩
            exact ⟨_,rfl,h.trans (hb'.mono h.size),rfl⟩
        case m8 =>
          rintro g v ⟨hb,rfl⟩
          have hkn := HR.out.1.kn.kept (hb.block _ HR.out.1.kn.lt) (Keeps3.below hb)
          have hpp : (leastP (firstP s.left) L).p = t.bestV s.seen s.f s.left := by
            rw [leastP_p,best_step,HR.out.1.ps]
            rfl
          have hop : OrdAt B v (leastP (firstP s.left) L) := leastP_all (Q := fun x => OrdAt B v x) _ _ (.inl ⟨rfl,rfl,rfl⟩) (fun x hx => (HR.out.1.ord x hx).keep (Keeps3.below hb))
          obtain ⟨w',hr,hs',hk',hq⟩ := hkn.update HIN.out.1.n HIN.out.2.1 hpp hop
          obtain ⟨q,h1,h2,h3⟩ := hq w' rfl
          exact ⟨w',hr,(Same.of_below _ hb).trans hs',hk',q,h1,h2,h3⟩
        rintro g V8 ⟨hs8,hk8,q,hlq,hqp,hqo⟩
        have hB8 := HBW.out.same HR.out.1.kn.map hs8
        have hst8 := (hs8.block _ (heap_lt HR.out.1.st) (by omega)).trans HR.out.1.st
        have hre8 := (hs8.block _ (heap_lt HR.out.1.res) (by omega)).trans HR.out.1.res
        have cm : V8.cell? ⟨mx,0,none⟩ = some (.map (some mb)) := by rw [cell_of_heap hB8.hmx]; rfl
        have s0 : V8.cell? ⟨w.heap.size,0,none⟩ = some (.int .i64 s.seen) := by rw [cell_of_heap hst8]; rfl
        have s1 : V8.cell? ⟨w.heap.size,1,none⟩ = some (.int .i64 s.f) := by rw [cell_of_heap hst8]; rfl
        have s2 : V8.cell? ⟨w.heap.size,2,none⟩ = some (.int .i64 s.left) := by rw [cell_of_heap hst8]; rfl
        have r0 : V8.cell? ⟨w.heap.size + 1,0,none⟩ = some (.slice none 0 0) := by rw [cell_of_heap hre8]; rfl
        have r1 : V8.cell? ⟨w.heap.size + 1,1,none⟩ = some (.int .i64 0) := by rw [cell_of_heap hre8]; rfl
        have fz : ∀ k,V8.frozen? ⟨w.heap.size + 1,k,none⟩ = false := fun k => frozen_of_heap hre8
        have H8 := Lib.hid (And.intro hs8 (And.intro hk8 (And.intro hqp (And.intro hqo hre8))))
        clear hs8 hk8 hqp hqo hB8 hst8 hre8
        go_wp2_with fail
        obtain ⟨hs8,hk8,hqp,hqo,hre8⟩ := H8.out
        have Q2 := heap_setCell_at (k := 1) (heap_setCell_at (k := 0) hre8 (.slice q.a q.o.length q.c)) (.int .i64 q.over)
        have hSS := ((Same.refl (fun k => k = w.heap.size + 1) V8).setCell (p := ⟨w.heap.size + 1,0,none⟩) (.inl rfl) (.slice q.a q.o.length q.c)).setCell (p := ⟨w.heap.size + 1,1,none⟩) (.inl rfl) (.int .i64 q.over)
        have hk3 := keeps_own hSS hre8 (by decide)
        simp only [Exit.noGoto]
        refine bodyPost_ret (res_c98 rfl _ rfl ((cell_of_heap Q2).trans rfl) ((cell_of_heap Q2).trans rfl)) rfl ?_
        exact ⟨q,rfl,hqp,hqo _ hk3,same_later (HR.out.1.same.trans hs8) hSS (fun k e => .inr (by omega)),hk8.kept (hSS.block _ hk8.lt (by omega)) hk3⟩
theorem on91 {B : Nat} {t : Tr} {A : TrA} {mx tx sx mb tb : Nat} (hBm : B ≤ mb) (hF : t.Fit) : ∀ (d : Nat) (s : StV) (w : World),t.free s.seen ≤ d → s.Ok t → BstC t A mx tx sx mb tb w → KnownB B t w mb →
    Calls Try.prog 91 #[s.v,.pointer (some ⟨mx,0,none⟩),.pointer (some ⟨tx,0,none⟩),.pointer (some ⟨sx,0,none⟩)] w fun e w' => ∃ p : PV,e = .returned p.v ∧ p.p = t.bestV s.seen s.f s.left ∧ OrdAt B w' p ∧ Same (fun k => k = mb) w w' ∧ KnownB B t w' mb
  | 0,s,w,hd,hs,hB,hK => on91_step hBm hF hs hB hK (fun r _ h => by omega)
  | d + 1,s,w,hd,hs,hB,hK => on91_step hBm hF hs hB hK (fun r w' h h2 h3 h4 => on91 hBm hF d r w' (by omega) h2 h3 h4)
end Go.Proofs.Ytphefhpmbahagaa
