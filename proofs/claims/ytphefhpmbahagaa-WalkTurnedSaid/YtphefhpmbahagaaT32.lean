/- Later. -/
import Derived.Test.YtphefhpmbahagaaT31
namespace Go.Proofs.Ytphefhpmbahagaa
open Go.RowKit
set_option linter.unusedVariables false
set_option linter.unusedSimpArgs false

/-- From the last view back: until when one must have left the one before it,after k views. -/
def Tr.byA (t : Tr) (o : List Int) (u : Int) (k : Nat) : Int := if k = 0 then (gs t.light (gi o (o.length - 1 - k)).toNat).hi else min (gs t.light (gi o (o.length - 1 - k)).toNat).hi (u - (gs t.stay (gi o (o.length - 1 - k)).toNat).hi)
def Tr.untilA (t : Tr) (o : List Int) : Nat → Int
  | 0 => 1440
  | k + 1 => t.byA o (t.untilA o k) k - (t.wayAt o (o.length - 1 - k)).hi
def laterE (t : Tr) (o : List Int) : Int × Int := if openE t (t.order o) = 0 then (if t.is true o then (min (t.untilA o o.length) 1440 - t.dawn,0) else (0,4)) else (0,openE t (t.order o))
theorem until_low {t : Tr} (hF : t.Fit) {o : List Int} (ho : ∀ x ∈ o,t.view x = true) : ∀ k,k ≤ o.length → -(2880 * (k : Int)) ≤ t.untilA o k ∧ t.untilA o k ≤ 1440
  | 0,_ => by simp [Tr.untilA]
  | k + 1,h => by
    have ih := until_low hF ho k (by omega)
    obtain ⟨v,hv,hvn⟩ := view_nat (ho _ (gi_mem' (show o.length - 1 - k < o.length by omega)))
    have h1 := (ok_iff _).1 (hF.okl v hvn)
    have h2 := (ok_iff _).1 (hF.oks v hvn)
    have h3 := (ok_iff _).1 (wayAt_ok hF ho (show o.length - 1 - k < o.length by omega))
    simp only [Tr.untilA,Tr.byA,hv,Int.toNat_natCast]
    split <;> omega
structure LtrI (w0 : World) (t : Tr) (TA : TrA) (o : List Int) (a : Option Addr) (cap b pb tb b7 L i : Nat) (A : World) (C : Nat → Prop) : Prop where
  below : Below w0.heap.size w0 A
  c1 : A.heap[b + 1]? = some (.cells #[.slice a o.length cap] 26 (0,0))
  c2 : A.heap[b + 2]? = some (.cells #[.int .i64 0] 29 (0,0))
  c7 : A.heap[b7]? = some (.cells #[.int .i64 (t.untilA o i)] 3 (0,0))
  tob : A.heap[tb]? = some (.cells (t.obj TA) 91 (0,0))
  box : A.heap[pb]? = some (.cells #[.pointer (some ⟨tb,0,none⟩)] 69 (0,0))
  mine : ∀ k,k < L → C k
theorem LtrI.stable {w0 : World} {t : Tr} {TA : TrA} {o : List Int} {a : Option Addr} {cap b pb tb b7 L i lb : Nat} {A B : World} {C : Nat → Prop} (h : LtrI w0 t TA o a cap b pb tb b7 L i A C) (hs : Same (fun k => ¬ C k ∨ k = lb) A B) (hw : w0.heap.size ≤ b) (ht : tb < pb) (hp : b + 2 < pb) (h7 : pb < b7) (hl : b7 < lb) (hl2 : lb < L) :
    LtrI w0 t TA o a cap b pb tb b7 L i B C := by
  have hk : ∀ k,k < lb → B.heap[k]? = A.heap[k]? ∨ A.heap.size ≤ k := fun k hk => by
    by_cases hA : k < A.heap.size
    · exact .inl (hs.block k hA (fun e => by
        rcases e with e | e
        · exact e (h.mine k (by omega))
        · omega))
    · exact .inr (by omega)
  have hg : ∀ {k : Nat} {x : Obj},k < lb → A.heap[k]? = some x → B.heap[k]? = some x := fun h1 h2 => by
    rcases hk _ h1 with e | e
    · exact e.trans h2
    · have := heap_lt h2; omega
  refine ⟨h.below.trans (hs.below h.below.size (fun k hk e => ?_)),hg (by omega) h.c1,hg (by omega) h.c2,hg (by omega) h.c7,hg (by omega) h.tob,hg (by omega) h.box,h.mine⟩
  rcases e with e | e
  · exact e (h.mine k (by omega))
  · omega
theorem LtrI.next {w0 : World} {t : Tr} {TA : TrA} {o : List Int} {a : Option Addr} {cap b pb tb b7 lb i : Nat} {V V' : World} {C : Nat → Prop} (h : LtrI w0 t TA o a cap b pb tb b7 (lb + 1) i V C) (hs : Same (fun k => k = b7) V V') (h7 : V'.heap[b7]? = some (.cells #[.int .i64 (t.untilA o (i + 1))] 3 (0,0)))
    (hw : w0.heap.size ≤ b) (ht : tb < pb) (hp : b + 2 < pb) (hp7 : pb < b7) (hl : b7 < lb) (hlV : lb + 1 ≤ V.heap.size) :
    Same (mayC (fun k => k = b7 ∨ k = lb) (lb + 1) C) V V' ∧ V'.heap[lb]? = V.heap[lb]? ∧ ∃ C' : Nat → Prop,(∀ k,k < lb + 1 → ¬ False → C' k) ∧ (∀ k,C' k → k < V'.heap.size) ∧ (∀ k,C' k → C k ∨ False ∨ V.heap.size ≤ k) ∧ LtrI w0 t TA o a cap b pb tb b7 (lb + 1) (i + 1) V' C' := by
  have hk : ∀ {k : Nat} {x : Obj},k ≠ b7 → V.heap[k]? = some x → V'.heap[k]? = some x := fun h1 h2 => (hs.block _ (heap_lt h2) h1).trans h2
  have hz := hs.size
  refine ⟨hs.mono (fun k _ e => by subst e; exact ⟨h.mine _ (by omega),fun _ => .inl rfl⟩),hs.block _ (by omega) (by omega),fun k => C k ∧ k < V.heap.size,fun k hk _ => ⟨h.mine k hk,by omega⟩,fun k hk => by have := hk.2; omega,fun k hk => .inl hk.1,?_⟩
  exact ⟨h.below.trans (hs.below h.below.size (fun k hk e => by omega)),hk (by omega) h.c1,hk (by omega) h.c2,h7,hk (by omega) h.tob,hk (by omega) h.box,fun k hk => ⟨h.mine k hk,by omega⟩⟩
attribute [local go_sem] Oper.semAt_some
set_option maxRecDepth 100000 in
set_option maxHeartbeats 4000000 in
theorem later20 {t : Tr} {A : TrA} {w : World} (ht : IsTr w t A) (hs : t.Small) {o : List Int} (hol : o.length ≤ 16) {a : Option Addr} {cap : Nat} (ha : IsInts w a o) :
    Calls Try.prog 20 #[t.v A,.slice a o.length cap] w fun e w' => e = .returned (.tuple #[.int .i64 (laterE t o).1,.int .i64 (laterE t o).2]) ∧ Below w.heap.size w w' := by
  have hmf : ∀ (fn : Fn) (first cap : Array Value) (w : World),(Instr.makeFunc fn first cap).run Try.prog w = .ok (.func fn first cap) w := fun _ _ _ _ => rfl
  have HCF := Lib.hid cf61
  refine calls_of_wp_x Try.func20 rfl ?_
  simp only [Try.ntmps20,List.size_toArray,List.length_cons,List.length_nil,Nat.reduceAdd,Nat.reduceSub,Array.replicate_succ,Array.replicate_zero,List.push_toArray,List.append_toArray,List.nil_append,List.cons_append]
  go_wp2_with fail
  obtain ⟨W1,hW1⟩ : ∃ W1 : World,W1 = ((w.alloc (.cells (t.cells A) 25)).alloc (.cells #[.slice a o.length cap] 26)).alloc (.cells #[.int .i64 0] 29) := ⟨_,rfl⟩
  obtain ⟨q0,q1,hz,hb⟩ := heap2 w (.cells (t.cells A) 25) (.cells #[.slice a o.length cap] 26)
  have hbb : Below ((w.alloc (.cells (t.cells A) 25)).alloc (.cells #[.slice a o.length cap] 26)).heap.size ((w.alloc (.cells (t.cells A) 25)).alloc (.cells #[.slice a o.length cap] 26)) W1 := by rw [hW1]; exact (Below.refl _ _).alloc (Nat.le_refl _) _
  have hb1 : Below w.heap.size w W1 := hb.trans (hbb.mono (by omega))
  have hz1 : W1.heap.size = w.heap.size + 3 := by rw [hW1]; simp
  have q1 := (hbb.block _ (heap_lt q1)).trans q1
  have q2 : W1.heap[w.heap.size + 2]? = some (.cells #[.int .i64 0] 29 (0,0)) := by
    rw [hW1,← hz]; exact World.alloc_heap_new _ _
  have hob : W1.cell? ⟨w.heap.size + 1,0,none⟩ = some (.slice a o.length cap) := by rw [cell_of_heap q1]; rfl
  have ht1 := ht.mono hb1
  have ha1 := ha.mono hb1
  rw [← hW1]
  clear hW1 hb hbb hz q0
  by_cases hE : openE t (t.order o) = 0
  · obtain ⟨hv,hor⟩ := openE_zero hE
    have hF := fit_of_valid hv
    refine (open_yes (g := 62) (cp := #[.pointer (some ⟨w.heap.size + 1,0,none⟩)]) ht1 hs hv cf62 (fun tb W hP hbW => ?_)).mono ?_
    · have := order62 hP hF.n hol (ha1.mono hbW) (cell_stays hbW hob)
      rw [hor] at this
      exact this
    rintro e w2 ⟨tb,rfl,htb,hP,hb2⟩
    have hB2 := hb1.trans (hb2.mono (by omega))
    have hz2 := hb2.size
    have q1' := (hb2.block _ (heap_lt q1)).trans q1
    have q2' := (hb2.block _ (heap_lt q2)).trans q2
    have H0 := Lib.hid (And.intro ht ha)
    have hbp : Below w2.heap.size w2 (w2.alloc (.cells #[.pointer (some ⟨tb,0,none⟩)] 69)) := (Below.refl _ w2).alloc (Nat.le_refl _) _
    have qpb := World.alloc_heap_new w2 (.cells #[.pointer (some ⟨tb,0,none⟩)] 69)
    have c1p : (w2.alloc (.cells #[.pointer (some ⟨tb,0,none⟩)] 69)).cell? ⟨w.heap.size + 1,0,none⟩ = some (.slice a o.length cap) := by rw [cell_of_heap ((hbp.block _ (heap_lt q1')).trans q1')]; rfl
    have HI := Lib.hid (is49_74 (cap := cap) (hP.mono hbp) hF hol (order_view hor) ((ha1.mono hb2).mono hbp))
    have H2 := Lib.hid (And.intro hB2 (And.intro q1' (And.intro q2' (And.intro hP (And.intro hF (And.intro (order_view hor) (And.intro (ha1.mono hb2) (And.intro hE (And.intro (show w.heap.size + 3 ≤ w2.heap.size by omega) (And.intro hbp qpb))))))))))
    clear hb1 hz1 q1 q2 hob ht1 ha1 ht ha hs hv hor hF htb hP hb2 hB2 hz2 q1' q2' hE hbp qpb
    go_wp2_with fail
    refine HI.out.mono ?_
    rintro e w3 ⟨rfl,hb3⟩
    have hz3 : w2.heap.size + 1 ≤ w3.heap.size := by have := hb3.size; simpa using this
    have hB3 : Below w.heap.size w w3 := H2.out.1.trans ((H2.out.2.2.2.2.2.2.2.2.2.1.trans (hb3.mono (by simp))).mono (by have := H2.out.2.2.2.2.2.2.2.2.1; omega))
    have hb23 : Below w2.heap.size w2 w3 := H2.out.2.2.2.2.2.2.2.2.2.1.trans (hb3.mono (by simp))
    have q1 := (hb23.block _ (heap_lt H2.out.2.1)).trans H2.out.2.1
    have q2 := (hb23.block _ (heap_lt H2.out.2.2.1)).trans H2.out.2.2.1
    have qpb := (hb3.block _ (by simp)).trans H2.out.2.2.2.2.2.2.2.2.2.2
    have hP3 := H2.out.2.2.2.1.mono hb23
    have hz5 := H2.out.2.2.2.2.2.2.2.2.1
    have hzw : w.heap.size ≤ w3.heap.size := hB3.size
    have htbl := heap_lt H2.out.2.2.2.1.obj
    cases h1 : t.is true o
    · have hc2 : w3.cell? ⟨w.heap.size + 2,0,none⟩ = some (.int .i64 0) := by rw [cell_of_heap q2]; rfl
      have hb4 : Below w.heap.size w ((w3.alloc (.cells #[.int .i64 4] 106)).setCell ⟨w.heap.size + 2,0,none⟩ (.int .i64 4)) := (hB3.alloc hzw _).setCell (by simp) _
      have hcell := World.cell?_setCell_same (w3.alloc (.cells #[.int .i64 4] 106)) ⟨w.heap.size + 2,0,none⟩ (.int .i64 4) (cell_stays ((Below.refl _ w3).alloc (Nat.le_refl _) _) hc2)
      have HL := Lib.hid (And.intro hb4 (And.intro hcell (And.intro hc2 (frozen_of_heap (k := 0) q2))))
      have HW : Hid (laterE t o = (0,4)) := by unfold Hid laterE; rw [if_pos H2.out.2.2.2.2.2.2.2.1,h1]; rfl
      clear hb3 hB3 hb23 q1 q2 qpb hP3 h1 HI hc2 hb4 hcell
      go_wp2_with fail
      refine (need_no 4 _).mono ?_
      rintro e w4 ⟨rfl,rfl⟩
      refine ⟨[],_,rfl,leaves_no (recov61_no 4 HL.out.2.2.1 HL.out.2.2.2) rfl HCF.out (res_tc rfl _ rfl HL.out.2.1) ⟨?_,HL.out.1⟩⟩
      rw [HW.out]
      rfl
    · have HW : Hid (laterE t o = (min (t.untilA o o.length) 1440 - t.dawn,0)) := by unfold Hid laterE; rw [if_pos H2.out.2.2.2.2.2.2.2.1,h1]; rfl
      obtain ⟨W4,hW4⟩ : ∃ W4 : World,W4 = w3.alloc (.cells #[.int .i64 1440] 3) := ⟨_,rfl⟩
      have hb34 : Below w3.heap.size w3 W4 := by rw [hW4]; exact (Below.refl _ _).alloc (Nat.le_refl _) _
      have q7 : W4.heap[w3.heap.size]? = some (.cells #[.int .i64 1440] 3 (0,0)) := by rw [hW4]; exact World.alloc_heap_new _ _
      have hz4 : W4.heap.size = w3.heap.size + 1 := by rw [hW4]; simp
      have q1' := (hb34.block _ (heap_lt q1)).trans q1
      have c1' : (w3.alloc (.cells #[.int .i64 1440] 3)).cell? ⟨w.heap.size + 1,0,none⟩ = some (.slice a o.length cap) := by rw [← hW4,cell_of_heap q1']; rfl
      have HW4 := Lib.hid hW4
      have HZ4 := Lib.hid hz4
      have H4 := Lib.hid (And.intro (hB3.trans (hb34.mono hzw)) (And.intro q1' (And.intro ((hb34.block _ (heap_lt q2)).trans q2) (And.intro q7 (And.intro (hP3.mono hb34) (And.intro ((hb34.block _ (heap_lt qpb)).trans qpb) (hb23.trans (hb34.mono (by omega)))))))))
      clear hb3 hB3 hb23 q1 q2 qpb hP3 h1 HI hb34 q7 q1' hW4 hz4
      go_wp2_with (go_at_call 63; refine (need_yes _ _).mono ?_; rintro e w' ⟨rfl,rfl⟩)
      rw [← HW4.out]
      clear HW4 c1'
      refine backward64.mono ?_
      rintro e w5 ⟨rfl,rfl⟩
      have hb5 : Below W4.heap.size W4 (W4.alloc (.cells #[.slice a o.length cap] 26)) := (Below.refl _ _).alloc (Nat.le_refl _) _
      have qbb := World.alloc_heap_new W4 (.cells #[.slice a o.length cap] 26)
      have hz5' : (W4.alloc (.cells #[.slice a o.length cap] 26)).heap.size = w3.heap.size + 2 := by have := HZ4.out; simp; omega
      have hz4 := HZ4.out
      rw [hz4] at qbb ⊢
      revert hb5 qbb hz5'
      generalize W4.alloc (.cells #[.slice a o.length cap] 26) = W5
      intro hb5 qbb hz6
      have H5 := Lib.hid (And.intro hb5 qbb)
      clear hb5 qbb
      go_wp2_with fail
      refine wp_rangeFuncX (gf := 86) (lb := #[.pointer (some ⟨w3.heap.size + 1,0,none⟩)]) rfl (fun args w => by simp [callFunc,Try.func86,Try.f86,go_sem]) o.length (BackOk o)
        (fun k => k = w3.heap.size ∨ k = W5.heap.size + 1) (fun _ => False) (fun _ => True) (fun k hk => hk.elim) (fun _ _ _ _ => trivial) ?hps (by omega) (.inr rfl) ?hit
        (fun i V C => LtrI w t A o a cap w.heap.size w2.heap.size tb w3.heap.size (W5.heap.size + 2) i V C) (fun c i A C => False) ?hI ?hIx ?h0 ?hround ?hdone ?hstop
      case hps =>
        rintro i v A K ⟨_,rfl,_⟩
        rfl
      case hit =>
        intro W hbW hsz
        refine back_iter (a := a) (cap := cap) hol (fun V hV => ?_) (fun _ _ => trivial)
        have e0 := (hV.block (w3.heap.size + 1) (by omega) (fun e => by omega)).trans ((hbW.block _ (by omega)).trans H5.out.2)
        have hBV : Below w.heap.size w V := ((H4.out.1.trans (H5.out.1.mono (by omega))).trans (hbW.mono (by omega))).trans (hV.below (by omega) (fun k hk e => by omega))
        exact ⟨by rw [cell_of_heap e0]; rfl,H0.out.2.mono hBV⟩
      case hI =>
        intro i V V' C h hs
        exact h.stable hs (Nat.le_refl _) htbl (by omega) (by omega) (by omega) (by omega)
      case hIx =>
        intro c i V V' C h hs
        exact h
      case h0 =>
        intro W hb hsz
        have hbk : ∀ k,k < w3.heap.size + 1 → W.heap[k]? = W4.heap[k]? := fun k hk => (hb.block k (by omega)).trans (H5.out.1.block k (by omega))
        obtain ⟨hB4,q1,q2,q7,hP4,qpb,_⟩ := H4.out
        exact ⟨(hB4.trans (H5.out.1.mono (by omega))).trans (hb.mono (by omega)),(hbk _ (by omega)).trans q1,(hbk _ (by omega)).trans q2,(hbk _ (by omega)).trans q7,(hbk _ (by omega)).trans hP4.obj,(hbk _ (by omega)).trans qpb,fun k hk => ⟨hk,fun h => h⟩⟩
      case hround =>
        rintro i v W C K hiN ⟨hi,rfl,rfl⟩ hKC hC hI hlt
        obtain ⟨m,hm⟩ : ∃ m : Nat,m = o.length - 1 - i := ⟨_,rfl⟩
        have hml : m < o.length := by omega
        rw [← hm]
        obtain ⟨x,hx,hxn⟩ := view_nat (H2.out.2.2.2.2.2.1 _ (gi_mem' hml))
        have HH2 := Lib.hid (And.intro hC (And.intro hI hlt))
        have HM := Lib.hid (And.intro hm hx)
        clear hKC hC hI hlt hm
        rw [hx]
        clear hx
        gi_wp2_with fail
        refine ⟨Below.refl _ _,fun V2 hS2 hsz2 => ?_⟩
        obtain ⟨hC,hI,hlt⟩ := HH2.out
        have hI2 := hI.stable (lb := W5.heap.size + 1) (hS2.mono (fun _ _ e => .inr e)) (Nat.le_refl _) htbl (by omega) (by omega) (by omega) (by omega)
        have hlv : W5.heap.size + 2 ≤ V2.heap.size := by omega
        obtain ⟨BY,hBY⟩ : ∃ BY : Int,BY = t.byA o (t.untilA o i) i := ⟨_,rfl⟩
        obtain ⟨U,hU⟩ : ∃ U : Int,U = t.untilA o i := ⟨_,rfl⟩
        obtain ⟨G,hG⟩ : ∃ G : Int,G = (gs t.light x).hi := ⟨_,rfl⟩
        obtain ⟨S,hS⟩ : ∃ S : Int,S = (gs t.stay x).hi := ⟨_,rfl⟩
        have hF := H2.out.2.2.2.2.1
        have hUb := until_low hF H2.out.2.2.2.2.2.1 i (by omega)
        rw [← hU] at hUb
        have hGb : 0 ≤ G ∧ G ≤ 1440 := by have := (ok_iff _).1 (hF.okl x hxn); rw [hG]; omega
        have hSb : 0 ≤ S ∧ S ≤ 1440 := by have := (ok_iff _).1 (hF.oks x hxn); rw [hS]; omega
        obtain ⟨s,hs⟩ : ∃ s : Spn,s = t.wayAt o m := ⟨_,rfl⟩
        have hsb : 0 ≤ s.hi ∧ s.hi ≤ 1440 := by have := (ok_iff _).1 (wayAt_ok hF H2.out.2.2.2.2.2.1 hml); rw [hs]; omega
        have HUN : Hid (t.untilA o (i + 1) = BY - s.hi) := by rw [Hid,hBY,hs,HM.out.1]; rfl
        have HBY : Hid ((i = 0 → G = BY) ∧ (i ≠ 0 → min G (U - S) = BY)) := by
          rw [Hid,hBY,hG,hU,hS,Tr.byA,← HM.out.1,HM.out.2,Int.toNat_natCast]
          exact ⟨fun h => by rw [if_pos h],fun h => by rw [if_neg h]⟩
        have hBYb : -100000 ≤ BY ∧ BY ≤ 1440 := by
          have := HBY.out
          by_cases h0 : i = 0
          · have := this.1 h0; omega
          · have := this.2 h0; omega
        have HS := Lib.hid hs
        have hTP : TourP V2 tb t A := ⟨hI2.tob,H0.out.1.mono hI2.below⟩
        obtain ⟨lb,lo,le,l0,l1⟩ := hTP.tr.light x (by rw [hF.light]; exact hxn)
        obtain ⟨sb,so,se,s0,s1⟩ := hTP.tr.stay x (by rw [hF.stay]; exact hxn)
        obtain ⟨fb,fo,fe,f0,f1⟩ := hTP.tr.frm x hxn
        obtain ⟨_,c1,c2,c3,c4,_⟩ := hTP.cells
        rw [le] at c4
        rw [se] at c3
        rw [fe] at c1
        rw [← hG] at l1
        rw [← hS] at s1
        have c6 : V2.cell? ⟨w2.heap.size,0,none⟩ = some (.pointer (some ⟨tb,0,none⟩)) := by rw [cell_of_heap hI2.box]; rfl
        have c9 : V2.cell? ⟨w.heap.size + 1,0,none⟩ = some (.slice a o.length cap) := by rw [cell_of_heap hI2.c1]; rfl
        have c7 : V2.cell? ⟨w3.heap.size,0,none⟩ = some (.int .i64 U) := by rw [cell_of_heap hI2.c7,hU]; rfl
        have hxl : x < t.light.length := by rw [hF.light]; exact hxn
        have hxs : x < t.stay.length := by rw [hF.stay]; exact hxn
        have H5' := Lib.hid (And.intro hC (And.intro hI2 hlv))
        have b7 := lt_of_cell c7
        have fz7 : V2.frozen? ⟨w3.heap.size,0,none⟩ = false := frozen_of_heap hI2.c7
        have HC2 := Lib.hid (And.intro c1 (And.intro f0 (And.intro f1 (And.intro c2 (And.intro c6 c9)))))
        have y1 : IntKind.i64.wrap ((o.length : Int) - 1) = (o.length : Int) - 1 := IntWalk.i64_in _ (by omega)
        clear hC hI hlt hI2 hS2 hsz2 HH2 hBY hU hG hS hs hTP l0 s0 hF
        by_cases hi0 : i = 0
        · by_cases hm0 : m = 0
          · have hb0 := HBY.out.1 hi0
            have hcd : decide ((m : Int) < (o.length : Int) - 1) = false := by have := HM.out.1; simp; omega
            have HI0 := Lib.hid hi0
            clear hi0
            have hm0' : decide (0 < m) = false := by simp; omega
            have HSF : Hid (gs t.frm x = s) := by
              rw [Hid,HS.out]
              have := HM.out.2
              subst hm0
              rw [wayAt_zero,this,Int.toNat_natCast]
            rw [HSF.out] at f0 f1
            have HM0 := Lib.hid hm0
            clear hm0
            gi_wp2_with fail
            have hI2 := H5'.out.2.1
            have q7 := heap_setCell_at (k := 0) hI2.c7 (.int .i64 (BY - s.hi))
            exact hI2.next (((Same.refl (fun k => k = w3.heap.size) V2).setCell (p := ⟨w3.heap.size,0,none⟩) (.inl rfl) _).alloc _) ((Below.heap_alloc _ _ _ (heap_lt q7)).trans (by rw [HUN.out]; exact q7)) (Nat.le_refl _) htbl (by omega) (by omega) (by omega) (by omega)
          · have hb0 := HBY.out.1 hi0
            have hcd : decide ((m : Int) < (o.length : Int) - 1) = false := by have := HM.out.1; simp; omega
            have HI0 := Lib.hid hi0
            clear hi0
            have hm0' : decide (0 < m) = true := by simp; omega
            have HM0 := Lib.hid hm0
            clear hm0
            gi_wp2_with fail
            have hI2 := H5'.out.2.1
            have hF := H2.out.2.2.2.2.1
            have hbn : Below V2.heap.size V2 V2 := Below.refl _ _
            have hbw : Below w.heap.size w V2 := hI2.below.trans (hbn.mono hI2.below.size)
            have htr := H0.out.1.mono hbw
            have hin := H0.out.2.mono hbw
            have ha := (Below.refl _ V2).alloc (Nat.le_refl _) (.cells #[.int .i64 (gs t.frm x).lo,.int .i64 (gs t.frm x).hi] 33)
            have qa := World.alloc_heap_new V2 (.cells #[.int .i64 (gs t.frm x).lo,.int .i64 (gs t.frm x).hi] 33)
            obtain ⟨j,hj⟩ : ∃ j : Nat,m = j + 1 := ⟨m - 1,by have := HM0.out; omega⟩
            obtain ⟨mm,hmm,hmn⟩ := view_nat (H2.out.2.2.2.2.2.1 _ (gi_mem' (show j < o.length by omega)))
            obtain ⟨ab,ao,ae,cj⟩ := ints_at hin (k := j) (by omega)
            obtain ⟨wb,wo,we,rai,rc,r0,r1⟩ := htr.ways mm (by rw [hF.ways]; exact hmn)
            have hrow := hF.rows mm hmn
            obtain ⟨rb,ro,re,p0,p1⟩ := r1 x (by omega)
            subst re
            subst ae
            rw [hmm] at cj
            have hs' : gs (gw t.ways mm) x = s := by
              rw [HS.out]
              have := wayAt_succ t (o := o) (j := j) (by omega) (by omega)
              rw [← hj,hmm,HM.out.2,Int.toNat_natCast,Int.toNat_natCast] at this
              exact this.symm
            rw [hs'] at p0 p1
            have c2'' := HC2.out.2.2.2.1
            rw [we] at c2''
            have y2 : IntKind.i64.wrap ((m : Int) - 1) = (j : Int) := by
              have e : ((m : Int) - 1) = (j : Int) := by omega
              rw [e]; exact IntWalk.i64_in _ (by omega)
            have hmw : mm < t.ways.length := by rw [hF.ways]; exact hmn
            have hxr : x < (gw t.ways mm).length := by omega
            have hjl : j < o.length := by omega
            have HJ := Lib.hid hj
            have HBN := Lib.hid hbn
            have hszn : V2.heap.size ≤ V2.heap.size := hbn.size
            revert ha qa
            generalize V2.alloc (.cells #[.int .i64 (gs t.frm x).lo,.int .i64 (gs t.frm x).hi] 33) = X
            intro ha qa
            have z0 := fun y : Aft X.heap.size X => cell_stays y.h (cell_stays ha HC2.out.2.2.2.2.1)
            have z1 := fun y : Aft X.heap.size X => cell_stays y.h (cell_stays ha c2'')
            have z2 := fun y : Aft X.heap.size X => cell_stays y.h (cell_stays ha HC2.out.2.2.2.2.2)
            have z3 := fun y : Aft X.heap.size X => cell_stays y.h (cell_stays ha cj)
            have z4 := fun y : Aft X.heap.size X => cell_stays y.h (cell_stays ha r0)
            have z5 := fun y : Aft X.heap.size X => cell_stays y.h (cell_stays ha p0)
            have z6 := fun y : Aft X.heap.size X => cell_stays y.h (cell_stays ha p1)
            have HQ := Lib.hid (And.intro ha qa)
            clear hI2 hF hbn hbw htr hin ha qa hj hmm hmn cj we r0 r1 hrow p0 p1 hs' c2''
            refine wpIn_region_aft_tail (r := some (W5.heap.size + 1)) (m := 0) 15 mixed (by kernel_rfl) ?_
            simp only [List.take_succ_cons,List.take_zero,List.drop_succ_cons,List.drop_zero]
            repeat (go_big_quiet_step (fail))
            refine wpQuiet_nil ?_
            rintro _ ⟨z,rfl⟩
            have hzb := z.h
            revert hzb
            generalize z.v = V4
            intro hzb
            clear z0 z1 z2 z3 z4 z5 z6
            have qa4 := (hzb.block _ (heap_lt HQ.out.2)).trans HQ.out.2
            have u0 : V4.cell? ⟨V2.heap.size,0,none⟩ = some (.int .i64 (gs t.frm x).lo) := by rw [cell_of_heap qa4]; rfl
            have u1 : V4.cell? ⟨V2.heap.size,1,none⟩ = some (.int .i64 (gs t.frm x).hi) := by rw [cell_of_heap qa4]; rfl
            have fu : ∀ k,V4.frozen? ⟨V2.heap.size,k,none⟩ = false := fun k => frozen_of_heap qa4
            have hbx : Below V2.heap.size V2 V4 := (HBN.out.trans (HQ.out.1.mono hszn)).trans (hzb.mono (by have := HQ.out.1.size; omega))
            have q7' := (hbx.block _ (heap_lt H5'.out.2.1.c7)).trans H5'.out.2.1.c7
            have d7 : V4.cell? ⟨w3.heap.size,0,none⟩ = some (.int .i64 (t.untilA o i)) := by rw [cell_of_heap q7']; rfl
            have fd7 : V4.frozen? ⟨w3.heap.size,0,none⟩ = false := frozen_of_heap q7'
            have hne7 : w3.heap.size ≠ V2.heap.size := by omega
            have HX := Lib.hid (And.intro hbx q7')
            clear hzb qa4 hbx q7'
            gi_wp2_with fail
            have hI2 := H5'.out.2.1
            have ho1 := (Below.heap_setCell V4 ⟨V2.heap.size,0,none⟩ (.int .i64 s.lo) w3.heap.size (by show w3.heap.size ≠ V2.heap.size; omega)).trans HX.out.2
            have ho2 := (Below.heap_setCell _ ⟨V2.heap.size,1,none⟩ (.int .i64 s.hi) w3.heap.size (by show w3.heap.size ≠ V2.heap.size; omega)).trans ho1
            have q7 := heap_setCell_at (k := 0) ho2 (.int .i64 (BY - s.hi))
            exact hI2.next ((((Same.of_below (fun k => k = w3.heap.size) HX.out.1).setCell (p := ⟨V2.heap.size,0,none⟩) (.inr hszn) _).setCell (p := ⟨V2.heap.size,1,none⟩) (.inr hszn) _).setCell (p := ⟨w3.heap.size,0,none⟩) (.inl rfl) _) (by rw [HUN.out]; exact q7) (Nat.le_refl _) htbl (by omega) (by omega) (by omega) (by omega)
        · by_cases hm0 : m = 0
          · have hb0 := HBY.out.2 hi0
            have hcd : decide ((m : Int) < (o.length : Int) - 1) = true := by have := HM.out.1; simp; omega
            have HB1 : Hid ((if U - S < G then U - S else G) = BY) := by
              rw [Hid,← hb0]; split <;> omega
            have HB2 : Hid ((if G < U - S then G else U - S) = BY) := by
              rw [Hid,← hb0]; split <;> omega
            clear hb0
            have HI0 := Lib.hid hi0
            clear hi0
            have hm0' : decide (0 < m) = false := by simp; omega
            have HSF : Hid (gs t.frm x = s) := by
              rw [Hid,HS.out]
              have := HM.out.2
              subst hm0
              rw [wayAt_zero,this,Int.toNat_natCast]
            rw [HSF.out] at f0 f1
            have HM0 := Lib.hid hm0
            clear hm0
            gi_wp2_with fail
            have z0 := fun y : Aft V2.heap.size V2 => cell_stays y.h c6
            have z1 := fun y : Aft V2.heap.size V2 => cell_stays y.h c7
            have z2 := fun y : Aft V2.heap.size V2 => cell_stays y.h c3
            have z3 := fun y : Aft V2.heap.size V2 => cell_stays y.h s1
            refine wpIn_region_aft_tail (r := some (W5.heap.size + 1)) (m := 0) 13 mixed (by kernel_rfl) ?_
            simp only [List.take_succ_cons,List.take_zero,List.drop_succ_cons,List.drop_zero]
            repeat (go_big_quiet_step (fail))
            refine wpQuiet_nil ?_
            rintro _ ⟨z,rfl⟩
            have hzb := z.h
            revert hzb
            generalize z.v = V3
            intro hzb
            clear z0 z1 z2 z3
            first | rw [HB1.out] | rw [HB2.out]
            have HZ := Lib.hid hzb
            have c1' := cell_stays hzb c1
            have f0' := cell_stays hzb f0
            have f1' := cell_stays hzb f1
            have c2' := cell_stays hzb c2
            have c6' := cell_stays hzb c6
            have c9' := cell_stays hzb c9
            have c7' := cell_stays hzb c7
            have b7' := lt_of_cell c7'
            have fz7' : V3.frozen? ⟨w3.heap.size,0,none⟩ = false := (hzb.frozen (p := ⟨w3.heap.size,0,none⟩) b7).trans fz7
            have HC3 := Lib.hid (And.intro c2' (And.intro c6' c9'))
            clear c1 f0 f1 c2 c6 c9 c7 b7 fz7 hzb c3 c4 l1 s1
            gi_wp2_with fail
            have hI2 := H5'.out.2.1
            have hq3 := (HZ.out.block _ (heap_lt hI2.c7)).trans hI2.c7
            have q7 := heap_setCell_at (k := 0) hq3 (.int .i64 (BY - s.hi))
            exact hI2.next (((Same.of_below (fun k => k = w3.heap.size) HZ.out).setCell (p := ⟨w3.heap.size,0,none⟩) (.inl rfl) _).alloc _) ((Below.heap_alloc _ _ _ (heap_lt q7)).trans (by rw [HUN.out]; exact q7)) (Nat.le_refl _) htbl (by omega) (by omega) (by omega) (by omega)
          · have hb0 := HBY.out.2 hi0
            have hcd : decide ((m : Int) < (o.length : Int) - 1) = true := by have := HM.out.1; simp; omega
            have HB1 : Hid ((if U - S < G then U - S else G) = BY) := by
              rw [Hid,← hb0]; split <;> omega
            have HB2 : Hid ((if G < U - S then G else U - S) = BY) := by
              rw [Hid,← hb0]; split <;> omega
            clear hb0
            have HI0 := Lib.hid hi0
            clear hi0
            have hm0' : decide (0 < m) = true := by simp; omega
            have HM0 := Lib.hid hm0
            clear hm0
            gi_wp2_with fail
            have z0 := fun y : Aft V2.heap.size V2 => cell_stays y.h c6
            have z1 := fun y : Aft V2.heap.size V2 => cell_stays y.h c7
            have z2 := fun y : Aft V2.heap.size V2 => cell_stays y.h c3
            have z3 := fun y : Aft V2.heap.size V2 => cell_stays y.h s1
            refine wpIn_region_aft_tail (r := some (W5.heap.size + 1)) (m := 0) 13 mixed (by kernel_rfl) ?_
            simp only [List.take_succ_cons,List.take_zero,List.drop_succ_cons,List.drop_zero]
            repeat (go_big_quiet_step (fail))
            refine wpQuiet_nil ?_
            rintro _ ⟨z,rfl⟩
            have hzb := z.h
            revert hzb
            generalize z.v = V3
            intro hzb
            clear z0 z1 z2 z3
            first | rw [HB1.out] | rw [HB2.out]
            have HZ := Lib.hid hzb
            have c1' := cell_stays hzb c1
            have f0' := cell_stays hzb f0
            have f1' := cell_stays hzb f1
            have c2' := cell_stays hzb c2
            have c6' := cell_stays hzb c6
            have c9' := cell_stays hzb c9
            have c7' := cell_stays hzb c7
            have b7' := lt_of_cell c7'
            have fz7' : V3.frozen? ⟨w3.heap.size,0,none⟩ = false := (hzb.frozen (p := ⟨w3.heap.size,0,none⟩) b7).trans fz7
            have HC3 := Lib.hid (And.intro c2' (And.intro c6' c9'))
            clear c1 f0 f1 c2 c6 c9 c7 b7 fz7 hzb c3 c4 l1 s1
            gi_wp2_with fail
            have hI2 := H5'.out.2.1
            have hF := H2.out.2.2.2.2.1
            have hbn : Below V2.heap.size V2 V3 := HZ.out
            have hbw : Below w.heap.size w V3 := hI2.below.trans (hbn.mono hI2.below.size)
            have htr := H0.out.1.mono hbw
            have hin := H0.out.2.mono hbw
            have ha := (Below.refl _ V3).alloc (Nat.le_refl _) (.cells #[.int .i64 (gs t.frm x).lo,.int .i64 (gs t.frm x).hi] 33)
            have qa := World.alloc_heap_new V3 (.cells #[.int .i64 (gs t.frm x).lo,.int .i64 (gs t.frm x).hi] 33)
            obtain ⟨j,hj⟩ : ∃ j : Nat,m = j + 1 := ⟨m - 1,by have := HM0.out; omega⟩
            obtain ⟨mm,hmm,hmn⟩ := view_nat (H2.out.2.2.2.2.2.1 _ (gi_mem' (show j < o.length by omega)))
            obtain ⟨ab,ao,ae,cj⟩ := ints_at hin (k := j) (by omega)
            obtain ⟨wb,wo,we,rai,rc,r0,r1⟩ := htr.ways mm (by rw [hF.ways]; exact hmn)
            have hrow := hF.rows mm hmn
            obtain ⟨rb,ro,re,p0,p1⟩ := r1 x (by omega)
            subst re
            subst ae
            rw [hmm] at cj
            have hs' : gs (gw t.ways mm) x = s := by
              rw [HS.out]
              have := wayAt_succ t (o := o) (j := j) (by omega) (by omega)
              rw [← hj,hmm,HM.out.2,Int.toNat_natCast,Int.toNat_natCast] at this
              exact this.symm
            rw [hs'] at p0 p1
            have c2'' := HC3.out.1
            rw [we] at c2''
            have y2 : IntKind.i64.wrap ((m : Int) - 1) = (j : Int) := by
              have e : ((m : Int) - 1) = (j : Int) := by omega
              rw [e]; exact IntWalk.i64_in _ (by omega)
            have hmw : mm < t.ways.length := by rw [hF.ways]; exact hmn
            have hxr : x < (gw t.ways mm).length := by omega
            have hjl : j < o.length := by omega
            have HJ := Lib.hid hj
            have HBN := Lib.hid hbn
            have hszn : V2.heap.size ≤ V3.heap.size := hbn.size
            revert ha qa
            generalize V3.alloc (.cells #[.int .i64 (gs t.frm x).lo,.int .i64 (gs t.frm x).hi] 33) = X
            intro ha qa
            have z0 := fun y : Aft X.heap.size X => cell_stays y.h (cell_stays ha HC3.out.2.1)
            have z1 := fun y : Aft X.heap.size X => cell_stays y.h (cell_stays ha c2'')
            have z2 := fun y : Aft X.heap.size X => cell_stays y.h (cell_stays ha HC3.out.2.2)
            have z3 := fun y : Aft X.heap.size X => cell_stays y.h (cell_stays ha cj)
            have z4 := fun y : Aft X.heap.size X => cell_stays y.h (cell_stays ha r0)
            have z5 := fun y : Aft X.heap.size X => cell_stays y.h (cell_stays ha p0)
            have z6 := fun y : Aft X.heap.size X => cell_stays y.h (cell_stays ha p1)
            have HQ := Lib.hid (And.intro ha qa)
            clear hI2 hF hbn hbw htr hin ha qa hj hmm hmn cj we r0 r1 hrow p0 p1 hs' c2''
            refine wpIn_region_aft_tail (r := some (W5.heap.size + 1)) (m := 0) 15 mixed (by kernel_rfl) ?_
            simp only [List.take_succ_cons,List.take_zero,List.drop_succ_cons,List.drop_zero]
            repeat (go_big_quiet_step (fail))
            refine wpQuiet_nil ?_
            rintro _ ⟨z,rfl⟩
            have hzb := z.h
            revert hzb
            generalize z.v = V4
            intro hzb
            clear z0 z1 z2 z3 z4 z5 z6
            have qa4 := (hzb.block _ (heap_lt HQ.out.2)).trans HQ.out.2
            have u0 : V4.cell? ⟨V3.heap.size,0,none⟩ = some (.int .i64 (gs t.frm x).lo) := by rw [cell_of_heap qa4]; rfl
            have u1 : V4.cell? ⟨V3.heap.size,1,none⟩ = some (.int .i64 (gs t.frm x).hi) := by rw [cell_of_heap qa4]; rfl
            have fu : ∀ k,V4.frozen? ⟨V3.heap.size,k,none⟩ = false := fun k => frozen_of_heap qa4
            have hbx : Below V2.heap.size V2 V4 := (HBN.out.trans (HQ.out.1.mono hszn)).trans (hzb.mono (by have := HQ.out.1.size; omega))
            have q7' := (hbx.block _ (heap_lt H5'.out.2.1.c7)).trans H5'.out.2.1.c7
            have d7 : V4.cell? ⟨w3.heap.size,0,none⟩ = some (.int .i64 (t.untilA o i)) := by rw [cell_of_heap q7']; rfl
            have fd7 : V4.frozen? ⟨w3.heap.size,0,none⟩ = false := frozen_of_heap q7'
            have hne7 : w3.heap.size ≠ V3.heap.size := by omega
            have HX := Lib.hid (And.intro hbx q7')
            clear hzb qa4 hbx q7'
            gi_wp2_with fail
            have hI2 := H5'.out.2.1
            have ho1 := (Below.heap_setCell V4 ⟨V3.heap.size,0,none⟩ (.int .i64 s.lo) w3.heap.size (by show w3.heap.size ≠ V3.heap.size; omega)).trans HX.out.2
            have ho2 := (Below.heap_setCell _ ⟨V3.heap.size,1,none⟩ (.int .i64 s.hi) w3.heap.size (by show w3.heap.size ≠ V3.heap.size; omega)).trans ho1
            have q7 := heap_setCell_at (k := 0) ho2 (.int .i64 (BY - s.hi))
            exact hI2.next ((((Same.of_below (fun k => k = w3.heap.size) HX.out.1).setCell (p := ⟨V3.heap.size,0,none⟩) (.inr hszn) _).setCell (p := ⟨V3.heap.size,1,none⟩) (.inr hszn) _).setCell (p := ⟨w3.heap.size,0,none⟩) (.inl rfl) _) (by rw [HUN.out]; exact q7) (Nat.le_refl _) htbl (by omega) (by omega) (by omega) (by omega)
      case hdone =>
        intro W C hI _ hdef
        obtain ⟨U,hU⟩ : ∃ U : Int,U = t.untilA o o.length := ⟨_,rfl⟩
        have hF := H2.out.2.2.2.2.1
        have hUb := until_low hF H2.out.2.2.2.2.2.1 o.length (Nat.le_refl _)
        rw [← hU] at hUb
        have hD := hF.dawn
        have hTP : TourP W tb t A := ⟨hI.tob,H0.out.1.mono hI.below⟩
        obtain ⟨c0,_,_,_,_,_⟩ := hTP.cells
        have c6 : W.cell? ⟨w2.heap.size,0,none⟩ = some (.pointer (some ⟨tb,0,none⟩)) := by rw [cell_of_heap hI.box]; rfl
        have c7 : W.cell? ⟨w3.heap.size,0,none⟩ = some (.int .i64 U) := by rw [cell_of_heap hI.c7,hU]; rfl
        have HI := Lib.hid (And.intro hI hdef)
        have HWU : Hid (laterE t o = (min U 1440 - t.dawn,0)) := by rw [Hid,HW.out,hU]
        have z0 := fun y : Aft W.heap.size W => cell_stays y.h c0
        have z1 := fun y : Aft W.heap.size W => cell_stays y.h c6
        have z2 := fun y : Aft W.heap.size W => cell_stays y.h c7
        clear hF hTP c0 c6 c7 hI hdef hU
        go_upto_region 15 with fail
        refine wp_region_aft_tail 8 mixed (by kernel_rfl) ?_
        simp only [List.take_succ_cons,List.take_zero,List.drop_succ_cons,List.drop_zero]
        repeat (go_big_quiet_step (fail))
        refine wpQuiet_nil ?_
        rintro _ ⟨z,rfl⟩
        have hzb := z.h
        revert hzb
        generalize z.v = V
        intro hzb
        clear z0 z1 z2
        have h2 := (hzb.block _ (heap_lt HI.out.1.c2)).trans HI.out.1.c2
        have e2 : V.cell? ⟨w.heap.size + 2,0,none⟩ = some (.int .i64 0) := by rw [cell_of_heap h2]; rfl
        have f2 : V.frozen? ⟨w.heap.size + 2,0,none⟩ = false := frozen_of_heap h2
        have HV := Lib.hid (And.intro h2 (And.intro ((hzb.block _ (heap_lt HI.out.2)).trans HI.out.2) (HI.out.1.below.trans (hzb.mono HI.out.1.below.size))))
        have HWV : Hid (laterE t o = (U - t.dawn,0)) := by rw [Hid,HWU.out]; congr 1; omega
        clear hzb h2
        go_wp2_with fail
        obtain ⟨g2,g5,gb⟩ := HV.out
        have d2 := heap_setCell_at (k := 0) g2 (.int .i64 0)
        have e5 := (Below.heap_setCell V ⟨w.heap.size + 2,0,none⟩ (.int .i64 0) W5.heap.size (by show W5.heap.size ≠ w.heap.size + 2; omega)).trans g5
        have hBW := gb.setCell (p := ⟨w.heap.size + 2,0,none⟩) (by show w.heap.size ≤ w.heap.size + 2; omega) (.int .i64 0)
        clear g2 g5 gb e2 f2
        revert d2 e5 hBW
        generalize V.setCell ⟨w.heap.size + 2,0,none⟩ (.int .i64 0) = X
        intro d2 e5 hBW
        have hput : Below w.heap.size w (X.putObj W5.heap.size (.deferred none)) :=
          (((Same.of_below (fun q => w.heap.size ≤ q) hBW).putObj (.inl (by omega)) _).below (Nat.le_refl _) (fun q hq h => by omega))
        have g2 := (World.putObj_heap_other (w := X) (o := .deferred none) (show w.heap.size + 2 ≠ W5.heap.size by omega)).trans d2
        refine ⟨[W5.heap.size],_,rfl,by simp,_,run_takeDeferred e5,leaves_ok (recov61_ok _ _) HCF.out (res_tc rfl _ rfl (by rw [cell_of_heap g2]; rfl)) ⟨?_,hput⟩⟩
        rw [HWV.out]; rfl
      case hstop =>
        rintro c i W C _ h
        exact h.elim
  · have hW : laterE t o = (0,openE t (t.order o)) := by unfold laterE; rw [if_neg hE]
    refine (open_no (g := 62) (cp := #[.pointer (some ⟨w.heap.size + 1,0,none⟩)]) ht1 hs hE cf62 (fun hv tb W hP hbW => order62 hP (fit_of_valid hv).n hol (ha1.mono hbW) (cell_stays hbW hob))).mono ?_
    rintro e w2 ⟨rfl,hb2⟩
    have he2 := (hb2.block (w.heap.size + 2) (by omega)).trans q2
    have hc2 : w2.cell? ⟨w.heap.size + 2,0,none⟩ = some (.int .i64 0) := by rw [cell_of_heap he2]; rfl
    have hb3 : Below w.heap.size w ((w2.alloc (.cells #[.int .i64 (openE t (t.order o))] 106)).setCell ⟨w.heap.size + 2,0,none⟩ (.int .i64 (openE t (t.order o)))) := by
      have h2 := hb1.trans (hb2.mono (by omega))
      exact (h2.alloc h2.size _).setCell (by simp) _
    have hcell := World.cell?_setCell_same (w2.alloc (.cells #[.int .i64 (openE t (t.order o))] 106)) ⟨w.heap.size + 2,0,none⟩ (.int .i64 (openE t (t.order o))) (cell_stays ((Below.refl _ w2).alloc (Nat.le_refl _) _) hc2)
    refine ⟨[],_,rfl,leaves_no (recov61_no (openE t (t.order o)) hc2 (frozen_of_heap he2)) rfl HCF.out (res_tc rfl _ rfl hcell) ⟨?_,hb3⟩⟩
    rw [hW]
    rfl
end Go.Proofs.Ytphefhpmbahagaa
