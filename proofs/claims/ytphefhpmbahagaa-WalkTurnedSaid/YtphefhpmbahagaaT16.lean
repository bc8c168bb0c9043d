/- A tour that is opened. Walked. Times: its drawn region. Times: what is gathered. -/
import Derived.Test.YtphefhpmbahagaaT12
import Derived.Maps.AppendAt
namespace Go.Proofs.Ytphefhpmbahagaa
open Go.RowKit
set_option linter.unusedVariables false
set_option linter.unusedSimpArgs false

set_option maxRecDepth 100000 in
set_option maxHeartbeats 1000000 in
theorem open_yes {t : Tr} {A : TrA} {g : Nat} {cp : Array Value} {w : World} (ha : IsTr w t A) (hs : t.Small) (hv : t.valid = true) (eg : ∀ args w,(callFunc g args).run Try.prog w = .ok (.enter g args) w)
    (hc : ∀ (tb : Nat) (W : World),TourP W tb t A → Below w.heap.size w W → Calls Try.prog g (#[.pointer (some ⟨tb,0,none⟩)] ++ cp) W fun e w' => e = .returned (.bool true) ∧ Below W.heap.size W w') :
    Calls Try.prog 46 #[t.v A,.func (.func g) #[] cp] w fun e w' => ∃ tb,e = .returned (.pointer (some ⟨tb,0,none⟩)) ∧ w.heap.size ≤ tb ∧ TourP w' tb t A ∧ Below w.heap.size w w' := by
  have hb : Below w.heap.size w (w.alloc (.cells (t.cells A) 25)) := (Below.refl _ w).alloc (Nat.le_refl _) _
  have hq := World.alloc_heap_new w (.cells (t.cells A) 25)
  have HB := Lib.hid (And.intro hb (And.intro hq (And.intro (ha.mono hb) hs)))
  have HC := Lib.hid hc
  clear hb hq ha hc hs
  go_enter Try.func46,Try.ntmps46
  go_upto_region 1 with fail
  obtain ⟨hb,hq,ha,hs⟩ := HB.out
  revert hb hq ha
  generalize (w.alloc (.cells (t.cells A) 25)) = w1
  intro hb hq ha
  obtain ⟨k0,k1,k2,k3,k4⟩ := tr_cells hq
  go_wp2_with fail
  refine (isTour79 ha hs).mono ?_
  rintro e w2 ⟨rfl,hb2⟩
  have hB2 := bst hb hb2 (Nat.le_refl _)
  have hq2 := (hb2.block _ (heap_lt hq)).trans hq
  have ha2 := ha.mono hb2
  clear k0 k1 k2 k3 k4 ha
  rw [hv]
  obtain ⟨k0,k1,k2,k3,k4⟩ := tr_cells hq2
  have hb3 : Below w2.heap.size w2 (w2.alloc (.cells (t.obj A) 91)) := (Below.refl _ w2).alloc (Nat.le_refl _) _
  have q3 := World.alloc_heap_new w2 (.cells (t.obj A) 91)
  have hB3 := hB2.trans (hb3.mono hB2.size)
  have hcall := HC.out _ _ ⟨q3,ha2.mono hb3⟩ hB3
  have HF := Lib.hid (And.intro hcall (And.intro hB3 (And.intro hB2.size (And.intro q3 (ha2.mono hb3)))))
  clear hb3 q3 hB3 hcall ha2
  go_wp2_with (go_at_call 63; refine (need_yes _ _).mono ?_; rintro e w' ⟨rfl,rfl⟩)
  refine HF.out.1.mono ?_
  rintro e w4 ⟨rfl,hb4⟩
  go_wp2_with (go_at_call 63; refine (need_yes _ _).mono ?_; rintro e w' ⟨rfl,rfl⟩)
  go_ret
  exact ⟨_,rfl,HF.out.2.2.1,⟨(hb4.block _ (heap_lt HF.out.2.2.2.1)).trans HF.out.2.2.2.1,HF.out.2.2.2.2.mono hb4⟩,HF.out.2.1.trans (hb4.mono HF.out.2.1.size)⟩
set_option maxRecDepth 100000 in
set_option maxHeartbeats 1000000 in
theorem open_no {t : Tr} {A : TrA} {g : Nat} {cp : Array Value} {w : World} (ha : IsTr w t A) (hs : t.Small) {ok : Bool} (hv : openE t ok ≠ 0) (eg : ∀ args w,(callFunc g args).run Try.prog w = .ok (.enter g args) w)
    (hc : t.valid = true → ∀ (tb : Nat) (W : World),TourP W tb t A → Below w.heap.size w W → Calls Try.prog g (#[.pointer (some ⟨tb,0,none⟩)] ++ cp) W fun e w' => e = .returned (.bool ok) ∧ Below W.heap.size W w') :
    Calls Try.prog 46 #[t.v A,.func (.func g) #[] cp] w fun e w' => e = .panicked [{ v := .iface 106 (.agg #[.int .i64 (openE t ok)]),recovered := false }] ∧ Below w.heap.size w w' := by
  have HV := Lib.hid hv
  clear hv
  have hb : Below w.heap.size w (w.alloc (.cells (t.cells A) 25)) := (Below.refl _ w).alloc (Nat.le_refl _) _
  have hq := World.alloc_heap_new w (.cells (t.cells A) 25)
  have HB := Lib.hid (And.intro hb (And.intro hq (And.intro (ha.mono hb) hs)))
  have HC := Lib.hid hc
  clear hb hq ha hc hs
  go_enter Try.func46,Try.ntmps46
  go_upto_region 1 with fail
  obtain ⟨hb,hq,ha,hs⟩ := HB.out
  revert hb hq ha
  generalize (w.alloc (.cells (t.cells A) 25)) = w1
  intro hb hq ha
  obtain ⟨k0,k1,k2,k3,k4⟩ := tr_cells hq
  go_wp2_with fail
  refine (isTour79 ha hs).mono ?_
  rintro e w2 ⟨rfl,hb2⟩
  have hB2 := bst hb hb2 (Nat.le_refl _)
  have hq2 := (hb2.block _ (heap_lt hq)).trans hq
  have ha2 := ha.mono hb2
  clear k0 k1 k2 k3 k4 ha
  cases hv : t.valid
  · have HE : Hid (openE t ok = 1) := by unfold Hid openE; rw [hv]; rfl
    go_wp2_with (go_at_call 63; refine (need_no _ _).mono ?_; rintro e w' ⟨rfl,rfl⟩)
    rw [HE.out]
    exact ⟨rfl,rfl,hB2⟩
  · have HC := Lib.hid (HC.out hv)
    cases ok with
    | true => exact (HV.out (by unfold openE; rw [hv]; rfl)).elim
    | false =>
      have HE : Hid (openE t false = 2) := by unfold Hid openE; rw [hv]; rfl
      obtain ⟨k0,k1,k2,k3,k4⟩ := tr_cells hq2
      have hb3 : Below w2.heap.size w2 (w2.alloc (.cells (t.obj A) 91)) := (Below.refl _ w2).alloc (Nat.le_refl _) _
      have q3 := World.alloc_heap_new w2 (.cells (t.obj A) 91)
      have hB3 := hB2.trans (hb3.mono hB2.size)
      have hcall := HC.out _ _ ⟨q3,ha2.mono hb3⟩ hB3
      have HF := Lib.hid (And.intro hcall (And.intro hB3 (And.intro hB2.size (And.intro q3 (ha2.mono hb3)))))
      clear hb3 q3 hB3 hcall ha2
      go_wp2_with (go_at_call 63; refine (need_yes _ _).mono ?_; rintro e w' ⟨rfl,rfl⟩)
      refine HF.out.1.mono ?_
      rintro e w4 ⟨rfl,hb4⟩
      go_wp2_with (go_at_call 63; refine (need_no _ _).mono ?_; rintro e w' ⟨rfl,rfl⟩)
      rw [HE.out]
      exact ⟨rfl,rfl,HF.out.2.1.trans (hb4.mono HF.out.2.1.size)⟩
end Go.Proofs.Ytphefhpmbahagaa

namespace Go.Proofs.Ytphefhpmbahagaa
open Go.RowKit
set_option linter.unusedVariables false
set_option linter.unusedSimpArgs false

theorem res_tc {fn : Func} {q p : Tmp} (h : fn.results = #[.tmp q,.cell p 29]) (tmps : Array Value) {w : World} {a : Nat} {x : Value} (hp : tmps.getD p undef = .pointer (some ⟨a,0,none⟩)) (hx : w.cell? ⟨a,0,none⟩ = some x) :
    (results fn tmps).run Try.prog w = .ok (.tuple #[tmps.getD q undef,x]) w := by
  have hp' : tmps[p]?.getD undef = .pointer (some ⟨a,0,none⟩) := by simpa using hp
  simp [results,h,hp',hx,go_sem]
theorem order_view {t : Tr} {o : List Int} (h : t.order o = true) : ∀ x ∈ o,t.view x = true := by
  unfold Tr.order at h
  simp only [Bool.and_eq_true,List.all_eq_true] at h
  exact h.1
theorem openE_zero {t : Tr} {ok : Bool} (h : openE t ok = 0) : t.valid = true ∧ ok = true := by
  unfold openE at h
  cases hv : t.valid <;> cases ok <;> simp_all
set_option maxRecDepth 100000 in
set_option maxHeartbeats 4000000 in
theorem walked14 {t : Tr} {A : TrA} {w : World} (ht : IsTr w t A) (hs : t.Small) {o : List Int} (hol : o.length ≤ 16) {a : Option Addr} {cap : Nat} (ha : IsInts w a o) :
    Calls Try.prog 14 #[t.v A,.slice a o.length cap] w fun e w' => e = .returned (.tuple #[.int .i64 (walkedE t o).1,.int .i64 (walkedE t o).2]) ∧ Below w.heap.size w w' := by
  have hmf : ∀ (fn : Fn) (first cap : Array Value) (w : World),(Instr.makeFunc fn first cap).run Try.prog w = .ok (.func fn first cap) w := fun _ _ _ _ => rfl
  have HCF := Lib.hid cf44
  refine calls_of_wp_x Try.func14 rfl ?_
  simp only [Try.ntmps14,List.size_toArray,List.length_cons,List.length_nil,Nat.reduceAdd,Nat.reduceSub,Array.replicate_succ,Array.replicate_zero,List.push_toArray,List.append_toArray,List.nil_append,List.cons_append]
  go_wp2_with fail
  obtain ⟨W1,hW1⟩ : ∃ W1 : World,W1 = ((w.alloc (.cells (t.cells A) 25)).alloc (.cells #[.slice a o.length cap] 26)).alloc (.cells #[.int .i64 0] 29) := ⟨_,rfl⟩
  obtain ⟨q0,q1,hz,hb⟩ := heap2 w (.cells (t.cells A) 25) (.cells #[.slice a o.length cap] 26)
  have hbb : Below ((w.alloc (.cells (t.cells A) 25)).alloc (.cells #[.slice a o.length cap] 26)).heap.size ((w.alloc (.cells (t.cells A) 25)).alloc (.cells #[.slice a o.length cap] 26)) W1 := by rw [hW1]; exact (Below.refl _ _).alloc (Nat.le_refl _) _
  have hb1 : Below w.heap.size w W1 := hb.trans (hbb.mono (by omega))
  have hz1 : W1.heap.size = w.heap.size + 3 := by rw [hW1]; simp
  have q1 := (hbb.block _ (heap_lt q1)).trans q1
  have q2 : W1.heap[w.heap.size + 2]? = some (.cells #[.int .i64 0] 29 (0,0)) := by
    rw [hW1,← hz]; exact World.alloc_heap_new _ _
  have hob : W1.cell? ⟨w.heap.size + 1,0,none⟩ = some (.slice a o.length cap) := by rw [cell_of_heap q1]; rfl
  have ht1 := ht.mono hb1
  have ha1 := ha.mono hb1
  rw [← hW1]
  clear hW1 hb hbb hz q0
  by_cases hE : openE t (t.order o) = 0
  · obtain ⟨hv,hor⟩ := openE_zero hE
    have hF := fit_of_valid hv
    refine (open_yes (g := 47) (cp := #[.pointer (some ⟨w.heap.size + 1,0,none⟩)]) ht1 hs hv cf47 (fun tb W hP hbW => ?_)).mono ?_
    · have := order47 hP hF.n hol (ha1.mono hbW) (cell_stays hbW hob)
      rw [hor] at this
      exact this
    rintro e w2 ⟨tb,rfl,htb,hP,hb2⟩
    have hB2 := hb1.trans (hb2.mono (by omega))
    have hz2 := hb2.size
    have q1' := (hb2.block _ (heap_lt q1)).trans q1
    have q2' := (hb2.block _ (heap_lt q2)).trans q2
    have c1 : w2.cell? ⟨w.heap.size + 1,0,none⟩ = some (.slice a o.length cap) := by rw [cell_of_heap q1']; rfl
    have HI := Lib.hid (is49_74 (cap := cap) hP hF hol (order_view hor) (ha1.mono hb2))
    have H2 := Lib.hid (And.intro hB2 (And.intro (And.intro q1' q2') (And.intro hP (And.intro hF (And.intro (order_view hor) (And.intro (ha1.mono hb2) (And.intro hE (show w.heap.size + 3 ≤ w2.heap.size by omega))))))))
    clear hb1 hz1 q1 q2 hob ht1 ha1 ht ha hs hv hor hF htb hP hb2 hB2 hz2 q1' q2' hE
    go_wp2_with fail
    refine HI.out.mono ?_
    rintro e w3 ⟨rfl,hb3⟩
    have q3 := (hb3.block _ (heap_lt H2.out.2.1.2)).trans H2.out.2.1.2
    have e3 : w3.cell? ⟨w.heap.size + 2,0,none⟩ = some (.int .i64 0) := by rw [cell_of_heap q3]; rfl
    have f3 : w3.frozen? ⟨w.heap.size + 2,0,none⟩ = false := frozen_of_heap q3
    have HB3 := Lib.hid (And.intro (H2.out.1.trans (hb3.mono H2.out.1.size)) hb3)
    cases h1 : t.is true o
    · have c3 := cell_stays hb3 c1
      have HI3 := Lib.hid (is49_75 (cap := cap) (H2.out.2.2.1.mono hb3) H2.out.2.2.2.1 hol H2.out.2.2.2.2.1 (H2.out.2.2.2.2.2.1.mono hb3))
      have HW : Hid (walkedE t o = (if t.is false o then 1 else 0,0)) := by unfold Hid walkedE; rw [if_pos H2.out.2.2.2.2.2.2.1,h1]; rfl
      clear hb3 h1 c1 e3 f3 HI
      go_wp2_with fail
      refine HI3.out.mono ?_
      rintro e w4 ⟨rfl,hb4⟩
      have q4 := (hb4.block _ (heap_lt q3)).trans q3
      have e4 : w4.cell? ⟨w.heap.size + 2,0,none⟩ = some (.int .i64 0) := by rw [cell_of_heap q4]; rfl
      have f4 : w4.frozen? ⟨w.heap.size + 2,0,none⟩ = false := frozen_of_heap q4
      have HB4 := Lib.hid (HB3.out.1.trans (hb4.mono HB3.out.1.size))
      have hcell := World.cell?_setCell_same w4 ⟨w.heap.size + 2,0,none⟩ (.int .i64 0) e4
      have HCELL := Lib.hid hcell
      clear hb4 c3 hcell q3 q4
      cases h2 : t.is false o
      · go_wp2_with fail
        refine ⟨[],_,rfl,leaves_ok (recov44_ok _ _) HCF.out (res_tc rfl _ rfl HCELL.out) ⟨?_,HB4.out.setCell (by show w.heap.size ≤ w.heap.size + 2; omega) _⟩⟩
        rw [HW.out,h2]; rfl
      · go_wp2_with fail
        refine ⟨[],_,rfl,leaves_ok (recov44_ok _ _) HCF.out (res_tc rfl _ rfl HCELL.out) ⟨?_,HB4.out.setCell (by show w.heap.size ≤ w.heap.size + 2; omega) _⟩⟩
        rw [HW.out,h2]; rfl
    · have HW : Hid (walkedE t o = (2,0)) := by unfold Hid walkedE; rw [if_pos H2.out.2.2.2.2.2.2.1,h1]; rfl
      have hcell := World.cell?_setCell_same w3 ⟨w.heap.size + 2,0,none⟩ (.int .i64 0) e3
      have HCELL := Lib.hid hcell
      clear hb3 h1 c1 hcell q3
      go_wp2_with fail
      refine ⟨[],_,rfl,leaves_ok (recov44_ok _ _) HCF.out (res_tc rfl _ rfl HCELL.out) ⟨?_,HB3.out.1.setCell (by show w.heap.size ≤ w.heap.size + 2; omega) _⟩⟩
      rw [HW.out]; rfl
  · have hW : walkedE t o = (0,openE t (t.order o)) := by unfold walkedE; rw [if_neg hE]
    refine (open_no (g := 47) (cp := #[.pointer (some ⟨w.heap.size + 1,0,none⟩)]) ht1 hs hE cf47 (fun hv tb W hP hbW => order47 hP (fit_of_valid hv).n hol (ha1.mono hbW) (cell_stays hbW hob))).mono ?_
    rintro e w2 ⟨rfl,hb2⟩
    have he2 := (hb2.block (w.heap.size + 2) (by omega)).trans q2
    have hc2 : w2.cell? ⟨w.heap.size + 2,0,none⟩ = some (.int .i64 0) := by rw [cell_of_heap he2]; rfl
    have hb3 : Below w.heap.size w ((w2.alloc (.cells #[.int .i64 (openE t (t.order o))] 106)).setCell ⟨w.heap.size + 2,0,none⟩ (.int .i64 (openE t (t.order o)))) := by
      have h2 := hb1.trans (hb2.mono (by omega))
      exact (h2.alloc h2.size _).setCell (by simp) _
    have hcell := World.cell?_setCell_same (w2.alloc (.cells #[.int .i64 (openE t (t.order o))] 106)) ⟨w.heap.size + 2,0,none⟩ (.int .i64 (openE t (t.order o))) (cell_stays ((Below.refl _ w2).alloc (Nat.le_refl _) _) hc2)
    refine ⟨[],_,rfl,leaves_no (recov44_no (openE t (t.order o)) hc2 (frozen_of_heap he2)) rfl HCF.out (res_tc rfl _ rfl hcell) ⟨?_,hb3⟩⟩
    rw [hW]
    rfl
end Go.Proofs.Ytphefhpmbahagaa

namespace Go.Proofs.Ytphefhpmbahagaa
open Go.RowKit
set_option linter.unusedVariables false

structure tm7F (tb : Nat) (sb : Nat) (eb : Nat) (nb : Nat) (ra : Option Addr) (rm : Nat) (rc : Nat) (x : Int) (y : Int) (S0 : World → Prop) (S1 : Unit → World → Prop) (S2 : Unit → World → Prop) (S3 : Unit → World → Prop) (S4 : Unit → World → Prop) (d : Nat → Bool) (x29 x30 x31 : Value) (u : Unit) (w : World) : Prop where
  q2 : d 2 = true → d 1 = true
  q3 : d 3 = true → d 0 = true ∧ d 2 = true
  q4 : d 4 = true → d 0 = true ∧ d 1 = true ∧ d 2 = true ∧ d 3 = true
  q5 : d 5 = true → d 0 = true ∧ d 1 = true ∧ d 2 = true ∧ d 3 = true ∧ d 4 = true
  f0 : d 0 = true → x29 = .slice ra rm rc
  f1 : d 1 = true → x30 = .func (.func 84) #[] #[.pointer (some ⟨nb,0,none⟩)]
  f2 : d 2 = true → x31 = .agg #[.int .i64 x,.int .i64 y]
  st0 : d 2 = false → S0 w
  st1 : d 2 = true → d 3 = false → S1 u w
  st2 : d 3 = true → d 4 = false → S2 u w
  st3 : d 4 = true → d 5 = false → S3 u w
  st4 : d 5 = true → S4 u w
noncomputable def tm7C : Code := (Try.f16.body.bind (regionAt 7)).getD .skip
set_option maxRecDepth 100000 in
set_option maxHeartbeats 4000000 in
theorem tm7 {tb : Nat} {sb : Nat} {eb : Nat} {nb : Nat} {ra : Option Addr} {rm : Nat} {rc : Nat} {x : Int} {y : Int} {S0 : World → Prop} {S1 : Unit → World → Prop} {S2 : Unit → World → Prop} {S3 : Unit → World → Prop} {S4 : Unit → World → Prop} {Q : Exit → Act → World → Prop} {W1 : World} (h0 : S0 W1.drew)
    (kl0 : Hid (∀ (u : Unit) (w : World),(S0 w ∨ S1 u w) → w.cell? ⟨tb,0,none⟩ = some (.slice ra rm rc)))
    (kc2 : Hid (∀ (w : World),S0 w → Calls Try.prog 84 #[.pointer (some ⟨nb,0,none⟩)] w fun e w' => ∃ u : Unit,e = .returned (.agg #[.int .i64 x,.int .i64 y]) ∧ S1 u w'))
    (kc3 : Hid (∀ (u : Unit) (w : World),S1 u w → (∃ u,w.cell? ⟨tb,0,none⟩ = some u) ∧ w.frozen? ⟨tb,0,none⟩ = false ∧ S2 u (w.setCell ⟨tb,0,none⟩ (.slice ra rm rc))))
    (kc4 : Hid (∀ (u : Unit) (w : World),S2 u w → (∃ u,w.cell? ⟨sb,0,none⟩ = some u) ∧ w.frozen? ⟨sb,0,none⟩ = false ∧ (∃ u,w.cell? ⟨sb,1,none⟩ = some u) ∧ w.frozen? ⟨sb,1,none⟩ = false ∧ S3 u ((w.setCell ⟨sb,0,none⟩ (.int .i64 x)).setCell ⟨sb,1,none⟩ (.int .i64 y))))
    (kc5 : Hid (∀ (u : Unit) (w : World),S3 u w → (∃ u,w.cell? ⟨eb,0,none⟩ = some u) ∧ w.frozen? ⟨eb,0,none⟩ = false ∧ S4 u (w.setCell ⟨eb,0,none⟩ (.int .i64 0))))
    {s0 s1 s2 s3 s7 s8 s10 s11 s12 s13 s14 s15 s16 s17 s18 s19 s20 s21 s22 s23 s24 s25 s26 s27 s28 s29 s30 s31 : Value} {dd : List Deferred}
    (hQ : ∀ (u : Unit) (w' : World),S4 u w' → Q .normal { tmps := #[s0,s1,s2,s3,.pointer (some ⟨tb,0,none⟩),.pointer (some ⟨sb,0,none⟩),.pointer (some ⟨eb,0,none⟩),s7,s8,.func (.func 84) #[] #[.pointer (some ⟨nb,0,none⟩)],s10,s11,s12,s13,s14,s15,s16,s17,s18,s19,s20,s21,s22,s23,s24,s25,s26,s27,s28,.slice ra rm rc,.func (.func 84) #[] #[.pointer (some ⟨nb,0,none⟩)],.agg #[.int .i64 x,.int .i64 y]],defers := dd } w') :
    Code.wpIn (wideAt none) 0 Try.prog tm7C Q { tmps := #[s0,s1,s2,s3,.pointer (some ⟨tb,0,none⟩),.pointer (some ⟨sb,0,none⟩),.pointer (some ⟨eb,0,none⟩),s7,s8,.func (.func 84) #[] #[.pointer (some ⟨nb,0,none⟩)],s10,s11,s12,s13,s14,s15,s16,s17,s18,s19,s20,s21,s22,s23,s24,s25,s26,s27,s28,s29,s30,s31],defers := dd } W1 := by
  have HQ := Lib.hid hQ
  clear hQ
  conv => arg 4; whnf
  refine wpIn_region_invG mixed (by kernel_rfl) (fun d_ a_ w' => ∃ (x29 : Value) (x30 : Value) (x31 : Value) (u : Unit),a_ = { tmps := #[s0,s1,s2,s3,.pointer (some ⟨tb,0,none⟩),.pointer (some ⟨sb,0,none⟩),.pointer (some ⟨eb,0,none⟩),s7,s8,.func (.func 84) #[] #[.pointer (some ⟨nb,0,none⟩)],s10,s11,s12,s13,s14,s15,s16,s17,s18,s19,s20,s21,s22,s23,s24,s25,s26,s27,s28,x29,x30,x31],defers := dd } ∧ tm7F tb sb eb nb ra rm rc x y S0 S1 S2 S3 S4 d_ x29 x30 x31 u w') ?_ ?_ ?_
  · refine ⟨s29,s30,s31,default,rfl,?_⟩
    constructor <;> first | rfl | (intro _; rfl) | (intro h; cases h; done) | (intro _; exact h0) | exact h0
  · refine ⟨?_,?_,?_,?_,?_,?_,trivial⟩
    all_goals
      rintro d_ a_ w1 K hd_ hdep ⟨x29,x30,x31,u,rfl,F⟩ HK
      simp [Region.binds] at hdep
    · have hst : S0 w1 ∨ S1 u w1 := by
        cases e1 : d_ 2 with
        | false => exact .inl ((F.st0 e1))
        | true =>
          have n_ : d_ 3 = false := by
            cases e_ : d_ 3 with
            | false => rfl
            | true => have h2 := (F.q3 e_).1; rw [show d_ 0 = false from hd_] at h2; cases h2
          exact .inr ((F.st1 e1 n_))
      have kk := kl0.out u w1 hst
      clear hst
      have HF : Hid (tm7F tb sb eb nb ra rm rc x y S0 S1 S2 S3 S4 (upd d_ 0) (.slice ra rm rc) x30 x31 u w1) := ⟨F.q2,fun h => ⟨rfl,(F.q3 h).2⟩,fun h => ⟨rfl,(F.q4 h).2.1,(F.q4 h).2.2.1,(F.q4 h).2.2.2⟩,fun h => ⟨rfl,(F.q5 h).2.1,(F.q5 h).2.2.1,(F.q5 h).2.2.2.1,(F.q5 h).2.2.2.2⟩,fun _ => rfl,F.f1,F.f2,F.st0,F.st1,F.st2,F.st3,F.st4⟩
      clear F
      go_simp
      exact HK.out _ _ ⟨_,_,_,_,rfl,HF.out⟩
    · have HF : Hid (tm7F tb sb eb nb ra rm rc x y S0 S1 S2 S3 S4 (upd d_ 1) x29 (.func (.func 84) #[] #[.pointer (some ⟨nb,0,none⟩)]) x31 u w1) := ⟨fun h => rfl,F.q3,fun h => ⟨(F.q4 h).1,rfl,(F.q4 h).2.2.1,(F.q4 h).2.2.2⟩,fun h => ⟨(F.q5 h).1,rfl,(F.q5 h).2.2.1,(F.q5 h).2.2.2.1,(F.q5 h).2.2.2.2⟩,F.f0,fun _ => rfl,F.f2,F.st0,F.st1,F.st2,F.st3,F.st4⟩
      clear F
      go_simp
      exact HK.out _ _ ⟨_,_,_,_,rfl,HF.out⟩
    · have hS := F.st0  hd_
      obtain rfl := F.f1 (by simp [hdep])
      have hc := kc2.out w1 hS
      have HF := Lib.hid F
      clear F
      go_simp
      refine ⟨trivial,rfl,wideAt_calls (hc.mono ?_)⟩
      rintro e w5 ⟨v_,rfl,hres⟩
      exact HK.out _ _ ⟨_,_,_,v_,rfl,⟨fun _ => (show _ from (by simp [hdep] : d_ 1 = true)),fun h => ⟨(HF.out.q3 h).1,rfl⟩,fun h => ⟨(HF.out.q4 h).1,(HF.out.q4 h).2.1,rfl,(HF.out.q4 h).2.2.2⟩,fun h => ⟨(HF.out.q5 h).1,(HF.out.q5 h).2.1,rfl,(HF.out.q5 h).2.2.2.1,(HF.out.q5 h).2.2.2.2⟩,HF.out.f0,HF.out.f1,fun _ => rfl,fun h => (by simp [upd] at h),fun _ _ => hres,fun h _ => (by have h2 : d_ 2 = true := (HF.out.q3 h).2; rw [show d_ 2 = false from hd_] at h2; cases h2),fun h _ => (by have h2 : d_ 2 = true := (HF.out.q4 h).2.2.1; rw [show d_ 2 = false from hd_] at h2; cases h2),fun h => (by have h2 : d_ 2 = true := (HF.out.q5 h).2.2.1; rw [show d_ 2 = false from hd_] at h2; cases h2)⟩⟩
    · have hS := F.st1 (by simp [hdep] : d_ 2 = true) hd_
      obtain rfl := F.f0 (by simp [hdep])
      obtain ⟨⟨ku0,kcell0⟩,kfr0,hres⟩ := kc3.out u w1 hS
      have HF : Hid (tm7F tb sb eb nb ra rm rc x y S0 S1 S2 S3 S4 (upd d_ 3) (.slice ra rm rc) x30 x31 u (w1.setCell ⟨tb,0,none⟩ (.slice ra rm rc))) := ⟨F.q2,fun _ => ⟨(show _ from (by simp [hdep] : d_ 0 = true)),(show _ from (by simp [hdep] : d_ 2 = true))⟩,fun h => ⟨(F.q4 h).1,(F.q4 h).2.1,(F.q4 h).2.2.1,rfl⟩,fun h => ⟨(F.q5 h).1,(F.q5 h).2.1,(F.q5 h).2.2.1,rfl,(F.q5 h).2.2.2.2⟩,F.f0,F.f1,F.f2,fun h => (by have h2 : d_ 2 = false := h; rw [(by simp [hdep] : d_ 2 = true)] at h2; cases h2),fun _ h => (by simp [upd] at h),fun _ _ => hres,fun h _ => (by have h2 : d_ 3 = true := (F.q4 h).2.2.2; rw [show d_ 3 = false from hd_] at h2; cases h2),fun h => (by have h2 : d_ 3 = true := (F.q5 h).2.2.2.1; rw [show d_ 3 = false from hd_] at h2; cases h2)⟩
      clear F hS hres
      go_simp
      exact HK.out _ _ ⟨_,_,_,_,rfl,HF.out⟩
    · have hS := F.st2 (by simp [hdep] : d_ 3 = true) hd_
      obtain rfl := F.f2 (by simp [hdep])
      obtain ⟨⟨ku0,kcell0⟩,kfr0,⟨ku1,kcell1⟩,kfr1,hres⟩ := kc4.out u w1 hS
      have HF : Hid (tm7F tb sb eb nb ra rm rc x y S0 S1 S2 S3 S4 (upd d_ 4) x29 x30 (.agg #[.int .i64 x,.int .i64 y]) u ((w1.setCell ⟨sb,0,none⟩ (.int .i64 x)).setCell ⟨sb,1,none⟩ (.int .i64 y))) := ⟨F.q2,F.q3,fun _ => ⟨(show _ from (by simp [hdep] : d_ 0 = true)),(show _ from (by simp [hdep] : d_ 1 = true)),(show _ from (by simp [hdep] : d_ 2 = true)),(show _ from (by simp [hdep] : d_ 3 = true))⟩,fun h => ⟨(F.q5 h).1,(F.q5 h).2.1,(F.q5 h).2.2.1,(F.q5 h).2.2.2.1,rfl⟩,F.f0,F.f1,F.f2,fun h => (by have h2 : d_ 2 = false := h; rw [(by simp [hdep] : d_ 2 = true)] at h2; cases h2),fun _ h => (by have h2 : d_ 3 = false := h; rw [(by simp [hdep] : d_ 3 = true)] at h2; cases h2),fun _ h => (by simp [upd] at h),fun _ _ => hres,fun h => (by have h2 : d_ 4 = true := (F.q5 h).2.2.2.2; rw [show d_ 4 = false from hd_] at h2; cases h2)⟩
      clear F hS hres
      go_simp
      exact HK.out _ _ ⟨_,_,_,_,rfl,HF.out⟩
    · have hS := F.st3 (by simp [hdep] : d_ 4 = true) hd_
      obtain ⟨⟨ku0,kcell0⟩,kfr0,hres⟩ := kc5.out u w1 hS
      have HF : Hid (tm7F tb sb eb nb ra rm rc x y S0 S1 S2 S3 S4 (upd d_ 5) x29 x30 x31 u (w1.setCell ⟨eb,0,none⟩ (.int .i64 0))) := ⟨F.q2,F.q3,F.q4,fun _ => ⟨(show _ from (by simp [hdep] : d_ 0 = true)),(show _ from (by simp [hdep] : d_ 1 = true)),(show _ from (by simp [hdep] : d_ 2 = true)),(show _ from (by simp [hdep] : d_ 3 = true)),(show _ from (by simp [hdep] : d_ 4 = true))⟩,F.f0,F.f1,F.f2,fun h => (by have h2 : d_ 2 = false := h; rw [(by simp [hdep] : d_ 2 = true)] at h2; cases h2),fun _ h => (by have h2 : d_ 3 = false := h; rw [(by simp [hdep] : d_ 3 = true)] at h2; cases h2),fun _ h => (by have h2 : d_ 4 = false := h; rw [(by simp [hdep] : d_ 4 = true)] at h2; cases h2),fun _ h => (by simp [upd] at h),fun _ => hres⟩
      clear F hS hres
      go_simp
      exact HK.out _ _ ⟨_,_,_,_,rfl,HF.out⟩
  · rintro d_ a_ w1 hall ⟨x29,x30,x31,u,rfl,F⟩
    have hall' : ∀ k,k < 6 → d_ k = true := hall
    obtain rfl := F.f0 (hall' 0 (by decide))
    obtain rfl := F.f1 (hall' 1 (by decide))
    obtain rfl := F.f2 (hall' 2 (by decide))
    have hst := F.st4 (hall' 5 (by decide))
    exact HQ.out u w1 hst

end Go.Proofs.Ytphefhpmbahagaa

namespace Go.Proofs.Ytphefhpmbahagaa
open Go.RowKit
set_option linter.unusedVariables false
set_option linter.unusedSimpArgs false

theorem wpListIn_append_run {P : Program} {l n : Nat} {w : World} {ops : Array Oper} {rest : List Oper} {o : Oper} {a : Act} {Q : Exit → Act → World → Prop} (hgd : o.guard = none) (s x : Operand) (t : TypeId)
    (ho : o.op = .call { callee := .builtin .append,args := #[s,x],argTypes := #[t,t] }) (v xv v' : Value) (w' : World) (hs : a.eval s = v) (hx : a.eval x = xv)
    (hr : (Builtin.append_ #[t,t] o.type #[v,xv]).run P w = .ok v' w') (h : wpListIn (Fence.wide.inRound l) n P ops Q rest (a.put o.dst v') w') : wpListIn (Fence.wide.inRound l) n P ops Q (o :: rest) a w := by
  unfold wpListIn
  rw [if_pos (by simp [Region.wanted,hgd])]
  refine ⟨fun _ _ => trivial,?_⟩
  have e : o.semAt (Fence.wide.inRound l).round a.eval = execOp a.eval o := Oper.semAt_some _ _ _ (fun c hc => by rw [ho] at hc; cases hc)
  rw [e]
  unfold execOp
  simp only [ho,resolve,invoke,builtin,Sem.run_bind,Sem.run_pure,Result.andThen_ok,List.map_toArray,List.map_cons,List.map_nil,hs,hx,hr]
  exact h
theorem infoSp : (Try.prog.info? 33).map (fun i => (i.zero,i.size,i.bytes)) = some (some (.agg #[.int .i64 0,.int .i64 0]),2,16) := by kernel_rfl
theorem info_parts2 {t : TypeId} {z : Value} {n m : Nat} (h : (Try.prog.info? t).map (fun i => (i.zero,i.size,i.bytes)) = some (some z,n,m)) : ∃ i,Try.prog.info? t = some i ∧ i.zero = some z ∧ i.size = n ∧ i.bytes = m := by
  cases hi : Try.prog.info? t with
  | none => rw [hi] at h; cases h
  | some i => rw [hi] at h; simp at h; exact ⟨i,rfl,h.1,h.2.1,h.2.2⟩
/-- The minutes of steps,as cells. -/
def minV (l : List (Int × Int × Int)) : List Value := l.flatMap fun x => [.int .i64 x.2.1,.int .i64 x.2.2]
theorem minV_add (l : List (Int × Int × Int)) (x : Int × Int × Int) : minV (l ++ [x]) = minV l ++ [.int .i64 x.2.1,.int .i64 x.2.2] := by simp [minV]
theorem minV_at : ∀ {l : List (Int × Int × Int)} {i : Nat} {x : Int × Int × Int},l[i]? = some x → (minV l)[i * 2]? = some (.int .i64 x.2.1) ∧ (minV l)[i * 2 + 1]? = some (.int .i64 x.2.2)
  | [],i,x,h => by simp at h
  | y :: r,0,x,h => by simp at h; subst h; simp [minV]
  | y :: r,i + 1,x,h => by
    have := minV_at (l := r) (i := i) (x := x) (by simpa using h)
    have e : minV (y :: r) = .int .i64 y.2.1 :: .int .i64 y.2.2 :: minV r := by simp [minV]
    rw [e,show (i + 1) * 2 = i * 2 + 2 by omega]
    simpa using this
/-- Times. -/
def Tr.times (t : Tr) (o : List Int) : List Spn := (t.steps (-1) (t.dawn,t.dawn) o).map fun x => ⟨x.2.1,x.2.2⟩
theorem own_spans {w : World} {B : Nat} {a : Option Addr} {cap n : Nat} {l : List (Int × Int × Int)} (h : w.ownsRow B 33 2 (.slice a n cap) n (minV l)) (hn : n = l.length) : IsSpns w a (l.map fun x => ⟨x.2.1,x.2.2⟩) := fun i hi => by
  have hi : i < l.length := by simpa using hi
  obtain ⟨x,hx⟩ : ∃ x,l[i]? = some x := ⟨l[i],by simp [hi]⟩
  obtain ⟨g,c,e,_,_,_,_,hc⟩ := own_cell h (by omega)
  cases e
  have hg : gs (l.map fun x => (⟨x.2.1,x.2.2⟩ : Spn)) i = ⟨x.2.1,x.2.2⟩ := by simp [gs,hx]
  rw [hg]
  refine ⟨g,0,rfl,?_,?_⟩
  · rw [Nat.zero_add]; exact hc _ _ (minV_at hx).1
  · rw [Nat.zero_add]; exact hc _ _ (minV_at hx).2
structure TimI (w0 : World) (t : Tr) (o : List Int) (b nb L i : Nat) (A : World) (C : Nat → Prop) : Prop where
  below : Below w0.heap.size w0 A
  row : ∃ v,A.heap[b + 2]? = some (.cells #[v] 22 (0,0)) ∧ A.ownsRow L 33 2 v i (minV ((t.steps (-1) (t.dawn,t.dawn) o).take i)) ∧ ∀ g,v.ownBlock = some g → C g
  sum : A.heap[b + 3]? = some (.cells #[.int .i64 0,.int .i64 0] 33 (0,0))
  err : A.heap[b + 4]? = some (.cells #[.int .i64 0] 29 (0,0))
  mine : ∀ k,k < L → k ≠ nb → C k
theorem TimI.stable {w0 : World} {t : Tr} {o : List Int} {b nb L i lb : Nat} {A B : World} {C : Nat → Prop} (h : TimI w0 t o b nb L i A C) (hs : Same (fun k => ¬ C k ∨ k = lb) A B) (hw : w0.heap.size ≤ b) (hn : b + 4 < nb) (hl : nb < lb) (hl2 : lb < L) : TimI w0 t o b nb L i B C := by
  obtain ⟨h1,⟨v,h2,h3,h4⟩,h5,h6,h7⟩ := h
  have hb : ∀ k,k < nb → ¬ (¬ C k ∨ k = lb) := fun k hk e => e.elim (fun e => e (h7 k (by omega) (by omega))) (fun e => by omega)
  exact ⟨h1.trans (hs.below h1.size (fun k hk => hb k (by omega))),⟨v,(hs.block _ (heap_lt h2) (hb _ (by omega))).trans h2,own_blocks h3 (fun g hg => hs.block g (h3.lt g hg).2 (fun e => e.elim (fun e => e (h4 g hg)) (fun e => by have := (h3.lt g hg).1; omega))),h4⟩,
    (hs.block _ (heap_lt h5) (hb _ (by omega))).trans h5,(hs.block _ (heap_lt h6) (hb _ (by omega))).trans h6,h7⟩
theorem TimI.more {w0 : World} {t : Tr} {o : List Int} {b nb L i lb : Nat} {V : World} {C : Nat → Prop} {x px py : Int} (h : TimI w0 t o b nb L i V C) (hx : (t.steps (-1) (t.dawn,t.dawn) o)[i]? = some (x,px,py)) (hi : i ≤ 1000000) (hw : w0.heap.size ≤ b) (hn : b + 4 < nb) (hl : nb < lb) (hl2 : lb < L) (hLV : L ≤ V.heap.size) :
    ∃ v v' w',V.cell? ⟨b + 2,0,none⟩ = some v ∧ (∃ a c,v = .slice a i c) ∧ (Builtin.append_ #[22,22] 22 #[v,.slice (some ⟨V.heap.size,0,none⟩) 1 1]).run Try.prog (V.alloc (.cells #[.int .i64 px,.int .i64 py] 33)) = .ok v' w' ∧ (∃ a c,v' = .slice a (i + 1) c) ∧
      (∃ u,w'.cell? ⟨b + 2,0,none⟩ = some u) ∧ w'.frozen? ⟨b + 2,0,none⟩ = false ∧ Same (fun k => C k ∧ (k < L → k = b + 2)) V (w'.setCell ⟨b + 2,0,none⟩ v') ∧ (w'.setCell ⟨b + 2,0,none⟩ v').heap[lb]? = V.heap[lb]? ∧
      TimI w0 t o b nb L (i + 1) (w'.setCell ⟨b + 2,0,none⟩ v') (fun k => (C k ∨ V.heap.size ≤ k) ∧ k < (w'.setCell ⟨b + 2,0,none⟩ v').heap.size) := by
  obtain ⟨i0,hi0,hz0,hz1,hz2⟩ := info_parts2 infoSp
  obtain ⟨h1,⟨v,h3,h4,h6⟩,h7,h8,h9⟩ := h
  have hV1 := World.alloc_heap_new V (.cells #[.int .i64 px,.int .i64 py] 33)
  obtain ⟨v',w',hr,hn',hg,_,hor⟩ := run_append_own_at (P := Try.prog) (w := V.alloc (.cells #[.int .i64 px,.int .i64 py] 33)) L 22 22 33 i0 _ 2 16 Try.underlying22 hi0 hz0 hz1 hz2 rfl (by decide) v i _ (own_blocks h4 (fun g hg => Below.heap_alloc _ _ _ (h4.lt g hg).2)) ⟨V.heap.size,0,none⟩ 1 1 [.int .i64 px,.int .i64 py] rfl
    (fun j u hj => by
      have e : (⟨V.heap.size,0,none⟩ : Addr).add j = ⟨V.heap.size,0 + j,none⟩ := add_none _ _ _
      match j with
      | 0 => simp at hj; subst hj; rw [e,cell_of_heap hV1]; rfl
      | 1 => simp at hj; subst hj; rw [e,cell_of_heap hV1]; rfl
      | j + 2 => simp at hj)
    (by intro u hu; simp at hu; rcases hu with rfl | rfl <;> rfl) (by simp [maxLen]; omega) (by omega) (by simp; omega)
  have hrow : ∀ k,v.ownBlock = some k → L ≤ k ∧ k < V.heap.size := fun k hk => h4.lt k hk
  have hVw : V.heap.size < w'.heap.size := by have := hg.size; simp at this; omega
  have hk1 : ∀ k,k < V.heap.size → v.ownBlock ≠ some k → w'.heap[k]? = V.heap[k]? := fun k hk hne => (hg.block k (by simp; omega) (fun e => hne e.symm)).trans (Below.heap_alloc _ _ _ hk)
  have hno : ∀ k,k < L → v.ownBlock ≠ some k := fun k hk e => by have := (hrow _ e).1; omega
  have htb' := (hk1 _ (heap_lt h3) (hno _ (by omega))).trans h3
  have hk2 : ∀ k,k < L → k ≠ b + 2 → (w'.setCell ⟨b + 2,0,none⟩ v').heap[k]? = V.heap[k]? := fun k hk hkt => (Below.heap_setCell _ _ _ _ hkt).trans (hk1 k (by omega) (hno k hk))
  have hrow' : ∀ k,v'.ownBlock = some k → L ≤ k ∧ k < w'.heap.size := fun k hk => hn'.lt k hk
  refine ⟨v,v',w',by rw [cell_of_heap h3]; rfl,?_,hr,?_,⟨_,by rw [cell_of_heap htb']; rfl⟩,frozen_of_heap htb',?_,hk2 lb hl2 (by omega),?_⟩
  · obtain ⟨a,c,e,_⟩ := own_slice h4; exact ⟨a,c,e⟩
  · obtain ⟨a,c,e,_⟩ := own_slice hn'; exact ⟨a,c,e⟩
  · have hs : Same (fun k => C k ∧ (k < L → k = b + 2)) V w' :=
      ((Same.refl _ V).alloc _).grown hg (fun k hk => .inl ⟨h6 k hk,fun h => by have := (hrow k hk).1; omega⟩)
    exact hs.setCell (.inl ⟨h9 _ (by show b + 2 < L; omega) (by show b + 2 ≠ nb; omega),fun _ => rfl⟩) _
  · have hb : Below w0.heap.size w0 w' := ((h1.alloc h1.size _)).grown hg (by simp; have := h1.size; omega) (fun k hk => by have := (hrow k hk).1; omega)
    refine ⟨hb.setCell (by show w0.heap.size ≤ b + 2; omega) _,⟨v',heap_setCell_at htb' _,?_,?_⟩,(hk2 _ (by omega) (by omega)).trans h7,(hk2 _ (by omega) (by omega)).trans h8,fun k hk hne => ⟨.inl (h9 k hk hne),by simp; omega⟩⟩
    · rw [List.take_add_one,hx]
      show World.ownsRow _ _ _ _ _ _ (minV (_ ++ [(x,px,py)]))
      rw [minV_add]
      exact own_blocks hn' (fun g hg' => Below.heap_setCell _ _ _ _ (fun e => by have e' : g = b + 2 := e; have := (hrow' g hg').1; omega))
    · intro g hg'
      refine ⟨?_,by have := (hrow' g hg').2; simp; omega⟩
      rcases hor with e | e
      · rw [e] at hg'
        exact .inl (h6 g hg')
      · rw [e] at hg'
        cases hg'
        exact .inr (by simp)
end Go.Proofs.Ytphefhpmbahagaa

