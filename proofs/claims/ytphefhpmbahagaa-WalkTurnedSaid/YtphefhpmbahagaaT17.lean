/- Times. -/
import Derived.Test.YtphefhpmbahagaaT16
namespace Go.Proofs.Ytphefhpmbahagaa
open Go.RowKit
set_option linter.unusedVariables false
set_option linter.unusedSimpArgs false

theorem res_ccc {fn : Func} {p q r : Tmp} (h : fn.results = #[.cell p 22,.cell q 33,.cell r 29]) (tmps : Array Value) {w : World} {a b c : Nat} {x y1 y2 z : Value} (hp : tmps.getD p undef = .pointer (some ⟨a,0,none⟩)) (hq : tmps.getD q undef = .pointer (some ⟨b,0,none⟩)) (hr : tmps.getD r undef = .pointer (some ⟨c,0,none⟩))
    (hx : w.cell? ⟨a,0,none⟩ = some x) (hy : w.cell? ⟨b,0,none⟩ = some y1) (hy2 : w.cell? ⟨b,1,none⟩ = some y2) (hz : w.cell? ⟨c,0,none⟩ = some z) :
    (results fn tmps).run Try.prog w = .ok (.tuple #[x,.agg #[y1,y2],z]) w := by
  have hp' : tmps[p]?.getD undef = .pointer (some ⟨a,0,none⟩) := by simpa using hp
  have hq' : tmps[q]?.getD undef = .pointer (some ⟨b,0,none⟩) := by simpa using hq
  have hr' : tmps[r]?.getD undef = .pointer (some ⟨c,0,none⟩) := by simpa using hr
  simp [results,h,hp',hq',hr',hx,hy,hy2,hz,go_sem]
def timesE (t : Tr) (o : List Int) : List Spn × Spn × Int := if openE t (t.order o) = 0 then (t.times o,⟨(t.over (-1) (t.dawn,t.dawn) o).1,(t.over (-1) (t.dawn,t.dawn) o).2⟩,0) else ([],⟨0,0⟩,openE t (t.order o))
attribute [local go_sem] Oper.semAt_some
set_option maxRecDepth 100000 in
set_option maxHeartbeats 4000000 in
theorem times16 {t : Tr} {A : TrA} {w : World} (ht : IsTr w t A) (hs : t.Small) {o : List Int} (hol : o.length ≤ 16) {a : Option Addr} {cap : Nat} (ha : IsInts w a o) :
    Calls Try.prog 16 #[t.v A,.slice a o.length cap] w fun e w' => ∃ av cv,e = .returned (.tuple #[.slice av (timesE t o).1.length cv,(timesE t o).2.1.v,.int .i64 (timesE t o).2.2]) ∧ IsSpns w' av (timesE t o).1 ∧ Below w.heap.size w w' := by
  have hmf : ∀ (fn : Fn) (first cap : Array Value) (w : World),(Instr.makeFunc fn first cap).run Try.prog w = .ok (.func fn first cap) w := fun _ _ _ _ => rfl
  have HCF := Lib.hid cf53
  refine calls_of_wp_x Try.func16 rfl ?_
  simp only [Try.ntmps16,List.size_toArray,List.length_cons,List.length_nil,Nat.reduceAdd,Nat.reduceSub,Array.replicate_succ,Array.replicate_zero,List.push_toArray,List.append_toArray,List.nil_append,List.cons_append]
  go_wp2_with fail
  obtain ⟨W1,hW1⟩ : ∃ W1 : World,W1 = ((((w.alloc (.cells (t.cells A) 25)).alloc (.cells #[.slice a o.length cap] 26)).alloc (.cells #[.slice none 0 0] 22)).alloc (.cells #[.int .i64 0,.int .i64 0] 33)).alloc (.cells #[.int .i64 0] 29) := ⟨_,rfl⟩
  obtain ⟨q0,q1,hz,hb⟩ := heap2 w (.cells (t.cells A) 25) (.cells #[.slice a o.length cap] 26)
  obtain ⟨q2,q3,hzb,hbx⟩ := heap2 ((w.alloc (.cells (t.cells A) 25)).alloc (.cells #[.slice a o.length cap] 26)) (.cells #[.slice none 0 0] 22) (.cells #[.int .i64 0,.int .i64 0] 33)
  have hbb : Below ((((w.alloc (.cells (t.cells A) 25)).alloc (.cells #[.slice a o.length cap] 26)).alloc (.cells #[.slice none 0 0] 22)).alloc (.cells #[.int .i64 0,.int .i64 0] 33)).heap.size ((((w.alloc (.cells (t.cells A) 25)).alloc (.cells #[.slice a o.length cap] 26)).alloc (.cells #[.slice none 0 0] 22)).alloc (.cells #[.int .i64 0,.int .i64 0] 33)) W1 := by rw [hW1]; exact (Below.refl _ _).alloc (Nat.le_refl _) _
  have hb1 : Below w.heap.size w W1 := hb.trans ((hbx.trans (hbb.mono (by omega))).mono (by omega))
  have hz1 : W1.heap.size = w.heap.size + 5 := by rw [hW1]; simp
  have q1 := (hbb.block _ (by omega)).trans ((hbx.block _ (heap_lt q1)).trans q1)
  have q2 := (hbb.block _ (heap_lt q2)).trans q2
  have q3 := (hbb.block _ (heap_lt q3)).trans q3
  have q4 : W1.heap[w.heap.size + 4]? = some (.cells #[.int .i64 0] 29 (0,0)) := by
    rw [hW1,show w.heap.size + 4 = ((((w.alloc (.cells (t.cells A) 25)).alloc (.cells #[.slice a o.length cap] 26)).alloc (.cells #[.slice none 0 0] 22)).alloc (.cells #[.int .i64 0,.int .i64 0] 33)).heap.size by simp]; exact World.alloc_heap_new _ _
  rw [hz] at q2 q3
  have hob : W1.cell? ⟨w.heap.size + 1,0,none⟩ = some (.slice a o.length cap) := by rw [cell_of_heap q1]; rfl
  have ht1 := ht.mono hb1
  have ha1 := ha.mono hb1
  rw [← hW1]
  clear hW1 hb hbb hbx hz hzb q0
  by_cases hE : openE t (t.order o) = 0
  · obtain ⟨hv,hor⟩ := openE_zero hE
    have hF := fit_of_valid hv
    refine (open_yes (g := 54) (cp := #[.pointer (some ⟨w.heap.size + 1,0,none⟩)]) ht1 hs hv cf54 (fun tb W hP hbW => ?_)).mono ?_
    · have := order54 hP hF.n hol (ha1.mono hbW) (cell_stays hbW hob)
      rw [hor] at this
      exact this
    rintro e w2 ⟨tb,rfl,htb,hP,hb2⟩
    have hB2 := hb1.trans (hb2.mono (by omega))
    have hz2 := hb2.size
    have q1' := (hb2.block _ (heap_lt q1)).trans q1
    have c1 : w2.cell? ⟨w.heap.size + 1,0,none⟩ = some (.slice a o.length cap) := by rw [cell_of_heap q1']; rfl
    have H0 := Lib.hid (And.intro ht ha)
    have HWK := Lib.hid (walk55 (a := a) (len := o.length) (cap := cap) hP)
    have H2 := Lib.hid (And.intro hB2 (And.intro ((hb2.block _ (heap_lt q2)).trans q2) (And.intro ((hb2.block _ (heap_lt q3)).trans q3) (And.intro ((hb2.block _ (heap_lt q4)).trans q4) (And.intro hP (And.intro hF (And.intro (order_view hor) (And.intro (ha1.mono hb2) (And.intro hE (show w.heap.size + 5 ≤ w2.heap.size by omega))))))))))
    clear hb1 hz1 q1 q2 q3 q4 hob ht1 ha1 ht ha hs hv hor hF htb hP hb2 hB2 hz2 q1' hE
    go_wp2_with fail
    refine HWK.out.mono ?_
    rintro e w3 ⟨rfl,hb3,r0,r1,r2,hz3⟩
    have HH := Lib.hid (And.intro hb3 (And.intro r0 (And.intro r1 (And.intro r2 hz3))))
    have hz3' : w3.heap.size = w2.heap.size + 3 := hz3
    have hz5 := H2.out.2.2.2.2.2.2.2.2.2
    clear hb3 r0 r1 r2 hz3 HWK c1
    go_wp2_with fail
    refine wp_rangeFuncX (gf := 81) (lb := #[.pointer (some ⟨w2.heap.size,0,none⟩),.pointer (some ⟨w2.heap.size + 2,0,none⟩),.pointer (some ⟨w2.heap.size + 1,0,none⟩)]) rfl (fun args w => by simp [callFunc,Try.func81,Try.f81,go_sem]) o.length (StepOk t o)
      (fun k => k = w.heap.size + 2 ∨ k = w3.heap.size + 1) (fun k => k = w2.heap.size + 2) (fun w' => w'.heap[w2.heap.size + 2]? = some (.cells #[.int .i64 (t.at_ o o.length).2.1,.int .i64 (t.at_ o o.length).2.2] 82 (0,0))) (fun k hk => by omega) ?hSd ?hps (by omega) (by omega) ?hit
      (fun i A C => TimI w t o w.heap.size (w2.heap.size + 2) (w3.heap.size + 2) i A C) (fun c i A C => False) ?hI ?hIx ?h0 ?hround ?hdone ?hstop
    case hit =>
      intro W hbW hsz
      obtain ⟨hb3,r0,r1,r2,_⟩ := HH.out
      obtain ⟨hB2,p2,p3,p4,hP,hF,ho,ha,_,_⟩ := H2.out
      refine walk_iter (a := a) (cap := cap) (tb := tb) (nb := w2.heap.size + 2) (A := A) hF hol ho (fun V hV => ?_) ⟨_,_,(hbW.block _ (by omega)).trans r2⟩
      have e0 := (hV.block (w2.heap.size) (by omega) (fun e => by omega)).trans ((hbW.block _ (by omega)).trans r0)
      have e1 := (hV.block (w2.heap.size + 1) (by omega) (fun e => by omega)).trans ((hbW.block _ (by omega)).trans r1)
      have hBV : Below w.heap.size w V := ((hB2.trans (hb3.mono (by omega))).trans (hbW.mono (by omega))).trans (hV.below (by omega) (fun k hk e => by omega))
      have htw := heap_lt hP.obj
      have hnt : tb ≠ w.heap.size + 2 := by
        intro e
        have h1 := hP.obj
        rw [e,p2] at h1
        simp at h1
      have et := (hV.block tb (by omega) (fun e => by omega)).trans ((hbW.block _ (by omega)).trans ((hb3.block _ htw).trans hP.obj))
      exact ⟨⟨et,H0.out.1.mono hBV⟩,by rw [cell_of_heap e0]; rfl,by rw [cell_of_heap e1]; rfl,H0.out.2.mono hBV⟩
    case hSd =>
      intro A B h hs
      exact (hs.block _ (heap_lt h) (fun e => by omega)).trans h
    case hps =>
      rintro i v A K ⟨_,rfl,_⟩
      rfl
    case hI =>
      intro i A B C h hs
      exact h.stable hs (Nat.le_refl _) (by omega) (by omega) (by omega)
    case hIx =>
      intro c i A B C h hs
      exact h
    case h0 =>
      intro W hb hsz
      obtain ⟨hb3,r0,r1,r2,_⟩ := HH.out
      obtain ⟨hB2,p2,p3,p4,hP,hF,ho,ha,_,_⟩ := H2.out
      have hbk : ∀ k,k < w2.heap.size → W.heap[k]? = w2.heap[k]? := fun k hk => (hb.block k (by omega)).trans (hb3.block k hk)
      exact ⟨(hB2.trans (hb3.mono (by omega))).trans (hb.mono (by omega)),⟨_,(hbk _ (by omega)).trans p2,World.ownsRow_nil _ _ _ _,fun g hg => by cases hg⟩,(hbk _ (by omega)).trans p3,(hbk _ (by omega)).trans p4,fun k hk hne => ⟨hk,hne⟩⟩
    case hround =>
      rintro i v W C K hiN ⟨hi,rfl,rfl⟩ hKC hC hI hlt
      obtain ⟨x,hx,hxn⟩ := view_nat (H2.out.2.2.2.2.2.2.1 _ (gi_mem' hi))
      have HST := Lib.hid (steps_at t hi)
      have HH2 := Lib.hid (And.intro hC (And.intro hI hlt))
      clear hKC hC hI hlt
      rw [hx] at HST ⊢
      clear hx
      revert HST
      generalize t.begin (t.at_ o i).1 (x : Int) (t.at_ o i).2 = p
      obtain ⟨px,py⟩ := p
      intro HST
      gi_wp2_with fail
      refine ⟨(Below.refl _ W).alloc (Nat.le_refl _) _,fun V2 hS2 hsz2 => ?_⟩
      obtain ⟨hC,hI,hlt⟩ := HH2.out
      have hba : Below W.heap.size W (W.alloc (.cells #[.int .i64 px,.int .i64 py] 82)) := (Below.refl _ W).alloc (Nat.le_refl _) _
      have hI2 := (hI.stable (lb := w3.heap.size + 1) (Same.of_below _ hba) (Nat.le_refl _) (by omega) (by omega) (by omega)).stable (lb := w3.heap.size + 1) (hS2.mono (fun _ _ e => .inr e)) (Nat.le_refl _) (by omega) (by omega) (by omega)
      have qa : V2.heap[W.heap.size]? = some (.cells #[.int .i64 px,.int .i64 py] 82 (0,0)) := (hS2.block _ (by simp) (by omega)).trans (World.alloc_heap_new _ _)
      have c22 : V2.cell? ⟨W.heap.size,0,none⟩ = some (.int .i64 px) := by rw [cell_of_heap qa]; rfl
      have c23 : V2.cell? ⟨W.heap.size,1,none⟩ = some (.int .i64 py) := by rw [cell_of_heap qa]; rfl
      have hlv : w3.heap.size + 2 ≤ V2.heap.size := by rw [hsz2,World.size_alloc]; omega
      obtain ⟨v,v',w',m1,⟨a1,c1,rfl⟩,m3,⟨a2,c2,rfl⟩,⟨u,m4⟩,m5,m6,m7,m8⟩ := hI2.more (lb := w3.heap.size + 1) HST.out (by omega) (Nat.le_refl _) (by omega) (by omega) (by omega) hlv
      have HM := Lib.hid (And.intro m3 (And.intro m6 (And.intro m7 m8)))
      have H5 := Lib.hid (And.intro hC hlv)
      have hWl := heap_lt qa
      clear hC hI hlt hba hI2 qa hS2 hsz2 HH2 m3 m6 m7 m8 hlv
      gi_wp2_with (guard_target =~ wpListIn _ _ _ _ _ (List.cons (Oper.mk (some 28) _ _ _ _ _) _) _ _; refine wpListIn_append_run rfl (.tmp 25) (.tmp 27) 22 rfl _ _ _ _ rfl rfl HM.out.1 ?_)
      obtain ⟨hC,hlv⟩ := H5.out
      have hsS := HM.out.2.1.size
      refine ⟨HM.out.2.1.mono (fun k _ e => ⟨e.1,fun h => .inl (e.2 h)⟩),HM.out.2.2.1,_,fun k hk hne => ⟨.inl (hC k hk hne),by omega⟩,fun k hk => hk.2,fun k hk => hk.1.elim .inl (fun h => .inr (.inr h)),HM.out.2.2.2⟩
    case hdone =>
      intro W C hI hsd hdef
      obtain ⟨h1,⟨v,h2,h3,h4⟩,h5,h6,h7⟩ := hI
      obtain ⟨ra,rc,rfl,_⟩ := own_slice h3
      have HF := Lib.hid (And.intro h1 (And.intro h2 (And.intro h3 (And.intro h5 (And.intro h6 (And.intro hdef hsd))))))
      have hlW := heap_lt hsd
      clear h1 h2 h3 h4 h5 h6 h7 hdef hsd
      go_upto_region 7 with fail
      obtain ⟨h1,h2,h3,h5,h6,hdef,hsd⟩ := HF.out
      have hlb := h3.lt
      clear HF
      have HF := Lib.hid (And.intro h1 (And.intro h3 (And.intro hdef hsd)))
      refine wpIn_wide.1 (tm7 (tb := w.heap.size + 2) (sb := w.heap.size + 3) (eb := w.heap.size + 4) (nb := w2.heap.size + 2) (ra := ra) (rm := o.length) (rc := rc) (x := (t.at_ o o.length).2.1) (y := (t.at_ o o.length).2.2)
        (S0 := fun z => Below W.heap.size W z) (S1 := fun _ z => Below W.heap.size W z)
        (S2 := fun _ z => Same (fun k => k = w.heap.size + 2 ∨ k = w.heap.size + 3 ∨ k = w.heap.size + 4) W z ∧ z.heap[w.heap.size + 2]? = some (.cells #[.slice ra o.length rc] 22 (0,0)) ∧ z.heap[w.heap.size + 3]? = some (.cells #[.int .i64 0,.int .i64 0] 33 (0,0)) ∧ z.heap[w.heap.size + 4]? = some (.cells #[.int .i64 0] 29 (0,0)))
        (S3 := fun _ z => Same (fun k => k = w.heap.size + 2 ∨ k = w.heap.size + 3 ∨ k = w.heap.size + 4) W z ∧ z.heap[w.heap.size + 2]? = some (.cells #[.slice ra o.length rc] 22 (0,0)) ∧ z.heap[w.heap.size + 3]? = some (.cells #[.int .i64 (t.at_ o o.length).2.1,.int .i64 (t.at_ o o.length).2.2] 33 (0,0)) ∧ z.heap[w.heap.size + 4]? = some (.cells #[.int .i64 0] 29 (0,0)))
        (S4 := fun _ z => Same (fun k => k = w.heap.size + 2 ∨ k = w.heap.size + 3 ∨ k = w.heap.size + 4) W z ∧ z.heap[w.heap.size + 2]? = some (.cells #[.slice ra o.length rc] 22 (0,0)) ∧ z.heap[w.heap.size + 3]? = some (.cells #[.int .i64 (t.at_ o o.length).2.1,.int .i64 (t.at_ o o.length).2.2] 33 (0,0)) ∧ z.heap[w.heap.size + 4]? = some (.cells #[.int .i64 0] 29 (0,0))) ?d0 ?l0 ?c2 ?c3 ?c4 ?c5 ?dQ)
      case d0 => exact (Below.refl _ W).drew
      case l0 => exact fun u z h => by rw [cell_of_heap ((Below.block (h.elim id id) _ (heap_lt h2)).trans h2)]; rfl
      case c2 =>
        intro z h
        have e := (h.block _ (heap_lt hsd)).trans hsd
        refine (over84 (nb := w2.heap.size + 2) (x := (t.at_ o o.length).2.1) (y := (t.at_ o o.length).2.2) (by rw [cell_of_heap e]; rfl) (by rw [cell_of_heap e]; rfl)).mono ?_
        rintro e z2 ⟨rfl,hz⟩
        exact ⟨(),rfl,h.trans (hz.mono h.size)⟩
      case c3 =>
        intro u z h
        have e2 := (h.block _ (heap_lt h2)).trans h2
        exact ⟨⟨_,by rw [cell_of_heap e2]; rfl⟩,frozen_of_heap e2,(Same.of_below _ h).setCell (p := ⟨w.heap.size + 2,0,none⟩) (.inl (.inl rfl)) _,heap_setCell_at (k := 0) e2 _,(Below.heap_setCell _ _ _ _ (by show w.heap.size + 3 ≠ w.heap.size + 2; omega)).trans ((h.block _ (heap_lt h5)).trans h5),(Below.heap_setCell _ _ _ _ (by show w.heap.size + 4 ≠ w.heap.size + 2; omega)).trans ((h.block _ (heap_lt h6)).trans h6)⟩
      case c4 =>
        rintro u z ⟨k1,k2,k3,k4⟩
        exact ⟨⟨_,by rw [cell_of_heap k3]; rfl⟩,frozen_of_heap k3,⟨_,by rw [cell_of_heap k3]; rfl⟩,frozen_of_heap k3,(k1.setCell (p := ⟨w.heap.size + 3,0,none⟩) (.inl (.inr (.inl rfl))) _).setCell (p := ⟨w.heap.size + 3,1,none⟩) (.inl (.inr (.inl rfl))) _,
          (Below.heap_setCell _ _ _ _ (by show w.heap.size + 2 ≠ w.heap.size + 3; omega)).trans ((Below.heap_setCell _ _ _ _ (by show w.heap.size + 2 ≠ w.heap.size + 3; omega)).trans k2),heap_setCell_at (k := 1) (heap_setCell_at (k := 0) k3 _) _,
          (Below.heap_setCell _ _ _ _ (by show w.heap.size + 4 ≠ w.heap.size + 3; omega)).trans ((Below.heap_setCell _ _ _ _ (by show w.heap.size + 4 ≠ w.heap.size + 3; omega)).trans k4)⟩
      case c5 =>
        rintro u z ⟨k1,k2,k3,k4⟩
        exact ⟨⟨_,by rw [cell_of_heap k4]; rfl⟩,frozen_of_heap k4,k1.setCell (p := ⟨w.heap.size + 4,0,none⟩) (.inl (.inr (.inr rfl))) _,
          (Below.heap_setCell _ _ _ _ (by show w.heap.size + 2 ≠ w.heap.size + 4; omega)).trans k2,(Below.heap_setCell _ _ _ _ (by show w.heap.size + 3 ≠ w.heap.size + 4; omega)).trans k3,heap_setCell_at (k := 0) k4 _⟩
      case dQ =>
        rintro u X ⟨k1,k2,k3,k4⟩
        have HX := Lib.hid (And.intro k1 (And.intro k2 (And.intro k3 k4)))
        clear k1 k2 k3 k4 h1 h2 h3 h5 h6 hdef hsd hlb
        go_wp2_with fail
        obtain ⟨h1,h3,hdef,hsd⟩ := HF.out
        obtain ⟨k1,k2,k3,k4⟩ := HX.out
        have hl3 : w3.heap.size < W.heap.size := heap_lt hdef
        have e5 := (k1.block w3.heap.size hl3 (by rintro (e | e | e) <;> omega)).trans hdef
        have hBX : Below w.heap.size w X := h1.trans (k1.below h1.size (fun k hk e => by rcases e with e | e | e <;> omega))
        have hput : Below w.heap.size w (X.putObj w3.heap.size (.deferred none)) :=
          (((Same.of_below (fun q => w.heap.size ≤ q) hBX).putObj (.inl (by omega)) _).below (Nat.le_refl _) (fun q hq h => by omega))
        have g2 := (World.putObj_heap_other (w := X) (o := .deferred none) (show w.heap.size + 2 ≠ w3.heap.size by omega)).trans k2
        have g3 := (World.putObj_heap_other (w := X) (o := .deferred none) (show w.heap.size + 3 ≠ w3.heap.size by omega)).trans k3
        have g4 := (World.putObj_heap_other (w := X) (o := .deferred none) (show w.heap.size + 4 ≠ w3.heap.size by omega)).trans k4
        have hrowX := own_blocks h3 (w' := X.putObj w3.heap.size (.deferred none)) (fun g hg => by
          have hg1 := h3.lt g hg
          exact (World.putObj_heap_other (by omega)).trans (k1.block g hg1.2 (by rintro (e | e | e) <;> omega)))
        have hlen := steps_len t o (-1) (t.dawn,t.dawn)
        rw [← hlen,List.take_length] at hrowX
        have hW : timesE t o = (t.times o,⟨(t.at_ o o.length).2.1,(t.at_ o o.length).2.2⟩,0) := by unfold timesE; rw [if_pos H2.out.2.2.2.2.2.2.2.2.1,over_at]
        have hTL : (t.times o).length = o.length := by simp [Tr.times,hlen]
        refine ⟨[w3.heap.size],_,rfl,by simp,_,run_takeDeferred e5,leaves_ok (recov53_ok _ _) HCF.out (res_ccc rfl _ rfl rfl rfl (x := .slice ra o.length rc) (by rw [cell_of_heap g2]; rfl) (by rw [cell_of_heap g3]; rfl) (by rw [cell_of_heap g3]; rfl) (by rw [cell_of_heap g4]; rfl)) ⟨ra,rc,?_,?_,hput⟩⟩
        · rw [hW,hTL]; rfl
        · rw [hW]
          exact own_spans hrowX rfl
    case hstop =>
      intro c i W C _ h
      exact h.elim
  · have hW : timesE t o = ([],⟨0,0⟩,openE t (t.order o)) := by unfold timesE; rw [if_neg hE]
    refine (open_no (g := 54) (cp := #[.pointer (some ⟨w.heap.size + 1,0,none⟩)]) ht1 hs hE cf54 (fun hv tb W hP hbW => order54 hP (fit_of_valid hv).n hol (ha1.mono hbW) (cell_stays hbW hob))).mono ?_
    rintro e w2 ⟨rfl,hb2⟩
    have g2 := (hb2.block _ (heap_lt q2)).trans q2
    have g3 := (hb2.block _ (heap_lt q3)).trans q3
    have g4 := (hb2.block _ (heap_lt q4)).trans q4
    have hc2 : w2.cell? ⟨w.heap.size + 4,0,none⟩ = some (.int .i64 0) := by rw [cell_of_heap g4]; rfl
    have hB2 := hb1.trans (hb2.mono (by omega))
    have hb3 : Below w.heap.size w ((w2.alloc (.cells #[.int .i64 (openE t (t.order o))] 106)).setCell ⟨w.heap.size + 4,0,none⟩ (.int .i64 (openE t (t.order o)))) :=
      (hB2.alloc hB2.size _).setCell (by simp) _
    have hcell := World.cell?_setCell_same (w2.alloc (.cells #[.int .i64 (openE t (t.order o))] 106)) ⟨w.heap.size + 4,0,none⟩ (.int .i64 (openE t (t.order o))) (cell_stays ((Below.refl _ w2).alloc (Nat.le_refl _) _) hc2)
    have k2 : ((w2.alloc (.cells #[.int .i64 (openE t (t.order o))] 106)).setCell ⟨w.heap.size + 4,0,none⟩ (.int .i64 (openE t (t.order o)))).heap[w.heap.size + 2]? = _ := (Below.heap_setCell _ _ _ _ (by show w.heap.size + 2 ≠ w.heap.size + 4; omega)).trans ((Below.heap_alloc _ _ _ (heap_lt g2)).trans g2)
    have k3 : ((w2.alloc (.cells #[.int .i64 (openE t (t.order o))] 106)).setCell ⟨w.heap.size + 4,0,none⟩ (.int .i64 (openE t (t.order o)))).heap[w.heap.size + 3]? = _ := (Below.heap_setCell _ _ _ _ (by show w.heap.size + 3 ≠ w.heap.size + 4; omega)).trans ((Below.heap_alloc _ _ _ (heap_lt g3)).trans g3)
    refine ⟨[],_,rfl,leaves_no (recov53_no (openE t (t.order o)) hc2 (frozen_of_heap g4)) rfl HCF.out (res_ccc rfl _ rfl rfl rfl (x := .slice none 0 0) (by rw [cell_of_heap k2]; rfl) (by rw [cell_of_heap k3]; rfl) (by rw [cell_of_heap k3]; rfl) hcell) ⟨none,0,?_,fun i hi => ?_,hb3⟩⟩
    · rw [hW]
      rfl
    · rw [hW] at hi
      simp at hi
end Go.Proofs.Ytphefhpmbahagaa
