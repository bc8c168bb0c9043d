/- A walk's iterator: it hands over the views, one by one, with the minutes there. -/
import Derived.Test.YtphefhpmbahagaaT10
import Derived.Laws.EntriesVeiled
import Derived.BigRegionIn
import Derived.BigGuardIn
namespace Go.Proofs.Ytphefhpmbahagaa
open Go.RowKit
set_option linter.unusedVariables false
set_option linter.unusedSimpArgs false

theorem same_later {M M' : Nat → Prop} {A B C : World} (h : Same M A B) (k : Same M' B C) (hm : ∀ i,M' i → M i ∨ A.heap.size ≤ i) : Same M A C :=
  ⟨k.os.trans h.os,k.tape.trans h.tape,k.output.trans h.output,Nat.le_trans h.size k.size,fun i hi hn => (k.block i (Nat.lt_of_lt_of_le hi h.size) (fun e => by
    rcases hm i e with h' | h'
    · exact hn h'
    · omega)).trans (h.block i hi hn)⟩
/-- What is handed over: the i-th view,the minutes at which it begins. -/
def StepOk (t : Tr) (o : List Int) (i : Nat) (v : Array Value) (A : World) (K : Nat → Prop) : Prop :=
  i < o.length ∧ v = #[.int .i64 (gi o i),mv (t.begin (t.at_ o i).1 (gi o i) (t.at_ o i).2)] ∧ K = fun _ => False
/-- What an iterator reads of its surroundings. -/
structure WalkS (t : Tr) (A : TrA) (o : List Int) (a : Option Addr) (cap tb bx ob : Nat) (w : World) : Prop where
  tour : TourP w tb t A
  box : w.cell? ⟨bx,0,none⟩ = some (.pointer (some ⟨tb,0,none⟩))
  ord : w.cell? ⟨ob,0,none⟩ = some (.slice a o.length cap)
  ints : IsInts w a o
theorem WalkS.mono {t : Tr} {A : TrA} {o : List Int} {a : Option Addr} {cap tb bx ob : Nat} {w w' : World} (h : WalkS t A o a cap tb bx ob w) (hb : Below w.heap.size w w') : WalkS t A o a cap tb bx ob w' :=
  ⟨h.tour.mono hb,cell_stays hb h.box,cell_stays hb h.ord,h.ints.mono hb⟩
set_option maxRecDepth 100000 in
set_option maxHeartbeats 4000000 in
theorem walk_iter {t : Tr} {A : TrA} {o : List Int} {a : Option Addr} {cap tb bx ob nb : Nat} {W : World} {M : Nat → Prop} (hF : t.Fit) (hol : o.length ≤ 16) (ho : ∀ x ∈ o,t.view x = true)
    (hs : ∀ A',Same (fun k => M k ∨ k = nb) W A' → WalkS t A o a cap tb bx ob A')
    (hnb : ∃ c0 c1 : Value,W.heap[nb]? = some (.cells #[c0,c1] 82 (0,0))) :
    IterX Try.prog 81 #[.pointer (some ⟨bx,0,none⟩),.pointer (some ⟨nb,0,none⟩),.pointer (some ⟨ob,0,none⟩)] o.length (StepOk t o) M (fun k => k = nb)
      (fun w' => w'.heap[nb]? = some (.cells #[.int .i64 (t.at_ o o.length).2.1,.int .i64 (t.at_ o o.length).2.2] 82 (0,0))) W := by
  intro l J Jx hJ hJx hY h0
  obtain ⟨c0,c1,hnb⟩ := hnb
  have hnlt := heap_lt hnb
  have HS := Lib.hid hs
  have HY := Lib.hid hY
  have HJ := Lib.hid hJ
  have H0 := Lib.hid h0
  have HC := Lib.hid (And.intro hF (And.intro ho hnb))
  clear hs hY h0 hJ hJx hF ho hnb
  refine callsIn_wide.2 ?_
  go_enter Try.func81,Try.ntmps81
  refine wp_seq_hid ?_
  intro K HK
  have hsw := HS.out W (Same.refl _ W)
  refine wpIn_wide.1 (wi0 (dw := t.dawn) (tb := tb) (bx := bx) (nb := nb)
    (S0 := fun v => Same (fun k => k = nb) W v ∧ v.heap[nb]? = some (.cells #[c0,c1] 82 (0,0)))
    (S1 := fun v => Same (fun k => k = nb) W v ∧ v.heap[nb]? = some (.cells #[.int .i64 0,.int .i64 0] 82 (0,0)))
    (S2 := fun v => Same (fun k => k = nb) W v ∧ v.heap[nb]? = some (.cells #[.int .i64 t.dawn,.int .i64 0] 82 (0,0)))
    (S3 := fun v => Same (fun k => k = nb) W v ∧ v.heap[nb]? = some (.cells #[.int .i64 t.dawn,.int .i64 t.dawn] 82 (0,0))) ?h0 ?l0 ?l4 ?l5 ?l9 ?c10 ?c12 ?c14 ?hQ)
  case h0 => exact ⟨(Same.refl _ W).drew,HC.out.2.2⟩
  case l0 => exact fun v h => (HS.out v (h.elim (fun h => h.1.mono fun _ _ e => .inr e) (fun h => h.1.mono fun _ _ e => .inr e))).box
  case l4 => exact fun v h => (HS.out v (h.elim (fun h => h.1.mono fun _ _ e => .inr e) (fun h => h.1.mono fun _ _ e => .inr e))).tour.cells.1
  case l5 => exact fun v h => (HS.out v (h.elim (fun h => h.1.mono fun _ _ e => .inr e) (fun h => h.elim (fun h => h.1.mono fun _ _ e => .inr e) (fun h => h.1.mono fun _ _ e => .inr e)))).box
  case l9 => exact fun v h => (HS.out v (h.elim (fun h => h.1.mono fun _ _ e => .inr e) (fun h => h.elim (fun h => h.1.mono fun _ _ e => .inr e) (fun h => h.1.mono fun _ _ e => .inr e)))).tour.cells.1
  case c10 => exact fun v h => ⟨⟨_,by rw [cell_of_heap h.2]; rfl⟩,frozen_of_heap h.2,⟨_,by rw [cell_of_heap h.2]; rfl⟩,frozen_of_heap h.2,(h.1.setCell (.inl rfl) _).setCell (.inl rfl) _,heap_setCell_at (k := 1) (heap_setCell_at (k := 0) h.2 _) _⟩
  case c12 => exact fun v h => ⟨⟨_,by rw [cell_of_heap h.2]; rfl⟩,frozen_of_heap h.2,h.1.setCell (.inl rfl) _,heap_setCell_at (k := 0) h.2 _⟩
  case c14 => exact fun v h => ⟨⟨_,by rw [cell_of_heap h.2]; rfl⟩,frozen_of_heap h.2,h.1.setCell (.inl rfl) _,heap_setCell_at (k := 1) h.2 _⟩
  case hQ =>
    intro w1 hw1
    refine HK.out _ _ ?_
    have HX : Hid (Same (fun k => M k ∨ k = nb) W w1 ∧ w1.heap[nb]? = some (.cells #[.int .i64 (t.at_ o 0).2.1,.int .i64 (t.at_ o 0).2.2] 82 (0,0)) ∧ J 0 w1 (fun k => k < W.heap.size ∧ ¬ k = nb)) :=
      ⟨hw1.1.mono fun _ _ e => .inr e,hw1.2,HJ.out _ _ _ _ H0.out (hw1.1.mono fun k _ e => by subst e; simp)⟩
    have hor := (HS.out w1 HX.out.1).ord
    clear hw1 HK K hsw H0
    go_wp2_with fail
    go_loopw [5,23] (fun f i wr => ∃ (k : Nat) (C : Nat → Prop),k ≤ o.length ∧ i = .int .i64 k ∧ f = .int .i64 (t.at_ o k).1 ∧ Hid (Same (fun k => M k ∨ k = nb) W wr ∧ wr.heap[nb]? = some (.cells #[.int .i64 (t.at_ o k).2.1,.int .i64 (t.at_ o k).2.2] 82 (0,0)) ∧ J k wr C) ∧ Hid ((∀ j,C j → j < wr.heap.size) ∧ ¬ C nb)) (fun _ i _ => o.length - (intOf i).toNat)
    case atStart => exact ⟨0,_,by omega,rfl,rfl,HX.out,fun j hj => Nat.lt_of_lt_of_le hj.1 HX.out.1.size,fun h => h.2 rfl⟩
    case round =>
      obtain ⟨k,C,hk,rfl,rfl,HR,HB⟩ := hrel
      by_cases hlt : k < o.length
      · have hsw := HS.out wr HR.out.1
        obtain ⟨ob',oo,haa,hcell⟩ := hsw.ints k hlt
        subst haa
        obtain ⟨v,hv,hvn⟩ := view_nat (HC.out.2.1 _ (gi_mem' hlt))
        have hf := at_from HC.out.2.1 k hk
        have hlow := at_low HC.out.1 HC.out.2.1 k hk
        have HG := Lib.hid (at_succ t hlt)
        have HV := Lib.hid hv
        rw [hv] at hcell
        have cn0 : wr.cell? ⟨nb,0,none⟩ = some (.int .i64 (t.at_ o k).2.1) := by rw [cell_of_heap HR.out.2.1]; rfl
        have cn1 : wr.cell? ⟨nb,1,none⟩ = some (.int .i64 (t.at_ o k).2.2) := by rw [cell_of_heap HR.out.2.1]; rfl
        have cb := hsw.box
        have HCALL : Hid (Calls Try.prog 82 #[.pointer (some ⟨tb,0,none⟩),.int .i64 (t.at_ o k).1,.int .i64 v,.agg #[.int .i64 (t.at_ o k).2.1,.int .i64 (t.at_ o k).2.2]] wr _) := begin82 hsw.tour HC.out.1 hf hvn (show Low _ by unfold Low; omega)
        clear hsw hf hlow
        go_wp2_with fail
        refine HCALL.out.mono ?_
        rintro e w2 ⟨rfl,hb2⟩
        obtain ⟨p,hp⟩ : ∃ p,t.begin (t.at_ o k).1 v ((t.at_ o k).2.1,(t.at_ o k).2.2) = p := ⟨_,rfl⟩
        rw [hp]
        have HP := Lib.hid hp
        clear hp HCALL cn0 cn1 cb
        go_upto_region 6 with fail
        have hb3 : Below wr.heap.size wr (w2.alloc (.cells #[.int .i64 p.1,.int .i64 p.2] 82)) := hb2.alloc (by simpa using hb2.size) _
        have q3 := World.alloc_heap_new w2 (.cells #[.int .i64 p.1,.int .i64 p.2] 82)
        have hge := hb2.size
        revert hb3 q3 hge
        generalize w2.alloc (.cells #[.int .i64 p.1,.int .i64 p.2] 82) = w3
        generalize w2.heap.size = mb
        clear hb2
        intro hb3 q3 hge
        have hj3 := HJ.out _ _ _ _ HR.out.2.2 (Same.of_below _ hb3)
        obtain ⟨fn,tmps,assign,body,hy,hRd⟩ := HY.out k #[.int .i64 v,mv p] w3 C (fun _ => False) hlt ⟨hlt,by rw [HV.out]; show _ = #[_,mv (t.begin (t.at_ o k).1 v ((t.at_ o k).2.1,(t.at_ o k).2.2))]; rw [HP.out],rfl⟩ (fun _ h => h.elim) hj3
        have c30 : w3.cell? ⟨mb,0,none⟩ = some (.int .i64 p.1) := by rw [cell_of_heap q3]; rfl
        have c31 : w3.cell? ⟨mb,1,none⟩ = some (.int .i64 p.2) := by rw [cell_of_heap q3]; rfl
        have HRd := Lib.hid hRd
        have H3 := Lib.hid (And.intro hb3 (And.intro q3 hge))
        clear hRd hb3 q3 hge hj3 hcell
        refine (wpIn_wide (n := 0)).1 ?_
        gi_wp2_with fail
        refine ⟨rfl,HRd.out.mono ?_⟩
        rintro e B ⟨hs3,C3,h1,h2,h3,h4⟩
        have hSB : Same (fun k => M k ∨ k = nb) W B := same_later (same_later HR.out.1 (Same.of_below (fun _ => False) H3.out.1) (fun _ h => h.elim)) hs3 (fun j hm => by
          by_cases hj : j < W.heap.size
          · exact .inl (.inl (hm.2 hj))
          · exact .inr (by omega))
        have qnb := (hs3.block nb (Nat.lt_of_lt_of_le (heap_lt HR.out.2.1) H3.out.1.size) (fun h => HB.out.2 h.1)).trans ((H3.out.1.block _ (heap_lt HR.out.2.1)).trans HR.out.2.1)
        have qmb := (hs3.block mb (heap_lt H3.out.2.1) (fun h => by have := HB.out.1 _ h.1; have := H3.out.2.2; omega)).trans H3.out.2.1
        have hC3 : ¬ C3 nb := fun h => by
          rcases h3 nb h with h | h | h
          · exact HB.out.2 h
          · exact h
          · have := Nat.lt_of_lt_of_le (heap_lt HR.out.2.1) H3.out.1.size; omega
        rcases h4 with ⟨rfl,hj⟩ | ⟨rfl,hj⟩
        · have H4 := Lib.hid (And.intro hSB (And.intro qnb (And.intro qmb (And.intro hj (And.intro h2 hC3)))))
          clear hSB qnb qmb hC3 hj hs3 h1 h2 h3 hy c30 c31
          gi_wp2_with fail
          go_upto_region 7 with fail
          have hsB := HS.out B H4.out.1
          obtain ⟨sb,so,se,s1,s2⟩ := hsB.tour.tr.stay v (by rw [HC.out.1.stay]; exact hvn)
          have hct := hsB.tour.cells.2.2.2.1
          rw [se] at hct
          have hbx := hsB.box
          have cm0 : B.cell? ⟨mb,0,none⟩ = some (.int .i64 p.1) := by rw [cell_of_heap H4.out.2.2.1]; rfl
          have cm1 : B.cell? ⟨mb,1,none⟩ = some (.int .i64 p.2) := by rw [cell_of_heap H4.out.2.2.1]; rfl
          have hlow := begin_low HC.out.1 (at_from HC.out.2.1 k hk) hvn (x := (t.at_ o k).2.1) (y := (t.at_ o k).2.2) (at_low HC.out.1 HC.out.2.1 k hk) (by omega)
          rw [HP.out] at hlow
          have hlow : Low (p.1,p.2) := by unfold Low; omega
          have hok := HC.out.1.oks v hvn
          refine wpIn_wide.1 (wi7 (tb := tb) (bx := bx) (nb := nb) (mb := mb) (x := p.1) (y := p.2) (v := v) (n := t.stay.length) (ab := sb) (ao := so) (ac := A.cs) (s := gs t.stay v)
            (S0 := fun z => Below B.heap.size B z) (S1 := fun _ z => Below B.heap.size B z)
            (S2 := fun _ z => Same (fun j => j = nb) B z ∧ z.heap[nb]? = some (.cells #[.int .i64 (p.1 + (gs t.stay v).lo),.int .i64 (p.2 + (gs t.stay v).hi)] 82 (0,0))) (by rw [HC.out.1.stay]; exact hvn) ?h0 ?l0 ?l1 ?l5 ?l8 ?c9 ?c11 ?hQ)
          case h0 => exact (Below.refl _ B).drew
          case l0 => exact fun z h => ⟨cell_stays h cm0,cell_stays h cm1⟩
          case l1 => exact fun z h => cell_stays h hbx
          case l5 => exact fun z h => cell_stays h hct
          case l8 => exact fun z h => ⟨cell_stays h s1,cell_stays h s2⟩
          case c9 =>
            intro z h
            refine (after83 hlow hok).mono ?_
            rintro e z2 ⟨rfl,hz⟩
            exact ⟨(),rfl,h.trans (hz.mono h.size)⟩
          case c11 =>
            intro u z h
            have hn := (h.block _ (heap_lt H4.out.2.1)).trans H4.out.2.1
            exact ⟨⟨_,by rw [cell_of_heap hn]; rfl⟩,frozen_of_heap hn,⟨_,by rw [cell_of_heap hn]; rfl⟩,frozen_of_heap hn,((Same.of_below (fun j => j = nb) h).setCell (p := ⟨nb,0,none⟩) (.inl rfl) _).setCell (p := ⟨nb,1,none⟩) (.inl rfl) _,heap_setCell_at (k := 1) (heap_setCell_at (k := 0) hn _) _⟩
          case hQ =>
            intro u z hz
            have hgo : t.at_ o (k + 1) = ((v : Int),p.1 + (gs t.stay v).lo,p.2 + (gs t.stay v).hi) := by
              rw [HG.out,HV.out]
              show ((v : Int),t.after v (t.begin (t.at_ o k).1 v ((t.at_ o k).2.1,(t.at_ o k).2.2))) = _
              rw [HP.out]
              rfl
            have HGO := Lib.hid hgo
            have HZ := Lib.hid hz
            clear hgo hz cm0 cm1 hbx hct s1 s2 hsB hlow hok
            go_wp2_with fail
            go_roundw
            case rel => exact ⟨k + 1,C3,by omega,by go_num,by rw [HGO.out],⟨H4.out.1.trans (HZ.out.1.mono fun _ _ e => .inr e),by rw [HGO.out]; exact HZ.out.2,HJ.out _ _ _ _ H4.out.2.2.2.1 (HZ.out.1.mono fun j _ e => by subst e; exact H4.out.2.2.2.2.2)⟩,fun j hj => Nat.lt_of_lt_of_le (H4.out.2.2.2.2.1 j hj) HZ.out.1.size,H4.out.2.2.2.2.2⟩
            case measure => simp [intOf]; omega
        · have H4 := Lib.hid hj
          clear hSB qnb qmb hC3 hj hs3 h1 h2 h3 hy c30 c31
          gi_wp2_with fail
          go_wp2_with fail
          refine bodyPost_ret (results_none rfl _ _ _) rfl ?_
          exact ⟨⟨_,rfl⟩,C3,.inr ⟨_,hlt,H4.out⟩⟩
      · obtain rfl : k = o.length := by omega
        go_wp2_with fail
        refine bodyPost_end (results_none rfl _ _ _) rfl ?_
        exact ⟨⟨_,rfl⟩,C,.inl ⟨HR.out.2.2,HR.out.2.1⟩⟩
end Go.Proofs.Ytphefhpmbahagaa
