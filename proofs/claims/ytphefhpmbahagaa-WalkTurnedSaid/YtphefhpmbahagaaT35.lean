/- All tours, one after the other: the closure that goes on from some views. -/
import Derived.Test.YtphefhpmbahagaaT34
import Derived.Laws.EntriesVeiled
namespace Go.Proofs.Ytphefhpmbahagaa
open Go.RowKit
set_option linter.unusedVariables false
set_option linter.unusedSimpArgs false

/-- All tours that go on from some views by d more,in lexicographic order. -/
def tourP (n : Nat) : Nat → List Int → List (List Int)
  | 0,pre => [pre]
  | d + 1,pre => (List.range n).flatMap fun (v : Nat) => if (v : Int) ∈ pre then [] else tourP n d (pre ++ [(v : Int)])
def toursL (n : Nat) : List (List Int) := tourP n n []
def onF (n d : Nat) (pre : List Int) (v : Nat) : List (List Int) := if (v : Int) ∈ pre then [] else tourP n d (pre ++ [(v : Int)])
theorem tourP_succ (n d : Nat) (pre : List Int) : tourP n (d + 1) pre = (List.range n).flatMap (onF n d pre) := rfl
/-- How many tours the first numbers give. -/
def cntF (n d : Nat) (pre : List Int) (j : Nat) : Nat := (((List.range n).take j).flatMap (onF n d pre)).length
theorem cntF_succ (n d : Nat) (pre : List Int) {j : Nat} (h : j < n) : cntF n d pre (j + 1) = cntF n d pre j + (onF n d pre j).length := by
  unfold cntF
  rw [List.take_succ_eq_append_getElem (by simpa using h),List.flatMap_append]
  simp
theorem cntF_all (n d : Nat) (pre : List Int) : cntF n d pre n = (tourP n (d + 1) pre).length := by
  unfold cntF
  rw [List.take_of_length_le (by simp),tourP_succ]
theorem onF_at (n d : Nat) (pre : List Int) {j i : Nat} {x : List Int} (h : j < n) (hx : (onF n d pre j)[i]? = some x) : (tourP n (d + 1) pre)[cntF n d pre j + i]? = some x := by
  have e : List.range n = (List.range n).take j ++ (j :: (List.range n).drop (j + 1)) := by
    have h1 := (List.take_append_drop j (List.range n)).symm
    rw [List.drop_eq_getElem_cons (by simpa using h),List.getElem_range] at h1
    exact h1
  rw [tourP_succ]
  conv => lhs; rw [e]
  rw [List.flatMap_append,List.flatMap_cons]
  unfold cntF
  rw [List.getElem?_append_right (by omega),Nat.add_sub_cancel_left,List.getElem?_append_left (List.getElem?_eq_some_iff.1 hx).1]
  exact hx
abbrev selfV (pb yb ob : Nat) : Value := .func (.func 88) #[] #[.pointer (some ⟨pb,0,none⟩),.pointer (some ⟨yb,0,none⟩),.pointer (some ⟨ob,0,none⟩)]
/-- What holds throughout. -/
structure OnC (W : World) (M : Nat → Prop) (l pb : Nat) (A : World) (C : Nat → Prop) : Prop where
  same : Same M W A
  y : A.heap[W.heap.size]? = some (.cells #[.func (.yield l) #[] #[]] 57 (0,0))
  o : A.heap[W.heap.size + 1]? = some (.cells #[selfV pb W.heap.size (W.heap.size + 1)] 57 (0,0))
  cy : ¬ C W.heap.size
  co : ¬ C (W.heap.size + 1)
  old : ∀ k,k < W.heap.size → C k
  bd : ∀ k,C k → k < A.heap.size
theorem OnC.below {W : World} {M : Nat → Prop} {l pb : Nat} {A B : World} {C : Nat → Prop} (h : OnC W M l pb A C) (hb : Below A.heap.size A B) : OnC W M l pb B C :=
  ⟨h.same.trans (Same.of_below _ hb),(hb.block _ (heap_lt h.y)).trans h.y,(hb.block _ (heap_lt h.o)).trans h.o,h.cy,h.co,h.old,fun k hk => Nat.lt_of_lt_of_le (h.bd k hk) hb.size⟩
/-- What is handed over: the i-th way,in memory of its own. -/
def WayOk (n : Nat) (B0 : Nat) (i : Nat) (v : Array Value) (A : World) (K : Nat → Prop) : Prop :=
  ∃ x vc,(toursL n)[i]? = some x ∧ v = #[vc] ∧ A.ownsRow B0 3 1 vc x.length (x.map (Value.int .i64)) ∧ K = fun k => vc.ownBlock = some k
/-- How a call that goes on from some cards may end. -/
def OnPost (W : World) (M : Nat → Prop) (l pb N : Nat) (J Jx : Nat → World → (Nat → Prop) → Prop) (A : World) (C : Nat → Prop) (k i1 : Nat) (r : Bool) (A' : World) : Prop :=
  (r = true → ∃ C' : Nat → Prop,OnC W M l pb A' C' ∧ J i1 A' C' ∧ A.heap.size ≤ A'.heap.size ∧ ∀ b,b < A.heap.size → ¬ C b → ¬ C' b ∧ KeptTo 3 k A A' b) ∧
  (r = false → ∃ (C' : Nat → Prop) (i : Nat),i < N ∧ Jx (i + 1) A' C')
section
variable {n : Nat} {t : Tr} {TA : TrA} {tb pb l : Nat} {W : World} {M : Nat → Prop} {J Jx : Nat → World → (Nat → Prop) → Prop}
/-- What the walk is given. -/
structure OnH (n : Nat) (t : Tr) (TA : TrA) (tb pb l : Nat) (W : World) (M : Nat → Prop) (J Jx : Nat → World → (Nat → Prop) → Prop) : Prop where
  hn : t.frm.length = n
  h6 : n ≤ 6
  tour : ∀ A,Same M W A → A.heap[pb]? = some (.cells #[.pointer (some ⟨tb,0,none⟩)] 69 (0,0)) ∧ TourP A tb t TA
  hJ : ∀ i A B C,J i A C → Same (fun k => ¬ C k) A B → J i B C
  hY : ∀ i v A C K,i < (toursL n).length → WayOk n W.heap.size i v A K → (∀ k,K k → ¬ C k) → J i A C → YieldAt Fence.wide 0 Try.prog l v A fun e B => Same (mayC M W.heap.size C) A B ∧
      ∃ C' : Nat → Prop,(∀ k,k < W.heap.size → C' k) ∧ (∀ k,C' k → k < B.heap.size) ∧ (∀ k,C' k → C k ∨ K k ∨ A.heap.size ≤ k) ∧ ((e = .returned (.bool true) ∧ J (i + 1) B C') ∨ (e = .returned (.bool false) ∧ Jx (i + 1) B C'))
theorem OnH.jb (H : OnH n t TA tb pb l W M J Jx) {i : Nat} {A B : World} {C : Nat → Prop} (h : J i A C) (hb : Below A.heap.size A B) : J i B C := H.hJ _ _ _ _ h (Same.of_below _ hb)
/-- A way that is whole is handed over. -/
theorem yield_leaf (H : OnH n t TA tb pb l W M J Jx) {pre : List Int} {i0 : Nat} {A w : World} {C : Nat → Prop} {vc : Value} (hi : (toursL n)[i0]? = some pre) (hC : OnC W M l pb A C) (hj : J i0 A C) (hb : Below A.heap.size A w)
    (hown : w.ownsRow A.heap.size 3 1 vc pre.length (pre.map (Value.int .i64))) (k : Nat) :
    YieldAt Fence.wide 0 Try.prog l #[vc] w fun e w' => ∃ r,e = .returned (.bool r) ∧ OnPost W M l pb (toursL n).length J Jx A C k (i0 + 1) r w' := by
  have hN : i0 < (toursL n).length := (List.getElem?_eq_some_iff.1 hi).1
  have hWA := hC.same.size
  have hlt : ∀ k,vc.ownBlock = some k → A.heap.size ≤ k := fun k hk => (hown.lt k hk).1
  obtain ⟨fn,tmps,assign,body,hy,hR⟩ := H.hY i0 #[vc] w C (fun k => vc.ownBlock = some k) hN ⟨pre,vc,hi,rfl,own_base hown hWA,rfl⟩ (fun k hk hck => by have := hlt k hk; have := hC.bd k hck; omega) (H.jb hj hb)
  refine ⟨fn,tmps,assign,body,hy,hR.mono ?_⟩
  rintro e B ⟨hs,C',h1,h2,h3,h4⟩
  have hyA := heap_lt hC.y
  have hoA := heap_lt hC.o
  have hout : ∀ b,b < A.heap.size → ¬ C b → ¬ C' b := fun b hb' hn hc => by
    rcases h3 b hc with h | h | h
    · exact hn h
    · have := hlt b h; omega
    · have := hb.size; omega
  have hblk : ∀ b,b < A.heap.size → ¬ C b → B.heap[b]? = A.heap[b]? := fun b hb' hn => (hs.block b (by have := hb.size; omega) (fun hm => hn hm.1)).trans (hb.block b hb')
  rcases h4 with ⟨rfl,hj'⟩ | ⟨rfl,hj'⟩
  · refine ⟨true,rfl,fun _ => ⟨C',⟨?_,(hblk _ hyA hC.cy).trans hC.y,(hblk _ hoA hC.co).trans hC.o,hout _ hyA hC.cy,hout _ hoA hC.co,h1,h2⟩,hj',by have := hb.size; have := hs.size; omega,fun b hb' hn => ⟨hout b hb' hn,KeptTo.of_eq (hblk b hb' hn)⟩⟩,fun h => by cases h⟩
    exact same_later (hC.same.trans (Same.of_below _ hb)) hs (fun i hm => by
      by_cases hi' : i < W.heap.size
      · exact .inl (hm.2 hi')
      · exact .inr (by omega))
  · exact ⟨false,rfl,(fun h => by cases h),fun _ => ⟨C',i0,hN,hj'⟩⟩
set_option maxRecDepth 100000 in
set_option maxHeartbeats 2000000 in
theorem on_leaf (H : OnH n t TA tb pb l W M J Jx) {pre : List Int} {i0 : Nat} {A : World} {C : Nat → Prop} {v : Value} (hl : pre.length = n) 
    (hidx : ∀ (j : Nat) x,(tourP n 0 pre)[j]? = some x → (toursL n)[i0 + j]? = some x) (hC : OnC W M l pb A C) (hown : A.ownsRow (W.heap.size + 2) 3 1 v pre.length (pre.map (Value.int .i64))) (hj : J i0 A C) :
    CallsIn Fence.wide 0 Try.prog 88 #[v,.pointer (some ⟨pb,0,none⟩),.pointer (some ⟨W.heap.size,0,none⟩),.pointer (some ⟨W.heap.size + 1,0,none⟩)] A fun e A' => ∃ r,e = .returned (.bool r) ∧ OnPost W M l pb (toursL n).length J Jx A C pre.length (i0 + 1) r A' := by
  have h6 := H.h6
  obtain ⟨av,cv,rfl,hcv,_⟩ := own_slice hown
  have hpl := H.tour A hC.same
  have k1 : A.cell? ⟨pb,0,none⟩ = some (.pointer (some ⟨tb,0,none⟩)) := by rw [cell_of_heap hpl.1]; rfl
  obtain ⟨_,_,_,_,_,c5⟩ := hpl.2.cells
  rw [H.hn] at c5
  have K2 : Hid (A.cell? ⟨W.heap.size,0,none⟩ = some (.func (.yield l) #[] #[])) := by rw [Hid,cell_of_heap hC.y]; rfl
  have hkn : ((pre.length : Int) == (n : Int)) = true := by rw [hl]; simp
  have HH := Lib.hid (And.intro H (And.intro hidx (And.intro hC (And.intro hown hj))))
  have HLN := Lib.hid hl
  have hl6 : pre.length ≤ 6 := by omega
  clear hpl hC hown hj hidx H hl
  refine callsIn_wide.2 ?_
  go_enter Try.func88,Try.ntmps88
  go_wp2_with fail
  clear k1 c5 hkn
  have hi : (toursL n)[i0]? = some pre := HH.out.2.1 0 pre rfl
  refine wpIn_wide.1 (leaf88 (l := l) (S0 := fun w => Below A.heap.size A w) (S1 := fun vc w => Below A.heap.size A w ∧ w.ownsRow A.heap.size 3 1 vc pre.length (pre.map (Value.int .i64)))
    (S2 := fun _ r w => OnPost W M l pb (toursL n).length J Jx A C pre.length (i0 + 1) r w) ?h0 ?l0 ?c2 ?c3 ?hQ)
  case h0 => exact (Below.refl _ A).drew
  case l0 => exact fun vc w h => cell_stays (h.elim id (·.1)) K2.out
  case c2 => exact fun w hb => (clone89 (own_below HH.out.2.2.2.1 hb) (by omega)).mono fun _ _ ⟨v',h1,h2,h3⟩ => ⟨v',h1,hb.trans (h3.mono hb.size),own_base h2 hb.size⟩
  case c3 => exact fun vc w h => yield_leaf HH.out.1 hi HH.out.2.2.1 HH.out.2.2.2.2 h.1 h.2 _
  intro vc r w' hres
  have HR := Lib.hid hres
  clear hres hi
  go_wp2_with fail
  go_ret
  exact ⟨r,rfl,HR.out⟩
/-- A view more has been appended. -/
structure AppF (W : World) (M : Nat → Prop) (l pb : Nat) (J : Nat → World → (Nat → Prop) → Prop) (wr : World) (C : Nat → Prop) (pre : List Int) (f : Int) (i1 : Nat) (v' : Value) (w' : World) : Prop where
  on : OnC W M l pb w' C
  own : w'.ownsRow (W.heap.size + 2) 3 1 v' (pre ++ [f]).length ((pre ++ [f]).map (Value.int .i64))
  nc : ∀ g,v'.ownBlock = some g → ¬ C g
  j : J i1 w' C
  sz : wr.heap.size ≤ w'.heap.size
  kept : ∀ b,b < wr.heap.size → ¬ C b → KeptTo 3 pre.length wr w' b
theorem app_more (H : OnH n t TA tb pb l W M J Jx) {pre : List Int} {f : Int} {i1 : Nat} {wr w : World} {C : Nat → Prop} {av : Option Addr} {cv gx : Nat} (hk : pre.length ≤ 16) (hC : OnC W M l pb wr C) (hj : J i1 wr C)
    (hown : wr.ownsRow (W.heap.size + 2) 3 1 (.slice av pre.length cv) pre.length (pre.map (Value.int .i64))) (hnc : ∀ g,(Value.slice av pre.length cv).ownBlock = some g → ¬ C g) (hb : Below wr.heap.size wr w) (hg : w.heap[gx]? = some (.cells #[.int .i64 f] 3 (0,0))) :
    ∃ v' w',(Builtin.append_ #[26,26] 26 #[.slice av pre.length cv,.slice (some ⟨gx,0,none⟩) 1 1]).run Try.prog w = .ok v' w' ∧ AppF W M l pb J wr C pre f i1 v' w' := by
  obtain ⟨i0,hi0,hz0,hz1,hz2⟩ := info_parts infoI
  have hsz2 : W.heap.size + 2 ≤ wr.heap.size := by have := heap_lt hC.o; omega
  obtain ⟨v',w',hr,h2,h3,h4,h5⟩ := append_keep (P := Try.prog) (w := w) (W.heap.size + 2) 26 26 3 i0 _ 8 Try.underlying26 hi0 hz0 hz1 hz2 rfl _ _ _ (own_below hown hb) ⟨gx,0,none⟩ (.int .i64 f) (by rw [cell_of_heap hg]; rfl) rfl (by simp [maxLen]; omega) (by omega) (by have := hb.size; omega)
  have hrow : ∀ k,(Value.slice av pre.length cv).ownBlock = some k → W.heap.size + 2 ≤ k ∧ k < wr.heap.size := fun k hk => hown.lt k hk
  have hC' := hC.below hb
  refine ⟨v',w',hr,⟨?_,?_,?_,?_,by have := hb.size; have := h3.size; omega,?_⟩⟩
  · refine ⟨hC'.same.grown h3 (fun k hk => .inr (by have := hrow k hk; omega)),(h3.block _ (heap_lt hC'.y) (fun e => by have := hrow _ e.symm; omega)).trans hC'.y,(h3.block _ (heap_lt hC'.o) (fun e => by have := hrow _ e.symm; omega)).trans hC'.o,hC.cy,hC.co,hC.old,fun k hk => Nat.lt_of_lt_of_le (hC'.bd k hk) h3.size⟩
  · have e : (pre ++ [f]).length = pre.length + 1 := by simp
    have e2 : (pre ++ [f]).map (Value.int .i64) = pre.map (Value.int .i64) ++ [.int .i64 f] := by simp
    rw [e,e2]
    exact h2
  · intro g hg'
    rcases h4 with h4 | h4
    · rw [h4] at hg'; exact hnc g hg'
    · rw [h4] at hg'
      cases hg'
      exact fun hc => by have := hC'.bd _ hc; omega
  · refine H.hJ _ _ _ _ (H.jb hj hb) ?_
    exact ⟨h3.os,h3.tape,h3.output,h3.size,fun k hk hn => h3.block k hk (fun e => hn (hnc k e.symm))⟩
  · intro b hb' hn
    have hbw : b < w.heap.size := by have := hb.size; omega
    have h1 : KeptTo 3 pre.length wr w b := KeptTo.of_eq (hb.block b hb')
    by_cases e : (Value.slice av pre.length cv).ownBlock = some b
    · exact h1.trans (h5 b e)
    · exact h1.trans (KeptTo.of_eq (h3.block b hbw (fun e' => e e'.symm)))
set_option maxRecDepth 100000 in
set_option maxHeartbeats 4000000 in
theorem on_any (H : OnH n t TA tb pb l W M J Jx) : ∀ (d : Nat) (pre : List Int) (i0 : Nat) (A : World) (C : Nat → Prop) (v : Value),pre.length + d = n →
    (∀ (j : Nat) x,(tourP n d pre)[j]? = some x → (toursL n)[i0 + j]? = some x) → OnC W M l pb A C → A.ownsRow (W.heap.size + 2) 3 1 v pre.length (pre.map (Value.int .i64)) → (∀ g,v.ownBlock = some g → ¬ C g) → J i0 A C →
    CallsIn Fence.wide 0 Try.prog 88 #[v,.pointer (some ⟨pb,0,none⟩),.pointer (some ⟨W.heap.size,0,none⟩),.pointer (some ⟨W.heap.size + 1,0,none⟩)] A fun e A' => ∃ r,e = .returned (.bool r) ∧ OnPost W M l pb (toursL n).length J Jx A C pre.length (i0 + (tourP n d pre).length) r A' := by
  intro d
  induction d with
  | zero => exact fun pre i0 A C v hl hidx hC hown _ hj => on_leaf H hl hidx hC hown hj
  | succ d ih =>
    intro pre i0 A C v hl hidx hC hown hnc hj
    have h6 := H.h6
    obtain ⟨av,cv,rfl,hcv,_⟩ := own_slice hown
    have HIH := Lib.hid ih
    have hk5 : pre.length ≤ 5 := by omega
    have hkn : ((pre.length : Int) == (n : Int)) = false := by simp; omega
    have hpl := H.tour A hC.same
    have k1 : A.cell? ⟨pb,0,none⟩ = some (.pointer (some ⟨tb,0,none⟩)) := by rw [cell_of_heap hpl.1]; rfl
    obtain ⟨_,_,_,_,_,c5⟩ := hpl.2.cells
    rw [H.hn] at c5
    have HLD := Lib.hid hl
    have HH := Lib.hid (And.intro H (And.intro hidx (And.intro hC (And.intro hown (And.intro hnc hj)))))
    clear hpl hidx hC hown hnc hj H hl ih
    refine callsIn_wide.2 ?_
    go_enter Try.func88,Try.ntmps88
    go_wp2_with fail
    clear k1 c5 hkn
    go_loopw [22] (fun q wr => ∃ (j : Nat) (C' : Nat → Prop),j ≤ n ∧ q = .int .i64 (j : Int) ∧ Hid (OnC W M l pb wr C' ∧ J (i0 + cntF n d pre j) wr C' ∧ A.heap.size ≤ wr.heap.size ∧ ∀ b,b < A.heap.size → ¬ C b → ¬ C' b ∧ KeptTo 3 pre.length A wr b)) (fun q _ => n - (intOf q).toNat)
    case atStart => exact ⟨0,C,by omega,rfl,HH.out.2.2.1,HH.out.2.2.2.2.2,Nat.le_refl _,fun b _ hn => ⟨hn,KeptTo.of_eq rfl⟩⟩
    case round =>
      obtain ⟨j,C',hjn,rfl,HR⟩ := hrel
      obtain ⟨H,hidx,hC0,hown0,hnc0,_⟩ := HH.out
      obtain ⟨hC,hj,hsz,hkp⟩ := HR.out
      by_cases hlt : j < n
      · have HCS := Lib.hid (cntF_succ n d pre hlt)
        have hown : wr.ownsRow (W.heap.size + 2) 3 1 (.slice av pre.length cv) pre.length (pre.map (Value.int .i64)) := own_keptTo hown0 (fun b hb => (hkp b (hown0.lt b hb).2 (hnc0 b hb)).2)
        have hnc : ∀ g,(Value.slice av pre.length cv).ownBlock = some g → ¬ C' g := fun b hb => (hkp b (hown0.lt b hb).2 (hnc0 b hb)).1
        have hints := own_ints hown
        by_cases hfk : (j : Int) ∈ pre
        · have HF : Hid (onF n d pre j = []) := by rw [Hid]; unfold onF; rw [if_pos hfk]
          have HCT : Hid (∀ w,Below wr.heap.size wr w → Calls Try.prog 90 #[.slice av pre.length cv,.int .i64 (j : Int)] w fun e w' => ∃ u : Unit,e = .returned (.bool true) ∧ Below wr.heap.size wr w') := fun w hb =>
            (contains90 (by omega) (hints.mono hb)).mono (by rintro e w' ⟨rfl,rfl⟩; exact ⟨(),by simp [hfk],hb⟩)
          clear hfk hown hnc hC hj hkp hown0 hnc0 hC0 hidx H hints
          go_wp2_with fail
          refine wpIn_wide.1 (skip88 (pb := 0) (yb := 0) (S0 := fun w => Below wr.heap.size wr w) (S1 := fun _ w => Below wr.heap.size wr w) (Below.refl _ wr).drew HCT ?_)
          intro _ w' hbw
          have HB := Lib.hid hbw
          clear hbw
          go_wp2_with fail
          go_roundw
          case rel =>
            obtain ⟨hC,hj,hsz,hkp⟩ := HR.out
            refine ⟨j + 1,C',by omega,by go_num,hC.below HB.out,?_,by have := HB.out.size; omega,fun b hb hn => ⟨(hkp b hb hn).1,(hkp b hb hn).2.trans (KeptTo.of_eq (HB.out.block b (by omega)))⟩⟩
            rw [HCS.out,HF.out]
            exact HH.out.1.jb hj HB.out
          case measure => simp [intOf]; omega
        · have HF : Hid (onF n d pre j = tourP n d (pre ++ [(j : Int)])) := by rw [Hid]; unfold onF; rw [if_neg hfk]
          have HCT : Hid (∀ w,Below wr.heap.size wr w → Calls Try.prog 90 #[.slice av pre.length cv,.int .i64 (j : Int)] w fun e w' => ∃ u : Unit,e = .returned (.bool false) ∧ Below wr.heap.size wr w') := fun w hb =>
            (contains90 (by omega) (hints.mono hb)).mono (by rintro e w' ⟨rfl,rfl⟩; exact ⟨(),by simp [hfk],hb⟩)
          have HO : Hid (∀ w,Below wr.heap.size wr w → w.cell? ⟨W.heap.size + 1,0,none⟩ = some (selfV pb W.heap.size (W.heap.size + 1))) := fun w hbw => by
            have := (hC.below hbw).o
            rw [cell_of_heap this]; rfl
          have HO' : Hid (∀ v w,AppF W M l pb J wr C' pre (j : Int) (i0 + cntF n d pre j) v w → w.cell? ⟨W.heap.size + 1,0,none⟩ = some (selfV pb W.heap.size (W.heap.size + 1))) := fun v w h => by
            have := h.on.o
            rw [cell_of_heap this]; rfl
          have HAP : Hid (∀ (w : World) (gx : Nat),Below wr.heap.size wr w → w.heap[gx]? = some (.cells #[.int .i64 (j : Int)] 3 (0,0)) → ∃ v' w',(Builtin.append_ #[26,26] 26 #[.slice av pre.length cv,.slice (some ⟨gx,0,none⟩) 1 1]).run Try.prog w = .ok v' w' ∧ AppF W M l pb J wr C' pre (j : Int) (i0 + cntF n d pre j) v' w') :=
            fun w gx hbw hg => app_more H (by omega) hC hj hown hnc hbw hg
          have HON : Hid (∀ v w,AppF W M l pb J wr C' pre (j : Int) (i0 + cntF n d pre j) v w → CallsIn Fence.wide 0 Try.prog 88 #[v,.pointer (some ⟨pb,0,none⟩),.pointer (some ⟨W.heap.size,0,none⟩),.pointer (some ⟨W.heap.size + 1,0,none⟩)] w fun e w' => ∃ r,e = .returned (.bool r) ∧ OnPost W M l pb (toursL n).length J Jx wr C' pre.length (i0 + cntF n d pre (j + 1)) r w') := fun v w h => by
            refine (HIH.out (pre ++ [(j : Int)]) (i0 + cntF n d pre j) w C' v (by have := HLD.out; simp; omega) (fun i x hx => ?_) h.on h.own h.nc h.j).mono ?_
            · have := hidx (cntF n d pre j + i) x (onF_at n d pre hlt (by rw [HF.out]; exact hx))
              rwa [← Nat.add_assoc] at this
            · rintro e w' ⟨r,rfl,h1,h2⟩
              refine ⟨r,rfl,fun hr' => ?_,h2⟩
              obtain ⟨C2,k1,k2,k3,k4⟩ := h1 hr'
              rw [Nat.add_assoc,← HF.out,← HCS.out] at k2
              refine ⟨C2,k1,k2,Nat.le_trans h.sz k3,fun b hb' hn => ?_⟩
              have := k4 b (Nat.lt_of_lt_of_le hb' h.sz) hn
              exact ⟨this.1,(h.kept b hb' hn).trans (this.2.mono (by simp))⟩
          clear hfk hown hnc hC hj hkp hown0 hnc0 hC0 hidx H hints
          go_wp2_with fail
          refine wpIn_wide.1 (more88 (pb := pb) (yb := W.heap.size) (S0 := fun w => Below wr.heap.size wr w) (S1 := fun _ w => Below wr.heap.size wr w) (S2 := fun _ xs w => Below wr.heap.size wr w ∧ ∃ g,xs = .slice (some ⟨g,0,none⟩) 1 1 ∧ w.heap[g]? = some (.cells #[.int .i64 (j : Int)] 3 (0,0)))
            (S3 := fun _ _ v w => AppF W M l pb J wr C' pre (j : Int) (i0 + cntF n d pre j) v w) (S4 := fun _ _ _ r w => OnPost W M l pb (toursL n).length J Jx wr C' pre.length (i0 + cntF n d pre (j + 1)) r w) (Below.refl _ wr).drew HCT ?l5 ?c8 ?c9 ?c10 ?hQ)
          case l5 =>
            intro _ xs v w h
            rcases h with h | h | h
            · exact HO.out w h
            · exact HO.out w h.1
            · exact HO'.out v w h
          case c8 => exact fun _ w h => ⟨h.alloc h.size _,_,rfl,World.alloc_heap_new w _⟩
          case c9 =>
            rintro _ xs w ⟨h,g,rfl,hg⟩
            exact HAP.out w g h hg
          case c10 => exact fun _ _ v w h => HON.out v w h
          intro _ _ _ r w' hres
          have HRS := Lib.hid hres
          clear hres
          cases r with
          | true =>
            go_wp2_with fail
            go_roundw
            case rel =>
              obtain ⟨_,_,hsz,hkp⟩ := HR.out
              obtain ⟨C2,k1,k2,k3,k4⟩ := HRS.out.1 rfl
              refine ⟨j + 1,C2,by omega,by go_num,k1,k2,Nat.le_trans hsz k3,fun b hb hn => ?_⟩
              have h1 := hkp b hb hn
              have h2 := k4 b (by omega) h1.1
              exact ⟨h2.1,h1.2.trans h2.2⟩
            case measure => simp [intOf]; omega
          | false =>
            go_wp2_with fail
            go_ret
            exact ⟨false,rfl,(fun h => by cases h),fun _ => HRS.out.2 rfl⟩
      · obtain rfl : j = n := by omega
        have HX : Hid (i0 + cntF j d pre j = i0 + (tourP j (d + 1) pre).length) := by rw [Hid,cntF_all]
        clear hC hj hkp hown0 hnc0 hC0 hidx H
        go_wp2_with fail
        go_ret
        refine ⟨true,rfl,fun _ => ?_,fun h => by cases h⟩
        rw [← HX.out]
        exact ⟨C',HR.out⟩
end
theorem tours67 {w : World} {tb : Nat} : Calls Try.prog 67 #[.pointer (some ⟨tb,0,none⟩)] w fun e w' => e = .returned (.func (.func 87) #[] #[.pointer (some ⟨w.heap.size,0,none⟩)]) ∧ w' = w.alloc (.cells #[.pointer (some ⟨tb,0,none⟩)] 69) := by
  have hmf : ∀ (fn : Fn) (first cap : Array Value) (w : World),(Instr.makeFunc fn first cap).run Try.prog w = .ok (.func fn first cap) w := fun _ _ _ _ => rfl
  go_enter Try.func67,Try.ntmps67
  go_wp2
  go_ret
  exact ⟨rfl,rfl⟩
set_option maxRecDepth 100000 in
set_option maxHeartbeats 2000000 in
theorem tours_iter {t : Tr} {TA : TrA} {tb pb : Nat} {W : World} {M : Nat → Prop} (h6 : t.frm.length ≤ 6)
    (htour : ∀ A,Same M W A → A.heap[pb]? = some (.cells #[.pointer (some ⟨tb,0,none⟩)] 69 (0,0)) ∧ TourP A tb t TA) :
    IterC Try.prog 87 #[.pointer (some ⟨pb,0,none⟩)] (toursL t.frm.length).length (WayOk t.frm.length W.heap.size) M W := by
  intro l J Jx hJ hJx hY h0
  have hmf : ∀ (fn : Fn) (first cap : Array Value) (w : World),(Instr.makeFunc fn first cap).run Try.prog w = .ok (.func fn first cap) w := fun _ _ _ _ => rfl
  have H : OnH t.frm.length t TA tb pb l W M J Jx := ⟨rfl,h6,htour,hJ,hY⟩
  obtain ⟨W1,hW1⟩ : ∃ W1 : World,W1 = (W.alloc (.cells #[.func (.yield l) #[] #[]] 57)).alloc (.cells #[selfV pb W.heap.size (W.heap.size + 1)] 57) := ⟨_,rfl⟩
  have hb1 : Below W.heap.size W W1 := by rw [hW1]; exact ((Below.refl _ W).alloc (Nat.le_refl _) _).alloc (by simp) _
  have q0 : W1.heap[W.heap.size]? = some (.cells #[.func (.yield l) #[] #[]] 57 (0,0)) := by rw [hW1]; exact (Below.heap_alloc _ _ _ (by simp)).trans (World.alloc_heap_new W _)
  have q1 : W1.heap[W.heap.size + 1]? = some (.cells #[selfV pb W.heap.size (W.heap.size + 1)] 57 (0,0)) := by
    rw [hW1]
    have := World.alloc_heap_new (W.alloc (.cells #[.func (.yield l) #[] #[]] 57)) (.cells #[selfV pb W.heap.size (W.heap.size + 1)] 57)
    rwa [World.size_alloc] at this
  have hz1 := hb1.size
  have hC : OnC W M l pb W1 (fun k => k < W.heap.size) := ⟨Same.of_below _ hb1,q0,q1,fun h => by omega,fun h => by omega,fun k hk => hk,fun k hk => by omega⟩
  have hj : J 0 W1 (fun k => k < W.heap.size) := hJ _ _ _ _ h0 ⟨hb1.os,hb1.tape,hb1.output,hb1.size,fun k hk hn => hb1.block k (by omega)⟩
  have hcall := callsIn_wide.1 (on_any H t.frm.length [] 0 W1 (fun k => k < W.heap.size) (.slice none 0 0) (by simp) (fun j x hx => by rw [Nat.zero_add]; exact hx) hC (World.ownsRow_nil W1 _ _ _) (fun g hg => by cases hg) hj)
  rw [Nat.zero_add] at hcall
  have HC := Lib.hid hcall
  have HW1 := Lib.hid hW1
  clear hcall hj hC q0 q1 hb1 hW1 H hY h0 hJ hJx htour hz1
  refine callsIn_wide.2 ?_
  go_enter Try.func87,Try.ntmps87
  go_wp2_with fail
  have hW1 := HW1.out
  rw [← hW1]
  clear hW1
  refine HC.out.mono ?_
  rintro e W' ⟨r,rfl,h1,h2⟩
  have HR := Lib.hid (And.intro h1 h2)
  clear h1 h2
  go_wp2_with fail
  go_end0
  refine ⟨⟨_,rfl⟩,?_⟩
  cases r with
  | true =>
    obtain ⟨C',_,h,_⟩ := HR.out.1 rfl
    exact ⟨C',.inl h⟩
  | false =>
    obtain ⟨C',i,hi,h⟩ := HR.out.2 rfl
    exact ⟨C',.inr ⟨i,hi,h⟩⟩
end Go.Proofs.Ytphefhpmbahagaa
