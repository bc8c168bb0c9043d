/- A row without some marks. A range over a function, by the list of what is still to come. A range over a function, by the list of what is still to come: a round's assignment lays new blocks. All pairs that fit: the iterator. How many ways there are: plain words; what is known of it. How many ways there are: the drawn regions. How many ways there are: the closure. -/
import Derived.Test.YtbnhngfegnhaiaaDoorC4
import Derived.BigRegionIn
import Derived.BigGuardIn
namespace Go.Proofs.YtbnhngfegnhaiaaDoor
open Go.RowKit
set_option linter.unusedVariables false
set_option linter.unusedSimpArgs false
/-- The numbers below n that are not in a set. -/
def keptI (A n : Nat) : List Nat := (List.range n).filter fun i => !A.testBit i
/-- A row without the marks of a set. -/
def keptL (l : List Mrk) (A : Nat) : List Mrk := (keptI A l.length).map (gm l)
theorem keptI_succ (A n : Nat) : keptI A (n + 1) = if A.testBit n then keptI A n else keptI A n ++ [n] := by
  unfold keptI
  rw [List.range_succ, List.filter_append]
  cases h : A.testBit n <;> simp [h]
theorem keptI_len (A : Nat) : ∀ n, (keptI A n).length ≤ n
  | 0 => by simp [keptI]
  | n + 1 => by
    have ih := keptI_len A n
    rw [keptI_succ]
    split
    · omega
    · rw [List.length_append]; simp; omega
theorem mks_one {w : World} {b : Nat} {m : Mrk} {ty : TypeId} (hq : w.heap[b]? = some (.cells m.arr ty (0, 0))) : IsMks w (some ⟨b, 0, none⟩) [m] := fun i hi => by
  have h0 : i = 0 := by simpa using hi
  subst h0
  exact ⟨b, 0, rfl, mrk_cells hq⟩
theorem own_lo {w : World} {base : Nat} {ad : Addr} {n cap m : Nat} {xs : List Value} (h : w.ownsRow base 30 4 (.slice (some ad) n cap) m xs) : base ≤ ad.block := by
  rcases h.2 with ⟨h0, _⟩ | ⟨g', cap', cur, h0, hb, _⟩
  · cases h0
  · cases h0
    exact hb
theorem IsMks.setCell {w : World} {a : Option Addr} {l : List Mrk} {b k : Nat} {x : Value} (h : IsMks w a l) (hne : ∀ ad, a = some ad → b < ad.block) : IsMks (w.setCell ⟨b, k, none⟩ x) a l := fun i hi => by
  obtain ⟨g, off, rfl, hc⟩ := h i hi
  have hg := hne _ rfl
  have hs : Same (fun j => j = b) w (w.setCell ⟨b, k, none⟩ x) := (Same.refl (fun j => j = b) w).setCell (p := ⟨b, k, none⟩) (.inl rfl) _
  have hm : ¬ g = b := by have : b < g := hg; omega
  exact ⟨g, off, rfl, hs.cell hc.c0 hm, hs.cell hc.c1 hm, hs.cell hc.c2 hm, hs.cell hc.c3 hm⟩
set_option maxRecDepth 100000 in
set_option maxHeartbeats 8000000 in
theorem kept117 {l : List Mrk} {a : Option Addr} {c A : Nat} {w : World} (hl : l.length ≤ 10) (hA : A < 1024) (ha : IsMks w a l) :
    Calls Tryd.prog 117 #[.slice a l.length c, .int .u64 A] w fun e w' => ∃ q : Option Addr × Nat, e = .returned (.slice q.1 (keptL l A).length q.2) ∧ IsMks w' q.1 (keptL l A) ∧ (∀ ad, q.1 = some ad → w.heap.size ≤ ad.block) ∧ Below w.heap.size w w' := by
  have HM := Lib.hid ha
  have HA := Lib.hid hA
  have hl2 : (l.length : Int) ≤ 10 := by omega
  clear ha hA
  go_enter Tryd.func117, Tryd.ntmps117
  go_wp2_with fail
  go_loopw [4, 9] (fun v i wr => ∃ k : Nat, k ≤ l.length ∧ i = .int .i64 (k : Int) ∧ Hid (wr.ownsRow w.heap.size 30 4 v ((keptI A k).map (gm l)).length (mksL ((keptI A k).map (gm l))) ∧ Below w.heap.size w wr)) (fun _ i _ => l.length - (intOf i).toNat)
  case atStart => exact ⟨0, Nat.zero_le _, rfl, World.ownsRow_nil _ _ _ _, Below.refl _ _⟩
  case round =>
    obtain ⟨k, hk, rfl, HW⟩ := hrel
    have hk2 : (k : Int) ≤ l.length := by omega
    by_cases hlt : k < l.length
    · have hlt' : (k : Int) < l.length := by omega
      obtain ⟨b, off, rfl, hcm⟩ := HM.out k hlt
      have hcm := hcm.mono HW.out.2
      have c0 := hcm.c0
      have c1 := hcm.c1
      have c2 := hcm.c2
      have c3 := hcm.c3
      clear hcm
      have HV : Hid (wr.ownsRow w.heap.size 30 4 u4 ((keptI A k).map (gm l)).length (mksL ((keptI A k).map (gm l))) ∧ Below w.heap.size w wr) := HW.out
      have HN : Hid ((wr.alloc (.cells (gm l k).arr 30)).ownsRow w.heap.size 30 4 u4 ((keptI A k).map (gm l)).length (mksL ((keptI A k).map (gm l))) ∧ Below w.heap.size w (wr.alloc (.cells (gm l k).arr 30)) ∧ (wr.alloc (.cells (gm l k).arr 30)).heap[wr.heap.size]? = some (.cells (gm l k).arr 30 (0, 0))) :=
        ⟨own_below HW.out.1 (alloc_below wr _), HW.out.2.trans ((alloc_below wr _).mono HW.out.2.size), World.alloc_heap_new _ _⟩
      have hAK := HA.out
      cases hb : A.testBit k with
      | true =>
        have HK : Hid ((keptI A (k + 1)).map (gm l) = (keptI A k).map (gm l)) := by rw [Hid, keptI_succ, if_pos hb]
        go_wp2_with fail
        refine (has118 hAK (k := k) (by omega) _).mono ?_
        rintro e w' ⟨rfl, rfl⟩
        rw [hb]
        go_wp2_with fail
        go_roundw
        case rel => exact ⟨k + 1, by omega, by go_num, by rw [Hid, HK.out]; exact ⟨HN.out.1, HN.out.2.1⟩⟩
        case measure => simp [intOf]; omega
      | false =>
        have HK : Hid ((keptI A (k + 1)).map (gm l) = (keptI A k).map (gm l) ++ [gm l k]) := by rw [Hid, keptI_succ, if_neg (by rw [hb]; decide), List.map_append]; rfl
        go_wp2_with fail
        refine (has118 hAK (k := k) (by omega) _).mono ?_
        rintro e w' ⟨rfl, rfl⟩
        rw [hb]
        clear c0 c1 c2 c3 HV HW
        revert HN
        generalize wr.alloc (.cells (gm l k).arr 30) = w2
        generalize wr.heap.size = p6
        intro HN
        have m0 : w2.cell? ⟨p6, 0, none⟩ = some (.int .i64 (gm l k).pos.lo) := by rw [cell_of_heap HN.out.2.2]; rfl
        have m1 : w2.cell? ⟨p6, 1, none⟩ = some (.int .i64 (gm l k).pos.hi) := by rw [cell_of_heap HN.out.2.2]; rfl
        have m2 : w2.cell? ⟨p6, 2, none⟩ = some (.int .i64 (gm l k).tone.lo) := by rw [cell_of_heap HN.out.2.2]; rfl
        have m3 : w2.cell? ⟨p6, 3, none⟩ = some (.int .i64 (gm l k).tone.hi) := by rw [cell_of_heap HN.out.2.2]; rfl
        have hlen : ((keptI A k).map (gm l)).length ≤ 10 := by rw [List.length_map]; exact Nat.le_trans (keptI_len A k) (by omega)
        obtain ⟨v', w', hr, ho, hbb, hsz⟩ := append_mks (c := 1) (a := some ⟨w2.heap.size, 0, none⟩) (x := [gm l k]) (W := w) (w := w2.alloc (.cells (gm l k).arr 30)) (B := w.heap.size) (v := u4) (l := (keptI A k).map (gm l)) (HN.out.2.1.trans ((alloc_below w2 _).mono HN.out.2.1.size)) (Nat.le_trans HN.out.2.1.size (alloc_below w2 _).size) (own_below HN.out.1 (alloc_below w2 _)) (mks_one (World.alloc_heap_new w2 _)) (by simp at hlen ⊢; omega)
        have HRUN : Hid ((Builtin.append_ #[22, 22] 22 #[u4, .slice (some ⟨w2.heap.size, 0, none⟩) 1 1]).run Tryd.prog (w2.alloc (.cells (gm l k).arr 30)) = .ok v' w') := hr
        have HNN := Lib.hid (And.intro ho hbb)
        clear hr ho hbb hsz hlen
        go_wp2_with (at_builtin; refine wpList_append_run rfl (.tmp 18) (.tmp 20) 22 rfl u4 (.slice (some ⟨w2.heap.size, 0, none⟩) 1 1) v' w' rfl rfl HRUN.out ?_)
        clear m0 m1 m2 m3
        go_roundw
        case rel => exact ⟨k + 1, by omega, by go_num, by rw [Hid, HK.out]; exact HNN.out⟩
        case measure => simp [intOf]; omega
    · have hlt' : ¬ (k : Int) < l.length := by omega
      have HE : Hid (keptL l A = (keptI A k).map (gm l)) := by
        have : k = l.length := by omega
        rw [Hid, this]
        rfl
      obtain ⟨a', cap, rfl, _, _⟩ := own_slice HW.out.1
      go_wp2_with fail
      go_ret
      rw [HE.out]
      exact ⟨a', ⟨cap, by rw [List.length_map]; rfl⟩, own_marks HW.out.1, fun ad e => own_lo (e ▸ HW.out.1), HW.out.2⟩
set_option maxRecDepth 100000 in
set_option maxHeartbeats 8000000 in
theorem without63 {l : List Mrk} {a : Option Addr} {c A : Nat} {w : World} (hl : l.length ≤ 10) (hA : A < 1024) (ha : IsMks w a l) :
    Calls Tryd.prog 63 #[.slice a l.length c, .int .i64 A] w fun e w' => ∃ q : Option Addr × Nat, e = .returned (.slice q.1 (keptL l A).length q.2) ∧ IsMks w' q.1 (keptL l A) ∧ (∀ ad, q.1 = some ad → w.heap.size ≤ ad.block) ∧ Below w.heap.size w w' := by
  have HM := Lib.hid ha
  have HA := Lib.hid hA
  have hl2 : (l.length : Int) ≤ 10 := by omega
  clear ha hA
  go_enter Tryd.func63, Tryd.ntmps63
  go_wp2_with fail
  go_loopw [5, 6] (fun v i wr => ∃ k : Nat, k ≤ l.length ∧ i = .int .i64 (k : Int) ∧ Hid (wr.ownsRow w.heap.size 30 4 v ((keptI A k).map (gm l)).length (mksL ((keptI A k).map (gm l))) ∧ Below w.heap.size w wr)) (fun _ i _ => l.length - (intOf i).toNat)
  case atStart => exact ⟨0, Nat.zero_le _, rfl, World.ownsRow_nil _ _ _ _, Below.refl _ _⟩
  case round =>
    obtain ⟨k, hk, rfl, HW⟩ := hrel
    have hk2 : (k : Int) ≤ l.length := by omega
    by_cases hlt : k < l.length
    · have hlt' : (k : Int) < l.length := by omega
      obtain ⟨b, off, rfl, hcm⟩ := HM.out k hlt
      have hcm := hcm.mono HW.out.2
      have c0 := hcm.c0
      have c1 := hcm.c1
      have c2 := hcm.c2
      have c3 := hcm.c3
      clear hcm
      have HV : Hid (wr.ownsRow w.heap.size 30 4 u5 ((keptI A k).map (gm l)).length (mksL ((keptI A k).map (gm l))) ∧ Below w.heap.size w wr) := HW.out
      have hAK := HA.out
      cases hb : A.testBit k with
      | true =>
        have HK : Hid ((keptI A (k + 1)).map (gm l) = (keptI A k).map (gm l)) := by rw [Hid, keptI_succ, if_pos hb]
        go_wp2_with fail
        refine (has99 hAK (k := k) (by omega) _).mono ?_
        rintro e w' ⟨rfl, rfl⟩
        rw [hb]
        go_wp2_with fail
        go_roundw
        case rel => exact ⟨k + 1, by omega, by go_num, by rw [Hid, HK.out]; exact HV.out⟩
        case measure => simp [intOf]; omega
      | false =>
        have HK : Hid ((keptI A (k + 1)).map (gm l) = (keptI A k).map (gm l) ++ [gm l k]) := by rw [Hid, keptI_succ, if_neg (by rw [hb]; decide), List.map_append]; rfl
        go_wp2_with fail
        refine (has99 hAK (k := k) (by omega) _).mono ?_
        rintro e w' ⟨rfl, rfl⟩
        rw [hb]
        have hlen : ((keptI A k).map (gm l)).length ≤ 10 := by rw [List.length_map]; exact Nat.le_trans (keptI_len A k) (by omega)
        obtain ⟨v', w', hr, ho, hbb, hsz⟩ := append_mks (c := 1) (a := some ⟨wr.heap.size, 0, none⟩) (x := [gm l k]) (W := w) (w := wr.alloc (.cells (gm l k).arr 30)) (B := w.heap.size) (v := u5) (l := (keptI A k).map (gm l)) (HV.out.2.trans ((alloc_below wr _).mono HV.out.2.size)) (Nat.le_trans HV.out.2.size (alloc_below wr _).size) (own_below HV.out.1 (alloc_below wr _)) (mks_one (World.alloc_heap_new wr _)) (by simp at hlen ⊢; omega)
        have HRUN : Hid ((Builtin.append_ #[22, 22] 22 #[u5, .slice (some ⟨wr.heap.size, 0, none⟩) 1 1]).run Tryd.prog (wr.alloc (.cells (gm l k).arr 30)) = .ok v' w') := hr
        have HNN := Lib.hid (And.intro ho hbb)
        clear hr ho hbb hsz hlen HW HV
        go_wp2_with (at_builtin; refine wpList_append_run rfl (.tmp 17) (.tmp 22) 22 rfl u5 (.slice (some ⟨wr.heap.size, 0, none⟩) 1 1) v' w' rfl rfl HRUN.out ?_)
        clear c0 c1 c2 c3
        go_roundw
        case rel => exact ⟨k + 1, by omega, by go_num, by rw [Hid, HK.out]; exact HNN.out⟩
        case measure => simp [intOf]; omega
    · have hlt' : ¬ (k : Int) < l.length := by omega
      have HE : Hid (keptL l A = (keptI A k).map (gm l)) := by
        have : k = l.length := by omega
        rw [Hid, this]
        rfl
      obtain ⟨a', cap, rfl, _, _⟩ := own_slice HW.out.1
      go_wp2_with fail
      go_ret
      rw [HE.out]
      exact ⟨a', ⟨cap, by rw [List.length_map]; rfl⟩, own_marks HW.out.1, fun ad e => own_lo (e ▸ HW.out.1), HW.out.2⟩
end Go.Proofs.YtbnhngfegnhaiaaDoor
namespace Go.Proofs.YtbnhngfegnhaiaaDoor
open Go.RowKit
section
variable {P : Program}
/-- An iterator that hands over the elements of a list, as long as the rounds want more, and else only lays new blocks. C: the consumer's blocks; K: the blocks of an element, which the consumer may keep. -/
def IterL {α : Type} (P : Program) (g : Nat) (lb : Array Value) (L : List α) (Ok : α → Array Value → World → (Nat → Prop) → Prop) (M : Nat → Prop) (W : World) : Prop :=
  ∀ (l : Nat) (J Jx : List α → World → (Nat → Prop) → Prop),
    (∀ i A B C, J i A C → Same (fun _ => False) A B → J i B C) → (∀ i A B C, Jx i A C → Same (fun _ => False) A B → Jx i B C) →
    (∀ x i v A C K, Ok x v A K → (∀ k, K k → ¬ C k) → J (x :: i) A C → YieldAt Fence.wide 0 P l v A fun e B => Same (mayC M W.heap.size C) A B ∧
      ∃ C' : Nat → Prop, (∀ k, k < W.heap.size → C' k) ∧ (∀ k, C' k → k < B.heap.size) ∧ (∀ k, C' k → C k ∨ K k ∨ A.heap.size ≤ k) ∧ ((e = .returned (.bool true) ∧ J i B C') ∨ (e = .returned (.bool false) ∧ Jx i B C'))) →
    J L W (fun k => k < W.heap.size) →
    CallsIn Fence.wide 0 P g (#[.func (.yield l) #[] #[]] ++ lb) W fun e W' => (∃ v, e = .returned v) ∧ ∃ C', J [] W' C' ∨ ∃ i, Jx i W' C'
/-- How a round's body may end. -/
def roundEndL {α : Type} (l B : Nat) (M C K : Nat → Prop) (I : List α → World → (Nat → Prop) → Prop) (Ix : Code → List α → World → (Nat → Prop) → Prop) (i : List α) (W : World) : Exit → Act → World → Prop
  | .normal, _, W' => Same (mayC M B C) W W' ∧ W'.heap[l]? = W.heap[l]? ∧ ∃ C' : Nat → Prop, (∀ k, k < B → C' k) ∧ (∀ k, C' k → k < W'.heap.size) ∧ (∀ k, C' k → C k ∨ K k ∨ W.heap.size ≤ k) ∧ I i W' C'
  | .ret, _, W' => Same (mayC M B C) W W' ∧ W'.heap[l]? = W.heap[l]? ∧ ∃ C' : Nat → Prop, (∀ k, k < B → C' k) ∧ (∀ k, C' k → k < W'.heap.size) ∧ (∀ k, C' k → C k ∨ K k ∨ W.heap.size ≤ k) ∧ Ix .ret i W' C'
  | .exit id, _, W' => Same (mayC M B C) W W' ∧ W'.heap[l]? = W.heap[l]? ∧ ∃ C' : Nat → Prop, (∀ k, k < B → C' k) ∧ (∀ k, C' k → k < W'.heap.size) ∧ (∀ k, C' k → C k ∨ K k ∨ W.heap.size ≤ k) ∧ Ix (.exit id) i W' C'
  | .goto _, _, _ => False
  | .panic _, _, _ => False
  | .outgrown, _, _ => False
end
end Go.Proofs.YtbnhngfegnhaiaaDoor
namespace Go.Proofs.YtbnhngfegnhaiaaDoor
open Go.RowKit
section
variable {P : Program}
theorem wp_rangeFuncM {α : Type} {g : Operand} {ps : Array Tmp} {assign body : Code} {Q : Exit → Act → World → Prop} {a : Act} {w : World}
    {gf : Nat} {lb : Array Value} (hg : a.eval g = .func (.func gf) #[] lb) (eg : ∀ args w, (callFunc gf args).run P w = .ok (.enter gf args) w)
    (L : List α) (Ok : α → Array Value → World → (Nat → Prop) → Prop) (M : Nat → Prop) (hps : ∀ i v A K, Ok i v A K → v.size = ps.size)
    (hMD : ¬ M w.heap.size) (hMl : M (w.heap.size + 1))
    (hit : ∀ W, Below w.heap.size w W → W.heap.size = w.heap.size + 2 → IterL P gf lb L Ok M W)
    (I : List α → World → (Nat → Prop) → Prop) (Ix : Code → List α → World → (Nat → Prop) → Prop)
    (hI : ∀ i A B C, I i A C → Same (fun k => k = w.heap.size + 1) A B → I i B C) (hIx : ∀ c i A B C, Ix c i A C → Same (fun k => k = w.heap.size + 1) A B → Ix c i B C)
    (h0 : ∀ W, Below w.heap.size w W → W.heap.size = w.heap.size + 2 → I L W (fun k => k < w.heap.size + 2))
    (hround : ∀ x i v W C K, Ok x v W K → (∀ k, K k → ¬ C k) → (∀ k, k < w.heap.size + 2 → C k) → I (x :: i) W C → w.heap.size + 1 < W.heap.size →
      assign.wpIn (Fence.wide.inRound (w.heap.size + 1)) 0 P (Exit.then (fun a₁ W₁ => Below W.heap.size W W₁ ∧
          ∀ W₂, Same (fun k => k = w.heap.size + 1) W₁ W₂ → W₂.heap.size = W₁.heap.size → body.wpIn (Fence.wide.inRound (w.heap.size + 1)) 0 P (roundEndL (w.heap.size + 1) (w.heap.size + 2) M C K I Ix i W₂) a₁ W₂) (fun _ _ _ => False))
        { tmps := (ps.zip v).foldl (fun t (p, v) => t.setIfInBounds p v) a.tmps, defers := [] } W)
    (hdone : ∀ W C, I [] W C → W.heap[w.heap.size]? = some (.deferred (some [])) → Q .normal { a with defers := { target := .collected w.heap.size, args := #[] } :: a.defers } W)
    (hstop : ∀ c i W C, Ix c i W C → W.heap[w.heap.size]? = some (.deferred (some [])) → c.wp P Q { a with defers := { target := .collected w.heap.size, args := #[] } :: a.defers } W) :
    (Code.rangeFunc g ps assign body).wp P Q a w := by
  rw [← wpIn_wide (n := 0)]
  refine wpIn_rangeFunc ?_
  intro fn hfn
  obtain ⟨rec, hrec⟩ : ∃ rec : LoopState → Option Code → Loop, rec = fun st pe => { state := st, pending := pe, fn, tmps := a.tmps, params := ps, assign, body, defers := w.heap.size } := ⟨_, rfl⟩
  obtain ⟨W1, hW1⟩ : ∃ W1, (w.alloc (.deferred (some []))).alloc (.loop (rec .ready none)) = W1 := ⟨_, rfl⟩
  have hL1 : W1.heap[w.heap.size + 1]? = some (.loop (rec .ready none)) := by
    rw [← hW1]; have := World.alloc_heap_new (w.alloc (.deferred (some []))) (.loop (rec .ready none)); rwa [World.size_alloc] at this
  have hK1 : W1.heap[w.heap.size]? = some (.deferred (some [])) := by
    rw [← hW1]; exact (Below.heap_alloc _ _ _ (by simp)).trans (World.alloc_heap_new w _)
  have hs1 : W1.heap.size = w.heap.size + 2 := by rw [← hW1]; simp
  have hb1 : Below w.heap.size w W1 := by rw [← hW1]; exact ((Below.refl _ w).alloc (Nat.le_refl _) _).alloc (by simp) _
  refine ⟨w.heap.size + 1, [{ target := .collected w.heap.size, args := #[] }], W1, { target := .fn (.func gf) lb, args := #[.func (.yield (w.heap.size + 1)) #[] #[]] }, W1, gf,
    #[.func (.yield (w.heap.size + 1)) #[] #[]] ++ lb, W1, ?_, ?_, ?_, ?_, fun h => by simp [Fence.wide] at h, ?_⟩
  · rw [← hW1, hrec]; exact run_enterLoop_outer _ _ _ _ _
  · simp only [resolve, hg]
    simp [go_sem]
  · intro f' hf'; trivial
  · simp [invoke, go_sem, eg]
  · have hput : ∀ (W : World) (o : Obj), Same (fun k => k = w.heap.size + 1) W (W.putObj (w.heap.size + 1) o) := fun W o => Same.putObj (M := fun k => k = w.heap.size + 1) (Same.refl _ W) (.inl rfl) o
    have hl2' : w.heap.size + 1 < w.heap.size + 2 := by omega
    have hD2' : w.heap.size < w.heap.size + 2 := by omega
    have liftM : ∀ {A B : World} {C : Nat → Prop}, (∀ k, k < w.heap.size + 2 → C k) → Same (fun k => k = w.heap.size + 1) A B → Same (mayC M W1.heap.size C) A B := fun hC h => h.mono (fun _ _ e => by
      subst e; exact ⟨hC _ hl2', fun _ => hMl⟩)
    have liftI : ∀ {A B : World}, Same (fun k => k = w.heap.size + 1) A B → Same (fun k => k = w.heap.size + 1) A B := fun h => h
    have hnD : ∀ C, ¬ mayC M W1.heap.size C w.heap.size := fun C h => hMD (h.2 (by omega))
    refine (hit W1 hb1 hs1 (w.heap.size + 1)
      (fun i W C => I i W C ∧ (∀ k, k < w.heap.size + 2 → C k) ∧ W.heap[w.heap.size + 1]? = some (.loop (rec .ready none)) ∧ W.heap[w.heap.size]? = some (.deferred (some [])))
      (fun i W C => ∃ c, Ix c i W C ∧ (∀ k, k < w.heap.size + 2 → C k) ∧ W.heap[w.heap.size + 1]? = some (.loop (rec .done (some c))) ∧ W.heap[w.heap.size]? = some (.deferred (some [])))
      (fun i A B C hs hg' => ⟨hI i A B C hs.1 (hg'.mono (fun _ _ e => e.elim)), hs.2.1, (hg'.block _ (Array.getElem?_eq_some_iff.1 hs.2.2.1).1 (fun h => h)).trans hs.2.2.1, (hg'.block _ (Array.getElem?_eq_some_iff.1 hs.2.2.2).1 (fun h => h)).trans hs.2.2.2⟩)
      (fun i A B C hs hg' => by
        obtain ⟨c, hc, hC, hl, hk⟩ := hs
        exact ⟨c, hIx c i A B C hc (hg'.mono (fun _ _ e => e.elim)), hC, (hg'.block _ (Array.getElem?_eq_some_iff.1 hl).1 (fun h => h)).trans hl, (hg'.block _ (Array.getElem?_eq_some_iff.1 hk).1 (fun h => h)).trans hk⟩)
      ?_ ⟨by rw [hs1]; exact h0 W1 hb1 hs1, fun k hk => by omega, hL1, hK1⟩).mono ?_
    · rintro x i v W C K hok hKC ⟨hi, hC, hl, hk⟩
      have hlt : w.heap.size + 1 < W.heap.size := (Array.getElem?_eq_some_iff.1 hl).1
      have hy := run_yield (P := P) (args := v) hl (by rw [hrec]; exact hps x v W K hok)
      rw [hrec] at hy
      refine ⟨fn, _, assign, body, hy, roundIn_of_wpIn hfn (wpIn_mono (hround x i v W C K hok hKC hC hi hlt) ?_)⟩
      rintro e a₁ Wa hp
      cases e with
      | normal =>
        obtain ⟨hba, hbody⟩ := hp
        have hl' := (hba.block _ hlt).trans hl
        have hlt' : w.heap.size + 1 < Wa.heap.size := (Array.getElem?_eq_some_iff.1 hl').1
        have hk' := (hba.block _ (by omega : w.heap.size < W.heap.size)).trans hk
        refine ⟨_, run_beginRound hl' (by rw [hrec]), ?_⟩
        have hl2 : (Wa.putObj (w.heap.size + 1) (.loop { rec .ready none with state := .busy })).heap[w.heap.size + 1]? = some (.loop { rec .ready none with state := .busy }) := World.putObj_heap_same hlt'
        have hk2 : (Wa.putObj (w.heap.size + 1) (.loop { rec .ready none with state := .busy })).heap[w.heap.size]? = some (.deferred (some [])) := (World.putObj_heap_other (by omega)).trans hk'
        have hs2 := hput Wa (.loop { rec .ready none with state := .busy })
        refine wpIn_mono (hbody _ hs2 (by simp)) ?_
        have fin : ∀ (jump : Option Code) (W3 : World), Same (mayC M (w.heap.size + 2) C) (Wa.putObj (w.heap.size + 1) (.loop { rec .ready none with state := .busy })) W3 → W3.heap[w.heap.size + 1]? = (Wa.putObj (w.heap.size + 1) (.loop { rec .ready none with state := .busy })).heap[w.heap.size + 1]? →
            (Instr.endRound (w.heap.size + 1) jump).run P W3 = .ok (.bool jump.isNone) (W3.putObj (w.heap.size + 1) (.loop (rec (if jump.isNone then .ready else .done) jump))) ∧
            (W3.putObj (w.heap.size + 1) (.loop (rec (if jump.isNone then .ready else .done) jump))).heap[w.heap.size + 1]? = some (.loop (rec (if jump.isNone then .ready else .done) jump)) ∧
            (W3.putObj (w.heap.size + 1) (.loop (rec (if jump.isNone then .ready else .done) jump))).heap[w.heap.size]? = some (.deferred (some [])) ∧
            Same (fun k => k = w.heap.size + 1) W3 (W3.putObj (w.heap.size + 1) (.loop (rec (if jump.isNone then .ready else .done) jump))) ∧
            Same (mayC M W1.heap.size C) W (W3.putObj (w.heap.size + 1) (.loop (rec (if jump.isNone then .ready else .done) jump))) := fun jump W3 hk3 hl3 => by
          rw [hl2] at hl3
          rw [← hs1] at hk3
          have hlt3 := (Array.getElem?_eq_some_iff.1 hl3).1
          have hkk := (hk3.block _ (Array.getElem?_eq_some_iff.1 hk2).1 (hnD C)).trans hk2
          have := run_endRound (P := P) jump hl3
          rw [hrec] at this ⊢
          exact ⟨this, World.putObj_heap_same hlt3, (World.putObj_heap_other (by omega)).trans hkk, hput _ _, (Same.of_below _ hba).trans (((liftM hC hs2).trans hk3).trans (liftM hC (hput _ _)))⟩
        have hsz : (Wa.putObj (w.heap.size + 1) (.loop { rec .ready none with state := .busy })).heap.size = Wa.heap.size := by simp
        rintro e a3 W3 hp
        cases e with
        | normal =>
          obtain ⟨hk3, hl3, C', hC', hCB, hCK, hi3⟩ := hp
          obtain ⟨hr, hl4, hk4, hs4, hs5⟩ := fin none W3 hk3 hl3
          rw [hsz] at hCK
          have hCK : ∀ k, C' k → C k ∨ K k ∨ W.heap.size ≤ k := fun k hk => (hCK k hk).imp (fun h => h) (fun h => h.imp (fun h => h) (fun h => Nat.le_trans hba.size h))
          exact ⟨_, _, hr, hs5, C', by rw [hs1]; exact hC', fun k hk => by simpa using hCB k hk, hCK, .inl ⟨rfl, hI _ _ _ _ hi3 (liftI hs4), hC', hl4, hk4⟩⟩
        | ret =>
          obtain ⟨hk3, hl3, C', hC', hCB, hCK, hi3⟩ := hp
          obtain ⟨hr, hl4, hk4, hs4, hs5⟩ := fin (some .ret) W3 hk3 hl3
          rw [hsz] at hCK
          have hCK : ∀ k, C' k → C k ∨ K k ∨ W.heap.size ≤ k := fun k hk => (hCK k hk).imp (fun h => h) (fun h => h.imp (fun h => h) (fun h => Nat.le_trans hba.size h))
          exact ⟨_, _, hr, hs5, C', by rw [hs1]; exact hC', fun k hk => by simpa using hCB k hk, hCK, .inr ⟨rfl, .ret, hIx _ _ _ _ _ hi3 (liftI hs4), hC', hl4, hk4⟩⟩
        | exit id =>
          obtain ⟨hk3, hl3, C', hC', hCB, hCK, hi3⟩ := hp
          obtain ⟨hr, hl4, hk4, hs4, hs5⟩ := fin (some (.exit id)) W3 hk3 hl3
          rw [hsz] at hCK
          have hCK : ∀ k, C' k → C k ∨ K k ∨ W.heap.size ≤ k := fun k hk => (hCK k hk).imp (fun h => h) (fun h => h.imp (fun h => h) (fun h => Nat.le_trans hba.size h))
          exact ⟨_, _, hr, hs5, C', by rw [hs1]; exact hC', fun k hk => by simpa using hCB k hk, hCK, .inr ⟨rfl, .exit id, hIx _ _ _ _ _ hi3 (liftI hs4), hC', hl4, hk4⟩⟩
        | goto t => exact hp.elim
        | panic ch => exact hp.elim
        | outgrown => exact hp.elim
      | exit id => exact hp.elim
      | goto t => exact hp.elim
      | ret => exact hp.elim
      | panic chain => exact hp.elim
      | outgrown => exact hp.elim
    · rintro e W2 ⟨⟨v, rfl⟩, C', (⟨hi, hC, hl, hk⟩ | ⟨i, c, hi, hC, hl, hk⟩)⟩
      · have hlt := (Array.getElem?_eq_some_iff.1 hl).1
        exact ⟨none, _, by have := run_endLoop (P := P) hl (by rw [hrec]; simp); rw [hrec] at this; exact this, hdone _ C' (hI _ _ _ _ hi (liftI (hput _ _))) ((World.putObj_heap_other (by omega)).trans hk)⟩
      · have hlt := (Array.getElem?_eq_some_iff.1 hl).1
        exact ⟨some c, _, by have := run_endLoop (P := P) hl (by rw [hrec]; simp); rw [hrec] at this; exact this, wpIn_wide.2 (hstop c i _ C' (hIx c _ _ _ _ hi (liftI (hput _ _))) ((World.putObj_heap_other (by omega)).trans hk))⟩
end
end Go.Proofs.YtbnhngfegnhaiaaDoor
namespace Go.Proofs.YtbnhngfegnhaiaaDoor
open Go.RowKit
set_option linter.unusedVariables false
set_option linter.unusedSimpArgs false
theorem same_later {M M' : Nat → Prop} {A B C : World} (h : Same M A B) (k : Same M' B C) (hm : ∀ i, M' i → M i ∨ A.heap.size ≤ i) : Same M A C :=
  ⟨k.os.trans h.os, k.tape.trans h.tape, k.output.trans h.output, Nat.le_trans h.size k.size, fun i hi hn => (k.block i (by have := h.size; omega) (fun e => by rcases hm i e with e | e; exact hn e; omega)).trans (h.block i hi hn)⟩
/-- The pairs that are still to come, in a row from a mark on, and in the rows behind it. -/
def remL (F : Nat → Nat → Bool) (n m k a c : Nat) : List (Nat × Nat) := (((List.range' c (m - c)).filter (F a)).map fun b => (a, b)) ++ pairsFrom F n m (a + 1) k
theorem pairs_row (F : Nat → Nat → Bool) {n m a k : Nat} (h : a < n) : pairsFrom F n m a k = remL F n m k a k := by
  unfold remL pairsFrom
  have e : n - a = (n - (a + 1)) + 1 := by omega
  rw [e, List.range'_succ, List.flatMap_cons]
theorem pairs_nil (F : Nat → Nat → Bool) {n m a k : Nat} (h : n ≤ a) : pairsFrom F n m a k = [] := by
  unfold pairsFrom
  have e : n - a = 0 := by omega
  rw [e]
  rfl
theorem rem_step (F : Nat → Nat → Bool) {n m k a c : Nat} (h : c < m) : remL F n m k a c = if F a c then (a, c) :: remL F n m k a (c + 1) else remL F n m k a (c + 1) := by
  unfold remL
  have e : m - c = (m - (c + 1)) + 1 := by omega
  rw [e, List.range'_succ, List.filter_cons]
  split <;> rfl
theorem rem_nil (F : Nat → Nat → Bool) {n m k a c : Nat} (h : m ≤ c) : remL F n m k a c = pairsFrom F n m (a + 1) k := by
  unfold remL
  have e : m - c = 0 := by omega
  rw [e]
  rfl
def PrOk (x : Nat × Nat) (v : Array Value) (A : World) (K : Nat → Prop) : Prop := v = #[.agg #[.int .i64 x.1, .int .i64 x.2]] ∧ K = fun _ => False
/-- What stays while pairs are handed over. -/
structure PrH (r : Rws) (al : Option Addr) (cl : Nat) (ar : Option Addr) (cr : Nat) (T : Nat → Bool) (need : Int) (ti tr tk b i k l : Nat) (M : Nat → Prop) (W : World) (J Jx : List (Nat × Nat) → World → (Nat → Prop) → Prop) : Prop where
  mem : ∀ A, Same M W A → A.cell? ⟨ti, 0, none⟩ = some (.int .i64 i) ∧ A.cell? ⟨tr, 0, none⟩ = some (.pointer (some ⟨b, 0, none⟩)) ∧ A.cell? ⟨tk, 0, none⟩ = some (.int .i64 k) ∧ IsRws A b r al cl ar cr T need
  hJ : ∀ i A B C, J i A C → Same (fun _ => False) A B → J i B C
  hY : ∀ x i v A C K, PrOk x v A K → (∀ k, K k → ¬ C k) → J (x :: i) A C → YieldAt Fence.wide 0 Tryd.prog l v A fun e B => Same (mayC M W.heap.size C) A B ∧
      ∃ C' : Nat → Prop, (∀ k, k < W.heap.size → C' k) ∧ (∀ k, C' k → k < B.heap.size) ∧ (∀ k, C' k → C k ∨ K k ∨ A.heap.size ≤ k) ∧ ((e = .returned (.bool true) ∧ J i B C') ∨ (e = .returned (.bool false) ∧ Jx i B C'))
/-- Where the iterator stands. -/
def PrI (M : Nat → Prop) (W : World) (J : List (Nat × Nat) → World → (Nat → Prop) → Prop) (L : List (Nat × Nat)) (A : World) : Prop := Same M W A ∧ ∃ C, J L A C
theorem PrH.give {r : Rws} {al ar : Option Addr} {cl cr : Nat} {T : Nat → Bool} {need : Int} {ti tr tk b i k l : Nat} {M : Nat → Prop} {W : World} {J Jx : List (Nat × Nat) → World → (Nat → Prop) → Prop} (H : PrH r al cl ar cr T need ti tr tk b i k l M W J Jx)
    {x : Nat × Nat} {L : List (Nat × Nat)} {A : World} (h : PrI M W J (x :: L) A) : YieldAt Fence.wide 0 Tryd.prog l #[.agg #[.int .i64 x.1, .int .i64 x.2]] A fun e B => ∃ q, e = .returned (.bool q) ∧ (q = true → PrI M W J L B) ∧ (q = false → ∃ C i, Jx i B C) := by
  obtain ⟨hs, C, hj⟩ := h
  obtain ⟨fn, tmps, assign, body, hy, hR⟩ := H.hY x L _ A C (fun _ => False) ⟨rfl, rfl⟩ (fun _ hk => hk.elim) hj
  refine ⟨fn, tmps, assign, body, hy, hR.mono ?_⟩
  rintro e B ⟨hs2, C', h1, h2, h3, h4⟩
  rcases h4 with ⟨rfl, hj'⟩ | ⟨rfl, hj'⟩
  · refine ⟨true, rfl, fun _ => ⟨same_later hs hs2 (fun i hm => ?_), C', hj'⟩, fun h => by cases h⟩
    by_cases hi' : i < W.heap.size
    · exact .inl (hm.2 hi')
    · exact .inr (by omega)
  · exact ⟨false, rfl, (fun h => by cases h), fun _ => ⟨C', L, hj'⟩⟩
set_option maxRecDepth 100000 in
set_option maxHeartbeats 4000000 in
theorem pairs_iter {r : Rws} {al ar : Option Addr} {cl cr : Nat} {T : Nat → Bool} {need : Int} {ti tr tk b i k : Nat} {M : Nat → Prop} {W : World} (hl1 : r.left.length ≤ 10) (hl2 : r.right.length ≤ 10) (hi : i ≤ 11) (hk : k ≤ 11)
    (hmem : ∀ A, Same M W A → A.cell? ⟨ti, 0, none⟩ = some (.int .i64 i) ∧ A.cell? ⟨tr, 0, none⟩ = some (.pointer (some ⟨b, 0, none⟩)) ∧ A.cell? ⟨tk, 0, none⟩ = some (.int .i64 k) ∧ IsRws A b r al cl ar cr T need) :
    IterL Tryd.prog 67 #[.pointer (some ⟨ti, 0, none⟩), .pointer (some ⟨tr, 0, none⟩), .pointer (some ⟨tk, 0, none⟩)] (pairsFrom (fun a c => T (a * 10 + c)) r.left.length r.right.length i k) PrOk M W := by
  intro l J Jx hJ hJx hY h0
  have HH : Hid (PrH r al cl ar cr T need ti tr tk b i k l M W J Jx) := ⟨hmem, hJ, hY⟩
  have H0 : Hid (PrI M W J (pairsFrom (fun a c => T (a * 10 + c)) r.left.length r.right.length i k) W) := ⟨Same.refl _ _, _, h0⟩
  clear hmem hJ hJx hY h0
  have HD : Hid (∀ (tm : Array Value) (w' : World), PrI M W J [] w' → bodyPost Tryd.prog Tryd.f67 (fun e W' => (∃ v, e = Ending.returned v) ∧ ∃ C', J [] W' C' ∨ ∃ i, Jx i W' C') .normal { tmps := tm, defers := [] } w') := fun tm w' h => by
    obtain ⟨_, C', h2⟩ := h
    exact bodyPost_end (results_none rfl _ _ _) rfl ⟨⟨_, rfl⟩, C', .inl h2⟩
  have HT : Hid (∀ (tm : Array Value) (w' : World), (∃ (C' : Nat → Prop) (i : List (Nat × Nat)), Jx i w' C') → bodyPost Tryd.prog Tryd.f67 (fun e W' => (∃ v, e = Ending.returned v) ∧ ∃ C', J [] W' C' ∨ ∃ i, Jx i W' C') .ret { tmps := tm, defers := [] } w') := fun tm w' h => by
    obtain ⟨C', i, h⟩ := h
    exact bodyPost_ret (results_none rfl _ _ _) rfl ⟨⟨_, rfl⟩, C', .inr ⟨i, h⟩⟩
  refine callsIn_wide.2 ?_
  obtain ⟨m1, _⟩ := HH.out.mem W H0.out.1
  go_enter Tryd.func67, Tryd.ntmps67
  refine wp_seq_hid ?_
  intro K0 HK0
  go_wp2_with fail
  refine HK0.out _ _ ?_
  clear HK0 K0 m1
  go_wp2_with fail
  go_loopw [5] (fun q wr => ∃ a : Nat, a ≤ 11 ∧ q = .int .i64 a ∧ Hid (PrI M W J (pairsFrom (fun a c => T (a * 10 + c)) r.left.length r.right.length a k) wr)) (fun q _ => r.left.length - (intOf q).toNat)
  case atStart => exact ⟨i, hi, rfl, H0⟩
  case round =>
    obtain ⟨a, ha, rfl, HW⟩ := hrel
    clear H0
    obtain ⟨m1, m2, m3, m4⟩ := HH.out.mem wr HW.out.1
    have HM4 := Lib.hid m4
    have r0 := m4.left
    clear m1 m4
    by_cases hlt : a < r.left.length
    · have r1 := HM4.out.right
      have HW2 : Hid (PrI M W J (remL (fun a c => T (a * 10 + c)) r.left.length r.right.length k a k) wr) := by
        have h := HW.out
        rw [pairs_row _ hlt] at h
        exact h
      clear HW
      go_wp2_with fail
      clear m2 m3 r0 r1 HM4
      go_loopw [6] (fun q wr => ∃ c : Nat, c ≤ 11 ∧ q = .int .i64 c ∧ Hid (PrI M W J (remL (fun a c => T (a * 10 + c)) r.left.length r.right.length k a c) wr)) (fun q _ => r.right.length - (intOf q).toNat)
      case atStart => exact ⟨k, hk, rfl, HW2⟩
      case round =>
        obtain ⟨c, hc, rfl, HY⟩ := hrel
        clear HW2
        obtain ⟨m1, m2, m3, m4⟩ := HH.out.mem wr HY.out.1
        have HM4 := Lib.hid m4
        have r1 := m4.right
        clear m1 m3 m4
        by_cases hlc : c < r.right.length
        · have kt := HM4.out.tab (j := a * 10 + c) (by omega)
          rw [← Nat.add_assoc] at kt
          have HR := Lib.hid (rem_step (fun a c => T (a * 10 + c)) (n := r.left.length) (m := r.right.length) (k := k) (a := a) (c := c) hlc)
          have g1 : (a : Int) < 10 := by omega
          have g2 : (c : Int) < 10 := by omega
          cases ht : T (a * 10 + c)
          · rw [ht] at kt
            have HY2 : Hid (PrI M W J (remL (fun a c => T (a * 10 + c)) r.left.length r.right.length k a (c + 1)) wr) := by
              have h := HY.out
              rw [HR.out, if_neg (by rw [ht]; decide)] at h
              exact h
            clear ht HY HR
            go_wp2_with fail
            clear m2 r1 kt g1 g2
            go_roundw
            case rel => exact ⟨c + 1, by omega, by go_num, HY2.out⟩
            case measure => simp [intOf]; omega
          · rw [ht] at kt
            have HY2 : Hid (PrI M W J ((a, c) :: remL (fun a c => T (a * 10 + c)) r.left.length r.right.length k a (c + 1)) wr) := by
              have h := HY.out
              rw [HR.out, if_pos ht] at h
              exact h
            clear ht HY HR
            obtain ⟨fn, tmps, assign, body, hyl, hRd⟩ := HH.out.give HY2.out
            have HRd := Lib.hid hRd
            clear hRd
            go_upto_region 6 with fail
            refine (wpIn_wide (n := 0)).1 ?_
            gi_wp2_with fail
            refine ⟨rfl, HRd.out.mono ?_⟩
            rintro e w7 ⟨q, rfl, hres⟩
            have HRS := Lib.hid hres
            clear hres hyl HRd kt m2 r1 HM4
            cases q with
            | true =>
              have HY3 := Lib.hid (HRS.out.1 rfl)
              gi_wp2_with fail
              go_wp2_with fail
              clear g1 g2
              go_roundw
              case rel => exact ⟨c + 1, by omega, by go_num, HY3.out⟩
              case measure => simp [intOf]; omega
            | false =>
              gi_wp2_with fail
              go_wp2_with fail
              exact HT.out _ _ (HRS.out.2 trivial)
        · have HY2 : Hid (PrI M W J (pairsFrom (fun a c => T (a * 10 + c)) r.left.length r.right.length (a + 1) k) wr) := by
            have h := HY.out
            rw [rem_nil _ (by omega)] at h
            exact h
          clear HY
          go_wp2_with fail
          clear m2 r1
          go_roundw
          case rel => exact ⟨a + 1, by omega, by go_num, HY2.out⟩
          case measure => simp [intOf]; omega
    · have HW2 : Hid (PrI M W J [] wr) := by
        have h := HW.out
        rw [pairs_nil _ (by omega)] at h
        exact h
      clear HW
      go_wp2_with fail
      exact HD.out _ _ HW2.out
end Go.Proofs.YtbnhngfegnhaiaaDoor
namespace Go.Proofs.YtbnhngfegnhaiaaDoor
open Go.RowKit
set_option linter.unusedVariables false
set_option linter.unusedSimpArgs false
theorem pairs_mem {F : Nat → Nat → Bool} {n m i k : Nat} {p : Nat × Nat} (h : p ∈ pairsFrom F n m i k) : i ≤ p.1 ∧ p.1 < n ∧ k ≤ p.2 ∧ p.2 < m ∧ F p.1 p.2 = true := by
  unfold pairsFrom at h
  rw [List.mem_flatMap] at h
  obtain ⟨a, ha, hp⟩ := h
  rw [List.mem_map] at hp
  obtain ⟨b, hb, rfl⟩ := hp
  rw [List.mem_filter] at hb
  rw [List.mem_range'_1] at ha
  have hb1 := List.mem_range'_1.1 hb.1
  exact ⟨ha.1, by omega, hb1.1, by omega, hb.2⟩
theorem pairs_len (F : Nat → Nat → Bool) (n m k : Nat) : ∀ (d i : Nat), n - i = d → (pairsFrom F n m i k).length ≤ d * (m - k)
  | 0, i, h => by rw [pairs_nil F (by omega)]; simp
  | d + 1, i, h => by
    rw [pairs_row F (by omega)]
    unfold remL
    rw [List.length_append, List.length_map]
    have h1 := pairs_len F n m k d (i + 1) (by omega)
    have h2 : ((List.range' k (m - k)).filter (F i)).length ≤ m - k := by
      have := List.length_filter_le (F i) (List.range' k (m - k))
      rwa [List.length_range'] at this
    rw [Nat.add_mul]
    omega
theorem cntF_more (F : Nat → Nat → Bool) (n m : Nat) : ∀ (f g i k : Nat) (d : Int), n - i ≤ f → n - i ≤ g → cntF F n m f i k d = cntF F n m g i k d
  | 0, 0, _, _, _, _, _ => rfl
  | 0, g + 1, i, k, d, h, _ => by
    unfold cntF
    rw [pairs_nil F (by omega)]
    simp
  | f + 1, 0, i, k, d, _, h => by
    unfold cntF
    rw [pairs_nil F (by omega)]
    simp
  | f + 1, g + 1, i, k, d, h1, h2 => by
    unfold cntF
    congr 2
    apply List.map_congr_left
    intro p hp
    have := pairs_mem hp
    exact cntF_more F n m f g _ _ _ (by omega) (by omega)
/-- How many ways go on from two marks. -/
def cntV (F : Nat → Nat → Bool) (n m i k : Nat) (d : Int) : Int := cntF F n m (n - i) i k d
theorem cntV_eq (F : Nat → Nat → Bool) (n m i k : Nat) (d : Int) : cntV F n m i k d = (if d ≤ 0 then 1 else 0) + ((pairsFrom F n m i k).map fun p => cntV F n m (p.1 + 1) (p.2 + 1) (max 0 (d - 1))).sum := by
  unfold cntV
  rw [cntF_more F n m (n - i) (n - i + 1) i k d (Nat.le_refl _) (by omega)]
  show (if d ≤ 0 then (1 : Int) else 0) + _ = _
  congr 2
  apply List.map_congr_left
  intro p hp
  have := pairs_mem hp
  exact cntF_more F n m _ _ _ _ _ (by omega) (Nat.le_refl _)
theorem sum_bd {α : Type} (g : α → Int) (B : Int) : ∀ (l : List α), (∀ x ∈ l, 0 ≤ g x ∧ g x ≤ B) → 0 ≤ (l.map g).sum ∧ (l.map g).sum ≤ l.length * B
  | [], _ => by simp
  | x :: l, h => by
    have h1 := sum_bd g B l (fun y hy => h y (List.mem_cons_of_mem _ hy))
    have h2 := h x (List.mem_cons_self ..)
    rw [List.map_cons, List.sum_cons, List.length_cons]
    push_cast
    rw [Int.add_mul]
    omega
def bndN : Nat → Int
  | 0 => 1
  | f + 1 => 1 + ((f + 1 : Nat) : Int) * 10 * bndN f
theorem bndN_pos : ∀ f, 1 ≤ bndN f
  | 0 => by decide
  | f + 1 => by
    have h := bndN_pos f
    unfold bndN
    have : 0 ≤ ((f + 1 : Nat) : Int) * 10 * bndN f := Int.mul_nonneg (by omega) (by omega)
    omega
theorem cntF_bd (F : Nat → Nat → Bool) (n m : Nat) (hm : m ≤ 10) : ∀ (f i k : Nat) (d : Int), n - i ≤ f → 0 ≤ cntF F n m f i k d ∧ cntF F n m f i k d ≤ bndN f
  | 0, _, _, d, _ => by unfold cntF bndN; split <;> omega
  | f + 1, i, k, d, h => by
    have hs := sum_bd (fun p : Nat × Nat => cntF F n m f (p.1 + 1) (p.2 + 1) (max 0 (d - 1))) (bndN f) (pairsFrom F n m i k) (fun p hp => by
      have := pairs_mem hp
      exact cntF_bd F n m hm f _ _ _ (by omega))
    have hl := pairs_len F n m k (n - i) i rfl
    have hp := bndN_pos f
    have h2 : ((pairsFrom F n m i k).length : Int) * bndN f ≤ ((f + 1 : Nat) : Int) * 10 * bndN f := by
      refine Int.mul_le_mul_of_nonneg_right ?_ (by omega)
      have h3 : (n - i) * (m - k) ≤ (f + 1) * 10 := Nat.mul_le_mul h (by omega)
      have h4 : (pairsFrom F n m i k).length ≤ (f + 1) * 10 := Nat.le_trans hl h3
      omega
    unfold cntF bndN
    split <;> omega
theorem bnd10 : bndN 10 ≤ 4611686018427387904 := by decide +kernel
theorem bnd_mono : ∀ {f g : Nat}, f ≤ g → bndN f ≤ bndN g
  | f, 0, h => by rw [Nat.le_zero.1 h]; exact Int.le_refl _
  | f, g + 1, h => by
    by_cases e : f = g + 1
    · rw [e]; exact Int.le_refl _
    · have h1 := bnd_mono (f := f) (g := g) (by omega)
      have h2 := bndN_pos g
      have h3 : bndN g ≤ ((g + 1 : Nat) : Int) * 10 * bndN g := by
        have := Int.mul_le_mul_of_nonneg_right (a := 1) (b := ((g + 1 : Nat) : Int) * 10) (c := bndN g) (by omega) (by omega)
        omega
      show bndN f ≤ 1 + ((g + 1 : Nat) : Int) * 10 * bndN g
      omega
theorem cntV_bd (F : Nat → Nat → Bool) {n m : Nat} (hn : n ≤ 10) (hm : m ≤ 10) (i k : Nat) (d : Int) : 0 ≤ cntV F n m i k d ∧ cntV F n m i k d ≤ 4611686018427387904 := by
  have h := cntF_bd F n m hm (n - i) i k d (Nat.le_refl _)
  have h2 := bnd_mono (f := n - i) (g := 10) (by omega)
  have h3 := bnd10
  unfold cntV
  omega
/-- The sum over the pairs that are still to come. -/
def sumV (F : Nat → Nat → Bool) (n m : Nat) (d : Int) (L : List (Nat × Nat)) : Int := (L.map fun p => cntV F n m (p.1 + 1) (p.2 + 1) (max 0 (d - 1))).sum
theorem sumV_cons (F : Nat → Nat → Bool) (n m : Nat) (d : Int) (p : Nat × Nat) (L : List (Nat × Nat)) : sumV F n m d (p :: L) = cntV F n m (p.1 + 1) (p.2 + 1) (max 0 (d - 1)) + sumV F n m d L := rfl
theorem sumV_pos (F : Nat → Nat → Bool) {n m : Nat} (hn : n ≤ 10) (hm : m ≤ 10) (d : Int) : ∀ L, 0 ≤ sumV F n m d L
  | [] => Int.le_refl _
  | p :: L => by
    rw [sumV_cons]
    have := (cntV_bd F hn hm (p.1 + 1) (p.2 + 1) (max 0 (d - 1))).1
    have := sumV_pos F hn hm d L
    omega
theorem laidOut : laidOutB Tryd.prog = true := by kernel_rfl
theorem tsize : Tryd.prog.types.size = 223 := by kernel_rfl
theorem keyed141 : Maps.Keyed Tryd.prog 176 :=
  Maps.Keyed.of_law (deep_law_laid laidOut (m := 3) (by decide) (by rw [tsize]; decide) (by kernel_rfl) (by kernel_rfl))
theorem keyType141 : Tryd.prog.keyType 176 = true := by kernel_rfl
theorem cells3 : Tryd.prog.cellsOf 3 = 1 := by kernel_rfl
theorem cells141 : Tryd.prog.cellsOf 176 = 3 := by kernel_rfl
theorem lits141 (n : Nat) (a b c : Int) (ha : (Lit.int .i64 a).wf = true) (hb : (Lit.int .i64 b).wf = true) (hc : (Lit.int .i64 c).wf = true) :
    ∃ l, Tryd.prog.keyLits (n + 1 + 1) 176 [.int .i64 a, .int .i64 b, .int .i64 c] = some l := by
  simp [Program.keyLits, Tryd.underlying176, Tryd.underlying3, cells141, cells3, ha, hb, hc]
theorem key141 (a b c : Int) (ha : (Lit.int .i64 a).wf = true) (hb : (Lit.int .i64 b).wf = true) (hc : (Lit.int .i64 c).wf = true) : ∃ l, keyOf Tryd.prog 176 (.agg #[.int .i64 a, .int .i64 b, .int .i64 c]) = some l := by
  obtain ⟨l, hl⟩ := lits141 222 a b c ha hb hc
  have hl' : Tryd.prog.keyLits 224 176 [.int .i64 a, .int .i64 b, .int .i64 c] = some l := hl
  refine ⟨.string (keyBytes l), ?_⟩
  simp [keyOf, Tryd.underlying176, keyType141, Value.formed, cells141, Value.cells, tsize, hl']
theorem wf_i64 {x : Int} (h0 : -9223372036854775808 ≤ x) (h1 : x ≤ 9223372036854775807) : (Lit.int .i64 x).wf = true := by
  have e1 : IntKind.i64.min = -9223372036854775808 := by decide
  have e2 : IntKind.i64.max = 9223372036854775807 := by decide
  simp [Lit.wf, e1, e2]
  omega
/-- From which marks on pairs are looked for, and how many there must be. -/
structure StV where
  i : Nat
  k : Nat
  d : Int
abbrev StV.arr (s : StV) : Array Value := #[.int .i64 s.i, .int .i64 s.k, .int .i64 s.d]
abbrev StV.v (s : StV) : Value := .agg s.arr
def StV.Ok (s : StV) : Prop := s.i ≤ 10 ∧ s.k ≤ 10 ∧ 0 ≤ s.d ∧ s.d ≤ 1000
theorem state_key {s : StV} (h : s.Ok) : ∃ l, keyOf Tryd.prog 176 s.v = some l := by
  obtain ⟨h1, h2, h3, h4⟩ := h
  exact key141 _ _ _ (wf_i64 (by omega) (by omega)) (wf_i64 (by omega) (by omega)) (wf_i64 (by omega) (by omega))
theorem state_inj {s r : StV} (h : s.v = r.v) : s = r := by
  obtain ⟨a, b, c⟩ := s
  obtain ⟨a', b', c'⟩ := r
  simp only [StV.v, Value.agg.injEq, Array.mk.injEq, List.cons.injEq, Value.int.injEq, true_and, and_true] at h
  obtain ⟨h1, h2, h3⟩ := h
  simp; omega
def valV (F : Nat → Nat → Bool) (n m : Nat) (s : StV) : Int := cntV F n m s.i s.k s.d
structure KnE where
  s : StV
  x : Int
/-- What is known of ways. -/
def KnownC (F : Nat → Nat → Bool) (n m : Nat) (w : World) (mb : Nat) : Prop :=
  ∃ M : List KnE, MapRaw Tryd.prog 176 w mb (M.map fun X => (X.s.v, .int .i64 X.x)) ∧ ∀ X ∈ M, X.s.Ok ∧ X.x = valV F n m X.s
theorem KnownC.kept {F : Nat → Nat → Bool} {n m : Nat} {w w' : World} {mb : Nat} (h : KnownC F n m w mb) (hb : w'.heap[mb]? = w.heap[mb]?) : KnownC F n m w' mb := by
  obtain ⟨M, h1, h2⟩ := h
  exact ⟨M, h1.kept hb, h2⟩
theorem KnownC.lt {F : Nat → Nat → Bool} {n m : Nat} {w : World} {mb : Nat} (h : KnownC F n m w mb) : mb < w.heap.size := by
  obtain ⟨M, h1, _⟩ := h
  exact h1.lt
theorem KnownC.map {F : Nat → Nat → Bool} {n m : Nat} {w : World} {mb : Nat} (h : KnownC F n m w mb) : ∃ es c, w.heap[mb]? = some (.map es c) := by
  obtain ⟨M, ⟨es, c, h1, _⟩, _⟩ := h
  exact ⟨es, c, h1⟩
theorem zero3 (w : World) : (zeroValue 3).run Tryd.prog w = .ok (.int .i64 0) w := by
  obtain ⟨i0, hi0, hz0, _⟩ := info_parts infoI
  simp [zeroValue, typeInfo, hi0, hz0, Result.andThen]
theorem KnownC.look {F : Nat → Nat → Bool} {n m : Nat} {w : World} {mb : Nat} {s : StV} (h : KnownC F n m w mb) (hs : s.Ok) :
    ∃ (x : Int) (ok : Bool), (∀ w', w'.heap[mb]? = w.heap[mb]? → (Instr.lookup 173 (.map (some mb)) s.v true).run Tryd.prog w' = .ok (.tuple #[.int .i64 x, .bool ok]) w') ∧ (ok = true → x = valV F n m s) := by
  obtain ⟨M, h1, h2⟩ := h
  by_cases hm : ∃ X ∈ M, X.s = s
  · obtain ⟨X, hX, rfl⟩ := hm
    refine ⟨X.x, true, fun w' hw => ?_, fun _ => (h2 X hX).2⟩
    obtain ⟨v', ok', hr', hc'⟩ := (h1.kept hw).look keyed141 Tryd.underlying173 (state_key hs) (zero3 w') true
    rcases hc' with ⟨rfl, rfl, hn⟩ | ⟨rfl, hmm'⟩
    · exact (hn (X.s.v, .int .i64 X.x) (List.mem_map.2 ⟨X, hX, rfl⟩) rfl).elim
    · obtain ⟨Z, hZ, e⟩ := List.mem_map.1 hmm'
      simp only [Prod.mk.injEq] at e
      have hzs := state_inj e.1
      have ev : v' = .int .i64 X.x := by rw [← e.2, (h2 Z hZ).2, hzs, ← (h2 X hX).2]
      rw [ev] at hr'
      simpa using hr'
  · refine ⟨0, false, fun w' hw => ?_, fun h => by cases h⟩
    obtain ⟨v, ok, hr, hc⟩ := (h1.kept hw).look keyed141 Tryd.underlying173 (state_key hs) (zero3 w') true
    rcases hc with ⟨rfl, rfl, hn⟩ | ⟨rfl, hmm⟩
    · show _ = Result.ok (Value.tuple #[.int .i64 0, .bool false]) w'
      simpa using hr
    · obtain ⟨X, hX, e⟩ := List.mem_map.1 hmm
      simp only [Prod.mk.injEq] at e
      exact (hm ⟨X, hX, state_inj e.1⟩).elim
theorem KnownC.update {F : Nat → Nat → Bool} {n m : Nat} {w : World} {mb : Nat} {s : StV} (h : KnownC F n m w mb) (hs : s.Ok) :
    ∃ w', (Instr.mapUpdate 173 (.map (some mb)) s.v (.int .i64 (valV F n m s))).run Tryd.prog w = .ok () w' ∧ Same (fun k => k = mb) w w' ∧ KnownC F n m w' mb := by
  obtain ⟨M, h1, h2⟩ := h
  obtain ⟨w', hr, hg, hsz, hc⟩ := h1.update keyed141 Tryd.underlying173 (state_key hs) (.int .i64 (valV F n m s))
  have hS : Same (fun k => k = mb) w w' := (Same.refl _ w).grown hg (fun k hk => by cases hk; exact .inl rfl)
  refine ⟨w', hr, hS, ?_⟩
  rcases hc with ⟨_, hm⟩ | ⟨j, v, hj, hm⟩
  · refine ⟨M ++ [⟨s, valV F n m s⟩], by rw [List.map_append]; exact hm, fun X hX => ?_⟩
    rcases List.mem_append.1 hX with hX | hX
    · exact h2 X hX
    · rw [List.mem_singleton.1 hX]; exact ⟨hs, rfl⟩
  · refine ⟨M.set j ⟨s, valV F n m s⟩, ?_, fun X hX => ?_⟩
    · rw [List.map_set]; exact hm
    · rcases List.mem_or_eq_of_mem_set hX with hX | hX
      · exact h2 X hX
      · rw [hX]; exact ⟨hs, rfl⟩
end Go.Proofs.YtbnhngfegnhaiaaDoor
namespace Go.Proofs.YtbnhngfegnhaiaaDoor
open Go.RowKit
set_option linter.unusedVariables false
set_option linter.unusedSimpArgs false
/-- A region of a function's code, inside a range over a function too. -/
def regionR (n : Nat) : Code → Option Code
  | .region id ops dr => if id = n then some (.region id ops dr) else none
  | .seq a b => match regionR n a with
    | some c => some c
    | none => regionR n b
  | .block _ c => regionR n c
  | .scope c => regionR n c
  | .loop c => regionR n c
  | .cond _ a b => match regionR n a with
    | some c => some c
    | none => regionR n b
  | .rangeFunc _ _ a b => match regionR n a with
    | some c => some c
    | none => regionR n b
  | _ => none
theorem cf69 (args : Array Value) (w : World) : (callFunc 98 args).run Tryd.prog w = .ok (.enter 98 args) w := by simp [callFunc, Tryd.func98, Tryd.f98, go_sem]
structure cnt4F (b : Nat) (t1 : Nat) (mx : Nat) (rx : Nat) (sx : Nat) (nd : Int) (v : Int) (S0 : World → Prop) (S1 : Unit → World → Prop) (d : Nat → Bool) (x7 x8 x9 x10 x11 x12 x13 x14 x2 : Value) (u : Unit) (w : World) : Prop where
  q2 : d 2 = true → d 1 = true
  q3 : d 3 = true → d 2 = true
  q4 : d 4 = true → d 3 = true
  q5 : d 5 = true → d 4 = true
  q6 : d 6 = true → d 5 = true
  q7 : d 7 = true → d 0 = true ∧ d 6 = true
  q8 : d 8 = true → d 0 = true ∧ d 1 = true ∧ d 2 = true ∧ d 3 = true ∧ d 4 = true ∧ d 5 = true ∧ d 6 = true ∧ d 7 = true
  f0 : d 0 = true → x7 = .func (.func 98) #[] #[.pointer (some ⟨mx, 0, none⟩), .pointer (some ⟨rx, 0, none⟩), .pointer (some ⟨sx, 0, none⟩)]
  f1 : d 1 = true → x8 = .pointer (some ⟨b, 0, none⟩)
  f2 : d 2 = true → x9 = .pointer (some ⟨b, 0, none⟩)
  f3 : d 3 = true → x10 = .pointer (some ⟨b, 105, none⟩)
  f4 : d 4 = true → x11 = .int .i64 nd
  f5 : d 5 = true → x12 = .int .i64 (max 0 nd)
  f6 : d 6 = true → x13 = .agg #[.int .i64 0, .int .i64 0, .int .i64 (max 0 nd)]
  f7 : d 7 = true → x14 = .int .i64 v
  f8 : d 8 = true → x2 = .int .i64 v
  st0 : d 7 = false → S0 w
  st1 : d 7 = true → S1 u w
noncomputable def cnt4C : Code := (Tryd.f60.body.bind (regionAt 4)).getD .skip
set_option maxRecDepth 100000 in
set_option maxHeartbeats 4000000 in
theorem cnt4 {b : Nat} {t1 : Nat} {mx : Nat} {rx : Nat} {sx : Nat} {nd : Int} {v : Int} {S0 : World → Prop} {S1 : Unit → World → Prop} {Q : Exit → Act → World → Prop} {W1 : World} (h0 : S0 W1.drew)
    (kl0 : Hid (∀ (w : World), (S0 w) → w.cell? ⟨sx, 0, none⟩ = some (.func (.func 98) #[] #[.pointer (some ⟨mx, 0, none⟩), .pointer (some ⟨rx, 0, none⟩), .pointer (some ⟨sx, 0, none⟩)])))
    (kl1 : Hid (∀ (w : World), (S0 w) → w.cell? ⟨t1, 0, none⟩ = some (.pointer (some ⟨b, 0, none⟩))))
    (kl4 : Hid (∀ (w : World), (S0 w) → w.cell? ⟨b, 105, none⟩ = some (.int .i64 nd)))
    (kc7 : Hid (∀ (w : World), S0 w → Calls Tryd.prog 98 #[.agg #[.int .i64 0, .int .i64 0, .int .i64 (max 0 nd)], .pointer (some ⟨mx, 0, none⟩), .pointer (some ⟨rx, 0, none⟩), .pointer (some ⟨sx, 0, none⟩)] w fun e w' => ∃ u : Unit, e = .returned (.int .i64 v) ∧ S1 u w'))
    {s0 s2 s3 s5 s6 s7 s8 s9 s10 s11 s12 s13 s14 : Value} {dd : List Deferred}
    (hQ : ∀ (u : Unit) (w' : World), S1 u w' → Q .normal { tmps := #[s0, .pointer (some ⟨t1, 0, none⟩), .int .i64 v, s3, .pointer (some ⟨sx, 0, none⟩), s5, s6, .func (.func 98) #[] #[.pointer (some ⟨mx, 0, none⟩), .pointer (some ⟨rx, 0, none⟩), .pointer (some ⟨sx, 0, none⟩)], .pointer (some ⟨b, 0, none⟩), .pointer (some ⟨b, 0, none⟩), .pointer (some ⟨b, 105, none⟩), .int .i64 nd, .int .i64 (max 0 nd), .agg #[.int .i64 0, .int .i64 0, .int .i64 (max 0 nd)], .int .i64 v], defers := dd } w') :
    Code.wpIn (wideAt none) 0 Tryd.prog cnt4C Q { tmps := #[s0, .pointer (some ⟨t1, 0, none⟩), s2, s3, .pointer (some ⟨sx, 0, none⟩), s5, s6, s7, s8, s9, s10, s11, s12, s13, s14], defers := dd } W1 := by
  have HQ := Lib.hid hQ
  clear hQ
  conv => arg 4; whnf
  refine wpIn_region_invG mixed (by kernel_rfl) (fun d_ a_ w' => ∃ (x7 : Value) (x8 : Value) (x9 : Value) (x10 : Value) (x11 : Value) (x12 : Value) (x13 : Value) (x14 : Value) (x2 : Value) (u : Unit), a_ = { tmps := #[s0, .pointer (some ⟨t1, 0, none⟩), x2, s3, .pointer (some ⟨sx, 0, none⟩), s5, s6, x7, x8, x9, x10, x11, x12, x13, x14], defers := dd } ∧ cnt4F b t1 mx rx sx nd v S0 S1 d_ x7 x8 x9 x10 x11 x12 x13 x14 x2 u w') ?_ ?_ ?_
  · refine ⟨s7, s8, s9, s10, s11, s12, s13, s14, s2, default, rfl, ?_⟩
    constructor <;> first | rfl | (intro _; rfl) | (intro h; cases h; done) | (intro _; exact h0) | exact h0
  · refine ⟨?_, ?_, ?_, ?_, ?_, ?_, ?_, ?_, ?_, trivial⟩
    all_goals
      rintro d_ a_ w1 K hd_ hdep ⟨x7, x8, x9, x10, x11, x12, x13, x14, x2, u, rfl, F⟩ HK
      simp [Region.binds] at hdep
    · have hst : S0 w1 := by
        have n_ : d_ 7 = false := by
          cases e_ : d_ 7 with
          | false => rfl
          | true => have h2 := (F.q7 e_).1; rw [show d_ 0 = false from hd_] at h2; cases h2
        exact (F.st0 n_)
      have kk := kl0.out w1 hst
      clear hst
      have HF : Hid (cnt4F b t1 mx rx sx nd v S0 S1 (upd d_ 0) (.func (.func 98) #[] #[.pointer (some ⟨mx, 0, none⟩), .pointer (some ⟨rx, 0, none⟩), .pointer (some ⟨sx, 0, none⟩)]) x8 x9 x10 x11 x12 x13 x14 x2 u w1) := ⟨F.q2, F.q3, F.q4, F.q5, F.q6, fun h => ⟨rfl, (F.q7 h).2⟩, fun h => ⟨rfl, (F.q8 h).2.1, (F.q8 h).2.2.1, (F.q8 h).2.2.2.1, (F.q8 h).2.2.2.2.1, (F.q8 h).2.2.2.2.2.1, (F.q8 h).2.2.2.2.2.2.1, (F.q8 h).2.2.2.2.2.2.2⟩, fun _ => rfl, F.f1, F.f2, F.f3, F.f4, F.f5, F.f6, F.f7, F.f8, F.st0, F.st1⟩
      clear F
      go_simp
      exact HK.out _ _ ⟨_, _, _, _, _, _, _, _, _, _, rfl, HF.out⟩
    · have hst : S0 w1 := by
        have n_ : d_ 7 = false := by
          cases e_ : d_ 7 with
          | false => rfl
          | true => have h2 := (F.q2 (F.q3 (F.q4 (F.q5 (F.q6 (F.q7 e_).2))))); rw [show d_ 1 = false from hd_] at h2; cases h2
        exact (F.st0 n_)
      have kk := kl1.out w1 hst
      clear hst
      have HF : Hid (cnt4F b t1 mx rx sx nd v S0 S1 (upd d_ 1) x7 (.pointer (some ⟨b, 0, none⟩)) x9 x10 x11 x12 x13 x14 x2 u w1) := ⟨fun h => rfl, F.q3, F.q4, F.q5, F.q6, F.q7, fun h => ⟨(F.q8 h).1, rfl, (F.q8 h).2.2.1, (F.q8 h).2.2.2.1, (F.q8 h).2.2.2.2.1, (F.q8 h).2.2.2.2.2.1, (F.q8 h).2.2.2.2.2.2.1, (F.q8 h).2.2.2.2.2.2.2⟩, F.f0, fun _ => rfl, F.f2, F.f3, F.f4, F.f5, F.f6, F.f7, F.f8, F.st0, F.st1⟩
      clear F
      go_simp
      exact HK.out _ _ ⟨_, _, _, _, _, _, _, _, _, _, rfl, HF.out⟩
    · obtain rfl := F.f1 (by simp [hdep])
      have HF : Hid (cnt4F b t1 mx rx sx nd v S0 S1 (upd d_ 2) x7 (.pointer (some ⟨b, 0, none⟩)) (.pointer (some ⟨b, 0, none⟩)) x10 x11 x12 x13 x14 x2 u w1) := ⟨fun _ => (show _ from (by simp [hdep] : d_ 1 = true)), fun h => rfl, F.q4, F.q5, F.q6, F.q7, fun h => ⟨(F.q8 h).1, (F.q8 h).2.1, rfl, (F.q8 h).2.2.2.1, (F.q8 h).2.2.2.2.1, (F.q8 h).2.2.2.2.2.1, (F.q8 h).2.2.2.2.2.2.1, (F.q8 h).2.2.2.2.2.2.2⟩, F.f0, F.f1, fun _ => rfl, F.f3, F.f4, F.f5, F.f6, F.f7, F.f8, F.st0, F.st1⟩
      clear F
      go_simp
      exact HK.out _ _ ⟨_, _, _, _, _, _, _, _, _, _, rfl, HF.out⟩
    · obtain rfl := F.f2 (by simp [hdep])
      have HF : Hid (cnt4F b t1 mx rx sx nd v S0 S1 (upd d_ 3) x7 x8 (.pointer (some ⟨b, 0, none⟩)) (.pointer (some ⟨b, 105, none⟩)) x11 x12 x13 x14 x2 u w1) := ⟨F.q2, fun _ => (show _ from (by simp [hdep] : d_ 2 = true)), fun h => rfl, F.q5, F.q6, F.q7, fun h => ⟨(F.q8 h).1, (F.q8 h).2.1, (F.q8 h).2.2.1, rfl, (F.q8 h).2.2.2.2.1, (F.q8 h).2.2.2.2.2.1, (F.q8 h).2.2.2.2.2.2.1, (F.q8 h).2.2.2.2.2.2.2⟩, F.f0, F.f1, F.f2, fun _ => rfl, F.f4, F.f5, F.f6, F.f7, F.f8, F.st0, F.st1⟩
      clear F
      go_simp
      exact HK.out _ _ ⟨_, _, _, _, _, _, _, _, _, _, rfl, HF.out⟩
    · have hst : S0 w1 := by
        have n_ : d_ 7 = false := by
          cases e_ : d_ 7 with
          | false => rfl
          | true => have h2 := (F.q5 (F.q6 (F.q7 e_).2)); rw [show d_ 4 = false from hd_] at h2; cases h2
        exact (F.st0 n_)
      have kk := kl4.out w1 hst
      clear hst
      obtain rfl := F.f3 (by simp [hdep])
      have HF : Hid (cnt4F b t1 mx rx sx nd v S0 S1 (upd d_ 4) x7 x8 x9 (.pointer (some ⟨b, 105, none⟩)) (.int .i64 nd) x12 x13 x14 x2 u w1) := ⟨F.q2, F.q3, fun _ => (show _ from (by simp [hdep] : d_ 3 = true)), fun h => rfl, F.q6, F.q7, fun h => ⟨(F.q8 h).1, (F.q8 h).2.1, (F.q8 h).2.2.1, (F.q8 h).2.2.2.1, rfl, (F.q8 h).2.2.2.2.2.1, (F.q8 h).2.2.2.2.2.2.1, (F.q8 h).2.2.2.2.2.2.2⟩, F.f0, F.f1, F.f2, F.f3, fun _ => rfl, F.f5, F.f6, F.f7, F.f8, F.st0, F.st1⟩
      clear F
      go_simp
      exact HK.out _ _ ⟨_, _, _, _, _, _, _, _, _, _, rfl, HF.out⟩
    · obtain rfl := F.f4 (by simp [hdep])
      have HF : Hid (cnt4F b t1 mx rx sx nd v S0 S1 (upd d_ 5) x7 x8 x9 x10 (.int .i64 nd) (.int .i64 (max 0 nd)) x13 x14 x2 u w1) := ⟨F.q2, F.q3, F.q4, fun _ => (show _ from (by simp [hdep] : d_ 4 = true)), fun h => rfl, F.q7, fun h => ⟨(F.q8 h).1, (F.q8 h).2.1, (F.q8 h).2.2.1, (F.q8 h).2.2.2.1, (F.q8 h).2.2.2.2.1, rfl, (F.q8 h).2.2.2.2.2.2.1, (F.q8 h).2.2.2.2.2.2.2⟩, F.f0, F.f1, F.f2, F.f3, F.f4, fun _ => rfl, F.f6, F.f7, F.f8, F.st0, F.st1⟩
      clear F
      go_simp
      exact HK.out _ _ ⟨_, _, _, _, _, _, _, _, _, _, rfl, HF.out⟩
    · obtain rfl := F.f5 (by simp [hdep])
      have HF : Hid (cnt4F b t1 mx rx sx nd v S0 S1 (upd d_ 6) x7 x8 x9 x10 x11 (.int .i64 (max 0 nd)) (.agg #[.int .i64 0, .int .i64 0, .int .i64 (max 0 nd)]) x14 x2 u w1) := ⟨F.q2, F.q3, F.q4, F.q5, fun _ => (show _ from (by simp [hdep] : d_ 5 = true)), fun h => ⟨(F.q7 h).1, rfl⟩, fun h => ⟨(F.q8 h).1, (F.q8 h).2.1, (F.q8 h).2.2.1, (F.q8 h).2.2.2.1, (F.q8 h).2.2.2.2.1, (F.q8 h).2.2.2.2.2.1, rfl, (F.q8 h).2.2.2.2.2.2.2⟩, F.f0, F.f1, F.f2, F.f3, F.f4, F.f5, fun _ => rfl, F.f7, F.f8, F.st0, F.st1⟩
      clear F
      go_simp
      exact HK.out _ _ ⟨_, _, _, _, _, _, _, _, _, _, rfl, HF.out⟩
    · have hS := F.st0  hd_
      obtain rfl := F.f0 (by simp [hdep])
      obtain rfl := F.f6 (by simp [hdep])
      have hc := kc7.out w1 hS
      have HF := Lib.hid F
      clear F
      have cf := cf69
      go_simp
      refine ⟨trivial, rfl, wideAt_calls (hc.mono ?_)⟩
      rintro e w5 ⟨v_, rfl, hres⟩
      exact HK.out _ _ ⟨_, _, _, _, _, _, _, _, _, v_, rfl, ⟨HF.out.q2, HF.out.q3, HF.out.q4, HF.out.q5, HF.out.q6, fun _ => ⟨(show _ from (by simp [hdep] : d_ 0 = true)), (show _ from (by simp [hdep] : d_ 6 = true))⟩, fun h => ⟨(HF.out.q8 h).1, (HF.out.q8 h).2.1, (HF.out.q8 h).2.2.1, (HF.out.q8 h).2.2.2.1, (HF.out.q8 h).2.2.2.2.1, (HF.out.q8 h).2.2.2.2.2.1, (HF.out.q8 h).2.2.2.2.2.2.1, rfl⟩, HF.out.f0, HF.out.f1, HF.out.f2, HF.out.f3, HF.out.f4, HF.out.f5, HF.out.f6, fun _ => rfl, HF.out.f8, fun h => (by simp [upd] at h), fun _ => hres⟩⟩
    · obtain rfl := F.f7 (by simp [hdep])
      have HF : Hid (cnt4F b t1 mx rx sx nd v S0 S1 (upd d_ 8) x7 x8 x9 x10 x11 x12 x13 (.int .i64 v) (.int .i64 v) u w1) := ⟨F.q2, F.q3, F.q4, F.q5, F.q6, F.q7, fun _ => ⟨(show _ from (by simp [hdep] : d_ 0 = true)), (show _ from (by simp [hdep] : d_ 1 = true)), (show _ from (by simp [hdep] : d_ 2 = true)), (show _ from (by simp [hdep] : d_ 3 = true)), (show _ from (by simp [hdep] : d_ 4 = true)), (show _ from (by simp [hdep] : d_ 5 = true)), (show _ from (by simp [hdep] : d_ 6 = true)), (show _ from (by simp [hdep] : d_ 7 = true))⟩, F.f0, F.f1, F.f2, F.f3, F.f4, F.f5, F.f6, F.f7, fun _ => rfl, F.st0, F.st1⟩
      clear F
      go_simp
      exact HK.out _ _ ⟨_, _, _, _, _, _, _, _, _, _, rfl, HF.out⟩
  · rintro d_ a_ w1 hall ⟨x7, x8, x9, x10, x11, x12, x13, x14, x2, u, rfl, F⟩
    have hall' : ∀ k, k < 9 → d_ k = true := hall
    obtain rfl := F.f0 (hall' 0 (by decide))
    obtain rfl := F.f1 (hall' 1 (by decide))
    obtain rfl := F.f2 (hall' 2 (by decide))
    obtain rfl := F.f3 (hall' 3 (by decide))
    obtain rfl := F.f4 (hall' 4 (by decide))
    obtain rfl := F.f5 (hall' 5 (by decide))
    obtain rfl := F.f6 (hall' 6 (by decide))
    obtain rfl := F.f7 (hall' 7 (by decide))
    obtain rfl := F.f8 (hall' 8 (by decide))
    have hst := F.st1 (hall' 7 (by decide))
    exact HQ.out u w1 hst
attribute [local go_sem] Oper.semAt_some
structure cnt9F (mx : Nat) (rx : Nat) (sx : Nat) (b4 : Nat) (nb : Nat) (b9 : Nat) (a : Nat) (c : Nat) (p : Nat) (q : Nat) (dd0 : Int) (e1 : Int) (n0 : Int) (v : Int) (z : Int) (rl : Nat) (S0 : World → Prop) (S1 : Unit → World → Prop) (S2 : Unit → World → Prop) (d : Nat → Bool) (x28 x29 x30 x31 x32 x33 x34 x35 x36 x37 x38 x39 x40 x41 x42 : Value) (u : Unit) (w : World) : Prop where
  q3 : d 3 = true → d 2 = true
  q4 : d 4 = true → d 3 = true
  q6 : d 6 = true → d 5 = true
  q7 : d 7 = true → d 6 = true
  q9 : d 9 = true → d 8 = true
  q10 : d 10 = true → d 9 = true
  q11 : d 11 = true → d 10 = true
  q12 : d 12 = true → d 4 = true ∧ d 7 = true ∧ d 11 = true
  q13 : d 13 = true → d 1 = true ∧ d 12 = true
  q14 : d 14 = true → d 0 = true ∧ d 13 = true
  q15 : d 15 = true → d 0 = true ∧ d 1 = true ∧ d 2 = true ∧ d 3 = true ∧ d 4 = true ∧ d 5 = true ∧ d 6 = true ∧ d 7 = true ∧ d 8 = true ∧ d 9 = true ∧ d 10 = true ∧ d 11 = true ∧ d 12 = true ∧ d 13 = true ∧ d 14 = true
  f0 : d 0 = true → x28 = .int .i64 n0
  f1 : d 1 = true → x29 = .func (.func 98) #[] #[.pointer (some ⟨mx, 0, none⟩), .pointer (some ⟨rx, 0, none⟩), .pointer (some ⟨sx, 0, none⟩)]
  f2 : d 2 = true → x30 = .pointer (some ⟨b9, 0, none⟩)
  f3 : d 3 = true → x31 = .int .i64 a
  f4 : d 4 = true → x32 = .int .i64 p
  f5 : d 5 = true → x33 = .pointer (some ⟨b9, 1, none⟩)
  f6 : d 6 = true → x34 = .int .i64 c
  f7 : d 7 = true → x35 = .int .i64 q
  f8 : d 8 = true → x36 = .pointer (some ⟨b4, 2, none⟩)
  f9 : d 9 = true → x37 = .int .i64 dd0
  f10 : d 10 = true → x38 = .int .i64 e1
  f11 : d 11 = true → x39 = .int .i64 (max 0 e1)
  f12 : d 12 = true → x40 = .agg #[.int .i64 p, .int .i64 q, .int .i64 (max 0 e1)]
  f13 : d 13 = true → x41 = .int .i64 v
  f14 : d 14 = true → x42 = .int .i64 z
  st0 : d 13 = false → S0 w
  st1 : d 13 = true → d 15 = false → S1 u w
  st2 : d 15 = true → S2 u w
noncomputable def cnt9C : Code := (Tryd.f98.body.bind (regionR 9)).getD .skip
set_option maxRecDepth 100000 in
set_option maxHeartbeats 4000000 in
theorem cnt9 {mx : Nat} {rx : Nat} {sx : Nat} {b4 : Nat} {nb : Nat} {b9 : Nat} {a : Nat} {c : Nat} {p : Nat} {q : Nat} {dd0 : Int} {e1 : Int} {n0 : Int} {v : Int} {z : Int} {rl : Nat} {S0 : World → Prop} {S1 : Unit → World → Prop} {S2 : Unit → World → Prop} {Q : Exit → Act → World → Prop} {W1 : World} (hp : IntKind.i64.wrap ((a : Int) + 1) = (p : Int)) (hq : IntKind.i64.wrap ((c : Int) + 1) = (q : Int)) (he : IntKind.i64.wrap (dd0 - 1) = e1) (hz : IntKind.i64.wrap (n0 + v) = z) (h0 : S0 W1.drew)
    (kl0 : Hid (∀ (u : Unit) (w : World), (S0 w ∨ S1 u w) → w.cell? ⟨nb, 0, none⟩ = some (.int .i64 n0)))
    (kl1 : Hid (∀ (w : World), (S0 w) → w.cell? ⟨sx, 0, none⟩ = some (.func (.func 98) #[] #[.pointer (some ⟨mx, 0, none⟩), .pointer (some ⟨rx, 0, none⟩), .pointer (some ⟨sx, 0, none⟩)])))
    (kl3 : Hid (∀ (w : World), (S0 w) → w.cell? ⟨b9, 0, none⟩ = some (.int .i64 a)))
    (kl6 : Hid (∀ (w : World), (S0 w) → w.cell? ⟨b9, 1, none⟩ = some (.int .i64 c)))
    (kl9 : Hid (∀ (w : World), (S0 w) → w.cell? ⟨b4, 2, none⟩ = some (.int .i64 dd0)))
    (kc13 : Hid (∀ (w : World), S0 w → Calls Tryd.prog 98 #[.agg #[.int .i64 p, .int .i64 q, .int .i64 (max 0 e1)], .pointer (some ⟨mx, 0, none⟩), .pointer (some ⟨rx, 0, none⟩), .pointer (some ⟨sx, 0, none⟩)] w fun e w' => ∃ u : Unit, e = .returned (.int .i64 v) ∧ S1 u w'))
    (kc15 : Hid (∀ (u : Unit) (w : World), S1 u w → (∃ u, w.cell? ⟨nb, 0, none⟩ = some u) ∧ w.frozen? ⟨nb, 0, none⟩ = false ∧ S2 u (w.setCell ⟨nb, 0, none⟩ (.int .i64 z))))
    {s0 s1 s2 s5 s6 s7 s10 s11 s12 s13 s14 s15 s16 s17 s18 s19 s20 s21 s22 s23 s24 s25 s26 s27 s28 s29 s30 s31 s32 s33 s34 s35 s36 s37 s38 s39 s40 s41 s42 s43 s44 s45 s46 : Value} {dd : List Deferred}
    (hQ : ∀ (u : Unit) (w' : World), S2 u w' → Q .normal { tmps := #[s0, s1, s2, .pointer (some ⟨sx, 0, none⟩), .pointer (some ⟨b4, 0, none⟩), s5, s6, s7, .pointer (some ⟨nb, 0, none⟩), .pointer (some ⟨b9, 0, none⟩), s10, s11, s12, s13, s14, s15, s16, s17, s18, s19, s20, s21, s22, s23, s24, s25, s26, s27, .int .i64 n0, .func (.func 98) #[] #[.pointer (some ⟨mx, 0, none⟩), .pointer (some ⟨rx, 0, none⟩), .pointer (some ⟨sx, 0, none⟩)], .pointer (some ⟨b9, 0, none⟩), .int .i64 a, .int .i64 p, .pointer (some ⟨b9, 1, none⟩), .int .i64 c, .int .i64 q, .pointer (some ⟨b4, 2, none⟩), .int .i64 dd0, .int .i64 e1, .int .i64 (max 0 e1), .agg #[.int .i64 p, .int .i64 q, .int .i64 (max 0 e1)], .int .i64 v, .int .i64 z, s43, s44, s45, s46], defers := dd } w') :
    Code.wpIn (wideAt (some rl)) 0 Tryd.prog cnt9C Q { tmps := #[s0, s1, s2, .pointer (some ⟨sx, 0, none⟩), .pointer (some ⟨b4, 0, none⟩), s5, s6, s7, .pointer (some ⟨nb, 0, none⟩), .pointer (some ⟨b9, 0, none⟩), s10, s11, s12, s13, s14, s15, s16, s17, s18, s19, s20, s21, s22, s23, s24, s25, s26, s27, s28, s29, s30, s31, s32, s33, s34, s35, s36, s37, s38, s39, s40, s41, s42, s43, s44, s45, s46], defers := dd } W1 := by
  have HQ := Lib.hid hQ
  clear hQ
  conv => arg 4; whnf
  refine wpIn_region_invG mixed (by kernel_rfl) (fun d_ a_ w' => ∃ (x28 : Value) (x29 : Value) (x30 : Value) (x31 : Value) (x32 : Value) (x33 : Value) (x34 : Value) (x35 : Value) (x36 : Value) (x37 : Value) (x38 : Value) (x39 : Value) (x40 : Value) (x41 : Value) (x42 : Value) (u : Unit), a_ = { tmps := #[s0, s1, s2, .pointer (some ⟨sx, 0, none⟩), .pointer (some ⟨b4, 0, none⟩), s5, s6, s7, .pointer (some ⟨nb, 0, none⟩), .pointer (some ⟨b9, 0, none⟩), s10, s11, s12, s13, s14, s15, s16, s17, s18, s19, s20, s21, s22, s23, s24, s25, s26, s27, x28, x29, x30, x31, x32, x33, x34, x35, x36, x37, x38, x39, x40, x41, x42, s43, s44, s45, s46], defers := dd } ∧ cnt9F mx rx sx b4 nb b9 a c p q dd0 e1 n0 v z rl S0 S1 S2 d_ x28 x29 x30 x31 x32 x33 x34 x35 x36 x37 x38 x39 x40 x41 x42 u w') ?_ ?_ ?_
  · refine ⟨s28, s29, s30, s31, s32, s33, s34, s35, s36, s37, s38, s39, s40, s41, s42, default, rfl, ?_⟩
    constructor <;> first | rfl | (intro _; rfl) | (intro h; cases h; done) | (intro _; exact h0) | exact h0
  · refine ⟨?_, ?_, ?_, ?_, ?_, ?_, ?_, ?_, ?_, ?_, ?_, ?_, ?_, ?_, ?_, ?_, trivial⟩
    all_goals
      rintro d_ a_ w1 K hd_ hdep ⟨x28, x29, x30, x31, x32, x33, x34, x35, x36, x37, x38, x39, x40, x41, x42, u, rfl, F⟩ HK
      simp [Region.binds] at hdep
    · have hst : S0 w1 ∨ S1 u w1 := by
        cases e1 : d_ 13 with
        | false => exact .inl ((F.st0 e1))
        | true =>
          have n_ : d_ 15 = false := by
            cases e_ : d_ 15 with
            | false => rfl
            | true => have h2 := (F.q15 e_).1; rw [show d_ 0 = false from hd_] at h2; cases h2
          exact .inr ((F.st1 e1 n_))
      have kk := kl0.out u w1 hst
      clear hst
      have HF : Hid (cnt9F mx rx sx b4 nb b9 a c p q dd0 e1 n0 v z rl S0 S1 S2 (upd d_ 0) (.int .i64 n0) x29 x30 x31 x32 x33 x34 x35 x36 x37 x38 x39 x40 x41 x42 u w1) := ⟨F.q3, F.q4, F.q6, F.q7, F.q9, F.q10, F.q11, F.q12, F.q13, fun h => ⟨rfl, (F.q14 h).2⟩, fun h => ⟨rfl, (F.q15 h).2.1, (F.q15 h).2.2.1, (F.q15 h).2.2.2.1, (F.q15 h).2.2.2.2.1, (F.q15 h).2.2.2.2.2.1, (F.q15 h).2.2.2.2.2.2.1, (F.q15 h).2.2.2.2.2.2.2.1, (F.q15 h).2.2.2.2.2.2.2.2.1, (F.q15 h).2.2.2.2.2.2.2.2.2.1, (F.q15 h).2.2.2.2.2.2.2.2.2.2.1, (F.q15 h).2.2.2.2.2.2.2.2.2.2.2.1, (F.q15 h).2.2.2.2.2.2.2.2.2.2.2.2.1, (F.q15 h).2.2.2.2.2.2.2.2.2.2.2.2.2.1, (F.q15 h).2.2.2.2.2.2.2.2.2.2.2.2.2.2⟩, fun _ => rfl, F.f1, F.f2, F.f3, F.f4, F.f5, F.f6, F.f7, F.f8, F.f9, F.f10, F.f11, F.f12, F.f13, F.f14, F.st0, F.st1, F.st2⟩
      clear F
      go_simp
      exact HK.out _ _ ⟨_, _, _, _, _, _, _, _, _, _, _, _, _, _, _, _, rfl, HF.out⟩
    · have hst : S0 w1 := by
        have n_ : d_ 13 = false := by
          cases e_ : d_ 13 with
          | false => rfl
          | true => have h2 := (F.q13 e_).1; rw [show d_ 1 = false from hd_] at h2; cases h2
        exact (F.st0 n_)
      have kk := kl1.out w1 hst
      clear hst
      have HF : Hid (cnt9F mx rx sx b4 nb b9 a c p q dd0 e1 n0 v z rl S0 S1 S2 (upd d_ 1) x28 (.func (.func 98) #[] #[.pointer (some ⟨mx, 0, none⟩), .pointer (some ⟨rx, 0, none⟩), .pointer (some ⟨sx, 0, none⟩)]) x30 x31 x32 x33 x34 x35 x36 x37 x38 x39 x40 x41 x42 u w1) := ⟨F.q3, F.q4, F.q6, F.q7, F.q9, F.q10, F.q11, F.q12, fun h => ⟨rfl, (F.q13 h).2⟩, F.q14, fun h => ⟨(F.q15 h).1, rfl, (F.q15 h).2.2.1, (F.q15 h).2.2.2.1, (F.q15 h).2.2.2.2.1, (F.q15 h).2.2.2.2.2.1, (F.q15 h).2.2.2.2.2.2.1, (F.q15 h).2.2.2.2.2.2.2.1, (F.q15 h).2.2.2.2.2.2.2.2.1, (F.q15 h).2.2.2.2.2.2.2.2.2.1, (F.q15 h).2.2.2.2.2.2.2.2.2.2.1, (F.q15 h).2.2.2.2.2.2.2.2.2.2.2.1, (F.q15 h).2.2.2.2.2.2.2.2.2.2.2.2.1, (F.q15 h).2.2.2.2.2.2.2.2.2.2.2.2.2.1, (F.q15 h).2.2.2.2.2.2.2.2.2.2.2.2.2.2⟩, F.f0, fun _ => rfl, F.f2, F.f3, F.f4, F.f5, F.f6, F.f7, F.f8, F.f9, F.f10, F.f11, F.f12, F.f13, F.f14, F.st0, F.st1, F.st2⟩
      clear F
      go_simp
      exact HK.out _ _ ⟨_, _, _, _, _, _, _, _, _, _, _, _, _, _, _, _, rfl, HF.out⟩
    · have HF : Hid (cnt9F mx rx sx b4 nb b9 a c p q dd0 e1 n0 v z rl S0 S1 S2 (upd d_ 2) x28 x29 (.pointer (some ⟨b9, 0, none⟩)) x31 x32 x33 x34 x35 x36 x37 x38 x39 x40 x41 x42 u w1) := ⟨fun h => rfl, F.q4, F.q6, F.q7, F.q9, F.q10, F.q11, F.q12, F.q13, F.q14, fun h => ⟨(F.q15 h).1, (F.q15 h).2.1, rfl, (F.q15 h).2.2.2.1, (F.q15 h).2.2.2.2.1, (F.q15 h).2.2.2.2.2.1, (F.q15 h).2.2.2.2.2.2.1, (F.q15 h).2.2.2.2.2.2.2.1, (F.q15 h).2.2.2.2.2.2.2.2.1, (F.q15 h).2.2.2.2.2.2.2.2.2.1, (F.q15 h).2.2.2.2.2.2.2.2.2.2.1, (F.q15 h).2.2.2.2.2.2.2.2.2.2.2.1, (F.q15 h).2.2.2.2.2.2.2.2.2.2.2.2.1, (F.q15 h).2.2.2.2.2.2.2.2.2.2.2.2.2.1, (F.q15 h).2.2.2.2.2.2.2.2.2.2.2.2.2.2⟩, F.f0, F.f1, fun _ => rfl, F.f3, F.f4, F.f5, F.f6, F.f7, F.f8, F.f9, F.f10, F.f11, F.f12, F.f13, F.f14, F.st0, F.st1, F.st2⟩
      clear F
      go_simp
      exact HK.out _ _ ⟨_, _, _, _, _, _, _, _, _, _, _, _, _, _, _, _, rfl, HF.out⟩
    · have hst : S0 w1 := by
        have n_ : d_ 13 = false := by
          cases e_ : d_ 13 with
          | false => rfl
          | true => have h2 := (F.q4 (F.q12 (F.q13 e_).2).1); rw [show d_ 3 = false from hd_] at h2; cases h2
        exact (F.st0 n_)
      have kk := kl3.out w1 hst
      clear hst
      obtain rfl := F.f2 (by simp [hdep])
      have HF : Hid (cnt9F mx rx sx b4 nb b9 a c p q dd0 e1 n0 v z rl S0 S1 S2 (upd d_ 3) x28 x29 (.pointer (some ⟨b9, 0, none⟩)) (.int .i64 a) x32 x33 x34 x35 x36 x37 x38 x39 x40 x41 x42 u w1) := ⟨fun _ => (show _ from (by simp [hdep] : d_ 2 = true)), fun h => rfl, F.q6, F.q7, F.q9, F.q10, F.q11, F.q12, F.q13, F.q14, fun h => ⟨(F.q15 h).1, (F.q15 h).2.1, (F.q15 h).2.2.1, rfl, (F.q15 h).2.2.2.2.1, (F.q15 h).2.2.2.2.2.1, (F.q15 h).2.2.2.2.2.2.1, (F.q15 h).2.2.2.2.2.2.2.1, (F.q15 h).2.2.2.2.2.2.2.2.1, (F.q15 h).2.2.2.2.2.2.2.2.2.1, (F.q15 h).2.2.2.2.2.2.2.2.2.2.1, (F.q15 h).2.2.2.2.2.2.2.2.2.2.2.1, (F.q15 h).2.2.2.2.2.2.2.2.2.2.2.2.1, (F.q15 h).2.2.2.2.2.2.2.2.2.2.2.2.2.1, (F.q15 h).2.2.2.2.2.2.2.2.2.2.2.2.2.2⟩, F.f0, F.f1, F.f2, fun _ => rfl, F.f4, F.f5, F.f6, F.f7, F.f8, F.f9, F.f10, F.f11, F.f12, F.f13, F.f14, F.st0, F.st1, F.st2⟩
      clear F
      go_simp
      exact HK.out _ _ ⟨_, _, _, _, _, _, _, _, _, _, _, _, _, _, _, _, rfl, HF.out⟩
    · obtain rfl := F.f3 (by simp [hdep])
      have HF : Hid (cnt9F mx rx sx b4 nb b9 a c p q dd0 e1 n0 v z rl S0 S1 S2 (upd d_ 4) x28 x29 x30 (.int .i64 a) (.int .i64 p) x33 x34 x35 x36 x37 x38 x39 x40 x41 x42 u w1) := ⟨F.q3, fun _ => (show _ from (by simp [hdep] : d_ 3 = true)), F.q6, F.q7, F.q9, F.q10, F.q11, fun h => ⟨rfl, (F.q12 h).2.1, (F.q12 h).2.2⟩, F.q13, F.q14, fun h => ⟨(F.q15 h).1, (F.q15 h).2.1, (F.q15 h).2.2.1, (F.q15 h).2.2.2.1, rfl, (F.q15 h).2.2.2.2.2.1, (F.q15 h).2.2.2.2.2.2.1, (F.q15 h).2.2.2.2.2.2.2.1, (F.q15 h).2.2.2.2.2.2.2.2.1, (F.q15 h).2.2.2.2.2.2.2.2.2.1, (F.q15 h).2.2.2.2.2.2.2.2.2.2.1, (F.q15 h).2.2.2.2.2.2.2.2.2.2.2.1, (F.q15 h).2.2.2.2.2.2.2.2.2.2.2.2.1, (F.q15 h).2.2.2.2.2.2.2.2.2.2.2.2.2.1, (F.q15 h).2.2.2.2.2.2.2.2.2.2.2.2.2.2⟩, F.f0, F.f1, F.f2, F.f3, fun _ => rfl, F.f5, F.f6, F.f7, F.f8, F.f9, F.f10, F.f11, F.f12, F.f13, F.f14, F.st0, F.st1, F.st2⟩
      clear F
      go_simp
      exact HK.out _ _ ⟨_, _, _, _, _, _, _, _, _, _, _, _, _, _, _, _, rfl, HF.out⟩
    · have HF : Hid (cnt9F mx rx sx b4 nb b9 a c p q dd0 e1 n0 v z rl S0 S1 S2 (upd d_ 5) x28 x29 x30 x31 x32 (.pointer (some ⟨b9, 1, none⟩)) x34 x35 x36 x37 x38 x39 x40 x41 x42 u w1) := ⟨F.q3, F.q4, fun h => rfl, F.q7, F.q9, F.q10, F.q11, F.q12, F.q13, F.q14, fun h => ⟨(F.q15 h).1, (F.q15 h).2.1, (F.q15 h).2.2.1, (F.q15 h).2.2.2.1, (F.q15 h).2.2.2.2.1, rfl, (F.q15 h).2.2.2.2.2.2.1, (F.q15 h).2.2.2.2.2.2.2.1, (F.q15 h).2.2.2.2.2.2.2.2.1, (F.q15 h).2.2.2.2.2.2.2.2.2.1, (F.q15 h).2.2.2.2.2.2.2.2.2.2.1, (F.q15 h).2.2.2.2.2.2.2.2.2.2.2.1, (F.q15 h).2.2.2.2.2.2.2.2.2.2.2.2.1, (F.q15 h).2.2.2.2.2.2.2.2.2.2.2.2.2.1, (F.q15 h).2.2.2.2.2.2.2.2.2.2.2.2.2.2⟩, F.f0, F.f1, F.f2, F.f3, F.f4, fun _ => rfl, F.f6, F.f7, F.f8, F.f9, F.f10, F.f11, F.f12, F.f13, F.f14, F.st0, F.st1, F.st2⟩
      clear F
      go_simp
      exact HK.out _ _ ⟨_, _, _, _, _, _, _, _, _, _, _, _, _, _, _, _, rfl, HF.out⟩
    · have hst : S0 w1 := by
        have n_ : d_ 13 = false := by
          cases e_ : d_ 13 with
          | false => rfl
          | true => have h2 := (F.q7 (F.q12 (F.q13 e_).2).2.1); rw [show d_ 6 = false from hd_] at h2; cases h2
        exact (F.st0 n_)
      have kk := kl6.out w1 hst
      clear hst
      obtain rfl := F.f5 (by simp [hdep])
      have HF : Hid (cnt9F mx rx sx b4 nb b9 a c p q dd0 e1 n0 v z rl S0 S1 S2 (upd d_ 6) x28 x29 x30 x31 x32 (.pointer (some ⟨b9, 1, none⟩)) (.int .i64 c) x35 x36 x37 x38 x39 x40 x41 x42 u w1) := ⟨F.q3, F.q4, fun _ => (show _ from (by simp [hdep] : d_ 5 = true)), fun h => rfl, F.q9, F.q10, F.q11, F.q12, F.q13, F.q14, fun h => ⟨(F.q15 h).1, (F.q15 h).2.1, (F.q15 h).2.2.1, (F.q15 h).2.2.2.1, (F.q15 h).2.2.2.2.1, (F.q15 h).2.2.2.2.2.1, rfl, (F.q15 h).2.2.2.2.2.2.2.1, (F.q15 h).2.2.2.2.2.2.2.2.1, (F.q15 h).2.2.2.2.2.2.2.2.2.1, (F.q15 h).2.2.2.2.2.2.2.2.2.2.1, (F.q15 h).2.2.2.2.2.2.2.2.2.2.2.1, (F.q15 h).2.2.2.2.2.2.2.2.2.2.2.2.1, (F.q15 h).2.2.2.2.2.2.2.2.2.2.2.2.2.1, (F.q15 h).2.2.2.2.2.2.2.2.2.2.2.2.2.2⟩, F.f0, F.f1, F.f2, F.f3, F.f4, F.f5, fun _ => rfl, F.f7, F.f8, F.f9, F.f10, F.f11, F.f12, F.f13, F.f14, F.st0, F.st1, F.st2⟩
      clear F
      go_simp
      exact HK.out _ _ ⟨_, _, _, _, _, _, _, _, _, _, _, _, _, _, _, _, rfl, HF.out⟩
    · obtain rfl := F.f6 (by simp [hdep])
      have HF : Hid (cnt9F mx rx sx b4 nb b9 a c p q dd0 e1 n0 v z rl S0 S1 S2 (upd d_ 7) x28 x29 x30 x31 x32 x33 (.int .i64 c) (.int .i64 q) x36 x37 x38 x39 x40 x41 x42 u w1) := ⟨F.q3, F.q4, F.q6, fun _ => (show _ from (by simp [hdep] : d_ 6 = true)), F.q9, F.q10, F.q11, fun h => ⟨(F.q12 h).1, rfl, (F.q12 h).2.2⟩, F.q13, F.q14, fun h => ⟨(F.q15 h).1, (F.q15 h).2.1, (F.q15 h).2.2.1, (F.q15 h).2.2.2.1, (F.q15 h).2.2.2.2.1, (F.q15 h).2.2.2.2.2.1, (F.q15 h).2.2.2.2.2.2.1, rfl, (F.q15 h).2.2.2.2.2.2.2.2.1, (F.q15 h).2.2.2.2.2.2.2.2.2.1, (F.q15 h).2.2.2.2.2.2.2.2.2.2.1, (F.q15 h).2.2.2.2.2.2.2.2.2.2.2.1, (F.q15 h).2.2.2.2.2.2.2.2.2.2.2.2.1, (F.q15 h).2.2.2.2.2.2.2.2.2.2.2.2.2.1, (F.q15 h).2.2.2.2.2.2.2.2.2.2.2.2.2.2⟩, F.f0, F.f1, F.f2, F.f3, F.f4, F.f5, F.f6, fun _ => rfl, F.f8, F.f9, F.f10, F.f11, F.f12, F.f13, F.f14, F.st0, F.st1, F.st2⟩
      clear F
      go_simp
      exact HK.out _ _ ⟨_, _, _, _, _, _, _, _, _, _, _, _, _, _, _, _, rfl, HF.out⟩
    · have HF : Hid (cnt9F mx rx sx b4 nb b9 a c p q dd0 e1 n0 v z rl S0 S1 S2 (upd d_ 8) x28 x29 x30 x31 x32 x33 x34 x35 (.pointer (some ⟨b4, 2, none⟩)) x37 x38 x39 x40 x41 x42 u w1) := ⟨F.q3, F.q4, F.q6, F.q7, fun h => rfl, F.q10, F.q11, F.q12, F.q13, F.q14, fun h => ⟨(F.q15 h).1, (F.q15 h).2.1, (F.q15 h).2.2.1, (F.q15 h).2.2.2.1, (F.q15 h).2.2.2.2.1, (F.q15 h).2.2.2.2.2.1, (F.q15 h).2.2.2.2.2.2.1, (F.q15 h).2.2.2.2.2.2.2.1, rfl, (F.q15 h).2.2.2.2.2.2.2.2.2.1, (F.q15 h).2.2.2.2.2.2.2.2.2.2.1, (F.q15 h).2.2.2.2.2.2.2.2.2.2.2.1, (F.q15 h).2.2.2.2.2.2.2.2.2.2.2.2.1, (F.q15 h).2.2.2.2.2.2.2.2.2.2.2.2.2.1, (F.q15 h).2.2.2.2.2.2.2.2.2.2.2.2.2.2⟩, F.f0, F.f1, F.f2, F.f3, F.f4, F.f5, F.f6, F.f7, fun _ => rfl, F.f9, F.f10, F.f11, F.f12, F.f13, F.f14, F.st0, F.st1, F.st2⟩
      clear F
      go_simp
      exact HK.out _ _ ⟨_, _, _, _, _, _, _, _, _, _, _, _, _, _, _, _, rfl, HF.out⟩
    · have hst : S0 w1 := by
        have n_ : d_ 13 = false := by
          cases e_ : d_ 13 with
          | false => rfl
          | true => have h2 := (F.q10 (F.q11 (F.q12 (F.q13 e_).2).2.2)); rw [show d_ 9 = false from hd_] at h2; cases h2
        exact (F.st0 n_)
      have kk := kl9.out w1 hst
      clear hst
      obtain rfl := F.f8 (by simp [hdep])
      have HF : Hid (cnt9F mx rx sx b4 nb b9 a c p q dd0 e1 n0 v z rl S0 S1 S2 (upd d_ 9) x28 x29 x30 x31 x32 x33 x34 x35 (.pointer (some ⟨b4, 2, none⟩)) (.int .i64 dd0) x38 x39 x40 x41 x42 u w1) := ⟨F.q3, F.q4, F.q6, F.q7, fun _ => (show _ from (by simp [hdep] : d_ 8 = true)), fun h => rfl, F.q11, F.q12, F.q13, F.q14, fun h => ⟨(F.q15 h).1, (F.q15 h).2.1, (F.q15 h).2.2.1, (F.q15 h).2.2.2.1, (F.q15 h).2.2.2.2.1, (F.q15 h).2.2.2.2.2.1, (F.q15 h).2.2.2.2.2.2.1, (F.q15 h).2.2.2.2.2.2.2.1, (F.q15 h).2.2.2.2.2.2.2.2.1, rfl, (F.q15 h).2.2.2.2.2.2.2.2.2.2.1, (F.q15 h).2.2.2.2.2.2.2.2.2.2.2.1, (F.q15 h).2.2.2.2.2.2.2.2.2.2.2.2.1, (F.q15 h).2.2.2.2.2.2.2.2.2.2.2.2.2.1, (F.q15 h).2.2.2.2.2.2.2.2.2.2.2.2.2.2⟩, F.f0, F.f1, F.f2, F.f3, F.f4, F.f5, F.f6, F.f7, F.f8, fun _ => rfl, F.f10, F.f11, F.f12, F.f13, F.f14, F.st0, F.st1, F.st2⟩
      clear F
      go_simp
      exact HK.out _ _ ⟨_, _, _, _, _, _, _, _, _, _, _, _, _, _, _, _, rfl, HF.out⟩
    · obtain rfl := F.f9 (by simp [hdep])
      have HF : Hid (cnt9F mx rx sx b4 nb b9 a c p q dd0 e1 n0 v z rl S0 S1 S2 (upd d_ 10) x28 x29 x30 x31 x32 x33 x34 x35 x36 (.int .i64 dd0) (.int .i64 e1) x39 x40 x41 x42 u w1) := ⟨F.q3, F.q4, F.q6, F.q7, F.q9, fun _ => (show _ from (by simp [hdep] : d_ 9 = true)), fun h => rfl, F.q12, F.q13, F.q14, fun h => ⟨(F.q15 h).1, (F.q15 h).2.1, (F.q15 h).2.2.1, (F.q15 h).2.2.2.1, (F.q15 h).2.2.2.2.1, (F.q15 h).2.2.2.2.2.1, (F.q15 h).2.2.2.2.2.2.1, (F.q15 h).2.2.2.2.2.2.2.1, (F.q15 h).2.2.2.2.2.2.2.2.1, (F.q15 h).2.2.2.2.2.2.2.2.2.1, rfl, (F.q15 h).2.2.2.2.2.2.2.2.2.2.2.1, (F.q15 h).2.2.2.2.2.2.2.2.2.2.2.2.1, (F.q15 h).2.2.2.2.2.2.2.2.2.2.2.2.2.1, (F.q15 h).2.2.2.2.2.2.2.2.2.2.2.2.2.2⟩, F.f0, F.f1, F.f2, F.f3, F.f4, F.f5, F.f6, F.f7, F.f8, F.f9, fun _ => rfl, F.f11, F.f12, F.f13, F.f14, F.st0, F.st1, F.st2⟩
      clear F
      go_simp
      exact HK.out _ _ ⟨_, _, _, _, _, _, _, _, _, _, _, _, _, _, _, _, rfl, HF.out⟩
    · obtain rfl := F.f10 (by simp [hdep])
      have HF : Hid (cnt9F mx rx sx b4 nb b9 a c p q dd0 e1 n0 v z rl S0 S1 S2 (upd d_ 11) x28 x29 x30 x31 x32 x33 x34 x35 x36 x37 (.int .i64 e1) (.int .i64 (max 0 e1)) x40 x41 x42 u w1) := ⟨F.q3, F.q4, F.q6, F.q7, F.q9, F.q10, fun _ => (show _ from (by simp [hdep] : d_ 10 = true)), fun h => ⟨(F.q12 h).1, (F.q12 h).2.1, rfl⟩, F.q13, F.q14, fun h => ⟨(F.q15 h).1, (F.q15 h).2.1, (F.q15 h).2.2.1, (F.q15 h).2.2.2.1, (F.q15 h).2.2.2.2.1, (F.q15 h).2.2.2.2.2.1, (F.q15 h).2.2.2.2.2.2.1, (F.q15 h).2.2.2.2.2.2.2.1, (F.q15 h).2.2.2.2.2.2.2.2.1, (F.q15 h).2.2.2.2.2.2.2.2.2.1, (F.q15 h).2.2.2.2.2.2.2.2.2.2.1, rfl, (F.q15 h).2.2.2.2.2.2.2.2.2.2.2.2.1, (F.q15 h).2.2.2.2.2.2.2.2.2.2.2.2.2.1, (F.q15 h).2.2.2.2.2.2.2.2.2.2.2.2.2.2⟩, F.f0, F.f1, F.f2, F.f3, F.f4, F.f5, F.f6, F.f7, F.f8, F.f9, F.f10, fun _ => rfl, F.f12, F.f13, F.f14, F.st0, F.st1, F.st2⟩
      clear F
      go_simp
      exact HK.out _ _ ⟨_, _, _, _, _, _, _, _, _, _, _, _, _, _, _, _, rfl, HF.out⟩
    · obtain rfl := F.f4 (by simp [hdep])
      obtain rfl := F.f7 (by simp [hdep])
      obtain rfl := F.f11 (by simp [hdep])
      have HF : Hid (cnt9F mx rx sx b4 nb b9 a c p q dd0 e1 n0 v z rl S0 S1 S2 (upd d_ 12) x28 x29 x30 x31 (.int .i64 p) x33 x34 (.int .i64 q) x36 x37 x38 (.int .i64 (max 0 e1)) (.agg #[.int .i64 p, .int .i64 q, .int .i64 (max 0 e1)]) x41 x42 u w1) := ⟨F.q3, F.q4, F.q6, F.q7, F.q9, F.q10, F.q11, fun _ => ⟨(show _ from (by simp [hdep] : d_ 4 = true)), (show _ from (by simp [hdep] : d_ 7 = true)), (show _ from (by simp [hdep] : d_ 11 = true))⟩, fun h => ⟨(F.q13 h).1, rfl⟩, F.q14, fun h => ⟨(F.q15 h).1, (F.q15 h).2.1, (F.q15 h).2.2.1, (F.q15 h).2.2.2.1, (F.q15 h).2.2.2.2.1, (F.q15 h).2.2.2.2.2.1, (F.q15 h).2.2.2.2.2.2.1, (F.q15 h).2.2.2.2.2.2.2.1, (F.q15 h).2.2.2.2.2.2.2.2.1, (F.q15 h).2.2.2.2.2.2.2.2.2.1, (F.q15 h).2.2.2.2.2.2.2.2.2.2.1, (F.q15 h).2.2.2.2.2.2.2.2.2.2.2.1, rfl, (F.q15 h).2.2.2.2.2.2.2.2.2.2.2.2.2.1, (F.q15 h).2.2.2.2.2.2.2.2.2.2.2.2.2.2⟩, F.f0, F.f1, F.f2, F.f3, F.f4, F.f5, F.f6, F.f7, F.f8, F.f9, F.f10, F.f11, fun _ => rfl, F.f13, F.f14, F.st0, F.st1, F.st2⟩
      clear F
      go_simp
      exact HK.out _ _ ⟨_, _, _, _, _, _, _, _, _, _, _, _, _, _, _, _, rfl, HF.out⟩
    · have hS := F.st0  hd_
      obtain rfl := F.f1 (by simp [hdep])
      obtain rfl := F.f12 (by simp [hdep])
      have hc := kc13.out w1 hS
      have HF := Lib.hid F
      clear F
      have cf := cf69
      go_simp
      refine ⟨trivial, rfl, wideAt_calls (hc.mono ?_)⟩
      rintro e w5 ⟨v_, rfl, hres⟩
      exact HK.out _ _ ⟨_, _, _, _, _, _, _, _, _, _, _, _, _, _, _, v_, rfl, ⟨HF.out.q3, HF.out.q4, HF.out.q6, HF.out.q7, HF.out.q9, HF.out.q10, HF.out.q11, HF.out.q12, fun _ => ⟨(show _ from (by simp [hdep] : d_ 1 = true)), (show _ from (by simp [hdep] : d_ 12 = true))⟩, fun h => ⟨(HF.out.q14 h).1, rfl⟩, fun h => ⟨(HF.out.q15 h).1, (HF.out.q15 h).2.1, (HF.out.q15 h).2.2.1, (HF.out.q15 h).2.2.2.1, (HF.out.q15 h).2.2.2.2.1, (HF.out.q15 h).2.2.2.2.2.1, (HF.out.q15 h).2.2.2.2.2.2.1, (HF.out.q15 h).2.2.2.2.2.2.2.1, (HF.out.q15 h).2.2.2.2.2.2.2.2.1, (HF.out.q15 h).2.2.2.2.2.2.2.2.2.1, (HF.out.q15 h).2.2.2.2.2.2.2.2.2.2.1, (HF.out.q15 h).2.2.2.2.2.2.2.2.2.2.2.1, (HF.out.q15 h).2.2.2.2.2.2.2.2.2.2.2.2.1, rfl, (HF.out.q15 h).2.2.2.2.2.2.2.2.2.2.2.2.2.2⟩, HF.out.f0, HF.out.f1, HF.out.f2, HF.out.f3, HF.out.f4, HF.out.f5, HF.out.f6, HF.out.f7, HF.out.f8, HF.out.f9, HF.out.f10, HF.out.f11, HF.out.f12, fun _ => rfl, HF.out.f14, fun h => (by simp [upd] at h), fun _ _ => hres, fun h => (by have h2 : d_ 13 = true := (HF.out.q15 h).2.2.2.2.2.2.2.2.2.2.2.2.2.1; rw [show d_ 13 = false from hd_] at h2; cases h2)⟩⟩
    · obtain rfl := F.f0 (by simp [hdep])
      obtain rfl := F.f13 (by simp [hdep])
      have HF : Hid (cnt9F mx rx sx b4 nb b9 a c p q dd0 e1 n0 v z rl S0 S1 S2 (upd d_ 14) (.int .i64 n0) x29 x30 x31 x32 x33 x34 x35 x36 x37 x38 x39 x40 (.int .i64 v) (.int .i64 z) u w1) := ⟨F.q3, F.q4, F.q6, F.q7, F.q9, F.q10, F.q11, F.q12, F.q13, fun _ => ⟨(show _ from (by simp [hdep] : d_ 0 = true)), (show _ from (by simp [hdep] : d_ 13 = true))⟩, fun h => ⟨(F.q15 h).1, (F.q15 h).2.1, (F.q15 h).2.2.1, (F.q15 h).2.2.2.1, (F.q15 h).2.2.2.2.1, (F.q15 h).2.2.2.2.2.1, (F.q15 h).2.2.2.2.2.2.1, (F.q15 h).2.2.2.2.2.2.2.1, (F.q15 h).2.2.2.2.2.2.2.2.1, (F.q15 h).2.2.2.2.2.2.2.2.2.1, (F.q15 h).2.2.2.2.2.2.2.2.2.2.1, (F.q15 h).2.2.2.2.2.2.2.2.2.2.2.1, (F.q15 h).2.2.2.2.2.2.2.2.2.2.2.2.1, (F.q15 h).2.2.2.2.2.2.2.2.2.2.2.2.2.1, rfl⟩, F.f0, F.f1, F.f2, F.f3, F.f4, F.f5, F.f6, F.f7, F.f8, F.f9, F.f10, F.f11, F.f12, F.f13, fun _ => rfl, F.st0, F.st1, F.st2⟩
      clear F
      go_simp
      exact HK.out _ _ ⟨_, _, _, _, _, _, _, _, _, _, _, _, _, _, _, _, rfl, HF.out⟩
    · have hS := F.st1 (by simp [hdep] : d_ 13 = true) hd_
      obtain rfl := F.f14 (by simp [hdep])
      obtain ⟨⟨ku0, kcell0⟩, kfr0, hres⟩ := kc15.out u w1 hS
      have HF : Hid (cnt9F mx rx sx b4 nb b9 a c p q dd0 e1 n0 v z rl S0 S1 S2 (upd d_ 15) x28 x29 x30 x31 x32 x33 x34 x35 x36 x37 x38 x39 x40 x41 (.int .i64 z) u (w1.setCell ⟨nb, 0, none⟩ (.int .i64 z))) := ⟨F.q3, F.q4, F.q6, F.q7, F.q9, F.q10, F.q11, F.q12, F.q13, F.q14, fun _ => ⟨(show _ from (by simp [hdep] : d_ 0 = true)), (show _ from (by simp [hdep] : d_ 1 = true)), (show _ from (by simp [hdep] : d_ 2 = true)), (show _ from (by simp [hdep] : d_ 3 = true)), (show _ from (by simp [hdep] : d_ 4 = true)), (show _ from (by simp [hdep] : d_ 5 = true)), (show _ from (by simp [hdep] : d_ 6 = true)), (show _ from (by simp [hdep] : d_ 7 = true)), (show _ from (by simp [hdep] : d_ 8 = true)), (show _ from (by simp [hdep] : d_ 9 = true)), (show _ from (by simp [hdep] : d_ 10 = true)), (show _ from (by simp [hdep] : d_ 11 = true)), (show _ from (by simp [hdep] : d_ 12 = true)), (show _ from (by simp [hdep] : d_ 13 = true)), (show _ from (by simp [hdep] : d_ 14 = true))⟩, F.f0, F.f1, F.f2, F.f3, F.f4, F.f5, F.f6, F.f7, F.f8, F.f9, F.f10, F.f11, F.f12, F.f13, F.f14, fun h => (by have h2 : d_ 13 = false := h; rw [(by simp [hdep] : d_ 13 = true)] at h2; cases h2), fun _ h => (by simp [upd] at h), fun _ => hres⟩
      clear F hS hres
      go_simp
      exact HK.out _ _ ⟨_, _, _, _, _, _, _, _, _, _, _, _, _, _, _, _, rfl, HF.out⟩
  · rintro d_ a_ w1 hall ⟨x28, x29, x30, x31, x32, x33, x34, x35, x36, x37, x38, x39, x40, x41, x42, u, rfl, F⟩
    have hall' : ∀ k, k < 16 → d_ k = true := hall
    obtain rfl := F.f0 (hall' 0 (by decide))
    obtain rfl := F.f1 (hall' 1 (by decide))
    obtain rfl := F.f2 (hall' 2 (by decide))
    obtain rfl := F.f3 (hall' 3 (by decide))
    obtain rfl := F.f4 (hall' 4 (by decide))
    obtain rfl := F.f5 (hall' 5 (by decide))
    obtain rfl := F.f6 (hall' 6 (by decide))
    obtain rfl := F.f7 (hall' 7 (by decide))
    obtain rfl := F.f8 (hall' 8 (by decide))
    obtain rfl := F.f9 (hall' 9 (by decide))
    obtain rfl := F.f10 (hall' 10 (by decide))
    obtain rfl := F.f11 (hall' 11 (by decide))
    obtain rfl := F.f12 (hall' 12 (by decide))
    obtain rfl := F.f13 (hall' 13 (by decide))
    obtain rfl := F.f14 (hall' 14 (by decide))
    have hst := F.st2 (hall' 15 (by decide))
    exact HQ.out u w1 hst
end Go.Proofs.YtbnhngfegnhaiaaDoor
namespace Go.Proofs.YtbnhngfegnhaiaaDoor
open Go.RowKit
set_option linter.unusedVariables false
set_option linter.unusedSimpArgs false
theorem cell_same {w w' : World} {mb b o : Nat} {v : Value} (hm : ∃ es c, w.heap[mb]? = some (.map es c)) (hs : Same (fun k => k = mb) w w') (hc : w.cell? ⟨b, o, none⟩ = some v) : w'.cell? ⟨b, o, none⟩ = some v := by
  refine hs.cell hc (fun e => ?_)
  obtain ⟨es, c, h⟩ := hm
  subst e
  simp [World.cell?, h] at hc
theorem IsMks.same {w w' : World} {mb : Nat} {a : Option Addr} {l : List Mrk} (h : IsMks w a l) (hm : ∃ es c, w.heap[mb]? = some (.map es c)) (hs : Same (fun k => k = mb) w w') : IsMks w' a l := fun i hi => by
  obtain ⟨b, off, e, h0, h1, h2, h3⟩ := h i hi
  exact ⟨b, off, e, cell_same hm hs h0, cell_same hm hs h1, cell_same hm hs h2, cell_same hm hs h3⟩
theorem heap_same {w w' : World} {mb b : Nat} {c : Array Value} {t : TypeId} {f : Nat × Nat} (hm : ∃ es c, w.heap[mb]? = some (.map es c)) (hs : Same (fun k => k = mb) w w') (h : w.heap[b]? = some (.cells c t f)) : w'.heap[b]? = some (.cells c t f) :=
  (hs.block _ (heap_lt h) (fun e => by
    obtain ⟨es, c, h2⟩ := hm
    subst e
    rw [h2] at h
    cases h)).trans h
theorem IsRws.same {w w' : World} {mb b : Nat} {r : Rws} {al ar : Option Addr} {cl cr : Nat} {T : Nat → Bool} {need : Int} (h : IsRws w b r al cl ar cr T need) (hm : ∃ es c, w.heap[mb]? = some (.map es c)) (hs : Same (fun k => k = mb) w w') : IsRws w' b r al cl ar cr T need :=
  ⟨heap_same hm hs h.h, h.lm.same hm hs, h.rm.same hm hs⟩
/-- What the closure has captured. -/
structure CntC (r : Rws) (al : Option Addr) (cl : Nat) (ar : Option Addr) (cr : Nat) (T : Nat → Bool) (need : Int) (mx rx sx mb b : Nat) (w : World) : Prop where
  hmx : w.heap[mx]? = some (.cells #[.map (some mb)] 173 (0, 0))
  hrx : w.heap[rx]? = some (.cells #[.pointer (some ⟨b, 0, none⟩)] 68 (0, 0))
  hsx : w.heap[sx]? = some (.cells #[.func (.func 98) #[] #[.pointer (some ⟨mx, 0, none⟩), .pointer (some ⟨rx, 0, none⟩), .pointer (some ⟨sx, 0, none⟩)]] 174 (0, 0))
  rows : IsRws w b r al cl ar cr T need
theorem CntC.same {r : Rws} {al ar : Option Addr} {cl cr : Nat} {T : Nat → Bool} {need : Int} {mx rx sx mb b : Nat} {w w' : World} (h : CntC r al cl ar cr T need mx rx sx mb b w) (hm : ∃ es c, w.heap[mb]? = some (.map es c)) (hs : Same (fun k => k = mb) w w') : CntC r al cl ar cr T need mx rx sx mb b w' :=
  ⟨heap_same hm hs h.hmx, heap_same hm hs h.hrx, heap_same hm hs h.hsx, h.rows.same hm hs⟩
theorem pairs70 {b i k : Nat} (w : World) : Calls Tryd.prog 30 #[.pointer (some ⟨b, 0, none⟩), .int .i64 i, .int .i64 k] w fun e w' => e = .returned (.func (.func 67) #[] #[.pointer (some ⟨w.heap.size + 1, 0, none⟩), .pointer (some ⟨w.heap.size, 0, none⟩), .pointer (some ⟨w.heap.size + 2, 0, none⟩)]) ∧ w' = ((w.alloc (.cells #[.pointer (some ⟨b, 0, none⟩)] 68)).alloc (.cells #[.int .i64 i] 3)).alloc (.cells #[.int .i64 k] 3) := by
  have hmf : ∀ (fn : Fn) (first cap : Array Value) (w : World), (Instr.makeFunc fn first cap).run Tryd.prog w = .ok (.func fn first cap) w := fun _ _ _ _ => rfl
  go_enter Tryd.func30, Tryd.ntmps30
  go_wp2
  go_ret
  exact ⟨rfl, rfl⟩
/-- What holds while pairs are tried. -/
structure CntI (F : Nat → Nat → Bool) (n m : Nat) (w : World) (mb nb : Nat) (s : StV) (L : List (Nat × Nat)) (V : World) : Prop where
  sw : Same (fun k => k = mb) w V
  st : V.heap[w.heap.size]? = some (.cells s.arr 176 (0, 0))
  sum : ∃ x : Int, 0 ≤ x ∧ x + sumV F n m s.d L = valV F n m s ∧ V.heap[nb]? = some (.cells #[.int .i64 x] 3 (0, 0))
  kn : KnownC F n m V mb
attribute [local go_sem] Oper.semAt_some
noncomputable def cnt7C : Code := (Tryd.f98.body.bind (fromRegion 7)).getD .skip
set_option maxRecDepth 100000 in
set_option maxHeartbeats 8000000 in
theorem cnt_rest {r : Rws} {al ar : Option Addr} {cl cr : Nat} {T : Nat → Bool} {need : Int} {mx rx sx mb b nb : Nat} (hl1 : r.left.length ≤ 10) (hl2 : r.right.length ≤ 10) {s : StV} {w w3 : World}
    (hin : s.Ok ∧ CntC r al cl ar cr T need mx rx sx mb b w ∧ KnownC (fun a c => T (a * 10 + c)) r.left.length r.right.length w mb ∧
      (∀ (t : StV) (w : World), s.i < t.i → t.i ≤ r.left.length → t.Ok → CntC r al cl ar cr T need mx rx sx mb b w → KnownC (fun a c => T (a * 10 + c)) r.left.length r.right.length w mb →
      Calls Tryd.prog 98 #[t.v, .pointer (some ⟨mx, 0, none⟩), .pointer (some ⟨rx, 0, none⟩), .pointer (some ⟨sx, 0, none⟩)] w fun e w' => e = .returned (.int .i64 (valV (fun a c => T (a * 10 + c)) r.left.length r.right.length t)) ∧ Same (fun k => k = mb) w w' ∧ KnownC (fun a c => T (a * 10 + c)) r.left.length r.right.length w' mb) ∧
      ∃ es c, w.heap[mb]? = some (.map es c))
    (hI : CntI (fun a c => T (a * 10 + c)) r.left.length r.right.length w mb nb s (pairsFrom (fun a c => T (a * 10 + c)) r.left.length r.right.length s.i s.k) w3) (hnb : w.heap.size < nb) (hnl : nb < w3.heap.size)
    {s0 s5 s6 s7 s9 s10 s11 s12 s13 s14 s15 s16 s17 s18 s19 s20 s21 s22 s23 s24 s25 s26 s27 s28 s29 s30 s31 s32 s33 s34 s35 s36 s37 s38 s39 s40 s41 s42 s43 s44 s45 s46 : Value} :
    Code.wp Tryd.prog cnt7C (bodyPostM Fence.wide 0 Tryd.prog Tryd.f98 (fun e w' => e = Ending.returned (Value.int IntKind.i64 (valV (fun a c => T (a * 10 + c)) r.left.length r.right.length s)) ∧ Same (fun k => k = mb) w w' ∧ KnownC (fun a c => T (a * 10 + c)) r.left.length r.right.length w' mb))
      { tmps := #[s0, .pointer (some ⟨mx, 0, none⟩), .pointer (some ⟨rx, 0, none⟩), .pointer (some ⟨sx, 0, none⟩), .pointer (some ⟨w.heap.size, 0, none⟩), s5, s6, s7, .pointer (some ⟨nb, 0, none⟩), s9, s10, s11, s12, s13, s14, s15, s16, s17, s18, s19, s20, s21, s22, s23, s24, s25, s26, s27, s28, s29, s30, s31, s32, s33, s34, s35, s36, s37, s38, s39, s40, s41, s42, s43, s44, s45, s46], defers := [] } w3 := by
  have HIN := Lib.hid hin
  have HI := Lib.hid hI
  have HL := Lib.hid (And.intro hl1 hl2)
  have hB3 := hin.2.1.same hin.2.2.2.2 hI.sw
  have hmb : mb < w.heap.size := hin.2.2.1.lt
  have c2 : w3.cell? ⟨rx, 0, none⟩ = some (.pointer (some ⟨b, 0, none⟩)) := by rw [cell_of_heap hB3.hrx]; rfl
  have c0 : w3.cell? ⟨w.heap.size, 0, none⟩ = some (.int .i64 s.i) := by rw [cell_of_heap hI.st]; rfl
  have c1 : w3.cell? ⟨w.heap.size, 1, none⟩ = some (.int .i64 s.k) := by rw [cell_of_heap hI.st]; rfl
  clear hin hI hl1 hl2 hB3
  conv => arg 2; whnf
  refine wp_seq_hid ?_
  intro K7 HK7
  refine wp_seq_hid ?_
  intro K8 HK8
  go_wp2_with fail
  refine (pairs70 (i := s.i) (k := s.k) w3).mono ?_
  rintro e w5 ⟨rfl, hw5⟩
  have HW5 : Hid (Below w3.heap.size w3 w5 ∧ w5.heap.size = w3.heap.size + 3 ∧ w5.heap[w3.heap.size]? = some (.cells #[.pointer (some ⟨b, 0, none⟩)] 68 (0, 0)) ∧ w5.heap[w3.heap.size + 1]? = some (.cells #[.int .i64 s.i] 3 (0, 0)) ∧ w5.heap[w3.heap.size + 2]? = some (.cells #[.int .i64 s.k] 3 (0, 0))) := by
    obtain ⟨g1, g2, g3, g4⟩ := alloc3 w3 #[.pointer (some ⟨b, 0, none⟩)] #[.int .i64 s.i] #[.int .i64 s.k] 68 3 3 _ rfl
    rw [hw5]
    exact ⟨g4, by simp, g1, g2, g3⟩
  clear hw5 c0 c1 c2
  go_wp2_with fail
  refine HK8.out _ _ ?_
  clear HK8 K8
  refine wp_block ?_
  have hz5 := HW5.out.2.1
  refine wp_rangeFuncM (gf := 67) (lb := #[.pointer (some ⟨w3.heap.size + 1, 0, none⟩), .pointer (some ⟨w3.heap.size, 0, none⟩), .pointer (some ⟨w3.heap.size + 2, 0, none⟩)]) rfl (fun args w => by simp [callFunc, Tryd.func67, Tryd.f67, go_sem]) (pairsFrom (fun a c => T (a * 10 + c)) r.left.length r.right.length s.i s.k) PrOk (fun q => q = mb ∨ q = nb ∨ q = w5.heap.size + 1) ?hps (by omega) (by omega) ?hit
    (fun L V C => CntI (fun a c => T (a * 10 + c)) r.left.length r.right.length w mb nb s L V ∧ (∃ dn, pairsFrom (fun a c => T (a * 10 + c)) r.left.length r.right.length s.i s.k = dn ++ L) ∧ ∀ k, k < w5.heap.size + 2 → C k) (fun _ _ _ _ => False) ?hI ?hIx ?h0 ?hround ?hdone ?hstop
  case hps =>
    rintro x v A K ⟨rfl, _⟩
    rfl
  case hit =>
    intro W hb hsz
    obtain ⟨h1, h2, h3, h4⟩ := HIN.out.1
    refine pairs_iter (b := b) (al := al) (ar := ar) (cl := cl) (cr := cr) (need := need) HL.out.1 HL.out.2 (by omega) (by omega) (fun A hA => ?_)
    obtain ⟨g1, g2, g3, g4, g5⟩ := HW5.out
    have hn : ∀ k, k < w5.heap.size → k ≠ mb → k ≠ nb → A.heap[k]? = w5.heap[k]? := fun k h1 h2 h3 => (hA.block k (by omega) (fun e => by rcases e with e | e | e <;> omega)).trans (hb.block k h1)
    have hsA : Same (fun k => k = mb) w A := same_later (same_later HI.out.sw (Same.of_below (fun k => k = mb) (g1.trans (hb.mono (by omega)))) (fun i e => .inl e)) hA (fun i e => by rcases e with e | e | e <;> omega)
    exact ⟨by rw [cell_of_heap ((hn _ (by omega) (by omega) (by omega)).trans g4)]; rfl, by rw [cell_of_heap ((hn _ (by omega) (by omega) (by omega)).trans g3)]; rfl, by rw [cell_of_heap ((hn _ (by omega) (by omega) (by omega)).trans g5)]; rfl, (HIN.out.2.1.same HIN.out.2.2.2.2 hsA).rows⟩
  case hI =>
    rintro i A B C ⟨h, h2, h3⟩ hs
    obtain ⟨x, x1, x2, x3⟩ := h.sum
    have hk := h.kn
    refine ⟨⟨same_later h.sw hs (fun i e => .inr (by omega)), (hs.block _ (heap_lt h.st) (by omega)).trans h.st, ⟨x, x1, x2, (hs.block _ (heap_lt x3) (by omega)).trans x3⟩, hk.kept (hs.block _ hk.lt (by omega))⟩, h2, h3⟩
  case hIx =>
    intro c i A B C h _
    exact h
  case h0 =>
    intro W hb hsz
    have hb3 : Below w3.heap.size w3 W := HW5.out.1.trans (hb.mono (by omega))
    obtain ⟨x, x1, x2, x3⟩ := HI.out.sum
    exact ⟨⟨same_later HI.out.sw (Same.of_below (fun k => k = mb) hb3) (fun i e => .inl e), (hb3.block _ (heap_lt HI.out.st)).trans HI.out.st, ⟨x, x1, x2, (hb3.block _ (heap_lt x3)).trans x3⟩, HI.out.kn.kept (hb3.block _ HI.out.kn.lt)⟩, ⟨[], rfl⟩, fun k hk => hk⟩
  case hround =>
    rintro x L v V C K ⟨rfl, rfl⟩ hKC hC ⟨hi, hdn, hC2⟩ hlt
    have HH := Lib.hid (And.intro hi (And.intro hdn (And.intro hC hlt)))
    clear hi hdn hC hC2 hlt hKC
    gi_wp2_with fail
    refine ⟨(Below.refl _ _).alloc (Nat.le_refl _) _, fun V2 hS2 hsz2 => ?_⟩
    obtain ⟨hi, hdn, hC, hlt⟩ := HH.out
    have hszV : (V.alloc (.cells #[.int .i64 x.1, .int .i64 x.2] 42)).heap.size = V.heap.size + 1 := by simp
    have hv2 : ∀ k, k ≠ w5.heap.size + 1 → k < V.heap.size → V2.heap[k]? = V.heap[k]? := fun k h1 h2 => (hS2.block k (by omega) h1).trans (Below.heap_alloc _ _ _ h2)
    have hnew : V2.heap[V.heap.size]? = some (.cells #[.int .i64 x.1, .int .i64 x.2] 42 (0, 0)) := (hS2.block _ (by omega) (by omega)).trans (World.alloc_heap_new V _)
    have hsz5 : w3.heap.size + 3 = w5.heap.size := by omega
    have hwsz := HI.out.sw.size
    obtain ⟨x0, h1, h2, h3⟩ := hi.sum
    have hmem : x ∈ pairsFrom (fun a c => T (a * 10 + c)) r.left.length r.right.length s.i s.k := by
      obtain ⟨dn, e⟩ := hdn
      rw [e]
      simp
    obtain ⟨p1, p2, p3, p4, _⟩ := pairs_mem hmem
    obtain ⟨ok1, ok2, ok3, ok4⟩ := HIN.out.1
    have hl1 := HL.out.1
    have hl2 := HL.out.2
    have hval := cntV_bd (fun a c => T (a * 10 + c)) hl1 hl2 s.i s.k s.d
    have hcv := cntV_bd (fun a c => T (a * 10 + c)) hl1 hl2 (x.1 + 1) (x.2 + 1) (max 0 (s.d - 1))
    have hsv := sumV_pos (fun a c => T (a * 10 + c)) hl1 hl2 s.d L
    rw [sumV_cons] at h2
    have h2' : x0 + (cntV (fun a c => T (a * 10 + c)) r.left.length r.right.length (x.1 + 1) (x.2 + 1) (max 0 (s.d - 1)) + sumV (fun a c => T (a * 10 + c)) r.left.length r.right.length s.d L) = cntV (fun a c => T (a * 10 + c)) r.left.length r.right.length s.i s.k s.d := h2
    have hswV : Same (fun k => k = mb) w (V.alloc (.cells #[.int .i64 x.1, .int .i64 x.2] 42)) := same_later hi.sw (Same.of_below (fun k => k = mb) ((Below.refl _ _).alloc (Nat.le_refl _) _)) (fun i e => .inl e)
    have hsw2 : Same (fun k => k = mb) w V2 := same_later hswV hS2 (fun i e => .inr (by omega))
    have hkn2 : KnownC (fun a c => T (a * 10 + c)) r.left.length r.right.length V2 mb := hi.kn.kept (hv2 _ (by omega) hi.kn.lt)
    have hst2 : V2.heap[w.heap.size]? = some (.cells s.arr 176 (0, 0)) := (hv2 _ (by omega) (heap_lt hi.st)).trans hi.st
    have hn2 : V2.heap[nb]? = some (.cells #[.int .i64 x0] 3 (0, 0)) := (hv2 _ (by omega) (heap_lt h3)).trans h3
    have hC2 := HIN.out.2.1.same HIN.out.2.2.2.2 hsw2
    have hmf2 : ∃ es c, V2.heap[mb]? = some (.map es c) := hkn2.map
    have hz2 := hS2.size
    have hnl := heap_lt h3
    have hfin : ∀ V3, Same (fun k => k = mb ∨ k = nb) V2 V3 → V3.heap[nb]? = some (.cells #[.int .i64 (x0 + cntV (fun a c => T (a * 10 + c)) r.left.length r.right.length (x.1 + 1) (x.2 + 1) (max 0 (s.d - 1)))] 3 (0, 0)) → KnownC (fun a c => T (a * 10 + c)) r.left.length r.right.length V3 mb →
        Same (mayC (fun q => q = mb ∨ q = nb ∨ q = w5.heap.size + 1) (w5.heap.size + 2) C) V2 V3 ∧ V3.heap[w5.heap.size + 1]? = V2.heap[w5.heap.size + 1]? ∧ ∃ C' : Nat → Prop, (∀ k, k < w5.heap.size + 2 → C' k) ∧ (∀ k, C' k → k < V3.heap.size) ∧ (∀ k, C' k → C k ∨ False ∨ V2.heap.size ≤ k) ∧
          (CntI (fun a c => T (a * 10 + c)) r.left.length r.right.length w mb nb s L V3 ∧ (∃ dn, pairsFrom (fun a c => T (a * 10 + c)) r.left.length r.right.length s.i s.k = dn ++ L) ∧ ∀ k, k < w5.heap.size + 2 → C' k) := fun V3 hs3 hn3 hk3 => by
      have hz := hs3.size
      have hC' : ∀ k, k < w5.heap.size + 2 → (C k ∨ False) ∧ k < V3.heap.size := fun k hk => ⟨.inl (hC k hk), by omega⟩
      have hne : mb ≠ nb := by omega
      refine ⟨hs3.mono (fun k _ e => ?_), hs3.block _ (by omega) (fun e => by omega), fun k => (C k ∨ False) ∧ k < V3.heap.size, hC', fun k hk => hk.2, fun k hk => hk.1.imp (fun h => h) (fun h => .inl h), ⟨same_later hsw2 hs3 (fun k e => e.imp id (fun e => by omega)), (hs3.block _ (by omega) (fun e => by omega)).trans hst2, ⟨_, by omega, ?_, hn3⟩, hk3⟩, ?_, hC'⟩
      · rcases e with e | e
        · exact ⟨hC k (by omega), fun _ => .inl e⟩
        · exact ⟨hC k (by omega), fun _ => .inr (.inl e)⟩
      · show _ = cntV (fun a c => T (a * 10 + c)) r.left.length r.right.length s.i s.k s.d
        omega
      · obtain ⟨dn, e⟩ := hdn
        exact ⟨dn ++ [x], by rw [e]; simp⟩
    have HFIN := Lib.hid hfin
    refine wpIn_block ?_
    refine cnt9 (mx := mx) (rx := rx) (sx := sx) (b4 := w.heap.size) (nb := nb) (b9 := V.heap.size) (a := x.1) (c := x.2) (p := x.1 + 1) (q := x.2 + 1) (dd0 := s.d) (e1 := s.d - 1) (n0 := x0) (v := cntV (fun a c => T (a * 10 + c)) r.left.length r.right.length (x.1 + 1) (x.2 + 1) (max 0 (s.d - 1))) (z := x0 + cntV (fun a c => T (a * 10 + c)) r.left.length r.right.length (x.1 + 1) (x.2 + 1) (max 0 (s.d - 1))) (rl := w5.heap.size + 1)
      (S0 := fun w' => Below V2.heap.size V2 w') (S1 := fun _ w' => Same (fun k => k = mb) V2 w' ∧ KnownC (fun a c => T (a * 10 + c)) r.left.length r.right.length w' mb) (S2 := fun _ w' => ∃ V', (Same (fun k => k = mb) V2 V' ∧ KnownC (fun a c => T (a * 10 + c)) r.left.length r.right.length V' mb) ∧ w' = V'.setCell ⟨nb, 0, none⟩ (.int .i64 (x0 + cntV (fun a c => T (a * 10 + c)) r.left.length r.right.length (x.1 + 1) (x.2 + 1) (max 0 (s.d - 1)))))
      ?hp ?hq ?he ?hz ?h0 ?k0 ?k1 ?k3 ?k6 ?k9 ?kc ?ks ?kQ
    case hp => exact (IntWalk.i64_in _ (by omega)).trans (by omega)
    case hq => exact (IntWalk.i64_in _ (by omega)).trans (by omega)
    case he => exact IntWalk.i64_in _ (by omega)
    case hz => exact IntWalk.i64_in _ (by omega)
    case h0 => exact (Below.refl _ _).drew
    case k0 =>
      intro u w' h
      have e : w'.heap[nb]? = some (.cells #[.int .i64 x0] 3 (0, 0)) := by
        rcases h with h | h
        · exact (h.block _ (by omega)).trans hn2
        · exact (h.1.block _ (by omega) (by omega)).trans hn2
      rw [cell_of_heap e]; rfl
    case k1 =>
      intro w' h
      have e := (h.block _ (heap_lt hC2.hsx)).trans hC2.hsx
      rw [cell_of_heap e]; rfl
    case k3 =>
      intro w' h
      have e := (h.block _ (heap_lt hnew)).trans hnew
      rw [cell_of_heap e]; rfl
    case k6 =>
      intro w' h
      have e := (h.block _ (heap_lt hnew)).trans hnew
      rw [cell_of_heap e]; rfl
    case k9 =>
      intro w' h
      have e := (h.block _ (heap_lt hst2)).trans hst2
      rw [cell_of_heap e]; rfl
    case kc =>
      intro w' h
      have hs' : Same (fun k => k = mb) V2 w' := Same.of_below _ h
      refine (HIN.out.2.2.2.1 ⟨x.1 + 1, x.2 + 1, max 0 (s.d - 1)⟩ w' (by simp only; omega) (by simp only; omega) ⟨by simp only; omega, by simp only; omega, by simp only; omega, by simp only; omega⟩ (hC2.same hmf2 hs') (hkn2.kept (h.block _ hkn2.lt))).mono ?_
      rintro e w'' ⟨rfl, g1, g2⟩
      exact ⟨(), rfl, hs'.trans g1, g2⟩
    case ks =>
      intro u w' h
      have e := (h.1.block _ (by omega) (by omega)).trans hn2
      exact ⟨⟨_, by rw [cell_of_heap e]; rfl⟩, frozen_of_heap e, w', h, rfl⟩
    case kQ =>
      rintro u w' ⟨V', ⟨g1, g2⟩, rfl⟩
      have e := (g1.block _ (by omega) (by omega)).trans hn2
      have hne : mb ≠ nb := by omega
      have H3 := Lib.hid (HFIN.out (V'.setCell ⟨nb, 0, none⟩ (.int .i64 (x0 + cntV (fun a c => T (a * 10 + c)) r.left.length r.right.length (x.1 + 1) (x.2 + 1) (max 0 (s.d - 1))))) ((g1.mono (fun k _ e => .inl e)).setCell (.inl (.inr rfl)) _) (heap_setCell_at (k := 0) e _) (g2.kept (Below.heap_setCell _ _ _ _ hne)))
      clear hfin HFIN e g1 g2 hne hszV hv2 hnew h1 h2 h3 h2' hmem hdn hi hval hcv hsv hC hlt hwsz hsz5 hswV hsw2 hkn2 hst2 hn2 hC2 hmf2 hS2 hsz2 hz2 hnl HH
      gi_wp2_with fail
      exact H3.out
  case hdone =>
    rintro V C ⟨hi, _, hC⟩ hdef
    have hv : valV (fun a c => T (a * 10 + c)) r.left.length r.right.length s = valV (fun a c => T (a * 10 + c)) r.left.length r.right.length s := rfl
    obtain ⟨x, x1, x2, x3⟩ := hi.sum
    have x4 : x = valV (fun a c => T (a * 10 + c)) r.left.length r.right.length s := by
      have e : x + 0 = valV (fun a c => T (a * 10 + c)) r.left.length r.right.length s := x2
      omega
    subst x4
    refine HK7.out _ _ ?_
    obtain ⟨w8, hr, hs8, hk8⟩ := hi.kn.update HIN.out.1
    have hwsz := HI.out.sw.size
    have hsz5 : w3.heap.size + 3 = w5.heap.size := by omega
    have hmb : mb < w.heap.size := HIN.out.2.2.1.lt
    have e8 := (hs8.block _ (heap_lt x3) (by omega)).trans x3
    have H8 := Lib.hid (And.intro hs8 (And.intro hk8 (And.intro hi (And.intro hC (And.intro hdef x3)))))
    have hC3 := HIN.out.2.1.same HIN.out.2.2.2.2 hi.sw
    have cm : V.cell? ⟨mx, 0, none⟩ = some (.map (some mb)) := by rw [cell_of_heap hC3.hmx]; rfl
    have s0 : V.cell? ⟨w.heap.size, 0, none⟩ = some (.int .i64 s.i) := by rw [cell_of_heap hi.st]; rfl
    have s1 : V.cell? ⟨w.heap.size, 1, none⟩ = some (.int .i64 s.k) := by rw [cell_of_heap hi.st]; rfl
    have s2 : V.cell? ⟨w.heap.size, 2, none⟩ = some (.int .i64 s.d) := by rw [cell_of_heap hi.st]; rfl
    have cn : V.cell? ⟨nb, 0, none⟩ = some (.int .i64 (valV (fun a c => T (a * 10 + c)) r.left.length r.right.length s)) := by rw [cell_of_heap x3]; rfl
    have cn8 : w8.cell? ⟨nb, 0, none⟩ = some (.int .i64 (valV (fun a c => T (a * 10 + c)) r.left.length r.right.length s)) := by rw [cell_of_heap e8]; rfl
    clear hi x1 x2 x3 hC hdef hs8 hk8 hC3 hwsz hsz5 hmb e8 hv
    go_wp2_with fail
    obtain ⟨hs8, hk8, hi, hC, hdef, x3⟩ := H8.out
    have hwsz := HI.out.sw.size
    have hz5 := HW5.out.2.1
    have hdl := heap_lt hdef
    rw [hz5] at hdef hdl
    have hmb : mb < w.heap.size := HIN.out.2.2.1.lt
    refine leaves_marks (n := w.heap.size) [w3.heap.size + 3] w8 (by simp) (fun k hk => ?_) (fun W' hs hsz => ⟨results_tmp rfl _ _ _, rfl, ?_, ?_⟩)
    · rw [List.mem_singleton] at hk
      subst hk
      exact ⟨by omega, (hs8.block _ hdl (by omega)).trans hdef⟩
    · exact same_later (hi.sw.trans hs8) hs (fun k e => .inr e.1)
    · exact hk8.kept (hs.block _ hk8.lt (fun e => by omega))
  case hstop =>
    intro c i V C h
    exact h.elim
set_option maxRecDepth 100000 in
set_option maxHeartbeats 8000000 in
theorem on69_step {r : Rws} {al ar : Option Addr} {cl cr : Nat} {T : Nat → Bool} {need : Int} {mx rx sx mb b : Nat} (hl1 : r.left.length ≤ 10) (hl2 : r.right.length ≤ 10) {s : StV} (hs : s.Ok) {w : World}
    (hB : CntC r al cl ar cr T need mx rx sx mb b w) (hK : KnownC (fun a c => T (a * 10 + c)) r.left.length r.right.length w mb)
    (IH : ∀ (t : StV) (w : World), s.i < t.i → t.i ≤ r.left.length → t.Ok → CntC r al cl ar cr T need mx rx sx mb b w → KnownC (fun a c => T (a * 10 + c)) r.left.length r.right.length w mb →
      Calls Tryd.prog 98 #[t.v, .pointer (some ⟨mx, 0, none⟩), .pointer (some ⟨rx, 0, none⟩), .pointer (some ⟨sx, 0, none⟩)] w fun e w' => e = .returned (.int .i64 (valV (fun a c => T (a * 10 + c)) r.left.length r.right.length t)) ∧ Same (fun k => k = mb) w w' ∧ KnownC (fun a c => T (a * 10 + c)) r.left.length r.right.length w' mb) :
    Calls Tryd.prog 98 #[s.v, .pointer (some ⟨mx, 0, none⟩), .pointer (some ⟨rx, 0, none⟩), .pointer (some ⟨sx, 0, none⟩)] w fun e w' => e = .returned (.int .i64 (valV (fun a c => T (a * 10 + c)) r.left.length r.right.length s)) ∧ Same (fun k => k = mb) w w' ∧ KnownC (fun a c => T (a * 10 + c)) r.left.length r.right.length w' mb := by
  have hmap := hK.map
  have HX := Lib.hid (And.intro (World.alloc_heap_new w (.cells s.arr 176)) (alloc_below w (.cells s.arr 176)))
  have HIN := Lib.hid (And.intro hs (And.intro hB (And.intro hK (And.intro IH hmap))))
  have HL := Lib.hid (And.intro hl1 hl2)
  clear hs hB hK IH hmap hl1 hl2
  refine calls_of_wp_marks Tryd.func98 rfl ?_
  simp only [Tryd.ntmps98, List.size_toArray, List.length_cons, List.length_nil, Nat.reduceAdd, Nat.reduceSub, Array.replicate_succ, Array.replicate_zero, List.push_toArray, List.append_toArray, List.nil_append, List.cons_append]
  refine wp_seq_hid ?_
  intro K0 HK0
  go_wp2_with fail
  refine HK0.out _ _ ?_
  clear HK0 K0
  revert HX
  generalize w.alloc (.cells s.arr 176) = w1
  intro HX
  have hS1 := Same.of_below (fun k => k = mb) HX.out.2
  have H1 := Lib.hid (And.intro (HIN.out.2.1.same HIN.out.2.2.2.2 hS1) (HIN.out.2.2.1.kept (HX.out.2.block _ HIN.out.2.2.1.lt)))
  obtain ⟨x, ok, hlk, hok⟩ := H1.out.2.look HIN.out.1
  have hlk1 := hlk w1 rfl
  have HOK := Lib.hid hok
  have cm : w1.cell? ⟨mx, 0, none⟩ = some (.map (some mb)) := by rw [cell_of_heap H1.out.1.hmx]; rfl
  have s0 : w1.cell? ⟨w.heap.size, 0, none⟩ = some (.int .i64 s.i) := by rw [cell_of_heap HX.out.1]; rfl
  have s1 : w1.cell? ⟨w.heap.size, 1, none⟩ = some (.int .i64 s.k) := by rw [cell_of_heap HX.out.1]; rfl
  have s2 : w1.cell? ⟨w.heap.size, 2, none⟩ = some (.int .i64 s.d) := by rw [cell_of_heap HX.out.1]; rfl
  clear hlk hok hS1
  cases ok with
  | true =>
    go_wp2_with fail
    refine ⟨_, results_tmp rfl _ _ _, ?_, Same.of_below _ HX.out.2, H1.out.2⟩
    rw [← HOK.out (by first | trivial | rfl)]
    rfl
  | false =>
    refine wp_seq_hid ?_
    intro K1 HK1
    go_wp2_with fail
    refine HK1.out _ _ ?_
    clear hlk1 cm s0 s1 HK1 K1
    have HQ2 := Lib.hid (And.intro (World.alloc_heap_new w1 (.cells #[.int .i64 0] 3)) (alloc_below w1 (.cells #[.int .i64 0] 3)))
    have HZ1 : Hid (w.heap.size < w1.heap.size) := heap_lt HX.out.1
    refine wp_seq_hid ?_
    intro K2 HK2
    go_wp2_with fail
    refine HK2.out _ _ ?_
    clear HK2 K2
    have hz1 := HZ1.out
    have hs2 : (w1.alloc (.cells #[.int .i64 0] 3)).cell? ⟨w.heap.size, 2, none⟩ = some (.int .i64 s.d) := cell_stays HQ2.out.2 s2
    clear s2
    revert HQ2 hs2
    generalize w1.alloc (.cells #[.int .i64 0] 3) = w2
    generalize hnb : w1.heap.size = nb
    intro HQ2 hs2
    have HNB := Lib.hid hnb
    rw [hnb] at hz1
    clear hnb
    have m0 : w2.cell? ⟨nb, 0, none⟩ = some (.int .i64 0) := by rw [cell_of_heap HQ2.out.1]; rfl
    have f0 : w2.frozen? ⟨nb, 0, none⟩ = false := frozen_of_heap HQ2.out.1
    obtain ⟨x0, hx0⟩ : ∃ x0 : Int, x0 = if s.d ≤ 0 then 1 else 0 := ⟨_, rfl⟩
    have HR : Hid (∀ w3, w3.heap[nb]? = some (.cells #[.int .i64 x0] 3 (0, 0)) → Below nb w2 w3 → w.heap.size ≤ nb → CntI (fun a c => T (a * 10 + c)) r.left.length r.right.length w mb nb s (pairsFrom (fun a c => T (a * 10 + c)) r.left.length r.right.length s.i s.k) w3) := fun w3 h3 h4 h5 => by
      have hb2 : Below nb w1 w2 := by have := HQ2.out.2; rw [← HNB.out]; rw [← HNB.out] at this; exact this
      have hb3 : Below nb w1 w3 := hb2.trans h4
      have hmb : mb < w.heap.size := HIN.out.2.2.1.lt
      have hbw : Below w.heap.size w w3 := HX.out.2.trans (by
        have h6 : w.heap.size ≤ w1.heap.size := HX.out.2.size
        exact ⟨hb3.os, hb3.tape, hb3.output, hb3.size, fun k hk => hb3.block k (by omega)⟩)
      refine ⟨Same.of_below _ hbw, (hb3.block _ (by omega)).trans HX.out.1, ⟨x0, ?_, ?_, h3⟩, H1.out.2.kept (hb3.block _ (by omega))⟩
      · rw [hx0]; split <;> omega
      · rw [hx0]; exact (cntV_eq _ _ _ _ _ _).symm
    refine wp_seq_hid ?_
    intro K5 HK5
    have HX0 := Lib.hid hx0
    clear hx0
    by_cases hd : s.d ≤ 0
    · have e0 : x0 = 1 := by rw [HX0.out, if_pos hd]
      go_wp2_with fail
      refine HK5.out _ _ ?_
      have HI : Hid (CntI (fun a c => T (a * 10 + c)) r.left.length r.right.length w mb nb s (pairsFrom (fun a c => T (a * 10 + c)) r.left.length r.right.length s.i s.k) (w2.setCell ⟨nb, 0, none⟩ (.int .i64 1))) := HR.out _ (by rw [e0]; exact heap_setCell_at (k := 0) HQ2.out.1 _) ((Below.refl _ _).setCell (p := ⟨nb, 0, none⟩) (Nat.le_refl _) _) (by omega)
      have HNL : Hid (nb < (w2.setCell ⟨nb, 0, none⟩ (.int .i64 1)).heap.size) := by have := heap_lt HQ2.out.1; simpa [Hid] using this
      clear hd m0 f0 hs2 HK5 K5 HR e0
      revert HI HNL
      generalize w2.setCell ⟨nb, 0, none⟩ (.int .i64 1) = w3
      intro HI HNL
      exact cnt_rest HL.out.1 HL.out.2 HIN.out HI.out hz1 HNL.out
    · have e0 : x0 = 0 := by rw [HX0.out, if_neg hd]
      go_wp2_with fail
      refine HK5.out _ _ ?_
      have HI : Hid (CntI (fun a c => T (a * 10 + c)) r.left.length r.right.length w mb nb s (pairsFrom (fun a c => T (a * 10 + c)) r.left.length r.right.length s.i s.k) w2) := HR.out _ (by rw [e0]; exact HQ2.out.1) (Below.refl _ _) (by omega)
      exact cnt_rest HL.out.1 HL.out.2 HIN.out HI.out hz1 (heap_lt HQ2.out.1)
end Go.Proofs.YtbnhngfegnhaiaaDoor
