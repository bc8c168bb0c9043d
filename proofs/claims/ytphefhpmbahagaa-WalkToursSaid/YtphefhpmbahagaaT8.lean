/- An iterator that has blocks of its own. -/
import Derived.Test.YtphefhpmbahagaaT7
namespace Go.Proofs.Ytphefhpmbahagaa
open Go.RowKit
set_option linter.unusedVariables false
section
variable {P : Program}

/-- An iterator with blocks X of its own; Sd: what holds at its end. An iterator that hands over N elements, one after the other, as long as the rounds want more. C: the consumer's blocks, which it leaves alone; K: the blocks of an element, which the consumer may keep. -/
def IterX (P : Program) (g : Nat) (lb : Array Value) (N : Nat) (Ok : Nat → Array Value → World → (Nat → Prop) → Prop) (M X : Nat → Prop) (Sd : World → Prop) (W : World) : Prop :=
  ∀ (l : Nat) (J Jx : Nat → World → (Nat → Prop) → Prop),
    (∀ i A B C, J i A C → Same (fun k => ¬ C k) A B → J i B C) → (∀ i A B C, Jx i A C → Same (fun k => ¬ C k) A B → Jx i B C) →
    (∀ i v A C K, i < N → Ok i v A K → (∀ k, K k → ¬ C k) → J i A C → YieldAt Fence.wide 0 P l v A fun e B => Same (mayC M W.heap.size C) A B ∧
      ∃ C' : Nat → Prop, (∀ k, k < W.heap.size → ¬ X k → C' k) ∧ (∀ k, C' k → k < B.heap.size) ∧ (∀ k, C' k → C k ∨ K k ∨ A.heap.size ≤ k) ∧ ((e = .returned (.bool true) ∧ J (i + 1) B C') ∨ (e = .returned (.bool false) ∧ Jx (i + 1) B C'))) →
    J 0 W (fun k => k < W.heap.size ∧ ¬ X k) →
    CallsIn Fence.wide 0 P g (#[.func (.yield l) #[] #[]] ++ lb) W fun e W' => (∃ v, e = .returned v) ∧ ∃ C', (J N W' C' ∧ Sd W') ∨ ∃ i, i < N ∧ Jx (i + 1) W' C'

/-- How a round's body may end. -/
def roundEndX (l B : Nat) (X M C K : Nat → Prop) (I : Nat → World → (Nat → Prop) → Prop) (Ix : Code → Nat → World → (Nat → Prop) → Prop) (i : Nat) (W : World) : Exit → Act → World → Prop
  | .normal, _, W' => Same (mayC M B C) W W' ∧ W'.heap[l]? = W.heap[l]? ∧ ∃ C' : Nat → Prop, (∀ k, k < B → ¬ X k → C' k) ∧ (∀ k, C' k → k < W'.heap.size) ∧ (∀ k, C' k → C k ∨ K k ∨ W.heap.size ≤ k) ∧ I (i + 1) W' C'
  | .ret, _, W' => Same (mayC M B C) W W' ∧ W'.heap[l]? = W.heap[l]? ∧ ∃ C' : Nat → Prop, (∀ k, k < B → ¬ X k → C' k) ∧ (∀ k, C' k → k < W'.heap.size) ∧ (∀ k, C' k → C k ∨ K k ∨ W.heap.size ≤ k) ∧ Ix .ret (i + 1) W' C'
  | .exit id, _, W' => Same (mayC M B C) W W' ∧ W'.heap[l]? = W.heap[l]? ∧ ∃ C' : Nat → Prop, (∀ k, k < B → ¬ X k → C' k) ∧ (∀ k, C' k → k < W'.heap.size) ∧ (∀ k, C' k → C k ∨ K k ∨ W.heap.size ≤ k) ∧ Ix (.exit id) (i + 1) W' C'
  | .goto _, _, _ => False
  | .panic _, _, _ => False
  | .outgrown, _, _ => False

theorem wp_rangeFuncX {g : Operand} {ps : Array Tmp} {assign body : Code} {Q : Exit → Act → World → Prop} {a : Act} {w : World}
    {gf : Nat} {lb : Array Value} (hg : a.eval g = .func (.func gf) #[] lb) (eg : ∀ args w, (callFunc gf args).run P w = .ok (.enter gf args) w)
    (N : Nat) (Ok : Nat → Array Value → World → (Nat → Prop) → Prop) (M X : Nat → Prop) (Sd : World → Prop) (hX : ∀ k, X k → k < w.heap.size) (hSd : ∀ A B, Sd A → Same (fun k => k = w.heap.size + 1) A B → Sd B) (hps : ∀ i v A K, Ok i v A K → v.size = ps.size)
    (hMD : ¬ M w.heap.size) (hMl : M (w.heap.size + 1))
    (hit : ∀ W, Below w.heap.size w W → W.heap.size = w.heap.size + 2 → IterX P gf lb N Ok M X Sd W)
    (I : Nat → World → (Nat → Prop) → Prop) (Ix : Code → Nat → World → (Nat → Prop) → Prop)
    (hI : ∀ i A B C, I i A C → Same (fun k => ¬ C k ∨ k = w.heap.size + 1) A B → I i B C) (hIx : ∀ c i A B C, Ix c i A C → Same (fun k => ¬ C k ∨ k = w.heap.size + 1) A B → Ix c i B C)
    (h0 : ∀ W, Below w.heap.size w W → W.heap.size = w.heap.size + 2 → I 0 W (fun k => k < w.heap.size + 2 ∧ ¬ X k))
    (hround : ∀ i v W C K, i < N → Ok i v W K → (∀ k, K k → ¬ C k) → (∀ k, k < w.heap.size + 2 → ¬ X k → C k) → I i W C → w.heap.size + 1 < W.heap.size →
      assign.wpIn (Fence.wide.inRound (w.heap.size + 1)) 0 P (Exit.then (fun a₁ W₁ => Below W.heap.size W W₁ ∧
          ∀ W₂, Same (fun k => k = w.heap.size + 1) W₁ W₂ → W₂.heap.size = W₁.heap.size → body.wpIn (Fence.wide.inRound (w.heap.size + 1)) 0 P (roundEndX (w.heap.size + 1) (w.heap.size + 2) X M C K I Ix i W₂) a₁ W₂) (fun _ _ _ => False))
        { tmps := (ps.zip v).foldl (fun t (p, v) => t.setIfInBounds p v) a.tmps, defers := [] } W)
    (hdone : ∀ W C, I N W C → Sd W → W.heap[w.heap.size]? = some (.deferred (some [])) → Q .normal { a with defers := { target := .collected w.heap.size, args := #[] } :: a.defers } W)
    (hstop : ∀ c i W C, i < N → Ix c (i + 1) W C → W.heap[w.heap.size]? = some (.deferred (some [])) → c.wp P Q { a with defers := { target := .collected w.heap.size, args := #[] } :: a.defers } W) :
    (Code.rangeFunc g ps assign body).wp P Q a w := by
  rw [← wpIn_wide (n := 0)]
  refine wpIn_rangeFunc ?_
  intro fn hfn
  obtain ⟨rec, hrec⟩ : ∃ rec : LoopState → Option Code → Loop, rec = fun st pe => { state := st, pending := pe, fn, tmps := a.tmps, params := ps, assign, body, defers := w.heap.size } := ⟨_, rfl⟩
  obtain ⟨W1, hW1⟩ : ∃ W1, (w.alloc (.deferred (some []))).alloc (.loop (rec .ready none)) = W1 := ⟨_, rfl⟩
  have hL1 : W1.heap[w.heap.size + 1]? = some (.loop (rec .ready none)) := by
    rw [← hW1]; have := World.alloc_heap_new (w.alloc (.deferred (some []))) (.loop (rec .ready none)); rwa [World.size_alloc] at this
  have hK1 : W1.heap[w.heap.size]? = some (.deferred (some [])) := by
    rw [← hW1]; exact (Below.heap_alloc _ _ _ (by simp)).trans (World.alloc_heap_new w _)
  have hs1 : W1.heap.size = w.heap.size + 2 := by rw [← hW1]; simp
  have hb1 : Below w.heap.size w W1 := by rw [← hW1]; exact ((Below.refl _ w).alloc (Nat.le_refl _) _).alloc (by simp) _
  refine ⟨w.heap.size + 1, [{ target := .collected w.heap.size, args := #[] }], W1, { target := .fn (.func gf) lb, args := #[.func (.yield (w.heap.size + 1)) #[] #[]] }, W1, gf,
    #[.func (.yield (w.heap.size + 1)) #[] #[]] ++ lb, W1, ?_, ?_, ?_, ?_, fun h => by simp [Fence.wide] at h, ?_⟩
  · rw [← hW1, hrec]; exact run_enterLoop_outer _ _ _ _ _
  · simp only [resolve, hg]
    simp [go_sem]
  · intro f' hf'; trivial
  · simp [invoke, go_sem, eg]
  · have hput : ∀ (W : World) (o : Obj), Same (fun k => k = w.heap.size + 1) W (W.putObj (w.heap.size + 1) o) := fun W o => Same.putObj (M := fun k => k = w.heap.size + 1) (Same.refl _ W) (.inl rfl) o
    have hl2' : w.heap.size + 1 < w.heap.size + 2 := by omega
    have hD2' : w.heap.size < w.heap.size + 2 := by omega
    have hnl : ¬ X (w.heap.size + 1) := fun h => by have := hX _ h; omega
    have hnd : ¬ X w.heap.size := fun h => by have := hX _ h; omega
    have liftM : ∀ {A B : World} {C : Nat → Prop}, (∀ k, k < w.heap.size + 2 → ¬ X k → C k) → Same (fun k => k = w.heap.size + 1) A B → Same (mayC M W1.heap.size C) A B := fun hC h => h.mono (fun _ _ e => by
      subst e; exact ⟨hC _ hl2' hnl, fun _ => hMl⟩)
    have liftI : ∀ {A B : World} {C : Nat → Prop}, Same (fun k => k = w.heap.size + 1) A B → Same (fun k => ¬ C k ∨ k = w.heap.size + 1) A B := fun h => h.mono (fun _ _ e => .inr e)
    have hnD : ∀ C, ¬ mayC M W1.heap.size C w.heap.size := fun C h => hMD (h.2 (by omega))
    refine (hit W1 hb1 hs1 (w.heap.size + 1)
      (fun i W C => I i W C ∧ (∀ k, k < w.heap.size + 2 → ¬ X k → C k) ∧ W.heap[w.heap.size + 1]? = some (.loop (rec .ready none)) ∧ W.heap[w.heap.size]? = some (.deferred (some [])))
      (fun i W C => ∃ c, Ix c i W C ∧ (∀ k, k < w.heap.size + 2 → ¬ X k → C k) ∧ W.heap[w.heap.size + 1]? = some (.loop (rec .done (some c))) ∧ W.heap[w.heap.size]? = some (.deferred (some [])))
      (fun i A B C hs hg' => ⟨hI i A B C hs.1 (hg'.mono (fun _ _ e => .inl e)), hs.2.1, (hg'.block _ (Array.getElem?_eq_some_iff.1 hs.2.2.1).1 (fun h => h (hs.2.1 _ hl2' hnl))).trans hs.2.2.1, (hg'.block _ (Array.getElem?_eq_some_iff.1 hs.2.2.2).1 (fun h => h (hs.2.1 _ hD2' hnd))).trans hs.2.2.2⟩)
      (fun i A B C hs hg' => by
        obtain ⟨c, hc, hC, hl, hk⟩ := hs
        exact ⟨c, hIx c i A B C hc (hg'.mono (fun _ _ e => .inl e)), hC, (hg'.block _ (Array.getElem?_eq_some_iff.1 hl).1 (fun h => h (hC _ hl2' hnl))).trans hl, (hg'.block _ (Array.getElem?_eq_some_iff.1 hk).1 (fun h => h (hC _ hD2' hnd))).trans hk⟩)
      ?_ ⟨by rw [hs1]; exact h0 W1 hb1 hs1, fun k hk hx => ⟨by omega, hx⟩, hL1, hK1⟩).mono ?_
    · rintro i v W C K hiN hok hKC ⟨hi, hC, hl, hk⟩
      have hlt : w.heap.size + 1 < W.heap.size := (Array.getElem?_eq_some_iff.1 hl).1
      have hy := run_yield (P := P) (args := v) hl (by rw [hrec]; exact hps i v W K hok)
      rw [hrec] at hy
      refine ⟨fn, _, assign, body, hy, roundIn_of_wpIn hfn (wpIn_mono (hround i v W C K hiN hok hKC hC hi hlt) ?_)⟩
      rintro e a₁ Wa hp
      cases e with
      | normal =>
        obtain ⟨hbW, hbody⟩ := hp
        have hl' := (hbW.block _ hlt).trans hl
        have hk' := (hbW.block _ (Array.getElem?_eq_some_iff.1 hk).1).trans hk
        have hlt' := (Array.getElem?_eq_some_iff.1 hl').1
        refine ⟨_, run_beginRound hl' (by rw [hrec]), ?_⟩
        have hl2 : (Wa.putObj (w.heap.size + 1) (.loop { rec .ready none with state := .busy })).heap[w.heap.size + 1]? = some (.loop { rec .ready none with state := .busy }) := World.putObj_heap_same hlt'
        have hk2 : (Wa.putObj (w.heap.size + 1) (.loop { rec .ready none with state := .busy })).heap[w.heap.size]? = some (.deferred (some [])) := (World.putObj_heap_other (by omega)).trans hk'
        have hs2 := hput Wa (.loop { rec .ready none with state := .busy })
        refine wpIn_mono (hbody _ hs2 (by simp)) ?_
        have fin : ∀ (jump : Option Code) (W3 : World), Same (mayC M (w.heap.size + 2) C) (Wa.putObj (w.heap.size + 1) (.loop { rec .ready none with state := .busy })) W3 → W3.heap[w.heap.size + 1]? = (Wa.putObj (w.heap.size + 1) (.loop { rec .ready none with state := .busy })).heap[w.heap.size + 1]? →
            (Instr.endRound (w.heap.size + 1) jump).run P W3 = .ok (.bool jump.isNone) (W3.putObj (w.heap.size + 1) (.loop (rec (if jump.isNone then .ready else .done) jump))) ∧
            (W3.putObj (w.heap.size + 1) (.loop (rec (if jump.isNone then .ready else .done) jump))).heap[w.heap.size + 1]? = some (.loop (rec (if jump.isNone then .ready else .done) jump)) ∧
            (W3.putObj (w.heap.size + 1) (.loop (rec (if jump.isNone then .ready else .done) jump))).heap[w.heap.size]? = some (.deferred (some [])) ∧
            Same (fun k => k = w.heap.size + 1) W3 (W3.putObj (w.heap.size + 1) (.loop (rec (if jump.isNone then .ready else .done) jump))) ∧
            Same (mayC M W1.heap.size C) Wa (W3.putObj (w.heap.size + 1) (.loop (rec (if jump.isNone then .ready else .done) jump))) := fun jump W3 hk3 hl3 => by
          rw [hl2] at hl3
          rw [← hs1] at hk3
          have hlt3 := (Array.getElem?_eq_some_iff.1 hl3).1
          have hkk := (hk3.block _ (Array.getElem?_eq_some_iff.1 hk2).1 (hnD C)).trans hk2
          have := run_endRound (P := P) jump hl3
          rw [hrec] at this ⊢
          exact ⟨this, World.putObj_heap_same hlt3, (World.putObj_heap_other (by omega)).trans hkk, hput _ _, ((liftM hC hs2).trans hk3).trans (liftM hC (hput _ _))⟩
        have hsz : (Wa.putObj (w.heap.size + 1) (.loop { rec .ready none with state := .busy })).heap.size = Wa.heap.size := by simp
        rintro e a3 W3 hp
        cases e with
        | normal =>
          obtain ⟨hk3, hl3, C', hC', hCB, hCK, hi3⟩ := hp
          obtain ⟨hr, hl4, hk4, hs4, hs5⟩ := fin none W3 hk3 hl3
          rw [hsz] at hCK
          exact ⟨_, _, hr, (Same.of_below _ hbW).trans hs5, C', by rw [hs1]; exact hC', fun k hk' => by simpa using hCB k hk', fun k hk => (hCK k hk).elim .inl fun h => .inr (h.elim .inl fun h => .inr (Nat.le_trans hbW.size h)), .inl ⟨rfl, hI _ _ _ _ hi3 (liftI hs4), hC', hl4, hk4⟩⟩
        | ret =>
          obtain ⟨hk3, hl3, C', hC', hCB, hCK, hi3⟩ := hp
          obtain ⟨hr, hl4, hk4, hs4, hs5⟩ := fin (some .ret) W3 hk3 hl3
          rw [hsz] at hCK
          exact ⟨_, _, hr, (Same.of_below _ hbW).trans hs5, C', by rw [hs1]; exact hC', fun k hk' => by simpa using hCB k hk', fun k hk => (hCK k hk).elim .inl fun h => .inr (h.elim .inl fun h => .inr (Nat.le_trans hbW.size h)), .inr ⟨rfl, .ret, hIx _ _ _ _ _ hi3 (liftI hs4), hC', hl4, hk4⟩⟩
        | exit id =>
          obtain ⟨hk3, hl3, C', hC', hCB, hCK, hi3⟩ := hp
          obtain ⟨hr, hl4, hk4, hs4, hs5⟩ := fin (some (.exit id)) W3 hk3 hl3
          rw [hsz] at hCK
          exact ⟨_, _, hr, (Same.of_below _ hbW).trans hs5, C', by rw [hs1]; exact hC', fun k hk' => by simpa using hCB k hk', fun k hk => (hCK k hk).elim .inl fun h => .inr (h.elim .inl fun h => .inr (Nat.le_trans hbW.size h)), .inr ⟨rfl, .exit id, hIx _ _ _ _ _ hi3 (liftI hs4), hC', hl4, hk4⟩⟩
        | goto t => exact hp.elim
        | panic ch => exact hp.elim
        | outgrown => exact hp.elim
      | exit id => exact hp.elim
      | goto t => exact hp.elim
      | ret => exact hp.elim
      | panic chain => exact hp.elim
      | outgrown => exact hp.elim
    · rintro e W2 ⟨⟨v, rfl⟩, C', (⟨⟨hi, hC, hl, hk⟩, hsd⟩ | ⟨i, hin, c, hi, hC, hl, hk⟩)⟩
      · have hlt := (Array.getElem?_eq_some_iff.1 hl).1
        exact ⟨none, _, by have := run_endLoop (P := P) hl (by rw [hrec]; simp); rw [hrec] at this; exact this, hdone _ C' (hI _ _ _ _ hi (liftI (hput _ _))) (hSd _ _ hsd (hput _ _)) ((World.putObj_heap_other (by omega)).trans hk)⟩
      · have hlt := (Array.getElem?_eq_some_iff.1 hl).1
        exact ⟨some c, _, by have := run_endLoop (P := P) hl (by rw [hrec]; simp); rw [hrec] at this; exact this, wpIn_wide.2 (hstop c i _ C' hin (hIx c _ _ _ _ hi (liftI (hput _ _))) ((World.putObj_heap_other (by omega)).trans hk))⟩
end
end Go.Proofs.Ytphefhpmbahagaa
