/- A range over a function that hands over its elements in whatever order: a law over whatever program. -/
import Derived.Test.YtlhobddaojdnoaaBase2
namespace Go.Proofs.Ytlhobddaojdnoaa
open Go.RowKit
section
variable {P : Program}
/-- An iterator that hands over these elements, one after the other, as long as the rounds want more. O: the blocks that it writes itself; M: those that a round may write. -/
def IterOkL (P : Program) (g : Nat) (lb : Array Value) (Ok : List (Array Value) → Array Value → Prop) (Dn : List (Array Value) → Prop) (O M : Nat → Prop) (W : World) : Prop :=
  ∀ (l : Nat) (J Jx : List (Array Value) → World → Prop),
    (∀ i A B, J i A → Same O A B → J i B) → (∀ i A B, Jx i A → Same O A B → Jx i B) →
    (∀ i v, Ok i v → ∀ A, J i A → YieldAt Fence.wide 0 P l v A fun e B => (e = .returned (.bool true) ∧ J (i ++ [v]) B ∧ Same M A B) ∨ (e = .returned (.bool false) ∧ Jx (i ++ [v]) B ∧ Same M A B)) →
    J [] W → CallsIn Fence.wide 0 P g (#[.func (.yield l) #[] #[]] ++ lb) W fun e W' => (∃ v, e = .returned v) ∧ ((∃ i, Dn i ∧ J i W') ∨ ∃ i v, Ok i v ∧ Jx (i ++ [v]) W')

/-- How a round's body may end. -/
def roundEndL (l : Nat) (M : Nat → Prop) (I : List (Array Value) → World → Prop) (Ix : Code → List (Array Value) → World → Prop) (i : List (Array Value)) (v : Array Value) (W : World) : Exit → Act → World → Prop
  | .normal, _, W' => Same M W W' ∧ W'.heap[l]? = W.heap[l]? ∧ I (i ++ [v]) W'
  | .ret, _, W' => Same M W W' ∧ W'.heap[l]? = W.heap[l]? ∧ Ix .ret (i ++ [v]) W'
  | .exit id, _, W' => Same M W W' ∧ W'.heap[l]? = W.heap[l]? ∧ Ix (.exit id) (i ++ [v]) W'
  | .goto t, _, W' => Same M W W' ∧ W'.heap[l]? = W.heap[l]? ∧ Ix (.goto t) (i ++ [v]) W'
  | .panic _, _, _ => False
  | .outgrown, _, _ => False

theorem wp_rangeFuncL {g : Operand} {ps : Array Tmp} {assign body : Code} {Q : Exit → Act → World → Prop} {a : Act} {w : World}
    {gf : Nat} {lb : Array Value} (hg : a.eval g = .func (.func gf) #[] lb) (eg : ∀ args w, (callFunc gf args).run P w = .ok (.enter gf args) w)
    (Ok : List (Array Value) → Array Value → Prop) (Dn : List (Array Value) → Prop) (O M : Nat → Prop) (hps : ∀ i v, Ok i v → v.size = ps.size)
    (hOl : ¬ O (w.heap.size + 1)) (hOD : ¬ O w.heap.size) (hMD : ¬ M w.heap.size) (hMl : M (w.heap.size + 1))
    (hit : ∀ W, Below w.heap.size w W → W.heap.size = w.heap.size + 2 → IterOkL P gf lb Ok Dn O M W)
    (I : List (Array Value) → World → Prop) (Ix : Code → List (Array Value) → World → Prop)
    (hI : ∀ i A B, I i A → Same (fun k => O k ∨ k = w.heap.size + 1) A B → I i B) (hIx : ∀ c i A B, Ix c i A → Same (fun k => O k ∨ k = w.heap.size + 1) A B → Ix c i B)
    (h0 : ∀ W, Below w.heap.size w W → W.heap.size = w.heap.size + 2 → I [] W)
    (hround : ∀ i v, Ok i v → ∀ W, I i W → w.heap.size + 1 < W.heap.size →
      assign.wpIn (Fence.wide.inRound (w.heap.size + 1)) 0 P (Exit.then (fun a₁ W₁ => Same M W W₁ ∧ W₁.heap[w.heap.size + 1]? = W.heap[w.heap.size + 1]? ∧
          ∀ W₂, Same (fun k => k = w.heap.size + 1) W₁ W₂ → W₂.heap.size = W₁.heap.size → body.wpIn (Fence.wide.inRound (w.heap.size + 1)) 0 P (roundEndL (w.heap.size + 1) M I Ix i v W₂) a₁ W₂) (fun _ _ _ => False))
        { tmps := (ps.zip v).foldl (fun t (p, v) => t.setIfInBounds p v) a.tmps, defers := [] } W)
    (hdone : ∀ i W, Dn i → I i W → W.heap[w.heap.size]? = some (.deferred (some [])) → Q .normal { a with defers := { target := .collected w.heap.size, args := #[] } :: a.defers } W)
    (hstop : ∀ c i v W, Ok i v → Ix c (i ++ [v]) W → W.heap[w.heap.size]? = some (.deferred (some [])) → c.wp P Q { a with defers := { target := .collected w.heap.size, args := #[] } :: a.defers } W) :
    (Code.rangeFunc g ps assign body).wp P Q a w := by
  rw [← wpIn_wide (n := 0)]
  refine wpIn_rangeFunc ?_
  intro fn hfn
  obtain ⟨rec, hrec⟩ : ∃ rec : LoopState → Option Code → Loop, rec = fun st pe => { state := st, pending := pe, fn, tmps := a.tmps, params := ps, assign, body, defers := w.heap.size } := ⟨_, rfl⟩
  obtain ⟨W1, hW1⟩ : ∃ W1, (w.alloc (.deferred (some []))).alloc (.loop (rec .ready none)) = W1 := ⟨_, rfl⟩
  have hL1 : W1.heap[w.heap.size + 1]? = some (.loop (rec .ready none)) := by
    rw [← hW1]; have := World.alloc_heap_new (w.alloc (.deferred (some []))) (.loop (rec .ready none)); rwa [World.size_alloc] at this
  have hK1 : W1.heap[w.heap.size]? = some (.deferred (some [])) := by
    rw [← hW1]; exact (Below.heap_alloc _ _ _ (by simp)).trans (World.alloc_heap_new w _)
  have hs1 : W1.heap.size = w.heap.size + 2 := by rw [← hW1]; simp
  have hb1 : Below w.heap.size w W1 := by rw [← hW1]; exact ((Below.refl _ w).alloc (Nat.le_refl _) _).alloc (by simp) _
  refine ⟨w.heap.size + 1, [{ target := .collected w.heap.size, args := #[] }], W1, { target := .fn (.func gf) lb, args := #[.func (.yield (w.heap.size + 1)) #[] #[]] }, W1, gf,
    #[.func (.yield (w.heap.size + 1)) #[] #[]] ++ lb, W1, ?_, ?_, ?_, ?_, fun h => by simp [Fence.wide] at h, ?_⟩
  · rw [← hW1, hrec]; exact run_enterLoop_outer _ _ _ _ _
  · simp only [resolve, hg]
    simp [go_sem]
  · intro f' hf'; trivial
  · simp [invoke, go_sem, eg]
  · have hput : ∀ (W : World) (o : Obj), w.heap.size + 1 < W.heap.size → Same (fun k => k = w.heap.size + 1) W (W.putObj (w.heap.size + 1) o) := fun W o _ => Same.putObj (M := fun k => k = w.heap.size + 1) (Same.refl _ W) (.inl rfl) o
    have lift : ∀ {A B : World}, Same (fun k => k = w.heap.size + 1) A B → Same (fun k => O k ∨ k = w.heap.size + 1) A B := fun h => h.mono (fun _ _ e => .inr e)
    have liftM : ∀ {A B : World}, Same (fun k => k = w.heap.size + 1) A B → Same M A B := fun h => h.mono (fun _ _ e => e ▸ hMl)
    refine (hit W1 hb1 hs1 (w.heap.size + 1)
      (fun i W => I i W ∧ W.heap[w.heap.size + 1]? = some (.loop (rec .ready none)) ∧ W.heap[w.heap.size]? = some (.deferred (some [])))
      (fun i W => ∃ c, Ix c i W ∧ W.heap[w.heap.size + 1]? = some (.loop (rec .done (some c))) ∧ W.heap[w.heap.size]? = some (.deferred (some [])))
      (fun i A B hs hg' => ⟨hI i A B hs.1 (hg'.mono (fun _ _ e => .inl e)), (hg'.block _ (Array.getElem?_eq_some_iff.1 hs.2.1).1 hOl).trans hs.2.1, (hg'.block _ (Array.getElem?_eq_some_iff.1 hs.2.2).1 hOD).trans hs.2.2⟩)
      (fun i A B hs hg' => by
        obtain ⟨c, hc, hl, hk⟩ := hs
        exact ⟨c, hIx c i A B hc (hg'.mono (fun _ _ e => .inl e)), (hg'.block _ (Array.getElem?_eq_some_iff.1 hl).1 hOl).trans hl, (hg'.block _ (Array.getElem?_eq_some_iff.1 hk).1 hOD).trans hk⟩)
      ?_ ⟨h0 W1 hb1 hs1, hL1, hK1⟩).mono ?_
    · rintro i v hv W ⟨hi, hl, hk⟩
      have hlt : w.heap.size + 1 < W.heap.size := (Array.getElem?_eq_some_iff.1 hl).1
      have hy := run_yield (P := P) (args := v) hl (by rw [hrec]; exact hps i v hv)
      rw [hrec] at hy
      refine ⟨fn, _, assign, body, hy, roundIn_of_wpIn hfn (wpIn_mono (hround i v hv W hi hlt) ?_)⟩
      rintro e a₁ Wa hp
      cases e with
      | normal =>
        obtain ⟨hsa, hla, hbody⟩ := hp
        rw [hl] at hla
        have hka : Wa.heap[w.heap.size]? = some (.deferred (some [])) := (hsa.block _ (by omega) hMD).trans hk
        have hlta : w.heap.size + 1 < Wa.heap.size := (Array.getElem?_eq_some_iff.1 hla).1
        refine ⟨_, run_beginRound hla (by rw [hrec]), ?_⟩
        have hl2 : (Wa.putObj (w.heap.size + 1) (.loop { rec .ready none with state := .busy })).heap[w.heap.size + 1]? = some (.loop { rec .ready none with state := .busy }) := World.putObj_heap_same hlta
        have hk2 : (Wa.putObj (w.heap.size + 1) (.loop { rec .ready none with state := .busy })).heap[w.heap.size]? = some (.deferred (some [])) := (World.putObj_heap_other (by omega)).trans hka
        have hs2 := hput Wa (.loop { rec .ready none with state := .busy }) hlta
        refine wpIn_mono (hbody _ hs2 (by simp)) ?_
        have fin : ∀ (jump : Option Code) (W3 : World), Same M (Wa.putObj (w.heap.size + 1) (.loop { rec .ready none with state := .busy })) W3 → W3.heap[w.heap.size + 1]? = (Wa.putObj (w.heap.size + 1) (.loop { rec .ready none with state := .busy })).heap[w.heap.size + 1]? →
            (Instr.endRound (w.heap.size + 1) jump).run P W3 = .ok (.bool jump.isNone) (W3.putObj (w.heap.size + 1) (.loop (rec (if jump.isNone then .ready else .done) jump))) ∧
            (W3.putObj (w.heap.size + 1) (.loop (rec (if jump.isNone then .ready else .done) jump))).heap[w.heap.size + 1]? = some (.loop (rec (if jump.isNone then .ready else .done) jump)) ∧
            (W3.putObj (w.heap.size + 1) (.loop (rec (if jump.isNone then .ready else .done) jump))).heap[w.heap.size]? = some (.deferred (some [])) ∧
            Same (fun k => k = w.heap.size + 1) W3 (W3.putObj (w.heap.size + 1) (.loop (rec (if jump.isNone then .ready else .done) jump))) ∧
            Same M W (W3.putObj (w.heap.size + 1) (.loop (rec (if jump.isNone then .ready else .done) jump))) := fun jump W3 hk3 hl3 => by
          rw [hl2] at hl3
          have hlt3 := (Array.getElem?_eq_some_iff.1 hl3).1
          have hkk := (hk3.block _ (Array.getElem?_eq_some_iff.1 hk2).1 hMD).trans hk2
          have := run_endRound (P := P) jump hl3
          rw [hrec] at this ⊢
          exact ⟨this, World.putObj_heap_same hlt3, (World.putObj_heap_other (by omega)).trans hkk, hput _ _ hlt3, ((hsa.trans (liftM hs2)).trans hk3).trans (liftM (hput _ _ hlt3))⟩
        rintro e a3 W3 hp
        cases e with
        | normal =>
          obtain ⟨hk3, hl3, hi3⟩ := hp
          obtain ⟨hr, hl4, hk4, hs4, hs5⟩ := fin none W3 hk3 hl3
          exact ⟨_, _, hr, .inl ⟨rfl, ⟨hI _ _ _ hi3 (lift hs4), hl4, hk4⟩, hs5⟩⟩
        | ret =>
          obtain ⟨hk3, hl3, hi3⟩ := hp
          obtain ⟨hr, hl4, hk4, hs4, hs5⟩ := fin (some .ret) W3 hk3 hl3
          exact ⟨_, _, hr, .inr ⟨rfl, ⟨.ret, hIx _ _ _ _ hi3 (lift hs4), hl4, hk4⟩, hs5⟩⟩
        | exit id =>
          obtain ⟨hk3, hl3, hi3⟩ := hp
          obtain ⟨hr, hl4, hk4, hs4, hs5⟩ := fin (some (.exit id)) W3 hk3 hl3
          exact ⟨_, _, hr, .inr ⟨rfl, ⟨.exit id, hIx _ _ _ _ hi3 (lift hs4), hl4, hk4⟩, hs5⟩⟩
        | goto t =>
          obtain ⟨hk3, hl3, hi3⟩ := hp
          obtain ⟨hr, hl4, hk4, hs4, hs5⟩ := fin (some (.goto t)) W3 hk3 hl3
          exact ⟨_, _, hr, .inr ⟨rfl, ⟨.goto t, hIx _ _ _ _ hi3 (lift hs4), hl4, hk4⟩, hs5⟩⟩
        | panic ch => exact hp.elim
        | outgrown => exact hp.elim
      | exit id => exact hp.elim
      | goto t => exact hp.elim
      | ret => exact hp.elim
      | panic chain => exact hp.elim
      | outgrown => exact hp.elim
    · rintro e W2 ⟨⟨v, rfl⟩, (⟨i, hdn, hi, hl, hk⟩ | ⟨i, v', hin, c, hi, hl, hk⟩)⟩
      · have hlt := (Array.getElem?_eq_some_iff.1 hl).1
        exact ⟨none, _, by have := run_endLoop (P := P) hl (by rw [hrec]; simp); rw [hrec] at this; exact this, hdone i _ hdn (hI _ _ _ hi (lift (hput _ _ hlt))) ((World.putObj_heap_other (by omega)).trans hk)⟩
      · have hlt := (Array.getElem?_eq_some_iff.1 hl).1
        exact ⟨some c, _, by have := run_endLoop (P := P) hl (by rw [hrec]; simp); rw [hrec] at this; exact this, wpIn_wide.2 (hstop c i v' _ hin (hIx c _ _ _ hi (lift (hput _ _ hlt))) ((World.putObj_heap_other (by omega)).trans hk))⟩

end
end Go.Proofs.Ytlhobddaojdnoaa
