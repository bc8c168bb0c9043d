/- A range over an iterator that has blocks of its own, by the list of what is still to come. The sets of a row's marks: the iterator. The cases of a canvas: words for the iterator. The cases of a row. The cases of a canvas: the iterator. The cases of a canvas: the iterator. What is joined of cases: the drawn regions. What is joined of cases. The first case. What is gathered from all cases. A canvas is opened. What can have been painted: doors that recover. The sides and the fewest marks that have been painted. -/
import Derived.Test.YtbnhngfegnhaiaaDoorC6
namespace Go.Proofs.YtbnhngfegnhaiaaDoor
open Go.RowKit
set_option linter.unusedVariables false
section
variable {P : Program}
/-- An iterator with blocks X of its own that hands over a list's elements, one after the other, as long as the rounds want more. C: the consumer's blocks, which it leaves alone. -/
def IterY {α : Type} (P : Program) (g : Nat) (lb : Array Value) (L : List α) (Ok : α → Array Value → World → (Nat → Prop) → Prop) (M X : Nat → Prop) (W : World) : Prop :=
  ∀ (l : Nat) (J Jx : List α → World → (Nat → Prop) → Prop),
    (∀ i A B C, J i A C → Same (fun k => ¬ C k) A B → J i B C) → (∀ i A B C, Jx i A C → Same (fun k => ¬ C k) A B → Jx i B C) →
    (∀ x i v A C K, Ok x v A K → (∀ k, K k → ¬ C k) → J (x :: i) A C → YieldAt Fence.wide 0 P l v A fun e B => Same (mayC M W.heap.size C) A B ∧
      ∃ C' : Nat → Prop, (∀ k, k < W.heap.size → ¬ X k → C' k) ∧ (∀ k, C' k → k < B.heap.size) ∧ (∀ k, C' k → C k ∨ K k ∨ A.heap.size ≤ k) ∧ ((e = .returned (.bool true) ∧ J i B C') ∨ (e = .returned (.bool false) ∧ Jx i B C'))) →
    J L W (fun k => k < W.heap.size ∧ ¬ X k) →
    CallsIn Fence.wide 0 P g (#[.func (.yield l) #[] #[]] ++ lb) W fun e W' => (∃ v, e = .returned v) ∧ ∃ C', J [] W' C' ∨ ∃ i, Jx i W' C'
/-- How a round's body may end. -/
def roundEndY {α : Type} (l B : Nat) (X M C K : Nat → Prop) (I : List α → World → (Nat → Prop) → Prop) (Ix : Code → List α → World → (Nat → Prop) → Prop) (i : List α) (W : World) : Exit → Act → World → Prop
  | .normal, _, W' => Same (mayC M B C) W W' ∧ W'.heap[l]? = W.heap[l]? ∧ ∃ C' : Nat → Prop, (∀ k, k < B → ¬ X k → C' k) ∧ (∀ k, C' k → k < W'.heap.size) ∧ (∀ k, C' k → C k ∨ K k ∨ W.heap.size ≤ k) ∧ I i W' C'
  | .ret, _, W' => Same (mayC M B C) W W' ∧ W'.heap[l]? = W.heap[l]? ∧ ∃ C' : Nat → Prop, (∀ k, k < B → ¬ X k → C' k) ∧ (∀ k, C' k → k < W'.heap.size) ∧ (∀ k, C' k → C k ∨ K k ∨ W.heap.size ≤ k) ∧ Ix .ret i W' C'
  | .exit id, _, W' => Same (mayC M B C) W W' ∧ W'.heap[l]? = W.heap[l]? ∧ ∃ C' : Nat → Prop, (∀ k, k < B → ¬ X k → C' k) ∧ (∀ k, C' k → k < W'.heap.size) ∧ (∀ k, C' k → C k ∨ K k ∨ W.heap.size ≤ k) ∧ Ix (.exit id) i W' C'
  | .goto _, _, _ => False
  | .panic _, _, _ => False
  | .outgrown, _, _ => False
theorem wp_rangeFuncY {α : Type} {g : Operand} {ps : Array Tmp} {assign body : Code} {Q : Exit → Act → World → Prop} {a : Act} {w : World}
    {gf : Nat} {lb : Array Value} (hg : a.eval g = .func (.func gf) #[] lb) (eg : ∀ args w, (callFunc gf args).run P w = .ok (.enter gf args) w)
    (L : List α) (Ok : α → Array Value → World → (Nat → Prop) → Prop) (M X : Nat → Prop) (hX : ∀ k, X k → k < w.heap.size) (hps : ∀ i v A K, Ok i v A K → v.size = ps.size)
    (hMD : ¬ M w.heap.size) (hMl : M (w.heap.size + 1))
    (hit : ∀ W, Below w.heap.size w W → W.heap.size = w.heap.size + 2 → IterY P gf lb L Ok M X W)
    (I : List α → World → (Nat → Prop) → Prop) (Ix : Code → List α → World → (Nat → Prop) → Prop)
    (hI : ∀ i A B C, I i A C → Same (fun k => ¬ C k ∨ k = w.heap.size + 1) A B → I i B C) (hIx : ∀ c i A B C, Ix c i A C → Same (fun k => ¬ C k ∨ k = w.heap.size + 1) A B → Ix c i B C)
    (h0 : ∀ W, Below w.heap.size w W → W.heap.size = w.heap.size + 2 → I L W (fun k => k < w.heap.size + 2 ∧ ¬ X k))
    (hround : ∀ x i v W C K, Ok x v W K → (∀ k, K k → ¬ C k) → (∀ k, k < w.heap.size + 2 → ¬ X k → C k) → I (x :: i) W C → w.heap.size + 1 < W.heap.size →
      assign.wpIn (Fence.wide.inRound (w.heap.size + 1)) 0 P (Exit.then (fun a₁ W₁ => Below W.heap.size W W₁ ∧
          ∀ W₂, Same (fun k => k = w.heap.size + 1) W₁ W₂ → W₂.heap.size = W₁.heap.size → body.wpIn (Fence.wide.inRound (w.heap.size + 1)) 0 P (roundEndY (w.heap.size + 1) (w.heap.size + 2) X M C K I Ix i W₂) a₁ W₂) (fun _ _ _ => False))
        { tmps := (ps.zip v).foldl (fun t (p, v) => t.setIfInBounds p v) a.tmps, defers := [] } W)
    (hdone : ∀ W C, I [] W C → W.heap[w.heap.size]? = some (.deferred (some [])) → Q .normal { a with defers := { target := .collected w.heap.size, args := #[] } :: a.defers } W)
    (hstop : ∀ c i W C, Ix c i W C → W.heap[w.heap.size]? = some (.deferred (some [])) → c.wp P Q { a with defers := { target := .collected w.heap.size, args := #[] } :: a.defers } W) :
    (Code.rangeFunc g ps assign body).wp P Q a w := by
  rw [← wpIn_wide (n := 0)]
  refine wpIn_rangeFunc ?_
  intro fn hfn
  obtain ⟨rec, hrec⟩ : ∃ rec : LoopState → Option Code → Loop, rec = fun st pe => { state := st, pending := pe, fn, tmps := a.tmps, params := ps, assign, body, defers := w.heap.size } := ⟨_, rfl⟩
  obtain ⟨W1, hW1⟩ : ∃ W1, (w.alloc (.deferred (some []))).alloc (.loop (rec .ready none)) = W1 := ⟨_, rfl⟩
  have hL1 : W1.heap[w.heap.size + 1]? = some (.loop (rec .ready none)) := by
    rw [← hW1]; have := World.alloc_heap_new (w.alloc (.deferred (some []))) (.loop (rec .ready none)); rwa [World.size_alloc] at this
  have hK1 : W1.heap[w.heap.size]? = some (.deferred (some [])) := by
    rw [← hW1]; exact (Below.heap_alloc _ _ _ (by simp)).trans (World.alloc_heap_new w _)
  have hs1 : W1.heap.size = w.heap.size + 2 := by rw [← hW1]; simp
  have hb1 : Below w.heap.size w W1 := by rw [← hW1]; exact ((Below.refl _ w).alloc (Nat.le_refl _) _).alloc (by simp) _
  refine ⟨w.heap.size + 1, [{ target := .collected w.heap.size, args := #[] }], W1, { target := .fn (.func gf) lb, args := #[.func (.yield (w.heap.size + 1)) #[] #[]] }, W1, gf,
    #[.func (.yield (w.heap.size + 1)) #[] #[]] ++ lb, W1, ?_, ?_, ?_, ?_, fun h => by simp [Fence.wide] at h, ?_⟩
  · rw [← hW1, hrec]; exact run_enterLoop_outer _ _ _ _ _
  · simp only [resolve, hg]
    simp [go_sem]
  · intro f' hf'; trivial
  · simp [invoke, go_sem, eg]
  · have hput : ∀ (W : World) (o : Obj), Same (fun k => k = w.heap.size + 1) W (W.putObj (w.heap.size + 1) o) := fun W o => Same.putObj (M := fun k => k = w.heap.size + 1) (Same.refl _ W) (.inl rfl) o
    have hl2' : w.heap.size + 1 < w.heap.size + 2 := by omega
    have hD2' : w.heap.size < w.heap.size + 2 := by omega
    have hnl : ¬ X (w.heap.size + 1) := fun h => by have := hX _ h; omega
    have hnd : ¬ X w.heap.size := fun h => by have := hX _ h; omega
    have liftM : ∀ {A B : World} {C : Nat → Prop}, (∀ k, k < w.heap.size + 2 → ¬ X k → C k) → Same (fun k => k = w.heap.size + 1) A B → Same (mayC M W1.heap.size C) A B := fun hC h => h.mono (fun _ _ e => by
      subst e; exact ⟨hC _ hl2' hnl, fun _ => hMl⟩)
    have liftI : ∀ {A B : World} {C : Nat → Prop}, Same (fun k => k = w.heap.size + 1) A B → Same (fun k => ¬ C k ∨ k = w.heap.size + 1) A B := fun h => h.mono (fun _ _ e => .inr e)
    have hnD : ∀ C, ¬ mayC M W1.heap.size C w.heap.size := fun C h => hMD (h.2 (by omega))
    refine (hit W1 hb1 hs1 (w.heap.size + 1)
      (fun i W C => I i W C ∧ (∀ k, k < w.heap.size + 2 → ¬ X k → C k) ∧ W.heap[w.heap.size + 1]? = some (.loop (rec .ready none)) ∧ W.heap[w.heap.size]? = some (.deferred (some [])))
      (fun i W C => ∃ c, Ix c i W C ∧ (∀ k, k < w.heap.size + 2 → ¬ X k → C k) ∧ W.heap[w.heap.size + 1]? = some (.loop (rec .done (some c))) ∧ W.heap[w.heap.size]? = some (.deferred (some [])))
      (fun i A B C hs hg' => ⟨hI i A B C hs.1 (hg'.mono (fun _ _ e => .inl e)), hs.2.1, (hg'.block _ (Array.getElem?_eq_some_iff.1 hs.2.2.1).1 (fun h => h (hs.2.1 _ hl2' hnl))).trans hs.2.2.1, (hg'.block _ (Array.getElem?_eq_some_iff.1 hs.2.2.2).1 (fun h => h (hs.2.1 _ hD2' hnd))).trans hs.2.2.2⟩)
      (fun i A B C hs hg' => by
        obtain ⟨c, hc, hC, hl, hk⟩ := hs
        exact ⟨c, hIx c i A B C hc (hg'.mono (fun _ _ e => .inl e)), hC, (hg'.block _ (Array.getElem?_eq_some_iff.1 hl).1 (fun h => h (hC _ hl2' hnl))).trans hl, (hg'.block _ (Array.getElem?_eq_some_iff.1 hk).1 (fun h => h (hC _ hD2' hnd))).trans hk⟩)
      ?_ ⟨by rw [hs1]; exact h0 W1 hb1 hs1, fun k hk hx => ⟨by omega, hx⟩, hL1, hK1⟩).mono ?_
    · rintro x i v W C K hok hKC ⟨hi, hC, hl, hk⟩
      have hlt : w.heap.size + 1 < W.heap.size := (Array.getElem?_eq_some_iff.1 hl).1
      have hy := run_yield (P := P) (args := v) hl (by rw [hrec]; exact hps x v W K hok)
      rw [hrec] at hy
      refine ⟨fn, _, assign, body, hy, roundIn_of_wpIn hfn (wpIn_mono (hround x i v W C K hok hKC hC hi hlt) ?_)⟩
      rintro e a₁ Wa hp
      cases e with
      | normal =>
        obtain ⟨hbW, hbody⟩ := hp
        have hl' := (hbW.block _ hlt).trans hl
        have hk' := (hbW.block _ (Array.getElem?_eq_some_iff.1 hk).1).trans hk
        have hlt' := (Array.getElem?_eq_some_iff.1 hl').1
        refine ⟨_, run_beginRound hl' (by rw [hrec]), ?_⟩
        have hl2 : (Wa.putObj (w.heap.size + 1) (.loop { rec .ready none with state := .busy })).heap[w.heap.size + 1]? = some (.loop { rec .ready none with state := .busy }) := World.putObj_heap_same hlt'
        have hk2 : (Wa.putObj (w.heap.size + 1) (.loop { rec .ready none with state := .busy })).heap[w.heap.size]? = some (.deferred (some [])) := (World.putObj_heap_other (by omega)).trans hk'
        have hs2 := hput Wa (.loop { rec .ready none with state := .busy })
        refine wpIn_mono (hbody _ hs2 (by simp)) ?_
        have fin : ∀ (jump : Option Code) (W3 : World), Same (mayC M (w.heap.size + 2) C) (Wa.putObj (w.heap.size + 1) (.loop { rec .ready none with state := .busy })) W3 → W3.heap[w.heap.size + 1]? = (Wa.putObj (w.heap.size + 1) (.loop { rec .ready none with state := .busy })).heap[w.heap.size + 1]? →
            (Instr.endRound (w.heap.size + 1) jump).run P W3 = .ok (.bool jump.isNone) (W3.putObj (w.heap.size + 1) (.loop (rec (if jump.isNone then .ready else .done) jump))) ∧
            (W3.putObj (w.heap.size + 1) (.loop (rec (if jump.isNone then .ready else .done) jump))).heap[w.heap.size + 1]? = some (.loop (rec (if jump.isNone then .ready else .done) jump)) ∧
            (W3.putObj (w.heap.size + 1) (.loop (rec (if jump.isNone then .ready else .done) jump))).heap[w.heap.size]? = some (.deferred (some [])) ∧
            Same (fun k => k = w.heap.size + 1) W3 (W3.putObj (w.heap.size + 1) (.loop (rec (if jump.isNone then .ready else .done) jump))) ∧
            Same (mayC M W1.heap.size C) Wa (W3.putObj (w.heap.size + 1) (.loop (rec (if jump.isNone then .ready else .done) jump))) := fun jump W3 hk3 hl3 => by
          rw [hl2] at hl3
          rw [← hs1] at hk3
          have hlt3 := (Array.getElem?_eq_some_iff.1 hl3).1
          have hkk := (hk3.block _ (Array.getElem?_eq_some_iff.1 hk2).1 (hnD C)).trans hk2
          have := run_endRound (P := P) jump hl3
          rw [hrec] at this ⊢
          exact ⟨this, World.putObj_heap_same hlt3, (World.putObj_heap_other (by omega)).trans hkk, hput _ _, ((liftM hC hs2).trans hk3).trans (liftM hC (hput _ _))⟩
        have hsz : (Wa.putObj (w.heap.size + 1) (.loop { rec .ready none with state := .busy })).heap.size = Wa.heap.size := by simp
        rintro e a3 W3 hp
        cases e with
        | normal =>
          obtain ⟨hk3, hl3, C', hC', hCB, hCK, hi3⟩ := hp
          obtain ⟨hr, hl4, hk4, hs4, hs5⟩ := fin none W3 hk3 hl3
          rw [hsz] at hCK
          exact ⟨_, _, hr, (Same.of_below _ hbW).trans hs5, C', by rw [hs1]; exact hC', fun k hk' => by simpa using hCB k hk', fun k hk => (hCK k hk).elim .inl fun h => .inr (h.elim .inl fun h => .inr (Nat.le_trans hbW.size h)), .inl ⟨rfl, hI _ _ _ _ hi3 (liftI hs4), hC', hl4, hk4⟩⟩
        | ret =>
          obtain ⟨hk3, hl3, C', hC', hCB, hCK, hi3⟩ := hp
          obtain ⟨hr, hl4, hk4, hs4, hs5⟩ := fin (some .ret) W3 hk3 hl3
          rw [hsz] at hCK
          exact ⟨_, _, hr, (Same.of_below _ hbW).trans hs5, C', by rw [hs1]; exact hC', fun k hk' => by simpa using hCB k hk', fun k hk => (hCK k hk).elim .inl fun h => .inr (h.elim .inl fun h => .inr (Nat.le_trans hbW.size h)), .inr ⟨rfl, .ret, hIx _ _ _ _ _ hi3 (liftI hs4), hC', hl4, hk4⟩⟩
        | exit id =>
          obtain ⟨hk3, hl3, C', hC', hCB, hCK, hi3⟩ := hp
          obtain ⟨hr, hl4, hk4, hs4, hs5⟩ := fin (some (.exit id)) W3 hk3 hl3
          rw [hsz] at hCK
          exact ⟨_, _, hr, (Same.of_below _ hbW).trans hs5, C', by rw [hs1]; exact hC', fun k hk' => by simpa using hCB k hk', fun k hk => (hCK k hk).elim .inl fun h => .inr (h.elim .inl fun h => .inr (Nat.le_trans hbW.size h)), .inr ⟨rfl, .exit id, hIx _ _ _ _ _ hi3 (liftI hs4), hC', hl4, hk4⟩⟩
        | goto t => exact hp.elim
        | panic ch => exact hp.elim
        | outgrown => exact hp.elim
      | exit id => exact hp.elim
      | goto t => exact hp.elim
      | ret => exact hp.elim
      | panic chain => exact hp.elim
      | outgrown => exact hp.elim
    · rintro e W2 ⟨⟨v, rfl⟩, C', (⟨hi, hC, hl, hk⟩ | ⟨i, c, hi, hC, hl, hk⟩)⟩
      · have hlt := (Array.getElem?_eq_some_iff.1 hl).1
        exact ⟨none, _, by have := run_endLoop (P := P) hl (by rw [hrec]; simp); rw [hrec] at this; exact this, hdone _ C' (hI _ _ _ _ hi (liftI (hput _ _))) ((World.putObj_heap_other (by omega)).trans hk)⟩
      · have hlt := (Array.getElem?_eq_some_iff.1 hl).1
        exact ⟨some c, _, by have := run_endLoop (P := P) hl (by rw [hrec]; simp); rw [hrec] at this; exact this, wpIn_wide.2 (hstop c i _ C' (hIx c _ _ _ _ hi (liftI (hput _ _))) ((World.putObj_heap_other (by omega)).trans hk))⟩
end
end Go.Proofs.YtbnhngfegnhaiaaDoor
namespace Go.Proofs.YtbnhngfegnhaiaaDoor
open Go.RowKit
set_option linter.unusedVariables false
set_option linter.unusedSimpArgs false
def rowN (r : Rws) (k : Nat) : Nat := if k = 0 then r.left.length else r.right.length
set_option maxRecDepth 100000 in
theorem marks116 {r : Rws} {p : Int} {al ar : Option Addr} {cl cr mb cb k : Nat} {w : World} (hk : k < 2) (hC : w.heap[cb]? = some (.cells (r.cnv p al cl ar cr mb) 157 (0, 0))) :
    Calls Tryd.prog 116 #[.pointer (some ⟨cb, 0, none⟩), .int .i64 k] w fun e w' => e = .returned (.int .i64 (rowN r k)) ∧ Below w.heap.size w w' := by
  have HC := Lib.hid hC
  have hk2 : (k : Int) < 2 := by omega
  have hk0 : (0 : Int) ≤ k := by omega
  have hix : ∀ w, (Instr.index 42 (.agg #[.int .i64 r.left.length, .int .i64 r.right.length]) (.int .i64 (k : Int))).run Tryd.prog w = .ok (.int .i64 (rowN r k)) w := fun w => by
    have : k = 0 ∨ k = 1 := by omega
    rcases this with rfl | rfl <;> simp [Instr.index, rowN, go_sem]
  clear hC
  go_enter Tryd.func116, Tryd.ntmps116
  refine wp_seq_hid ?_
  intro K0 HK0
  go_wp2_with fail
  refine HK0.out _ _ ?_
  clear HK0 K0
  refine wp_seq_hid ?_
  intro K1 HK1
  have v0 : ∀ y : Aft w.heap.size w, y.v.cell? ⟨cb, 0, none⟩ = some (.slice al r.left.length cl) := fun y => by rw [cell_of_heap ((y.h.block _ (heap_lt HC.out)).trans HC.out)]; rfl
  have v1 : ∀ y : Aft w.heap.size w, y.v.cell? ⟨cb, 1, none⟩ = some (.slice ar r.right.length cr) := fun y => by rw [cell_of_heap ((y.h.block _ (heap_lt HC.out)).trans HC.out)]; rfl
  refine wp_region_aft mixed (by kernel_rfl) ?_
  repeat (go_big_quiet_step (fail))
  refine wpQuiet_nil ?_
  rintro _ ⟨y, rfl⟩
  refine HK1.out _ _ ?_
  go_wp2_with fail
  go_ret
  exact ⟨rfl, y.h⟩
theorem sets107 {cb k : Nat} (w : World) : Calls Tryd.prog 107 #[.pointer (some ⟨cb, 0, none⟩), .int .i64 k] w fun e w' => e = .returned (.func (.func 115) #[] #[.pointer (some ⟨w.heap.size, 0, none⟩), .pointer (some ⟨w.heap.size + 1, 0, none⟩)]) ∧ w' = (w.alloc (.cells #[.pointer (some ⟨cb, 0, none⟩)] 109)).alloc (.cells #[.int .i64 k] 3) := by
  have hmf : ∀ (fn : Fn) (first cap : Array Value) (w : World), (Instr.makeFunc fn first cap).run Tryd.prog w = .ok (.func fn first cap) w := fun _ _ _ _ => rfl
  go_enter Tryd.func107, Tryd.ntmps107
  go_wp2
  go_ret
  exact ⟨rfl, rfl⟩
/-- The sets from a number on that have at most so many marks. -/
def remS (n : Nat) (p : Int) (A : Nat) : List Nat := (List.range' A (2 ^ n - A)).filter fun B => decide ((ones B.testBit 10 : Int) ≤ p)
def setsL (n : Nat) (p : Int) : List Nat := remS n p 1
theorem remS_step {n A : Nat} {p : Int} (h : A < 2 ^ n) : remS n p A = if (ones A.testBit 10 : Int) ≤ p then A :: remS n p (A + 1) else remS n p (A + 1) := by
  unfold remS
  have e : 2 ^ n - A = (2 ^ n - (A + 1)) + 1 := by omega
  rw [e, List.range'_succ, List.filter_cons]
  simp only [decide_eq_true_eq]
theorem remS_nil {n A : Nat} {p : Int} (h : 2 ^ n ≤ A) : remS n p A = [] := by
  unfold remS
  have e : 2 ^ n - A = 0 := by omega
  rw [e]
  rfl
theorem remS_mem {n A B : Nat} {p : Int} : B ∈ remS n p A ↔ A ≤ B ∧ B < 2 ^ n ∧ (ones B.testBit 10 : Int) ≤ p := by
  unfold remS
  rw [List.mem_filter, List.mem_range'_1, decide_eq_true_eq]
  omega
def SeOk (x : Nat) (v : Array Value) (A : World) (K : Nat → Prop) : Prop := v = #[.int .u64 x] ∧ K = (fun _ => False) ∧ x < 1024
/-- What stays while sets are handed over. -/
structure SeH (r : Rws) (p : Int) (al : Option Addr) (cl : Nat) (ar : Option Addr) (cr mb cb t1 t2 k l : Nat) (M : Nat → Prop) (W : World) (J Jx : List Nat → World → (Nat → Prop) → Prop) : Prop where
  mem : ∀ A, Same M W A → A.cell? ⟨t1, 0, none⟩ = some (.pointer (some ⟨cb, 0, none⟩)) ∧ A.cell? ⟨t2, 0, none⟩ = some (.int .i64 k) ∧ A.heap[cb]? = some (.cells (r.cnv p al cl ar cr mb) 157 (0, 0))
  hJ : ∀ i A B C, J i A C → Same (fun _ => False) A B → J i B C
  hY : ∀ x i v A C K, SeOk x v A K → (∀ k, K k → ¬ C k) → J (x :: i) A C → YieldAt Fence.wide 0 Tryd.prog l v A fun e B => Same (mayC M W.heap.size C) A B ∧
      ∃ C' : Nat → Prop, (∀ k, k < W.heap.size → C' k) ∧ (∀ k, C' k → k < B.heap.size) ∧ (∀ k, C' k → C k ∨ K k ∨ A.heap.size ≤ k) ∧ ((e = .returned (.bool true) ∧ J i B C') ∨ (e = .returned (.bool false) ∧ Jx i B C'))
/-- Where the iterator stands. -/
def SeI (M : Nat → Prop) (W : World) (J : List Nat → World → (Nat → Prop) → Prop) (L : List Nat) (A : World) : Prop := Same M W A ∧ ∃ C, J L A C
theorem SeH.later {r : Rws} {p : Int} {al ar : Option Addr} {cl cr mb cb t1 t2 k l : Nat} {M : Nat → Prop} {W : World} {J Jx : List Nat → World → (Nat → Prop) → Prop} (H : SeH r p al cl ar cr mb cb t1 t2 k l M W J Jx) {L : List Nat} {A B : World} (h : SeI M W J L A) (hb : Below A.heap.size A B) : SeI M W J L B := by
  obtain ⟨hs, C, hj⟩ := h
  exact ⟨hs.trans (Same.of_below _ hb), C, H.hJ _ _ _ _ hj (Same.of_below _ hb)⟩
theorem SeH.give {r : Rws} {p : Int} {al ar : Option Addr} {cl cr mb cb t1 t2 k l : Nat} {M : Nat → Prop} {W : World} {J Jx : List Nat → World → (Nat → Prop) → Prop} (H : SeH r p al cl ar cr mb cb t1 t2 k l M W J Jx)
    {x : Nat} (hx : x < 1024) {L : List Nat} {A : World} (h : SeI M W J (x :: L) A) : YieldAt Fence.wide 0 Tryd.prog l #[.int .u64 x] A fun e B => ∃ q, e = .returned (.bool q) ∧ (q = true → SeI M W J L B) ∧ (q = false → ∃ C i, Jx i B C) := by
  obtain ⟨hs, C, hj⟩ := h
  obtain ⟨fn, tmps, assign, body, hy, hR⟩ := H.hY x L _ A C (fun _ => False) ⟨rfl, rfl, hx⟩ (fun _ hk => hk.elim) hj
  refine ⟨fn, tmps, assign, body, hy, hR.mono ?_⟩
  rintro e B ⟨hs2, C', h1, h2, h3, h4⟩
  rcases h4 with ⟨rfl, hj'⟩ | ⟨rfl, hj'⟩
  · refine ⟨true, rfl, fun _ => ⟨same_later hs hs2 (fun i hm => ?_), C', hj'⟩, fun h => by cases h⟩
    by_cases hi' : i < W.heap.size
    · exact .inl (hm.2 hi')
    · exact .inr (by omega)
  · exact ⟨false, rfl, (fun h => by cases h), fun _ => ⟨C', L, hj'⟩⟩
theorem two_wrap_u {n : Nat} (h : n ≤ 10) : IntKind.u64.wrap (2 ^ n) = ((2 ^ n : Nat) : Int) := by
  have : n = 0 ∨ n = 1 ∨ n = 2 ∨ n = 3 ∨ n = 4 ∨ n = 5 ∨ n = 6 ∨ n = 7 ∨ n = 8 ∨ n = 9 ∨ n = 10 := by omega
  rcases this with rfl | rfl | rfl | rfl | rfl | rfl | rfl | rfl | rfl | rfl | rfl <;> decide +kernel
theorem two_le {n : Nat} (h : n ≤ 10) : 2 ^ n ≤ 1024 := Nat.pow_le_pow_right (n := 2) (by omega) h
set_option maxRecDepth 100000 in
set_option maxHeartbeats 4000000 in
theorem sets_iter {r : Rws} {p : Int} {al ar : Option Addr} {cl cr mb cb t1 t2 k : Nat} {M : Nat → Prop} {W : World} (hl1 : r.left.length ≤ 10) (hl2 : r.right.length ≤ 10) (hk : k < 2)
    (hmem : ∀ A, Same M W A → A.cell? ⟨t1, 0, none⟩ = some (.pointer (some ⟨cb, 0, none⟩)) ∧ A.cell? ⟨t2, 0, none⟩ = some (.int .i64 k) ∧ A.heap[cb]? = some (.cells (r.cnv p al cl ar cr mb) 157 (0, 0))) :
    IterL Tryd.prog 115 #[.pointer (some ⟨t1, 0, none⟩), .pointer (some ⟨t2, 0, none⟩)] (setsL (rowN r k) p) SeOk M W := by
  intro l J Jx hJ hJx hY h0
  have HH : Hid (SeH r p al cl ar cr mb cb t1 t2 k l M W J Jx) := ⟨hmem, hJ, hY⟩
  have H0 : Hid (SeI M W J (setsL (rowN r k) p) W) := ⟨Same.refl _ _, _, h0⟩
  have hn : rowN r k ≤ 10 := by unfold rowN; split <;> omega
  have HN := Lib.hid (two_wrap_u hn)
  have HT2 := Lib.hid (two_le hn)
  have HK2 := Lib.hid hk
  clear hmem hJ hJx hY h0 hl1 hl2 hk
  have HD : Hid (∀ (tm : Array Value) (w' : World), SeI M W J [] w' → bodyPost Tryd.prog Tryd.f115 (fun e W' => (∃ v, e = Ending.returned v) ∧ ∃ C', J [] W' C' ∨ ∃ i, Jx i W' C') .normal { tmps := tm, defers := [] } w') := fun tm w' h => by
    obtain ⟨_, C', h2⟩ := h
    exact bodyPost_end (results_none rfl _ _ _) rfl ⟨⟨_, rfl⟩, C', .inl h2⟩
  have HT : Hid (∀ (tm : Array Value) (w' : World), (∃ (C' : Nat → Prop) (i : List Nat), Jx i w' C') → bodyPost Tryd.prog Tryd.f115 (fun e W' => (∃ v, e = Ending.returned v) ∧ ∃ C', J [] W' C' ∨ ∃ i, Jx i W' C') .ret { tmps := tm, defers := [] } w') := fun tm w' h => by
    obtain ⟨C', i, h⟩ := h
    exact bodyPost_ret (results_none rfl _ _ _) rfl ⟨⟨_, rfl⟩, C', .inr ⟨i, h⟩⟩
  refine callsIn_wide.2 ?_
  go_enter Tryd.func115, Tryd.ntmps115
  go_wp2_with fail
  go_loopw [4] (fun q wr => ∃ a : Nat, a ≤ 1024 ∧ 1 ≤ a ∧ q = .int .u64 (a : Int) ∧ Hid (SeI M W J (remS (rowN r k) p a) wr)) (fun q _ => 1025 - (intOf q).toNat)
  case atStart => exact ⟨1, by omega, by omega, rfl, H0⟩
  case round =>
    obtain ⟨a, ha, ha1, rfl, HW⟩ := hrel
    clear H0
    obtain ⟨m1, m2, m3⟩ := HH.out.mem wr HW.out.1
    have HM3 := Lib.hid m3
    clear m3
    go_wp2_with fail
    refine (marks116 HK2.out HM3.out).mono ?_
    rintro e w2 ⟨rfl, hb2⟩
    have HW2 := Lib.hid (HH.out.later HW.out hb2)
    clear hb2 HW m1 m2 HM3
    by_cases hlt : a < 2 ^ rowN r k
    · have hz := HN.out
      have HS := Lib.hid (remS_step (p := p) hlt)
      have hlt2 := hlt
      revert hz hlt
      obtain ⟨z, hzz⟩ : ∃ z, 2 ^ rowN r k = z := ⟨_, rfl⟩
      rw [hzz]
      intro hz hlt
      have hlt' : (a : Int) < z := by omega
      go_wp2_with fail
      have ha2 : a < 1024 := by have := HT2.out; omega
      have HM : Hid (∀ v, Calls Tryd.prog 113 #[.int .u64 a] v fun e w' => e = .returned (.int .i64 (ones a.testBit 10)) ∧ v = w') := fun v => (many113 ha2 v).mono (by rintro e w' ⟨rfl, rfl⟩; exact ⟨rfl, rfl⟩)
      obtain ⟨m1, m2, m3⟩ := HH.out.mem w2 HW2.out.1
      have x1 : ∀ y : Aft w2.heap.size w2, y.v.cell? ⟨t1, 0, none⟩ = some (.pointer (some ⟨cb, 0, none⟩)) := fun y => cell_stays y.h m1
      have x5 : ∀ y : Aft w2.heap.size w2, y.v.cell? ⟨cb, 5, none⟩ = some (.int .i64 p) := fun y => by rw [cell_of_heap ((y.h.block _ (heap_lt m3)).trans m3)]; rfl
      clear m1 m2 m3 hz hlt hlt' hlt2 hzz
      have eu : IntKind.u64.wrap ((a : Int) + 1) = ((a + 1 : Nat) : Int) := by rw [IntKind.wrap_u64]; omega
      revert HM HS
      generalize ones a.testBit 10 = n1
      intro HS HM
      by_cases hp : (n1 : Int) ≤ p
      · have HW3 : Hid (SeI M W J (a :: remS (rowN r k) p (a + 1)) w2) := by
          have h := HW2.out
          rw [HS.out, if_pos hp] at h
          exact h
        clear HW2 HS
        refine wpIn_wide.1 (wpIn_region_aft_tail (r := none) (m := 0) 11 mixed (by kernel_rfl) ?_)
        simp only [List.take_succ_cons, List.take_zero, List.drop_succ_cons, List.drop_zero]
        repeat (go_big_quiet_step ((go_at_call 113; exact calls_aft_same (HM.out _))))
        refine wpQuiet_nil ?_
        rintro _ ⟨y, rfl⟩
        obtain ⟨fn, tmps, assign, body, hyl, hRd⟩ := HH.out.give ha2 (HH.out.later HW3.out y.h)
        have HRd := Lib.hid hRd
        clear hRd x1 x5
        gi_wp2_with fail
        refine ⟨rfl, HRd.out.mono ?_⟩
        rintro e w7 ⟨q, rfl, hres⟩
        have HRS := Lib.hid hres
        clear hres hyl HRd
        cases q with
        | true =>
          have HY3 := Lib.hid (HRS.out.1 rfl)
          gi_wp2_with fail
          go_wp2_with fail
          go_roundw
          case rel => exact ⟨a + 1, by omega, by omega, rfl, HY3.out⟩
          case measure => simp [intOf]; omega
        | false =>
          gi_wp2_with fail
          go_wp2_with fail
          exact HT.out _ _ (HRS.out.2 trivial)
      · have HW3 : Hid (SeI M W J (remS (rowN r k) p (a + 1)) w2) := by
          have h := HW2.out
          rw [HS.out, if_neg hp] at h
          exact h
        clear HW2 HS
        refine wp_region_aft mixed (by kernel_rfl) ?_
        repeat (go_big_quiet_step ((go_at_call 113; exact calls_aft_same (HM.out _))))
        refine wpQuiet_nil ?_
        rintro _ ⟨y, rfl⟩
        have HY3 := Lib.hid (HH.out.later HW3.out y.h)
        clear x1 x5
        go_wp2_with fail
        go_roundw
        case rel => exact ⟨a + 1, by omega, by omega, rfl, HY3.out⟩
        case measure => simp [intOf]; omega
    · have HW3 : Hid (SeI M W J [] w2) := by
        have h := HW2.out
        rw [remS_nil (by omega)] at h
        exact h
      have hz := HN.out
      revert hz hlt
      obtain ⟨z, hzz⟩ : ∃ z, 2 ^ rowN r k = z := ⟨_, rfl⟩
      rw [hzz]
      intro hz hlt
      have hlt' : ¬ (a : Int) < z := by omega
      go_wp2_with fail
      exact HD.out _ _ HW3.out
end Go.Proofs.YtbnhngfegnhaiaaDoor
namespace Go.Proofs.YtbnhngfegnhaiaaDoor
open Go.RowKit
set_option linter.unusedVariables false
set_option linter.unusedSimpArgs false
/-- A case with a set of marks in one row. -/
def rowC (k A : Nat) : Nat × Nat := if k = 0 then (A, 0) else (0, A)
/-- The cases with marks in one row, from a list of sets. -/
def rowL (r : Rws) (p : Int) (k : Nat) (L : List Nat) : List (Nat × Nat) := (L.map (rowC k)).filter (r.caseE p)
def fromRow (r : Rws) (p : Int) (k : Nat) : List (Nat × Nat) := if k = 0 then rowL r p 0 (setsL r.left.length p) ++ rowL r p 1 (setsL r.right.length p) else if k = 1 then rowL r p 1 (setsL r.right.length p) else []
def behind (r : Rws) (p : Int) (k : Nat) : List (Nat × Nat) := if k = 0 then rowL r p 1 (setsL r.right.length p) else []
/-- All cases. -/
def casesL (r : Rws) (p : Int) : List (Nat × Nat) := (if r.caseE p (0, 0) then [(0, 0)] else []) ++ fromRow r p 0
theorem fromRow_step (r : Rws) (p : Int) {k : Nat} (hk : k < 2) : fromRow r p k = rowL r p k (setsL (rowN r k) p) ++ behind r p k ∧ behind r p k = fromRow r p (k + 1) := by
  have : k = 0 ∨ k = 1 := by omega
  rcases this with rfl | rfl
  · exact ⟨rfl, rfl⟩
  · exact ⟨by simp [fromRow, behind, rowN], rfl⟩
theorem rowL_cons (r : Rws) (p : Int) (k A : Nat) (L : List Nat) : rowL r p k (A :: L) = if r.caseE p (rowC k A) then rowC k A :: rowL r p k L else rowL r p k L := by
  unfold rowL
  rw [List.map_cons, List.filter_cons]
def CaOk (x : Nat × Nat) (v : Array Value) (A : World) (K : Nat → Prop) : Prop := v = #[setV x] ∧ K = (fun _ => False) ∧ SetOk x
/-- What stays while cases are handed over. -/
structure CaH (r : Rws) (p : Int) (al : Option Addr) (cl : Nat) (ar : Option Addr) (cr mb cb t1 l : Nat) (M : Nat → Prop) (W : World) (J Jx : List (Nat × Nat) → World → (Nat → Prop) → Prop) : Prop where
  mem : ∀ A, Same (fun k => M k ∨ k = mb) W A → A.cell? ⟨t1, 0, none⟩ = some (.pointer (some ⟨cb, 0, none⟩)) ∧ CanC r p al cl ar cr mb cb A
  hM : ¬ M mb ∧ ¬ M cb ∧ mb < W.heap.size ∧ cb < W.heap.size ∧ cb ≠ mb
  hJ : ∀ i A B C, J i A C → Same (fun k => ¬ C k) A B → J i B C
  hJx : ∀ i A B C, Jx i A C → Same (fun k => ¬ C k) A B → Jx i B C
  hY : ∀ x i v A C K, CaOk x v A K → (∀ k, K k → ¬ C k) → J (x :: i) A C → YieldAt Fence.wide 0 Tryd.prog l v A fun e B => Same (mayC M W.heap.size C) A B ∧
      ∃ C' : Nat → Prop, (∀ k, k < W.heap.size → ¬ (k = mb) → C' k) ∧ (∀ k, C' k → k < B.heap.size) ∧ (∀ k, C' k → C k ∨ K k ∨ A.heap.size ≤ k) ∧ ((e = .returned (.bool true) ∧ J i B C') ∨ (e = .returned (.bool false) ∧ Jx i B C'))
/-- Where the iterator stands: O: its own blocks. -/
structure CaI (r : Rws) (mb : Nat) (M : Nat → Prop) (W : World) (J : List (Nat × Nat) → World → (Nat → Prop) → Prop) (L : List (Nat × Nat)) (O : Nat → Prop) (A : World) (C : Nat → Prop) : Prop where
  same : Same (fun k => M k ∨ k = mb) W A
  kn : KnownW r A mb
  oC : ∀ k, O k → ¬ C k
  oB : ∀ k, O k → k < A.heap.size
  oW : ∀ k, O k → k < W.heap.size → k = mb
  om : O mb
  cB : ∀ k, C k → k < A.heap.size
  j : J L A C
section
variable {r : Rws} {p : Int} {al ar : Option Addr} {cl cr mb cb t1 l : Nat} {M : Nat → Prop} {W : World} {J Jx : List (Nat × Nat) → World → (Nat → Prop) → Prop} {L : List (Nat × Nat)} {O O' C : Nat → Prop} {A B : World}
/-- The iterator writes its own blocks, and lays new ones. -/
theorem CaI.put (H : CaH r p al cl ar cr mb cb t1 l M W J Jx) (h : CaI r mb M W J L O A C) (hs : Same O A B) (hk : KnownW r B mb) (ho : ∀ k, O' k → O k ∨ (A.heap.size ≤ k ∧ k < B.heap.size)) (hm : O' mb) : CaI r mb M W J L O' B C where
  same := same_later h.same hs (fun i hi => by
    by_cases hw : i < W.heap.size
    · exact .inl (.inr (h.oW i hi hw))
    · exact .inr (by omega))
  kn := hk
  oC := fun k hk hc => (ho k hk).elim (fun h1 => h.oC k h1 hc) (fun h1 => by have := h.cB k hc; omega)
  oB := fun k hk => (ho k hk).elim (fun h1 => Nat.lt_of_lt_of_le (h.oB k h1) hs.size) (fun h1 => h1.2)
  oW := fun k hk hw => (ho k hk).elim (fun h1 => h.oW k h1 hw) (fun h1 => by have := h.same.size; omega)
  om := hm
  cB := fun k hc => Nat.lt_of_lt_of_le (h.cB k hc) hs.size
  j := H.hJ _ _ _ _ h.j (hs.mono (fun k _ hk => h.oC k hk))
theorem CaI.grow (H : CaH r p al cl ar cr mb cb t1 l M W J Jx) (h : CaI r mb M W J L O A C) (hb : Below A.heap.size A B) (ho : ∀ k, O' k → O k ∨ (A.heap.size ≤ k ∧ k < B.heap.size)) (hm : O' mb) : CaI r mb M W J L O' B C :=
  h.put H (Same.of_below _ hb) (h.kn.kept (hb.block _ h.kn.lt)) ho hm
theorem CaH.give (H : CaH r p al cl ar cr mb cb t1 l M W J Jx) {x : Nat × Nat} (hx : SetOk x) (h : CaI r mb M W J (x :: L) O A C) : YieldAt Fence.wide 0 Tryd.prog l #[setV x] A fun e B => ∃ q, e = .returned (.bool q) ∧ Same (mayC M W.heap.size C) A B ∧
    ∃ C' : Nat → Prop, (∀ k, C' k → C k ∨ A.heap.size ≤ k) ∧ (q = true → CaI r mb M W J L O B C') ∧ (q = false → Jx L B C' ∧ ∀ k, O k → ¬ C' k) := by
  obtain ⟨fn, tmps, assign, body, hy, hR⟩ := H.hY x L _ A C (fun _ => False) ⟨rfl, rfl, hx⟩ (fun _ hk => hk.elim) h.j
  refine ⟨fn, tmps, assign, body, hy, hR.mono ?_⟩
  rintro e B ⟨hs2, C', h1, h2, h3, h4⟩
  have h3' : ∀ k, C' k → C k ∨ A.heap.size ≤ k := fun k hk => (h3 k hk).elim .inl (fun h => h.elim False.elim .inr)
  have hO : ∀ k, O k → ¬ C' k := fun k hk hc => (h3' k hc).elim (h.oC k hk) (fun h5 => by have := h.oB k hk; omega)
  rcases h4 with ⟨rfl, hj'⟩ | ⟨rfl, hj'⟩
  · refine ⟨true, rfl, hs2, C', h3', fun _ => ⟨same_later h.same hs2 (fun i hm => ?_), h.kn.kept (hs2.block _ h.kn.lt (fun hm => h.oC _ h.om hm.1)), hO, fun k hk => Nat.lt_of_lt_of_le (h.oB k hk) hs2.size, h.oW, h.om, h2, hj'⟩, fun h => by cases h⟩
    by_cases hi' : i < W.heap.size
    · exact .inl (.inl (hm.2 hi'))
    · exact .inr (by omega)
  · exact ⟨false, rfl, hs2, C', h3', (fun h => by cases h), fun _ => ⟨hj', hO⟩⟩
end
/-- A function's way out, where ranges over functions have left marks: only these are written. -/
theorem leaves_marksK {P : Program} {fn : Func} {tmps : Array Value} {R : Ending → World → Prop} {v : Value} : ∀ (ks : List Nat) (w : World), ks.Nodup → (∀ k ∈ ks, w.heap[k]? = some (.deferred (some []))) →
    (∀ W', Same (fun k => k ∈ ks) w W' → W'.heap.size = w.heap.size → (results fn tmps).run P W' = .ok v W' ∧ R (.returned v) W') →
    LeavesInM Fence.wide 0 P fn tmps R (ks.map (fun k => { target := .collected k, args := #[] })) .returning w
  | [], w, _, _, h => by
    have := h w (Same.refl _ _) rfl
    exact ⟨v, this.1, this.2⟩
  | k :: ks, w, hnd, hall, h => by
    have hk := hall k (by simp)
    refine ⟨by simp, .inl ⟨k, _, rfl, run_takeDeferred hk, ?_⟩⟩
    have hnd' := List.nodup_cons.1 hnd
    refine leaves_marksK ks _ hnd'.2 (fun j hj => (World.putObj_heap_other (fun e : j = k => hnd'.1 (by rw [← e]; exact hj))).trans (hall j (by simp [hj]))) (fun W' hs hsz => h W' ?_ (by simpa using hsz))
    have h1 : Same (fun j => j ∈ k :: ks) w (w.putObj k (.deferred none)) := (Same.refl _ w).putObj (.inl (by simp)) _
    exact h1.trans (hs.mono (fun j _ hj => List.mem_cons_of_mem _ hj))
end Go.Proofs.YtbnhngfegnhaiaaDoor
namespace Go.Proofs.YtbnhngfegnhaiaaDoor
open Go.RowKit
set_option linter.unusedVariables false
set_option linter.unusedSimpArgs false
theorem rowC_ok {k A : Nat} (h : A < 1024) : SetOk (rowC k A) := by
  unfold rowC SetOk
  split
  · exact ⟨h, show (0 : Nat) < 1024 by decide⟩
  · exact ⟨show (0 : Nat) < 1024 by decide, h⟩
theorem wpIn_seq_hid {F : Fence} {n : Nat} {P : Program} {x y : Code} {Q : Exit → Act → World → Prop} {a : Act} {w : World} (h : ∀ K, Hid (∀ a' w', y.wpIn F n P Q a' w' → K a' w') → x.wpIn F n P (Exit.then K Q) a w) : (Code.seq x y).wpIn F n P Q a w :=
  wpIn_seq (h _ (fun _ _ h => h))
attribute [local go_sem] Oper.semAt_some
noncomputable def cas6C : Code := (Tryd.f105.body.bind (fromRegion 6)).getD .skip
set_option maxRecDepth 100000 in
set_option maxHeartbeats 16000000 in
theorem cas6 {r : Rws} {p : Int} {al ar : Option Addr} {cl cr mb cb t1 l b2 b3 b4 k : Nat} {M O C : Nat → Prop} {W V : World} {J Jx : List (Nat × Nat) → World → (Nat → Prop) → Prop} {Q : Exit → Act → World → Prop} (hv : r.valid = true) (hk : k < 2)
    (H : CaH r p al cl ar cr mb cb t1 l M W J Jx) (h : CaI r mb M W J (fromRow r p k) O V C) (h2 : V.heap[b2]? = some (.cells #[.func (.yield l) #[] #[]] 187 (0, 0))) (h3 : V.heap[b3]? = some (.cells #[.func (.func 106) #[.pointer (some ⟨cb, 0, none⟩)] #[]] 187 (0, 0))) (h4 : V.heap[b4]? = some (.cells #[.int .i64 k] 3 (0, 0)))
    (ho : O b2 ∧ O b3 ∧ O b4) {s0 s5 s6 s7 s8 s9 s10 s11 s12 s13 s14 s15 s16 s17 s18 s19 s20 s21 s22 s23 s24 s25 s26 s27 s28 s29 s30 s31 s32 s33 s34 s35 s36 : Value} {dd : List Deferred}
    (hQ : ∀ (D : Nat) (V' : World) (C' O' : Nat → Prop), V.heap.size ≤ D → V'.heap[D]? = some (.deferred (some [])) → O' D → (∀ j, O j → O' j) → (∀ j, O j → j ≠ mb → V'.heap[j]? = V.heap[j]?) → CaI r mb M W J (fromRow r p (k + 1)) O' V' C' → Q .normal { tmps := List.toArray (s0 :: .pointer (some ⟨t1, 0, none⟩) :: .pointer (some ⟨b2, 0, none⟩) :: .pointer (some ⟨b3, 0, none⟩) :: .pointer (some ⟨b4, 0, none⟩) :: s5 :: s6 :: s7 :: s8 :: s9 :: s10 :: s11 :: s12 :: s13 :: s14 :: s15 :: s16 :: s17 :: s18 :: s19 :: s20 :: .pointer (some ⟨cb, 0, none⟩) :: .int .i64 ((k : Int)) :: .func (.func 115) #[] #[.pointer (some ⟨V.heap.size, 0, none⟩), .pointer (some ⟨V.heap.size + 1, 0, none⟩)] :: s24 :: s25 :: s26 :: s27 :: s28 :: s29 :: s30 :: s31 :: s32 :: s33 :: s34 :: s35 :: s36 :: []), defers := { target := .collected D, args := #[] } :: dd } V')
    (hX : ∀ (D : Nat) (V' : World) (C' : Nat → Prop) (i : List (Nat × Nat)), V.heap.size ≤ D → V'.heap[D]? = some (.deferred (some [])) → (∀ j, O j → ¬ C' j) → ¬ C' D → (∀ j, O j → j ≠ mb → V'.heap[j]? = V.heap[j]?) → Jx i V' C' → Q .ret { tmps := List.toArray (s0 :: .pointer (some ⟨t1, 0, none⟩) :: .pointer (some ⟨b2, 0, none⟩) :: .pointer (some ⟨b3, 0, none⟩) :: .pointer (some ⟨b4, 0, none⟩) :: s5 :: s6 :: s7 :: s8 :: s9 :: s10 :: s11 :: s12 :: s13 :: s14 :: s15 :: s16 :: s17 :: s18 :: s19 :: s20 :: .pointer (some ⟨cb, 0, none⟩) :: .int .i64 ((k : Int)) :: .func (.func 115) #[] #[.pointer (some ⟨V.heap.size, 0, none⟩), .pointer (some ⟨V.heap.size + 1, 0, none⟩)] :: s24 :: s25 :: s26 :: s27 :: s28 :: s29 :: s30 :: s31 :: s32 :: s33 :: s34 :: s35 :: s36 :: []), defers := { target := .collected D, args := #[] } :: dd } V') :
    Code.wp Tryd.prog cas6C Q { tmps := List.toArray (s0 :: .pointer (some ⟨t1, 0, none⟩) :: .pointer (some ⟨b2, 0, none⟩) :: .pointer (some ⟨b3, 0, none⟩) :: .pointer (some ⟨b4, 0, none⟩) :: s5 :: s6 :: s7 :: s8 :: s9 :: s10 :: s11 :: s12 :: s13 :: s14 :: s15 :: s16 :: s17 :: s18 :: s19 :: s20 :: s21 :: s22 :: s23 :: s24 :: s25 :: s26 :: s27 :: s28 :: s29 :: s30 :: s31 :: s32 :: s33 :: s34 :: s35 :: s36 :: []), defers := dd } V := by
  have HQ := Lib.hid (And.intro hQ hX)
  have HH := Lib.hid H
  have HI := Lib.hid h
  have HB := Lib.hid (And.intro h2 (And.intro h3 (And.intro h4 ho)))
  have l1 := (rnums_of hv).l1
  have l2 := (rnums_of hv).l2
  have HL := Lib.hid (And.intro l1 (And.intro l2 (And.intro hk hv)))
  have m1 := (H.mem V h.same).1
  have c4 := cell_at0 h4
  clear hQ hX H h h2 h3 h4 ho l1 l2 hv
  conv => arg 2; whnf
  refine wp_seq_hid ?_
  intro K6 HK6
  go_wp2_with fail
  refine (sets107 (k := k) V).mono ?_
  rintro e w5 ⟨rfl, hw5⟩
  have hz5 : w5.heap.size = V.heap.size + 2 := by rw [hw5]; simp
  have hnm : b2 ≠ mb ∧ b3 ≠ mb ∧ b4 ≠ mb := by
    obtain ⟨es, cc, hes⟩ := HI.out.kn.map
    refine ⟨?_, ?_, ?_⟩ <;> (rintro rfl; first | (rw [HB.out.1] at hes; cases hes) | (rw [HB.out.2.1] at hes; cases hes) | (rw [HB.out.2.2.1] at hes; cases hes))
  have HW5 : Hid (Below V.heap.size V w5 ∧ w5.heap[V.heap.size]? = some (.cells #[.pointer (some ⟨cb, 0, none⟩)] 109 (0, 0)) ∧ w5.heap[V.heap.size + 1]? = some (.cells #[.int .i64 k] 3 (0, 0))) := by
    rw [hw5]
    obtain ⟨g1, g2, g3⟩ := alloc2 V #[.pointer (some ⟨cb, 0, none⟩)] #[.int .i64 (k : Int)] 109 3
    exact ⟨g3, g1, g2⟩
  clear hw5 m1 c4
  go_wp2_with fail
  refine HK6.out _ _ ?_
  clear HK6 K6
  refine wp_block ?_
  have HI5 : Hid (CaI r mb M W J (fromRow r p k) (fun j => O j ∨ j = V.heap.size ∨ j = V.heap.size + 1) w5 C) := HI.out.grow HH.out HW5.out.1 (fun j hj => hj.imp id (fun e => by omega)) (.inl HI.out.om)
  have hmb : mb < V.heap.size := HI.out.kn.lt
  have hcb : cb < V.heap.size := Nat.lt_of_lt_of_le HH.out.hM.2.2.2.1 HI.out.same.size
  have hWV := HI.out.same.size
  refine wp_rangeFuncM (gf := 115) (lb := #[.pointer (some ⟨V.heap.size, 0, none⟩), .pointer (some ⟨V.heap.size + 1, 0, none⟩)]) rfl (fun args w => by simp [callFunc, Tryd.func115, Tryd.f115, go_sem]) (setsL (rowN r k) p) SeOk
    (fun j => j ≠ V.heap.size ∧ j ≠ V.heap.size + 1 ∧ j ≠ cb ∧ j ≠ w5.heap.size) ?hps ?hMD ?hMl ?hit
    (fun L V1 Ci => ∃ C1, CaI r mb M W J (rowL r p k L ++ behind r p k) (fun j => (O j ∨ j = V.heap.size ∨ j = V.heap.size + 1) ∨ j = w5.heap.size ∨ j = w5.heap.size + 1) V1 C1 ∧ (∀ j, C1 j → Ci j) ∧ (∀ j, (O j ∨ j = V.heap.size ∨ j = V.heap.size + 1) → j ≠ mb → V1.heap[j]? = w5.heap[j]?))
    (fun c L V1 Ci => c = .ret ∧ w5.heap.size + 2 ≤ V1.heap.size ∧ ∃ C1 i, Jx i V1 C1 ∧ (∀ j, ((O j ∨ j = V.heap.size ∨ j = V.heap.size + 1) ∨ j = w5.heap.size ∨ j = w5.heap.size + 1) → ¬ C1 j) ∧ (∀ j, (O j ∨ j = V.heap.size ∨ j = V.heap.size + 1) → j ≠ mb → V1.heap[j]? = w5.heap[j]?)) ?hI ?hIx ?h0 ?hround ?hdone ?hstop
  case hps =>
    rintro x v A K ⟨rfl, _, _⟩
    rfl
  case hMD => exact fun e => e.2.2.2 rfl
  case hMl => exact ⟨by omega, by omega, by omega, by omega⟩
  case hit =>
    intro W1 hb1 hs1
    refine sets_iter (al := al) (cl := cl) (ar := ar) (cr := cr) (mb := mb) (cb := cb) HL.out.1 HL.out.2.1 HL.out.2.2.1 (fun A hA => ?_)
    have g1 := (hb1.block _ (heap_lt HW5.out.2.1)).trans HW5.out.2.1
    have g2 := (hb1.block _ (heap_lt HW5.out.2.2)).trans HW5.out.2.2
    have g3 := (HH.out.mem w5 HI5.out.same).2.h
    have g4 := (hb1.block _ (heap_lt g3)).trans g3
    exact ⟨cell_at0 ((hA.block _ (heap_lt g1) (fun e => e.1 rfl)).trans g1), cell_at0 ((hA.block _ (heap_lt g2) (fun e => e.2.1 rfl)).trans g2), (hA.block _ (heap_lt g4) (fun e => e.2.2.1 rfl)).trans g4⟩
  case hI =>
    rintro i A B Ci ⟨C1, hc, hci, hf⟩ hs
    refine ⟨C1, hc.put HH.out (hs.mono (fun j _ e => .inr (.inr e))) (hc.kn.kept (hs.block _ hc.kn.lt (by omega))) (fun j hj => .inl hj) hc.om, hci, fun j hj hm => ?_⟩
    exact (hs.block j (hc.oB j (.inl hj)) (by have := HI5.out.oB j hj; omega)).trans (hf j hj hm)
  case hIx =>
    rintro c i A B Ci ⟨rfl, hz, C1, i1, hjx, hno, hf⟩ hs
    refine ⟨rfl, Nat.le_trans hz hs.size, C1, i1, HH.out.hJx _ _ _ _ hjx (hs.mono (fun j _ e => hno j (.inr (.inr e)))), hno, fun j hj hm => ?_⟩
    exact (hs.block j (by have := HI5.out.oB j hj; omega) (by have := HI5.out.oB j hj; omega)).trans (hf j hj hm)
  case h0 =>
    intro W1 hb1 hs1
    have h6 := HI5.out
    rw [(fromRow_step r p hk).1] at h6
    refine ⟨C, h6.grow HH.out hb1 (fun j hj => hj.imp id (fun e => by omega)) (.inl h6.om), fun j hj => by have := h6.cB j hj; omega, fun j hj _ => hb1.block j (h6.oB j hj)⟩
  case hdone =>
    rintro V1 Ci ⟨C1, hc, hci, hf⟩ hdef
    have hc' : CaI r mb M W J (fromRow r p (k + 1)) (fun j => (O j ∨ j = V.heap.size ∨ j = V.heap.size + 1) ∨ j = w5.heap.size ∨ j = w5.heap.size + 1) V1 C1 := by
      have h6 := hc
      rw [(fromRow_step r p hk).2] at h6
      exact h6
    exact HQ.out.1 w5.heap.size V1 C1 _ (by omega) hdef (.inr (.inl rfl)) (fun j hj => .inl (.inl hj)) (fun j hj hm => (hf j (.inl hj) hm).trans (HW5.out.1.block j (HI.out.oB j hj))) hc'
  case hstop =>
    rintro c L V1 Ci ⟨rfl, hz, C1, i1, hjx, hno, hf⟩ hdef
    refine wp_ret ?_
    exact HQ.out.2 w5.heap.size V1 C1 i1 (by omega) hdef (fun j hj => hno j (.inl (.inl hj))) (hno _ (.inr (.inl rfl))) (fun j hj hm => (hf j (.inl hj) hm).trans (HW5.out.1.block j (HI.out.oB j hj))) hjx
  case hround =>
    rintro x L v V1 Ci K ⟨rfl, rfl, hx⟩ hKC hC ⟨C1, hc, hci, hf⟩ hlt
    have HC1 := Lib.hid (And.intro hc (And.intro hci (And.intro hf (And.intro hC hlt))))
    clear hc hci hf hC hKC hlt
    gi_wp2_with fail
    refine ⟨Below.refl _ _, fun V2 hS2 hsz2 => ?_⟩
    have HC2 : Hid (CaI r mb M W J (rowL r p k (x :: L) ++ behind r p k) (fun j => (O j ∨ j = V.heap.size ∨ j = V.heap.size + 1) ∨ j = w5.heap.size ∨ j = w5.heap.size + 1) V2 C1 ∧ (∀ j, (O j ∨ j = V.heap.size ∨ j = V.heap.size + 1) → j ≠ mb → V2.heap[j]? = w5.heap[j]?)) := by
      obtain ⟨hc, hci, hf, hC, hlt⟩ := HC1.out
      refine ⟨hc.put HH.out (hS2.mono (fun j _ e => .inr (.inr e))) (hc.kn.kept (hS2.block _ hc.kn.lt (by omega))) (fun j hj => .inl hj) hc.om, fun j hj hm => ?_⟩
      exact (hS2.block j (hc.oB j (.inl hj)) (by have := HI5.out.oB j hj; omega)).trans (hf j hj hm)
    have o2 := (HC2.out.2 b2 (.inl HB.out.2.2.2.1) hnm.1).trans ((HW5.out.1.block _ (heap_lt HB.out.1)).trans HB.out.1)
    have o3 := (HC2.out.2 b3 (.inl HB.out.2.2.2.2.1) hnm.2.1).trans ((HW5.out.1.block _ (heap_lt HB.out.2.1)).trans HB.out.2.1)
    have o4 := (HC2.out.2 b4 (.inl HB.out.2.2.2.2.2) hnm.2.2).trans ((HW5.out.1.block _ (heap_lt HB.out.2.2.1)).trans HB.out.2.2.1)
    have HX := Lib.hid hx
    have HOB := Lib.hid (And.intro o2 (And.intro o3 o4))
    have HZ5 := Lib.hid (And.intro hz5 hsz2)
    clear o2 o3 hx hz5 hsz2
    refine wpIn_block ?_
    refine wpIn_seq_hid ?_
    intro K8 HK8
    gi_wp2_with fail
    refine HK8.out _ _ ?_
    clear HK8 K8
    have hb6 := World.alloc_heap_new V2 (.cells #[.int .u64 0, .int .u64 0] 106)
    have HA3 := Lib.hid (alloc_below V2 (.cells #[.int .u64 0, .int .u64 0] 106))
    have o4' := cell_at0 ((HA3.out.block _ (heap_lt o4)).trans o4)
    revert hb6 HA3 o4'
    generalize V2.alloc (.cells #[.int .u64 0, .int .u64 0] 106) = V3
    generalize hb6z : V2.heap.size = b6
    intro hb6 HA3 o4'
    have HB6 : Hid (V2.heap.size = b6 ∧ ∀ c', c' = rowC k x → (V3.setCell ⟨b6, k, none⟩ (.int .u64 (x : Int))).heap[b6]? = some (.cells #[.int .u64 c'.1, .int .u64 c'.2] 106 (0, 0))) := by
      refine ⟨hb6z, ?_⟩
      rintro c' rfl
      have : k = 0 ∨ k = 1 := by omega
      rcases this with rfl | rfl
      · exact (heap_setCell_at (k := 0) hb6 _).trans rfl
      · exact (heap_setCell_at (k := 1) hb6 _).trans rfl
    have hu : ∃ u, V3.cell? ⟨b6, k, none⟩ = some u := by
      have : k = 0 ∨ k = 1 := by omega
      rcases this with rfl | rfl <;> exact ⟨_, (cell_of_heap hb6).trans rfl⟩
    obtain ⟨u, hu⟩ := hu
    have hfz : V3.frozen? ⟨b6, k, none⟩ = false := frozen_of_heap hb6
    clear hb6z o4
    have hk1 : (k : Int) < 2 := by omega
    have hk0 : (0 : Int) ≤ k := by omega
    refine wpIn_seq_hid ?_
    intro K9 HK9
    gi_wp2_with fail
    refine HK9.out _ _ ?_
    clear HK9 K9 hu hfz o4'
    obtain ⟨c, hcx⟩ : ∃ c, c = rowC k x := ⟨_, rfl⟩
    have h46 := HB6.out.2 c hcx
    have hb34 : Below V2.heap.size V2 (V3.setCell ⟨b6, k, none⟩ (.int .u64 (x : Int))) := (HA3.out.setCell (p := ⟨b6, k, none⟩) (Nat.le_refl b6) _).mono (Nat.le_of_eq HB6.out.1)
    revert h46 hb34
    generalize V3.setCell ⟨b6, k, none⟩ (.int .u64 (x : Int)) = V4
    intro h46 hb34
    clear HA3 HB6
    have HB4 := Lib.hid hb34
    have hcx' : SetOk c := by rw [hcx]; exact rowC_ok HX.out
    have hrl : rowL r p k (x :: L) = if r.caseE p c then c :: rowL r p k L else rowL r p k L := by rw [hcx]; exact rowL_cons r p k x L
    have HCX := Lib.hid (And.intro hcx' hrl)
    clear hcx hcx' hrl
    have HC4 : Hid (CaI r mb M W J (rowL r p k (x :: L) ++ behind r p k) (fun j => (O j ∨ j = V.heap.size ∨ j = V.heap.size + 1) ∨ j = w5.heap.size ∨ j = w5.heap.size + 1) V4 C1) := HC2.out.1.grow HH.out hb34 (fun j hj => .inl hj) HC2.out.1.om
    clear hb34
    have FIN : Hid (∀ V6, Same (fun j => j = mb ∨ mayC M W.heap.size C1 j) V4 V6 → Same (mayC (fun j => j ≠ V.heap.size ∧ j ≠ V.heap.size + 1 ∧ j ≠ cb ∧ j ≠ w5.heap.size) (w5.heap.size + 2) Ci) V2 V6 ∧ V6.heap[w5.heap.size + 1]? = V2.heap[w5.heap.size + 1]? ∧ (∀ j, (O j ∨ j = V.heap.size ∨ j = V.heap.size + 1) → j ≠ mb → V6.heap[j]? = w5.heap[j]?) ∧ V2.heap.size ≤ V6.heap.size ∧ w5.heap.size + 2 ≤ V6.heap.size) := by
      intro V6 hs
      obtain ⟨hc, hci, hf, hC, hlt⟩ := HC1.out
      obtain ⟨hz5, hsz2⟩ := HZ5.out
      have h24 := HB4.out
      have hMc := HH.out.hM
      refine ⟨same_later (Same.of_below _ h24) hs (fun i hi => ?_), ?_, fun j hj hm => ?_, Nat.le_trans h24.size hs.size, by have := h24.size; have := hs.size; omega⟩
      · by_cases hi2 : i < V2.heap.size
        · refine .inl ?_
          rcases hi with rfl | ⟨h1, h2⟩
          · exact ⟨hC _ (by omega), fun _ => ⟨by omega, by omega, fun e => hMc.2.2.2.2 e.symm, by omega⟩⟩
          · refine ⟨hci i h1, fun _ => ?_⟩
            refine ⟨fun e => hc.oC i (.inl (.inr (.inl e))) h1, fun e => hc.oC i (.inl (.inr (.inr e))) h1, fun e => ?_, fun e => hc.oC i (.inr (.inl e)) h1⟩
            subst e
            exact hMc.2.1 (h2 hMc.2.2.2.1)
        · exact .inr (by omega)
      · exact (hs.block _ (by have := h24.size; omega) (fun e => e.elim (fun e => by omega) (fun e => hc.oC _ (.inr (.inr rfl)) e.1))).trans (h24.block _ (by omega))
      · have hjl := HI5.out.oB j hj
        exact (hs.block _ (by have := h24.size; omega) (fun e => e.elim hm (fun e => hc.oC j (.inl hj) e.1))).trans ((h24.block j (by omega)).trans (HC2.out.2 j hj hm))
    have HCI : Hid (∀ V6 : World, V2.heap.size ≤ V6.heap.size → (∀ j, j < w5.heap.size + 2 → (Ci j ∨ V2.heap.size ≤ j) ∧ j < V6.heap.size) ∧ ∀ C' : Nat → Prop, (∀ j, C' j → C1 j ∨ V4.heap.size ≤ j) → (∀ j, C' j → j < V6.heap.size) → ∀ j, C' j → (Ci j ∨ V2.heap.size ≤ j) ∧ j < V6.heap.size) := by
      intro V6 hz
      obtain ⟨hc, hci, hf, hC, hlt⟩ := HC1.out
      obtain ⟨hz5, hsz2⟩ := HZ5.out
      have h24 := HB4.out.size
      exact ⟨fun j hj => ⟨.inl (hC j hj), by omega⟩, fun C' h1 h2 j hj => ⟨(h1 j hj).imp (hci j) (fun e => by omega), h2 j hj⟩⟩
    have d3 : V4.cell? ⟨b3, 0, none⟩ = some (.func (.func 106) #[.pointer (some ⟨cb, 0, none⟩)] #[]) := cell_at0 ((HB4.out.block _ (heap_lt HOB.out.2.1)).trans HOB.out.2.1)
    have e0 : V4.cell? ⟨b6, 0, none⟩ = some (.int .u64 c.1) := (cell_of_heap h46).trans rfl
    have e1 : V4.cell? ⟨b6, 1, none⟩ = some (.int .u64 c.2) := (cell_of_heap h46).trans rfl
    have H46 := Lib.hid h46
    clear h46
    refine wpIn_seq_hid ?_
    intro Kr HKr
    refine wpIn_seq_hid ?_
    intro Kc HKc
    have hcf : ∀ args w, (callFunc 106 args).run Tryd.prog w = .ok (.enter 106 args) w := fun args w => by simp [callFunc, Tryd.func106, Tryd.f106, go_sem]
    gi_wp2_with fail
    refine ⟨trivial, rfl, wideAt_calls ((is106 HL.out.2.2.2 HCX.out.1 (HH.out.mem V4 HC4.out.same).2 HC4.out.kn).mono ?_)⟩
    rintro e V5 ⟨rfl, hs5, hk5⟩
    have HS5 := Lib.hid (And.intro hs5 hk5)
    clear hs5 hk5 d3 e0 e1
    have HMB : Hid (∀ j, O j ∨ j = V.heap.size ∨ j = V.heap.size + 1 → True) := fun _ _ => trivial
    cases hcase : r.caseE p c with
    | false =>
      have HR0 : Hid (rowL r p k (x :: L) = rowL r p k L) := by rw [Hid, HCX.out.2, if_neg (by rw [hcase]; decide)]
      clear hcase
      gi_wp2_with fail
      refine HKc.out _ _ ?_
      gi_wp2_with fail
      have hc4 := HC4.out
      rw [HR0.out] at hc4
      have hc5 := hc4.put HH.out (HS5.out.1.mono (fun j _ e => e ▸ hc4.om)) HS5.out.2 (fun j hj => .inl hj) hc4.om
      obtain ⟨f1, f2, f3, f4, f5⟩ := FIN.out V5 (HS5.out.1.mono (fun j _ e => .inl e))
      obtain ⟨c1, c2⟩ := HCI.out V5 f4
      exact ⟨f1, f2, fun j => (Ci j ∨ V2.heap.size ≤ j) ∧ j < V5.heap.size, c1, fun j h => h.2, fun j h => h.1.imp id .inr, C1, hc5, c2 C1 (fun j h => .inl h) hc5.cB, f3⟩
    | true =>
      have HR0 : Hid (rowL r p k (x :: L) = c :: rowL r p k L) := by rw [Hid, HCX.out.2, if_pos hcase]
      clear hcase
      gi_wp2_with fail
      refine HKc.out _ _ ?_
      clear HKc Kc
      gi_wp2_with fail
      refine HKr.out _ _ ?_
      clear HKr Kr
      have hmp := HC4.out.kn.map
      have d2 : V5.cell? ⟨b2, 0, none⟩ = some (.func (.yield l) #[] #[]) := cell_at0 (heap_same hmp HS5.out.1 ((HB4.out.block _ (heap_lt HOB.out.1)).trans HOB.out.1))
      have e0 : V5.cell? ⟨b6, 0, none⟩ = some (.int .u64 c.1) := (cell_of_heap (heap_same hmp HS5.out.1 H46.out)).trans rfl
      have e1 : V5.cell? ⟨b6, 1, none⟩ = some (.int .u64 c.2) := (cell_of_heap (heap_same hmp HS5.out.1 H46.out)).trans rfl
      clear hmp
      have HC5 : Hid (CaI r mb M W J (c :: (rowL r p k L ++ behind r p k)) (fun j => (O j ∨ j = V.heap.size ∨ j = V.heap.size + 1) ∨ j = w5.heap.size ∨ j = w5.heap.size + 1) V5 C1) := by
        have hc4 := HC4.out
        rw [HR0.out] at hc4
        exact hc4.put HH.out (HS5.out.1.mono (fun j _ e => e ▸ hc4.om)) HS5.out.2 (fun j hj => .inl hj) hc4.om
      obtain ⟨fn, tmps, assign, body, hyl, hRd⟩ := HH.out.give HCX.out.1 HC5.out
      have HRd := Lib.hid hRd
      clear hRd
      refine wpIn_seq_hid ?_
      intro Ky HKy
      gi_wp2_with fail
      refine ⟨rfl, HRd.out.mono ?_⟩
      clear HRd hyl d2 e0 e1
      rintro e V6 ⟨q, rfl, hs6, C', hC', htr, hfa⟩
      have HS6 := Lib.hid (FIN.out V6 ((HS5.out.1.mono (fun j _ e => .inl e)).trans (hs6.mono (fun j _ e => .inr e))))
      have HC6 : Hid (∀ j, C' j → C1 j ∨ V4.heap.size ≤ j) := fun j hj => (hC' j hj).imp id (fun e => Nat.le_trans HS5.out.1.size e)
      cases q with
      | true =>
        have HT := Lib.hid (htr rfl)
        clear hs6 hC' htr hfa
        gi_wp2_with fail
        refine HKy.out _ _ ?_
        gi_wp2_with fail
        obtain ⟨f1, f2, f3, f4, f5⟩ := HS6.out
        obtain ⟨c1, c2⟩ := HCI.out V6 f4
        exact ⟨f1, f2, fun j => (Ci j ∨ V2.heap.size ≤ j) ∧ j < V6.heap.size, c1, fun j h => h.2, fun j h => h.1.imp id .inr, C', HT.out, c2 C' HC6.out HT.out.cB, f3⟩
      | false =>
        have HT := Lib.hid (hfa rfl)
        clear hs6 hC' htr hfa
        gi_wp2_with fail
        refine HKy.out _ _ ?_
        gi_wp2_with fail
        obtain ⟨f1, f2, f3, f4, f5⟩ := HS6.out
        obtain ⟨c1, c2⟩ := HCI.out V6 f4
        exact ⟨f1, f2, fun j => (Ci j ∨ V2.heap.size ≤ j) ∧ j < V6.heap.size, c1, fun j h => h.2, fun j h => h.1.imp id .inr, rfl, f5, C', _, HT.out.1, HT.out.2, f3⟩
end Go.Proofs.YtbnhngfegnhaiaaDoor
namespace Go.Proofs.YtbnhngfegnhaiaaDoor
open Go.RowKit
set_option linter.unusedVariables false
set_option linter.unusedSimpArgs false
noncomputable def cas3C : Code := (Tryd.f105.body.bind (fromRegion 3)).getD .skip
set_option maxRecDepth 100000 in
set_option maxHeartbeats 8000000 in
theorem cas3 {r : Rws} {p : Int} {al ar : Option Addr} {cl cr mb cb t1 l b2 b3 : Nat} {M O C : Nat → Prop} {W V : World} {J Jx : List (Nat × Nat) → World → (Nat → Prop) → Prop} {R : Ending → World → Prop} (hv : r.valid = true)
    (H : CaH r p al cl ar cr mb cb t1 l M W J Jx) (h : CaI r mb M W J (fromRow r p 0) O V C) (h2 : V.heap[b2]? = some (.cells #[.func (.yield l) #[] #[]] 187 (0, 0))) (h3 : V.heap[b3]? = some (.cells #[.func (.func 106) #[.pointer (some ⟨cb, 0, none⟩)] #[]] 187 (0, 0)))
    (ho : O b2 ∧ O b3) {s4 s5 s6 s7 s8 s9 s10 s11 s12 s13 s14 s15 s16 s17 s18 s19 s20 s21 s22 s23 s24 s25 s26 s27 s28 s29 s30 s31 s32 s33 s34 s35 s36 : Value}
    (hR : ∀ (V' : World) (C' : Nat → Prop), (J [] V' C' ∨ ∃ i, Jx i V' C') → R (.returned (.tuple #[])) V') :
    Code.wp Tryd.prog cas3C (bodyPostM Fence.wide 0 Tryd.prog Tryd.f105 R) { tmps := List.toArray (.func (.yield l) #[] #[] :: .pointer (some ⟨t1, 0, none⟩) :: .pointer (some ⟨b2, 0, none⟩) :: .pointer (some ⟨b3, 0, none⟩) :: s4 :: s5 :: s6 :: s7 :: s8 :: s9 :: s10 :: s11 :: s12 :: s13 :: s14 :: s15 :: s16 :: s17 :: s18 :: s19 :: s20 :: s21 :: s22 :: s23 :: s24 :: s25 :: s26 :: s27 :: s28 :: s29 :: s30 :: s31 :: s32 :: s33 :: s34 :: s35 :: s36 :: []), defers := [] } V := by
  have HR := Lib.hid hR
  have HH := Lib.hid H
  have HI := Lib.hid h
  have HB := Lib.hid (And.intro h2 (And.intro h3 ho))
  clear hR H h h2 h3 ho
  conv => arg 2; whnf
  refine wp_seq_hid ?_
  intro K3 HK3
  go_wp2_with fail
  refine HK3.out _ _ ?_
  clear HK3 K3
  refine wp_block ?_
  refine wp_loop (fun a' w => ∃ (k : Nat) (u4 u5 u6 u19 u20 u21 u22 u23 u24 u25 u26 u27 u28 u29 u30 u31 u32 u33 u34 u35 u36 : Value) (ks : List Nat) (O1 C1 : Nat → Prop), k ≤ 2 ∧ a' = { tmps := List.toArray (.func (.yield l) #[] #[] :: .pointer (some ⟨t1, 0, none⟩) :: .pointer (some ⟨b2, 0, none⟩) :: .pointer (some ⟨b3, 0, none⟩) :: u4 :: u5 :: u6 :: s7 :: s8 :: s9 :: s10 :: s11 :: s12 :: s13 :: s14 :: s15 :: s16 :: s17 :: .int .i64 ((k : Int)) :: u19 :: u20 :: u21 :: u22 :: u23 :: u24 :: u25 :: u26 :: u27 :: u28 :: u29 :: u30 :: u31 :: u32 :: u33 :: u34 :: u35 :: u36 :: []), defers := ks.map (fun k => { target := .collected k, args := #[] }) } ∧ ks.Nodup ∧ (∀ D ∈ ks, O1 D ∧ D ≠ mb ∧ w.heap[D]? = some (.deferred (some []))) ∧ CaI r mb M W J (fromRow r p k) O1 w C1 ∧ O1 b2 ∧ O1 b3 ∧ w.heap[b2]? = some (.cells #[.func (.yield l) #[] #[]] 187 (0, 0)) ∧ w.heap[b3]? = some (.cells #[.func (.func 106) #[.pointer (some ⟨cb, 0, none⟩)] #[]] 187 (0, 0))) (fun a' _ => 2 - (intOf (a'.tmps.getD 18 undef)).toNat)
    ⟨0, s4, s5, s6, s19, s20, s21, s22, s23, s24, s25, s26, s27, s28, s29, s30, s31, s32, s33, s34, s35, s36, [], O, C, by omega, rfl, List.nodup_nil, (fun _ h => by cases h), HI.out, HB.out.2.2.1, HB.out.2.2.2, HB.out.1, HB.out.2.1⟩ ?_
  clear HI HB
  rintro a' w ⟨k, u4, u5, u6, u19, u20, u21, u22, u23, u24, u25, u26, u27, u28, u29, u30, u31, u32, u33, u34, u35, u36, ks, O1, C1, hk, rfl, hnd, hks, hc, o2, o3, h2, h3⟩
  have HW := Lib.hid (And.intro hnd (And.intro hks (And.intro hc (And.intro o2 (And.intro o3 (And.intro h2 h3))))))
  clear hnd hks hc o2 o3 h2 h3
  by_cases hk2 : k < 2
  · have h1 : (k : Int) < 2 := by omega
    refine wp_seq_hid ?_
    intro Kr HKr
    go_wp2_with fail
    refine HKr.out _ _ ?_
    clear HKr Kr
    refine wp_seq_hid ?_
    intro Ks HKs
    go_wp2_with fail
    refine HKs.out _ _ ?_
    clear HKs Ks
    refine wp_seq_hid ?_
    intro Kb HKb
    refine wp_block ?_
    refine wp_seq_hid ?_
    intro K5 HK5
    go_wp2_with fail
    refine HK5.out _ _ ?_
    clear HK5 K5
    have HA := Lib.hid (And.intro (World.alloc_heap_new w (.cells #[.int .i64 (k : Int)] 3)) (alloc_below w (.cells #[.int .i64 (k : Int)] 3)))
    have hsz : (w.alloc (.cells #[.int .i64 (k : Int)] 3)).heap.size = w.heap.size + 1 := by simp
    revert HA hsz
    generalize w.alloc (.cells #[.int .i64 (k : Int)] 3) = V1
    generalize hb4 : w.heap.size = b4
    intro HA hsz
    obtain ⟨hnd, hks, hc, o2, o3, h2, h3⟩ := HW.out
    have hbel : Below w.heap.size w V1 := by rw [hb4]; exact HA.out.2
    have hc1 : CaI r mb M W J (fromRow r p k) (fun j => O1 j ∨ j = b4) V1 C1 := hc.grow HH.out hbel (fun j hj => hj.imp id (fun e => by omega)) (.inl hc.om)
    refine wp_scope_straight ?_
    refine wp_seq ?_
    refine wp_label ?_
    refine cas6 (k := k) (b2 := b2) (b3 := b3) (b4 := b4) hv hk2 HH.out hc1 ((hbel.block _ (heap_lt h2)).trans h2) ((hbel.block _ (heap_lt h3)).trans h3) HA.out.1 ⟨.inl o2, .inl o3, .inr rfl⟩ ?hQ ?hX
    case hQ =>
      intro D V' C' O' hD hdef hOD hO hf hc'
      refine HKb.out _ _ ?_
      clear HKb Kb
      have hmb := hc.kn.map
      have HC' := Lib.hid hc'
      have n2 : b2 ≠ mb := by
        obtain ⟨es, cc, hes⟩ := hmb
        rintro rfl
        rw [h2] at hes; cases hes
      have n3 : b3 ≠ mb := by
        obtain ⟨es, cc, hes⟩ := hmb
        rintro rfl
        rw [h3] at hes; cases hes
      have hDs : ∀ E ∈ D :: ks, O' E ∧ E ≠ mb ∧ V'.heap[E]? = some (.deferred (some [])) := fun E hE => by
        rcases List.mem_cons.1 hE with rfl | hE
        · refine ⟨hOD, ?_, hdef⟩
          have := hc.kn.lt
          have := hbel.size
          omega
        · obtain ⟨q1, q2, q3⟩ := hks E hE
          exact ⟨hO E (.inl q1), q2, (hf E (.inl q1) q2).trans ((hbel.block _ (Array.getElem?_eq_some_iff.1 q3).1).trans q3)⟩
      have hnd' : (D :: ks).Nodup := List.nodup_cons.2 ⟨fun hm => by
        have q3 := (Array.getElem?_eq_some_iff.1 (hks D hm).2.2).1
        have := hbel.size
        omega, hnd⟩
      have g2 := (hf b2 (.inl o2) n2).trans ((hbel.block _ (heap_lt h2)).trans h2)
      have g3 := (hf b3 (.inl o3) n3).trans ((hbel.block _ (heap_lt h3)).trans h3)
      have HG := Lib.hid (And.intro hDs (And.intro hnd' (And.intro g2 (And.intro g3 (And.intro (hO b2 (.inl o2)) (hO b3 (.inl o3)))))))
      clear hDs hnd' g2 g3 hO hf hc' hOD hdef
      clear hnd hks hc o2 o3 h2 h3 hc1
      go_wp2_with fail
      exact ⟨⟨k + 1, _, _, _, _, _, _, _, _, _, _, _, _, _, _, _, _, _, _, _, _, _, D :: ks, O', C', by omega, rfl, HG.out.2.1, HG.out.1, HC'.out, HG.out.2.2.2.2.1, HG.out.2.2.2.2.2, HG.out.2.2.1, HG.out.2.2.2.1⟩, show 2 - ((k : Int) + 1).toNat < 2 - (k : Int).toNat by omega⟩
    case hX =>
      intro D V' C' i hD hdef hno hnD hf hj
      have hDs : ∀ E ∈ D :: ks, ¬ C' E ∧ V'.heap[E]? = some (.deferred (some [])) := fun E hE => by
        rcases List.mem_cons.1 hE with rfl | hE
        · exact ⟨hnD, hdef⟩
        · obtain ⟨q1, q2, q3⟩ := hks E hE
          exact ⟨hno E (.inl q1), (hf E (.inl q1) q2).trans ((hbel.block _ (Array.getElem?_eq_some_iff.1 q3).1).trans q3)⟩
      have hnd' : (D :: ks).Nodup := List.nodup_cons.2 ⟨fun hm => by
        have q3 := (Array.getElem?_eq_some_iff.1 (hks D hm).2.2).1
        have := hbel.size
        omega, hnd⟩
      refine leaves_marksK (v := .tuple #[]) (D :: ks) V' hnd' (fun E hE => (hDs E hE).2) (fun W' hs hsz => ⟨results_none rfl _ _ _, HR.out W' C' (.inr ⟨i, HH.out.hJx _ _ _ _ hj (hs.mono (fun E _ hE => (hDs E hE).1))⟩)⟩)
  · have h1 : ¬ (k : Int) < 2 := by omega
    have h2 : k = 2 := by omega
    subst h2
    go_wp2_with fail
    obtain ⟨hnd, hks, hc, o2, o3, h2, h3⟩ := HW.out
    refine leaves_marksK (v := .tuple #[]) ks w hnd (fun E hE => (hks E hE).2.2) (fun W' hs hsz => ⟨results_none rfl _ _ _, HR.out W' C1 (.inl (HH.out.hJ _ _ _ _ hc.j (hs.mono (fun E _ hE => hc.oC E (hks E hE).1))))⟩)
end Go.Proofs.YtbnhngfegnhaiaaDoor
namespace Go.Proofs.YtbnhngfegnhaiaaDoor
open Go.RowKit
set_option linter.unusedVariables false
set_option linter.unusedSimpArgs false
attribute [local go_sem] Oper.semAt_some
theorem set00 : SetOk (0, 0) := ⟨by decide, by decide⟩
set_option maxRecDepth 100000 in
set_option maxHeartbeats 8000000 in
theorem cases_iter {r : Rws} {p : Int} {al ar : Option Addr} {cl cr mb cb t1 : Nat} {M : Nat → Prop} {W : World} (hv : r.valid = true)
    (hmem : ∀ A, Same (fun k => M k ∨ k = mb) W A → A.cell? ⟨t1, 0, none⟩ = some (.pointer (some ⟨cb, 0, none⟩)) ∧ CanC r p al cl ar cr mb cb A)
    (hM : ¬ M mb ∧ ¬ M cb ∧ mb < W.heap.size ∧ cb < W.heap.size ∧ cb ≠ mb) (hkn : KnownW r W mb) :
    IterY Tryd.prog 105 #[.pointer (some ⟨t1, 0, none⟩)] (casesL r p) CaOk M (fun k => k = mb) W := by
  intro l J Jx hJ hJx hY h0
  have HH : Hid (CaH r p al cl ar cr mb cb t1 l M W J Jx) := ⟨hmem, hM, hJ, hJx, hY⟩
  obtain ⟨x0, x1, x2⟩ := alloc2 W #[.func (.yield l) #[] #[]] #[.func (.func 106) #[.pointer (some ⟨cb, 0, none⟩)] #[]] 187 187
  have hI0 : CaI r mb M W J (casesL r p) (fun k => k = mb) W (fun k => k < W.heap.size ∧ ¬ k = mb) := ⟨Same.refl _ _, hkn, fun k e h => h.2 e, fun k e => by rw [e]; exact hM.2.2.1, fun k e _ => e, rfl, fun k h => h.1, h0⟩
  have HI : Hid (CaI r mb M W J (casesL r p) (fun k => k = mb ∨ k = W.heap.size ∨ k = W.heap.size + 1) ((W.alloc (.cells #[.func (.yield l) #[] #[]] 187)).alloc (.cells #[.func (.func 106) #[.pointer (some ⟨cb, 0, none⟩)] #[]] 187)) (fun k => k < W.heap.size ∧ ¬ k = mb)) :=
    hI0.grow HH.out x2 (fun j hj => hj.imp id (fun e => by simp; omega)) (.inl rfl)
  have HX := Lib.hid (And.intro x0 x1)
  have m1 := (hmem W (Same.refl _ _)).1
  have hmf : ∀ (fn : Fn) (first cap : Array Value) (w : World), (Instr.makeFunc fn first cap).run Tryd.prog w = .ok (.func fn first cap) w := fun _ _ _ _ => rfl
  clear hmem hM hkn hJ hJx hY h0 x0 x1 x2 hI0
  refine callsIn_wide.2 ?_
  refine calls_of_wp_marks Tryd.func105 rfl ?_
  simp only [Tryd.ntmps105, List.size_toArray, List.length_cons, List.length_nil, Nat.reduceAdd, Nat.reduceSub, Array.replicate_succ, Array.replicate_zero, List.push_toArray, List.append_toArray, List.nil_append, List.cons_append]
  conv => arg 2; whnf
  refine wp_seq_hid ?_
  intro K0 HK0
  go_wp2_with fail
  refine HK0.out _ _ ?_
  clear HK0 K0
  have m1' := cell_stays (alloc_below W (.cells #[.func (.yield l) #[] #[]] 187)) m1
  clear m1
  refine wp_seq_hid ?_
  intro K1 HK1
  go_wp2_with fail
  refine HK1.out _ _ ?_
  clear HK1 K1 m1'
  revert HI HX
  generalize (W.alloc (.cells #[.func (.yield l) #[] #[]] 187)).alloc (.cells #[.func (.func 106) #[.pointer (some ⟨cb, 0, none⟩)] #[]] 187) = W1
  generalize W.heap.size + 1 = b3
  generalize hb2 : W.heap.size = b2
  intro HI HX
  generalize hC0 : (fun k => k < b2 ∧ ¬ k = mb) = C0 at HI
  clear hC0
  have d3 : W1.cell? ⟨b3, 0, none⟩ = some (.func (.func 106) #[.pointer (some ⟨cb, 0, none⟩)] #[]) := cell_at0 HX.out.2
  have hcf : ∀ args w, (callFunc 106 args).run Tryd.prog w = .ok (.enter 106 args) w := fun args w => by simp [callFunc, Tryd.func106, Tryd.f106, go_sem]
  refine wp_seq_hid ?_
  intro K2 HK2
  refine wp_seq_hid ?_
  intro Kc HKc
  refine (wpIn_wide (n := 0)).1 ?_
  gi_wp2_with fail
  refine ⟨trivial, rfl, wideAt_calls (r := none) ((is106 (c := (0, 0)) hv set00 (HH.out.mem W1 HI.out.same).2 HI.out.kn).mono ?_)⟩
  rintro e W2 ⟨rfl, hs2, hk2⟩
  have HC2 : Hid (CaI r mb M W J (casesL r p) (fun k => k = mb ∨ k = b2 ∨ k = b3) W2 C0) := HI.out.put HH.out (hs2.mono (fun j _ e => .inl e)) hk2 (fun j hj => .inl hj) (.inl rfl)
  have HX2 := Lib.hid (And.intro (heap_same HI.out.kn.map hs2 HX.out.1) (heap_same HI.out.kn.map hs2 HX.out.2))
  clear hs2 hk2 d3
  cases hcase : r.caseE p (0, 0) with
  | false =>
    have HC3 : Hid (CaI r mb M W J (fromRow r p 0) (fun k => k = mb ∨ k = b2 ∨ k = b3) W2 C0) := by
      have h := HC2.out
      unfold casesL at h
      rw [hcase] at h
      exact h
    clear hcase HC2
    gi_wp2_with fail
    refine ⟨(fun _ h => by cases h), ?_⟩
    gi_wp2_with fail
    refine HKc.out _ _ ?_
    go_wp2_with fail
    refine HK2.out _ _ ?_
    exact cas3 (b2 := b2) (b3 := b3) hv HH.out HC3.out HX2.out.1 HX2.out.2 ⟨.inr (.inl rfl), .inr (.inr rfl)⟩ (fun V' C' h => ⟨⟨_, rfl⟩, C', h⟩)
  | true =>
    have HC3 : Hid (CaI r mb M W J ((0, 0) :: fromRow r p 0) (fun k => k = mb ∨ k = b2 ∨ k = b3) W2 C0) := by
      have h := HC2.out
      unfold casesL at h
      rw [hcase] at h
      exact h
    clear hcase HC2
    have d2 : W2.cell? ⟨b2, 0, none⟩ = some (.func (.yield l) #[] #[]) := cell_at0 HX2.out.1
    obtain ⟨fn, tmps, assign, body, hyl, hRd⟩ := HH.out.give set00 HC3.out
    have HRd := Lib.hid hRd
    have hyl' : (Instr.yield l #[.agg #[.int .u64 0, .int .u64 0]]).run Tryd.prog W2 = .ok (.round l fn tmps assign body) W2 := hyl
    clear hRd hyl
    gi_wp2_with fail
    refine ⟨rfl, HRd.out.mono ?_⟩
    clear HRd hyl' d2
    rintro e W3 ⟨q, rfl, hs3, C', hC', htr, hfa⟩
    cases q with
    | true =>
      have HT := Lib.hid (htr rfl)
      have HX3 := Lib.hid (And.intro ((hs3.block _ (heap_lt HX2.out.1) (fun e => HC3.out.oC _ (.inr (.inl rfl)) e.1)).trans HX2.out.1) ((hs3.block _ (heap_lt HX2.out.2) (fun e => HC3.out.oC _ (.inr (.inr rfl)) e.1)).trans HX2.out.2))
      clear hs3 hC' htr hfa
      gi_wp2_with fail
      refine HKc.out _ _ ?_
      go_wp2_with fail
      refine HK2.out _ _ ?_
      exact cas3 (b2 := b2) (b3 := b3) hv HH.out HT.out HX3.out.1 HX3.out.2 ⟨.inr (.inl rfl), .inr (.inr rfl)⟩ (fun V' C' h => ⟨⟨_, rfl⟩, C', h⟩)
    | false =>
      have HT := Lib.hid (hfa rfl)
      clear hs3 hC' htr hfa
      gi_wp2_with fail
      refine HKc.out _ _ ?_
      go_wp2_with fail
      refine leaves_marksK (v := .tuple #[]) [] W3 List.nodup_nil (fun E hE => by cases hE) (fun W' hs hsz => ⟨results_none rfl _ _ _, ⟨_, rfl⟩, C', .inr ⟨_, HH.out.hJx _ _ _ _ HT.out.1 (hs.mono (fun E _ hE => by cases hE))⟩⟩)
end Go.Proofs.YtbnhngfegnhaiaaDoor
namespace Go.Proofs.YtbnhngfegnhaiaaDoor
open Go.RowKit
set_option linter.unusedVariables false
set_option linter.unusedSimpArgs false
/-- A world at one of 4 stages, by which ones are passed. -/
def ch3 (P0 P1 P2 P3 : World → Prop) : Bool → Bool → Bool → World → Prop
  | false, false, false, w => P0 w
  | true, false, false, w => P1 w
  | true, true, false, w => P2 w
  | true, true, true, w => P3 w
  | _, _, _, _ => False
theorem ch3_or {P0 P1 P2 P3 : World → Prop} {f1 f2 f3 : Bool} {w : World} (h : ch3 P0 P1 P2 P3 f1 f2 f3 w) : P0 w ∨ P1 w ∨ P2 w ∨ P3 w := by
  cases f1 <;> cases f2 <;> cases f3 <;> first | exact False.elim h | exact .inl h | exact .inr (.inl h) | exact .inr (.inr (.inl h)) | exact .inr (.inr (.inr h))
theorem ch3_s1 {P0 P1 P2 P3 : World → Prop} {f1 f2 f3 : Bool} {w : World} (h : ch3 P0 P1 P2 P3 f1 f2 f3 w) (e2 : f1 = false) : P0 w ∧ ∀ w' : World, P1 w' → ch3 P0 P1 P2 P3 true f2 f3 w' := by
  subst e2
  cases f2 <;> cases f3 <;> first | exact False.elim h | exact ⟨h, fun _ x => x⟩
theorem ch3_s2 {P0 P1 P2 P3 : World → Prop} {f1 f2 f3 : Bool} {w : World} (h : ch3 P0 P1 P2 P3 f1 f2 f3 w) (e1 : f1 = true) (e2 : f2 = false) : P1 w ∧ ∀ w' : World, P2 w' → ch3 P0 P1 P2 P3 f1 true f3 w' := by
  subst e1 e2
  cases f3 <;> first | exact False.elim h | exact ⟨h, fun _ x => x⟩
theorem ch3_s3 {P0 P1 P2 P3 : World → Prop} {f1 f2 f3 : Bool} {w : World} (h : ch3 P0 P1 P2 P3 f1 f2 f3 w) (e1 : f2 = true) (e2 : f3 = false) : P2 w ∧ ∀ w' : World, P3 w' → ch3 P0 P1 P2 P3 f1 f2 true w' := by
  subst e1 e2
  cases f1 <;> first | exact False.elim h | exact ⟨h, fun _ x => x⟩
/-- A world at one of 2 stages, by which ones are passed. -/
def ch1 (P0 P1 : World → Prop) : Bool → World → Prop
  | false, w => P0 w
  | true, w => P1 w
theorem ch1_or {P0 P1 : World → Prop} {f1 : Bool} {w : World} (h : ch1 P0 P1 f1 w) : P0 w ∨ P1 w := by
  cases f1 <;> first | exact False.elim h | exact .inl h | exact .inr h
theorem ch1_s1 {P0 P1 : World → Prop} {f1 : Bool} {w : World} (h : ch1 P0 P1 f1 w) (e2 : f1 = false) : P0 w ∧ ∀ w' : World, P1 w' → ch1 P0 P1 true w' := by
  subst e2
  first | exact False.elim h | exact ⟨h, fun _ x => x⟩
noncomputable def joi7C : Code := (Tryd.f134.body.bind (regionAt 7)).getD .skip
set_option maxRecDepth 100000 in
set_option maxHeartbeats 8000000 in
theorem joi7 {o N a c d j : Nat} {P0 P1 P2 P3 : World → Prop} {Q : Exit → Act → World → Prop} {W1 : World} (hj0 : (0 : Int) ≤ j) (hj1 : (j : Int) < 2) (h0 : P0 W1.drew)
    (kl7 : Hid (∀ w : World, (P0 w) → w.cell? ⟨o, 1 + j, none⟩ = some (.int .u64 ((a : Int)))))
    (ka9 : Hid (∀ w : World, P0 w → w.heap.size = N ∧ P1 (w.alloc (.cells #[.int .u64 ((a : Int)), .int .u64 ((c : Int))] 104))))
    (kc10 : Hid (∀ w : World, P1 w → Calls Tryd.prog 135 #[.slice (some ⟨N, 0, none⟩) 2 2] w fun e w' => e = .returned (.int .u64 ((d : Int))) ∧ P2 w'))
    (ks14 : Hid (∀ w : World, P2 w → (∃ u, w.cell? ⟨o, 1 + j, none⟩ = some u) ∧ w.frozen? ⟨o, 1 + j, none⟩ = false ∧ P3 (w.setCell ⟨o, 1 + j, none⟩ (.int .u64 ((d : Int))))))
    {s1 s2 s3 s6 s7 s8 s9 s10 s11 s12 s13 s14 s15 s16 s17 s18 s19 s20 s21 s22 s23 s24 s25 s26 s27 s28 s29 s30 s31 s32 s33 s34 s35 s36 s37 s38 s39 s40 s41 s42 s43 s44 s45 s46 s47 s48 s49 s50 s51 : Value} {dd : List Deferred}
    (hQ : ∀ w' : World, P3 w' → Q .normal { tmps := #[.pointer (some ⟨o, 0, none⟩),s1,s2,s3,.int .i64 ((j : Int)),.int .u64 ((c : Int)),s6,s7,s8,s9,s10,s11,s12,s13,s14,s15,s16,s17,s18,s19,s20,s21,s22,s23,s24,s25,.pointer (some ⟨o, 0, none⟩),.int .i64 ((j : Int)),.pointer (some ⟨o, 0, none⟩),.int .i64 ((j : Int)),.pointer (some ⟨o, 0, none⟩),.pointer (some ⟨o, 1, none⟩),.pointer (some ⟨o, 1 + j, none⟩),.int .u64 ((a : Int)),.int .u64 ((c : Int)),.slice (some ⟨N, 0, none⟩) 2 2,.int .u64 ((d : Int)),.pointer (some ⟨o, 0, none⟩),.pointer (some ⟨o, 1, none⟩),.pointer (some ⟨o, 1 + j, none⟩),s40,s41,s42,s43,s44,s45,s46,s47,s48,s49,s50,s51],defers := dd } w') :
    Code.wpIn (wideAt none) 0 Tryd.prog joi7C Q { tmps := #[.pointer (some ⟨o, 0, none⟩),s1,s2,s3,.int .i64 ((j : Int)),.int .u64 ((c : Int)),s6,s7,s8,s9,s10,s11,s12,s13,s14,s15,s16,s17,s18,s19,s20,s21,s22,s23,s24,s25,s26,s27,s28,s29,s30,s31,s32,s33,s34,s35,s36,s37,s38,s39,s40,s41,s42,s43,s44,s45,s46,s47,s48,s49,s50,s51],defers := dd } W1 := by
  have HQ := Lib.hid hQ
  clear hQ
  conv => arg 4; whnf
  refine wpIn_region_invG mixed (by kernel_rfl) (fun d_ a_ w' => a_ = { tmps := #[.pointer (some ⟨o, 0, none⟩),s1,s2,s3,.int .i64 ((j : Int)),.int .u64 ((c : Int)),s6,s7,s8,s9,s10,s11,s12,s13,s14,s15,s16,s17,s18,s19,s20,s21,s22,s23,s24,s25,pk (d_ 0) (.pointer (some ⟨o, 0, none⟩)) s26,pk (d_ 1) (.int .i64 ((j : Int))) s27,pk (d_ 2) (.pointer (some ⟨o, 0, none⟩)) s28,pk (d_ 3) (.int .i64 ((j : Int))) s29,pk (d_ 4) (.pointer (some ⟨o, 0, none⟩)) s30,pk (d_ 5) (.pointer (some ⟨o, 1, none⟩)) s31,pk (d_ 6) (.pointer (some ⟨o, 1 + j, none⟩)) s32,pk (d_ 7) (.int .u64 ((a : Int))) s33,pk (d_ 8) (.int .u64 ((c : Int))) s34,pk (d_ 9) (.slice (some ⟨N, 0, none⟩) 2 2) s35,pk (d_ 10) (.int .u64 ((d : Int))) s36,pk (d_ 11) (.pointer (some ⟨o, 0, none⟩)) s37,pk (d_ 12) (.pointer (some ⟨o, 1, none⟩)) s38,pk (d_ 13) (.pointer (some ⟨o, 1 + j, none⟩)) s39,s40,s41,s42,s43,s44,s45,s46,s47,s48,s49,s50,s51],defers := dd } ∧ ch3 P0 P1 P2 P3 (d_ 9) (d_ 10) (d_ 14) w' ∧ OrdP [[], [], [], [], [2], [4], [3, 5], [6], [], [7, 8], [9], [0], [11], [0, 1, 2, 3, 4, 5, 6, 7, 8, 9, 10, 12], [0, 1, 2, 3, 4, 5, 6, 7, 8, 9, 10, 13]] d_) ?_ ?_ ?_
  · exact ⟨rfl, h0, fun k h => by cases h⟩
  · refine ⟨?_,?_,?_,?_,?_,?_,?_,?_,?_,?_,?_,?_,?_,?_,?_, trivial⟩
    all_goals
      rintro d_ a_ w1 K hd_ hdep ⟨rfl, F, O⟩ HK
      simp [Region.binds] at hdep
    · have HO : Hid (OrdP [[], [], [], [], [2], [4], [3, 5], [6], [], [7, 8], [9], [0], [11], [0, 1, 2, 3, 4, 5, 6, 7, 8, 9, 10, 12], [0, 1, 2, 3, 4, 5, 6, 7, 8, 9, 10, 13]] (upd d_ 0)) := O.step (show ∀ e ∈ ([] : List Nat), d_ e = true by simp [hdep])
      clear O
      have HF := Lib.hid F
      clear F hdep
      go_simp
      refine HK.out _ _ ⟨?_, HF.out, HO.out⟩
      all_goals rfl
    · have HO : Hid (OrdP [[], [], [], [], [2], [4], [3, 5], [6], [], [7, 8], [9], [0], [11], [0, 1, 2, 3, 4, 5, 6, 7, 8, 9, 10, 12], [0, 1, 2, 3, 4, 5, 6, 7, 8, 9, 10, 13]] (upd d_ 1)) := O.step (show ∀ e ∈ ([] : List Nat), d_ e = true by simp [hdep])
      clear O
      have HF := Lib.hid F
      clear F hdep
      go_simp
      refine HK.out _ _ ⟨?_, HF.out, HO.out⟩
      all_goals rfl
    · have HO : Hid (OrdP [[], [], [], [], [2], [4], [3, 5], [6], [], [7, 8], [9], [0], [11], [0, 1, 2, 3, 4, 5, 6, 7, 8, 9, 10, 12], [0, 1, 2, 3, 4, 5, 6, 7, 8, 9, 10, 13]] (upd d_ 2)) := O.step (show ∀ e ∈ ([] : List Nat), d_ e = true by simp [hdep])
      clear O
      have HF := Lib.hid F
      clear F hdep
      go_simp
      refine HK.out _ _ ⟨?_, HF.out, HO.out⟩
      all_goals rfl
    · have HO : Hid (OrdP [[], [], [], [], [2], [4], [3, 5], [6], [], [7, 8], [9], [0], [11], [0, 1, 2, 3, 4, 5, 6, 7, 8, 9, 10, 12], [0, 1, 2, 3, 4, 5, 6, 7, 8, 9, 10, 13]] (upd d_ 3)) := O.step (show ∀ e ∈ ([] : List Nat), d_ e = true by simp [hdep])
      clear O
      have HF := Lib.hid F
      clear F hdep
      go_simp
      refine HK.out _ _ ⟨?_, HF.out, HO.out⟩
      all_goals rfl
    · have HO : Hid (OrdP [[], [], [], [], [2], [4], [3, 5], [6], [], [7, 8], [9], [0], [11], [0, 1, 2, 3, 4, 5, 6, 7, 8, 9, 10, 12], [0, 1, 2, 3, 4, 5, 6, 7, 8, 9, 10, 13]] (upd d_ 4)) := O.step (show ∀ e ∈ ([2] : List Nat), d_ e = true by simp [hdep])
      have q2 : d_ 2 = true := by simp [hdep]
      clear O
      rw [pk_of q2]
      have HF := Lib.hid F
      clear F hdep
      go_simp
      refine HK.out _ _ ⟨?_, HF.out, HO.out⟩
      rw [pk_of (show upd d_ 4 2 = true from q2)]
      all_goals rfl
    · have HO : Hid (OrdP [[], [], [], [], [2], [4], [3, 5], [6], [], [7, 8], [9], [0], [11], [0, 1, 2, 3, 4, 5, 6, 7, 8, 9, 10, 12], [0, 1, 2, 3, 4, 5, 6, 7, 8, 9, 10, 13]] (upd d_ 5)) := O.step (show ∀ e ∈ ([4] : List Nat), d_ e = true by simp [hdep])
      have q4 : d_ 4 = true := by simp [hdep]
      clear O
      rw [pk_of q4]
      have HF := Lib.hid F
      clear F hdep
      go_simp
      refine HK.out _ _ ⟨?_, HF.out, HO.out⟩
      rw [pk_of (show upd d_ 5 4 = true from q4)]
      all_goals rfl
    · have HO : Hid (OrdP [[], [], [], [], [2], [4], [3, 5], [6], [], [7, 8], [9], [0], [11], [0, 1, 2, 3, 4, 5, 6, 7, 8, 9, 10, 12], [0, 1, 2, 3, 4, 5, 6, 7, 8, 9, 10, 13]] (upd d_ 6)) := O.step (show ∀ e ∈ ([3, 5] : List Nat), d_ e = true by simp [hdep])
      have q3 : d_ 3 = true := by simp [hdep]
      have q5 : d_ 5 = true := by simp [hdep]
      clear O
      have g1 := hj0
      have g2 := hj1
      rw [pk_of q3, pk_of q5]
      have HF := Lib.hid F
      clear F hdep
      go_simp
      refine HK.out _ _ ⟨?_, HF.out, HO.out⟩
      rw [pk_of (show upd d_ 6 3 = true from q3), pk_of (show upd d_ 6 5 = true from q5)]
      all_goals rfl
    · have HO : Hid (OrdP [[], [], [], [], [2], [4], [3, 5], [6], [], [7, 8], [9], [0], [11], [0, 1, 2, 3, 4, 5, 6, 7, 8, 9, 10, 12], [0, 1, 2, 3, 4, 5, 6, 7, 8, 9, 10, 13]] (upd d_ 7)) := O.step (show ∀ e ∈ ([6] : List Nat), d_ e = true by simp [hdep])
      have q6 : d_ 6 = true := by simp [hdep]
      have F2 := F
      have n_ : d_ 9 = false := by
        cases e_ : d_ 9 with
        | false => rfl
        | true => have h2 := (O 9 e_ 7 (by decide)); rw [show d_ 7 = false from hd_] at h2; cases h2
      rw [n_] at F2
      have kk := kl7.out w1 (by
        have h3 := ch3_or F2
        cases e10_ : d_ 10 <;> cases e14_ : d_ 14 <;> simp_all [ch3])
      clear F2
      clear n_
      clear O
      rw [pk_of q6]
      have HF := Lib.hid F
      clear F hdep
      go_simp
      refine HK.out _ _ ⟨?_, HF.out, HO.out⟩
      rw [pk_of (show upd d_ 7 6 = true from q6)]
      all_goals rfl
    · have HO : Hid (OrdP [[], [], [], [], [2], [4], [3, 5], [6], [], [7, 8], [9], [0], [11], [0, 1, 2, 3, 4, 5, 6, 7, 8, 9, 10, 12], [0, 1, 2, 3, 4, 5, 6, 7, 8, 9, 10, 13]] (upd d_ 8)) := O.step (show ∀ e ∈ ([] : List Nat), d_ e = true by simp [hdep])
      clear O
      have HF := Lib.hid F
      clear F hdep
      go_simp
      refine HK.out _ _ ⟨?_, HF.out, HO.out⟩
      all_goals rfl
    · have HO : Hid (OrdP [[], [], [], [], [2], [4], [3, 5], [6], [], [7, 8], [9], [0], [11], [0, 1, 2, 3, 4, 5, 6, 7, 8, 9, 10, 12], [0, 1, 2, 3, 4, 5, 6, 7, 8, 9, 10, 13]] (upd d_ 9)) := O.step (show ∀ e ∈ ([7, 8] : List Nat), d_ e = true by simp [hdep])
      have q7 : d_ 7 = true := by simp [hdep]
      have q8 : d_ 8 = true := by simp [hdep]
      clear O
      rw [pk_of q7, pk_of q8]
      obtain ⟨hP, hN⟩ := ch3_s1 F hd_
      obtain ⟨hz_, hR⟩ := ka9.out w1 hP
      have HF := Lib.hid (hN _ hR)
      clear F hP hR hN hdep
      go_simp
      try rw [hz_]
      have HG := HF.out
      refine HK.out _ _ ⟨?_, HG, HO.out⟩
      rw [pk_of (show upd d_ 9 7 = true from q7), pk_of (show upd d_ 9 8 = true from q8)]
      all_goals rfl
    · have HO : Hid (OrdP [[], [], [], [], [2], [4], [3, 5], [6], [], [7, 8], [9], [0], [11], [0, 1, 2, 3, 4, 5, 6, 7, 8, 9, 10, 12], [0, 1, 2, 3, 4, 5, 6, 7, 8, 9, 10, 13]] (upd d_ 10)) := O.step (show ∀ e ∈ ([9] : List Nat), d_ e = true by simp [hdep])
      have q9 : d_ 9 = true := by simp [hdep]
      clear O
      rw [pk_of q9]
      obtain ⟨hP, hN⟩ := ch3_s2 F (show d_ 9 = true by simp [hdep]) hd_
      have hc := kc10.out w1 hP
      have HN := Lib.hid hN
      clear F hP hN hdep
      go_simp
      refine ⟨trivial, rfl, wideAt_calls (hc.mono ?_)⟩
      rintro e w5 ⟨rfl, hR⟩
      have HG := HN.out w5 hR
      refine HK.out _ _ ⟨?_, HG, HO.out⟩
      rw [pk_of (show upd d_ 10 9 = true from q9)]
      all_goals rfl
    · have HO : Hid (OrdP [[], [], [], [], [2], [4], [3, 5], [6], [], [7, 8], [9], [0], [11], [0, 1, 2, 3, 4, 5, 6, 7, 8, 9, 10, 12], [0, 1, 2, 3, 4, 5, 6, 7, 8, 9, 10, 13]] (upd d_ 11)) := O.step (show ∀ e ∈ ([0] : List Nat), d_ e = true by simp [hdep])
      have q0 : d_ 0 = true := by simp [hdep]
      clear O
      rw [pk_of q0]
      have HF := Lib.hid F
      clear F hdep
      go_simp
      refine HK.out _ _ ⟨?_, HF.out, HO.out⟩
      rw [pk_of (show upd d_ 11 0 = true from q0)]
      all_goals rfl
    · have HO : Hid (OrdP [[], [], [], [], [2], [4], [3, 5], [6], [], [7, 8], [9], [0], [11], [0, 1, 2, 3, 4, 5, 6, 7, 8, 9, 10, 12], [0, 1, 2, 3, 4, 5, 6, 7, 8, 9, 10, 13]] (upd d_ 12)) := O.step (show ∀ e ∈ ([11] : List Nat), d_ e = true by simp [hdep])
      have q11 : d_ 11 = true := by simp [hdep]
      clear O
      rw [pk_of q11]
      have HF := Lib.hid F
      clear F hdep
      go_simp
      refine HK.out _ _ ⟨?_, HF.out, HO.out⟩
      rw [pk_of (show upd d_ 12 11 = true from q11)]
      all_goals rfl
    · have HO : Hid (OrdP [[], [], [], [], [2], [4], [3, 5], [6], [], [7, 8], [9], [0], [11], [0, 1, 2, 3, 4, 5, 6, 7, 8, 9, 10, 12], [0, 1, 2, 3, 4, 5, 6, 7, 8, 9, 10, 13]] (upd d_ 13)) := O.step (show ∀ e ∈ ([0, 1, 2, 3, 4, 5, 6, 7, 8, 9, 10, 12] : List Nat), d_ e = true by simp [hdep])
      have q1 : d_ 1 = true := by simp [hdep]
      have q12 : d_ 12 = true := by simp [hdep]
      clear O
      have g1 := hj0
      have g2 := hj1
      rw [pk_of q1, pk_of q12]
      have HF := Lib.hid F
      clear F hdep
      go_simp
      refine HK.out _ _ ⟨?_, HF.out, HO.out⟩
      rw [pk_of (show upd d_ 13 1 = true from q1), pk_of (show upd d_ 13 12 = true from q12)]
      all_goals rfl
    · have HO : Hid (OrdP [[], [], [], [], [2], [4], [3, 5], [6], [], [7, 8], [9], [0], [11], [0, 1, 2, 3, 4, 5, 6, 7, 8, 9, 10, 12], [0, 1, 2, 3, 4, 5, 6, 7, 8, 9, 10, 13]] (upd d_ 14)) := O.step (show ∀ e ∈ ([0, 1, 2, 3, 4, 5, 6, 7, 8, 9, 10, 13] : List Nat), d_ e = true by simp [hdep])
      have q10 : d_ 10 = true := by simp [hdep]
      have q13 : d_ 13 = true := by simp [hdep]
      clear O
      rw [pk_of q10, pk_of q13]
      obtain ⟨hP, hN⟩ := ch3_s3 F (show d_ 10 = true by simp [hdep]) hd_
      obtain ⟨⟨u0, c0⟩, z0, hR⟩ := ks14.out w1 hP
      have HF := Lib.hid (hN _ hR)
      clear F hP hR hN hdep
      go_simp
      have HG := HF.out
      refine HK.out _ _ ⟨?_, HG, HO.out⟩
      rw [pk_of (show upd d_ 14 10 = true from q10), pk_of (show upd d_ 14 13 = true from q13)]
      all_goals rfl
  · rintro d_ a_ w1 hall ⟨rfl, F, O⟩
    have hall' : ∀ k, k < 15 → d_ k = true := hall
    rw [hall' 9 (by decide), hall' 10 (by decide), hall' 14 (by decide)] at F
    have HF := Lib.hid F
    clear F
    rw [pk_of (hall' 0 (by decide)), pk_of (hall' 1 (by decide)), pk_of (hall' 2 (by decide)), pk_of (hall' 3 (by decide)), pk_of (hall' 4 (by decide)), pk_of (hall' 5 (by decide)), pk_of (hall' 6 (by decide)), pk_of (hall' 7 (by decide)), pk_of (hall' 8 (by decide)), pk_of (hall' 9 (by decide)), pk_of (hall' 10 (by decide)), pk_of (hall' 11 (by decide)), pk_of (hall' 12 (by decide)), pk_of (hall' 13 (by decide))]
    exact HQ.out w1 HF.out
noncomputable def joi8C : Code := (Tryd.f134.body.bind (regionAt 8)).getD .skip
set_option maxRecDepth 100000 in
set_option maxHeartbeats 8000000 in
theorem joi8 {o x c y j : Nat} {P0 P1 : World → Prop} {Q : Exit → Act → World → Prop} {W1 : World} (hj0 : (0 : Int) ≤ j) (hj1 : (j : Int) < 2) (hy : bits .and .u64 (x : Int) (c : Int) = y) (h0 : P0 W1.drew)
    (kl5 : Hid (∀ w : World, (P0 w) → w.cell? ⟨o, 3 + j, none⟩ = some (.int .u64 ((x : Int)))))
    (ks11 : Hid (∀ w : World, P0 w → (∃ u, w.cell? ⟨o, 3 + j, none⟩ = some u) ∧ w.frozen? ⟨o, 3 + j, none⟩ = false ∧ P1 (w.setCell ⟨o, 3 + j, none⟩ (.int .u64 ((y : Int))))))
    {s1 s2 s3 s6 s7 s8 s9 s10 s11 s12 s13 s14 s15 s16 s17 s18 s19 s20 s21 s22 s23 s24 s25 s26 s27 s28 s29 s30 s31 s32 s33 s34 s35 s36 s37 s38 s39 s40 s41 s42 s43 s44 s45 s46 s47 s48 s49 s50 s51 : Value} {dd : List Deferred}
    (hQ : ∀ w' : World, P1 w' → Q .normal { tmps := #[.pointer (some ⟨o, 0, none⟩),s1,s2,s3,.int .i64 ((j : Int)),.int .u64 ((c : Int)),s6,s7,s8,s9,s10,s11,s12,s13,s14,s15,s16,s17,s18,s19,s20,s21,s22,s23,s24,s25,s26,s27,s28,s29,s30,s31,s32,s33,s34,s35,s36,s37,s38,s39,.pointer (some ⟨o, 0, none⟩),.int .i64 ((j : Int)),.pointer (some ⟨o, 0, none⟩),.pointer (some ⟨o, 3, none⟩),.pointer (some ⟨o, 3 + j, none⟩),.int .u64 ((x : Int)),.int .u64 ((c : Int)),.int .u64 ((y : Int)),.pointer (some ⟨o, 0, none⟩),.pointer (some ⟨o, 3, none⟩),.pointer (some ⟨o, 3 + j, none⟩),s51],defers := dd } w') :
    Code.wpIn (wideAt none) 0 Tryd.prog joi8C Q { tmps := #[.pointer (some ⟨o, 0, none⟩),s1,s2,s3,.int .i64 ((j : Int)),.int .u64 ((c : Int)),s6,s7,s8,s9,s10,s11,s12,s13,s14,s15,s16,s17,s18,s19,s20,s21,s22,s23,s24,s25,s26,s27,s28,s29,s30,s31,s32,s33,s34,s35,s36,s37,s38,s39,s40,s41,s42,s43,s44,s45,s46,s47,s48,s49,s50,s51],defers := dd } W1 := by
  have HQ := Lib.hid hQ
  clear hQ
  conv => arg 4; whnf
  refine wpIn_region_invG mixed (by kernel_rfl) (fun d_ a_ w' => a_ = { tmps := #[.pointer (some ⟨o, 0, none⟩),s1,s2,s3,.int .i64 ((j : Int)),.int .u64 ((c : Int)),s6,s7,s8,s9,s10,s11,s12,s13,s14,s15,s16,s17,s18,s19,s20,s21,s22,s23,s24,s25,s26,s27,s28,s29,s30,s31,s32,s33,s34,s35,s36,s37,s38,s39,pk (d_ 0) (.pointer (some ⟨o, 0, none⟩)) s40,pk (d_ 1) (.int .i64 ((j : Int))) s41,pk (d_ 2) (.pointer (some ⟨o, 0, none⟩)) s42,pk (d_ 3) (.pointer (some ⟨o, 3, none⟩)) s43,pk (d_ 4) (.pointer (some ⟨o, 3 + j, none⟩)) s44,pk (d_ 5) (.int .u64 ((x : Int))) s45,pk (d_ 6) (.int .u64 ((c : Int))) s46,pk (d_ 7) (.int .u64 ((y : Int))) s47,pk (d_ 8) (.pointer (some ⟨o, 0, none⟩)) s48,pk (d_ 9) (.pointer (some ⟨o, 3, none⟩)) s49,pk (d_ 10) (.pointer (some ⟨o, 3 + j, none⟩)) s50,s51],defers := dd } ∧ ch1 P0 P1 (d_ 11) w' ∧ OrdP [[], [], [0], [2], [1, 3], [4], [], [5, 6], [0], [8], [0, 1, 2, 3, 4, 5, 6, 7, 9], [0, 1, 2, 3, 4, 5, 6, 7, 10]] d_) ?_ ?_ ?_
  · exact ⟨rfl, h0, fun k h => by cases h⟩
  · refine ⟨?_,?_,?_,?_,?_,?_,?_,?_,?_,?_,?_,?_, trivial⟩
    all_goals
      rintro d_ a_ w1 K hd_ hdep ⟨rfl, F, O⟩ HK
      simp [Region.binds] at hdep
    · have HO : Hid (OrdP [[], [], [0], [2], [1, 3], [4], [], [5, 6], [0], [8], [0, 1, 2, 3, 4, 5, 6, 7, 9], [0, 1, 2, 3, 4, 5, 6, 7, 10]] (upd d_ 0)) := O.step (show ∀ e ∈ ([] : List Nat), d_ e = true by simp [hdep])
      clear O
      have HF := Lib.hid F
      clear F hdep
      go_simp
      refine HK.out _ _ ⟨?_, HF.out, HO.out⟩
      all_goals rfl
    · have HO : Hid (OrdP [[], [], [0], [2], [1, 3], [4], [], [5, 6], [0], [8], [0, 1, 2, 3, 4, 5, 6, 7, 9], [0, 1, 2, 3, 4, 5, 6, 7, 10]] (upd d_ 1)) := O.step (show ∀ e ∈ ([] : List Nat), d_ e = true by simp [hdep])
      clear O
      have HF := Lib.hid F
      clear F hdep
      go_simp
      refine HK.out _ _ ⟨?_, HF.out, HO.out⟩
      all_goals rfl
    · have HO : Hid (OrdP [[], [], [0], [2], [1, 3], [4], [], [5, 6], [0], [8], [0, 1, 2, 3, 4, 5, 6, 7, 9], [0, 1, 2, 3, 4, 5, 6, 7, 10]] (upd d_ 2)) := O.step (show ∀ e ∈ ([0] : List Nat), d_ e = true by simp [hdep])
      have q0 : d_ 0 = true := by simp [hdep]
      clear O
      rw [pk_of q0]
      have HF := Lib.hid F
      clear F hdep
      go_simp
      refine HK.out _ _ ⟨?_, HF.out, HO.out⟩
      rw [pk_of (show upd d_ 2 0 = true from q0)]
      all_goals rfl
    · have HO : Hid (OrdP [[], [], [0], [2], [1, 3], [4], [], [5, 6], [0], [8], [0, 1, 2, 3, 4, 5, 6, 7, 9], [0, 1, 2, 3, 4, 5, 6, 7, 10]] (upd d_ 3)) := O.step (show ∀ e ∈ ([2] : List Nat), d_ e = true by simp [hdep])
      have q2 : d_ 2 = true := by simp [hdep]
      clear O
      rw [pk_of q2]
      have HF := Lib.hid F
      clear F hdep
      go_simp
      refine HK.out _ _ ⟨?_, HF.out, HO.out⟩
      rw [pk_of (show upd d_ 3 2 = true from q2)]
      all_goals rfl
    · have HO : Hid (OrdP [[], [], [0], [2], [1, 3], [4], [], [5, 6], [0], [8], [0, 1, 2, 3, 4, 5, 6, 7, 9], [0, 1, 2, 3, 4, 5, 6, 7, 10]] (upd d_ 4)) := O.step (show ∀ e ∈ ([1, 3] : List Nat), d_ e = true by simp [hdep])
      have q1 : d_ 1 = true := by simp [hdep]
      have q3 : d_ 3 = true := by simp [hdep]
      clear O
      have g1 := hj0
      have g2 := hj1
      rw [pk_of q1, pk_of q3]
      have HF := Lib.hid F
      clear F hdep
      go_simp
      refine HK.out _ _ ⟨?_, HF.out, HO.out⟩
      rw [pk_of (show upd d_ 4 1 = true from q1), pk_of (show upd d_ 4 3 = true from q3)]
      all_goals rfl
    · have HO : Hid (OrdP [[], [], [0], [2], [1, 3], [4], [], [5, 6], [0], [8], [0, 1, 2, 3, 4, 5, 6, 7, 9], [0, 1, 2, 3, 4, 5, 6, 7, 10]] (upd d_ 5)) := O.step (show ∀ e ∈ ([4] : List Nat), d_ e = true by simp [hdep])
      have q4 : d_ 4 = true := by simp [hdep]
      have F2 := F
      have n_ : d_ 11 = false := by
        cases e_ : d_ 11 with
        | false => rfl
        | true => have h2 := (O 11 e_ 5 (by decide)); rw [show d_ 5 = false from hd_] at h2; cases h2
      rw [n_] at F2
      have kk := kl5.out w1 (by
        have h3 := ch1_or F2
        simp_all [ch1])
      clear F2
      clear n_
      clear O
      rw [pk_of q4]
      have HF := Lib.hid F
      clear F hdep
      go_simp
      refine HK.out _ _ ⟨?_, HF.out, HO.out⟩
      rw [pk_of (show upd d_ 5 4 = true from q4)]
      all_goals rfl
    · have HO : Hid (OrdP [[], [], [0], [2], [1, 3], [4], [], [5, 6], [0], [8], [0, 1, 2, 3, 4, 5, 6, 7, 9], [0, 1, 2, 3, 4, 5, 6, 7, 10]] (upd d_ 6)) := O.step (show ∀ e ∈ ([] : List Nat), d_ e = true by simp [hdep])
      clear O
      have HF := Lib.hid F
      clear F hdep
      go_simp
      refine HK.out _ _ ⟨?_, HF.out, HO.out⟩
      all_goals rfl
    · have HO : Hid (OrdP [[], [], [0], [2], [1, 3], [4], [], [5, 6], [0], [8], [0, 1, 2, 3, 4, 5, 6, 7, 9], [0, 1, 2, 3, 4, 5, 6, 7, 10]] (upd d_ 7)) := O.step (show ∀ e ∈ ([5, 6] : List Nat), d_ e = true by simp [hdep])
      have q5 : d_ 5 = true := by simp [hdep]
      have q6 : d_ 6 = true := by simp [hdep]
      clear O
      have g3 := hy
      rw [pk_of q5, pk_of q6]
      have HF := Lib.hid F
      clear F hdep
      go_simp
      refine HK.out _ _ ⟨?_, HF.out, HO.out⟩
      rw [pk_of (show upd d_ 7 5 = true from q5), pk_of (show upd d_ 7 6 = true from q6)]
      all_goals rfl
    · have HO : Hid (OrdP [[], [], [0], [2], [1, 3], [4], [], [5, 6], [0], [8], [0, 1, 2, 3, 4, 5, 6, 7, 9], [0, 1, 2, 3, 4, 5, 6, 7, 10]] (upd d_ 8)) := O.step (show ∀ e ∈ ([0] : List Nat), d_ e = true by simp [hdep])
      have q0 : d_ 0 = true := by simp [hdep]
      clear O
      rw [pk_of q0]
      have HF := Lib.hid F
      clear F hdep
      go_simp
      refine HK.out _ _ ⟨?_, HF.out, HO.out⟩
      rw [pk_of (show upd d_ 8 0 = true from q0)]
      all_goals rfl
    · have HO : Hid (OrdP [[], [], [0], [2], [1, 3], [4], [], [5, 6], [0], [8], [0, 1, 2, 3, 4, 5, 6, 7, 9], [0, 1, 2, 3, 4, 5, 6, 7, 10]] (upd d_ 9)) := O.step (show ∀ e ∈ ([8] : List Nat), d_ e = true by simp [hdep])
      have q8 : d_ 8 = true := by simp [hdep]
      clear O
      rw [pk_of q8]
      have HF := Lib.hid F
      clear F hdep
      go_simp
      refine HK.out _ _ ⟨?_, HF.out, HO.out⟩
      rw [pk_of (show upd d_ 9 8 = true from q8)]
      all_goals rfl
    · have HO : Hid (OrdP [[], [], [0], [2], [1, 3], [4], [], [5, 6], [0], [8], [0, 1, 2, 3, 4, 5, 6, 7, 9], [0, 1, 2, 3, 4, 5, 6, 7, 10]] (upd d_ 10)) := O.step (show ∀ e ∈ ([0, 1, 2, 3, 4, 5, 6, 7, 9] : List Nat), d_ e = true by simp [hdep])
      have q1 : d_ 1 = true := by simp [hdep]
      have q9 : d_ 9 = true := by simp [hdep]
      clear O
      have g1 := hj0
      have g2 := hj1
      rw [pk_of q1, pk_of q9]
      have HF := Lib.hid F
      clear F hdep
      go_simp
      refine HK.out _ _ ⟨?_, HF.out, HO.out⟩
      rw [pk_of (show upd d_ 10 1 = true from q1), pk_of (show upd d_ 10 9 = true from q9)]
      all_goals rfl
    · have HO : Hid (OrdP [[], [], [0], [2], [1, 3], [4], [], [5, 6], [0], [8], [0, 1, 2, 3, 4, 5, 6, 7, 9], [0, 1, 2, 3, 4, 5, 6, 7, 10]] (upd d_ 11)) := O.step (show ∀ e ∈ ([0, 1, 2, 3, 4, 5, 6, 7, 10] : List Nat), d_ e = true by simp [hdep])
      have q7 : d_ 7 = true := by simp [hdep]
      have q10 : d_ 10 = true := by simp [hdep]
      clear O
      rw [pk_of q7, pk_of q10]
      obtain ⟨hP, hN⟩ := ch1_s1 F hd_
      obtain ⟨⟨u0, c0⟩, z0, hR⟩ := ks11.out w1 hP
      have HF := Lib.hid (hN _ hR)
      clear F hP hR hN hdep
      go_simp
      have HG := HF.out
      refine HK.out _ _ ⟨?_, HG, HO.out⟩
      rw [pk_of (show upd d_ 11 7 = true from q7), pk_of (show upd d_ 11 10 = true from q10)]
      all_goals rfl
  · rintro d_ a_ w1 hall ⟨rfl, F, O⟩
    have hall' : ∀ k, k < 12 → d_ k = true := hall
    rw [hall' 11 (by decide)] at F
    have HF := Lib.hid F
    clear F
    rw [pk_of (hall' 0 (by decide)), pk_of (hall' 1 (by decide)), pk_of (hall' 2 (by decide)), pk_of (hall' 3 (by decide)), pk_of (hall' 4 (by decide)), pk_of (hall' 5 (by decide)), pk_of (hall' 6 (by decide)), pk_of (hall' 7 (by decide)), pk_of (hall' 8 (by decide)), pk_of (hall' 9 (by decide)), pk_of (hall' 10 (by decide))]
    exact HQ.out w1 HF.out
end Go.Proofs.YtbnhngfegnhaiaaDoor
namespace Go.Proofs.YtbnhngfegnhaiaaDoor
open Go.RowKit
set_option linter.unusedVariables false
set_option linter.unusedSimpArgs false
theorem or_lt1024 {a b : Nat} (ha : a < 1024) (hb : b < 1024) : a ||| b < 1024 := Nat.or_lt_two_pow (n := 10) ha hb
theorem and_lt1024 {a b : Nat} (ha : a < 1024) : a &&& b < 1024 := Nat.lt_of_le_of_lt Nat.and_le_left ha
/-- The block of what is joined. -/
def joiO (n : Nat) (a : Nat × Nat) (x y : Nat) : Array Value := #[.int .i64 (n : Int), .int .u64 (a.1 : Int), .int .u64 (a.2 : Int), .int .u64 (x : Int), .int .u64 (y : Int)]
def upA (k : Nat) (a c : Nat × Nat) : Nat × Nat := (if 0 < k then a.1 ||| c.1 else a.1, if 1 < k then a.2 ||| c.2 else a.2)
def gC (c : Nat × Nat) (k : Nat) : Nat := if k = 0 then c.1 else c.2
def setC (a : Nat × Nat) (k d : Nat) : Nat × Nat := if k = 0 then (d, a.2) else (a.1, d)
theorem gC_lt {c : Nat × Nat} (h : c.1 < 1024 ∧ c.2 < 1024) (k : Nat) : gC c k < 1024 := by unfold gC; split <;> omega
theorem joi_get {W : World} {o n x y k : Nat} {a : Nat × Nat} (h : W.heap[o]? = some (.cells (joiO n a x y) 108 (0, 0))) (hk : k < 2) : W.cell? ⟨o, 1 + k, none⟩ = some (.int .u64 (gC a k : Int)) ∧ W.cell? ⟨o, 3 + k, none⟩ = some (.int .u64 (gC (x, y) k : Int)) := by
  have : k = 0 ∨ k = 1 := by omega
  rcases this with rfl | rfl <;> exact ⟨(cell_of_heap h).trans rfl, (cell_of_heap h).trans rfl⟩
theorem joi_put {W : World} {o n x y k : Nat} {a : Nat × Nat} (d : Nat) (h : W.heap[o]? = some (.cells (joiO n a x y) 108 (0, 0))) (hk : k < 2) : (W.setCell ⟨o, 1 + k, none⟩ (.int .u64 (d : Int))).heap[o]? = some (.cells (joiO n (setC a k d) x y) 108 (0, 0)) ∧
    (W.setCell ⟨o, 3 + k, none⟩ (.int .u64 (d : Int))).heap[o]? = some (.cells (joiO n a (setC (x, y) k d).1 (setC (x, y) k d).2) 108 (0, 0)) := by
  have : k = 0 ∨ k = 1 := by omega
  rcases this with rfl | rfl
  · exact ⟨(heap_setCell_at (k := 1) h _).trans rfl, (heap_setCell_at (k := 3) h _).trans rfl⟩
  · exact ⟨(heap_setCell_at (k := 2) h _).trans rfl, (heap_setCell_at (k := 4) h _).trans rfl⟩
theorem upA_step {k : Nat} (a c : Nat × Nat) (hk : k < 2) : setC (upA k a c) k (gC a k ||| gC c k) = upA (k + 1) a c ∧ gC (upA k a c) k = gC a k := by
  have : k = 0 ∨ k = 1 := by omega
  rcases this with rfl | rfl <;> exact ⟨rfl, rfl⟩
theorem setC_lt {a : Nat × Nat} {k d : Nat} (h : a.1 < 1024 ∧ a.2 < 1024) (hd : d < 1024) : (setC a k d).1 < 1024 ∧ (setC a k d).2 < 1024 := by
  unfold setC
  split
  · exact ⟨hd, h.2⟩
  · exact ⟨h.1, hd⟩
structure JoiI (w0 : World) (o bx n : Nat) (a c : Nat × Nat) (k : Nat) (W : World) : Prop where
  le : Same (fun j => j = o) w0 W
  blk : ∃ x y : Nat, x < 1024 ∧ y < 1024 ∧ W.heap[o]? = some (.cells (joiO n (upA k a c) x y) 108 (0, 0))
noncomputable def joi4C : Code := (Tryd.f134.body.bind (fromRegion 4)).getD .skip
set_option maxRecDepth 100000 in
set_option maxHeartbeats 8000000 in
theorem join4 {w0 V : World} {o bx n : Nat} {a c : Nat × Nat} {R : Ending → World → Prop} (ha : a.1 < 1024 ∧ a.2 < 1024) (hc : c.1 < 1024 ∧ c.2 < 1024) (ho : o < w0.heap.size)
    (hI : JoiI w0 o bx n a c 0 V) (hb0 : V.cell? ⟨bx, 0, none⟩ = some (.int .u64 (c.1 : Int))) (hb1 : V.cell? ⟨bx, 1, none⟩ = some (.int .u64 (c.2 : Int))) {s2 s4 s5 s6 s7 s8 s9 s10 s11 s12 s13 s14 s15 s16 s17 s18 s19 s20 s21 s22 s23 s24 s25 s26 s27 s28 s29 s30 s31 s32 s33 s34 s35 s36 s37 s38 s39 s40 s41 s42 s43 s44 s45 s46 s47 s48 s49 s50 s51 : Value}
    (hR : ∀ W, JoiI w0 o bx n a c 2 W → R (.returned (.tuple #[])) W) :
    Code.wp Tryd.prog joi4C (bodyPost Tryd.prog Tryd.f134 R) { tmps := List.toArray (.pointer (some ⟨o, 0, none⟩) :: setV c :: s2 :: .pointer (some ⟨bx, 0, none⟩) :: s4 :: s5 :: s6 :: s7 :: s8 :: s9 :: s10 :: s11 :: s12 :: s13 :: s14 :: s15 :: s16 :: s17 :: s18 :: s19 :: s20 :: s21 :: s22 :: s23 :: s24 :: s25 :: s26 :: s27 :: s28 :: s29 :: s30 :: s31 :: s32 :: s33 :: s34 :: s35 :: s36 :: s37 :: s38 :: s39 :: s40 :: s41 :: s42 :: s43 :: s44 :: s45 :: s46 :: s47 :: s48 :: s49 :: s50 :: s51 :: []), defers := [] } V := by
  have HR := Lib.hid hR
  have HA := Lib.hid (And.intro ha hc)
  have HO := Lib.hid ho
  have HI := Lib.hid hI
  clear hR ha hc ho hI
  conv => arg 2; whnf
  refine wp_seq_hid ?_
  intro K4 HK4
  go_wp2_with fail
  refine HK4.out _ _ ?_
  clear HK4 K4 hb0 hb1
  refine wp_block ?_
  refine wp_loop (fun a' w => ∃ (k : Nat) (u4 u5 u23 u24 u25 u26 u27 u28 u29 u30 u31 u32 u33 u34 u35 u36 u37 u38 u39 u40 u41 u42 u43 u44 u45 u46 u47 u48 u49 u50 u51 : Value), k ≤ 2 ∧ a' = { tmps := List.toArray (.pointer (some ⟨o, 0, none⟩) :: setV c :: s2 :: .pointer (some ⟨bx, 0, none⟩) :: u4 :: u5 :: s6 :: s7 :: s8 :: s9 :: s10 :: s11 :: s12 :: s13 :: s14 :: s15 :: s16 :: s17 :: s18 :: s19 :: s20 :: setV c :: .int .i64 ((k : Int)) :: u23 :: u24 :: u25 :: u26 :: u27 :: u28 :: u29 :: u30 :: u31 :: u32 :: u33 :: u34 :: u35 :: u36 :: u37 :: u38 :: u39 :: u40 :: u41 :: u42 :: u43 :: u44 :: u45 :: u46 :: u47 :: u48 :: u49 :: u50 :: u51 :: []), defers := [] } ∧ JoiI w0 o bx n a c k w) (fun a' _ => 2 - (intOf (a'.tmps.getD 22 undef)).toNat)
    ⟨0, s4, s5, s23, s24, s25, s26, s27, s28, s29, s30, s31, s32, s33, s34, s35, s36, s37, s38, s39, s40, s41, s42, s43, s44, s45, s46, s47, s48, s49, s50, s51, by omega, rfl, HI.out⟩ ?_
  rintro a' w ⟨k, u4, u5, u23, u24, u25, u26, u27, u28, u29, u30, u31, u32, u33, u34, u35, u36, u37, u38, u39, u40, u41, u42, u43, u44, u45, u46, u47, u48, u49, u50, u51, hk, rfl, hW⟩
  have HW := Lib.hid hW
  clear hW HI
  by_cases hk2 : k < 2
  · have h1 : (k : Int) < 2 := by omega
    have h0 : (0 : Int) ≤ k := by omega
    have e25 : (Instr.index 106 (setV c) (.int .i64 (k : Int))).run Tryd.prog w = .ok (.int .u64 (gC c k : Int)) w := by
      have : k = 0 ∨ k = 1 := by omega
      rcases this with rfl | rfl <;> simp [Instr.index, gC, go_sem]
    have h5 : (k : Int) = 0 ∨ (k : Int) = 1 := by omega
    refine wp_seq_hid ?_
    intro Kr HKr
    go_wp2_with fail
    refine HKr.out _ _ ?_
    clear HKr Kr
    refine wp_seq_hid ?_
    intro Ks HKs
    go_wp2_with fail
    refine HKs.out _ _ ?_
    clear HKs Ks
    clear e25
    obtain ⟨x, y, hx, hy, hb⟩ := HW.out.blk
    have hk' : k < 2 := hk2
    have HB := Lib.hid hb
    have ha := gC_lt HA.out.1 k
    have hcc := gC_lt HA.out.2 k
    have hxy : gC (x, y) k < 1024 := gC_lt (c := (x, y)) ⟨hx, hy⟩ k
    clear hb
    refine wp_seq_hid ?_
    intro Kb HKb
    refine wp_block ?_
    refine wp_seq_hid ?_
    intro K6 HK6
    have e25 : (Instr.index 106 (setV c) (.int .i64 (k : Int))).run Tryd.prog w = .ok (.int .u64 (gC c k : Int)) w := by
      have : k = 0 ∨ k = 1 := by omega
      rcases this with rfl | rfl <;> simp [Instr.index, gC, go_sem]
    go_wp2_with fail
    refine HK6.out _ _ ?_
    clear HK6 K6 e25
    refine wp_seq_hid ?_
    intro K7 HK7
    have g7 := joi_get HB.out hk'
    rw [(upA_step a c hk').2] at g7
    obtain ⟨W1, hW1⟩ : ∃ W1, W1 = w.drew.alloc (.cells #[.int .u64 (gC a k : Int), .int .u64 (gC c k : Int)] 104) := ⟨_, rfl⟩
    have hn1 : W1.heap[w.heap.size]? = some (.cells #[.int .u64 (gC a k : Int), .int .u64 (gC c k : Int)] 104 (0, 0)) := by rw [hW1]; exact World.alloc_heap_new w.drew _
    have hs1 : Same (fun j => j = o) w W1 := by rw [hW1]; exact (Same.refl (fun j => j = o) w).drew.alloc _
    have hlt : o < w.heap.size := heap_lt HB.out
    have hb1 : W1.heap[o]? = some (.cells (joiO n (upA k a c) x y) 108 (0, 0)) := by
      rw [hW1]
      exact (Below.heap_alloc w.drew _ _ hlt).trans HB.out
    have HL1 := Lib.hid (And.intro hn1 (And.intro hs1 hb1))
    refine wpIn_wide.1 (joi7 (o := o) (N := w.heap.size) (a := gC a k) (c := gC c k) (d := gC a k ||| gC c k) (j := k) (P0 := fun v => v = w.drew) (P1 := fun v => v = W1) (P2 := fun v => v = W1) (P3 := fun v => v = W1.setCell ⟨o, 1 + k, none⟩ (.int .u64 ((gC a k ||| gC c k : Nat) : Int))) (by omega) (by omega) rfl ?l7 ?a9 ?c10 ?s14 ?hQ7)
    case l7 => rintro v rfl; exact g7.1
    case a9 => rintro v rfl; exact ⟨rfl, hW1.symm⟩
    case c10 => rintro v rfl; exact (union135 ha hcc HL1.out.1).mono (by rintro e w' ⟨rfl, rfl⟩; exact ⟨rfl, rfl⟩)
    case s14 => rintro v rfl; exact ⟨⟨_, (joi_get HL1.out.2.2 hk').1⟩, frozen_of_heap HL1.out.2.2, rfl⟩
    clear hW1 hn1 hs1 hb1 g7
    rintro w' rfl
    refine HK7.out _ _ ?_
    clear HK7 K7
    have hb2 := (joi_put (gC a k ||| gC c k) HL1.out.2.2 hk').1
    rw [(upA_step a c hk').1] at hb2
    have hs2 : Same (fun j => j = o) w (W1.setCell ⟨o, 1 + k, none⟩ (.int .u64 ((gC a k ||| gC c k : Nat) : Int))) := HL1.out.2.1.setCell (p := ⟨o, 1 + k, none⟩) (.inl rfl) _
    have HL2 := Lib.hid (And.intro hb2 hs2)
    clear hb2 hs2 HL1
    revert HL2
    generalize W1.setCell ⟨o, 1 + k, none⟩ (.int .u64 ((gC a k ||| gC c k : Nat) : Int)) = W2
    intro HL2
    refine wpIn_wide.1 (joi8 (o := o) (x := gC (x, y) k) (c := gC c k) (y := gC (x, y) k &&& gC c k) (j := k) (P0 := fun v => v = W2.drew) (P1 := fun v => v = W2.drew.setCell ⟨o, 3 + k, none⟩ (.int .u64 ((gC (x, y) k &&& gC c k : Nat) : Int))) (by omega) (by omega) (and_u64 _ _ (by omega) (by omega)) rfl ?l5 ?s11 ?hQ8)
    case l5 => rintro v rfl; exact (joi_get HL2.out.1 hk').2
    case s11 => rintro v rfl; exact ⟨⟨_, (joi_get HL2.out.1 hk').2⟩, frozen_of_heap HL2.out.1, rfl⟩
    rintro w' rfl
    have hb3 := (joi_put (W := W2.drew) (gC (x, y) k &&& gC c k) HL2.out.1 hk').2
    have hs3 : Same (fun j => j = o) w (W2.drew.setCell ⟨o, 3 + k, none⟩ (.int .u64 ((gC (x, y) k &&& gC c k : Nat) : Int))) := HL2.out.2.drew.setCell (p := ⟨o, 3 + k, none⟩) (.inl rfl) _
    have hlts := setC_lt (a := (x, y)) (k := k) ⟨hx, hy⟩ (and_lt1024 (b := gC c k) hxy)
    have HL3 : Hid (JoiI w0 o bx n a c (k + 1) (W2.drew.setCell ⟨o, 3 + k, none⟩ (.int .u64 ((gC (x, y) k &&& gC c k : Nat) : Int)))) := ⟨HW.out.le.trans (hs3.mono (fun _ _ e => e)), _, _, hlts.1, hlts.2, hb3⟩
    clear hb3 hs3 hlts HL2
    revert HL3
    generalize W2.drew.setCell ⟨o, 3 + k, none⟩ (.int .u64 ((gC (x, y) k &&& gC c k : Nat) : Int)) = W3
    intro HL3
    refine HKb.out _ _ ?_
    clear HKb Kb
    go_wp2_with fail
    exact ⟨⟨k + 1, _, _, _, _, _, _, _, _, _, _, _, _, _, _, _, _, _, _, _, _, _, _, _, _, _, _, _, _, _, _, _, by omega, rfl, HL3.out⟩, show 2 - ((k : Int) + 1).toNat < 2 - (k : Int).toNat by omega⟩
  · have h1 : ¬ (k : Int) < 2 := by omega
    have h2 : k = 2 := by omega
    subst h2
    go_wp2_with fail
    go_end0
    exact HR.out w HW.out
/-- What is joined of these cases: how many, and all marks of each row. -/
def JoiL (l : List (Nat × Nat)) : Nat × Nat := l.foldl (fun a c => (a.1 ||| c.1, a.2 ||| c.2)) (0, 0)
theorem JoiL_app (l : List (Nat × Nat)) (c : Nat × Nat) : JoiL (l ++ [c]) = ((JoiL l).1 ||| c.1, (JoiL l).2 ||| c.2) := by simp [JoiL]
def JoinB (l : List (Nat × Nat)) (ob : Obj) : Prop := ∃ x y : Nat, x < 1024 ∧ y < 1024 ∧ (JoiL l).1 < 1024 ∧ (JoiL l).2 < 1024 ∧ ob = .cells (joiO l.length (JoiL l) x y) 108 (0, 0)
set_option maxRecDepth 100000 in
set_option maxHeartbeats 8000000 in
theorem joined134 {o : Nat} {l : List (Nat × Nat)} {c : Nat × Nat} {w : World} {ob : Obj} (hl : l.length ≤ 100000) (hc : c.1 < 1024 ∧ c.2 < 1024) (ho : w.heap[o]? = some ob) (hb : JoinB l ob) :
    Calls Tryd.prog 134 #[.pointer (some ⟨o, 0, none⟩), setV c] w fun e w' => e = .returned (.tuple #[]) ∧ Same (fun j => j = o) w w' ∧ ∃ ob', w'.heap[o]? = some ob' ∧ JoinB (l ++ [c]) ob' := by
  obtain ⟨x, y, hx, hy, ha1, ha2, rfl⟩ := hb
  have HC := Lib.hid (And.intro hc (And.intro hx (And.intro hy (And.intro ha1 ha2))))
  have HLT := Lib.hid (heap_lt ho)
  have HX : Hid (Same (fun j => j = o) w (w.alloc (.cells #[.int .u64 c.1, .int .u64 c.2] 106)) ∧ (w.alloc (.cells #[.int .u64 c.1, .int .u64 c.2] 106)).heap[w.heap.size]? = some (.cells #[.int .u64 c.1, .int .u64 c.2] 106 (0, 0)) ∧ (w.alloc (.cells #[.int .u64 c.1, .int .u64 c.2] 106)).heap[o]? = some (.cells (joiO l.length (JoiL l) x y) 108 (0, 0)) ∧ o ≠ w.heap.size) :=
    ⟨(Same.refl _ w).alloc _, World.alloc_heap_new _ _, (Below.heap_alloc w _ _ (heap_lt ho)).trans ho, by have := heap_lt ho; omega⟩
  clear ho hx hy ha1 ha2
  go_enter Tryd.func134, Tryd.ntmps134
  refine wp_seq_hid ?_
  intro K0 HK0
  go_wp2_with fail
  refine HK0.out _ _ ?_
  clear HK0 K0
  revert HX
  generalize w.alloc (.cells #[.int .u64 c.1, .int .u64 c.2] 106) = w1
  generalize w.heap.size = bx
  intro HX
  refine wp_seq_hid ?_
  intro K1 HK1
  have v0 : ∀ y : Aft w1.heap.size w1, y.v.cell? ⟨bx, 0, none⟩ = some (.int .u64 c.1) := fun y => by rw [cell_of_heap ((y.h.block _ (heap_lt HX.out.2.1)).trans HX.out.2.1)]; rfl
  have v1 : ∀ y : Aft w1.heap.size w1, y.v.cell? ⟨bx, 1, none⟩ = some (.int .u64 c.2) := fun y => by rw [cell_of_heap ((y.h.block _ (heap_lt HX.out.2.1)).trans HX.out.2.1)]; rfl
  refine wp_region_aft_tail 4 mixed (by kernel_rfl) ?_
  simp only [List.take_succ_cons, List.take_zero, List.drop_succ_cons, List.drop_zero]
  repeat (go_big_quiet_step (fail))
  refine wpQuiet_nil ?_
  rintro _ ⟨y1, rfl⟩
  clear v0 v1
  have HY : Hid (Same (fun j => j = o) w y1.v ∧ y1.v.heap[bx]? = some (.cells #[.int .u64 c.1, .int .u64 c.2] 106 (0, 0)) ∧ y1.v.heap[o]? = some (.cells (joiO l.length (JoiL l) x y) 108 (0, 0)) ∧ o ≠ bx) :=
    ⟨HX.out.1.trans (Same.of_below _ y1.h), (y1.h.block _ (heap_lt HX.out.2.1)).trans HX.out.2.1, (y1.h.block _ (heap_lt HX.out.2.2.1)).trans HX.out.2.2.1, HX.out.2.2.2⟩
  clear HX
  revert HY
  generalize y1.v = w2
  intro HY
  clear y1
  go_wp2_with fail
  refine (counter88 (o := o) (n := l.length) (c := c) hl HY.out.2.2.1).mono ?_
  rintro e w3 ⟨rfl, hs3, hb3⟩
  have HZ : Hid (Same (fun j => j = o) w w3 ∧ w3.heap[bx]? = some (.cells #[.int .u64 c.1, .int .u64 c.2] 106 (0, 0)) ∧ w3.heap[o]? = some (.cells (joiO (l.length + 1) (JoiL l) x y) 108 (0, 0))) :=
    ⟨HY.out.1.trans (hs3.mono (fun _ _ e => e)), (hs3.block _ (heap_lt HY.out.2.1) (fun e => HY.out.2.2.2 e.symm)).trans HY.out.2.1, hb3⟩
  clear hs3 hb3
  go_wp2_with fail
  refine HK1.out _ _ ?_
  clear HK1 K1
  have c0 : w3.cell? ⟨o, 0, none⟩ = some (.int .i64 ((l.length + 1 : Nat) : Int)) := by rw [cell_of_heap HZ.out.2.2]; rfl
  have d0 : w3.cell? ⟨bx, 0, none⟩ = some (.int .u64 c.1) := by rw [cell_of_heap HZ.out.2.1]; rfl
  have d1 : w3.cell? ⟨bx, 1, none⟩ = some (.int .u64 c.2) := by rw [cell_of_heap HZ.out.2.1]; rfl
  have fo : ∀ k, w3.frozen? ⟨o, k, none⟩ = false := fun k => frozen_of_heap HZ.out.2.2
  have o3 : w3.cell? ⟨o, 3, none⟩ = some (.int .u64 x) := by rw [cell_of_heap HZ.out.2.2]; rfl
  have o4 : w3.cell? ⟨o, 4, none⟩ = some (.int .u64 y) := by rw [cell_of_heap HZ.out.2.2]; rfl
  have hfin : ∀ W, JoiI w o bx (l.length + 1) (JoiL l) c 2 W → Same (fun j => j = o) w W ∧ ∃ ob', W.heap[o]? = some ob' ∧ JoinB (l ++ [c]) ob' := fun W h => by
    obtain ⟨x', y', hx', hy', hb'⟩ := h.blk
    refine ⟨h.le, _, hb', x', y', hx', hy', ?_, ?_, ?_⟩
    · rw [JoiL_app]; exact or_lt1024 HC.out.2.2.2.1 HC.out.1.1
    · rw [JoiL_app]; exact or_lt1024 HC.out.2.2.2.2 HC.out.1.2
    · rw [JoiL_app, List.length_append]; rfl
  have HF := Lib.hid hfin
  clear hfin
  cases hz : ((l.length + 1 : Nat) : Int) == 1 with
  | true =>
    have hz2 : ((l.length + 1 : Nat) : Int) = 1 := by simpa using hz
    refine wp_seq_hid ?_
    intro K2 HK2
    go_wp2_with fail
    refine HK2.out _ _ ?_
    clear HK2 K2 c0 d0 d1 fo o3 o4
    have hb4 : ((w3.setCell ⟨o, 3, none⟩ (.int .u64 (c.1 : Int))).setCell ⟨o, 4, none⟩ (.int .u64 (c.2 : Int))).heap[o]? = some (.cells (joiO (l.length + 1) (JoiL l) c.1 c.2) 108 (0, 0)) :=
      (heap_setCell_at (k := 4) (heap_setCell_at (k := 3) HZ.out.2.2 (.int .u64 (c.1 : Int))) (.int .u64 (c.2 : Int))).trans rfl
    have hx4 : ((w3.setCell ⟨o, 3, none⟩ (.int .u64 (c.1 : Int))).setCell ⟨o, 4, none⟩ (.int .u64 (c.2 : Int))).heap[bx]? = some (.cells #[.int .u64 c.1, .int .u64 c.2] 106 (0, 0)) := by
      rw [Below.heap_setCell _ _ _ _ (Ne.symm HY.out.2.2.2), Below.heap_setCell _ _ _ _ (Ne.symm HY.out.2.2.2)]
      exact HZ.out.2.1
    exact join4 (a := JoiL l) (c := c) ⟨HC.out.2.2.2.1, HC.out.2.2.2.2⟩ HC.out.1 HLT.out ⟨(HZ.out.1.setCell (p := ⟨o, 3, none⟩) (.inl rfl) _).setCell (p := ⟨o, 4, none⟩) (.inl rfl) _, c.1, c.2, HC.out.1.1, HC.out.1.2, hb4⟩ ((cell_of_heap hx4).trans rfl) ((cell_of_heap hx4).trans rfl) (fun W h => ⟨rfl, HF.out W h⟩)
  | false =>
    have hz2 : ¬ ((l.length + 1 : Nat) : Int) = 1 := by simpa using hz
    refine wp_seq_hid ?_
    intro K2 HK2
    go_wp2_with fail
    refine HK2.out _ _ ?_
    clear HK2 K2 c0 d0 d1 fo o3 o4
    exact join4 (a := JoiL l) (c := c) ⟨HC.out.2.2.2.1, HC.out.2.2.2.2⟩ HC.out.1 HLT.out ⟨HZ.out.1, x, y, HC.out.2.1, HC.out.2.2.1, HZ.out.2.2⟩ ((cell_of_heap HZ.out.2.1).trans rfl) ((cell_of_heap HZ.out.2.1).trans rfl) (fun W h => ⟨rfl, HF.out W h⟩)
end Go.Proofs.YtbnhngfegnhaiaaDoor
namespace Go.Proofs.YtbnhngfegnhaiaaDoor
open Go.RowKit
set_option linter.unusedVariables false
set_option linter.unusedSimpArgs false
abbrev rulesL : Array Value := #[.func (.func 140) #[] #[], .func (.func 141) #[] #[], .func (.func 142) #[] #[]]
theorem rules138 (w : World) : Calls Tryd.prog 138 #[] w fun e w' => e = .returned (.slice (some ⟨w.heap.size, 0, none⟩) 3 3) ∧ w' = w.alloc (.cells rulesL 220) := by
  go_enter Tryd.func138, Tryd.ntmps138
  go_wp2_with fail
  go_ret
  exact ⟨rfl, rfl⟩
set_option maxRecDepth 100000 in
set_option maxHeartbeats 4000000 in
theorem rule140 {c : Nat × Nat} (hc : c.1 < 1024 ∧ c.2 < 1024) (w : World) : Calls Tryd.prog 140 #[setV c] w fun e w' => e = .returned (.int .i64 (wrap64 ((ones c.1.testBit 10 : Int) + (ones c.2.testBit 10 : Int)))) ∧ Below w.heap.size w w' := by
  have HC := Lib.hid hc
  have HX : Hid (Below w.heap.size w (w.alloc (.cells #[.int .u64 c.1, .int .u64 c.2] 106)) ∧ (w.alloc (.cells #[.int .u64 c.1, .int .u64 c.2] 106)).heap[w.heap.size]? = some (.cells #[.int .u64 c.1, .int .u64 c.2] 106 (0, 0))) := ⟨alloc_below _ _, World.alloc_heap_new _ _⟩
  clear hc
  go_enter Tryd.func140, Tryd.ntmps140
  refine wp_seq_hid ?_
  intro K0 HK0
  go_wp2_with fail
  refine HK0.out _ _ ?_
  clear HK0 K0
  revert HX
  generalize w.alloc (.cells #[.int .u64 c.1, .int .u64 c.2] 106) = w1
  generalize w.heap.size = bx
  intro HX
  refine wp_seq_hid ?_
  intro K1 HK1
  have v0 : ∀ y : Aft w1.heap.size w1, y.v.cell? ⟨bx, 0, none⟩ = some (.int .u64 c.1) := fun y => by rw [cell_of_heap ((y.h.block _ (heap_lt HX.out.2)).trans HX.out.2)]; rfl
  have v1 : ∀ y : Aft w1.heap.size w1, y.v.cell? ⟨bx, 1, none⟩ = some (.int .u64 c.2) := fun y => by rw [cell_of_heap ((y.h.block _ (heap_lt HX.out.2)).trans HX.out.2)]; rfl
  refine wp_region_aft mixed (by kernel_rfl) ?_
  repeat (go_big_quiet_step (first | (go_at_call 113; exact calls_aft_same ((many113 HC.out.1 _).mono (by rintro e w' ⟨rfl, rfl⟩; exact ⟨rfl, rfl⟩))) | (go_at_call 113; exact calls_aft_same ((many113 HC.out.2 _).mono (by rintro e w' ⟨rfl, rfl⟩; exact ⟨rfl, rfl⟩)))))
  refine wpQuiet_nil ?_
  rintro _ ⟨y, rfl⟩
  refine HK1.out _ _ ?_
  go_wp2_with fail
  go_ret
  exact ⟨rfl, HX.out.1.trans (y.h.mono (Nat.le_of_lt (heap_lt HX.out.2)))⟩
theorem rule141 {c : Nat × Nat} (hc : c.1 < 1024 ∧ c.2 < 1024) (w : World) : Calls Tryd.prog 141 #[setV c] w fun e w' => e = .returned (.int .i64 (ones c.2.testBit 10 : Int)) ∧ Below w.heap.size w w' := by
  have HC := Lib.hid hc
  have HX : Hid (Below w.heap.size w (w.alloc (.cells #[.int .u64 c.1, .int .u64 c.2] 106)) ∧ (w.alloc (.cells #[.int .u64 c.1, .int .u64 c.2] 106)).heap[w.heap.size]? = some (.cells #[.int .u64 c.1, .int .u64 c.2] 106 (0, 0))) := ⟨alloc_below _ _, World.alloc_heap_new _ _⟩
  clear hc
  go_enter Tryd.func141, Tryd.ntmps141
  refine wp_seq_hid ?_
  intro K0 HK0
  go_wp2_with fail
  refine HK0.out _ _ ?_
  clear HK0 K0
  revert HX
  generalize w.alloc (.cells #[.int .u64 c.1, .int .u64 c.2] 106) = w1
  generalize w.heap.size = bx
  intro HX
  have v1 : w1.cell? ⟨bx, 1, none⟩ = some (.int .u64 c.2) := by rw [cell_of_heap HX.out.2]; rfl
  go_wp2_with fail
  refine (many113 HC.out.2 _).mono ?_
  rintro e w' ⟨rfl, rfl⟩
  go_wp2_with fail
  go_ret
  exact ⟨rfl, HX.out.1⟩
theorem rule142 {c : Nat × Nat} (hc : c.1 < 1024 ∧ c.2 < 1024) (w : World) : Calls Tryd.prog 142 #[setV c] w fun e w' => e = .returned (.int .i64 ((c.1 ||| c.2 : Nat) : Int)) ∧ Below w.heap.size w w' := by
  have HC := Lib.hid hc
  have HX : Hid (Below w.heap.size w (w.alloc (.cells #[.int .u64 c.1, .int .u64 c.2] 106)) ∧ (w.alloc (.cells #[.int .u64 c.1, .int .u64 c.2] 106)).heap[w.heap.size]? = some (.cells #[.int .u64 c.1, .int .u64 c.2] 106 (0, 0))) := ⟨alloc_below _ _, World.alloc_heap_new _ _⟩
  have HL : Hid (c.1 ||| c.2 < 1024) := Nat.or_lt_two_pow (n := 10) hc.1 hc.2
  have HU := Lib.hid (fun (bs : Nat) (v : World) (h : v.heap[bs]? = some (.cells #[.int .u64 c.1, .int .u64 c.2] 104 (0, 0))) => union135 (bs := bs) (w := v) hc.1 hc.2 h)
  revert HL HU
  generalize c.1 ||| c.2 = z
  intro HL HU
  clear hc
  go_enter Tryd.func142, Tryd.ntmps142
  refine wp_seq_hid ?_
  intro K0 HK0
  go_wp2_with fail
  refine HK0.out _ _ ?_
  clear HK0 K0
  revert HX
  generalize w.alloc (.cells #[.int .u64 c.1, .int .u64 c.2] 106) = w1
  generalize hbx : w.heap.size = bx
  intro HX
  have v0 : w1.cell? ⟨bx, 0, none⟩ = some (.int .u64 c.1) := by rw [cell_of_heap HX.out.2]; rfl
  have v1 : w1.cell? ⟨bx, 1, none⟩ = some (.int .u64 c.2) := by rw [cell_of_heap HX.out.2]; rfl
  have HY : Hid (Below bx w (w1.alloc (.cells #[.int .u64 c.1, .int .u64 c.2] 104))) := HX.out.1.trans ((alloc_below w1 _).mono (by have := heap_lt HX.out.2; omega))
  clear hbx
  go_wp2_with fail
  refine (HU.out _ _ (World.alloc_heap_new _ _)).mono ?_
  rintro e w' ⟨rfl, rfl⟩
  have hz : (z : Int) < 1024 := by have := HL.out; omega
  go_wp2_with fail
  go_ret
  exact ⟨rfl, HY.out⟩
/-- What the k-th rule tells of a case. -/
def ruleV (k : Nat) (c : Nat × Nat) : Int := if k = 0 then wrap64 ((ones c.1.testBit 10 : Int) + (ones c.2.testBit 10 : Int)) else if k = 1 then (ones c.2.testBit 10 : Int) else ((c.1 ||| c.2 : Nat) : Int)
theorem ruleK {k : Nat} (hk : k < 3) {c : Nat × Nat} (hc : c.1 < 1024 ∧ c.2 < 1024) (w : World) : Calls Tryd.prog (140 + k) #[setV c] w fun e w' => e = .returned (.int .i64 (ruleV k c)) ∧ Below w.heap.size w w' := by
  have : k = 0 ∨ k = 1 ∨ k = 2 := by omega
  rcases this with rfl | rfl | rfl
  · rw [show ruleV 0 c = _ from if_pos rfl]
    exact rule140 hc w
  · rw [show ruleV 1 c = _ from (if_neg (by decide)).trans (if_pos rfl)]
    exact rule141 hc w
  · rw [show ruleV 2 c = _ from (if_neg (by decide)).trans (if_neg (by decide))]
    exact rule142 hc w
def firO (n : Nat) (b : Nat × Nat) : Array Value := #[.int .i64 (n : Int), .int .u64 (b.1 : Int), .int .u64 (b.2 : Int)]
structure FirI (w0 : World) (o bx rb n : Nat) (b c : Nat × Nat) (W : World) : Prop where
  le : Same (fun j => j = o) w0 W
  blk : W.heap[o]? = some (.cells (firO n b) 118 (0, 0))
  box : W.heap[bx]? = some (.cells #[.int .u64 c.1, .int .u64 c.2] 106 (0, 0))
  rul : W.heap[rb]? = some (.cells rulesL 220 (0, 0))
noncomputable def fir5C : Code := (Tryd.f137.body.bind (regionAt 5)).getD .skip
set_option maxRecDepth 100000 in
set_option maxHeartbeats 8000000 in
theorem fir5 {o bx p5 f c1 c2 b1 b2 : Nat} {v1 v2 v3 : Int} {P0 P1 P2 P3 : World → Prop} {Q : Exit → Act → World → Prop} {W1 : World} (cf : ∀ args w, (callFunc f args).run Tryd.prog w = .ok (.enter f args) w) (h0 : P0 W1.drew)
    (kl1 : Hid (∀ w : World, (P0 w ∨ P1 w ∨ P2 w ∨ P3 w) → w.cell? ⟨p5, 0, none⟩ = some (.func (.func f) #[] #[])))
    (kl2 : Hid (∀ w : World, (P0 w ∨ P1 w ∨ P2 w ∨ P3 w) → w.cell? ⟨bx, 0, none⟩ = some (.int .u64 ((c1 : Int))) ∧ w.cell? ⟨bx, 1, none⟩ = some (.int .u64 ((c2 : Int)))))
    (kc3 : Hid (∀ w : World, P0 w → Calls Tryd.prog f #[.agg #[.int .u64 ((c1 : Int)), .int .u64 ((c2 : Int))]] w fun e w' => e = .returned (.int .i64 (v1)) ∧ P1 w'))
    (kl5 : Hid (∀ w : World, (P0 w ∨ P1 w ∨ P2 w ∨ P3 w) → w.cell? ⟨p5, 0, none⟩ = some (.func (.func f) #[] #[])))
    (kl9 : Hid (∀ w : World, (P0 w ∨ P1 w ∨ P2 w ∨ P3 w) → w.cell? ⟨o, 1, none⟩ = some (.int .u64 ((b1 : Int))) ∧ w.cell? ⟨o, 2, none⟩ = some (.int .u64 ((b2 : Int)))))
    (kc10 : Hid (∀ w : World, P1 w → Calls Tryd.prog f #[.agg #[.int .u64 ((b1 : Int)), .int .u64 ((b2 : Int))]] w fun e w' => e = .returned (.int .i64 (v2)) ∧ P2 w'))
    (kc11 : Hid (∀ w : World, P2 w → Calls Tryd.prog 139 #[.int .i64 (v1), .int .i64 (v2)] w fun e w' => e = .returned (.int .i64 (v3)) ∧ P3 w'))
    {s1 s2 s4 s6 s7 s8 s9 s10 s11 s12 s13 s14 s15 s16 s17 s18 s19 s20 s21 s22 s23 s24 s25 s26 s27 s28 s29 s30 s31 s32 s33 s34 s35 s36 s37 s38 s39 s40 s41 s42 s43 s44 s45 s46 s47 s48 s49 s50 s51 s52 s53 s54 : Value} {dd : List Deferred}
    (hQ : ∀ w' : World, P3 w' → Q .normal { tmps := #[.pointer (some ⟨o, 0, none⟩),s1,s2,.pointer (some ⟨bx, 0, none⟩),s4,.pointer (some ⟨p5, 0, none⟩),.int .i64 (v3),s7,s8,s9,s10,s11,s12,s13,s14,s15,s16,s17,.pointer (some ⟨p5, 0, none⟩),.func (.func f) #[] #[],.agg #[.int .u64 ((c1 : Int)), .int .u64 ((c2 : Int))],.int .i64 (v1),.pointer (some ⟨p5, 0, none⟩),.func (.func f) #[] #[],.pointer (some ⟨o, 0, none⟩),.pointer (some ⟨o, 0, none⟩),.pointer (some ⟨o, 1, none⟩),.agg #[.int .u64 ((b1 : Int)), .int .u64 ((b2 : Int))],.int .i64 (v2),.int .i64 (v3),s30,s31,s32,s33,s34,s35,s36,s37,s38,s39,s40,s41,s42,s43,s44,s45,s46,s47,s48,s49,s50,s51,s52,s53,s54],defers := dd } w') :
    Code.wpIn (wideAt none) 0 Tryd.prog fir5C Q { tmps := #[.pointer (some ⟨o, 0, none⟩),s1,s2,.pointer (some ⟨bx, 0, none⟩),s4,.pointer (some ⟨p5, 0, none⟩),s6,s7,s8,s9,s10,s11,s12,s13,s14,s15,s16,s17,s18,s19,s20,s21,s22,s23,s24,s25,s26,s27,s28,s29,s30,s31,s32,s33,s34,s35,s36,s37,s38,s39,s40,s41,s42,s43,s44,s45,s46,s47,s48,s49,s50,s51,s52,s53,s54],defers := dd } W1 := by
  have HQ := Lib.hid hQ
  clear hQ
  conv => arg 4; whnf
  refine wpIn_region_invG mixed (by kernel_rfl) (fun d_ a_ w' => a_ = { tmps := #[.pointer (some ⟨o, 0, none⟩),s1,s2,.pointer (some ⟨bx, 0, none⟩),s4,.pointer (some ⟨p5, 0, none⟩),pk (d_ 12) (.int .i64 (v3)) s6,s7,s8,s9,s10,s11,s12,s13,s14,s15,s16,s17,pk (d_ 0) (.pointer (some ⟨p5, 0, none⟩)) s18,pk (d_ 1) (.func (.func f) #[] #[]) s19,pk (d_ 2) (.agg #[.int .u64 ((c1 : Int)), .int .u64 ((c2 : Int))]) s20,pk (d_ 3) (.int .i64 (v1)) s21,pk (d_ 4) (.pointer (some ⟨p5, 0, none⟩)) s22,pk (d_ 5) (.func (.func f) #[] #[]) s23,pk (d_ 6) (.pointer (some ⟨o, 0, none⟩)) s24,pk (d_ 7) (.pointer (some ⟨o, 0, none⟩)) s25,pk (d_ 8) (.pointer (some ⟨o, 1, none⟩)) s26,pk (d_ 9) (.agg #[.int .u64 ((b1 : Int)), .int .u64 ((b2 : Int))]) s27,pk (d_ 10) (.int .i64 (v2)) s28,pk (d_ 11) (.int .i64 (v3)) s29,s30,s31,s32,s33,s34,s35,s36,s37,s38,s39,s40,s41,s42,s43,s44,s45,s46,s47,s48,s49,s50,s51,s52,s53,s54],defers := dd } ∧ ch3 P0 P1 P2 P3 (d_ 3) (d_ 10) (d_ 11) w') ?_ ?_ ?_
  · exact ⟨rfl, h0⟩
  · refine ⟨?_,?_,?_,?_,?_,?_,?_,?_,?_,?_,?_,?_,?_, trivial⟩
    all_goals
      rintro d_ a_ w1 K hd_ hdep ⟨rfl, F⟩ HK
      simp [Region.binds] at hdep
    · have HF := Lib.hid F
      clear F hdep
      go_simp
      refine HK.out _ _ ⟨?_, HF.out⟩
      all_goals rfl
    · have q0 : d_ 0 = true := by simp [hdep]
      have kk := kl1.out w1 (ch3_or F)
      rw [pk_of q0]
      have HF := Lib.hid F
      clear F hdep
      go_simp
      refine HK.out _ _ ⟨?_, HF.out⟩
      rw [pk_of (show upd d_ 1 0 = true from q0)]
      all_goals rfl
    · have kk := kl2.out w1 (ch3_or F)
      obtain ⟨kk0, kk1⟩ := kk
      have HF := Lib.hid F
      clear F hdep
      go_simp
      refine HK.out _ _ ⟨?_, HF.out⟩
      all_goals rfl
    · have q1 : d_ 1 = true := by simp [hdep]
      have q2 : d_ 2 = true := by simp [hdep]
      rw [pk_of q1, pk_of q2]
      obtain ⟨hP, hN⟩ := ch3_s1 F hd_
      have hc := kc3.out w1 hP
      have HN := Lib.hid hN
      clear F hP hN hdep
      have cfx := cf
      go_simp
      refine ⟨trivial, rfl, wideAt_calls (hc.mono ?_)⟩
      rintro e w5 ⟨rfl, hR⟩
      have HG := HN.out w5 hR
      refine HK.out _ _ ⟨?_, HG⟩
      rw [pk_of (show upd d_ 3 1 = true from q1), pk_of (show upd d_ 3 2 = true from q2)]
      all_goals rfl
    · have HF := Lib.hid F
      clear F hdep
      go_simp
      refine HK.out _ _ ⟨?_, HF.out⟩
      all_goals rfl
    · have q4 : d_ 4 = true := by simp [hdep]
      have kk := kl5.out w1 (ch3_or F)
      rw [pk_of q4]
      have HF := Lib.hid F
      clear F hdep
      go_simp
      refine HK.out _ _ ⟨?_, HF.out⟩
      rw [pk_of (show upd d_ 5 4 = true from q4)]
      all_goals rfl
    · have HF := Lib.hid F
      clear F hdep
      go_simp
      refine HK.out _ _ ⟨?_, HF.out⟩
      all_goals rfl
    · have q6 : d_ 6 = true := by simp [hdep]
      rw [pk_of q6]
      have HF := Lib.hid F
      clear F hdep
      go_simp
      refine HK.out _ _ ⟨?_, HF.out⟩
      rw [pk_of (show upd d_ 7 6 = true from q6)]
      all_goals rfl
    · have q7 : d_ 7 = true := by simp [hdep]
      rw [pk_of q7]
      have HF := Lib.hid F
      clear F hdep
      go_simp
      refine HK.out _ _ ⟨?_, HF.out⟩
      rw [pk_of (show upd d_ 8 7 = true from q7)]
      all_goals rfl
    · have q8 : d_ 8 = true := by simp [hdep]
      have kk := kl9.out w1 (ch3_or F)
      obtain ⟨kk0, kk1⟩ := kk
      rw [pk_of q8]
      have HF := Lib.hid F
      clear F hdep
      go_simp
      refine HK.out _ _ ⟨?_, HF.out⟩
      rw [pk_of (show upd d_ 9 8 = true from q8)]
      all_goals rfl
    · have q5 : d_ 5 = true := by simp [hdep]
      have q9 : d_ 9 = true := by simp [hdep]
      rw [pk_of q5, pk_of q9]
      obtain ⟨hP, hN⟩ := ch3_s2 F (show d_ 3 = true by simp [hdep]) hd_
      have hc := kc10.out w1 hP
      have HN := Lib.hid hN
      clear F hP hN hdep
      have cfx := cf
      go_simp
      refine ⟨trivial, rfl, wideAt_calls (hc.mono ?_)⟩
      rintro e w5 ⟨rfl, hR⟩
      have HG := HN.out w5 hR
      refine HK.out _ _ ⟨?_, HG⟩
      rw [pk_of (show upd d_ 10 5 = true from q5), pk_of (show upd d_ 10 9 = true from q9)]
      all_goals rfl
    · have q3 : d_ 3 = true := by simp [hdep]
      have q10 : d_ 10 = true := by simp [hdep]
      rw [pk_of q3, pk_of q10]
      obtain ⟨hP, hN⟩ := ch3_s3 F (show d_ 10 = true by simp [hdep]) hd_
      have hc := kc11.out w1 hP
      have HN := Lib.hid hN
      clear F hP hN hdep
      go_simp
      refine ⟨trivial, rfl, wideAt_calls (hc.mono ?_)⟩
      rintro e w5 ⟨rfl, hR⟩
      have HG := HN.out w5 hR
      refine HK.out _ _ ⟨?_, HG⟩
      rw [pk_of (show upd d_ 11 3 = true from q3), pk_of (show upd d_ 11 10 = true from q10)]
      all_goals rfl
    · have q11 : d_ 11 = true := by simp [hdep]
      rw [pk_of q11]
      have HF := Lib.hid F
      clear F hdep
      go_simp
      refine HK.out _ _ ⟨?_, HF.out⟩
      rw [pk_of (show upd d_ 12 11 = true from q11)]
      all_goals rfl
  · rintro d_ a_ w1 hall ⟨rfl, F⟩
    have hall' : ∀ k, k < 13 → d_ k = true := hall
    rw [hall' 3 (by decide), hall' 10 (by decide), hall' 11 (by decide)] at F
    have HF := Lib.hid F
    clear F
    rw [pk_of (hall' 0 (by decide)), pk_of (hall' 1 (by decide)), pk_of (hall' 2 (by decide)), pk_of (hall' 3 (by decide)), pk_of (hall' 4 (by decide)), pk_of (hall' 5 (by decide)), pk_of (hall' 6 (by decide)), pk_of (hall' 7 (by decide)), pk_of (hall' 8 (by decide)), pk_of (hall' 9 (by decide)), pk_of (hall' 10 (by decide)), pk_of (hall' 11 (by decide)), pk_of (hall' 12 (by decide))]
    exact HQ.out w1 HF.out
noncomputable def fir2C : Code := (Tryd.f137.body.bind (fromRegion 2)).getD .skip
set_option maxRecDepth 100000 in
set_option maxHeartbeats 8000000 in
theorem first2 {w0 V : World} {o bx n : Nat} {b c : Nat × Nat} {R : Ending → World → Prop} (hb : b.1 < 1024 ∧ b.2 < 1024) (hc : c.1 < 1024 ∧ c.2 < 1024) (hob : o ≠ bx) (hol : o < w0.heap.size) (hn : 1 ≤ n ∧ n ≤ 100001)
    (hle : Same (fun j => j = o) w0 V) (hblk : V.heap[o]? = some (.cells (firO n b) 118 (0, 0))) (hbox : V.heap[bx]? = some (.cells #[.int .u64 c.1, .int .u64 c.2] 106 (0, 0))) {s2 s4 s5 s6 s7 s8 s9 s10 s11 s12 s13 s14 s15 s16 s17 s18 s19 s20 s21 s22 s23 s24 s25 s26 s27 s28 s29 s30 s31 s32 s33 s34 s35 s36 s37 s38 s39 s40 s41 s42 s43 s44 s45 s46 s47 s48 s49 s50 s51 s52 s53 s54 : Value}
    (hR : ∀ W b', Same (fun j => j = o) w0 W → W.heap[o]? = some (.cells (firO n b') 118 (0, 0)) → (b' = c ∨ (b' = b ∧ n ≠ 1)) → R (.returned (.tuple #[])) W) :
    Code.wp Tryd.prog fir2C (bodyPost Tryd.prog Tryd.f137 R) { tmps := List.toArray (.pointer (some ⟨o, 0, none⟩) :: setV c :: s2 :: .pointer (some ⟨bx, 0, none⟩) :: s4 :: s5 :: s6 :: s7 :: s8 :: s9 :: s10 :: s11 :: s12 :: s13 :: s14 :: s15 :: s16 :: s17 :: s18 :: s19 :: s20 :: s21 :: s22 :: s23 :: s24 :: s25 :: s26 :: s27 :: s28 :: s29 :: s30 :: s31 :: s32 :: s33 :: s34 :: s35 :: s36 :: s37 :: s38 :: s39 :: s40 :: s41 :: s42 :: s43 :: s44 :: s45 :: s46 :: s47 :: s48 :: s49 :: s50 :: s51 :: s52 :: s53 :: s54 :: []), defers := [] } V := by
  have HR := Lib.hid hR
  have HB := Lib.hid (And.intro hb hc)
  have HN := Lib.hid (And.intro hob (And.intro hol hn))
  have HI : Hid (FirI w0 o bx V.heap.size n b c (V.alloc (.cells rulesL 220))) := ⟨hle.alloc _, (Below.heap_alloc V _ _ (heap_lt hblk)).trans hblk, (Below.heap_alloc V _ _ (heap_lt hbox)).trans hbox, World.alloc_heap_new _ _⟩
  clear hR hb hc hob hol hn hle hblk hbox
  conv => arg 2; whnf
  refine wp_seq_hid ?_
  intro K2 HK2
  go_wp2_with fail
  refine (rules138 V).mono ?_
  rintro e w1 ⟨rfl, rfl⟩
  go_wp2_with fail
  refine HK2.out _ _ ?_
  clear HK2 K2
  revert HI
  generalize V.alloc (.cells rulesL 220) = w1
  generalize V.heap.size = rb
  intro HI
  refine wp_block ?_
  refine wp_loop (fun a' w => ∃ (k : Nat) (u5 u6 u15 u16 u17 u18 u19 u20 u21 u22 u23 u24 u25 u26 u27 u28 u29 u30 u31 u32 u33 u34 u35 u36 u37 u38 u39 u40 u41 u42 u43 u44 u45 u46 u47 u48 u49 u50 u51 u52 u53 u54 : Value), k ≤ 3 ∧ (k = 0 ∨ n ≠ 1) ∧ a' = { tmps := List.toArray (.pointer (some ⟨o, 0, none⟩) :: setV c :: s2 :: .pointer (some ⟨bx, 0, none⟩) :: s4 :: u5 :: u6 :: s7 :: s8 :: s9 :: s10 :: s11 :: .slice (some ⟨rb, 0, none⟩) 3 3 :: .int .i64 (3) :: .int .i64 ((k : Int)) :: u15 :: u16 :: u17 :: u18 :: u19 :: u20 :: u21 :: u22 :: u23 :: u24 :: u25 :: u26 :: u27 :: u28 :: u29 :: u30 :: u31 :: u32 :: u33 :: u34 :: u35 :: u36 :: u37 :: u38 :: u39 :: u40 :: u41 :: u42 :: u43 :: u44 :: u45 :: u46 :: u47 :: u48 :: u49 :: u50 :: u51 :: u52 :: u53 :: u54 :: []), defers := [] } ∧ FirI w0 o bx rb n b c w) (fun a' _ => 3 - (intOf (a'.tmps.getD 14 undef)).toNat)
    ⟨0, s5, s6, s15, s16, s17, s18, s19, s20, s21, s22, s23, s24, s25, s26, s27, s28, s29, s30, s31, s32, s33, s34, s35, s36, s37, s38, s39, s40, s41, s42, s43, s44, s45, s46, s47, s48, s49, s50, s51, s52, s53, s54, by omega, .inl rfl, rfl, HI.out⟩ ?_
  rintro a' w ⟨k, u5, u6, u15, u16, u17, u18, u19, u20, u21, u22, u23, u24, u25, u26, u27, u28, u29, u30, u31, u32, u33, u34, u35, u36, u37, u38, u39, u40, u41, u42, u43, u44, u45, u46, u47, u48, u49, u50, u51, u52, u53, u54, hk, hk0, rfl, hW⟩
  have HW := Lib.hid hW
  clear hW HI
  by_cases hk3 : k < 3
  · have h1 : (k : Int) < 3 := by omega
    have h0 : (0 : Int) ≤ k := by omega
    refine wp_seq_hid ?_
    intro Kr HKr
    go_wp2_with fail
    refine HKr.out _ _ ?_
    clear HKr Kr
    refine wp_seq_hid ?_
    intro Ks HKs
    go_wp2_with fail
    refine HKs.out _ _ ?_
    clear HKs Ks
    refine wp_seq_hid ?_
    intro Kb HKb
    refine wp_block ?_
    refine wp_seq_hid ?_
    intro K4 HK4
    have c4 : w.cell? ⟨rb, k, none⟩ = some (.func (.func (140 + k)) #[] #[]) := by
      have : k = 0 ∨ k = 1 ∨ k = 2 := by omega
      rcases this with rfl | rfl | rfl <;> rw [cell_of_heap HW.out.rul] <;> rfl
    go_wp2_with fail
    refine HK4.out _ _ ?_
    clear HK4 K4 c4
    have HV : Hid (FirI w0 o bx rb n b c (w.alloc (.cells #[.func (.func (140 + k)) #[] #[]] 220)) ∧ (w.alloc (.cells #[.func (.func (140 + k)) #[] #[]] 220)).heap[w.heap.size]? = some (.cells #[.func (.func (140 + k)) #[] #[]] 220 (0, 0))) :=
      ⟨⟨HW.out.le.alloc _, (Below.heap_alloc w _ _ (heap_lt HW.out.blk)).trans HW.out.blk, (Below.heap_alloc w _ _ (heap_lt HW.out.box)).trans HW.out.box, (Below.heap_alloc w _ _ (heap_lt HW.out.rul)).trans HW.out.rul⟩, World.alloc_heap_new _ _⟩
    clear HW
    revert HV
    generalize w.alloc (.cells #[.func (.func (140 + k)) #[] #[]] 220) = w4
    generalize w.heap.size = p5
    intro HV
    refine wp_seq_hid ?_
    intro K5 HK5
    have cfk : ∀ args w, (callFunc (140 + k) args).run Tryd.prog w = .ok (.enter (140 + k) args) w := by
      have : k = 0 ∨ k = 1 ∨ k = 2 := by omega
      rcases this with rfl | rfl | rfl <;> intro args w <;> simp [callFunc, go_sem, Tryd.func140, Tryd.f140, Tryd.func141, Tryd.f141, Tryd.func142, Tryd.f142]
    refine wpIn_wide.1 (fir5 (o := o) (bx := bx) (p5 := p5) (f := 140 + k) (c1 := c.1) (c2 := c.2) (b1 := b.1) (b2 := b.2) (v1 := ruleV k c) (v2 := ruleV k b) (v3 := cmpI (ruleV k c) (ruleV k b)) (P0 := fun v => Below w4.heap.size w4 v) (P1 := fun v => Below w4.heap.size w4 v) (P2 := fun v => Below w4.heap.size w4 v) (P3 := fun v => Below w4.heap.size w4 v) cfk (Below.refl _ w4).drew ?l1 ?l2 ?c3 ?l5 ?l9 ?c10 ?c11 ?hQ)
    case l1 => exact fun v h => (cell_of_heap (((by simpa using h : Below w4.heap.size w4 v).block _ (heap_lt HV.out.2)).trans HV.out.2)).trans rfl
    case l5 => exact fun v h => (cell_of_heap (((by simpa using h : Below w4.heap.size w4 v).block _ (heap_lt HV.out.2)).trans HV.out.2)).trans rfl
    case l2 => exact fun v h => ⟨(cell_of_heap (((by simpa using h : Below w4.heap.size w4 v).block _ (heap_lt HV.out.1.box)).trans HV.out.1.box)).trans rfl, (cell_of_heap (((by simpa using h : Below w4.heap.size w4 v).block _ (heap_lt HV.out.1.box)).trans HV.out.1.box)).trans rfl⟩
    case l9 => exact fun v h => ⟨(cell_of_heap (((by simpa using h : Below w4.heap.size w4 v).block _ (heap_lt HV.out.1.blk)).trans HV.out.1.blk)).trans rfl, (cell_of_heap (((by simpa using h : Below w4.heap.size w4 v).block _ (heap_lt HV.out.1.blk)).trans HV.out.1.blk)).trans rfl⟩
    case c3 => exact fun v h => (ruleK hk3 HB.out.2 v).mono (fun e w' ⟨he, hb'⟩ => ⟨he, h.trans (hb'.mono h.size)⟩)
    case c10 => exact fun v h => (ruleK hk3 HB.out.1 v).mono (fun e w' ⟨he, hb'⟩ => ⟨he, h.trans (hb'.mono h.size)⟩)
    case c11 => exact fun v h => (cmp139 _ _ v).mono (fun e w' ⟨he, hb'⟩ => ⟨he, hb' ▸ h⟩)
    intro w5 hb5
    refine HK5.out _ _ ?_
    clear HK5 K5 cfk
    have HV5 : Hid (FirI w0 o bx rb n b c w5) := ⟨HV.out.1.le.trans (Same.of_below _ hb5), (hb5.block _ (heap_lt HV.out.1.blk)).trans HV.out.1.blk, (hb5.block _ (heap_lt HV.out.1.box)).trans HV.out.1.box, (hb5.block _ (heap_lt HV.out.1.rul)).trans HV.out.1.rul⟩
    clear HV hb5
    generalize cmpI (ruleV k c) (ruleV k b) = cm
    have o0 : w5.cell? ⟨o, 0, none⟩ = some (.int .i64 n) := by rw [cell_of_heap HV5.out.blk]; rfl
    have d0 : w5.cell? ⟨bx, 0, none⟩ = some (.int .u64 c.1) := by rw [cell_of_heap HV5.out.box]; rfl
    have d1 : w5.cell? ⟨bx, 1, none⟩ = some (.int .u64 c.2) := by rw [cell_of_heap HV5.out.box]; rfl
    have p1 : w5.cell? ⟨o, 1, none⟩ = some (.int .u64 b.1) := by rw [cell_of_heap HV5.out.blk]; rfl
    have p2 : w5.cell? ⟨o, 2, none⟩ = some (.int .u64 b.2) := by rw [cell_of_heap HV5.out.blk]; rfl
    have fo : ∀ j, w5.frozen? ⟨o, j, none⟩ = false := fun j => frozen_of_heap HV5.out.blk
    have hst : ((w5.setCell ⟨o, 1, none⟩ (.int .u64 (c.1 : Int))).setCell ⟨o, 2, none⟩ (.int .u64 (c.2 : Int))).heap[o]? = some (.cells (firO n c) 118 (0, 0)) :=
      (heap_setCell_at (k := 2) (heap_setCell_at (k := 1) HV5.out.blk (.int .u64 (c.1 : Int))) (.int .u64 (c.2 : Int))).trans rfl
    have HST := Lib.hid (And.intro ((HV5.out.le.setCell (p := ⟨o, 1, none⟩) (.inl rfl) (.int .u64 (c.1 : Int))).setCell (p := ⟨o, 2, none⟩) (.inl rfl) (.int .u64 (c.2 : Int))) hst)
    clear hst
    by_cases hn1 : (n : Int) = 1
    · have hn2 : ((n : Int) == 1) = true := by simpa using hn1
      rw [hn1] at o0
      cases hm : decide (cm < 0)
      all_goals cases hm2 : (cm != 0)
      all_goals
        go_wp2_with fail
      all_goals
        go_end0
        exact HR.out _ c HST.out.1 HST.out.2 (.inl rfl)
    · have hn2 : ((n : Int) == 1) = false := by simpa using hn1
      have hn3 : n ≠ 1 := by omega
      have HN3 := Lib.hid hn3
      clear hn3
      have hc3 : cm < 0 ∨ 0 < cm ∨ cm = 0 := by omega
      rcases hc3 with hm | hm | hm
      · have hm1 : ¬ cm = 0 := by omega
        have hm2 : (cm != 0) = true := by simpa using hm1
        go_wp2_with fail
        go_end0
        exact HR.out _ c HST.out.1 HST.out.2 (.inl rfl)
      · have hm1 : ¬ cm = 0 := by omega
        have hm2 : (cm != 0) = true := by simpa using hm1
        have hm3 : ¬ cm < 0 := by omega
        go_wp2_with fail
        go_end0
        exact HR.out _ b HV5.out.le HV5.out.blk (.inr ⟨rfl, HN3.out⟩)
      · subst hm
        go_wp2_with fail
        refine HKb.out _ _ ?_
        clear HKb Kb HST o0 d0 d1 p1 p2 fo
        go_wp2_with fail
        exact ⟨⟨k + 1, _, _, _, _, _, _, _, _, _, _, _, _, _, _, _, _, _, _, _, _, _, _, _, _, _, _, _, _, _, _, _, _, _, _, _, _, _, _, _, _, _, _, by omega, .inr HN3.out, rfl, HV5.out⟩, show 3 - ((k : Int) + 1).toNat < 3 - (k : Int).toNat by omega⟩
  · have h1 : ¬ (k : Int) < 3 := by omega
    have h2 : n ≠ 1 := by omega
    go_wp2_with fail
    go_end0
    exact HR.out w b HW.out.le HW.out.blk (.inr ⟨rfl, h2⟩)
/-- What is known of the first case of these. -/
def FirB (l : List (Nat × Nat)) (ob : Obj) : Prop := ∃ b : Nat × Nat, b.1 < 1024 ∧ b.2 < 1024 ∧ (l ≠ [] → b ∈ l) ∧ ob = .cells (firO l.length b) 118 (0, 0)
set_option maxRecDepth 100000 in
set_option maxHeartbeats 8000000 in
theorem first137 {o : Nat} {l : List (Nat × Nat)} {c : Nat × Nat} {w : World} {ob : Obj} (hl : l.length ≤ 100000) (hc : c.1 < 1024 ∧ c.2 < 1024) (ho : w.heap[o]? = some ob) (hb : FirB l ob) :
    Calls Tryd.prog 137 #[.pointer (some ⟨o, 0, none⟩), setV c] w fun e w' => e = .returned (.tuple #[]) ∧ Same (fun j => j = o) w w' ∧ ∃ ob', w'.heap[o]? = some ob' ∧ FirB (l ++ [c]) ob' := by
  obtain ⟨b, hb1, hb2, hm, rfl⟩ := hb
  have HC := Lib.hid (And.intro hc (And.intro hb1 (And.intro hb2 hm)))
  have HLT := Lib.hid (heap_lt ho)
  have HX : Hid (Same (fun j => j = o) w (w.alloc (.cells #[.int .u64 c.1, .int .u64 c.2] 106)) ∧ (w.alloc (.cells #[.int .u64 c.1, .int .u64 c.2] 106)).heap[w.heap.size]? = some (.cells #[.int .u64 c.1, .int .u64 c.2] 106 (0, 0)) ∧ (w.alloc (.cells #[.int .u64 c.1, .int .u64 c.2] 106)).heap[o]? = some (.cells (firO l.length b) 118 (0, 0)) ∧ o ≠ w.heap.size) :=
    ⟨(Same.refl _ w).alloc _, World.alloc_heap_new _ _, (Below.heap_alloc w _ _ (heap_lt ho)).trans ho, by have := heap_lt ho; omega⟩
  clear ho hb1 hb2 hm
  go_enter Tryd.func137, Tryd.ntmps137
  refine wp_seq_hid ?_
  intro K0 HK0
  go_wp2_with fail
  refine HK0.out _ _ ?_
  clear HK0 K0
  revert HX
  generalize w.alloc (.cells #[.int .u64 c.1, .int .u64 c.2] 106) = w1
  generalize w.heap.size = bx
  intro HX
  refine wp_seq_hid ?_
  intro K1 HK1
  have v0 : ∀ y : Aft w1.heap.size w1, y.v.cell? ⟨bx, 0, none⟩ = some (.int .u64 c.1) := fun y => by rw [cell_of_heap ((y.h.block _ (heap_lt HX.out.2.1)).trans HX.out.2.1)]; rfl
  have v1 : ∀ y : Aft w1.heap.size w1, y.v.cell? ⟨bx, 1, none⟩ = some (.int .u64 c.2) := fun y => by rw [cell_of_heap ((y.h.block _ (heap_lt HX.out.2.1)).trans HX.out.2.1)]; rfl
  refine wp_region_aft_tail 4 mixed (by kernel_rfl) ?_
  simp only [List.take_succ_cons, List.take_zero, List.drop_succ_cons, List.drop_zero]
  repeat (go_big_quiet_step (fail))
  refine wpQuiet_nil ?_
  rintro _ ⟨y1, rfl⟩
  clear v0 v1
  have HY : Hid (Same (fun j => j = o) w y1.v ∧ y1.v.heap[bx]? = some (.cells #[.int .u64 c.1, .int .u64 c.2] 106 (0, 0)) ∧ y1.v.heap[o]? = some (.cells (firO l.length b) 118 (0, 0)) ∧ o ≠ bx) :=
    ⟨HX.out.1.trans (Same.of_below _ y1.h), (y1.h.block _ (heap_lt HX.out.2.1)).trans HX.out.2.1, (y1.h.block _ (heap_lt HX.out.2.2.1)).trans HX.out.2.2.1, HX.out.2.2.2⟩
  clear HX
  revert HY
  generalize y1.v = w2
  intro HY
  clear y1
  go_wp2_with fail
  refine (counter88 (o := o) (n := l.length) (c := c) hl HY.out.2.2.1).mono ?_
  rintro e w3 ⟨rfl, hs3, hb3⟩
  have HZ : Hid (Same (fun j => j = o) w w3 ∧ w3.heap[bx]? = some (.cells #[.int .u64 c.1, .int .u64 c.2] 106 (0, 0)) ∧ w3.heap[o]? = some (.cells (firO (l.length + 1) b) 118 (0, 0))) :=
    ⟨HY.out.1.trans (hs3.mono (fun _ _ e => e)), (hs3.block _ (heap_lt HY.out.2.1) (fun e => HY.out.2.2.2 e.symm)).trans HY.out.2.1, hb3⟩
  clear hs3 hb3
  go_wp2_with fail
  refine HK1.out _ _ ?_
  clear HK1 K1
  refine first2 (b := b) (c := c) (n := l.length + 1) ⟨HC.out.2.1, HC.out.2.2.1⟩ HC.out.1 HY.out.2.2.2 HLT.out ⟨by omega, by omega⟩ HZ.out.1 HZ.out.2.2 HZ.out.2.1 (fun W b' hs hb' hcase => ⟨rfl, hs, _, hb', b', ?_, ?_, ?_, by rw [List.length_append]; rfl⟩)
  · rcases hcase with rfl | ⟨rfl, _⟩
    · exact HC.out.1.1
    · exact HC.out.2.1
  · rcases hcase with rfl | ⟨rfl, _⟩
    · exact HC.out.1.2
    · exact HC.out.2.2.1
  · intro _
    rcases hcase with rfl | ⟨rfl, hn⟩
    · simp
    · have : l ≠ [] := fun e => hn (by rw [e]; rfl)
      exact List.mem_append_left _ (HC.out.2.2.2 this)
end Go.Proofs.YtbnhngfegnhaiaaDoor
namespace Go.Proofs.YtbnhngfegnhaiaaDoor
open Go.RowKit
set_option linter.unusedVariables false
set_option linter.unusedSimpArgs false
/-- A way out with a panic, where ranges over functions have left marks. -/
theorem leaves_marksP {P : Program} {fn : Func} {tmps : Array Value} {R : Ending → World → Prop} {ch : List PanicEntry} : ∀ (ks : List Nat) (w : World), ks.Nodup → (∀ k ∈ ks, w.heap[k]? = some (.deferred (some []))) →
    (∀ W', Same (fun k => k ∈ ks) w W' → W'.heap.size = w.heap.size → R (.panicked ch) W') →
    LeavesInM Fence.wide 0 P fn tmps R (ks.map (fun k => { target := .collected k, args := #[] })) (.panicking ch) w
  | [], w, _, _, h => h w (Same.refl _ _) rfl
  | k :: ks, w, hnd, hall, h => by
    have hk := hall k (by simp)
    refine ⟨by simp, .inl ⟨k, _, rfl, run_takeDeferred hk, ?_⟩⟩
    have hnd' := List.nodup_cons.1 hnd
    refine leaves_marksP ks _ hnd'.2 (fun j hj => (World.putObj_heap_other (fun e : j = k => hnd'.1 (by rw [← e]; exact hj))).trans (hall j (by simp [hj]))) (fun W' hs hsz => h W' ?_ (by simpa using hsz))
    have h1 : Same (fun j => j ∈ k :: ks) w (w.putObj k (.deferred none)) := (Same.refl _ w).putObj (.inl (by simp)) _
    exact h1.trans (hs.mono (fun j _ hj => List.mem_cons_of_mem _ hj))
theorem setsL_len (n : Nat) (p : Int) (h : n ≤ 10) : (setsL n p).length ≤ 1024 := by
  unfold setsL remS
  have h1 := List.length_filter_le (fun B => decide ((ones B.testBit 10 : Int) ≤ p)) (List.range' 1 (2 ^ n - 1))
  rw [List.length_range'] at h1
  have h2 := two_le h
  omega
theorem rowL_len (r : Rws) (p : Int) (k : Nat) (L : List Nat) : (rowL r p k L).length ≤ L.length := by
  unfold rowL
  have h1 := List.length_filter_le (r.caseE p) (L.map (rowC k))
  rwa [List.length_map] at h1
theorem cases_len {r : Rws} (p : Int) (l1 : r.left.length ≤ 10) (l2 : r.right.length ≤ 10) : (casesL r p).length ≤ 3000 := by
  unfold casesL fromRow
  rw [if_pos rfl, List.length_append, List.length_append]
  have h1 := rowL_len r p 0 (setsL r.left.length p)
  have h2 := rowL_len r p 1 (setsL r.right.length p)
  have h3 := setsL_len r.left.length p l1
  have h4 := setsL_len r.right.length p l2
  split <;> simp <;> omega
theorem cases87 {cb : Nat} (w : World) : Calls Tryd.prog 87 #[.pointer (some ⟨cb, 0, none⟩)] w fun e w' => e = .returned (.func (.func 105) #[] #[.pointer (some ⟨w.heap.size, 0, none⟩)]) ∧ w' = w.alloc (.cells #[.pointer (some ⟨cb, 0, none⟩)] 109) := by
  have hmf : ∀ (fn : Fn) (first cap : Array Value) (w : World), (Instr.makeFunc fn first cap).run Tryd.prog w = .ok (.func fn first cap) w := fun _ _ _ _ => rfl
  go_enter Tryd.func87, Tryd.ntmps87
  go_wp2
  go_ret
  exact ⟨rfl, rfl⟩
/-- What gathers: its state after these cases, and its method. -/
structure AddOk (ty fn : Nat) (St : List (Nat × Nat) → Obj → Prop) : Prop where
  add : ∀ {o : Nat} {l : List (Nat × Nat)} {c : Nat × Nat} {w : World} {ob : Obj}, l.length ≤ 100000 → SetOk c → w.heap[o]? = some ob → St l ob → Calls Tryd.prog fn #[.pointer (some ⟨o, 0, none⟩), setV c] w fun e w' => e = .returned (.tuple #[]) ∧ Same (fun j => j = o) w w' ∧ ∃ ob', w'.heap[o]? = some ob' ∧ St (l ++ [c]) ob'
  meth : ∀ (o : Nat) (w : World), (method 323 ty (.pointer (some ⟨o, 0, none⟩)) "pairworks/paint.add").run Tryd.prog w = .ok (fn, .pointer (some ⟨o, 0, none⟩)) w
  cf : ∀ args w, (callFunc fn args).run Tryd.prog w = .ok (.enter fn args) w
theorem joined_ok : AddOk 113 134 JoinB := ⟨fun h1 h2 h3 h4 => joined134 h1 h2 h3 h4, fun o w => by kernel_rfl, fun args w => by simp [callFunc, Tryd.func134, Tryd.f134, go_sem]⟩
theorem first_ok : AddOk 119 137 FirB := ⟨fun h1 h2 h3 h4 => first137 h1 h2 h3 h4, fun o w => by kernel_rfl, fun args w => by simp [callFunc, Tryd.func137, Tryd.f137, go_sem]⟩
def SideB (l : List (Nat × Nat)) (ob : Obj) : Prop := ob = .cells #[.int .i64 (sidesF l)] 115 (0, 0)
theorem sides_ok : AddOk 116 136 SideB := ⟨fun {o l c w ob} h1 h2 h3 h4 => (sides136 (o := o) (l := l) h2 (by rw [h3, h4])).mono (fun e w' ⟨a, b, d⟩ => ⟨a, b, _, d, rfl⟩), fun o w => by kernel_rfl, fun args w => by simp [callFunc, Tryd.func136, Tryd.f136, go_sem]⟩
attribute [local go_sem] Oper.semAt_some
/-- While cases are gathered. -/
structure GatI (St : List (Nat × Nat) → Obj → Prop) (r : Rws) (p : Int) (W0 : World) (o ty b3 t4 B mb : Nat) (L : List (Nat × Nat)) (V : World) (C : Nat → Prop) : Prop where
  le : Below W0.heap.size W0 V
  dn : ∃ dn, casesL r p = dn ++ L ∧ V.heap[t4]? = some (.cells #[.int .i64 (dn.length : Nat)] 103 (0, 0)) ∧ ∃ ob, V.heap[o]? = some ob ∧ St dn ob
  ifc : V.heap[b3]? = some (.cells #[.iface ty (.pointer (some ⟨o, 0, none⟩))] 159 (0, 0))
  hC : ∀ k, k < B → k ≠ mb → C k
theorem GatI.stable {St : List (Nat × Nat) → Obj → Prop} {r : Rws} {p : Int} {W0 : World} {o ty b3 t4 B mb l : Nat} {L : List (Nat × Nat)} {V V' : World} {C : Nat → Prop} (h : GatI St r p W0 o ty b3 t4 B mb L V C) (hs : Same (fun k => ¬ C k ∨ k = l) V V')
    (hm : W0.heap.size ≤ mb) (hW : W0.heap.size ≤ l) (hB : W0.heap.size ≤ B) (h1 : o < B ∧ o ≠ mb ∧ o ≠ l) (h2 : b3 < B ∧ b3 ≠ mb ∧ b3 ≠ l) (h3 : t4 < B ∧ t4 ≠ mb ∧ t4 ≠ l) : GatI St r p W0 o ty b3 t4 B mb L V' C := by
  have hk : ∀ k, k < B ∧ k ≠ mb ∧ k ≠ l → k < V.heap.size → V'.heap[k]? = V.heap[k]? := fun k hk hl => hs.block k hl (fun e => e.elim (fun e => e (h.hC k hk.1 hk.2.1)) hk.2.2)
  obtain ⟨dn, e1, e2, ob, e3, e4⟩ := h.dn
  refine ⟨h.le.trans (hs.below h.le.size (fun k hk' e => e.elim (fun e => e (h.hC k (by omega) (by omega))) (fun e => by omega))), ⟨dn, e1, (hk _ h3 (heap_lt e2)).trans e2, ob, (hk _ h1 (Array.getElem?_eq_some_iff.1 e3).1).trans e3, e4⟩, (hk _ h2 (heap_lt h.ifc)).trans h.ifc, h.hC⟩
set_option maxRecDepth 100000 in
set_option maxHeartbeats 16000000 in
theorem gather55 {ty fn : Nat} {St : List (Nat × Nat) → Obj → Prop} (ha : AddOk ty fn St) {r : Rws} {p : Int} {al ar : Option Addr} {cl cr mb cb o : Nat} {ob : Obj} {W0 w : World} (hv : r.valid = true) (h1 : IsMks W0 al r.left) (h2 : IsMks W0 ar r.right) (hle : Below W0.heap.size W0 w)
    (hcb : w.heap[cb]? = some (.cells (r.cnv p al cl ar cr mb) 157 (0, 0))) (hkn : KnownW r w mb) (hlo : W0.heap.size ≤ cb ∧ W0.heap.size ≤ mb ∧ W0.heap.size ≤ o) (hne : o ≠ cb ∧ o ≠ mb) (hob : w.heap[o]? = some ob) (hst : St [] ob) :
    Calls Tryd.prog 55 #[.pointer (some ⟨cb, 0, none⟩), .iface ty (.pointer (some ⟨o, 0, none⟩))] w fun e w' => Below W0.heap.size W0 w' ∧ ((casesL r p = [] ∧ e = .panicked [{ v := .iface 151 (.agg #[.int .i64 4]), recovered := false }]) ∨ (casesL r p ≠ [] ∧ e = .returned (.tuple #[]))) ∧ ∃ ob', w'.heap[o]? = some ob' ∧ St (casesL r p) ob' := by
  obtain ⟨x0, x1, x2⟩ := alloc2 w #[.iface ty (.pointer (some ⟨o, 0, none⟩))] #[.int .i64 0] 159 103
  have hcm : cb ≠ mb := by
    obtain ⟨es, cc, hes⟩ := hkn.map
    rintro rfl
    rw [hcb] at hes; cases hes
  have HA := Lib.hid ha
  have HV := Lib.hid (And.intro hv (cases_len p (rnums_of hv).l1 (rnums_of hv).l2))
  have HM := Lib.hid (And.intro h1 h2)
  have HX := Lib.hid (And.intro x0 (And.intro x1 x2))
  have HW := Lib.hid (And.intro hle (And.intro hcb (And.intro hkn (And.intro hlo (And.intro hne (And.intro hob (And.intro hst hcm)))))))
  clear x0 x1 x2 ha hv h1 h2 hle hcb hkn hlo hne hob hst hcm
  refine calls_of_wp_marks Tryd.func55 rfl ?_
  simp only [Tryd.ntmps55, List.size_toArray, List.length_cons, List.length_nil, Nat.reduceAdd, Nat.reduceSub, Array.replicate_succ, Array.replicate_zero, List.push_toArray, List.append_toArray, List.nil_append, List.cons_append]
  conv => arg 2; whnf
  refine wp_seq_hid ?_
  intro K0 HK0
  go_wp2_with fail
  refine HK0.out _ _ ?_
  clear HK0 K0
  refine wp_seq_hid ?_
  intro K1 HK1
  go_wp2_with fail
  refine HK1.out _ _ ?_
  clear HK1 K1
  refine wp_seq_hid ?_
  intro K2 HK2
  have hz1 : ((w.alloc (.cells #[.iface ty (.pointer (some ⟨o, 0, none⟩))] 159)).alloc (.cells #[.int .i64 0] 103)).heap.size = w.heap.size + 2 := by simp
  revert HX hz1
  generalize (w.alloc (.cells #[.iface ty (.pointer (some ⟨o, 0, none⟩))] 159)).alloc (.cells #[.int .i64 0] 103) = w1
  generalize ht4 : w.heap.size + 1 = t4
  generalize hb3 : w.heap.size = b3
  intro HX hz1
  have HB := Lib.hid (And.intro ht4 hb3)
  have HZ1 := Lib.hid hz1
  clear ht4 hb3 hz1
  go_wp2_with fail
  refine (cases87 w1).mono ?_
  rintro e w2 ⟨rfl, hw2⟩
  have hz2 : w2.heap.size = w1.heap.size + 1 := by rw [hw2]; simp
  have hb12 : Below w1.heap.size w1 w2 := by rw [hw2]; exact alloc_below _ _
  have htb : w2.heap[w1.heap.size]? = some (.cells #[.pointer (some ⟨cb, 0, none⟩)] 109 (0, 0)) := by rw [hw2]; exact World.alloc_heap_new _ _
  have HZ2 := Lib.hid hz2
  clear hw2 hz2
  go_wp2_with fail
  have hz1 := HZ1.out
  have hz2 := HZ2.out
  obtain ⟨hle, hcb, hkn, hlo, hne, hob, hst, hcm⟩ := HW.out
  have hwb := HX.out.2.2
  have hlts : cb < b3 ∧ mb < b3 ∧ o < b3 ∧ t4 = b3 + 1 ∧ w.heap.size = b3 := by
    have := heap_lt hcb
    have := hkn.lt
    have := (Array.getElem?_eq_some_iff.1 hob).1
    have := HB.out
    omega
  have hbw2 : Below w.heap.size w w2 := by rw [hlts.2.2.2.2]; exact hwb.trans (hb12.mono (by omega))
  have HF := Lib.hid (And.intro ((hbw2.block _ (heap_lt hcb)).trans hcb) (And.intro (hkn.kept (hbw2.block _ hkn.lt)) (And.intro ((hbw2.block _ (Array.getElem?_eq_some_iff.1 hob).1).trans hob) (And.intro ((hb12.block _ (heap_lt HX.out.1)).trans HX.out.1) (And.intro ((hb12.block _ (heap_lt HX.out.2.1)).trans HX.out.2.1) (And.intro htb (hle.trans (hbw2.mono hle.size))))))))
  have hWs := hle.size
  clear hle hcb hkn hob hwb hbw2 hb12 htb HX
  refine wp_rangeFuncY (gf := 105) (lb := #[.pointer (some ⟨w1.heap.size, 0, none⟩)]) rfl (fun args w => by simp [callFunc, Tryd.func105, Tryd.f105, go_sem]) (casesL r p) CaOk
    (fun j => j = o ∨ j = t4 ∨ j = w2.heap.size + 1) (fun j => j = mb) ?hX ?hps ?hMD ?hMl ?hit
    (fun L V C => GatI St r p W0 o ty b3 t4 (w2.heap.size + 2) mb L V C) (fun _ _ _ _ => False) ?hI ?hIx ?h0 ?hround ?hdone ?hstop
  case hX => rintro k rfl; omega
  case hps =>
    rintro x v A K ⟨rfl, _, _⟩
    rfl
  case hMD => rintro (e | e | e) <;> omega
  case hMl => exact .inr (.inr rfl)
  case hit =>
    intro W1 hb1 hs1
    obtain ⟨g1, g2, g3, g4, g5, g6, g7⟩ := HF.out
    refine cases_iter (al := al) (cl := cl) (ar := ar) (cr := cr) (cb := cb) HV.out.1 (fun A hA => ?_) ⟨?_, ?_, ?_, ?_, hcm⟩ (g2.kept (hb1.block _ g2.lt))
    · have k6 := (hb1.block _ (heap_lt g6)).trans g6
      have k1 := (hb1.block _ (heap_lt g1)).trans g1
      have hbA : Below W0.heap.size W0 A := (g7.trans (hb1.mono g7.size)).trans (hA.below (by have := hb1.size; omega) (fun k hk e => by rcases e with (e | e | e) | e <;> omega))
      exact ⟨cell_at0 ((hA.block _ (heap_lt k6) (fun e => by rcases e with (e | e | e) | e <;> omega)).trans k6), (hA.block _ (heap_lt k1) (fun e => by rcases e with (e | e | e) | e <;> omega)).trans k1, HM.out.1.mono hbA, HM.out.2.mono hbA⟩
    · rintro (e | e | e) <;> omega
    · rintro (e | e | e) <;> omega
    · omega
    · omega
  case hI => exact fun L A B C h hs => h.stable hs hlo.2.1 (by omega) (by omega) ⟨by omega, hne.2, by omega⟩ ⟨by omega, by omega, by omega⟩ ⟨by omega, by omega, by omega⟩
  case hIx => exact fun c i A B C h hs => h
  case h0 =>
    intro W1 hb1 hs1
    obtain ⟨g1, g2, g3, g4, g5, g6, g7⟩ := HF.out
    exact ⟨g7.trans (hb1.mono g7.size), ⟨[], rfl, (hb1.block _ (heap_lt g5)).trans g5, ob, (hb1.block _ (Array.getElem?_eq_some_iff.1 g3).1).trans g3, hst⟩, (hb1.block _ (heap_lt g4)).trans g4, fun k h1 h2 => ⟨h1, h2⟩⟩
  case hstop => exact fun c i W C h => h.elim
  case hdone =>
    intro V C h hdef
    obtain ⟨dn, e1, e2, ob', e3, e4⟩ := h.dn
    rw [List.append_nil] at e1
    subst e1
    have HD := Lib.hid (And.intro h.le (And.intro hdef (And.intro e3 e4)))
    have c4 : V.cell? ⟨t4, 0, none⟩ = some (.int .i64 ((casesL r p).length : Nat)) := cell_at0 e2
    have HW0 := Lib.hid (And.intro hWs (And.intro hlts hlo))
    clear h hdef e2 e3 e4 hlts hlo hne hst hcm hWs hz1 hz2
    by_cases hn : casesL r p = []
    · have HN := Lib.hid hn
      have c4' : V.cell? ⟨t4, 0, none⟩ = some (.int .i64 0) := by rw [hn] at c4; exact c4
      clear c4 hn
      go_wp2_with fail
      refine HK2.out _ _ ?_
      go_wp2_with fail
      refine (need85_no 4 V).mono ?_
      rintro e w' ⟨rfl, rfl⟩
      go_wp2_with fail
      obtain ⟨k1, k2, k3, k4⟩ := HD.out
      have k5 := (Array.getElem?_eq_some_iff.1 k3).1
      refine leaves_marksP [w2.heap.size] V (by simp) (by simpa using k2) (fun W' hs hsz => ⟨k1.trans (hs.below k1.size (fun k hk e => ?_)), .inl ⟨HN.out, rfl⟩, _, (hs.block _ k5 (fun e => ?_)).trans k3, k4⟩)
      · have e' : k = w2.heap.size := by simpa using e
        have := HW0.out.1
        have := HW0.out.2.1
        have := HZ1.out
        have := HZ2.out
        omega
      · have e' : o = w2.heap.size := by simpa using e
        have := HW0.out.2.1
        have := HZ1.out
        have := HZ2.out
        omega
    · have HN := Lib.hid hn
      have hpos : (0 : Int) < ((casesL r p).length : Nat) := by
        have : (casesL r p).length ≠ 0 := fun e => hn (List.eq_nil_of_length_eq_zero e)
        omega
      clear hn
      revert c4 hpos
      generalize (((casesL r p).length : Nat) : Int) = nn
      intro c4 hpos
      go_wp2_with fail
      refine HK2.out _ _ ?_
      go_wp2_with fail
      refine (need85_yes 4 V).mono ?_
      rintro e w' ⟨rfl, rfl⟩
      go_wp2_with fail
      obtain ⟨k1, k2, k3, k4⟩ := HD.out
      have k5 := (Array.getElem?_eq_some_iff.1 k3).1
      refine leaves_marksK (v := .tuple #[]) [w2.heap.size] V (by simp) (by simpa using k2) (fun W' hs hsz => ⟨results_none rfl _ _ _, k1.trans (hs.below k1.size (fun k hk e => ?_)), .inr ⟨HN.out, rfl⟩, _, (hs.block _ k5 (fun e => ?_)).trans k3, k4⟩)
      · have e' : k = w2.heap.size := by simpa using e
        have := HW0.out.1
        have := HW0.out.2.1
        have := HZ1.out
        have := HZ2.out
        omega
      · have e' : o = w2.heap.size := by simpa using e
        have := HW0.out.2.1
        have := HZ1.out
        have := HZ2.out
        omega
  case hround =>
    rintro x L v V1 C K ⟨rfl, rfl, hx⟩ hKC hC h hlt
    have HH := Lib.hid (And.intro h (And.intro hC (And.intro hlt hx)))
    have HW0 := Lib.hid (And.intro hWs (And.intro hlts (And.intro hlo (And.intro hne (And.intro hcm (And.intro hz1 hz2))))))
    clear h hC hKC hlt hx hlts hlo hne hst hcm hWs hz1 hz2
    gi_wp2_with fail
    refine ⟨(Below.refl _ _).alloc (Nat.le_refl _) _, fun V2 hS2 hsz2 => ?_⟩
    obtain ⟨h, hC, hlt, hx⟩ := HH.out
    obtain ⟨hWs, hlts, hlo, hne, hcm, hz1, hz2⟩ := HW0.out
    have hb5 : V2.heap[V1.heap.size]? = some (.cells #[.int .u64 x.1, .int .u64 x.2] 106 (0, 0)) := (hS2.block _ (by simp) (by omega)).trans (World.alloc_heap_new V1 _)
    have hst : ∀ {A B : World} {L' : List (Nat × Nat)}, GatI St r p W0 o ty b3 t4 (w2.heap.size + 2) mb L' A C → Same (fun k => ¬ C k ∨ k = w2.heap.size + 1) A B → GatI St r p W0 o ty b3 t4 (w2.heap.size + 2) mb L' B C := fun h hs => h.stable hs hlo.2.1 (by omega) (by omega) ⟨by omega, hne.2, by omega⟩ ⟨by omega, by omega, by omega⟩ ⟨by omega, by omega, by omega⟩
    have hg := hst (hst h (Same.of_below _ (alloc_below V1 (.cells #[.int .u64 x.1, .int .u64 x.2] 106)))) (hS2.mono (fun k _ e => .inr e))
    have hsz3 : V2.heap.size = V1.heap.size + 1 := by rw [hsz2]; simp
    obtain ⟨dn, e1, e2, ob', e3, e4⟩ := hg.dn
    have HG := Lib.hid (And.intro hg.le (And.intro hg.ifc (And.intro hb5 (And.intro e1 (And.intro e2 (And.intro e3 (And.intro e4 hsz3)))))))
    have HDL : Hid (dn.length ≤ 100000) := by
      have := HV.out.2
      rw [e1, List.length_append] at this
      rw [Hid]
      omega
    have d0 : V2.cell? ⟨V1.heap.size, 0, none⟩ = some (.int .u64 x.1) := (cell_of_heap hb5).trans rfl
    have d1 : V2.cell? ⟨V1.heap.size, 1, none⟩ = some (.int .u64 x.2) := (cell_of_heap hb5).trans rfl
    clear h hC hlt hx hlts hlo hne hcm hz1 hz2 hb5 hst hg hsz2 hsz3 hS2 e1 e2 e3 e4 hWs
    refine wpIn_block ?_
    refine wpIn_seq_hid ?_
    intro K4 HK4
    gi_wp2_with fail
    refine ⟨trivial, rfl, wideAt_calls ((counter88 (o := t4) (n := dn.length) (c := x) (t := 103) (xs := []) HDL.out HG.out.2.2.2.2.1).mono ?_)⟩
    rintro e V3 ⟨rfl, hs3, hn3⟩
    have HN3 : Hid (Same (fun j => j = t4) V2 V3 ∧ V3.heap[t4]? = some (.cells #[.int .i64 ((dn.length + 1 : Nat) : Int)] 103 (0, 0)) ∧ V3.heap[b3]? = some (.cells #[.iface ty (.pointer (some ⟨o, 0, none⟩))] 159 (0, 0)) ∧ V3.heap[V1.heap.size]? = some (.cells #[.int .u64 x.1, .int .u64 x.2] 106 (0, 0)) ∧ V3.heap[o]? = some ob') := by
      obtain ⟨hWs, hlts, hlo, hne, hcm, hz1, hz2⟩ := HW0.out
      obtain ⟨h, hC, hlt, hx⟩ := HH.out
      refine ⟨hs3, hn3, (hs3.block _ (heap_lt HG.out.2.1) (by omega)).trans HG.out.2.1, (hs3.block _ (heap_lt HG.out.2.2.1) (by omega)).trans HG.out.2.2.1, (hs3.block _ (Array.getElem?_eq_some_iff.1 HG.out.2.2.2.2.2.1).1 (by omega)).trans HG.out.2.2.2.2.2.1⟩
    clear hs3 hn3 d0 d1
    have d0 : V3.cell? ⟨V1.heap.size, 0, none⟩ = some (.int .u64 x.1) := (cell_of_heap HN3.out.2.2.2.1).trans rfl
    have d1 : V3.cell? ⟨V1.heap.size, 1, none⟩ = some (.int .u64 x.2) := (cell_of_heap HN3.out.2.2.2.1).trans rfl
    have d3 : V3.cell? ⟨b3, 0, none⟩ = some (.iface ty (.pointer (some ⟨o, 0, none⟩))) := (cell_of_heap HN3.out.2.2.1).trans rfl
    have hme := HA.out.meth o
    have hcf := HA.out.cf
    gi_wp2_with fail
    refine HK4.out _ _ ?_
    clear HK4 K4
    gi_wp2_with fail
    refine ⟨trivial, rfl, wideAt_calls ((HA.out.add HDL.out HH.out.2.2.2 HN3.out.2.2.2.2 HG.out.2.2.2.2.2.2.1).mono ?_)⟩
    rintro e V4 ⟨rfl, hs4, ob4, hb4, hst4⟩
    clear d0 d1 d3 hme hcf
    have HN4 := Lib.hid (And.intro hs4 (And.intro hb4 hst4))
    clear hs4 hb4 hst4
    gi_wp2_with fail
    obtain ⟨hs4, hb4, hst4⟩ := HN4.out
    obtain ⟨hs3, q1, q2, q3, q4⟩ := HN3.out
    obtain ⟨hWs, hlts, hlo, hne, hcm, hz1, hz2⟩ := HW0.out
    obtain ⟨h, hC, hlt, hx⟩ := HH.out
    obtain ⟨g1, g2, g3, g4, g5, g6, g7, g8⟩ := HG.out
    have hs24 : Same (fun j => j = t4 ∨ j = o) V2 V4 := (hs3.mono (fun _ _ e => .inl e)).trans (hs4.mono (fun _ _ e => .inr e))
    have hl2 : w2.heap.size + 1 < V2.heap.size := by omega
    have z4 := hs24.size
    refine ⟨hs24.mono (fun j _ e => ?_), hs24.block _ hl2 (by omega), fun j => C j ∧ j < V4.heap.size, fun j hj hx' => ⟨hC j hj hx', by omega⟩, fun j hj => hj.2, fun j hj => .inl hj.1, ?_⟩
    · rcases e with rfl | rfl
      · exact ⟨hC _ (by omega) (by omega), fun _ => .inr (.inl rfl)⟩
      · exact ⟨hC _ (by omega) hne.2, fun _ => .inl rfl⟩
    · refine ⟨g1.trans (hs24.below g1.size (fun k hk e => by omega)), ⟨dn ++ [x], by rw [g4]; simp, ?_, ob4, hb4, hst4⟩, (hs4.block _ (heap_lt q2) (by omega)).trans q2, fun k hk hm => ⟨hC k hk hm, by omega⟩⟩
      have e7 := (hs4.block _ (heap_lt q1) (by omega)).trans q1
      rw [e7, List.length_append]
      rfl
end Go.Proofs.YtbnhngfegnhaiaaDoor
namespace Go.Proofs.YtbnhngfegnhaiaaDoor
open Go.RowKit
set_option linter.unusedVariables false
set_option linter.unusedSimpArgs false
set_option maxRecDepth 100000 in
set_option maxHeartbeats 4000000 in
theorem fits84 {r : Rws} {al ar : Option Addr} {cl cr : Nat} {w : World} (hv : r.valid = true) (h1 : IsMks w al r.left) (h2 : IsMks w ar r.right) :
    Calls Tryd.prog 84 #[r.v al cl ar cr, .int .i64 (-1), .int .i64 (-1)] w fun e w' => e = .returned (.tuple #[.bool false, .int .i64 2]) ∧ Below w.heap.size w w' := by
  have HX := Lib.hid (And.intro (World.alloc_heap_new w (.cells (r.arr al cl ar cr) 26)) (And.intro (alloc_below w (.cells (r.arr al cl ar cr) 26)) (And.intro (h1.mono (alloc_below w (.cells (r.arr al cl ar cr) 26))) (h2.mono (alloc_below w (.cells (r.arr al cl ar cr) 26))))))
  have HV := Lib.hid hv
  have l1 : (r.left.length : Int) ≤ 10 := by have := (rnums_of hv).l1; omega
  clear h1 h2 hv
  go_enter Tryd.func84, Tryd.ntmps84
  refine wp_seq_hid ?_
  intro K0 HK0
  go_wp2_with fail
  refine HK0.out _ _ ?_
  clear HK0 K0
  revert HX
  generalize w.alloc (.cells (r.arr al cl ar cr) 26) = w1
  generalize hbx : w.heap.size = bx
  intro HX
  have HB := Lib.hid hbx
  clear hbx
  have m0 : w1.cell? ⟨bx, 0, none⟩ = some (.slice al r.left.length cl) := by rw [cell_of_heap HX.out.1]; rfl
  have m1 : w1.cell? ⟨bx, 1, none⟩ = some (.slice ar r.right.length cr) := by rw [cell_of_heap HX.out.1]; rfl
  have m2 : w1.cell? ⟨bx, 2, none⟩ = some (.int .i64 r.shift.lo) := by rw [cell_of_heap HX.out.1]; rfl
  have m3 : w1.cell? ⟨bx, 3, none⟩ = some (.int .i64 r.shift.hi) := by rw [cell_of_heap HX.out.1]; rfl
  have m4 : w1.cell? ⟨bx, 4, none⟩ = some (.int .i64 r.hidden) := by rw [cell_of_heap HX.out.1]; rfl
  go_wp2_with fail
  refine (isRows45 HV.out HX.out.2.2.1 HX.out.2.2.2).mono ?_
  clear m0 m1 m2 m3 m4
  rintro e w2 ⟨rfl, hb⟩
  have HB2 := Lib.hid (And.intro ((hb.block _ (heap_lt HX.out.1)).trans HX.out.1) (HX.out.2.1.trans (hb.mono (by have := heap_lt HX.out.1; omega))))
  have m0 : w2.cell? ⟨bx, 0, none⟩ = some (.slice al r.left.length cl) := by rw [cell_of_heap HB2.out.1]; rfl
  clear hb
  go_wp2_with fail
  refine (within50 _ _ _ w2).mono ?_
  rintro e w3 ⟨rfl, rfl⟩
  rw [show inR (-1) 0 ((r.left.length : Int) - 1) = false from by unfold inR; simp]
  go_wp2_with fail
  have hb2 := HB2.out.2
  exact bodyPost_ret (v := .tuple #[.bool false, .int .i64 2]) (by simp [results, show Tryd.f84.results = #[.tmp 6, .tmp 7] from rfl, go_sem]) rfl ⟨rfl, hb2⟩
theorem always54 {v : Value} (w : World) : Calls Tryd.prog 54 #[v] w fun e w' => e = .returned (.bool true) ∧ w = w' := by
  go_enter Tryd.func54, Tryd.ntmps54
  go_wp2_with fail
  go_ret
  exact ⟨rfl, rfl⟩
/-- A canvas as it is asked. -/
abbrev Rws.bru (r : Rws) (p : Int) (al : Option Addr) (cl : Nat) (ar : Option Addr) (cr : Nat) : Array Value := #[.slice al r.left.length cl, .slice ar r.right.length cr, .int .i64 r.shift.lo, .int .i64 r.shift.hi, .int .i64 r.hidden, .int .i64 p]
set_option maxRecDepth 100000 in
set_option maxHeartbeats 8000000 in
theorem open53 {r : Rws} {p : Int} {al ar : Option Addr} {cl cr : Nat} {w : World} (hv : r.valid = true) (hp : inR p 0 3 = true) (h1 : IsMks w al r.left) (h2 : IsMks w ar r.right) :
    Calls Tryd.prog 53 #[.agg (r.bru p al cl ar cr), .func (.func 54) #[] #[]] w fun e w' => ∃ cb mb, e = .returned (.pointer (some ⟨cb, 0, none⟩)) ∧ w.heap.size ≤ cb ∧ w.heap.size ≤ mb ∧ w'.heap[cb]? = some (.cells (r.cnv p al cl ar cr mb) 157 (0, 0)) ∧ KnownW r w' mb ∧ Below w.heap.size w w' := by
  have HX := Lib.hid (And.intro (World.alloc_heap_new w (.cells (r.bru p al cl ar cr) 54)) (And.intro (alloc_below w (.cells (r.bru p al cl ar cr) 54)) (And.intro (h1.mono (alloc_below w (.cells (r.bru p al cl ar cr) 54))) (h2.mono (alloc_below w (.cells (r.bru p al cl ar cr) 54))))))
  have HV := Lib.hid (And.intro hv hp)
  clear h1 h2 hv hp
  go_enter Tryd.func53, Tryd.ntmps53
  refine wp_seq_hid ?_
  intro K0 HK0
  go_wp2_with fail
  refine HK0.out _ _ ?_
  clear HK0 K0
  revert HX
  generalize w.alloc (.cells _ 54) = w1
  generalize hbx : w.heap.size = bx
  intro HX
  have HB := Lib.hid hbx
  clear hbx
  have m0 : w1.cell? ⟨bx, 0, none⟩ = some (.slice al r.left.length cl) := by rw [cell_of_heap HX.out.1]; rfl
  have m1 : w1.cell? ⟨bx, 1, none⟩ = some (.slice ar r.right.length cr) := by rw [cell_of_heap HX.out.1]; rfl
  have m2 : w1.cell? ⟨bx, 2, none⟩ = some (.int .i64 r.shift.lo) := by rw [cell_of_heap HX.out.1]; rfl
  have m3 : w1.cell? ⟨bx, 3, none⟩ = some (.int .i64 r.shift.hi) := by rw [cell_of_heap HX.out.1]; rfl
  have m4 : w1.cell? ⟨bx, 4, none⟩ = some (.int .i64 r.hidden) := by rw [cell_of_heap HX.out.1]; rfl
  refine wp_seq_hid ?_
  intro K1 HK1
  go_wp2_with fail
  refine (fits84 (cl := cl) (cr := cr) HV.out.1 HX.out.2.2.1 HX.out.2.2.2).mono ?_
  clear m0 m1 m2 m3 m4
  rintro e w2 ⟨rfl, hb⟩
  have HB2 := Lib.hid (And.intro ((hb.block _ (heap_lt HX.out.1)).trans HX.out.1) (HX.out.2.1.trans (hb.mono (by have := heap_lt HX.out.1; omega))))
  clear hb HX
  go_wp2_with fail
  refine HK1.out _ _ ?_
  clear HK1 K1
  have m0 : w2.cell? ⟨bx, 0, none⟩ = some (.slice al r.left.length cl) := by rw [cell_of_heap HB2.out.1]; rfl
  have m1 : w2.cell? ⟨bx, 1, none⟩ = some (.slice ar r.right.length cr) := by rw [cell_of_heap HB2.out.1]; rfl
  have m2 : w2.cell? ⟨bx, 2, none⟩ = some (.int .i64 r.shift.lo) := by rw [cell_of_heap HB2.out.1]; rfl
  have m3 : w2.cell? ⟨bx, 3, none⟩ = some (.int .i64 r.shift.hi) := by rw [cell_of_heap HB2.out.1]; rfl
  have m4 : w2.cell? ⟨bx, 4, none⟩ = some (.int .i64 r.hidden) := by rw [cell_of_heap HB2.out.1]; rfl
  have m5 : w2.cell? ⟨bx, 5, none⟩ = some (.int .i64 p) := by rw [cell_of_heap HB2.out.1]; rfl
  refine wp_seq_hid ?_
  intro K2 HK2
  go_wp2_with fail
  refine (within86 _ _ _ w2).mono ?_
  rintro e w3 ⟨rfl, rfl⟩
  rw [HV.out.2]
  go_wp2_with fail
  refine (need85_yes 1 w2).mono ?_
  rintro e w3 ⟨rfl, rfl⟩
  go_wp2_with fail
  refine HK2.out _ _ ?_
  clear HK2 K2
  have hmk : ∀ w : World, (Instr.makeMap 155 none).run Tryd.prog w = .ok (.map (some w.heap.size)) (w.alloc (.map #[] 0)) := fun w => by kernel_rfl
  refine wp_seq_hid ?_
  intro K3 HK3
  go_wp2_with fail
  refine HK3.out _ _ ?_
  clear HK3 K3 m0 m1 m2 m3 m4 m5 hmk
  have hz : (w2.alloc (.map #[] 0)).heap.size = w2.heap.size + 1 := by simp
  have HZ : Hid (((w2.alloc (.map #[] 0)).alloc (.cells (r.cnv p al cl ar cr w2.heap.size) 157)).heap[w2.heap.size + 1]? = some (.cells (r.cnv p al cl ar cr w2.heap.size) 157 (0, 0)) ∧ KnownW r ((w2.alloc (.map #[] 0)).alloc (.cells (r.cnv p al cl ar cr w2.heap.size) 157)) w2.heap.size ∧ Below bx w ((w2.alloc (.map #[] 0)).alloc (.cells (r.cnv p al cl ar cr w2.heap.size) 157)) ∧ bx ≤ w2.heap.size) := by
    have h0 := World.alloc_heap_new (w2.alloc (.map #[] 0)) (.cells (r.cnv p al cl ar cr w2.heap.size) 157)
    rw [hz] at h0
    have hbl := heap_lt HB2.out.1
    exact ⟨h0, (KnownW.made r w2).kept (Below.heap_alloc _ _ _ (by rw [hz]; omega)), (HB2.out.2.alloc (by omega) _).alloc (by rw [hz]; omega) _, by omega⟩
  clear hz
  revert HZ
  generalize (w2.alloc (.map #[] 0)).alloc (.cells (r.cnv p al cl ar cr w2.heap.size) 157) = w4
  intro HZ
  have hcf : ∀ args w, (callFunc 54 args).run Tryd.prog w = .ok (.enter 54 args) w := fun args w => by simp [callFunc, Tryd.func54, Tryd.f54, go_sem]
  refine wp_seq_hid ?_
  intro K4 HK4
  go_wp2_with fail
  refine (always54 w4).mono ?_
  rintro e w5 ⟨rfl, rfl⟩
  go_wp2_with fail
  refine (need85_yes 2 w4).mono ?_
  rintro e w5 ⟨rfl, rfl⟩
  go_wp2_with fail
  refine HK4.out _ _ ?_
  go_wp2_with fail
  go_ret
  exact ⟨_, _, rfl, Nat.le_succ_of_le HZ.out.2.2.2, HZ.out.2.2.2, HZ.out.1, HZ.out.2.1, HZ.out.2.2.1⟩
end Go.Proofs.YtbnhngfegnhaiaaDoor
namespace Go.Proofs.YtbnhngfegnhaiaaDoor
open Go.RowKit
set_option linter.unusedVariables false
set_option linter.unusedSimpArgs false
theorem caught52_nil (pe : Value) (w : World) : Calls Tryd.prog 52 #[.nilIface, pe] w fun e w' => e = .returned (.tuple #[]) ∧ w = w' := by
  go_enter Tryd.func52, Tryd.ntmps52
  go_wp2
  refine bodyPost_ret (results_none rfl _ _ _) rfl ?_
  exact ⟨rfl, rfl⟩
theorem assert151 (v : Value) (w : World) : (Instr.typeAssert (.iface 151 v) 20 151 true).run Tryd.prog w = .ok (.tuple #[v, .bool true]) w := by
  simp [Instr.typeAssert, run_underlying Tryd.underlying151, Result.andThen]
theorem caught52_misfit (x : Int) {b : Nat} {v : Value} {w : World} (hc : w.cell? ⟨b, 0, none⟩ = some v) (hf : w.frozen? ⟨b, 0, none⟩ = false) :
    Calls Tryd.prog 52 #[.iface 151 (.agg #[.int .i64 x]), .pointer (some ⟨b, 0, none⟩)] w fun e w' => e = .returned (.tuple #[]) ∧ w' = (w.alloc (.cells #[.int .i64 x] 151)).setCell ⟨b, 0, none⟩ (.int .i64 x) := by
  have hb := lt_of_cell hc
  have ha := assert151 (.agg #[.int .i64 x])
  go_enter Tryd.func52, Tryd.ntmps52
  go_wp2
  go_end0
  refine ⟨rfl, ?_⟩
  rw [World.setCell_alloc_past _ _ _ _ hb]
theorem recov51_ok (pe : Value) (w : World) : CallsD Tryd.prog 51 #[pe] .returning w fun e u' w' => e = .returned (.tuple #[]) ∧ u' = .returning ∧ w = w' := by
  refine callsD_of_wpS Tryd.func51 rfl fun c₀ cs hu => ?_
  apply wpS_region
  simp [wpOpsS, go_sem, recoverD, hu, Tryd.ntmps51]
  refine (caught52_nil pe w).mono ?_
  rintro e w' ⟨rfl, rfl⟩
  simp [bodyPostS, results, Tryd.results51]
  rw [← hu]
theorem recov51_no (x : Int) {b : Nat} {v : Value} {w : World} (hc : w.cell? ⟨b, 0, none⟩ = some v) (hf : w.frozen? ⟨b, 0, none⟩ = false) :
    CallsD Tryd.prog 51 #[.pointer (some ⟨b, 0, none⟩)] (.panicking [{ v := .iface 151 (.agg #[.int .i64 x]), recovered := false }]) w fun e u' w' =>
      e = .returned (.tuple #[]) ∧ u' = .panicking [{ v := .iface 151 (.agg #[.int .i64 x]), recovered := true }] ∧ w' = (w.alloc (.cells #[.int .i64 x] 151)).setCell ⟨b, 0, none⟩ (.int .i64 x) := by
  refine callsD_of_wpS Tryd.func51 rfl fun c₀ cs hu => ?_
  apply wpS_region
  simp [wpOpsS, go_sem, recoverD, hu, Tryd.ntmps51]
  refine (caught52_misfit x hc hf).mono ?_
  rintro e w' ⟨rfl, rfl⟩
  simp [bodyPostS, results, Tryd.results51]
theorem cfr51 (args : Array Value) (w : World) : (callFunc 51 args).run Tryd.prog w = .ok (.enter 51 args) w := by simp [callFunc, Tryd.func51, Tryd.f51, go_sem]
theorem recov56_ok (pe : Value) (w : World) : CallsD Tryd.prog 56 #[pe] .returning w fun e u' w' => e = .returned (.tuple #[]) ∧ u' = .returning ∧ w = w' := by
  refine callsD_of_wpS Tryd.func56 rfl fun c₀ cs hu => ?_
  apply wpS_region
  simp [wpOpsS, go_sem, recoverD, hu, Tryd.ntmps56]
  refine (caught52_nil pe w).mono ?_
  rintro e w' ⟨rfl, rfl⟩
  simp [bodyPostS, results, Tryd.results56]
  rw [← hu]
theorem recov56_no (x : Int) {b : Nat} {v : Value} {w : World} (hc : w.cell? ⟨b, 0, none⟩ = some v) (hf : w.frozen? ⟨b, 0, none⟩ = false) :
    CallsD Tryd.prog 56 #[.pointer (some ⟨b, 0, none⟩)] (.panicking [{ v := .iface 151 (.agg #[.int .i64 x]), recovered := false }]) w fun e u' w' =>
      e = .returned (.tuple #[]) ∧ u' = .panicking [{ v := .iface 151 (.agg #[.int .i64 x]), recovered := true }] ∧ w' = (w.alloc (.cells #[.int .i64 x] 151)).setCell ⟨b, 0, none⟩ (.int .i64 x) := by
  refine callsD_of_wpS Tryd.func56 rfl fun c₀ cs hu => ?_
  apply wpS_region
  simp [wpOpsS, go_sem, recoverD, hu, Tryd.ntmps56]
  refine (caught52_misfit x hc hf).mono ?_
  rintro e w' ⟨rfl, rfl⟩
  simp [bodyPostS, results, Tryd.results56]
theorem cfr56 (args : Array Value) (w : World) : (callFunc 56 args).run Tryd.prog w = .ok (.enter 56 args) w := by simp [callFunc, Tryd.func56, Tryd.f56, go_sem]
theorem recov57_ok (pe : Value) (w : World) : CallsD Tryd.prog 57 #[pe] .returning w fun e u' w' => e = .returned (.tuple #[]) ∧ u' = .returning ∧ w = w' := by
  refine callsD_of_wpS Tryd.func57 rfl fun c₀ cs hu => ?_
  apply wpS_region
  simp [wpOpsS, go_sem, recoverD, hu, Tryd.ntmps57]
  refine (caught52_nil pe w).mono ?_
  rintro e w' ⟨rfl, rfl⟩
  simp [bodyPostS, results, Tryd.results57]
  rw [← hu]
theorem recov57_no (x : Int) {b : Nat} {v : Value} {w : World} (hc : w.cell? ⟨b, 0, none⟩ = some v) (hf : w.frozen? ⟨b, 0, none⟩ = false) :
    CallsD Tryd.prog 57 #[.pointer (some ⟨b, 0, none⟩)] (.panicking [{ v := .iface 151 (.agg #[.int .i64 x]), recovered := false }]) w fun e u' w' =>
      e = .returned (.tuple #[]) ∧ u' = .panicking [{ v := .iface 151 (.agg #[.int .i64 x]), recovered := true }] ∧ w' = (w.alloc (.cells #[.int .i64 x] 151)).setCell ⟨b, 0, none⟩ (.int .i64 x) := by
  refine callsD_of_wpS Tryd.func57 rfl fun c₀ cs hu => ?_
  apply wpS_region
  simp [wpOpsS, go_sem, recoverD, hu, Tryd.ntmps57]
  refine (caught52_misfit x hc hf).mono ?_
  rintro e w' ⟨rfl, rfl⟩
  simp [bodyPostS, results, Tryd.results57]
theorem cfr57 (args : Array Value) (w : World) : (callFunc 57 args).run Tryd.prog w = .ok (.enter 57 args) w := by simp [callFunc, Tryd.func57, Tryd.f57, go_sem]
theorem res_ttc {fn : Func} (h : fn.results = #[.tmp 2, .tmp 3, .cell 4 32]) (tmps : Array Value) {w : World} {b : Nat} {x y z : Value} (h2 : tmps.getD 2 undef = x) (h3 : tmps.getD 3 undef = y) (hu : tmps.getD 4 undef = .pointer (some ⟨b, 0, none⟩)) (hc : w.cell? ⟨b, 0, none⟩ = some z) :
    (results fn tmps).run Tryd.prog w = .ok (.tuple #[x, y, z]) w := by
  have h2' : tmps[2]?.getD undef = x := by simpa using h2
  have h3' : tmps[3]?.getD undef = y := by simpa using h3
  have hu' : tmps[4]?.getD undef = .pointer (some ⟨b, 0, none⟩) := by simpa using hu
  simp [results, h, h2', h3', hu', hc, go_sem]
def caughtP (w : World) (be : Nat) (x : Int) : World := (w.alloc (.cells #[.int .i64 x] 151)).setCell ⟨be, 0, none⟩ (.int .i64 x)
theorem caughtP_heap {w : World} {be : Nat} {x y : Int} (h : w.heap[be]? = some (.cells #[.int .i64 y] 32 (0, 0))) : (caughtP w be x).heap[be]? = some (.cells #[.int .i64 x] 32 (0, 0)) := by
  have h2 : (w.alloc (.cells #[.int .i64 x] 151)).heap[be]? = some (.cells #[.int .i64 y] 32 (0, 0)) := (Below.heap_alloc _ _ _ (heap_lt h)).trans h
  exact heap_setCell_at (k := 0) h2 (.int .i64 x)
theorem caughtP_below {B : Nat} {A w : World} {be : Nat} {x : Int} (hb : Below B A w) (hB : B ≤ be) (hw : B ≤ w.heap.size) : Below B A (caughtP w be x) :=
  (hb.alloc hw _).setCell (p := ⟨be, _, none⟩) hB _
/-- The deferred call of a door. -/
structure RecOk (f : Nat) : Prop where
  ok : ∀ (pe : Value) (w : World), CallsD Tryd.prog f #[pe] .returning w fun e u' w' => e = .returned (.tuple #[]) ∧ u' = .returning ∧ w = w'
  no : ∀ (x : Int) {b : Nat} {v : Value} {w : World}, w.cell? ⟨b, 0, none⟩ = some v → w.frozen? ⟨b, 0, none⟩ = false → CallsD Tryd.prog f #[.pointer (some ⟨b, 0, none⟩)] (.panicking [{ v := .iface 151 (.agg #[.int .i64 x]), recovered := false }]) w fun e u' w' =>
      e = .returned (.tuple #[]) ∧ u' = .panicking [{ v := .iface 151 (.agg #[.int .i64 x]), recovered := true }] ∧ w' = caughtP w b x
  cf : ∀ args w, (callFunc f args).run Tryd.prog w = .ok (.enter f args) w
theorem rec51 : RecOk 51 := ⟨recov51_ok, fun x {_ _ _} hc hf => recov51_no x hc hf, cfr51⟩
theorem rec56 : RecOk 56 := ⟨recov56_ok, fun x {_ _ _} hc hf => recov56_no x hc hf, cfr56⟩
theorem rec57 : RecOk 57 := ⟨recov57_ok, fun x {_ _ _} hc hf => recov57_no x hc hf, cfr57⟩
theorem doorP_ok {fn : Func} {tmps : Array Value} {R : Ending → World → Prop} {f : Nat} {pe : Value} {w : World} {v : Value} (hr : RecOk f) (hv : (results fn tmps).run Tryd.prog w = .ok v w) (hR : R (.returned v) w) :
    bodyPostX Tryd.prog fn R .ret { tmps := tmps, defers := [{ target := .fn (.func f) #[pe], args := #[] }] } w :=
  ⟨[], _, rfl, leaves_ok (hr.ok pe w) hr.cf hv hR⟩
theorem doorP_no {fn : Func} {tmps : Array Value} {R : Ending → World → Prop} {f be : Nat} {x y : Int} {w : World} {v : Value} (hr : RecOk f) (h : w.heap[be]? = some (.cells #[.int .i64 y] 32 (0, 0))) (hv : (results fn tmps).run Tryd.prog (caughtP w be x) = .ok v (caughtP w be x)) (hR : R (.returned v) (caughtP w be x)) :
    bodyPostX Tryd.prog fn R (.panic [{ v := .iface 151 (.agg #[.int .i64 x]), recovered := false }]) { tmps := tmps, defers := [{ target := .fn (.func f) #[.pointer (some ⟨be, 0, none⟩)], args := #[] }] } w :=
  ⟨[], _, rfl, leaves_no (hr.no x (v := .int .i64 y) (by rw [cell_of_heap h]; rfl) (frozen_of_heap h)) rfl hr.cf hv hR⟩
set_option maxRecDepth 100000 in
set_option maxHeartbeats 8000000 in
theorem can16 {r : Rws} {p : Int} {al ar : Option Addr} {cl cr : Nat} {w : World} (hv : r.valid = true) (hp : inR p 0 3 = true) (h1 : IsMks w al r.left) (h2 : IsMks w ar r.right) :
    Calls Tryd.prog 16 #[.agg (r.bru p al cl ar cr)] w fun e w' => e = .returned (.tuple #[.int .i64 ((JoiL (casesL r p)).1 : Int), .int .i64 ((JoiL (casesL r p)).2 : Int), .int .i64 (if casesL r p = [] then 4 else 0)]) ∧ Below w.heap.size w w' := by
  obtain ⟨x0, x1, x2⟩ := alloc2 w (r.bru p al cl ar cr) #[.int .i64 0] 54 32
  have HX := Lib.hid (And.intro x0 (And.intro x1 (And.intro x2 (And.intro (h1.mono x2) (h2.mono x2)))))
  have HV := Lib.hid (And.intro hv hp)
  have HM0 := Lib.hid (And.intro h1 h2)
  have hmf : ∀ (fn : Fn) (first cap : Array Value) (w : World), (Instr.makeFunc fn first cap).run Tryd.prog w = .ok (.func fn first cap) w := fun _ _ _ _ => rfl
  clear x0 x1 x2 h1 h2 hv hp
  refine calls_of_wp_x Tryd.func16 rfl ?_
  simp only [Tryd.ntmps16, List.size_toArray, List.length_cons, List.length_nil, Nat.reduceAdd, Nat.reduceSub, Array.replicate_succ, Array.replicate_zero, List.push_toArray, List.append_toArray, List.nil_append, List.cons_append]
  conv => arg 2; whnf
  refine wp_seq_hid ?_
  intro K0 HK0
  go_wp2_with fail
  refine HK0.out _ _ ?_
  clear HK0 K0
  revert HX
  generalize (w.alloc (.cells (r.bru p al cl ar cr) 54)).alloc (.cells #[.int .i64 0] 32) = w1
  generalize hbe : w.heap.size + 1 = be
  generalize hbx : w.heap.size = bx
  intro HX
  have HB := Lib.hid (And.intro hbe hbx)
  clear hbe hbx
  refine wp_seq_hid ?_
  intro K1 HK1
  go_wp2_with fail
  refine HK1.out _ _ ?_
  clear HK1 K1 hmf
  have HO := Lib.hid (And.intro (World.alloc_heap_new w1 (.cells #[.int .i64 0, .int .u64 0, .int .u64 0, .int .u64 0, .int .u64 0] 108)) (alloc_below w1 (.cells #[.int .i64 0, .int .u64 0, .int .u64 0, .int .u64 0, .int .u64 0] 108)))
  refine wp_seq_hid ?_
  intro K2 HK2
  go_wp2_with fail
  refine HK2.out _ _ ?_
  clear HK2 K2
  revert HO
  generalize w1.alloc (.cells #[.int .i64 0, .int .u64 0, .int .u64 0, .int .u64 0, .int .u64 0] 108) = w2
  generalize hb5 : w1.heap.size = b5
  intro HO
  have HB5 := Lib.hid hb5
  have hb12 : Below w1.heap.size w1 w2 := by rw [hb5]; exact HO.out.2
  have HY := Lib.hid (And.intro ((hb12.block _ (heap_lt HX.out.1)).trans HX.out.1) (And.intro ((hb12.block _ (heap_lt HX.out.2.1)).trans HX.out.2.1) (And.intro (HX.out.2.2.1.trans (hb12.mono (by have := heap_lt HX.out.1; omega))) (And.intro (HX.out.2.2.2.1.mono hb12) (HX.out.2.2.2.2.mono hb12)))))
  clear hb5 hb12
  have m0 : w2.cell? ⟨bx, 0, none⟩ = some (.slice al r.left.length cl) := by rw [cell_of_heap HY.out.1]; rfl
  have m1 : w2.cell? ⟨bx, 1, none⟩ = some (.slice ar r.right.length cr) := by rw [cell_of_heap HY.out.1]; rfl
  have m2 : w2.cell? ⟨bx, 2, none⟩ = some (.int .i64 r.shift.lo) := by rw [cell_of_heap HY.out.1]; rfl
  have m3 : w2.cell? ⟨bx, 3, none⟩ = some (.int .i64 r.shift.hi) := by rw [cell_of_heap HY.out.1]; rfl
  have m4 : w2.cell? ⟨bx, 4, none⟩ = some (.int .i64 r.hidden) := by rw [cell_of_heap HY.out.1]; rfl
  have m5 : w2.cell? ⟨bx, 5, none⟩ = some (.int .i64 p) := by rw [cell_of_heap HY.out.1]; rfl
  refine wp_seq_hid ?_
  intro K3 HK3
  go_wp2_with fail
  refine (open53 (cl := cl) (cr := cr) HV.out.1 HV.out.2 HY.out.2.2.2.1 HY.out.2.2.2.2).mono ?_
  clear m0 m1 m2 m3 m4 m5
  rintro e w3 ⟨cb, mb, rfl, hcb, hmb, hcn, hkn, hb3⟩
  have HZ : Hid (Below w1.heap.size w1 w3 ∧ w3.heap[b5]? = some (.cells #[.int .i64 0, .int .u64 0, .int .u64 0, .int .u64 0, .int .u64 0] 108 (0, 0)) ∧ b5 < w2.heap.size ∧ w1.heap.size = b5) := by
    have k3 := heap_lt HO.out.1
    have k4 := HB5.out
    refine ⟨?_, (hb3.block _ k3).trans HO.out.1, k3, k4⟩
    have h := HO.out.2
    rw [← k4] at h
    exact h.trans (hb3.mono h.size)
  have HG : Hid (Calls Tryd.prog 55 #[.pointer (some ⟨cb, 0, none⟩), .iface 113 (.pointer (some ⟨b5, 0, none⟩))] w3 fun e w' => Below w1.heap.size w1 w' ∧ ((casesL r p = [] ∧ e = .panicked [{ v := .iface 151 (.agg #[.int .i64 4]), recovered := false }]) ∨ (casesL r p ≠ [] ∧ e = .returned (.tuple #[]))) ∧ ∃ ob', w'.heap[b5]? = some ob' ∧ JoinB (casesL r p) ob') := by
    obtain ⟨z1, z2, z3, z4⟩ := HZ.out
    exact gather55 joined_ok (W0 := w1) HV.out.1 HX.out.2.2.2.1 HX.out.2.2.2.2 z1 hcn hkn ⟨by omega, by omega, by omega⟩ ⟨by omega, by omega⟩ z2 ⟨0, 0, by decide, by decide, by decide, by decide, rfl⟩
  clear hcb hmb hcn hkn hb3
  go_wp2_with fail
  refine HG.out.mono ?_
  clear HG
  rintro e w4 ⟨hb4, hcase, ob', hob, hst⟩
  have HE : Hid (w4.heap[be]? = some (.cells #[.int .i64 0] 32 (0, 0)) ∧ Below bx w w4 ∧ bx ≤ be ∧ bx ≤ w4.heap.size) := by
    have k1 := heap_lt HX.out.1
    have k5 := hb4.size
    have k6 := HB.out
    exact ⟨(hb4.block _ (heap_lt HX.out.2.1)).trans HX.out.2.1, HX.out.2.2.1.trans (hb4.mono (by omega)), by omega, by omega⟩
  have HST := Lib.hid (And.intro hob hst)
  clear hb4 hob hst
  rcases hcase with ⟨hn, rfl⟩ | ⟨hn, rfl⟩
  · have HN := Lib.hid hn
    clear hn
    go_wp2_with fail
    have hq := caughtP_heap (x := 4) HE.out.1
    refine doorP_no rec51 HE.out.1 (res_ttc rfl _ rfl rfl rfl (cell_at0 hq)) ⟨?_, caughtP_below HE.out.2.1 HE.out.2.2.1 HE.out.2.2.2⟩
    first
    | rfl
    | (rw [HN.out]; rfl)
  · have HN := Lib.hid hn
    clear hn
    go_wp2_with fail
    refine HK3.out _ _ ?_
    clear HK3 K3
    obtain ⟨ob', hst⟩ : ∃ ob', w4.heap[b5]? = some ob' ∧ JoinB (casesL r p) ob' := ⟨ob', HST.out⟩
    obtain ⟨hob, x, y, _, _, j1, j2, rfl⟩ := hst
    obtain ⟨a1, ha1⟩ : ∃ a1, (JoiL (casesL r p)).1 = a1 := ⟨_, rfl⟩
    obtain ⟨a2, ha2⟩ : ∃ a2, (JoiL (casesL r p)).2 = a2 := ⟨_, rfl⟩
    rw [ha1] at j1
    rw [ha2] at j2
    have hobb : w4.heap[b5]? = some (.cells #[.int .i64 ((casesL r p).length : Nat), .int .u64 (a1 : Int), .int .u64 (a2 : Int), .int .u64 (x : Int), .int .u64 (y : Int)] 108 (0, 0)) := by
      rw [hob, ← ha1, ← ha2]
      rfl
    have HOB := Lib.hid hobb
    have HJ := Lib.hid (And.intro ha1 ha2)
    have b1 : (a1 : Int) < 1024 := by omega
    have b2 : (a2 : Int) < 1024 := by omega
    clear hob ha1 ha2 hobb HST
    have v1 : ∀ y : Aft w4.heap.size w4, y.v.cell? ⟨b5, 1, none⟩ = some (.int .u64 a1) := fun y => (cell_of_heap ((y.h.block _ (heap_lt HOB.out)).trans HOB.out)).trans rfl
    have v2 : ∀ y : Aft w4.heap.size w4, y.v.cell? ⟨b5, 2, none⟩ = some (.int .u64 a2) := fun y => (cell_of_heap ((y.h.block _ (heap_lt HOB.out)).trans HOB.out)).trans rfl
    refine wp_seq_hid ?_
    intro K4 HK4
    refine wp_region_aft_tail 10 mixed (by kernel_rfl) ?_
    simp only [List.take_succ_cons, List.take_zero, List.drop_succ_cons, List.drop_zero]
    repeat (go_big_quiet_step (fail))
    refine wpQuiet_nil ?_
    rintro _ ⟨y, rfl⟩
    clear v1 v2
    have hE5 := (y.h.block _ (heap_lt HE.out.1)).trans HE.out.1
    have c0 : y.v.cell? ⟨be, 0, none⟩ = some (.int .i64 0) := cell_at0 hE5
    have f0 : y.v.frozen? ⟨be, 0, none⟩ = false := frozen_of_heap hE5
    have HE5 := Lib.hid hE5
    clear hE5
    go_wp2_with fail
    refine HK4.out _ _ ?_
    go_wp2_with fail
    have hq := heap_setCell_at (k := 0) HE5.out (.int .i64 0)
    refine doorP_ok rec51 (res_ttc rfl _ rfl rfl rfl (cell_at0 (hq.trans rfl))) ⟨?_, (HE.out.2.1.trans (y.h.mono HE.out.2.2.2)).setCell (p := ⟨be, 0, none⟩) HE.out.2.2.1 _⟩
    first
    | (rw [if_neg HN.out, HJ.out.1, HJ.out.2]; rfl)
    | (rw [HJ.out.1, HJ.out.2]; rfl)
end Go.Proofs.YtbnhngfegnhaiaaDoor
namespace Go.Proofs.YtbnhngfegnhaiaaDoor
open Go.RowKit
set_option linter.unusedVariables false
set_option linter.unusedSimpArgs false
/-- What Fewest tells. -/
def FewP (r : Rws) (p : Int) (w : World) (e : Ending) (w' : World) : Prop := ∃ a : Nat × Nat, e = .returned (.tuple #[.int .i64 (a.1 : Int), .int .i64 (a.2 : Int), .int .i64 (if casesL r p = [] then 4 else 0)]) ∧ ((casesL r p = [] ∧ a = (0, 0)) ∨ (casesL r p ≠ [] ∧ a ∈ casesL r p)) ∧ Below w.heap.size w w'
theorem FewP.no {r : Rws} {p : Int} {w w' : World} (h : casesL r p = []) (hb : Below w.heap.size w w') : FewP r p w (.returned (.tuple #[.int .i64 0, .int .i64 0, .int .i64 4])) w' := ⟨(0, 0), by rw [if_pos h]; rfl, .inl ⟨h, rfl⟩, hb⟩
theorem FewP.yes {r : Rws} {p : Int} {w w' : World} {a b : Nat} (h : casesL r p ≠ []) (hm : (a, b) ∈ casesL r p) (hb : Below w.heap.size w w') : FewP r p w (.returned (.tuple #[.int .i64 (a : Int), .int .i64 (b : Int), .int .i64 0])) w' := ⟨(a, b), by rw [if_neg h], .inr ⟨h, hm⟩, hb⟩
theorem res_tc17 {fn : Func} (h : fn.results = #[.tmp 2, .cell 3 32]) (tmps : Array Value) {w : World} {b : Nat} {x z : Value} (h2 : tmps.getD 2 undef = x) (hu : tmps.getD 3 undef = .pointer (some ⟨b, 0, none⟩)) (hc : w.cell? ⟨b, 0, none⟩ = some z) :
    (results fn tmps).run Tryd.prog w = .ok (.tuple #[x, z]) w := by
  have h2' : tmps[2]?.getD undef = x := by simpa using h2
  have hu' : tmps[3]?.getD undef = .pointer (some ⟨b, 0, none⟩) := by simpa using hu
  simp [results, h, h2', hu', hc, go_sem]
set_option maxRecDepth 100000 in
set_option maxHeartbeats 8000000 in
theorem few18 {r : Rws} {p : Int} {al ar : Option Addr} {cl cr : Nat} {w : World} (hv : r.valid = true) (hp : inR p 0 3 = true) (h1 : IsMks w al r.left) (h2 : IsMks w ar r.right) :
    Calls Tryd.prog 18 #[.agg (r.bru p al cl ar cr)] w fun e w' => FewP r p w e w' := by
  obtain ⟨x0, x1, x2⟩ := alloc2 w (r.bru p al cl ar cr) #[.int .i64 0] 54 32
  have HX := Lib.hid (And.intro x0 (And.intro x1 (And.intro x2 (And.intro (h1.mono x2) (h2.mono x2)))))
  have HV := Lib.hid (And.intro hv hp)
  have HM0 := Lib.hid (And.intro h1 h2)
  have hmf : ∀ (fn : Fn) (first cap : Array Value) (w : World), (Instr.makeFunc fn first cap).run Tryd.prog w = .ok (.func fn first cap) w := fun _ _ _ _ => rfl
  clear x0 x1 x2 h1 h2 hv hp
  refine calls_of_wp_x Tryd.func18 rfl ?_
  simp only [Tryd.ntmps18, List.size_toArray, List.length_cons, List.length_nil, Nat.reduceAdd, Nat.reduceSub, Array.replicate_succ, Array.replicate_zero, List.push_toArray, List.append_toArray, List.nil_append, List.cons_append]
  conv => arg 2; whnf
  refine wp_seq_hid ?_
  intro K0 HK0
  go_wp2_with fail
  refine HK0.out _ _ ?_
  clear HK0 K0
  revert HX
  generalize (w.alloc (.cells (r.bru p al cl ar cr) 54)).alloc (.cells #[.int .i64 0] 32) = w1
  generalize hbe : w.heap.size + 1 = be
  generalize hbx : w.heap.size = bx
  intro HX
  have HB := Lib.hid (And.intro hbe hbx)
  clear hbe hbx
  refine wp_seq_hid ?_
  intro K1 HK1
  go_wp2_with fail
  refine HK1.out _ _ ?_
  clear HK1 K1 hmf
  have HO := Lib.hid (And.intro (World.alloc_heap_new w1 (.cells #[.int .i64 0, .int .u64 0, .int .u64 0] 118)) (alloc_below w1 (.cells #[.int .i64 0, .int .u64 0, .int .u64 0] 118)))
  refine wp_seq_hid ?_
  intro K2 HK2
  go_wp2_with fail
  refine HK2.out _ _ ?_
  clear HK2 K2
  revert HO
  generalize w1.alloc (.cells #[.int .i64 0, .int .u64 0, .int .u64 0] 118) = w2
  generalize hb5 : w1.heap.size = b5
  intro HO
  have HB5 := Lib.hid hb5
  have hb12 : Below w1.heap.size w1 w2 := by rw [hb5]; exact HO.out.2
  have HY := Lib.hid (And.intro ((hb12.block _ (heap_lt HX.out.1)).trans HX.out.1) (And.intro ((hb12.block _ (heap_lt HX.out.2.1)).trans HX.out.2.1) (And.intro (HX.out.2.2.1.trans (hb12.mono (by have := heap_lt HX.out.1; omega))) (And.intro (HX.out.2.2.2.1.mono hb12) (HX.out.2.2.2.2.mono hb12)))))
  clear hb5 hb12
  have m0 : w2.cell? ⟨bx, 0, none⟩ = some (.slice al r.left.length cl) := by rw [cell_of_heap HY.out.1]; rfl
  have m1 : w2.cell? ⟨bx, 1, none⟩ = some (.slice ar r.right.length cr) := by rw [cell_of_heap HY.out.1]; rfl
  have m2 : w2.cell? ⟨bx, 2, none⟩ = some (.int .i64 r.shift.lo) := by rw [cell_of_heap HY.out.1]; rfl
  have m3 : w2.cell? ⟨bx, 3, none⟩ = some (.int .i64 r.shift.hi) := by rw [cell_of_heap HY.out.1]; rfl
  have m4 : w2.cell? ⟨bx, 4, none⟩ = some (.int .i64 r.hidden) := by rw [cell_of_heap HY.out.1]; rfl
  have m5 : w2.cell? ⟨bx, 5, none⟩ = some (.int .i64 p) := by rw [cell_of_heap HY.out.1]; rfl
  refine wp_seq_hid ?_
  intro K3 HK3
  go_wp2_with fail
  refine (open53 (cl := cl) (cr := cr) HV.out.1 HV.out.2 HY.out.2.2.2.1 HY.out.2.2.2.2).mono ?_
  clear m0 m1 m2 m3 m4 m5
  rintro e w3 ⟨cb, mb, rfl, hcb, hmb, hcn, hkn, hb3⟩
  have HZ : Hid (Below w1.heap.size w1 w3 ∧ w3.heap[b5]? = some (.cells #[.int .i64 0, .int .u64 0, .int .u64 0] 118 (0, 0)) ∧ b5 < w2.heap.size ∧ w1.heap.size = b5) := by
    have k3 := heap_lt HO.out.1
    have k4 := HB5.out
    refine ⟨?_, (hb3.block _ k3).trans HO.out.1, k3, k4⟩
    have h := HO.out.2
    rw [← k4] at h
    exact h.trans (hb3.mono h.size)
  have HG : Hid (Calls Tryd.prog 55 #[.pointer (some ⟨cb, 0, none⟩), .iface 119 (.pointer (some ⟨b5, 0, none⟩))] w3 fun e w' => Below w1.heap.size w1 w' ∧ ((casesL r p = [] ∧ e = .panicked [{ v := .iface 151 (.agg #[.int .i64 4]), recovered := false }]) ∨ (casesL r p ≠ [] ∧ e = .returned (.tuple #[]))) ∧ ∃ ob', w'.heap[b5]? = some ob' ∧ FirB (casesL r p) ob') := by
    obtain ⟨z1, z2, z3, z4⟩ := HZ.out
    exact gather55 first_ok (W0 := w1) HV.out.1 HX.out.2.2.2.1 HX.out.2.2.2.2 z1 hcn hkn ⟨by omega, by omega, by omega⟩ ⟨by omega, by omega⟩ z2 ⟨(0, 0), by decide, by decide, fun h => absurd rfl h, rfl⟩
  clear hcb hmb hcn hkn hb3
  go_wp2_with fail
  refine HG.out.mono ?_
  clear HG
  rintro e w4 ⟨hb4, hcase, ob', hob, hst⟩
  have HE : Hid (w4.heap[be]? = some (.cells #[.int .i64 0] 32 (0, 0)) ∧ Below bx w w4 ∧ bx ≤ be ∧ bx ≤ w4.heap.size) := by
    have k1 := heap_lt HX.out.1
    have k5 := hb4.size
    have k6 := HB.out
    exact ⟨(hb4.block _ (heap_lt HX.out.2.1)).trans HX.out.2.1, HX.out.2.2.1.trans (hb4.mono (by omega)), by omega, by omega⟩
  have HST := Lib.hid (And.intro hob hst)
  clear hb4 hob hst
  rcases hcase with ⟨hn, rfl⟩ | ⟨hn, rfl⟩
  · have HN := Lib.hid hn
    clear hn
    go_wp2_with fail
    have hq := caughtP_heap (x := 4) HE.out.1
    refine doorP_no rec57 HE.out.1 (res_ttc rfl _ rfl rfl rfl (cell_at0 hq)) (FewP.no HN.out (by rw [HB.out.2]; exact caughtP_below HE.out.2.1 HE.out.2.2.1 HE.out.2.2.2))
  · have HN := Lib.hid hn
    clear hn
    go_wp2_with fail
    refine HK3.out _ _ ?_
    clear HK3 K3
    obtain ⟨ob', hst⟩ : ∃ ob', w4.heap[b5]? = some ob' ∧ FirB (casesL r p) ob' := ⟨ob', HST.out⟩
    obtain ⟨hob, bb, j1, j2, hmem, rfl⟩ := hst
    obtain ⟨a1, a2⟩ := bb
    have hobb : w4.heap[b5]? = some (.cells #[.int .i64 ((casesL r p).length : Nat), .int .u64 (a1 : Int), .int .u64 (a2 : Int)] 118 (0, 0)) := hob
    have HOB := Lib.hid hobb
    have HJ := Lib.hid (hmem HN.out)
    have j1' : a1 < 1024 := j1
    have j2' : a2 < 1024 := j2
    have b1 : (a1 : Int) < 1024 := by omega
    have b2 : (a2 : Int) < 1024 := by omega
    clear hob hobb HST hmem
    have v1 : ∀ y : Aft w4.heap.size w4, y.v.cell? ⟨b5, 1, none⟩ = some (.int .u64 a1) := fun y => (cell_of_heap ((y.h.block _ (heap_lt HOB.out)).trans HOB.out)).trans rfl
    have v2 : ∀ y : Aft w4.heap.size w4, y.v.cell? ⟨b5, 2, none⟩ = some (.int .u64 a2) := fun y => (cell_of_heap ((y.h.block _ (heap_lt HOB.out)).trans HOB.out)).trans rfl
    refine wp_seq_hid ?_
    intro K4 HK4
    refine wp_region_aft_tail 10 mixed (by kernel_rfl) ?_
    simp only [List.take_succ_cons, List.take_zero, List.drop_succ_cons, List.drop_zero]
    repeat (go_big_quiet_step (fail))
    refine wpQuiet_nil ?_
    rintro _ ⟨y, rfl⟩
    clear v1 v2
    have hE5 := (y.h.block _ (heap_lt HE.out.1)).trans HE.out.1
    have c0 : y.v.cell? ⟨be, 0, none⟩ = some (.int .i64 0) := cell_at0 hE5
    have f0 : y.v.frozen? ⟨be, 0, none⟩ = false := frozen_of_heap hE5
    have HE5 := Lib.hid hE5
    clear hE5
    go_wp2_with fail
    refine HK4.out _ _ ?_
    go_wp2_with fail
    have hq := heap_setCell_at (k := 0) HE5.out (.int .i64 0)
    refine doorP_ok rec57 (res_ttc rfl _ rfl rfl rfl (cell_at0 (hq.trans rfl))) (FewP.yes HN.out HJ.out (by rw [HB.out.2]; exact (HE.out.2.1.trans (y.h.mono HE.out.2.2.2)).setCell (p := ⟨be, 0, none⟩) HE.out.2.2.1 _))
set_option maxRecDepth 100000 in
set_option maxHeartbeats 8000000 in
theorem sides17 {r : Rws} {p : Int} {al ar : Option Addr} {cl cr : Nat} {w : World} (hv : r.valid = true) (hp : inR p 0 3 = true) (h1 : IsMks w al r.left) (h2 : IsMks w ar r.right) :
    Calls Tryd.prog 17 #[.agg (r.bru p al cl ar cr)] w fun e w' => e = .returned (.tuple #[.int .i64 (sidesF (casesL r p) : Int), .int .i64 (if casesL r p = [] then 4 else 0)]) ∧ Below w.heap.size w w' := by
  obtain ⟨x0, x1, x2⟩ := alloc2 w (r.bru p al cl ar cr) #[.int .i64 0] 54 32
  have HX := Lib.hid (And.intro x0 (And.intro x1 (And.intro x2 (And.intro (h1.mono x2) (h2.mono x2)))))
  have HV := Lib.hid (And.intro hv hp)
  have HM0 := Lib.hid (And.intro h1 h2)
  have hmf : ∀ (fn : Fn) (first cap : Array Value) (w : World), (Instr.makeFunc fn first cap).run Tryd.prog w = .ok (.func fn first cap) w := fun _ _ _ _ => rfl
  clear x0 x1 x2 h1 h2 hv hp
  refine calls_of_wp_x Tryd.func17 rfl ?_
  simp only [Tryd.ntmps17, List.size_toArray, List.length_cons, List.length_nil, Nat.reduceAdd, Nat.reduceSub, Array.replicate_succ, Array.replicate_zero, List.push_toArray, List.append_toArray, List.nil_append, List.cons_append]
  conv => arg 2; whnf
  refine wp_seq_hid ?_
  intro K0 HK0
  go_wp2_with fail
  refine HK0.out _ _ ?_
  clear HK0 K0
  revert HX
  generalize (w.alloc (.cells (r.bru p al cl ar cr) 54)).alloc (.cells #[.int .i64 0] 32) = w1
  generalize hbe : w.heap.size + 1 = be
  generalize hbx : w.heap.size = bx
  intro HX
  have HB := Lib.hid (And.intro hbe hbx)
  clear hbe hbx
  refine wp_seq_hid ?_
  intro K1 HK1
  go_wp2_with fail
  refine HK1.out _ _ ?_
  clear HK1 K1 hmf
  have HO := Lib.hid (And.intro (World.alloc_heap_new w1 (.cells #[.int .i64 0] 115)) (alloc_below w1 (.cells #[.int .i64 0] 115)))
  refine wp_seq_hid ?_
  intro K2 HK2
  go_wp2_with fail
  refine HK2.out _ _ ?_
  clear HK2 K2
  revert HO
  generalize w1.alloc (.cells #[.int .i64 0] 115) = w2
  generalize hb5 : w1.heap.size = b5
  intro HO
  have HB5 := Lib.hid hb5
  have hb12 : Below w1.heap.size w1 w2 := by rw [hb5]; exact HO.out.2
  have HY := Lib.hid (And.intro ((hb12.block _ (heap_lt HX.out.1)).trans HX.out.1) (And.intro ((hb12.block _ (heap_lt HX.out.2.1)).trans HX.out.2.1) (And.intro (HX.out.2.2.1.trans (hb12.mono (by have := heap_lt HX.out.1; omega))) (And.intro (HX.out.2.2.2.1.mono hb12) (HX.out.2.2.2.2.mono hb12)))))
  clear hb5 hb12
  have m0 : w2.cell? ⟨bx, 0, none⟩ = some (.slice al r.left.length cl) := by rw [cell_of_heap HY.out.1]; rfl
  have m1 : w2.cell? ⟨bx, 1, none⟩ = some (.slice ar r.right.length cr) := by rw [cell_of_heap HY.out.1]; rfl
  have m2 : w2.cell? ⟨bx, 2, none⟩ = some (.int .i64 r.shift.lo) := by rw [cell_of_heap HY.out.1]; rfl
  have m3 : w2.cell? ⟨bx, 3, none⟩ = some (.int .i64 r.shift.hi) := by rw [cell_of_heap HY.out.1]; rfl
  have m4 : w2.cell? ⟨bx, 4, none⟩ = some (.int .i64 r.hidden) := by rw [cell_of_heap HY.out.1]; rfl
  have m5 : w2.cell? ⟨bx, 5, none⟩ = some (.int .i64 p) := by rw [cell_of_heap HY.out.1]; rfl
  refine wp_seq_hid ?_
  intro K3 HK3
  go_wp2_with fail
  refine (open53 (cl := cl) (cr := cr) HV.out.1 HV.out.2 HY.out.2.2.2.1 HY.out.2.2.2.2).mono ?_
  clear m0 m1 m2 m3 m4 m5
  rintro e w3 ⟨cb, mb, rfl, hcb, hmb, hcn, hkn, hb3⟩
  have HZ : Hid (Below w1.heap.size w1 w3 ∧ w3.heap[b5]? = some (.cells #[.int .i64 0] 115 (0, 0)) ∧ b5 < w2.heap.size ∧ w1.heap.size = b5) := by
    have k3 := heap_lt HO.out.1
    have k4 := HB5.out
    refine ⟨?_, (hb3.block _ k3).trans HO.out.1, k3, k4⟩
    have h := HO.out.2
    rw [← k4] at h
    exact h.trans (hb3.mono h.size)
  have HG : Hid (Calls Tryd.prog 55 #[.pointer (some ⟨cb, 0, none⟩), .iface 116 (.pointer (some ⟨b5, 0, none⟩))] w3 fun e w' => Below w1.heap.size w1 w' ∧ ((casesL r p = [] ∧ e = .panicked [{ v := .iface 151 (.agg #[.int .i64 4]), recovered := false }]) ∨ (casesL r p ≠ [] ∧ e = .returned (.tuple #[]))) ∧ ∃ ob', w'.heap[b5]? = some ob' ∧ SideB (casesL r p) ob') := by
    obtain ⟨z1, z2, z3, z4⟩ := HZ.out
    exact gather55 sides_ok (W0 := w1) HV.out.1 HX.out.2.2.2.1 HX.out.2.2.2.2 z1 hcn hkn ⟨by omega, by omega, by omega⟩ ⟨by omega, by omega⟩ z2 rfl
  clear hcb hmb hcn hkn hb3
  go_wp2_with fail
  refine HG.out.mono ?_
  clear HG
  rintro e w4 ⟨hb4, hcase, ob', hob, hst⟩
  have HE : Hid (w4.heap[be]? = some (.cells #[.int .i64 0] 32 (0, 0)) ∧ Below bx w w4 ∧ bx ≤ be ∧ bx ≤ w4.heap.size) := by
    have k1 := heap_lt HX.out.1
    have k5 := hb4.size
    have k6 := HB.out
    exact ⟨(hb4.block _ (heap_lt HX.out.2.1)).trans HX.out.2.1, HX.out.2.2.1.trans (hb4.mono (by omega)), by omega, by omega⟩
  have HST := Lib.hid (And.intro hob hst)
  clear hb4 hob hst
  rcases hcase with ⟨hn, rfl⟩ | ⟨hn, rfl⟩
  · have HN := Lib.hid hn
    clear hn
    go_wp2_with fail
    have hq := caughtP_heap (x := 4) HE.out.1
    refine doorP_no rec56 HE.out.1 (res_tc17 rfl _ rfl rfl (cell_at0 hq)) ⟨?_, caughtP_below HE.out.2.1 HE.out.2.2.1 HE.out.2.2.2⟩
    first
    | rfl
    | (rw [HN.out]; rfl)
  · have HN := Lib.hid hn
    clear hn
    go_wp2_with fail
    refine HK3.out _ _ ?_
    clear HK3 K3
    obtain ⟨ob', hst⟩ : ∃ ob', w4.heap[b5]? = some ob' ∧ SideB (casesL r p) ob' := ⟨ob', HST.out⟩
    obtain ⟨hob, hst⟩ := hst
    have hobb : w4.heap[b5]? = some (.cells #[.int .i64 (sidesF (casesL r p))] 115 (0, 0)) := by rw [hob, hst]
    have c5 := cell_at0 hobb
    have c0 : w4.cell? ⟨be, 0, none⟩ = some (.int .i64 0) := cell_at0 HE.out.1
    have f0 : w4.frozen? ⟨be, 0, none⟩ = false := frozen_of_heap HE.out.1
    clear hob hst hobb HST
    refine wp_seq_hid ?_
    intro K4 HK4
    go_wp2_with fail
    refine HK4.out _ _ ?_
    go_wp2_with fail
    have hq := heap_setCell_at (k := 0) HE.out.1 (.int .i64 0)
    refine doorP_ok rec56 (res_tc17 rfl _ rfl rfl (cell_at0 (hq.trans rfl))) ⟨?_, HE.out.2.1.setCell (p := ⟨be, 0, none⟩) HE.out.2.2.1 _⟩
    first
    | rfl
    | (rw [if_neg HN.out]; rfl)
end Go.Proofs.YtbnhngfegnhaiaaDoor
