/- Words on memory and walks, over whatever program: for the heap. Boxes and cards in memory; small functions of the heap. Titles and pieces. Boxes with a heap that are valid are told to be. Boxes with a heap that are valid are told to be: the walk. Boxes with a heap that are valid are told to be: the whole walk. Titles and pieces of the reference. Mixed of the reference: what it tells is so. The row's last step where the call leaves a world of which only what lay there before is known. Boxes and a heap of cards that are handed in, opened. Mixed of the reference: the walk. Numbers as they are written. -/
import Derived.Test.YtbnhngfegnhaiaaGreatDoorC2
import Derived.Deep.DeepCutAuto
import Derived.Laws.IdiomStrings
import Derived.Laws.EntriesVeiled
import Derived.Laws.Strings
import Derived.Laws.Strings2
import Derived.Laws.Strings3
import Derived.Below
import Derived.ChangeSame
import Derived.ProofKit
import Derived.Deep.Slices
import Derived.Deep.Fields
import Derived.Lib.SmallJoins
import Derived.Carry
import Derived.OpenShut
import Derived.SizedLaws
namespace Go.Proofs.YtbnhngfegnhaiaaGreatDoor
open Go.RowKit
set_option linter.unusedVariables false
set_option linter.unusedSimpArgs false
theorem heap_lt {w : World} {g : Nat} {o : Obj} (h : w.heap[g]? = some o) : g < w.heap.size := (Array.getElem?_eq_some_iff.1 h).1
theorem own_base {w : World} {b b' : Nat} {e : TypeId} {s n : Nat} {v : Value} {xs : List Value} (h : w.ownsRow b e s v n xs) (hb : b' ≤ b) : w.ownsRow b' e s v n xs := by
  obtain ⟨h1, h2⟩ := h
  refine ⟨h1, ?_⟩
  rcases h2 with h2 | ⟨g, cap, cur, hv, hg, r⟩
  · exact .inl h2
  · exact .inr ⟨g, cap, cur, hv, by omega, r⟩
theorem own_blocks {w w' : World} {B : Nat} {e : TypeId} {s n : Nat} {v : Value} {xs : List Value} (h : w.ownsRow B e s v n xs) (hk : ∀ g, v.ownBlock = some g → w'.heap[g]? = w.heap[g]?) : w'.ownsRow B e s v n xs := by
  obtain ⟨h1, h2⟩ := h
  refine ⟨h1, ?_⟩
  rcases h2 with h2 | ⟨g, cap, cur, rfl, hg, hh, r⟩
  · exact .inl h2
  · exact .inr ⟨g, cap, cur, rfl, hg, (hk g rfl).trans hh, r⟩
theorem own_ints {w : World} {base : Nat} {a : Option Addr} {l : List Int} {cap : Nat} (h : w.ownsRow base 3 1 (.slice a l.length cap) l.length (l.map (Value.int .i64))) : IsInts w a l := fun i hi => by
  obtain ⟨g, c, e, _, _, _, _, hc⟩ := own_cell h (by omega)
  cases e
  refine ⟨g, 0, rfl, ?_⟩
  rw [Nat.zero_add]
  exact hc i _ (by simp [gi, hi])
theorem wp_seq_hid {P : Program} {x y : Code} {Q : Exit → Act → World → Prop} {a : Act} {w : World} (h : ∀ K, Hid (∀ a' w', y.wp P Q a' w' → K a' w') → x.wp P (Exit.then K Q) a w) : (Code.seq x y).wp P Q a w :=
  wp_seq (h _ fun _ _ h => h)
theorem wpIn_append_run {P : Program} {m : Nat} {w : World} {o : Oper} {a : Act} {K : Act → World → Prop} {Q : Exit → Act → World → Prop} (s x : Operand) (t : TypeId)
    (ho : o.op = .call { callee := .builtin .append, args := #[s, x], argTypes := #[t, t] }) (v xv v' : Value) (w' : World) (hs : a.eval s = v) (hx : a.eval x = xv)
    (hr : (Builtin.append_ #[t, t] o.type #[v, xv]).run P w = .ok v' w') (h : K (a.put o.dst v') w') : o.wpIn (wideAt none) m P a w K Q := by
  refine ⟨fun _ _ => trivial, ?_⟩
  show o.uponIn _ _ P a K Q ((execOp a.eval o).run P w)
  unfold execOp
  simp only [ho, resolve, invoke, builtin, Sem.run_bind, Sem.run_pure, Result.andThen_ok, List.map_toArray, List.map_cons, List.map_nil, hs, hx, hr]
  exact h
theorem infoI : (Tryz.prog.info? 3).map (fun i => (i.zero, i.size, i.bytes)) = some (some (.int .i64 0), 1, 8) := by kernel_rfl
def leftReg : Code → Option Nat
  | .region id _ _ => some id
  | .seq a _ => leftReg a
  | _ => none
def fromRegion (n : Nat) : Code → Option Code
  | .seq a b => if leftReg a = some n then some (.seq a b) else match fromRegion n a with
    | some c => some c
    | none => fromRegion n b
  | .block _ c => fromRegion n c
  | .scope c => fromRegion n c
  | .loop c => fromRegion n c
  | .cond _ a b => match fromRegion n a with
    | some c => some c
    | none => fromRegion n b
  | _ => none
def regionAt (n : Nat) : Code → Option Code
  | .region id ops dr => if id = n then some (.region id ops dr) else none
  | .seq a b => match regionAt n a with
    | some c => some c
    | none => regionAt n b
  | .block _ c => regionAt n c
  | .scope c => regionAt n c
  | .loop c => regionAt n c
  | .cond _ a b => match regionAt n a with
    | some c => some c
    | none => regionAt n b
  | _ => none
/-- Blocks laid one behind the other. -/
theorem alloc2 (w : World) (c d : Array Value) (s t : TypeId) : ((w.alloc (.cells c s)).alloc (.cells d t)).heap[w.heap.size]? = some (.cells c s (0, 0)) ∧ ((w.alloc (.cells c s)).alloc (.cells d t)).heap[w.heap.size + 1]? = some (.cells d t (0, 0)) ∧ Below w.heap.size w ((w.alloc (.cells c s)).alloc (.cells d t)) := by
  refine ⟨?_, ?_, ((Below.refl _ w).alloc (Nat.le_refl _) _).alloc (by simp) _⟩
  · rw [Below.heap_alloc _ _ _ (by simp)]
    exact World.alloc_heap_new w _
  · have := World.alloc_heap_new (w.alloc (.cells c s)) (.cells d t)
    rwa [World.size_alloc] at this
theorem alloc3 (w : World) (c d e : Array Value) (s t u : TypeId) : ∀ v, v = ((w.alloc (.cells c s)).alloc (.cells d t)).alloc (.cells e u) → v.heap[w.heap.size]? = some (.cells c s (0, 0)) ∧ v.heap[w.heap.size + 1]? = some (.cells d t (0, 0)) ∧ v.heap[w.heap.size + 2]? = some (.cells e u (0, 0)) ∧ Below w.heap.size w v := by
  rintro v rfl
  obtain ⟨h1, h2, h3⟩ := alloc2 w c d s t
  have h0 : Below ((w.alloc (.cells c s)).alloc (.cells d t)).heap.size ((w.alloc (.cells c s)).alloc (.cells d t)) (((w.alloc (.cells c s)).alloc (.cells d t)).alloc (.cells e u)) := (Below.refl _ _).alloc (Nat.le_refl _) _
  refine ⟨(h0.block _ (heap_lt h1)).trans h1, (h0.block _ (heap_lt h2)).trans h2, ?_, h3.trans (h0.mono h3.size)⟩
  have := World.alloc_heap_new ((w.alloc (.cells c s)).alloc (.cells d t)) (.cells e u)
  rwa [World.size_alloc, World.size_alloc] at this
theorem alloc_below (v : World) (o : Obj) : Below v.heap.size v (v.alloc o) := (Below.refl _ v).alloc (Nat.le_refl _) _
/-- The first cells of a block are kept. -/
def KeptTo (e : TypeId) (k : Nat) (w w' : World) (b : Nat) : Prop := ∀ cur, w.heap[b]? = some (.cells cur e (0, 0)) → ∃ cur', w'.heap[b]? = some (.cells cur' e (0, 0)) ∧ cur'.size = cur.size ∧ cur'.toList.take k = cur.toList.take k
theorem KeptTo.mono {e : TypeId} {k j : Nat} {w w' : World} {b : Nat} (h : KeptTo e k w w' b) (hj : j ≤ k) : KeptTo e j w w' b := fun cur hc => by
  obtain ⟨c1, h1, h2, h3⟩ := h cur hc
  refine ⟨c1, h1, h2, ?_⟩
  have := congrArg (fun l => l.take j) h3
  simpa [List.take_take, Nat.min_eq_left hj] using this
theorem KeptTo.of_eq {e : TypeId} {k : Nat} {w w' : World} {b : Nat} (h : w'.heap[b]? = w.heap[b]?) : KeptTo e k w w' b := fun cur hc => ⟨cur, h.trans hc, rfl, rfl⟩
theorem KeptTo.trans {e : TypeId} {k : Nat} {w w' w'' : World} {b : Nat} (h : KeptTo e k w w' b) (h' : KeptTo e k w' w'' b) : KeptTo e k w w'' b := fun cur hc => by
  obtain ⟨c1, h1, h2, h3⟩ := h cur hc
  obtain ⟨c2, h4, h5, h6⟩ := h' c1 h1
  exact ⟨c2, h4, h5.trans h2, h6.trans h3⟩
theorem append_keep {P : Program} {w : World} (base : Nat) (t ty e : TypeId) (i : TypeInfo) (z : Value) (bytes : Nat) (ht : P.underlying t = some (.slice e)) (hi : P.info? e = some i) (hz : i.zero = some z)
    (hsize : i.size = 1) (hby : i.bytes = bytes) (hzs : z.cells.size = 1) (v : Value) (n : Nat) (xs : List Value) (hown : w.ownsRow base e 1 v n xs) (ad : Addr) (x : Value) (hx : w.cell? ad = some x) (h1 : x.oneCell' = true)
    (h63 : n + 1 ≤ maxLen) (hbytes : (n + 1) * bytes ≤ 140737488355328) (hbase : base ≤ w.heap.size) :
    ∃ v' w', (Builtin.append_ #[t, t] ty #[v, .slice (some ad) 1 1]).run P w = .ok v' w' ∧ w'.ownsRow base e 1 v' (n + 1) (xs ++ [x]) ∧ w.grownBy w' v.ownBlock ∧ (v'.ownBlock = v.ownBlock ∨ v'.ownBlock = some w.heap.size) ∧ (∀ g, v.ownBlock = some g → KeptTo e n w w' g) := by
  have hnews : ∀ j u, [x][j]? = some u → w.cell? (ad.add j) = some u := fun j u hj => by
    cases j with
    | zero => simp at hj; subst hj; exact hx
    | succ j => simp at hj
  have h1' : ∀ u ∈ [x], u.oneCell' = true := by intro u hu; simp at hu; subst hu; exact h1
  obtain ⟨v', w', hr, h2, h3, _, h5⟩ := run_append_own_at (P := P) (w := w) base t ty e i z 1 bytes ht hi hz hsize hby hzs (by decide) v n xs hown ad 1 1 [x] rfl hnews h1' h63 hbytes hbase
  refine ⟨v', w', hr, h2, h3, h5, fun g hg => ?_⟩
  rcases hown.2 with ⟨rfl, _⟩ | ⟨g', cap, cur, rfl, hbg, hh, hnc, hcm, hcs, htake⟩
  · simp [Value.ownBlock] at hg
  · simp [Value.ownBlock] at hg
    subst hg
    by_cases hroom : n + 1 ≤ cap
    · have hfit : n * i.size + [x].length ≤ cur.size := by rw [hsize, hcs]; simp; omega
      have hr2 := run_append_room (P := P) w t ty e i ht hi g' n cap cur hh ad 1 1 [x] (by rw [hsize]; rfl) hnews h1' hroom hfit
      rw [hr] at hr2
      cases hr2
      intro cur' hc'
      rw [hh] at hc'
      cases hc'
      refine ⟨_, setRow_heap w g' cur _ e _ hh, ?_, ?_⟩
      · rw [hsize] at hfit ⊢
        simp at hfit ⊢
        omega
      · rw [hsize, Nat.mul_one]
        have hl : (cur.toList.take n).length = n := by simp; simp at hfit; rw [hsize] at hfit; omega
        simp only [List.append_assoc]
        rw [List.take_append_of_le_length (by omega), List.take_of_length_le (by omega)]
    · have holds : ∀ j u, xs[j]? = some u → w.cell? ((⟨g', 0, none⟩ : Addr).add j) = some u := hown.cells (g := g') rfl
      have hr2 := run_append_grow (P := P) w t ty e i z ht hi hz ⟨g', 0, none⟩ n cap xs (by rw [hsize]; exact hown.1) holds ad 1 1 [x] (by rw [hsize]; rfl) hnews (by omega) (by unfold maxLen at h63; omega) (growslice_fits (by omega) (by rw [hby]; exact hbytes))
      rw [hr] at hr2
      cases hr2
      exact KeptTo.of_eq (heap_alloc_old w.drew _ (Array.getElem?_eq_some_iff.1 hh).1)
def InvStepsIn (r : Option Nat) (m : Nat) (P : Program) (Q : Exit → Act → World → Prop) (ops : Array Oper) (Inv : (Nat → Bool) → Act → World → Prop) : Nat → List Oper → Prop
  | _, [] => True
  | k, o :: l => (∀ d a w K, d k = false → (∀ e ∈ o.after, Region.binds .any e = true → d e.on = true) → Inv d a w → Hid (∀ a' w', Inv (upd d k) a' w' → K a' w') →
      if Region.wanted o (yielded ops a.tmps) then o.wpIn (wideAt r) m P a w K Q else K (a.put o.dst undef) w) ∧ InvStepsIn r m P Q ops Inv (k + 1) l
theorem InvStepsIn.get {r : Option Nat} {m : Nat} {P : Program} {Q : Exit → Act → World → Prop} {ops : Array Oper} {Inv : (Nat → Bool) → Act → World → Prop} : ∀ {l : List Oper} {k : Nat}, InvStepsIn r m P Q ops Inv k l → ∀ {i : Nat} {o : Oper}, l[i]? = some o →
    ∀ d a w, d (k + i) = false → (∀ e ∈ o.after, Region.binds .any e = true → d e.on = true) → Inv d a w →
      if Region.wanted o (yielded ops a.tmps) then o.wpIn (wideAt r) m P a w (fun a' w' => Inv (fun j => if j = k + i then true else d j) a' w') Q else Inv (fun j => if j = k + i then true else d j) (a.put o.dst undef) w
  | [], _, _, i, o, h => by simp at h
  | o' :: l, k, hs, 0, o, h => by
    simp only [List.getElem?_cons_zero, Option.some.injEq] at h
    subst h
    exact fun d a w h1 h2 h3 => hs.1 d a w _ h1 h2 h3 (fun _ _ h => h)
  | o' :: l, k, hs, i + 1, o, h => by
    rw [List.getElem?_cons_succ] at h
    have := InvStepsIn.get hs.2 h
    rw [show k + 1 + i = k + (i + 1) by omega] at this
    exact this
/-- Each waits for earlier ones alone. -/
def plainG (l : List Oper) : Bool := (List.range l.length).all fun i => match l[i]? with
  | some o => o.after.all fun e => decide (e.on < i) || !Region.binds .any e
  | none => true
theorem plainG_at {l : List Oper} (h : plainG l = true) {i : Nat} {o : Oper} (ho : l[i]? = some o) : ∀ e ∈ o.after, Region.binds .any e = true → e.on < i := by
  have hi : i < l.length := (List.getElem?_eq_some_iff.1 ho).1
  have := (List.all_eq_true.1 h) i (List.mem_range.2 hi)
  rw [ho] at this
  simp only [Array.all_eq_true_iff_forall_mem, decide_eq_true_eq, Bool.or_eq_true] at this
  exact fun e he hb => by
    rcases this e he with h | h
    · exact h
    · rw [hb] at h; cases h
theorem wpAnyIn_invG {r : Option Nat} {m : Nat} {P : Program} {l : List Oper} {Q : Exit → Act → World → Prop} {Inv : (Nat → Bool) → Act → World → Prop} (hp : plainG l = true) (hs : InvStepsIn r m P Q l.toArray Inv 0 l)
    (hend : ∀ d a w, (∀ i, i < l.length → d i = true) → Inv d a w → Q .normal a w) :
    ∀ (f : Nat) (listed : Array Bool) (a : Act) (w : World), listed.size = l.length → (listed.toList.countP (fun b => !b)) = f → Inv (fun j => listed.getD j false) a w → wpAnyIn (wideAt r) m P .any l.toArray Q f listed a w := by
  have first : ∀ listed : Array Bool, listed.size = l.length → Region.ready .any l.toArray listed = [] → ∀ i, i < l.length → listed.getD i false = true := by
    intro listed hz hr i
    induction i using Nat.strongRecOn with
    | ind i ih =>
      intro hi
      cases hb : listed.getD i false with
      | true => rfl
      | false =>
        exfalso
        have : i ∈ Region.ready .any l.toArray listed := by
          rw [mem_ready]
          have hlt : i < listed.size := by omega
          refine ⟨by simpa [hlt] using hb, l[i], by simp [hi], fun e he hbd => ?_⟩
          have := plainG_at hp (List.getElem?_eq_getElem hi) e he hbd
          exact ih e.on this (by omega)
        rw [hr] at this
        simp at this
  intro f
  induction f with
  | zero =>
    intro listed a w hz hc hI
    have hall : ∀ i, i < l.length → listed.getD i false = true := by
      intro i hi
      have hlt : i < listed.size := by omega
      have := List.countP_eq_zero.1 hc (listed[i]) (by simp)
      simpa [hlt] using this
    refine ⟨?_, hend _ a w hall hI⟩
    rw [List.eq_nil_iff_forall_not_mem]
    intro i hi
    obtain ⟨h1, o, ho, _⟩ := mem_ready.1 hi
    have hlt : i < listed.size := by
      have := (Array.getElem?_eq_some_iff.1 ho).1
      simpa [hz] using this
    have := hall i (by omega)
    simp [hlt] at h1 this
    rw [this] at h1
    cases h1
  | succ f ih =>
    intro listed a w hz hc hI
    refine ⟨fun hr => hend _ a w (first listed hz hr) hI, fun i hi => ?_⟩
    obtain ⟨h1, o, ho, hdep⟩ := mem_ready.1 hi
    have hil : i < l.length := by simpa using (Array.getElem?_eq_some_iff.1 ho).1
    have hlt : i < listed.size := by omega
    have ho' : l[i]? = some o := by simpa using ho
    have hb : listed.getD i false = false := by simpa [hlt] using h1
    have hstep := hs.get ho' (fun j => listed.getD j false) a w (by simpa using hb) hdep hI
    have hnext : ∀ a' w', Inv (fun j => if j = 0 + i then true else listed.getD j false) a' w' → wpAnyIn (wideAt r) m P .any l.toArray Q f (listed.setIfInBounds i true) a' w' := by
      intro a' w' hI'
      refine ih _ a' w' (by simpa using hz) ?_ ?_
      · have h2 : listed.toList = listed.toList.take i ++ false :: listed.toList.drop (i + 1) := by
          have e : listed[i] = false := by simpa [hlt] using hb
          have := List.drop_eq_getElem_cons (l := listed.toList) (i := i) (by simpa using hlt)
          simp only [Array.getElem_toList, e] at this
          rw [← this, List.take_append_drop]
        have h3 : (listed.setIfInBounds i true).toList = listed.toList.take i ++ true :: listed.toList.drop (i + 1) := by
          rw [Array.toList_setIfInBounds, List.set_eq_take_append_cons_drop, if_pos (by simpa using hlt)]
        rw [h2] at hc
        rw [h3]
        simp only [List.countP_append, List.countP_cons, Bool.not_false, if_true, Bool.not_true] at hc ⊢
        simp at hc ⊢
        omega
      · have e : (fun j => (listed.setIfInBounds i true).getD j false) = (fun j => if j = 0 + i then true else listed.getD j false) := by
          funext j
          rw [Nat.zero_add]
          by_cases hj : j = i
          · subst hj; simp [hlt]
          · rw [if_neg hj, getD_set_ne false (fun e => hj e.symm)]
        rw [e]
        exact hI'
    unfold wpOpIn
    simp only [ho]
    split
    · rename_i hw
      rw [if_pos hw] at hstep
      exact Oper.wpIn_mono hnext hstep
    · rename_i hw
      rw [if_neg hw] at hstep
      exact ⟨fun _ _ => trivial, hnext _ _ hstep⟩
/-- A region that draws, with guards: by an invariant. -/
theorem wpIn_region_invG {r : Option Nat} {m : Nat} {P : Program} {id : Nat} {l : List Oper} {Q : Exit → Act → World → Prop} {a : Act} {w : World} (hm : P.follows .mixedOrders = true) (hp : plainG l = true)
    (Inv : (Nat → Bool) → Act → World → Prop) (h0 : Inv (fun _ => false) a w.drew) (hs : InvStepsIn r m P Q l.toArray Inv 0 l)
    (hend : ∀ d a w, (∀ i, i < l.length → d i = true) → Inv d a w → Q .normal a w) : (Code.region id l.toArray true).wpIn (wideAt r) m P Q a w := by
  refine wpIn_region_any hm (wpAnyIn_invG hp hs hend _ _ _ _ (by simp) (by simp [List.countP_replicate]) ?_)
  have e : (fun j => (Array.replicate l.toArray.size false).getD j false) = fun _ => false := by
    funext j
    by_cases hj : j < l.length <;> simp [hj]
  rw [e]
  exact h0
theorem cell_same {w w' : World} {mb b o : Nat} {v : Value} (hm : ∃ es c, w.heap[mb]? = some (.map es c)) (hs : Same (fun k => k = mb) w w') (hc : w.cell? ⟨b, o, none⟩ = some v) : w'.cell? ⟨b, o, none⟩ = some v := by
  refine hs.cell hc (fun e => ?_)
  obtain ⟨es, c, h⟩ := hm
  subst e
  simp [World.cell?, h] at hc
theorem heap_same {w w' : World} {mb b : Nat} {c : Array Value} {t : TypeId} {f : Nat × Nat} (hm : ∃ es c, w.heap[mb]? = some (.map es c)) (hs : Same (fun k => k = mb) w w') (h : w.heap[b]? = some (.cells c t f)) : w'.heap[b]? = some (.cells c t f) :=
  (hs.block _ (heap_lt h) (fun e => by
    obtain ⟨es, c, h2⟩ := hm
    subst e
    rw [h2] at h
    cases h)).trans h
theorem same_later {M M' : Nat → Prop} {A B C : World} (h : Same M A B) (k : Same M' B C) (hm : ∀ i, M' i → M i ∨ A.heap.size ≤ i) : Same M A C :=
  ⟨k.os.trans h.os, k.tape.trans h.tape, k.output.trans h.output, Nat.le_trans h.size k.size, fun i hi hn => (k.block i (by have := h.size; omega) (fun e => by rcases hm i e with e | e; exact hn e; omega)).trans (h.block i hi hn)⟩
theorem own_same {w w' : World} {M : Nat → Prop} {base : Nat} {e : TypeId} {size : Nat} {v : Value} {n : Nat} {xs : List Value} (h : w.ownsRow base e size v n xs) (hs : Same M w w') (hM : ∀ j, M j → v.ownBlock ≠ some j) : w'.ownsRow base e size v n xs := by
  refine ⟨h.1, ?_⟩
  rcases h.2 with hn | ⟨g, cap, cur, rfl, hb, hh, rest⟩
  · exact .inl hn
  · exact .inr ⟨g, cap, cur, rfl, hb, (hs.block g (heap_lt hh) (fun e => hM g e rfl)).trans hh, rest⟩
theorem own_ty' {w : World} {base : Nat} {e : TypeId} {size : Nat} {v : Value} {n g : Nat} {xs : List Value} (h : w.ownsRow base e size v n xs) (hg : v.ownBlock = some g) : base ≤ g ∧ ∃ cur, w.heap[g]? = some (.cells cur e (0, 0)) := by
  rcases h.2 with ⟨rfl, _⟩ | ⟨g', cap, cur, rfl, hb, hh, _⟩
  · cases hg
  · cases hg
    exact ⟨hb, cur, hh⟩
end Go.Proofs.YtbnhngfegnhaiaaGreatDoor
namespace Go.Proofs.YtbnhngfegnhaiaaGreatDoor
open Go.RowKit
set_option linter.unusedVariables false
set_option linter.unusedSimpArgs false
/-- A slice's array holds these texts. -/
def IsStrs (w : World) (a : Option Addr) (l : List ByteArray) : Prop := ∀ i, i < l.length → ∃ b off, a = some ⟨b, off, none⟩ ∧ w.cell? ⟨b, off + i, none⟩ = some (.string (gs l i))
theorem IsStrs.mono {w w' : World} {a : Option Addr} {l : List ByteArray} (h : IsStrs w a l) (hb : Below w.heap.size w w') : IsStrs w' a l := fun i hi => by
  obtain ⟨b, off, ha, hc⟩ := h i hi
  exact ⟨b, off, ha, cell_stays hb hc⟩
def IsBxs (w : World) (a : Option Addr) (l : List Bx) : Prop := ∀ i, i < l.length → ∃ b off, a = some ⟨b, off, none⟩ ∧ w.cell? ⟨b, off + i * 2, none⟩ = some (.int .i64 (gb l i).colour) ∧
  ∃ at_ c, w.cell? ⟨b, off + i * 2 + 1, none⟩ = some (.slice at_ (gb l i).titles.length c) ∧ IsStrs w at_ (gb l i).titles
theorem IsBxs.mono {w w' : World} {a : Option Addr} {l : List Bx} (h : IsBxs w a l) (hb : Below w.heap.size w w') : IsBxs w' a l := fun i hi => by
  obtain ⟨b, off, ha, h0, t, c, h1, h2⟩ := h i hi
  exact ⟨b, off, ha, cell_stays hb h0, t, c, cell_stays hb h1, h2.mono hb⟩
structure TnC (w : World) (b off : Nat) (t : Tn) : Prop where
  c0 : w.cell? ⟨b, off, none⟩ = some (.int .i64 t.colour)
  c1 : w.cell? ⟨b, off + 1, none⟩ = some (.string t.number)
  c2 : w.cell? ⟨b, off + 2, none⟩ = some (.string t.text)
theorem TnC.mono {w w' : World} {b off : Nat} {t : Tn} (h : TnC w b off t) (hb : Below w.heap.size w w') : TnC w' b off t := ⟨cell_stays hb h.c0, cell_stays hb h.c1, cell_stays hb h.c2⟩
def IsTns (w : World) (a : Option Addr) (l : List Tn) : Prop := ∀ i, i < l.length → ∃ b off, a = some ⟨b, off, none⟩ ∧ TnC w b (off + i * 3) (gc l i)
theorem IsTns.mono {w w' : World} {a : Option Addr} {l : List Tn} (h : IsTns w a l) (hb : Below w.heap.size w w') : IsTns w' a l := fun i hi => by
  obtain ⟨b, off, ha, hc⟩ := h i hi
  exact ⟨b, off, ha, hc.mono hb⟩
def IsEns (w : World) (a : Option Addr) (l : List En) : Prop := ∀ i, i < l.length → ∃ b off, a = some ⟨b, off, none⟩ ∧ w.cell? ⟨b, off + i * 3, none⟩ = some (.int .i64 (ge l i).colour) ∧
  w.cell? ⟨b, off + i * 3 + 1, none⟩ = some (.string (ge l i).number) ∧ w.cell? ⟨b, off + i * 3 + 2, none⟩ = some (.string (ge l i).title)
theorem IsEns.mono {w w' : World} {a : Option Addr} {l : List En} (h : IsEns w a l) (hb : Below w.heap.size w w') : IsEns w' a l := fun i hi => by
  obtain ⟨b, off, ha, h0, h1, h2⟩ := h i hi
  exact ⟨b, off, ha, cell_stays hb h0, cell_stays hb h1, cell_stays hb h2⟩
def IsSets (w : World) (a : Option Addr) (l : List Nat) : Prop := ∀ i, i < l.length → ∃ b off, a = some ⟨b, off, none⟩ ∧ w.cell? ⟨b, off + i, none⟩ = some (.int .u64 (gn l i : Int))
theorem IsSets.mono {w w' : World} {a : Option Addr} {l : List Nat} (h : IsSets w a l) (hb : Below w.heap.size w w') : IsSets w' a l := fun i hi => by
  obtain ⟨b, off, ha, hc⟩ := h i hi
  exact ⟨b, off, ha, cell_stays hb hc⟩
/-- A slice's array holds a text's bytes. -/
def IsByts (w : World) (a : Option Addr) (s : ByteArray) : Prop := ∀ i, i < s.size → ∃ b off, a = some ⟨b, off, none⟩ ∧ w.cell? ⟨b, off + i, none⟩ = some (.int .u8 (bt s i : Int))
theorem IsByts.mono {w w' : World} {a : Option Addr} {s : ByteArray} (h : IsByts w a s) (hb : Below w.heap.size w w') : IsByts w' a s := fun i hi => by
  obtain ⟨b, off, ha, hc⟩ := h i hi
  exact ⟨b, off, ha, cell_stays hb hc⟩
abbrev Mx.arr (m : Mx) (ab : Option Addr) (cb : Nat) (ac : Option Addr) (cc : Nat) : Array Value := #[.slice ab m.boxes.length cb, .slice ac m.cards.length cc]
abbrev Mx.v (m : Mx) (ab : Option Addr) (cb : Nat) (ac : Option Addr) (cc : Nat) : Value := .agg (m.arr ab cb ac cc)
theorem bt_at {s : ByteArray} {k : Nat} (h : k < s.size) : (s[k]'h).toNat = bt s k := by
  obtain ⟨⟨l⟩⟩ := s
  have hl : k < l.length := h
  unfold bt
  show _ = (l.getD k 0).toNat
  simp only [List.getD, List.getElem?_eq_getElem hl, Option.getD_some]
  rfl
theorem run_idx9 {s : ByteArray} {k : Nat} (h : k < s.size) (w : World) : (Instr.index 9 (.string s) (.int .i64 (k : Int))).run Tryz.prog w = .ok (.int .u8 (bt s k : Int)) w := by
  rw [run_index_string w 9 s .i64 k (by kernel_rfl), dif_pos ⟨by omega, by omega⟩]
  rw [← bt_at h]
  rfl
theorem run_idx153 {s : ByteArray} {k : Nat} (h : k < s.size) (w : World) : (Instr.index 153 (.string s) (.int .i64 (k : Int))).run Tryz.prog w = .ok (.int .u8 (bt s k : Int)) w := by
  rw [run_index_string w 153 s .i64 k (by kernel_rfl), dif_pos ⟨by omega, by omega⟩]
  rw [← bt_at h]
  rfl
theorem within41 (n lo hi : Int) (w : World) :
    Calls Tryz.prog 41 #[.int .i64 n, .int .i64 lo, .int .i64 hi] w fun e w' => e = .returned (.bool (inR n lo hi)) ∧ w = w' := by
  unfold inR
  go_enter Tryz.func41, Tryz.ntmps41
  go_wp2
  all_goals go_ret
  all_goals refine ⟨ret_bool ?_, rfl⟩
  · have h : lo ≤ n := by assumption
    simp [h]
  · have h : n < lo := by assumption
    simp; omega
theorem in16 (n lo hi : Int) (w : World) :
    Calls Tryz.prog 16 #[.int .i64 n, .int .i64 lo, .int .i64 hi] w fun e w' => e = .returned (.bool (inR n lo hi)) ∧ w = w' := by
  unfold inR
  go_enter Tryz.func16, Tryz.ntmps16
  go_wp2
  all_goals go_ret
  all_goals refine ⟨ret_bool ?_, rfl⟩
  · have h : lo ≤ n := by assumption
    simp [h]
  · have h : n < lo := by assumption
    simp; omega
theorem let67 (b : Nat) (w : World) : Calls Tryz.prog 67 #[.int .u8 (b : Int)] w fun e w' => e = .returned (.bool (letB b)) ∧ w = w' := by
  unfold letB
  go_enter Tryz.func67, Tryz.ntmps67
  go_wp2
  all_goals go_ret
  all_goals refine ⟨ret_bool ?_, rfl⟩
  all_goals (rw [Bool.eq_iff_iff]; simp; omega)
theorem dig85 (b : Nat) (w : World) : Calls Tryz.prog 85 #[.int .u8 (b : Int)] w fun e w' => e = .returned (.bool (digB b)) ∧ w = w' := by
  unfold digB
  go_enter Tryz.func85, Tryz.ntmps85
  go_wp2
  all_goals go_ret
  all_goals refine ⟨ret_bool ?_, rfl⟩
  all_goals (rw [Bool.eq_iff_iff]; simp; omega)
theorem star83 (b : Nat) (w : World) : Calls Tryz.prog 83 #[.int .u8 (b : Int)] w fun e w' => e = .returned (.bool (b == 42)) ∧ w = w' := by
  go_enter Tryz.func83, Tryz.ntmps83
  go_wp2
  go_ret
  refine ⟨ret_bool ?_, rfl⟩
  rw [Bool.eq_iff_iff]; simp; omega
theorem good84 (b : Nat) (w : World) : Calls Tryz.prog 84 #[.int .u8 (b : Int)] w fun e w' => e = .returned (.bool (goodB b)) ∧ w = w' := by
  have HE : Hid (∀ x y : Bool, letB b = x → digB b = y → goodB b = (x || y || (b == 63) || (b == 42))) := fun x y h1 h2 => by unfold goodB; rw [h1, h2]
  have e63 : ((b : Int) == 63) = (b == 63) := by rw [Bool.eq_iff_iff]; simp; omega
  have e42 : ((b : Int) == 42) = (b == 42) := by rw [Bool.eq_iff_iff]; simp; omega
  go_enter Tryz.func84, Tryz.ntmps84
  go_wp2_with fail
  refine (let67 b w).mono ?_
  rintro e w' ⟨rfl, rfl⟩
  cases h1 : letB b
  · have H1 := Lib.hid h1
    clear h1
    go_wp2_with fail
    refine (dig85 b w).mono ?_
    rintro e w' ⟨rfl, rfl⟩
    cases h2 : digB b
    · have H2 := Lib.hid h2
      clear h2
      have HG := Lib.hid (HE.out _ _ H1.out H2.out)
      clear HE
      revert e63 e42 HG
      generalize (b == 63) = x
      generalize (b == 42) = y
      intro e63 e42 HG
      cases x <;> cases y <;> (go_wp2_with fail; go_ret; exact ⟨ret_bool HG.out.symm, rfl⟩)
    · have H2 := Lib.hid h2
      clear h2
      have HG := Lib.hid (HE.out _ _ H1.out H2.out)
      clear HE e63 e42
      go_wp2_with fail
      go_ret
      exact ⟨ret_bool HG.out.symm, rfl⟩
  · have HG : Hid (goodB b = true) := by unfold goodB; rw [h1]; rfl
    clear HE e63 e42 h1
    go_wp2_with fail
    go_ret
    exact ⟨ret_bool HG.out.symm, rfl⟩
end Go.Proofs.YtbnhngfegnhaiaaGreatDoor
namespace Go.Proofs.YtbnhngfegnhaiaaGreatDoor
open Go.RowKit
set_option linter.unusedVariables false
set_option linter.unusedSimpArgs false
theorem byts_row {w : World} {b : Nat} {s : ByteArray} {cap : Nat} {t : TypeId} {f : Nat × Nat} (h : w.heap[b]? = some (.cells (bytesRow s cap) t f)) : IsByts w (some ⟨b, 0, none⟩) s := fun i hi => by
  refine ⟨b, 0, rfl, ?_⟩
  have h1 : w.cell? ⟨b, 0 + i, none⟩ = (bytesRow s cap)[0 + i]? := by simp [World.cell?, h]
  rw [h1, Nat.zero_add]
  have hi' : i < s.data.size := hi
  rw [bytesRow_at s cap i hi', ← bt_at hi]
  rfl
theorem conv9 (s : ByteArray) (w : World) : ∃ c w', (convert 9 131 (.string s)).run Tryz.prog w = .ok (.slice (some ⟨w.heap.size, 0, none⟩) s.size c) w' ∧ IsByts w' (some ⟨w.heap.size, 0, none⟩) s ∧ Below w.heap.size w w' := by
  refine ⟨_, _, run_bytes_of_string w 9 131 5 s (by kernel_rfl) (by kernel_rfl) (by kernel_rfl), ?_, ?_⟩
  · exact byts_row (World.alloc_heap_new w.drew (.cells (bytesRow s (grownCap w s.size 0 5)) 5 ((bytesRow s (grownCap w s.size 0 5)).size, (bytesRow s (grownCap w s.size 0 5)).size + 1)))
  · exact (Below.refl _ w).drew.alloc (Nat.le_refl _) _
theorem cntB_le (p : Nat → Bool) (s : ByteArray) : ∀ n, cntB p s n ≤ n
  | 0 => Nat.le_refl _
  | n + 1 => by
    have := cntB_le p s n
    unfold cntB
    split <;> omega
theorem cntB_all {p : Nat → Bool} {s : ByteArray} : ∀ n, (∀ k, k < n → p (bt s k) = true) → cntB p s n = n
  | 0, _ => rfl
  | n + 1, h => by
    unfold cntB
    rw [cntB_all n fun k hk => h k (by omega), if_pos (h n (by omega))]
set_option maxRecDepth 100000 in
set_option maxHeartbeats 4000000 in
theorem counted66 {g : Nat} {p : Nat → Bool} {s : ByteArray} {a : Option Addr} {c : Nat} {w : World} (hg : ∀ (x : Nat) (w : World), Calls Tryz.prog g #[.int .u8 (x : Int)] w fun e w' => e = .returned (.bool (p x)) ∧ w = w')
    (hcf : ∀ args w, (callFunc g args).run Tryz.prog w = .ok (.enter g args) w) (hs : s.size ≤ 1000) (ha : IsByts w a s) :
    Calls Tryz.prog 66 #[.slice a s.size c, .func (.func g) #[] #[]] w fun e w' => e = .returned (.int .i64 (cntB p s s.size : Int)) ∧ w = w' := by
  have HA := Lib.hid ha
  have HG := Lib.hid hg
  clear ha hg
  go_enter Tryz.func66, Tryz.ntmps66
  go_wp2_with fail
  go_loopw [4, 9] (fun v i wr => ∃ k : Nat, k ≤ s.size ∧ i = .int .i64 (k : Int) ∧ v = .int .i64 (cntB p s k : Int) ∧ Hid (w = wr)) (fun _ i _ => s.size - (intOf i).toNat)
  case atStart => exact ⟨0, Nat.zero_le _, rfl, rfl, rfl⟩
  case round =>
    obtain ⟨k, hk, rfl, rfl, HW⟩ := hrel
    by_cases hlt : k < s.size
    · obtain ⟨b, off, rfl, c0⟩ := HA.out k hlt
      rw [HW.out] at c0
      have hcb := cntB_le p s k
      have HS : Hid (cntB p s (k + 1) = cntB p s k + if p (bt s k) then 1 else 0) := rfl
      revert HS c0
      generalize bt s k = x
      intro c0 HS
      go_wp2_with fail
      refine (HG.out x wr).mono ?_
      rintro e w' ⟨rfl, rfl⟩
      clear c0
      cases hp : p x
      · have HP := Lib.hid hp
        clear hp
        go_wp2_with fail
        go_roundw
        case rel => exact ⟨k + 1, by omega, by go_num, by rw [HS.out, HP.out]; simp, HW.out⟩
        case measure => simp [intOf]; omega
      · have HP := Lib.hid hp
        clear hp
        go_wp2_with fail
        go_roundw
        case rel => exact ⟨k + 1, by omega, by go_num, by rw [HS.out, HP.out]; simp, HW.out⟩
        case measure => simp [intOf]; omega
    · obtain rfl : k = s.size := by omega
      go_wp2_with fail
      go_ret
      exact ⟨rfl, HW.out⟩
end Go.Proofs.YtbnhngfegnhaiaaGreatDoor
namespace Go.Proofs.YtbnhngfegnhaiaaGreatDoor
open Go.RowKit
set_option linter.unusedVariables false
set_option linter.unusedSimpArgs false
theorem cf65 (args : Array Value) (w : World) : (callFunc 65 args).run Tryz.prog w = .ok (.enter 65 args) w := by simp [callFunc, Tryz.func65, Tryz.f65, go_sem]
theorem cf67 (args : Array Value) (w : World) : (callFunc 67 args).run Tryz.prog w = .ok (.enter 67 args) w := by simp [callFunc, Tryz.func67, Tryz.f67, go_sem]
theorem cf68 (args : Array Value) (w : World) : (callFunc 68 args).run Tryz.prog w = .ok (.enter 68 args) w := by simp [callFunc, Tryz.func68, Tryz.f68, go_sem]
theorem cf70 (args : Array Value) (w : World) : (callFunc 70 args).run Tryz.prog w = .ok (.enter 70 args) w := by simp [callFunc, Tryz.func70, Tryz.f70, go_sem]
theorem cf83 (args : Array Value) (w : World) : (callFunc 83 args).run Tryz.prog w = .ok (.enter 83 args) w := by simp [callFunc, Tryz.func83, Tryz.f83, go_sem]
theorem cf84 (args : Array Value) (w : World) : (callFunc 84 args).run Tryz.prog w = .ok (.enter 84 args) w := by simp [callFunc, Tryz.func84, Tryz.f84, go_sem]
theorem inR_true {n lo hi : Int} (h1 : lo ≤ n) (h2 : n ≤ hi) : inR n lo hi = true := by simp [inR, h1, h2]
theorem bad65 {s : ByteArray} (h : titleOk s) (w : World) : Calls Tryz.prog 65 #[.string s] w fun e w' => e = .returned (.bool false) ∧ Below w.heap.size w w' := by
  obtain ⟨c, w1, hcv, hby, hb⟩ := conv9 s w
  have HC := Lib.hid (counted66 (c := c) let67 cf67 (by have := h.2.1; omega) hby)
  have HA : Hid (cntB letB s s.size = s.size) := cntB_all _ h.2.2
  have HB := Lib.hid hb
  have HI : Hid (inR (s.size : Int) 1 12 = true) := inR_true (by have := h.1; omega) (by have := h.2.1; omega)
  have cf := cf67
  clear h hby hb
  go_enter Tryz.func65, Tryz.ntmps65
  go_wp2_with fail
  refine (within41 _ _ _ _).mono ?_
  rintro e w' ⟨rfl, rfl⟩
  rw [HI.out]
  go_wp2_with fail
  refine HC.out.mono ?_
  rintro e w' ⟨rfl, rfl⟩
  rw [HA.out]
  clear hcv
  go_wp2_with fail
  go_ret
  exact ⟨rfl, HB.out⟩
set_option maxRecDepth 100000 in
set_option maxHeartbeats 4000000 in
theorem index82 {l : List ByteArray} {a : Option Addr} {c : Nat} {w : World} (hl : ∀ k, k < l.length → titleOk (gs l k)) (hn : l.length ≤ 100) (ha : IsStrs w a l) :
    Calls Tryz.prog 82 #[.slice a l.length c, .func (.func 65) #[] #[]] w fun e w' => e = .returned (.int .i64 (-1)) ∧ Below w.heap.size w w' := by
  have HA := Lib.hid ha
  have HL := Lib.hid hl
  have cf := cf65
  clear ha hl
  go_enter Tryz.func82, Tryz.ntmps82
  go_wp2_with fail
  go_loopw [8] (fun i wr => ∃ k : Nat, k ≤ l.length ∧ i = .int .i64 (k : Int) ∧ Hid (Below w.heap.size w wr)) (fun i _ => l.length - (intOf i).toNat)
  case atStart => exact ⟨0, Nat.zero_le _, rfl, Below.refl _ _⟩
  case round =>
    obtain ⟨k, hk, rfl, HW⟩ := hrel
    by_cases hlt : k < l.length
    · obtain ⟨b, off, rfl, c0⟩ := (HA.out.mono HW.out) k hlt
      go_wp2_with fail
      refine (bad65 (HL.out k hlt) wr).mono ?_
      rintro e w' ⟨rfl, hb⟩
      have HB := Lib.hid (HW.out.trans (hb.mono HW.out.size))
      clear hb c0
      go_wp2_with fail
      go_roundw
      case rel => exact ⟨k + 1, by omega, by go_num, HB.out⟩
      case measure => simp [intOf]; omega
    · obtain rfl : k = l.length := by omega
      go_wp2_with fail
      go_ret
      exact ⟨rfl, HW.out⟩
theorem any69 {l : List ByteArray} {a : Option Addr} {c : Nat} {w : World} (hl : ∀ k, k < l.length → titleOk (gs l k)) (hn : l.length ≤ 100) (ha : IsStrs w a l) :
    Calls Tryz.prog 69 #[.slice a l.length c, .func (.func 65) #[] #[]] w fun e w' => e = .returned (.bool false) ∧ Below w.heap.size w w' := by
  have HC := Lib.hid (index82 (c := c) hl hn ha)
  clear hl hn ha
  go_enter Tryz.func69, Tryz.ntmps69
  go_wp2_with fail
  refine HC.out.mono ?_
  rintro e w' ⟨rfl, hb⟩
  have HB := Lib.hid hb
  clear hb
  go_wp2_with fail
  go_ret
  exact ⟨rfl, HB.out⟩
/-- What stays while boxes are looked at. -/
structure MnyI (mb fb n : Nat) (w v : World) : Prop where
  sm : Same (fun k => k = mb) w v
  mc : v.heap[mb]? = some (.cells #[.int .i64 (n : Int)] 3 (0, 0))
  fc : v.heap[fb]? = some (.cells #[.func (.func 65) #[] #[]] 55 (0, 0))
  ne : fb ≠ mb
theorem MnyI.grow {mb fb n : Nat} {w v v' : World} (h : MnyI mb fb n w v) (hb : Below v.heap.size v v') : MnyI mb fb n w v' :=
  ⟨same_later h.sm (Same.of_below (fun k => k = mb) hb) (fun i e => .inl e), (hb.block _ (heap_lt h.mc)).trans h.mc, (hb.block _ (heap_lt h.fc)).trans h.fc, h.ne⟩
theorem MnyI.put {mb fb n m : Nat} {w v : World} (h : MnyI mb fb n w v) : MnyI mb fb m w (v.setCell ⟨mb, 0, none⟩ (.int .i64 (m : Int))) :=
  ⟨h.sm.setCell (p := ⟨mb, 0, none⟩) (.inl rfl) _, heap_setCell_at (k := 0) h.mc _, (Below.heap_setCell _ _ _ _ h.ne).trans h.fc, h.ne⟩
theorem strs_same {w v : World} {mb : Nat} {c : Array Value} {a : Option Addr} {l : List ByteArray} (hs : Same (fun k => k = mb) w v) (h : IsStrs w a l) (hn : ∀ ad, a = some ad → 0 < l.length → ad.block ≠ mb) : IsStrs v a l := fun i hi => by
  obtain ⟨b, off, rfl, h0⟩ := h i hi
  exact ⟨b, off, rfl, hs.cell h0 (hn _ rfl (by omega))⟩
set_option maxRecDepth 100000 in
set_option maxHeartbeats 4000000 in
theorem box68 {b : Bx} {a : Option Addr} {c mb fb n : Nat} {w0 w : World} (hb : b.ok) (hn : n + b.titles.length ≤ 100) (hm : MnyI mb fb n w0 w) (ha : IsStrs w a b.titles) (hs : ∀ ad, a = some ad → 0 < b.titles.length → ad.block ≠ mb) :
    Calls Tryz.prog 68 #[.agg #[.int .i64 b.colour, .slice a b.titles.length c], .pointer (some ⟨mb, 0, none⟩), .pointer (some ⟨fb, 0, none⟩)] w fun e w' => e = .returned (.bool false) ∧ MnyI mb fb (n + b.titles.length) w0 w' := by
  have hab := alloc_below w (.cells #[.int .i64 b.colour, .slice a b.titles.length c] 54)
  have HX := Lib.hid (And.intro (World.alloc_heap_new w (.cells #[.int .i64 b.colour, .slice a b.titles.length c] 54)) (And.intro (hm.grow hab) (ha.mono hab)))
  have HB := Lib.hid (And.intro hb hs)
  have HNE : Hid (w.heap.size ≠ mb) := by have := heap_lt hm.mc; rw [Hid]; omega
  have hl : b.titles.length ≤ 100 := by omega
  clear hab hm ha hb hs
  go_enter Tryz.func68, Tryz.ntmps68
  refine wp_seq_hid ?_
  intro K0 HK0
  go_wp2_with fail
  refine HK0.out _ _ ?_
  clear HK0 K0
  revert HX HNE
  generalize w.alloc (.cells #[.int .i64 b.colour, .slice a b.titles.length c] 54) = w1
  generalize w.heap.size = b1
  intro HX HNE
  have m0 : w1.cell? ⟨mb, 0, none⟩ = some (.int .i64 (n : Int)) := by rw [cell_of_heap HX.out.2.1.mc]; rfl
  have f0 : w1.frozen? ⟨mb, 0, none⟩ = false := frozen_of_heap HX.out.2.1.mc
  have m1 : w1.cell? ⟨b1, 1, none⟩ = some (.slice a b.titles.length c) := by rw [cell_of_heap HX.out.1]; rfl
  refine wp_seq_hid ?_
  intro K1 HK1
  go_wp2_with fail
  refine HK1.out _ _ ?_
  clear HK1 K1 m0 f0 m1
  have hq := HX.out.2.1.put (m := n + b.titles.length)
  have hq2 : (w1.setCell ⟨mb, 0, none⟩ (.int .i64 ((n + b.titles.length : Nat) : Int))).heap[b1]? = some (.cells #[.int .i64 b.colour, .slice a b.titles.length c] 54 (0, 0)) := (Below.heap_setCell _ _ _ _ HNE.out).trans HX.out.1
  have hq3 : IsStrs (w1.setCell ⟨mb, 0, none⟩ (.int .i64 ((n + b.titles.length : Nat) : Int))) a b.titles := strs_same (c := #[]) ((Same.refl (fun k => k = mb) w1).setCell (p := ⟨mb, 0, none⟩) (.inl rfl) _) HX.out.2.2 HB.out.2
  have ee : ((n + b.titles.length : Nat) : Int) = (n : Int) + b.titles.length := by omega
  rw [ee] at hq hq2 hq3
  have HQ := Lib.hid (And.intro hq (And.intro hq2 hq3))
  clear hq hq2 hq3 HX ee
  revert HQ
  generalize w1.setCell ⟨mb, 0, none⟩ (.int .i64 ((n : Int) + b.titles.length)) = w2
  intro HQ
  have m0 : w2.cell? ⟨b1, 0, none⟩ = some (.int .i64 b.colour) := by rw [cell_of_heap HQ.out.2.1]; rfl
  have m1 : w2.cell? ⟨b1, 1, none⟩ = some (.slice a b.titles.length c) := by rw [cell_of_heap HQ.out.2.1]; rfl
  have m2 : w2.cell? ⟨fb, 0, none⟩ = some (.func (.func 65) #[] #[]) := by rw [cell_of_heap HQ.out.1.fc]; rfl
  go_wp2_with fail
  refine (within41 _ _ _ _).mono ?_
  rintro e w' ⟨rfl, rfl⟩
  rw [inR_true HB.out.1.1 HB.out.1.2.1]
  go_wp2_with fail
  refine (any69 HB.out.1.2.2 hl HQ.out.2.2).mono ?_
  clear m0 m1 m2
  rintro e w3 ⟨rfl, hb⟩
  have HR := Lib.hid (HQ.out.1.grow hb)
  clear hb
  go_wp2_with fail
  go_ret
  exact ⟨rfl, HR.out⟩
end Go.Proofs.YtbnhngfegnhaiaaGreatDoor
namespace Go.Proofs.YtbnhngfegnhaiaaGreatDoor
open Go.RowKit
set_option linter.unusedVariables false
set_option linter.unusedSimpArgs false
theorem piece71 {s : ByteArray} (h : pieceOk s) (w : World) : Calls Tryz.prog 71 #[.string s] w fun e w' => e = .returned (.bool true) ∧ Below w.heap.size w w' := by
  obtain ⟨c, w1, hcv, hby, hb⟩ := conv9 s w
  have HC := Lib.hid (counted66 (c := c) good84 cf84 (by have := h.1; omega) hby)
  have HC2 := Lib.hid (counted66 (c := c) star83 cf83 (by have := h.1; omega) hby)
  have HA : Hid (cntB goodB s s.size = s.size) := cntB_all _ h.2.1
  have h12 : (s.size : Int) ≤ 12 := by have := h.1; omega
  have h1 : (cntB (fun b => b == 42) s s.size : Int) ≤ 1 := by have := h.2.2; omega
  have HB := Lib.hid hb
  have cf := cf83
  have cf' := cf84
  clear h hby hb
  go_enter Tryz.func71, Tryz.ntmps71
  go_wp2_with fail
  refine HC.out.mono ?_
  rintro e w' ⟨rfl, rfl⟩
  rw [HA.out]
  go_wp2_with fail
  refine HC2.out.mono ?_
  rintro e w' ⟨rfl, rfl⟩
  clear hcv
  go_wp2_with fail
  go_ret
  exact ⟨rfl, HB.out⟩
set_option maxRecDepth 100000 in
set_option maxHeartbeats 4000000 in
theorem card70 {t : Tn} (h : t.ok) (w : World) : Calls Tryz.prog 70 #[.agg #[.int .i64 t.colour, .string t.number, .string t.text]] w fun e w' => e = .returned (.bool false) ∧ Below w.heap.size w w' := by
  have hab := alloc_below w (.cells #[.int .i64 t.colour, .string t.number, .string t.text] 58)
  have HX := Lib.hid (And.intro (World.alloc_heap_new w (.cells #[.int .i64 t.colour, .string t.number, .string t.text] 58)) hab)
  have HT := Lib.hid h
  clear hab h
  go_enter Tryz.func70, Tryz.ntmps70
  refine wp_seq_hid ?_
  intro K0 HK0
  go_wp2_with fail
  refine HK0.out _ _ ?_
  clear HK0 K0
  revert HX
  generalize w.alloc (.cells #[.int .i64 t.colour, .string t.number, .string t.text] 58) = w1
  generalize hb1 : w.heap.size = b1
  intro HX
  have HE := Lib.hid hb1
  clear hb1
  have m0 : w1.cell? ⟨b1, 0, none⟩ = some (.int .i64 t.colour) := by rw [cell_of_heap HX.out.1]; rfl
  have m1 : w1.cell? ⟨b1, 1, none⟩ = some (.string t.number) := by rw [cell_of_heap HX.out.1]; rfl
  go_wp2_with fail
  refine (within41 _ _ _ _).mono ?_
  rintro e w' ⟨rfl, rfl⟩
  rw [inR_true HT.out.1 HT.out.2.1]
  go_wp2_with fail
  refine (piece71 HT.out.2.2.1 w1).mono ?_
  rintro e w2 ⟨rfl, hb⟩
  have HB := Lib.hid hb
  have m2 : w2.cell? ⟨b1, 2, none⟩ = some (.string t.text) := by rw [cell_of_heap ((hb.block _ (heap_lt HX.out.1)).trans HX.out.1)]; rfl
  clear hb m0 m1
  go_wp2_with fail
  refine (piece71 HT.out.2.2.2 w2).mono ?_
  rintro e w3 ⟨rfl, hb⟩
  have HB3 := Lib.hid (HB.out.trans (hb.mono HB.out.size))
  clear hb m2
  go_wp2_with fail
  go_ret
  exact ⟨rfl, HX.out.2.trans (HB3.out.mono (by rw [← HE.out]; exact HX.out.2.size))⟩
set_option maxRecDepth 100000 in
set_option maxHeartbeats 4000000 in
theorem index87 {l : List Tn} {a : Option Addr} {c : Nat} {w : World} (hl : ∀ k, k < l.length → (gc l k).ok) (hn : l.length ≤ 100) (ha : IsTns w a l) :
    Calls Tryz.prog 87 #[.slice a l.length c, .func (.func 70) #[] #[]] w fun e w' => e = .returned (.int .i64 (-1)) ∧ Below w.heap.size w w' := by
  have HA := Lib.hid ha
  have HL := Lib.hid hl
  have cf := cf70
  clear ha hl
  go_enter Tryz.func87, Tryz.ntmps87
  go_wp2_with fail
  go_loopw [8] (fun i wr => ∃ k : Nat, k ≤ l.length ∧ i = .int .i64 (k : Int) ∧ Hid (Below w.heap.size w wr)) (fun i _ => l.length - (intOf i).toNat)
  case atStart => exact ⟨0, Nat.zero_le _, rfl, Below.refl _ _⟩
  case round =>
    obtain ⟨k, hk, rfl, HW⟩ := hrel
    by_cases hlt : k < l.length
    · obtain ⟨b, off, rfl, hc⟩ := (HA.out.mono HW.out) k hlt
      obtain ⟨c0, c1, c2⟩ := hc
      go_wp2_with fail
      refine (card70 (HL.out k hlt) wr).mono ?_
      rintro e w' ⟨rfl, hb⟩
      have HB := Lib.hid (HW.out.trans (hb.mono HW.out.size))
      clear hb c0 c1 c2
      go_wp2_with fail
      go_roundw
      case rel => exact ⟨k + 1, by omega, by go_num, HB.out⟩
      case measure => simp [intOf]; omega
    · obtain rfl : k = l.length := by omega
      go_wp2_with fail
      go_ret
      exact ⟨rfl, HW.out⟩
theorem any73 {l : List Tn} {a : Option Addr} {c : Nat} {w : World} (hl : ∀ k, k < l.length → (gc l k).ok) (hn : l.length ≤ 100) (ha : IsTns w a l) :
    Calls Tryz.prog 73 #[.slice a l.length c, .func (.func 70) #[] #[]] w fun e w' => e = .returned (.bool false) ∧ Below w.heap.size w w' := by
  have HC := Lib.hid (index87 (c := c) hl hn ha)
  clear hl hn ha
  go_enter Tryz.func73, Tryz.ntmps73
  go_wp2_with fail
  refine HC.out.mono ?_
  rintro e w' ⟨rfl, hb⟩
  have HB := Lib.hid hb
  clear hb
  go_wp2_with fail
  go_ret
  exact ⟨rfl, HB.out⟩
/-- Boxes are apart from a block. -/
def BxsA (w : World) (a : Option Addr) (l : List Bx) (mb : Nat) : Prop := ∀ i, i < l.length → ∃ b off, a = some ⟨b, off, none⟩ ∧ b ≠ mb ∧ w.cell? ⟨b, off + i * 2, none⟩ = some (.int .i64 (gb l i).colour) ∧
  ∃ at_ c, w.cell? ⟨b, off + i * 2 + 1, none⟩ = some (.slice at_ (gb l i).titles.length c) ∧ IsStrs w at_ (gb l i).titles ∧ ∀ ad, at_ = some ad → 0 < (gb l i).titles.length → ad.block ≠ mb
theorem bxs_later {w v : World} {a : Option Addr} {l : List Bx} {mb : Nat} (h : IsBxs w a l) (hs : Same (fun k => k = mb) w v) (hm : w.heap.size ≤ mb) : BxsA v a l mb := fun i hi => by
  obtain ⟨b, off, e, h0, t, c, h1, h2⟩ := h i hi
  have hb := lt_of_cell h0
  have hne : b ≠ mb := by omega
  have hst : ∀ j, j < (gb l i).titles.length → ∃ b off, t = some ⟨b, off, none⟩ ∧ b ≠ mb ∧ w.cell? ⟨b, off + j, none⟩ = some (.string (gs (gb l i).titles j)) := fun j hj => by
    obtain ⟨b', off', e', h'⟩ := h2 j hj
    exact ⟨b', off', e', by have := lt_of_cell h'; omega, h'⟩
  refine ⟨b, off, e, hne, hs.cell h0 hne, t, c, hs.cell h1 hne, fun j hj => ?_, fun ad ha hp => ?_⟩
  · obtain ⟨b', off', e', hn', h'⟩ := hst j hj
    exact ⟨b', off', e', hs.cell h' hn'⟩
  · obtain ⟨b', off', e', hn', h'⟩ := hst 0 hp
    rw [e'] at ha
    cases ha
    exact hn'
theorem many_at {m : Mx} (h : m.Ok) {k : Nat} (hk : k ≤ m.boxes.length) : manyB m.boxes k ≤ 12 := by
  have h1 := many_up m.boxes k (m.boxes.length - k)
  rw [show k + (m.boxes.length - k) = m.boxes.length by omega] at h1
  have := h.ne
  omega
set_option maxRecDepth 100000 in
set_option maxHeartbeats 4000000 in
theorem index86 {m : Mx} {a : Option Addr} {c mb fb : Nat} {w0 w : World} (hm : m.Ok) (h0 : IsBxs w0 a m.boxes) (hmb : w0.heap.size ≤ mb) (hi : MnyI mb fb 0 w0 w) :
    Calls Tryz.prog 86 #[.slice a m.boxes.length c, .func (.func 68) #[] #[.pointer (some ⟨mb, 0, none⟩), .pointer (some ⟨fb, 0, none⟩)]] w fun e w' => e = .returned (.int .i64 (-1)) ∧ MnyI mb fb (manyB m.boxes m.boxes.length) w0 w' := by
  have HA := Lib.hid (And.intro h0 hmb)
  have HM := Lib.hid hm
  have HI := Lib.hid hi
  have cf := cf68
  have hn := hm.nb
  clear h0 hmb hm hi
  go_enter Tryz.func86, Tryz.ntmps86
  go_wp2_with fail
  go_loopw [8] (fun i wr => ∃ k : Nat, k ≤ m.boxes.length ∧ i = .int .i64 (k : Int) ∧ Hid (MnyI mb fb (manyB m.boxes k) w0 wr)) (fun i _ => m.boxes.length - (intOf i).toNat)
  case atStart => exact ⟨0, Nat.zero_le _, rfl, HI.out⟩
  case round =>
    obtain ⟨k, hk, rfl, HW⟩ := hrel
    by_cases hlt : k < m.boxes.length
    · obtain ⟨b, off, rfl, hne, c0, t, ct, c1, hst, hap⟩ := (bxs_later HA.out.1 HW.out.sm HA.out.2) k hlt
      have HS := Lib.hid (And.intro hst hap)
      have HNX : Hid (manyB m.boxes k + (gb m.boxes k).titles.length = manyB m.boxes (k + 1)) := rfl
      have HLE := Lib.hid (many_at HM.out (k := k + 1) (by omega))
      clear hne hst hap
      have HC := Lib.hid (box68 (a := t) (c := ct) (HM.out.bs k hlt) (by have := HLE.out; rw [← HNX.out] at this; omega) HW.out HS.out.1 (fun ad ha h => HS.out.2 ad ha h))
      go_wp2_with fail
      refine HC.out.mono ?_
      rintro e w' ⟨rfl, hb⟩
      rw [HNX.out] at hb
      have HB := Lib.hid hb
      clear hb c0 c1
      go_wp2_with fail
      go_roundw
      case rel => exact ⟨k + 1, by omega, by go_num, HB.out⟩
      case measure => simp [intOf]; omega
    · obtain rfl : k = m.boxes.length := by omega
      go_wp2_with fail
      go_ret
      exact ⟨rfl, HW.out⟩
theorem any72 {m : Mx} {a : Option Addr} {c mb fb : Nat} {w0 w : World} (hm : m.Ok) (h0 : IsBxs w0 a m.boxes) (hmb : w0.heap.size ≤ mb) (hi : MnyI mb fb 0 w0 w) :
    Calls Tryz.prog 72 #[.slice a m.boxes.length c, .func (.func 68) #[] #[.pointer (some ⟨mb, 0, none⟩), .pointer (some ⟨fb, 0, none⟩)]] w fun e w' => e = .returned (.bool false) ∧ MnyI mb fb (manyB m.boxes m.boxes.length) w0 w' := by
  have HC := Lib.hid (index86 (c := c) hm h0 hmb hi)
  clear hm h0 hmb hi
  go_enter Tryz.func72, Tryz.ntmps72
  go_wp2_with fail
  refine HC.out.mono ?_
  rintro e w' ⟨rfl, hb⟩
  have HB := Lib.hid hb
  clear hb
  go_wp2_with fail
  go_ret
  exact ⟨rfl, HB.out⟩
end Go.Proofs.YtbnhngfegnhaiaaGreatDoor
namespace Go.Proofs.YtbnhngfegnhaiaaGreatDoor
open Go.RowKit
set_option linter.unusedVariables false
set_option linter.unusedSimpArgs false
set_option maxRecDepth 100000 in
set_option maxHeartbeats 4000000 in
theorem mixed54 {m : Mx} {ab ac : Option Addr} {cb cc : Nat} {w : World} (hm : m.Ok) (h1 : IsBxs w ab m.boxes) (h2 : IsTns w ac m.cards) :
    Calls Tryz.prog 54 #[m.v ab cb ac cc] w fun e w' => e = .returned (.bool true) ∧ Below w.heap.size w w' := by
  have hmf : ∀ (fn : Fn) (first cap : Array Value) (w : World), (Instr.makeFunc fn first cap).run Tryz.prog w = .ok (.func fn first cap) w := fun _ _ _ _ => rfl
  obtain ⟨x0, x1, x2, x3⟩ := alloc3 w (m.arr ab cb ac cc) #[.func (.func 65) #[] #[]] #[.int .i64 0] 25 55 3 _ rfl
  obtain ⟨y1, y2, y3⟩ := alloc2 (w.alloc (.cells (m.arr ab cb ac cc) 25)) #[.func (.func 65) #[] #[]] #[.int .i64 0] 55 3
  have hw0 := alloc_below w (.cells (m.arr ab cb ac cc) 25)
  rw [World.size_alloc] at y1 y2
  have HX := Lib.hid (And.intro x0 (And.intro (h2.mono x3) hw0))
  have HI : Hid (MnyI (w.heap.size + 1 + 1) (w.heap.size + 1) 0 (w.alloc (.cells (m.arr ab cb ac cc) 25)) (((w.alloc (.cells (m.arr ab cb ac cc) 25)).alloc (.cells #[.func (.func 65) #[] #[]] 55)).alloc (.cells #[.int .i64 0] 3))) := ⟨Same.of_below _ y3, y2, y1, by omega⟩
  have HM := Lib.hid (And.intro hm (And.intro (h1.mono hw0) (And.intro (World.alloc_heap_new w (.cells (m.arr ab cb ac cc) 25)) (And.intro (World.size_alloc w (.cells (m.arr ab cb ac cc) 25)) h2))))
  have hn1 : (m.boxes.length : Int) ≤ 4 := by have := hm.nb; omega
  have hn2 : (m.cards.length : Int) ≤ 8 := by have := hm.nc; omega
  have hn3 : (manyB m.boxes m.boxes.length : Int) ≤ 12 := by have := hm.ne; omega
  clear x0 x1 x2 x3 y1 y2 y3 hw0 hm h1 h2
  go_enter Tryz.func54, Tryz.ntmps54
  refine wp_seq_hid ?_
  intro K0 HK0
  go_wp2_with fail
  refine HK0.out _ _ ?_
  clear HK0 K0
  refine wp_seq_hid ?_
  intro K1 HK1
  go_wp2_with fail
  refine HK1.out _ _ ?_
  clear HK1 K1
  refine wp_seq_hid ?_
  intro K2 HK2
  go_wp2_with fail
  refine HK2.out _ _ ?_
  clear HK2 K2
  have HZ : Hid ((((w.alloc (.cells (m.arr ab cb ac cc) 25)).alloc (.cells #[.func (.func 65) #[] #[]] 55)).alloc (.cells #[.int .i64 0] 3)).heap.size = w.heap.size + 3) := by simp [Hid]
  revert HX HI HZ HM
  generalize ((w.alloc (.cells (m.arr ab cb ac cc) 25)).alloc (.cells #[.func (.func 65) #[] #[]] 55)).alloc (.cells #[.int .i64 0] 3) = w1
  generalize w.alloc (.cells (m.arr ab cb ac cc) 25) = w0
  intro HX HI HM HZ
  have m0 : w1.cell? ⟨w.heap.size, 0, none⟩ = some (.slice ab m.boxes.length cb) := by rw [cell_of_heap HX.out.1]; rfl
  have m1 : w1.cell? ⟨w.heap.size, 1, none⟩ = some (.slice ac m.cards.length cc) := by rw [cell_of_heap HX.out.1]; rfl
  go_wp2_with fail
  refine (any72 HM.out.1 HM.out.2.1 (by have := HM.out.2.2.2.1; omega) HI.out).mono ?_
  clear m0 m1
  rintro e w2 ⟨rfl, hb⟩
  have hsz := HM.out.2.2.2.1
  have g0 : w2.heap[w.heap.size]? = some (.cells (m.arr ab cb ac cc) 25 (0, 0)) := (hb.sm.block _ (by omega) (by omega)).trans HM.out.2.2.1
  have hbw : Below w0.heap.size w0 w2 := hb.sm.below (Nat.le_refl _) (fun k hk e => by omega)
  have hbl : Below w.heap.size w w2 := HX.out.2.2.trans (hbw.mono (by omega))
  have m1 : w2.cell? ⟨w.heap.size, 1, none⟩ = some (.slice ac m.cards.length cc) := by rw [cell_of_heap g0]; rfl
  have m2 : w2.cell? ⟨w.heap.size + 1 + 1, 0, none⟩ = some (.int .i64 (manyB m.boxes m.boxes.length : Int)) := by rw [cell_of_heap hb.mc]; rfl
  have HT : Hid (IsTns w2 ac m.cards) := HM.out.2.2.2.2.mono hbl
  have HB := Lib.hid hbl
  have hn2' : m.cards.length ≤ 100 := by omega
  clear hb g0 hsz hbl hbw
  go_wp2_with fail
  refine (any73 HM.out.1.cs hn2' HT.out).mono ?_
  clear m1 m2
  rintro e w3 ⟨rfl, hb⟩
  have HB3 := Lib.hid (HB.out.trans (hb.mono HB.out.size))
  clear hb
  go_wp2_with fail
  go_ret
  exact ⟨rfl, HB3.out⟩
end Go.Proofs.YtbnhngfegnhaiaaGreatDoor
namespace Go.Proofs.YtbnhngfegnhaiaaGreatDoor
open Go.RowKit
set_option linter.unusedVariables false
set_option linter.unusedSimpArgs false
/-- A test that is told, and what it says if it holds. -/
def BoolP (p : Prop) (w : World) (e : Ending) (w' : World) : Prop := (∃ b, e = .returned (.bool b) ∧ (b = true → p)) ∧ w = w'
theorem BoolP.no {p : Prop} {w w' : World} (h : w = w') : BoolP p w (.returned (.bool false)) w' := ⟨⟨false, rfl, fun h => by cases h⟩, h⟩
theorem BoolP.mk {p : Prop} {w w' : World} {b : Bool} (hp : b = true → p) (h : w = w') : BoolP p w (.returned (.bool b)) w' := ⟨⟨b, rfl, hp⟩, h⟩
set_option maxRecDepth 100000 in
set_option maxHeartbeats 4000000 in
theorem title15 {s : ByteArray} {w : World} (hs : s.size ≤ 9223372036854775807) :
    Calls Tryz.prog 15 #[.string s] w fun e w' => BoolP (titleOk s) w e w' := by
  have hs2 : (s.size : Int) ≤ 9223372036854775807 := by omega
  go_enter Tryz.func15, Tryz.ntmps15
  go_wp2_with fail
  go_loopw [3] (fun i wr => ∃ k : Nat, k ≤ s.size ∧ i = .int .i64 (k : Int) ∧ Hid (w = wr ∧ ∀ j, j < k → letB (bt s j) = true)) (fun i _ => s.size - (intOf i).toNat)
  case atStart => exact ⟨0, Nat.zero_le _, rfl, rfl, fun j hj => by omega⟩
  case round =>
    obtain ⟨k, hk, rfl, HW⟩ := hrel
    by_cases hlt : k < s.size
    · have hix := run_idx9 hlt
      have HL := Lib.hid (show letB (bt s k) = (decide (97 ≤ bt s k) && decide (bt s k ≤ 122)) from rfl)
      revert hix HL
      generalize hx : bt s k = x
      intro hix HL
      have HX := Lib.hid hx
      clear hx
      by_cases h1 : (x : Int) < 97
      · go_wp2_with fail
        go_ret
        exact BoolP.no HW.out.1
      · by_cases h2 : (122 : Int) < x
        · go_wp2_with fail
          go_ret
          exact BoolP.no HW.out.1
        · go_wp2_with fail
          clear hix
          go_roundw
          case rel =>
            refine ⟨k + 1, by omega, by go_num, HW.out.1, fun j hj => ?_⟩
            by_cases hjk : j = k
            · rw [hjk, HX.out, HL.out]
              simp
              omega
            · exact HW.out.2 j (by omega)
          case measure => simp [intOf]; omega
    · obtain rfl : k = s.size := by omega
      go_wp2_with fail
      refine (in16 _ _ _ _).mono ?_
      rintro e w' ⟨rfl, rfl⟩
      go_wp2_with fail
      go_ret
      refine BoolP.mk (fun h => ?_) HW.out.1
      simp only [inR, Bool.and_eq_true, decide_eq_true_eq] at h
      exact ⟨by omega, by omega, HW.out.2⟩
set_option maxRecDepth 100000 in
set_option maxHeartbeats 8000000 in
theorem piece17 {s : ByteArray} {w : World} (hs : s.size ≤ 9223372036854775807) :
    Calls Tryz.prog 17 #[.string s] w fun e w' => BoolP (pieceOk s) w e w' := by
  have hs2 : (s.size : Int) ≤ 9223372036854775807 := by omega
  go_enter Tryz.func17, Tryz.ntmps17
  go_wp2_with fail
  go_loopw [3, 4] (fun v i wr => ∃ k : Nat, k ≤ s.size ∧ i = .int .i64 (k : Int) ∧ v = .int .i64 (cntB (fun b => b == 42) s k : Int) ∧ Hid (w = wr ∧ ∀ j, j < k → goodB (bt s j) = true)) (fun _ i _ => s.size - (intOf i).toNat)
  case atStart => exact ⟨0, Nat.zero_le _, rfl, rfl, rfl, fun j hj => by omega⟩
  case round =>
    obtain ⟨k, hk, rfl, rfl, HW⟩ := hrel
    by_cases hlt : k < s.size
    · have hix := run_idx9 hlt
      have hcb := cntB_le (fun b => b == 42) s k
      have HS : Hid (cntB (fun b => b == 42) s (k + 1) = cntB (fun b => b == 42) s k + if (bt s k == 42) = true then 1 else 0) := rfl
      revert hix HS hcb
      generalize hx : bt s k = x
      generalize hn1 : cntB (fun b => b == 42) s (k + 1) = n1
      generalize cntB (fun b => b == 42) s k = n0
      intro hix hcb HS
      have HX := Lib.hid hx
      have HN1 := Lib.hid hn1
      clear hx hn1
      have HN : Hid (goodB x = true → ∀ j, j < k + 1 → goodB (bt s j) = true) := fun hg j hj => by
        by_cases hjk : j = k
        · rw [hjk, HX.out]; exact hg
        · exact HW.out.2 j (by omega)
      by_cases h1 : x = 42
      · subst h1
        go_wp2_with fail
        clear hix
        go_roundw
        case rel => exact ⟨k + 1, by omega, by go_num, by rw [HN1.out, HS.out]; simp, HW.out.1, HN.out (by decide)⟩
        case measure => simp [intOf]; omega
      · have e42 : ((x : Int) == 42) = false := by simp; omega
        have HSE : Hid (n1 = n0) := by rw [Hid, HS.out, if_neg (by simp [h1])]; rfl
        clear HS
        by_cases h2 : x = 63
        · subst h2
          go_wp2_with fail
          clear hix
          go_roundw
          case rel => exact ⟨k + 1, by omega, by go_num, by rw [HN1.out, HSE.out], HW.out.1, HN.out (by decide)⟩
          case measure => simp [intOf]; omega
        · have e63 : ((x : Int) != 63) = true := by simp; omega
          have e63' : ((x : Int) == 63) = false := by simp; omega
          by_cases h3 : 97 ≤ x ∧ x ≤ 122
          · have d1 : (97 : Int) ≤ x := by omega
            have d2 : (x : Int) ≤ 122 := by omega
            go_wp2_with fail
            clear hix
            go_roundw
            case rel => exact ⟨k + 1, by omega, by go_num, by rw [HN1.out, HSE.out], HW.out.1, HN.out (by simp [goodB, letB, h3.1, h3.2])⟩
            case measure => simp [intOf]; omega
          · by_cases h4 : 48 ≤ x ∧ x ≤ 57
            · have d1 : ¬ (97 : Int) ≤ x := by omega
              have d3 : (48 : Int) ≤ x := by omega
              have d4 : (x : Int) ≤ 57 := by omega
              go_wp2_with fail
              clear hix
              go_roundw
              case rel => exact ⟨k + 1, by omega, by go_num, by rw [HN1.out, HSE.out], HW.out.1, HN.out (by simp [goodB, digB, h4.1, h4.2])⟩
              case measure => simp [intOf]; omega
            · by_cases d1 : (97 : Int) ≤ x
              · have d2 : ¬ (x : Int) ≤ 122 := by omega
                have d4 : ¬ (x : Int) ≤ 57 := by omega
                have d3 : (48 : Int) ≤ x := by omega
                go_wp2_with fail
                go_ret
                exact BoolP.no HW.out.1
              · by_cases d3 : (48 : Int) ≤ x
                · have d4 : ¬ (x : Int) ≤ 57 := by omega
                  go_wp2_with fail
                  go_ret
                  exact BoolP.no HW.out.1
                · go_wp2_with fail
                  go_ret
                  exact BoolP.no HW.out.1
    · obtain rfl : k = s.size := by omega
      have HP : Hid (s.size ≤ 12 → cntB (fun b => b == 42) s s.size ≤ 1 → pieceOk s) := fun h1 h2 => ⟨h1, HW.out.2, h2⟩
      revert HP
      generalize cntB (fun b => b == 42) s s.size = n
      intro HP
      by_cases h1 : (s.size : Int) ≤ 12
      · by_cases h2 : (n : Int) ≤ 1
        · go_wp2_with fail
          go_ret
          exact BoolP.mk (fun _ => HP.out (by omega) (by omega)) HW.out.1
        · go_wp2_with fail
          go_ret
          exact BoolP.no HW.out.1
      · go_wp2_with fail
        go_ret
        exact BoolP.no HW.out.1
end Go.Proofs.YtbnhngfegnhaiaaGreatDoor
namespace Go.Proofs.YtbnhngfegnhaiaaGreatDoor
open Go.RowKit
set_option linter.unusedVariables false
set_option linter.unusedSimpArgs false
/-- A test that is told, and what it says if it holds. -/
def BoolB (p : Prop) (w : World) (e : Ending) (w' : World) : Prop := (∃ b, e = .returned (.bool b) ∧ (b = true → p)) ∧ Below w.heap.size w w'
theorem BoolB.no {p : Prop} {w w' : World} (h : Below w.heap.size w w') : BoolB p w (.returned (.bool false)) w' := ⟨⟨false, rfl, fun h => by cases h⟩, h⟩
theorem BoolB.mk {p : Prop} {w w' : World} {b : Bool} (hp : b = true → p) (h : Below w.heap.size w w') : BoolB p w (.returned (.bool b)) w' := ⟨⟨b, rfl, hp⟩, h⟩
/-- Numbers that fit. -/
structure Mx.Fit (m : Mx) : Prop where
  lb : m.boxes.length ≤ 12
  lc : m.cards.length ≤ 20
  bt : ∀ i, i < m.boxes.length → (gb m.boxes i).titles.length ≤ 17592186044416
  bs : ∀ i, i < m.boxes.length → ∀ k, k < (gb m.boxes i).titles.length → (gs (gb m.boxes i).titles k).size ≤ 9223372036854775807
  cn : ∀ i, i < m.cards.length → (gc m.cards i).number.size ≤ 9223372036854775807
  ct : ∀ i, i < m.cards.length → (gc m.cards i).text.size ≤ 9223372036854775807
theorem many_le {m : Mx} (h : m.Fit) : ∀ k, k ≤ m.boxes.length → manyB m.boxes k ≤ k * 17592186044416
  | 0, _ => by simp [manyB]
  | k + 1, hk => by
    have h1 := many_le h k (by omega)
    have h2 := h.bt k (by omega)
    unfold manyB
    omega
noncomputable def ref13C : Code := (Tryz.f4.body.bind (fromRegion 13)).getD .skip
set_option maxRecDepth 100000 in
set_option maxHeartbeats 8000000 in
theorem ref13 {m : Mx} {ab ac : Option Addr} {cb cc b1 : Nat} {w0 W : World} (hm : m.Fit) (hle : Below w0.heap.size w0 W) (hbx : W.heap[b1]? = some (.cells (m.arr ab cb ac cc) 25 (0, 0))) (h2 : IsTns W ac m.cards)
    (hb : ∀ k, k < m.boxes.length → (gb m.boxes k).ok) {s0 s2 s4 s5 s6 s7 s8 s9 s10 s11 s12 s13 s14 s15 s16 s17 s18 s19 s20 s21 s22 s23 s24 s25 s26 s27 s28 s29 s30 s31 s32 s33 s34 s35 s36 s37 s38 s39 s40 s41 s42 s43 s44 s45 s46 s47 s48 s49 s50 s51 s52 s53 s54 s55 s56 s57 s58 s59 s60 s61 s62 s63 s64 s65 s66 s67 s68 s69 s70 s71 s72 s73 s74 s75 s76 s77 s78 s79 s80 s81 s82 s83 s84 s85 s86 s87 s88 s89 s90 s91 s92 s93 s94 s95 : Value} :
    Code.wp Tryz.prog ref13C (bodyPost Tryz.prog Tryz.f4 fun e w' => BoolB m.Ok w0 e w') { tmps := List.toArray (s0 :: .pointer (some ⟨b1, 0, none⟩) :: s2 :: .int .i64 (manyB m.boxes m.boxes.length : Int) :: s4 :: s5 :: s6 :: s7 :: s8 :: s9 :: s10 :: s11 :: s12 :: s13 :: s14 :: s15 :: s16 :: s17 :: s18 :: s19 :: s20 :: s21 :: s22 :: s23 :: s24 :: s25 :: s26 :: s27 :: s28 :: s29 :: s30 :: s31 :: s32 :: s33 :: s34 :: s35 :: s36 :: s37 :: s38 :: s39 :: s40 :: s41 :: s42 :: s43 :: s44 :: s45 :: s46 :: s47 :: s48 :: s49 :: s50 :: s51 :: s52 :: s53 :: s54 :: s55 :: s56 :: s57 :: s58 :: s59 :: s60 :: s61 :: s62 :: s63 :: s64 :: s65 :: s66 :: s67 :: s68 :: s69 :: s70 :: s71 :: s72 :: s73 :: s74 :: s75 :: s76 :: s77 :: s78 :: s79 :: s80 :: s81 :: s82 :: s83 :: s84 :: s85 :: s86 :: s87 :: s88 :: s89 :: s90 :: s91 :: s92 :: s93 :: s94 :: s95 :: []), defers := [] } W := by
  have HM := Lib.hid (And.intro hm (And.intro hbx (And.intro h2 hb)))
  have HL := Lib.hid hle
  have hn1 : (m.boxes.length : Int) ≤ 12 := by have := hm.lb; omega
  have hn2 : (m.cards.length : Int) ≤ 20 := by have := hm.lc; omega
  have HOK : Hid ((m.boxes.length : Int) ≤ 4 → (manyB m.boxes m.boxes.length : Int) ≤ 12 → (m.cards.length : Int) ≤ 8 → (∀ k, k < m.cards.length → (gc m.cards k).ok) → m.Ok) := fun h1 h2 h3 h4 => ⟨by omega, by omega, by omega, hb, h4⟩
  clear hm hle hbx h2 hb
  conv => arg 2; whnf
  revert HOK
  generalize manyB m.boxes m.boxes.length = n
  intro HOK
  refine wp_seq_hid ?_
  intro K13 HK13
  go_wp2_with fail
  go_loopw [6] (fun i wr => ∃ k : Nat, k ≤ m.cards.length ∧ i = .int .i64 (k : Int) ∧ Hid (Below W.heap.size W wr ∧ ∀ j, j < k → (gc m.cards j).ok)) (fun i _ => m.cards.length - (intOf i).toNat)
  case atStart => exact ⟨0, Nat.zero_le _, rfl, Below.refl _ _, fun j hj => by omega⟩
  case round =>
    obtain ⟨k, hk, rfl, HW⟩ := hrel
    have HBX := Lib.hid ((HW.out.1.block _ (heap_lt HM.out.2.1)).trans HM.out.2.1)
    have m1 : wr.cell? ⟨b1, 1, none⟩ = some (.slice ac m.cards.length cc) := by rw [cell_of_heap HBX.out]; rfl
    by_cases hlt : k < m.cards.length
    · obtain ⟨b, off, rfl, hc⟩ := (HM.out.2.2.1.mono HW.out.1) k hlt
      have HTN := Lib.hid (And.intro (HM.out.1.cn k hlt) (HM.out.1.ct k hlt))
      have HTK : Hid (∀ t : Tn, t = gc m.cards k → t.ok → ∀ j, j < k + 1 → (gc m.cards j).ok) := fun t ht hok j hj => by
        by_cases hjk : j = k
        · rw [hjk, ← ht]; exact hok
        · exact HW.out.2 j (by omega)
      obtain ⟨c0, c1, c2⟩ := hc
      revert c0 c1 c2 HTN
      generalize ht : gc m.cards k = t
      intro HTN c0 c1 c2
      have HT := Lib.hid ht
      clear ht
      have HA := Lib.hid (And.intro (World.alloc_heap_new wr (.cells #[.int .i64 t.colour, .string t.number, .string t.text] 58)) (alloc_below wr (.cells #[.int .i64 t.colour, .string t.number, .string t.text] 58)))
      go_upto_region 17 with fail
      clear c0 c1 c2 m1
      revert HA
      generalize wr.alloc (.cells #[.int .i64 t.colour, .string t.number, .string t.text] 58) = w1
      generalize hb7 : wr.heap.size = b7
      intro HA
      have HB7 := Lib.hid hb7
      clear hb7
      have HB1 : Hid (Below W.heap.size W w1) := HW.out.1.trans (HA.out.2.mono (by rw [← HB7.out]; exact HW.out.1.size))
      have m0 : w1.cell? ⟨b7, 0, none⟩ = some (.int .i64 t.colour) := by rw [cell_of_heap HA.out.1]; rfl
      have m1 : w1.cell? ⟨b7, 1, none⟩ = some (.string t.number) := by rw [cell_of_heap HA.out.1]; rfl
      have m2 : w1.cell? ⟨b7, 2, none⟩ = some (.string t.text) := by rw [cell_of_heap HA.out.1]; rfl
      go_wp2_with fail
      refine (in16 _ _ _ _).mono ?_
      rintro e w' ⟨rfl, rfl⟩
      cases hcol : inR t.colour 0 9
      · clear hcol
        go_wp2_with fail
        go_ret
        exact BoolB.no (HL.out.trans (HB1.out.mono HL.out.size))
      · have HCOL := Lib.hid hcol
        clear hcol
        go_wp2_with fail
        refine (piece17 HTN.out.1).mono ?_
        rintro e w' ⟨⟨p1, rfl, hp1⟩, rfl⟩
        have HP1 := Lib.hid hp1
        clear hp1
        cases p1
        · go_wp2_with fail
          go_ret
          exact BoolB.no (HL.out.trans (HB1.out.mono HL.out.size))
        · go_wp2_with fail
          refine (piece17 HTN.out.2).mono ?_
          rintro e w' ⟨⟨p2, rfl, hp2⟩, rfl⟩
          have HP2 := Lib.hid hp2
          clear hp2
          cases p2
          · go_wp2_with fail
            go_ret
            exact BoolB.no (HL.out.trans (HB1.out.mono HL.out.size))
          · clear m0 m1 m2
            go_wp2_with fail
            go_roundw
            case rel =>
              have hcc := HCOL.out
              simp only [inR, Bool.and_eq_true, decide_eq_true_eq] at hcc
              exact ⟨k + 1, by omega, by go_num, HB1.out, HTK.out t HT.out.symm ⟨hcc.1, hcc.2, HP1.out (by first | trivial | rfl), HP2.out (by first | trivial | rfl)⟩⟩
            case measure => simp [intOf]; omega
    · obtain rfl : k = m.cards.length := by omega
      go_wp2_with fail
      refine HK13.out _ _ ?_
      have HBB := Lib.hid (HL.out.trans (HW.out.1.mono HL.out.size))
      have m0 : wr.cell? ⟨b1, 0, none⟩ = some (.slice ab m.boxes.length cb) := by rw [cell_of_heap HBX.out]; rfl
      have HOK2 : Hid ((m.boxes.length : Int) ≤ 4 → (n : Int) ≤ 12 → (m.cards.length : Int) ≤ 8 → m.Ok) := fun h1 h2 h3 => HOK.out h1 h2 h3 HW.out.2
      clear HOK
      by_cases h1 : (m.boxes.length : Int) ≤ 4
      · by_cases h2 : (n : Int) ≤ 12
        · by_cases h3 : (m.cards.length : Int) ≤ 8
          · go_wp2_with fail
            go_ret
            exact BoolB.mk (fun _ => HOK2.out h1 h2 h3) HBB.out
          · go_wp2_with fail
            go_ret
            exact BoolB.no HBB.out
        · go_wp2_with fail
          go_ret
          exact BoolB.no HBB.out
      · go_wp2_with fail
        go_ret
        exact BoolB.no HBB.out
end Go.Proofs.YtbnhngfegnhaiaaGreatDoor
namespace Go.Proofs.YtbnhngfegnhaiaaGreatDoor
open Go.RowKit Go.WideShapes Go.ChangeShapes
section
variable {H : Type} {enc : TypeId × Value → H} {P : Program}
theorem post_of_below {f : Func} {s : ChangeSpec} {apart fresh handsOn again : Bool} {W W' : World} {args : Array Value} {v : Value} {ds gs : List (DataW H)} {before pa pv : List MemPlace}
    (hW : DataW.Whole enc P f.params.toList s.vars apart W args.toList ds gs before)
    (hres : ∀ (b : Nat) (sp : Nat → Bool) (hd : Bool), DataW.TrodAll enc P W' b sp hd f.resultTypes.toList (v.resultList f.resultTypes.size) (s.fn H (ds ++ gs)).results [])
    (hargs : ∀ sp : Nat → Bool, (∀ p ∈ before, sp p.block = true) → DataW.TrodAll enc P W' 0 sp true f.params.toList args.toList (s.fn H (ds ++ gs)).args pa)
    (hvars : ∀ sp : Nat → Bool, (∀ p ∈ before, sp p.block = true) → DataW.TrodVars enc P W' sp s.vars (s.fn H (ds ++ gs)).vars pv)
    (hps : before = pa ++ pv) (hb : Below W.heap.size W W')
    (hok : ∀ (j : Nat) (t : TypeId) (r : Value), f.resultTypes[j]? = some t → (v.resultList f.resultTypes.size)[j]? = some r → Value.okWide P W' .any 0 t r) :
    s.post enc P f apart fresh handsOn again W args v W' := by
  have hlt : ∀ p ∈ before, p.block < W.heap.size := fun p hp => hW.lt p hp
  have hold : ∀ p ∈ before, (fun b => decide (b < W.heap.size)) p.block = true := fun p hp => by simpa using hlt p hp
  refine ⟨ds, gs, before, [], pa, pv, hW, hres _ _ _, hargs _ hold, hvars _ hold, World.keptBut_mono (fun p hp => ⟨hp, ?_⟩) (hb.frame (· ∈ before)), fun _ => ?_⟩
  · rw [hps, List.mem_append] at hp
    exact Or.inr hp
  · obtain ⟨_, _, _, _, _, hz, hn⟩ := hW
    refine ⟨hok, _, _, ([] ++ pa) ++ pv, ⟨[] ++ pa, pv, trodAll_append (hargs _ (fun _ _ => rfl)) (hres _ _ _), hvars _ (fun _ _ => rfl), rfl, ?_, ?_⟩, ?_⟩
    · intro b off hp
      have hin : MemPlace.cell b off ∈ before := by rw [hps]; simpa using hp
      rw [hb.frozen (hlt _ hin)]
      exact hz b off hin
    · intro ha
      have := hn ha
      rw [hps] at this
      simpa using this
    · intro p hp _
      rw [hps]
      simpa using hp
end
end Go.Proofs.YtbnhngfegnhaiaaGreatDoor
namespace Go.Proofs.YtbnhngfegnhaiaaGreatDoor
open Go.ChangeShapes Go.WideShapes Go.ChangeAt Go.Deep Go.RowKit Go.Joins
set_option linter.unusedVariables false
set_option linter.unusedSimpArgs false
theorem Tryz.laidOut : laidOutB Tryz.prog = true := by kernel_rfl
theorem Tryz.cells3 : Tryz.prog.cellsOf 3 = 1 := by kernel_rfl
theorem Tryz.cells22 : Tryz.prog.cellsOf 22 = 1 := by kernel_rfl
theorem Tryz.cells54 : Tryz.prog.cellsOf 54 = 2 := by kernel_rfl
theorem Tryz.cells52 : Tryz.prog.cellsOf 52 = 1 := by kernel_rfl
theorem Tryz.cells9 : Tryz.prog.cellsOf 9 = 1 := by kernel_rfl
theorem Tryz.cells23 : Tryz.prog.cellsOf 23 = 1 := by kernel_rfl
theorem Tryz.cells58 : Tryz.prog.cellsOf 58 = 3 := by kernel_rfl
theorem Tryz.cells25 : Tryz.prog.cellsOf 25 = 2 := by kernel_rfl
theorem Tryz.bytes9 : Tryz.prog.bytesOf 9 = 16 := by kernel_rfl
theorem add_at (b o i : Nat) : (⟨b, o, none⟩ : Addr).add i = ⟨b, o + i, none⟩ := by
  unfold Addr.add
  split
  · rename_i h; subst h; rfl
  · rfl
theorem spotless {w : World} {a : Addr} {v : Value} (h : w.cell? a = some v) : a = ⟨a.block, a.off, none⟩ := by
  obtain ⟨b, o, s⟩ := a
  cases s with
  | none => rfl
  | some s =>
    exfalso
    simp only [World.cell?] at h
    split at h <;> simp at h
theorem add_zero' (a : Addr) : a.add 0 = a := rfl
section
variable {H : Type} {enc : TypeId × Value → H} {w : World} {base : Nat} {spare : Nat → Bool} {held : Bool}
set_option maxRecDepth 100000 in
theorem trod_c1 {t : TypeId} {fuel : Nat} {cs : List Value} {x : DataW H × List MemPlace} (ht : Tryz.prog.underlying t = some (.int .i64)) (h : DataW.trod enc Tryz.prog w base spare held fuel t cs = some x) :
    ∃ n, cs = [.int .i64 n] := by
  obtain ⟨n, h1, _, h3⟩ := DataW.trod_int ht h
  exact ⟨n, h1⟩
theorem spotted {t m len : Nat} {a : Addr} {D : Nat → DataW H} {Pl : Nat → List MemPlace} {n : Nat} (hc0 : 0 < Tryz.prog.cellsOf t) (hle : len ≤ m)
    (hi : ∀ i, i < m → ∃ cs', w.cells? base (a.add (i * Tryz.prog.cellsOf t)) (Tryz.prog.cellsOf t) = some cs' ∧ DataW.trod enc Tryz.prog w base spare held n t cs' = some (D i, Pl i)) (h : 0 < len) : a = ⟨a.block, a.off, none⟩ := by
  obtain ⟨cs, hc, hd⟩ := hi 0 (by omega)
  obtain ⟨_, hcl, hat⟩ := World.cells?_some hc
  have h0 := hat 0 hc0
  rw [Nat.zero_mul, add_zero', add_zero'] at h0
  have : ∃ v, w.cell? a = some v := by
    cases cs with
    | nil => simp at hcl; omega
    | cons x r => exact ⟨x, h0⟩
  obtain ⟨v, hv⟩ := this
  exact spotless hv
theorem weightsAll_mem {P : Program} {e : TypeId} : ∀ {l : List (DataW H)} {d : DataW H}, d ∈ l → ∀ n ∈ d.weights P e, n ∈ DataW.weightsAll P e l
  | d' :: r, d, hd, n, hn => by
    simp only [DataW.weightsAll, List.mem_append]
    rcases List.mem_cons.1 hd with rfl | h
    · exact Or.inl hn
    · exact Or.inr (weightsAll_mem h n hn)
theorem weights_elem {t e : TypeId} {elems sp : List (DataW H)} {d : DataW H} (ht : Tryz.prog.underlying t = some (.slice e)) (hd : d ∈ elems) (hw : ∀ n ∈ (DataW.slice elems sp).weights Tryz.prog t, n ≤ reachBytes) : ∀ n ∈ d.weights Tryz.prog e, n ≤ reachBytes := fun n hn => by
  refine hw n ?_
  simp only [DataW.weights, ht, List.mem_cons, List.mem_append]
  exact Or.inr (Or.inl (weightsAll_mem hd n hn))
theorem weights_len {t e : TypeId} {elems sp : List (DataW H)} (ht : Tryz.prog.underlying t = some (.slice e)) (hw : ∀ n ∈ (DataW.slice elems sp).weights Tryz.prog t, n ≤ reachBytes) : elems.length * Tryz.prog.bytesOf e ≤ reachBytes := by
  have := hw ((elems.length + sp.length) * Tryz.prog.bytesOf e) (by simp [DataW.weights, ht])
  refine Nat.le_trans (Nat.mul_le_mul_right _ (by omega)) this
theorem trod_str {t : TypeId} {fuel : Nat} {cs : List Value} {x : DataW H × List MemPlace} (ht : Tryz.prog.underlying t = some .string) (h : DataW.trod enc Tryz.prog w base spare held fuel t cs = some x) :
    ∃ s : ByteArray, cs = [.string s] ∧ s.size ≤ 9223372036854775807 := by
  obtain ⟨s, h1, _, h3⟩ := DataW.trod_string ht h
  exact ⟨s, h1, h3⟩
set_option maxRecDepth 100000 in
theorem open_strs {fuel : Nat} {v : Value} {x : DataW H × List MemPlace} (h : DataW.trod enc Tryz.prog w base spare held fuel 52 [v] = some x) (hw : ∀ n ∈ x.1.weights Tryz.prog 52, n ≤ reachBytes) :
    ∃ (a : Option Addr) (l : List ByteArray) (cap : Nat), v = .slice a l.length cap ∧ IsStrs w a l ∧ l.length ≤ 17592186044416 ∧ ∀ k, k < l.length → (gs l k).size ≤ 9223372036854775807 := by
  rcases open_slice Tryz.underlying52 h with ⟨h1, _⟩ | ⟨a, len, cap, m, n, D, Pl, h1, _, hl, hm, hmm, hx, hi⟩
  · simp only [List.cons.injEq, and_true] at h1
    exact ⟨none, [], 0, h1, fun i hi => by simp at hi, by simp, fun k hk => by simp at hk⟩
  · simp only [List.cons.injEq, and_true] at h1
    have hle : len ≤ m := by rw [hmm]; split <;> omega
    have hs := spotted (by rw [Tryz.cells9]; decide) hle hi
    have hwl : len * 16 ≤ reachBytes := by
      rw [hx] at hw
      have := weights_len Tryz.underlying52 hw
      rw [Tryz.bytes9, List.length_map, List.length_range] at this
      exact this
    have each : ∀ i, ∃ s : ByteArray, i < len → a = ⟨a.block, a.off, none⟩ ∧ w.cell? ⟨a.block, a.off + i, none⟩ = some (.string s) ∧ s.size ≤ 9223372036854775807 := by
      intro i
      by_cases hil : i < len
      · have hs := hs (by omega)
        obtain ⟨cs, hc, hd⟩ := hi i (by omega)
        rw [Tryz.cells9] at hc
        obtain ⟨_, hcl, hat⟩ := World.cells?_some hc
        obtain ⟨m, rfl, hz⟩ := trod_str Tryz.underlying9 hd
        have h0 := hat 0 (by decide)
        rw [hs, Nat.mul_one, add_at, add_at] at h0
        exact ⟨m, fun _ => ⟨hs, h0, hz⟩⟩
      · exact ⟨ByteArray.empty, fun h => absurd h hil⟩
    obtain ⟨f, hf⟩ := Classical.axiomOfChoice each
    have hg : ∀ i, i < len → gs ((List.range len).map f) i = f i := fun i hi' => by simp [gs, hi']
    refine ⟨some a, (List.range len).map f, cap, by rw [h1]; simp, fun i hi => ?_, by simp only [reachBytes] at hwl; simp; omega, fun k hk => ?_⟩
    · have hi' : i < len := by simpa using hi
      obtain ⟨hs, h0, _⟩ := hf i hi'
      exact ⟨a.block, a.off, by rw [← hs], by rw [hg i hi']; exact h0⟩
    · have hk' : k < len := by simpa using hk
      rw [hg k hk']
      exact (hf k hk').2.2
set_option maxRecDepth 100000 in
theorem trod_box {fuel : Nat} {cs : List Value} {x : DataW H × List MemPlace} (h : DataW.trod enc Tryz.prog w base spare held fuel 54 cs = some x) (hw : ∀ n ∈ x.1.weights Tryz.prog 54, n ≤ reachBytes) :
    ∃ (b : Bx) (at_ : Option Addr) (c : Nat), cs = [.int .i64 b.colour, .slice at_ b.titles.length c] ∧ IsStrs w at_ b.titles ∧ b.titles.length ≤ 17592186044416 ∧ ∀ k, k < b.titles.length → (gs b.titles k).size ≤ 9223372036854775807 := by
  obtain ⟨xs, n, _, hxx, hl, hx, hf⟩ := DataW.trod_struct Tryz.underlying54 h
  rw [Tryz.cells54] at hl
  have hx : xs.length = 2 := hx
  match cs, hl, xs, hx with
  | [c0, c1], _, [x0, x1], _ =>
    have f0 : DataW.trod enc Tryz.prog w base spare held n 3 (([c0, c1].drop 0).take (Tryz.prog.cellsOf 3)) = some x0 := hf 0 _ rfl
    have f1 : DataW.trod enc Tryz.prog w base spare held n 52 (([c0, c1].drop 1).take (Tryz.prog.cellsOf 52)) = some x1 := hf 1 _ rfl
    rw [Tryz.cells3] at f0
    rw [Tryz.cells52] at f1
    have hw1 : ∀ n ∈ x1.1.weights Tryz.prog 52, n ≤ reachBytes := fun n hn => hw n (by
      rw [hxx]
      simp only [DataW.weights, Tryz.underlying54]
      exact DataW.weights_mem_each (j := 1) (t := 52) rfl rfl n hn)
    obtain ⟨a, h0⟩ := trod_c1 Tryz.underlying3 f0
    obtain ⟨b, l, c, h1, h2, h3, h4⟩ := open_strs f1 hw1
    simp only [List.drop_succ_cons, List.drop_zero, List.take_succ_cons, List.take_zero, List.cons.injEq, and_true] at h0
    exact ⟨⟨a, l⟩, b, c, by rw [h0, h1], h2, h3, h4⟩
set_option maxRecDepth 100000 in
theorem open_bxs {fuel : Nat} {v : Value} {x : DataW H × List MemPlace} (h : DataW.trod enc Tryz.prog w base spare held fuel 22 [v] = some x) (hw : ∀ n ∈ x.1.weights Tryz.prog 22, n ≤ reachBytes) :
    ∃ (a : Option Addr) (l : List Bx) (cap : Nat), v = .slice a l.length cap ∧ IsBxs w a l ∧ ∀ i, i < l.length → (gb l i).titles.length ≤ 17592186044416 ∧ ∀ k, k < (gb l i).titles.length → (gs (gb l i).titles k).size ≤ 9223372036854775807 := by
  rcases open_slice Tryz.underlying22 h with ⟨h1, _⟩ | ⟨a, len, cap, m, n, D, Pl, h1, _, hl, hm, hmm, hx, hi⟩
  · simp only [List.cons.injEq, and_true] at h1
    exact ⟨none, [], 0, h1, fun i hi => by simp at hi, fun k hk => by simp at hk⟩
  · simp only [List.cons.injEq, and_true] at h1
    have hle : len ≤ m := by rw [hmm]; split <;> omega
    have hs := spotted (by rw [Tryz.cells54]; decide) hle hi
    have each : ∀ i, ∃ b : Bx, i < len → a = ⟨a.block, a.off, none⟩ ∧ w.cell? ⟨a.block, a.off + i * 2, none⟩ = some (.int .i64 b.colour) ∧ (∃ at_ c, w.cell? ⟨a.block, a.off + i * 2 + 1, none⟩ = some (.slice at_ b.titles.length c) ∧ IsStrs w at_ b.titles) ∧
        b.titles.length ≤ 17592186044416 ∧ ∀ k, k < b.titles.length → (gs b.titles k).size ≤ 9223372036854775807 := by
      intro i
      by_cases hil : i < len
      · have hs := hs (by omega)
        obtain ⟨cs, hc, hd⟩ := hi i (by omega)
        rw [Tryz.cells54] at hc
        obtain ⟨_, hcl, hat⟩ := World.cells?_some hc
        have hwd : ∀ n ∈ (D i).weights Tryz.prog 54, n ≤ reachBytes := by
          rw [hx] at hw
          exact weights_elem Tryz.underlying22 (List.mem_map.2 ⟨i, List.mem_range.2 hil, rfl⟩) hw
        obtain ⟨b, at_, c, rfl, h2, h3, h4⟩ := trod_box hd hwd
        have h0 := hat 0 (by decide)
        have h1 := hat 1 (by decide)
        rw [hs, add_at, add_at] at h0 h1
        exact ⟨b, fun _ => ⟨hs, h0, ⟨at_, c, h1, h2⟩, h3, h4⟩⟩
      · exact ⟨bx0, fun h => absurd h hil⟩
    obtain ⟨f, hf⟩ := Classical.axiomOfChoice each
    have hg : ∀ i, i < len → gb ((List.range len).map f) i = f i := fun i hi' => by simp [gb, hi']
    refine ⟨some a, (List.range len).map f, cap, by rw [h1]; simp, fun i hi => ?_, fun i hi => ?_⟩
    · have hi' : i < len := by simpa using hi
      obtain ⟨hs, h0, ⟨at_, c, h2, h3⟩, _⟩ := hf i hi'
      rw [hg i hi']
      exact ⟨a.block, a.off, by rw [← hs], h0, at_, c, h2, h3⟩
    · have hi' : i < len := by simpa using hi
      rw [hg i hi']
      exact (hf i hi').2.2.2
set_option maxRecDepth 100000 in
theorem trod_torn {fuel : Nat} {cs : List Value} {x : DataW H × List MemPlace} (h : DataW.trod enc Tryz.prog w base spare held fuel 58 cs = some x) :
    ∃ t : Tn, cs = [.int .i64 t.colour, .string t.number, .string t.text] ∧ t.number.size ≤ 9223372036854775807 ∧ t.text.size ≤ 9223372036854775807 := by
  obtain ⟨xs, n, _, _, hl, hx, hf⟩ := DataW.trod_struct Tryz.underlying58 h
  rw [Tryz.cells58] at hl
  have hx : xs.length = 3 := hx
  match cs, hl, xs, hx with
  | [c0, c1, c2], _, [x0, x1, x2], _ =>
    have f0 : DataW.trod enc Tryz.prog w base spare held n 3 (([c0, c1, c2].drop 0).take (Tryz.prog.cellsOf 3)) = some x0 := hf 0 _ rfl
    have f1 : DataW.trod enc Tryz.prog w base spare held n 9 (([c0, c1, c2].drop 1).take (Tryz.prog.cellsOf 9)) = some x1 := hf 1 _ rfl
    have f2 : DataW.trod enc Tryz.prog w base spare held n 9 (([c0, c1, c2].drop 2).take (Tryz.prog.cellsOf 9)) = some x2 := hf 2 _ rfl
    rw [Tryz.cells3] at f0
    rw [Tryz.cells9] at f1 f2
    obtain ⟨a, h0⟩ := trod_c1 Tryz.underlying3 f0
    obtain ⟨b, h1, h3⟩ := trod_str Tryz.underlying9 f1
    obtain ⟨c, h2, h4⟩ := trod_str Tryz.underlying9 f2
    simp only [List.drop_succ_cons, List.drop_zero, List.take_succ_cons, List.take_zero, List.cons.injEq, and_true] at h0 h1 h2
    exact ⟨⟨a, b, c⟩, by rw [h0, h1, h2], h3, h4⟩
set_option maxRecDepth 100000 in
theorem open_tns {fuel : Nat} {v : Value} {x : DataW H × List MemPlace} (h : DataW.trod enc Tryz.prog w base spare held fuel 23 [v] = some x) :
    ∃ (a : Option Addr) (l : List Tn) (cap : Nat), v = .slice a l.length cap ∧ IsTns w a l ∧ ∀ i, i < l.length → (gc l i).number.size ≤ 9223372036854775807 ∧ (gc l i).text.size ≤ 9223372036854775807 := by
  rcases open_slice Tryz.underlying23 h with ⟨h1, _⟩ | ⟨a, len, cap, m, n, D, Pl, h1, _, hl, hm, hmm, hx, hi⟩
  · simp only [List.cons.injEq, and_true] at h1
    exact ⟨none, [], 0, h1, fun i hi => by simp at hi, fun k hk => by simp at hk⟩
  · simp only [List.cons.injEq, and_true] at h1
    have hle : len ≤ m := by rw [hmm]; split <;> omega
    have hs := spotted (by rw [Tryz.cells58]; decide) hle hi
    have each : ∀ i, ∃ t : Tn, i < len → a = ⟨a.block, a.off, none⟩ ∧ TnC w a.block (a.off + i * 3) t ∧ t.number.size ≤ 9223372036854775807 ∧ t.text.size ≤ 9223372036854775807 := by
      intro i
      by_cases hil : i < len
      · have hs := hs (by omega)
        obtain ⟨cs, hc, hd⟩ := hi i (by omega)
        rw [Tryz.cells58] at hc
        obtain ⟨_, hcl, hat⟩ := World.cells?_some hc
        obtain ⟨t, rfl, h3, h4⟩ := trod_torn hd
        have h0 := hat 0 (by decide)
        have h1 := hat 1 (by decide)
        have h2 := hat 2 (by decide)
        rw [hs, add_at, add_at] at h0 h1 h2
        exact ⟨t, fun _ => ⟨hs, ⟨h0, h1, h2⟩, h3, h4⟩⟩
      · exact ⟨tn0, fun h => absurd h hil⟩
    obtain ⟨f, hf⟩ := Classical.axiomOfChoice each
    have hg : ∀ i, i < len → gc ((List.range len).map f) i = f i := fun i hi' => by simp [gc, hi']
    refine ⟨some a, (List.range len).map f, cap, by rw [h1]; simp, fun i hi => ?_, fun i hi => ?_⟩
    · have hi' : i < len := by simpa using hi
      obtain ⟨hs, h0, _⟩ := hf i hi'
      rw [hg i hi']
      exact ⟨a.block, a.off, by rw [← hs], h0⟩
    · have hi' : i < len := by simpa using hi
      rw [hg i hi']
      exact (hf i hi').2.2
set_option maxRecDepth 100000 in
theorem open_mixed {b0 : Nat} {v : Value} {d : DataW H} {q : List MemPlace} (hv : Value.okWide Tryz.prog w .any b0 25 v) (h : DataW.Trod enc Tryz.prog w base spare held 25 v d q) (hw : ∀ n ∈ d.weights Tryz.prog 25, n ≤ reachBytes) :
    ∃ (m : Mx) (ab : Option Addr) (cb : Nat) (ac : Option Addr) (cc : Nat), v = m.v ab cb ac cc ∧ IsBxs w ab m.boxes ∧ IsTns w ac m.cards ∧ (m.boxes.length ≤ 12 → m.cards.length ≤ 20 → m.Fit) := by
  obtain ⟨cs, rfl, hsz⟩ := okWide_struct Tryz.underlying25 hv
  rw [Tryz.cells25] at hsz
  obtain ⟨fuel, hf⟩ := h
  obtain ⟨xs, n, _, hxx, hl, hx, hf⟩ := DataW.trod_struct Tryz.underlying25 hf
  have hx : xs.length = 2 := hx
  obtain ⟨l⟩ := cs
  have hsz : l.length = 2 := hsz
  match l, hsz, xs, hx with
  | [c0, c1], _, [x0, x1], _ =>
    have f0 : DataW.trod enc Tryz.prog w base spare held n 22 (([c0, c1].drop 0).take (Tryz.prog.cellsOf 22)) = some x0 := hf 0 _ rfl
    have f1 : DataW.trod enc Tryz.prog w base spare held n 23 (([c0, c1].drop 1).take (Tryz.prog.cellsOf 23)) = some x1 := hf 1 _ rfl
    rw [Tryz.cells22] at f0
    rw [Tryz.cells23] at f1
    have hd : d = .agg [x0.1, x1.1] := congrArg Prod.fst hxx
    have hw0 : ∀ n ∈ x0.1.weights Tryz.prog 22, n ≤ reachBytes := fun n hn => hw n (by
      rw [hd]
      simp only [DataW.weights, Tryz.underlying25]
      exact DataW.weights_mem_each (j := 0) (t := 22) rfl rfl n hn)
    obtain ⟨ab, bl, cb, h0, hB, hBF⟩ := open_bxs f0 hw0
    obtain ⟨ac, cl, cc, h1, hC, hCF⟩ := open_tns f1
    subst h0 h1
    exact ⟨⟨bl, cl⟩, ab, cb, ac, cc, rfl, hB, hC, fun hlb hlc => ⟨hlb, hlc, fun i hi => (hBF i hi).1, fun i hi => (hBF i hi).2, fun i hi => (hCF i hi).1, fun i hi => (hCF i hi).2⟩⟩
end
end Go.Proofs.YtbnhngfegnhaiaaGreatDoor
namespace Go.Proofs.YtbnhngfegnhaiaaGreatDoor
open Go.RowKit
set_option linter.unusedVariables false
set_option linter.unusedSimpArgs false
set_option maxRecDepth 100000 in
set_option maxHeartbeats 16000000 in
theorem ref4 {m : Mx} {ab ac : Option Addr} {cb cc : Nat} {w : World} (hm : m.Fit) (h1 : IsBxs w ab m.boxes) (h2 : IsTns w ac m.cards) :
    Calls Tryz.prog 4 #[m.v ab cb ac cc] w fun e w' => BoolB m.Ok w e w' := by
  have hab := alloc_below w (.cells (m.arr ab cb ac cc) 25)
  have HX := Lib.hid (And.intro (World.alloc_heap_new w (.cells (m.arr ab cb ac cc) 25)) (And.intro hab (And.intro (h1.mono hab) (h2.mono hab))))
  have HM := Lib.hid hm
  have hn1 : (m.boxes.length : Int) ≤ 12 := by have := hm.lb; omega
  clear hab hm h1 h2
  go_enter Tryz.func4, Tryz.ntmps4
  refine wp_seq_hid ?_
  intro K0 HK0
  go_wp2_with fail
  refine HK0.out _ _ ?_
  clear HK0 K0
  revert HX
  generalize w.alloc (.cells (m.arr ab cb ac cc) 25) = w1
  generalize hb1 : w.heap.size = b1
  intro HX
  have HE := Lib.hid hb1
  have HL : Hid (Below w.heap.size w w1) := by rw [Hid, hb1]; exact HX.out.2.1
  clear hb1
  refine wp_seq_hid ?_
  intro K1 HK1
  go_wp2_with fail
  refine HK1.out _ _ ?_
  clear HK1 K1
  refine wp_seq_hid ?_
  intro K2 HK2
  go_wp2_with fail
  go_loopw [3, 4] (fun n i wo => ∃ k : Nat, k ≤ m.boxes.length ∧ i = .int .i64 (k : Int) ∧ n = .int .i64 (manyB m.boxes k : Int) ∧ Hid (Below w1.heap.size w1 wo ∧ ∀ j, j < k → (gb m.boxes j).ok)) (fun _ i _ => m.boxes.length - (intOf i).toNat)
  case atStart => exact ⟨0, Nat.zero_le _, rfl, rfl, Below.refl _ _, fun j hj => by omega⟩
  case round =>
    obtain ⟨i, hi, rfl, rfl, HW⟩ := hrel
    rename World => wo
    have HBX := Lib.hid ((HW.out.1.block _ (heap_lt HX.out.1)).trans HX.out.1)
    have m0 : wo.cell? ⟨b1, 0, none⟩ = some (.slice ab m.boxes.length cb) := by rw [cell_of_heap HBX.out]; rfl
    have HMB : Hid (manyB m.boxes i ≤ i * 17592186044416) := many_le HM.out i hi
    by_cases hlt : i < m.boxes.length
    · obtain ⟨b, off, rfl, c0, t, ct, c1, hst⟩ := (HX.out.2.2.1.mono HW.out.1) i hlt
      have HST := Lib.hid (And.intro hst (And.intro c0 c1))
      have HBT := Lib.hid (And.intro (HM.out.bt i hlt) (HM.out.bs i hlt))
      have HNX : Hid (manyB m.boxes (i + 1) = manyB m.boxes i + (gb m.boxes i).titles.length) := rfl
      have HBK : Hid (∀ x : Bx, x = gb m.boxes i → x.ok → ∀ j, j < i + 1 → (gb m.boxes j).ok) := fun x hx hok j hj => by
        by_cases hjk : j = i
        · rw [hjk, ← hx]; exact hok
        · exact HW.out.2 j (by omega)
      clear hst c0 c1
      revert HST HBT HNX HBK
      generalize hx : gb m.boxes i = x
      generalize hn : manyB m.boxes (i + 1) = n1
      intro HST HBT HNX HBK
      have HXX := Lib.hid hx
      have HN1 := Lib.hid hn
      clear hx hn
      have hl44 : (x.titles.length : Int) ≤ 17592186044416 := by have := HBT.out.1; omega
      revert HNX HMB
      generalize hn0 : manyB m.boxes i = n0
      intro HMB HNX
      have hn0le : (n0 : Int) ≤ 211106232532992 := by have := HMB.out; omega
      clear hn0
      go_upto_region 5 with fail
      clear m0
      go_wp2_with fail
      go_loopw [5] (fun i wr => ∃ k : Nat, k ≤ x.titles.length ∧ i = .int .i64 (k : Int) ∧ Hid (Below wo.heap.size wo wr ∧ ∀ j, j < k → titleOk (gs x.titles j))) (fun i _ => x.titles.length - (intOf i).toNat)
      case atStart => exact ⟨0, Nat.zero_le _, rfl, Below.refl _ _, fun j hj => by omega⟩
      case round =>
        obtain ⟨k, hk, rfl, HV⟩ := hrel
        have HWB := Lib.hid (HW.out.1.trans (HV.out.1.mono HW.out.1.size))
        have m0 : wr.cell? ⟨b1, 0, none⟩ = some (.slice (some ⟨b, off, none⟩) m.boxes.length cb) := by rw [cell_of_heap ((HV.out.1.block _ (heap_lt HBX.out)).trans HBX.out)]; rfl
        have c1 := cell_stays HV.out.1 HST.out.2.2
        by_cases hkt : k < x.titles.length
        · obtain ⟨bt2, ot2, rfl, c2⟩ := (HST.out.1.mono HV.out.1) k hkt
          go_upto_region 8 with fail
          go_wp2_with fail
          refine (title15 (HBT.out.2 k hkt)).mono ?_
          rintro e w' ⟨⟨p1, rfl, hp1⟩, rfl⟩
          have HP1 := Lib.hid hp1
          clear hp1
          cases p1
          · go_wp2_with fail
            go_ret
            exact BoolB.no (HL.out.trans (HWB.out.mono HL.out.size))
          · clear m0 c1 c2
            go_wp2_with fail
            go_roundw
            case rel =>
              refine ⟨k + 1, by omega, by go_num, HV.out.1, fun j hj => ?_⟩
              by_cases hjk : j = k
              · rw [hjk]; exact HP1.out (by first | trivial | rfl)
              · exact HV.out.2 j (by omega)
            case measure => simp [intOf]; omega
        · obtain rfl : k = x.titles.length := by omega
          have c0 := cell_stays HV.out.1 HST.out.2.1
          go_wp2_with fail
          refine (in16 _ _ _ _).mono ?_
          rintro e w' ⟨rfl, rfl⟩
          cases hcol : inR x.colour 1 9
          · clear hcol
            go_wp2_with fail
            go_ret
            exact BoolB.no (HL.out.trans (HWB.out.mono HL.out.size))
          · have HCOL := Lib.hid hcol
            clear hcol
            go_wp2_with fail
            clear m0 c1 c0
            go_roundw
            case rel =>
              have hcc := HCOL.out
              simp only [inR, Bool.and_eq_true, decide_eq_true_eq] at hcc
              exact ⟨i + 1, by omega, by go_num, by rw [HN1.out, HNX.out]; simp, HWB.out, HBK.out x rfl ⟨hcc.1, hcc.2, HV.out.2⟩⟩
            case measure => simp [intOf]; omega
    · obtain rfl : i = m.boxes.length := by omega
      go_wp2_with fail
      refine HK2.out _ _ ?_
      exact ref13 HM.out (HL.out.trans (HW.out.1.mono HL.out.size)) HBX.out (HX.out.2.2.2.mono HW.out.1) HW.out.2
end Go.Proofs.YtbnhngfegnhaiaaGreatDoor
namespace Go.Proofs.YtbnhngfegnhaiaaGreatDoor
open Go.RowKit
set_option linter.unusedVariables false
set_option linter.unusedSimpArgs false
theorem num12 {n : Nat} (h : 1 ≤ n ∧ n ≤ 12) : n = 1 ∨ n = 2 ∨ n = 3 ∨ n = 4 ∨ n = 5 ∨ n = 6 ∨ n = 7 ∨ n = 8 ∨ n = 9 ∨ n = 10 ∨ n = 11 ∨ n = 12 := by omega
set_option maxRecDepth 100000 in
set_option maxHeartbeats 4000000 in
theorem small90 {n : Nat} (h : 1 ≤ n ∧ n ≤ 12) (w : World) : Calls Tryz.prog 90 #[.int .i64 (n : Int)] w fun e w' => e = .returned (.string (numT n)) ∧ w = w' := by
  rcases num12 h with rfl | rfl | rfl | rfl | rfl | rfl | rfl | rfl | rfl | rfl | rfl | rfl
  all_goals
    clear h
    go_enter Tryz.func90, Tryz.ntmps90
    go_wp2_with fail
    go_ret
    refine ⟨?_, rfl⟩
    first | rfl | decide +kernel
theorem fmt88 {n : Nat} (h : 1 ≤ n ∧ n ≤ 12) (w : World) : Calls Tryz.prog 88 #[.int .i64 (n : Int), .int .i64 10] w fun e w' => e = .returned (.string (numT n)) ∧ w = w' := by
  have HC := Lib.hid (small90 h w)
  have h1 : (0 : Int) ≤ n := by omega
  have h2 : (n : Int) < 100 := by omega
  clear h
  go_enter Tryz.func88, Tryz.ntmps88
  go_wp2_with fail
  refine HC.out.mono ?_
  rintro e w' ⟨rfl, rfl⟩
  go_wp2_with fail
  go_ret
  exact ⟨rfl, rfl⟩
theorem itoa74 {n : Nat} (h : 1 ≤ n ∧ n ≤ 12) (w : World) : Calls Tryz.prog 74 #[.int .i64 (n : Int)] w fun e w' => e = .returned (.string (numT n)) ∧ w = w' := by
  have HC := Lib.hid (fmt88 h w)
  clear h
  go_enter Tryz.func74, Tryz.ntmps74
  go_wp2_with fail
  refine HC.out.mono ?_
  rintro e w' ⟨rfl, rfl⟩
  go_wp2_with fail
  go_ret
  exact ⟨rfl, rfl⟩
theorem itoa55 {n : Nat} (h : 1 ≤ n ∧ n ≤ 12) (w : World) : Calls Tryz.prog 55 #[.int .i64 (n : Int)] w fun e w' => e = .returned (.string (numT n)) ∧ w = w' := by
  have HC := Lib.hid (itoa74 h w)
  clear h
  go_enter Tryz.func55, Tryz.ntmps55
  go_wp2_with fail
  refine HC.out.mono ?_
  rintro e w' ⟨rfl, rfl⟩
  go_wp2_with fail
  go_ret
  exact ⟨rfl, rfl⟩
theorem text1 {n : Nat} (h : n ≤ 9) (w : World) : Calls Tryz.prog 21 #[.int .i64 (n : Int)] w fun e w' => e = .returned (.string ⟨#[UInt8.ofNat (48 + n)]⟩) ∧ w = w' := by
  have : n = 0 ∨ n = 1 ∨ n = 2 ∨ n = 3 ∨ n = 4 ∨ n = 5 ∨ n = 6 ∨ n = 7 ∨ n = 8 ∨ n = 9 := by omega
  rcases this with rfl | rfl | rfl | rfl | rfl | rfl | rfl | rfl | rfl | rfl
  all_goals
    clear h
    go_enter Tryz.func21, Tryz.ntmps21
    go_wp2_with fail
    go_ret
    exact ⟨by first | rfl | decide +kernel, rfl⟩
theorem text21 {n : Nat} (h : n ≤ 99) (w : World) : Calls Tryz.prog 21 #[.int .i64 (n : Int)] w fun e w' => e = .returned (.string (numT n)) ∧ w = w' := by
  by_cases h9 : n ≤ 9
  · refine (text1 h9 w).mono ?_
    rintro e w' ⟨rfl, rfl⟩
    exact ⟨by unfold numT; rw [if_pos (by omega)], rfl⟩
  · have h1 : ¬ (n : Int) < 10 := by omega
    have HD : Hid (n / 10 ≤ 9) := by rw [Hid]; omega
    have HR : Hid (n % 10 ≤ 9) := by rw [Hid]; omega
    have e1 : (n : Int) / 10 = ((n / 10 : Nat) : Int) := by omega
    have e2 : (n : Int) % 10 = ((n % 10 : Nat) : Int) := by omega
    have HNT : Hid (numT n = ⟨#[UInt8.ofNat (48 + n / 10), UInt8.ofNat (48 + n % 10)]⟩) := by unfold numT; rw [if_neg (by omega)]; rfl
    have HC : Hid (Calls Tryz.prog 21 #[.int .i64 ((n : Int) / 10)] w fun e w' => e = .returned (.string ⟨#[UInt8.ofNat (48 + n / 10)]⟩) ∧ w = w') := by rw [e1]; exact text1 HD.out w
    have HC2 : Hid (Calls Tryz.prog 21 #[.int .i64 ((n : Int) % 10)] w fun e w' => e = .returned (.string ⟨#[UInt8.ofNat (48 + n % 10)]⟩) ∧ w = w') := by rw [e2]; exact text1 HR.out w
    clear e1 e2
    revert HC HC2 HNT
    generalize UInt8.ofNat (48 + n / 10) = x
    generalize UInt8.ofNat (48 + n % 10) = y
    intro HNT HC HC2
    go_enter Tryz.func21, Tryz.ntmps21
    go_wp2_with fail
    refine HC.out.mono ?_
    rintro e w' ⟨rfl, rfl⟩
    go_wp2_with fail
    refine HC2.out.mono ?_
    rintro e w' ⟨rfl, rfl⟩
    have hadd : ∀ w : World, (Op.stringOp .add (ByteArray.mk #[x]) (ByteArray.mk #[y])).run Tryz.prog w = .ok (.string ⟨#[x, y]⟩) w := fun w => by rfl
    go_wp2_with fail
    go_ret
    exact ⟨by rw [HNT.out]; rfl, rfl⟩
end Go.Proofs.YtbnhngfegnhaiaaGreatDoor
