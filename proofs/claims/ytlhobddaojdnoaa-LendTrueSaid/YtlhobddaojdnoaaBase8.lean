/- A region that draws its order, by an invariant over what has been done: a law over whatever program. -/
import Derived.Test.YtlhobddaojdnoaaBase6
import Derived.Maps.AppendAt
import Derived.OrdersIn
namespace Go.Proofs.Ytlhobddaojdnoaa
open Go.RowKit

/-- One thing more done. -/
def upd (d : Nat → Bool) (k : Nat) : Nat → Bool := fun j => if j = k then true else d j
theorem upd_same (d : Nat → Bool) (k : Nat) : upd d k k = true := by simp [upd]
theorem upd_ne (d : Nat → Bool) {k j : Nat} (h : j ≠ k) : upd d k j = d j := by simp [upd, h]
/-- Each operation keeps the invariant, whatever of the others has been done that need not wait for it. -/
def InvSteps (P : Program) (Q : Exit → Act → World → Prop) (Inv : (Nat → Bool) → Act → World → Prop) : Nat → List Oper → Prop
  | _, [] => True
  | k, o :: r => (∀ d a w K, d k = false → (∀ e ∈ o.after, Region.binds .any e = true → d e.on = true) → Inv d a w → Hid (∀ a' w', Inv (upd d k) a' w' → K a' w') → o.wp P a w K Q) ∧ InvSteps P Q Inv (k + 1) r
theorem InvSteps.get {P : Program} {Q : Exit → Act → World → Prop} {Inv : (Nat → Bool) → Act → World → Prop} : ∀ {l : List Oper} {k : Nat}, InvSteps P Q Inv k l → ∀ {i : Nat} {o : Oper}, l[i]? = some o →
    ∀ d a w, d (k + i) = false → (∀ e ∈ o.after, Region.binds .any e = true → d e.on = true) → Inv d a w → o.wp P a w (fun a' w' => Inv (fun j => if j = k + i then true else d j) a' w') Q
  | [], _, _, i, o, h => by simp at h
  | o' :: r, k, hs, 0, o, h => by
    simp only [List.getElem?_cons_zero, Option.some.injEq] at h
    subst h
    exact fun d a w h1 h2 h3 => hs.1 d a w _ h1 h2 h3 (fun _ _ h => h)
  | o' :: r, k, hs, i + 1, o, h => by
    rw [List.getElem?_cons_succ] at h
    have := InvSteps.get hs.2 h
    rw [show k + 1 + i = k + (i + 1) by omega] at this
    exact this
/-- No guard; each waits for earlier ones alone. -/
def plainB (l : List Oper) : Bool := (List.range l.length).all fun i => match l[i]? with
  | some o => o.guard.isNone && o.after.all fun e => decide (e.on < i)
  | none => true
theorem plainB_at {l : List Oper} (h : plainB l = true) {i : Nat} {o : Oper} (ho : l[i]? = some o) : o.guard = none ∧ ∀ e ∈ o.after, e.on < i := by
  have hi : i < l.length := (List.getElem?_eq_some_iff.1 ho).1
  have := (List.all_eq_true.1 h) i (List.mem_range.2 hi)
  rw [ho] at this
  simp only [Bool.and_eq_true, Array.all_eq_true_iff_forall_mem, decide_eq_true_eq] at this
  exact ⟨by simpa using this.1, this.2⟩
theorem wpAny_inv {P : Program} {l : List Oper} {Q : Exit → Act → World → Prop} {Inv : (Nat → Bool) → Act → World → Prop} (hp : plainB l = true) (hs : InvSteps P Q Inv 0 l)
    (hend : ∀ d a w, (∀ i, i < l.length → d i = true) → Inv d a w → Q .normal a w) :
    ∀ (f : Nat) (listed : Array Bool) (a : Act) (w : World), listed.size = l.length → (listed.toList.countP (fun b => !b)) = f → Inv (fun j => listed.getD j false) a w → wpAny P .any l.toArray Q f listed a w := by
  have first : ∀ listed : Array Bool, listed.size = l.length → Region.ready .any l.toArray listed = [] → ∀ i, i < l.length → listed.getD i false = true := by
    intro listed hz hr i
    induction i using Nat.strongRecOn with
    | ind i ih =>
      intro hi
      cases hb : listed.getD i false with
      | true => rfl
      | false =>
        exfalso
        have : i ∈ Region.ready .any l.toArray listed := by
          rw [mem_ready]
          have hlt : i < listed.size := by omega
          refine ⟨by simpa [hlt] using hb, l[i], by simp [hi], fun e he _ => ?_⟩
          have := (plainB_at hp (List.getElem?_eq_getElem hi)).2 e he
          exact ih e.on this (by omega)
        rw [hr] at this
        simp at this
  intro f
  induction f with
  | zero =>
    intro listed a w hz hc hI
    have hall : ∀ i, i < l.length → listed.getD i false = true := by
      intro i hi
      have hlt : i < listed.size := by omega
      have := List.countP_eq_zero.1 hc (listed[i]) (by simp)
      simpa [hlt] using this
    refine ⟨?_, hend _ a w hall hI⟩
    rw [List.eq_nil_iff_forall_not_mem]
    intro i hi
    obtain ⟨h1, o, ho, _⟩ := mem_ready.1 hi
    have hlt : i < listed.size := by
      have := (Array.getElem?_eq_some_iff.1 ho).1
      simpa [hz] using this
    have := hall i (by omega)
    simp [hlt] at h1 this
    rw [this] at h1
    cases h1
  | succ f ih =>
    intro listed a w hz hc hI
    refine ⟨fun hr => hend _ a w (first listed hz hr) hI, fun i hi => ?_⟩
    obtain ⟨h1, o, ho, hdep⟩ := mem_ready.1 hi
    have hil : i < l.length := by simpa using (Array.getElem?_eq_some_iff.1 ho).1
    have hlt : i < listed.size := by omega
    have ho' : l[i]? = some o := by simpa using ho
    have hb : listed.getD i false = false := by simpa [hlt] using h1
    have hw : Region.wanted o (yielded l.toArray a.tmps) = true := by simp [Region.wanted, (plainB_at hp ho').1]
    have := hs.get ho' (fun j => listed.getD j false) a w (by simpa using hb) hdep hI
    unfold wpOp
    simp only [ho, hw, if_true]
    refine .inl (Oper.wp_mono (fun a' w' hI' => ih _ a' w' (by simpa using hz) ?_ ?_) this)
    · have h2 : listed.toList = listed.toList.take i ++ false :: listed.toList.drop (i + 1) := by
        have e : listed[i] = false := by simpa [hlt] using hb
        have := List.drop_eq_getElem_cons (l := listed.toList) (i := i) (by simpa using hlt)
        simp only [Array.getElem_toList, e] at this
        rw [← this, List.take_append_drop]
      have h3 : (listed.setIfInBounds i true).toList = listed.toList.take i ++ true :: listed.toList.drop (i + 1) := by
        rw [Array.toList_setIfInBounds, List.set_eq_take_append_cons_drop, if_pos (by simpa using hlt)]
      rw [h2] at hc
      rw [h3]
      simp only [List.countP_append, List.countP_cons, Bool.not_false, if_true, Bool.not_true] at hc ⊢
      simp at hc ⊢
      omega
    · have e : (fun j => (listed.setIfInBounds i true).getD j false) = (fun j => if j = 0 + i then true else listed.getD j false) := by
        funext j
        rw [Nat.zero_add]
        by_cases hj : j = i
        · subst hj; simp [hlt]
        · rw [if_neg hj, getD_set_ne false (fun e => hj e.symm)]
      rw [e]
      exact hI'
/-- A region that draws: by an invariant. -/
theorem wp_region_inv {P : Program} {id : Nat} {l : List Oper} {Q : Exit → Act → World → Prop} {a : Act} {w : World} (hm : P.follows .mixedOrders = true) (hp : plainB l = true)
    (Inv : (Nat → Bool) → Act → World → Prop) (h0 : Inv (fun _ => false) a w.drew) (hs : InvSteps P Q Inv 0 l)
    (hend : ∀ d a w, (∀ i, i < l.length → d i = true) → Inv d a w → Q .normal a w) : (Code.region id l.toArray true).wp P Q a w := by
  refine wp_region_any hm (wpAny_inv hp hs hend _ _ _ _ (by simp) (by simp [List.countP_replicate]) ?_)
  have e : (fun j => (Array.replicate l.toArray.size false).getD j false) = fun _ => false := by
    funext j
    by_cases hj : j < l.length <;> simp [hj]
  rw [e]
  exact h0

/-- append to one's own, and where the new slice lies. -/
theorem append_rows_at {P : Program} {w : World} (base : Nat) (t ty e : TypeId) (i : TypeInfo) (z : Value) (size bytes : Nat) (ht : P.underlying t = some (.slice e)) (hi : P.info? e = some i) (hz : i.zero = some z)
    (hsize : i.size = size) (hby : i.bytes = bytes) (hzs : z.cells.size = size) (hsz : 0 < size)
    (v : Value) (n : Nat) (xs : List Value) (hown : w.ownsRow base e size v n xs)
    (a : Option Addr) (m c : Nat) (news : List Value) (hl : news.length = m * size) (hnews : m ≠ 0 → ∃ ad, a = some ad ∧ ∀ j u, news[j]? = some u → w.cell? (ad.add j) = some u) (h1 : ∀ u ∈ news, u.oneCell' = true)
    (h63 : n + m ≤ maxLen) (hbytes : (n + m) * bytes ≤ 140737488355328) (hbase : base ≤ w.heap.size) :
    ∃ v' w', (Builtin.append_ #[t, t] ty #[v, .slice a m c]).run P w = .ok v' w' ∧ w'.ownsRow base e size v' (n + m) (xs ++ news) ∧ w.grownBy w' v.ownBlock ∧ (v'.ownBlock = v.ownBlock ∨ v'.ownBlock = some w.heap.size) := by
  cases a with
  | none =>
    by_cases hm : m = 0
    · subst hm
      have hn : news = [] := List.eq_nil_of_length_eq_zero (by simpa using hl)
      subst hn
      refine ⟨v, w, append_none base t ty e i size c ht hi v n xs hown, by simpa using hown, ⟨rfl, rfl, rfl, Nat.le_refl _, fun _ _ _ => rfl⟩, .inl rfl⟩
    · obtain ⟨ad, h, _⟩ := hnews hm
      cases h
  | some ad =>
    have hn' : ∀ j u, news[j]? = some u → w.cell? (ad.add j) = some u := by
      by_cases hm : m = 0
      · subst hm
        have hn : news = [] := List.eq_nil_of_length_eq_zero (by simpa using hl)
        subst hn
        intro j u h; simp at h
      · obtain ⟨ad', h, h2⟩ := hnews hm
        cases h
        exact h2
    obtain ⟨v', w', h2, h3, h4, h5, h6⟩ := run_append_own_at (P := P) (w := w) base t ty e i z size bytes ht hi hz hsize hby hzs hsz v n xs hown ad m c news hl hn' h1 h63 hbytes hbase
    exact ⟨v', w', h2, h3, h4, h6⟩
end Go.Proofs.Ytlhobddaojdnoaa
