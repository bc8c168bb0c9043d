/- append of whatever slice to a slice of the call's own: laws over whatever program. A region that draws its order, by an invariant over what has been done: a law over whatever program. A region that draws its order, some of whose edges the model's own order does not bind: a law over whatever program. append of one element to one's own, and what the elder slice holds behind it: a law over whatever program. -/
import Derived.WalkKit
import Derived.Laws.AppendOwn
import Derived.Laws.OwnMore
import Derived.Maps.AppendAt
import Derived.OrdersIn
namespace Go.Proofs.Ytnfhlbmapfoifaa
open Go.RowKit

theorem wpList_append_run {P : Program} {w : World} {ops : Array Oper} {rest : List Oper} {o : Oper} {a : Act} {Q : Exit → Act → World → Prop} (hgd : o.guard = none) (s x : Operand) (t : TypeId)
    (ho : o.op = .call { callee := .builtin .append, args := #[s, x], argTypes := #[t, t] }) (v xv v' : Value) (w' : World) (hs : a.eval s = v) (hx : a.eval x = xv)
    (hr : (Builtin.append_ #[t, t] o.type #[v, xv]).run P w = .ok v' w') (h : wpList P ops Q rest (a.put o.dst v') w') : wpList P ops Q (o :: rest) a w := by
  refine wpList_plain hgd fun K hK => ?_
  unfold Oper.wp execOp
  simp only [ho, resolve, invoke, builtin, Sem.run_bind, Sem.run_pure, Result.andThen_ok, List.map_toArray, List.map_cons, List.map_nil, hs, hx, hr]
  exact hK _ _ h

theorem append_none {P : Program} {w : World} (base : Nat) (t ty e : TypeId) (i : TypeInfo) (size c : Nat) (ht : P.underlying t = some (.slice e)) (hi : P.info? e = some i)
    (v : Value) (n : Nat) (xs : List Value) (hown : w.ownsRow base e size v n xs) :
    (Builtin.append_ #[t, t] ty #[v, .slice none 0 c]).run P w = .ok v w := by
  rcases hown.2 with ⟨rfl, rfl⟩ | ⟨g, cap, cur, rfl, _, _, hnc, _⟩
  · simp [Builtin.append_, run_underlying ht, sizeOf, typeInfo, hi, Builtin.lenOf, Builtin.firstCells]
  · simp [Builtin.append_, run_underlying ht, sizeOf, typeInfo, hi, Builtin.lenOf, Builtin.firstCells, hnc, storeCells]

/-- append(own, whatever...). -/
theorem append_rows {P : Program} {w : World} (base : Nat) (t ty e : TypeId) (i : TypeInfo) (z : Value) (size bytes : Nat) (ht : P.underlying t = some (.slice e)) (hi : P.info? e = some i) (hz : i.zero = some z)
    (hsize : i.size = size) (hby : i.bytes = bytes) (hzs : z.cells.size = size) (hsz : 0 < size)
    (v : Value) (n : Nat) (xs : List Value) (hown : w.ownsRow base e size v n xs)
    (a : Option Addr) (m c : Nat) (news : List Value) (hl : news.length = m * size) (hnews : m ≠ 0 → ∃ ad, a = some ad ∧ ∀ j u, news[j]? = some u → w.cell? (ad.add j) = some u) (h1 : ∀ u ∈ news, u.oneCell' = true)
    (h63 : n + m ≤ maxLen) (hbytes : (n + m) * bytes ≤ 140737488355328) (hbase : base ≤ w.heap.size) :
    ∃ v' w', (Builtin.append_ #[t, t] ty #[v, .slice a m c]).run P w = .ok v' w' ∧ w'.ownsRow base e size v' (n + m) (xs ++ news) ∧ w.grownBy w' v.ownBlock := by
  cases a with
  | none =>
    by_cases hm : m = 0
    · subst hm
      have hn : news = [] := List.eq_nil_of_length_eq_zero (by simpa using hl)
      subst hn
      refine ⟨v, w, append_none base t ty e i size c ht hi v n xs hown, by simpa using hown, ⟨rfl, rfl, rfl, Nat.le_refl _, fun _ _ _ => rfl⟩⟩
    · obtain ⟨ad, h, _⟩ := hnews hm
      cases h
  | some ad =>
    have hn' : ∀ j u, news[j]? = some u → w.cell? (ad.add j) = some u := by
      by_cases hm : m = 0
      · subst hm
        have hn : news = [] := List.eq_nil_of_length_eq_zero (by simpa using hl)
        subst hn
        intro j u h; simp at h
      · obtain ⟨ad', h, h2⟩ := hnews hm
        cases h
        exact h2
    obtain ⟨v', w', h2, h3, h4, _⟩ := run_append_own (P := P) (w := w) base t ty e i z size bytes ht hi hz hsize hby hzs hsz v n xs hown ad m c news hl hn' h1 h63 hbytes hbase
    exact ⟨v', w', h2, h3, h4⟩

/-- What a slice of the call's own holds, cell by cell. -/
theorem own_cell {w : World} {base : Nat} {e : TypeId} {size : Nat} {v : Value} {n : Nat} {xs : List Value} (h : w.ownsRow base e size v n xs) (hn : 0 < n) :
    ∃ g cap, v = .slice (some ⟨g, 0, none⟩) n cap ∧ base ≤ g ∧ g < w.heap.size ∧ n ≤ cap ∧ cap ≤ maxLen ∧ ∀ j u, xs[j]? = some u → w.cell? ⟨g, j, none⟩ = some u := by
  rcases h.2 with ⟨_, h0⟩ | ⟨g, cap, cur, rfl, h1, h2, h3, h4, _⟩
  · omega
  · refine ⟨g, cap, rfl, h1, (Array.getElem?_eq_some_iff.1 h2).1, h3, h4, fun j u hj => ?_⟩
    have := h.cells (g := g) rfl j u hj
    have e : ((⟨g, 0, none⟩ : Addr).add j) = ⟨g, j, none⟩ := by unfold Addr.add; split <;> simp_all
    rwa [e] at this
/-- A slice of the call's own, whatever it is, is a slice. -/
theorem own_slice {w : World} {base : Nat} {e : TypeId} {size : Nat} {v : Value} {n : Nat} {xs : List Value} (h : w.ownsRow base e size v n xs) : ∃ a cap, v = .slice a n cap ∧ n ≤ cap ∧ cap ≤ maxLen := by
  rcases h.2 with ⟨rfl, rfl⟩ | ⟨g, cap, cur, rfl, h1, h2, h3, h4, _⟩
  · exact ⟨_, _, rfl, by simp, by simp [maxLen]⟩
  · exact ⟨_, _, rfl, h3, h4⟩
theorem grown_below {w w' : World} {v : Value} {base : Nat} {e : TypeId} {size n : Nat} {xs : List Value} {W : World} (hb : Below base W w) (h : w.ownsRow base e size v n xs) (hg : w.grownBy w' v.ownBlock) (hs : base ≤ w.heap.size) : Below base W w' := by
  refine hb.grown hg hs (fun k hk => ?_)
  exact (h.lt k hk).1
theorem own_below {w w' : World} {v : Value} {base : Nat} {e : TypeId} {size n : Nat} {xs : List Value} (h : w.ownsRow base e size v n xs) (hb : Below w.heap.size w w') : w'.ownsRow base e size v n xs := by
  have hg : w.grownBy w' none := ⟨hb.os, hb.tape, hb.output, hb.size, fun k hk _ => hb.block k hk⟩
  refine h.kept hg ?_
  cases v.ownBlock with
  | none => exact .inl rfl
  | some k => exact .inr (by simp)
/-- One element more: the walk's own way (the element was laid in a new block). -/
theorem append_one {P : Program} {w : World} (base : Nat) (t ty e : TypeId) (i : TypeInfo) (z : Value) (bytes : Nat) (ht : P.underlying t = some (.slice e)) (hi : P.info? e = some i) (hz : i.zero = some z)
    (hsize : i.size = 1) (hby : i.bytes = bytes) (hzs : z.cells.size = 1) (v : Value) (n : Nat) (xs : List Value) (hown : w.ownsRow base e 1 v n xs) (x : Value) (hx : x.oneCell' = true)
    (h63 : n + 1 ≤ maxLen) (hbytes : (n + 1) * bytes ≤ 140737488355328) (hbase : base ≤ w.heap.size) :
    ∃ v' w', (Builtin.append_ #[t, t] ty #[v, .slice (some ⟨w.heap.size, 0, none⟩) 1 1]).run P (w.alloc (.cells #[x] e)) = .ok v' w' ∧ w'.ownsRow base e 1 v' (n + 1) (xs ++ [x]) ∧ (w.alloc (.cells #[x] e)).grownBy w' v.ownBlock := by
  refine append_rows base t ty e i z 1 bytes ht hi hz hsize hby hzs (by decide) v n xs (hown.alloc _) _ 1 1 [x] rfl (fun _ => ⟨_, rfl, fun j u hj => ?_⟩) (by simpa using hx) h63 hbytes (by simp; omega)
  cases j with
  | zero =>
    simp only [List.getElem?_cons_zero, Option.some.injEq] at hj
    subst hj
    show (w.alloc (.cells #[x] e)).cell? ⟨w.heap.size, 0, none⟩ = some x
    have := heap_alloc_new w (.cells #[x] e)
    simp only [World.cell?, this]; rfl
  | succ j => simp at hj
end Go.Proofs.Ytnfhlbmapfoifaa

namespace Go.Proofs.Ytnfhlbmapfoifaa
open Go.RowKit

/-- One thing more done. -/
def upd (d : Nat → Bool) (k : Nat) : Nat → Bool := fun j => if j = k then true else d j
theorem upd_same (d : Nat → Bool) (k : Nat) : upd d k k = true := by simp [upd]
theorem upd_ne (d : Nat → Bool) {k j : Nat} (h : j ≠ k) : upd d k j = d j := by simp [upd, h]
/-- Each operation keeps the invariant, whatever of the others has been done that need not wait for it. -/
def InvSteps (P : Program) (Q : Exit → Act → World → Prop) (Inv : (Nat → Bool) → Act → World → Prop) : Nat → List Oper → Prop
  | _, [] => True
  | k, o :: r => (∀ d a w K, d k = false → (∀ e ∈ o.after, Region.binds .any e = true → d e.on = true) → Inv d a w → Hid (∀ a' w', Inv (upd d k) a' w' → K a' w') → o.wp P a w K Q) ∧ InvSteps P Q Inv (k + 1) r
theorem InvSteps.get {P : Program} {Q : Exit → Act → World → Prop} {Inv : (Nat → Bool) → Act → World → Prop} : ∀ {l : List Oper} {k : Nat}, InvSteps P Q Inv k l → ∀ {i : Nat} {o : Oper}, l[i]? = some o →
    ∀ d a w, d (k + i) = false → (∀ e ∈ o.after, Region.binds .any e = true → d e.on = true) → Inv d a w → o.wp P a w (fun a' w' => Inv (fun j => if j = k + i then true else d j) a' w') Q
  | [], _, _, i, o, h => by simp at h
  | o' :: r, k, hs, 0, o, h => by
    simp only [List.getElem?_cons_zero, Option.some.injEq] at h
    subst h
    exact fun d a w h1 h2 h3 => hs.1 d a w _ h1 h2 h3 (fun _ _ h => h)
  | o' :: r, k, hs, i + 1, o, h => by
    rw [List.getElem?_cons_succ] at h
    have := InvSteps.get hs.2 h
    rw [show k + 1 + i = k + (i + 1) by omega] at this
    exact this
/-- No guard; each waits for earlier ones alone. -/
def plainB (l : List Oper) : Bool := (List.range l.length).all fun i => match l[i]? with
  | some o => o.guard.isNone && o.after.all fun e => decide (e.on < i)
  | none => true
theorem plainB_at {l : List Oper} (h : plainB l = true) {i : Nat} {o : Oper} (ho : l[i]? = some o) : o.guard = none ∧ ∀ e ∈ o.after, e.on < i := by
  have hi : i < l.length := (List.getElem?_eq_some_iff.1 ho).1
  have := (List.all_eq_true.1 h) i (List.mem_range.2 hi)
  rw [ho] at this
  simp only [Bool.and_eq_true, Array.all_eq_true_iff_forall_mem, decide_eq_true_eq] at this
  exact ⟨by simpa using this.1, this.2⟩
theorem wpAny_inv {P : Program} {l : List Oper} {Q : Exit → Act → World → Prop} {Inv : (Nat → Bool) → Act → World → Prop} (hp : plainB l = true) (hs : InvSteps P Q Inv 0 l)
    (hend : ∀ d a w, (∀ i, i < l.length → d i = true) → Inv d a w → Q .normal a w) :
    ∀ (f : Nat) (listed : Array Bool) (a : Act) (w : World), listed.size = l.length → (listed.toList.countP (fun b => !b)) = f → Inv (fun j => listed.getD j false) a w → wpAny P .any l.toArray Q f listed a w := by
  have first : ∀ listed : Array Bool, listed.size = l.length → Region.ready .any l.toArray listed = [] → ∀ i, i < l.length → listed.getD i false = true := by
    intro listed hz hr i
    induction i using Nat.strongRecOn with
    | ind i ih =>
      intro hi
      cases hb : listed.getD i false with
      | true => rfl
      | false =>
        exfalso
        have : i ∈ Region.ready .any l.toArray listed := by
          rw [mem_ready]
          have hlt : i < listed.size := by omega
          refine ⟨by simpa [hlt] using hb, l[i], by simp [hi], fun e he _ => ?_⟩
          have := (plainB_at hp (List.getElem?_eq_getElem hi)).2 e he
          exact ih e.on this (by omega)
        rw [hr] at this
        simp at this
  intro f
  induction f with
  | zero =>
    intro listed a w hz hc hI
    have hall : ∀ i, i < l.length → listed.getD i false = true := by
      intro i hi
      have hlt : i < listed.size := by omega
      have := List.countP_eq_zero.1 hc (listed[i]) (by simp)
      simpa [hlt] using this
    refine ⟨?_, hend _ a w hall hI⟩
    rw [List.eq_nil_iff_forall_not_mem]
    intro i hi
    obtain ⟨h1, o, ho, _⟩ := mem_ready.1 hi
    have hlt : i < listed.size := by
      have := (Array.getElem?_eq_some_iff.1 ho).1
      simpa [hz] using this
    have := hall i (by omega)
    simp [hlt] at h1 this
    rw [this] at h1
    cases h1
  | succ f ih =>
    intro listed a w hz hc hI
    refine ⟨fun hr => hend _ a w (first listed hz hr) hI, fun i hi => ?_⟩
    obtain ⟨h1, o, ho, hdep⟩ := mem_ready.1 hi
    have hil : i < l.length := by simpa using (Array.getElem?_eq_some_iff.1 ho).1
    have hlt : i < listed.size := by omega
    have ho' : l[i]? = some o := by simpa using ho
    have hb : listed.getD i false = false := by simpa [hlt] using h1
    have hw : Region.wanted o (yielded l.toArray a.tmps) = true := by simp [Region.wanted, (plainB_at hp ho').1]
    have := hs.get ho' (fun j => listed.getD j false) a w (by simpa using hb) hdep hI
    unfold wpOp
    simp only [ho, hw, if_true]
    refine .inl (Oper.wp_mono (fun a' w' hI' => ih _ a' w' (by simpa using hz) ?_ ?_) this)
    · have h2 : listed.toList = listed.toList.take i ++ false :: listed.toList.drop (i + 1) := by
        have e : listed[i] = false := by simpa [hlt] using hb
        have := List.drop_eq_getElem_cons (l := listed.toList) (i := i) (by simpa using hlt)
        simp only [Array.getElem_toList, e] at this
        rw [← this, List.take_append_drop]
      have h3 : (listed.setIfInBounds i true).toList = listed.toList.take i ++ true :: listed.toList.drop (i + 1) := by
        rw [Array.toList_setIfInBounds, List.set_eq_take_append_cons_drop, if_pos (by simpa using hlt)]
      rw [h2] at hc
      rw [h3]
      simp only [List.countP_append, List.countP_cons, Bool.not_false, if_true, Bool.not_true] at hc ⊢
      simp at hc ⊢
      omega
    · have e : (fun j => (listed.setIfInBounds i true).getD j false) = (fun j => if j = 0 + i then true else listed.getD j false) := by
        funext j
        rw [Nat.zero_add]
        by_cases hj : j = i
        · subst hj; simp [hlt]
        · rw [if_neg hj, getD_set_ne false (fun e => hj e.symm)]
      rw [e]
      exact hI'
/-- A region that draws: by an invariant. -/
theorem wp_region_inv {P : Program} {id : Nat} {l : List Oper} {Q : Exit → Act → World → Prop} {a : Act} {w : World} (hm : P.follows .mixedOrders = true) (hp : plainB l = true)
    (Inv : (Nat → Bool) → Act → World → Prop) (h0 : Inv (fun _ => false) a w.drew) (hs : InvSteps P Q Inv 0 l)
    (hend : ∀ d a w, (∀ i, i < l.length → d i = true) → Inv d a w → Q .normal a w) : (Code.region id l.toArray true).wp P Q a w := by
  refine wp_region_any hm (wpAny_inv hp hs hend _ _ _ _ (by simp) (by simp [List.countP_replicate]) ?_)
  have e : (fun j => (Array.replicate l.toArray.size false).getD j false) = fun _ => false := by
    funext j
    by_cases hj : j < l.length <;> simp [hj]
  rw [e]
  exact h0

/-- append to one's own, and where the new slice lies. -/
theorem append_rows_at {P : Program} {w : World} (base : Nat) (t ty e : TypeId) (i : TypeInfo) (z : Value) (size bytes : Nat) (ht : P.underlying t = some (.slice e)) (hi : P.info? e = some i) (hz : i.zero = some z)
    (hsize : i.size = size) (hby : i.bytes = bytes) (hzs : z.cells.size = size) (hsz : 0 < size)
    (v : Value) (n : Nat) (xs : List Value) (hown : w.ownsRow base e size v n xs)
    (a : Option Addr) (m c : Nat) (news : List Value) (hl : news.length = m * size) (hnews : m ≠ 0 → ∃ ad, a = some ad ∧ ∀ j u, news[j]? = some u → w.cell? (ad.add j) = some u) (h1 : ∀ u ∈ news, u.oneCell' = true)
    (h63 : n + m ≤ maxLen) (hbytes : (n + m) * bytes ≤ 140737488355328) (hbase : base ≤ w.heap.size) :
    ∃ v' w', (Builtin.append_ #[t, t] ty #[v, .slice a m c]).run P w = .ok v' w' ∧ w'.ownsRow base e size v' (n + m) (xs ++ news) ∧ w.grownBy w' v.ownBlock ∧ (v'.ownBlock = v.ownBlock ∨ v'.ownBlock = some w.heap.size) := by
  cases a with
  | none =>
    by_cases hm : m = 0
    · subst hm
      have hn : news = [] := List.eq_nil_of_length_eq_zero (by simpa using hl)
      subst hn
      refine ⟨v, w, append_none base t ty e i size c ht hi v n xs hown, by simpa using hown, ⟨rfl, rfl, rfl, Nat.le_refl _, fun _ _ _ => rfl⟩, .inl rfl⟩
    · obtain ⟨ad, h, _⟩ := hnews hm
      cases h
  | some ad =>
    have hn' : ∀ j u, news[j]? = some u → w.cell? (ad.add j) = some u := by
      by_cases hm : m = 0
      · subst hm
        have hn : news = [] := List.eq_nil_of_length_eq_zero (by simpa using hl)
        subst hn
        intro j u h; simp at h
      · obtain ⟨ad', h, h2⟩ := hnews hm
        cases h
        exact h2
    obtain ⟨v', w', h2, h3, h4, h5, h6⟩ := run_append_own_at (P := P) (w := w) base t ty e i z size bytes ht hi hz hsize hby hzs hsz v n xs hown ad m c news hl hn' h1 h63 hbytes hbase
    exact ⟨v', w', h2, h3, h4, h6⟩
end Go.Proofs.Ytnfhlbmapfoifaa

namespace Go.Proofs.Ytnfhlbmapfoifaa
open Go.RowKit
set_option linter.unusedVariables false

/-- No guard; each waits for earlier ones alone. -/
def plainB' (l : List Oper) : Bool := (List.range l.length).all fun i => match l[i]? with
  | some o => o.guard.isNone && o.after.all fun e => decide (e.on < i) || !Region.binds .any e
  | none => true
theorem plainB_at' {l : List Oper} (h : plainB' l = true) {i : Nat} {o : Oper} (ho : l[i]? = some o) : o.guard = none ∧ ∀ e ∈ o.after, Region.binds .any e = true → e.on < i := by
  have hi : i < l.length := (List.getElem?_eq_some_iff.1 ho).1
  have := (List.all_eq_true.1 h) i (List.mem_range.2 hi)
  rw [ho] at this
  simp only [Bool.and_eq_true, Array.all_eq_true_iff_forall_mem, decide_eq_true_eq, Bool.or_eq_true] at this
  exact ⟨by simpa using this.1, fun e he hb => by
    rcases this.2 e he with h | h
    · exact h
    · rw [hb] at h; cases h⟩
theorem wpAny_inv' {P : Program} {l : List Oper} {Q : Exit → Act → World → Prop} {Inv : (Nat → Bool) → Act → World → Prop} (hp : plainB' l = true) (hs : InvSteps P Q Inv 0 l)
    (hend : ∀ d a w, (∀ i, i < l.length → d i = true) → Inv d a w → Q .normal a w) :
    ∀ (f : Nat) (listed : Array Bool) (a : Act) (w : World), listed.size = l.length → (listed.toList.countP (fun b => !b)) = f → Inv (fun j => listed.getD j false) a w → wpAny P .any l.toArray Q f listed a w := by
  have first : ∀ listed : Array Bool, listed.size = l.length → Region.ready .any l.toArray listed = [] → ∀ i, i < l.length → listed.getD i false = true := by
    intro listed hz hr i
    induction i using Nat.strongRecOn with
    | ind i ih =>
      intro hi
      cases hb : listed.getD i false with
      | true => rfl
      | false =>
        exfalso
        have : i ∈ Region.ready .any l.toArray listed := by
          rw [mem_ready]
          have hlt : i < listed.size := by omega
          refine ⟨by simpa [hlt] using hb, l[i], by simp [hi], fun e he hbd => ?_⟩
          have := (plainB_at' hp (List.getElem?_eq_getElem hi)).2 e he hbd
          exact ih e.on this (by omega)
        rw [hr] at this
        simp at this
  intro f
  induction f with
  | zero =>
    intro listed a w hz hc hI
    have hall : ∀ i, i < l.length → listed.getD i false = true := by
      intro i hi
      have hlt : i < listed.size := by omega
      have := List.countP_eq_zero.1 hc (listed[i]) (by simp)
      simpa [hlt] using this
    refine ⟨?_, hend _ a w hall hI⟩
    rw [List.eq_nil_iff_forall_not_mem]
    intro i hi
    obtain ⟨h1, o, ho, _⟩ := mem_ready.1 hi
    have hlt : i < listed.size := by
      have := (Array.getElem?_eq_some_iff.1 ho).1
      simpa [hz] using this
    have := hall i (by omega)
    simp [hlt] at h1 this
    rw [this] at h1
    cases h1
  | succ f ih =>
    intro listed a w hz hc hI
    refine ⟨fun hr => hend _ a w (first listed hz hr) hI, fun i hi => ?_⟩
    obtain ⟨h1, o, ho, hdep⟩ := mem_ready.1 hi
    have hil : i < l.length := by simpa using (Array.getElem?_eq_some_iff.1 ho).1
    have hlt : i < listed.size := by omega
    have ho' : l[i]? = some o := by simpa using ho
    have hb : listed.getD i false = false := by simpa [hlt] using h1
    have hw : Region.wanted o (yielded l.toArray a.tmps) = true := by simp [Region.wanted, (plainB_at' hp ho').1]
    have := hs.get ho' (fun j => listed.getD j false) a w (by simpa using hb) hdep hI
    unfold wpOp
    simp only [ho, hw, if_true]
    refine .inl (Oper.wp_mono (fun a' w' hI' => ih _ a' w' (by simpa using hz) ?_ ?_) this)
    · have h2 : listed.toList = listed.toList.take i ++ false :: listed.toList.drop (i + 1) := by
        have e : listed[i] = false := by simpa [hlt] using hb
        have := List.drop_eq_getElem_cons (l := listed.toList) (i := i) (by simpa using hlt)
        simp only [Array.getElem_toList, e] at this
        rw [← this, List.take_append_drop]
      have h3 : (listed.setIfInBounds i true).toList = listed.toList.take i ++ true :: listed.toList.drop (i + 1) := by
        rw [Array.toList_setIfInBounds, List.set_eq_take_append_cons_drop, if_pos (by simpa using hlt)]
      rw [h2] at hc
      rw [h3]
      simp only [List.countP_append, List.countP_cons, Bool.not_false, if_true, Bool.not_true] at hc ⊢
      simp at hc ⊢
      omega
    · have e : (fun j => (listed.setIfInBounds i true).getD j false) = (fun j => if j = 0 + i then true else listed.getD j false) := by
        funext j
        rw [Nat.zero_add]
        by_cases hj : j = i
        · subst hj; simp [hlt]
        · rw [if_neg hj, getD_set_ne false (fun e => hj e.symm)]
      rw [e]
      exact hI'
/-- A region that draws: by an invariant. -/
theorem wp_region_inv' {P : Program} {id : Nat} {l : List Oper} {Q : Exit → Act → World → Prop} {a : Act} {w : World} (hm : P.follows .mixedOrders = true) (hp : plainB' l = true)
    (Inv : (Nat → Bool) → Act → World → Prop) (h0 : Inv (fun _ => false) a w.drew) (hs : InvSteps P Q Inv 0 l)
    (hend : ∀ d a w, (∀ i, i < l.length → d i = true) → Inv d a w → Q .normal a w) : (Code.region id l.toArray true).wp P Q a w := by
  refine wp_region_any hm (wpAny_inv' hp hs hend _ _ _ _ (by simp) (by simp [List.countP_replicate]) ?_)
  have e : (fun j => (Array.replicate l.toArray.size false).getD j false) = fun _ => false := by
    funext j
    by_cases hj : j < l.length <;> simp [hj]
  rw [e]
  exact h0
end Go.Proofs.Ytnfhlbmapfoifaa

namespace Go.Proofs.Ytnfhlbmapfoifaa
open Go.RowKit
set_option linter.unusedVariables false

/-- The first cells of a block are kept. -/
def KeptTo (e : TypeId) (k : Nat) (w w' : World) (b : Nat) : Prop := ∀ cur, w.heap[b]? = some (.cells cur e (0, 0)) → ∃ cur', w'.heap[b]? = some (.cells cur' e (0, 0)) ∧ cur'.size = cur.size ∧ cur'.toList.take k = cur.toList.take k
theorem KeptTo.of_eq {e : TypeId} {k : Nat} {w w' : World} {b : Nat} (h : w'.heap[b]? = w.heap[b]?) : KeptTo e k w w' b := fun cur hc => ⟨cur, h.trans hc, rfl, rfl⟩
theorem KeptTo.trans {e : TypeId} {k : Nat} {w w' w'' : World} {b : Nat} (h : KeptTo e k w w' b) (h' : KeptTo e k w' w'' b) : KeptTo e k w w'' b := fun cur hc => by
  obtain ⟨c1, h1, h2, h3⟩ := h cur hc
  obtain ⟨c2, h4, h5, h6⟩ := h' c1 h1
  exact ⟨c2, h4, h5.trans h2, h6.trans h3⟩
theorem KeptTo.mono {e : TypeId} {k j : Nat} {w w' : World} {b : Nat} (h : KeptTo e k w w' b) (hj : j ≤ k) : KeptTo e j w w' b := fun cur hc => by
  obtain ⟨c1, h1, h2, h3⟩ := h cur hc
  refine ⟨c1, h1, h2, ?_⟩
  have := congrArg (fun l => l.take j) h3
  simpa [List.take_take, Nat.min_eq_left hj] using this
theorem own_keptTo {w w' : World} {base : Nat} {e : TypeId} {v : Value} {n : Nat} {xs : List Value} (h : w.ownsRow base e 1 v n xs) (hk : ∀ g, v.ownBlock = some g → KeptTo e n w w' g) : w'.ownsRow base e 1 v n xs := by
  obtain ⟨h1, h2⟩ := h
  refine ⟨h1, ?_⟩
  rcases h2 with h2 | ⟨g, cap, cur, rfl, hg, hh, h3, h4, h5, h6⟩
  · exact .inl h2
  · obtain ⟨c', k1, k2, k3⟩ := hk g rfl cur hh
    rw [Nat.mul_one] at h6
    exact .inr ⟨g, cap, c', rfl, hg, k1, h3, h4, by rw [k2]; exact h5, by rw [Nat.mul_one, k3]; exact h6⟩
theorem append_keep {P : Program} {w : World} (base : Nat) (t ty e : TypeId) (i : TypeInfo) (z : Value) (bytes : Nat) (ht : P.underlying t = some (.slice e)) (hi : P.info? e = some i) (hz : i.zero = some z)
    (hsize : i.size = 1) (hby : i.bytes = bytes) (hzs : z.cells.size = 1) (v : Value) (n : Nat) (xs : List Value) (hown : w.ownsRow base e 1 v n xs) (ad : Addr) (x : Value) (hx : w.cell? ad = some x) (h1 : x.oneCell' = true)
    (h63 : n + 1 ≤ maxLen) (hbytes : (n + 1) * bytes ≤ 140737488355328) (hbase : base ≤ w.heap.size) :
    ∃ v' w', (Builtin.append_ #[t, t] ty #[v, .slice (some ad) 1 1]).run P w = .ok v' w' ∧ w'.ownsRow base e 1 v' (n + 1) (xs ++ [x]) ∧ w.grownBy w' v.ownBlock ∧ (v'.ownBlock = v.ownBlock ∨ v'.ownBlock = some w.heap.size) ∧ (∀ g, v.ownBlock = some g → KeptTo e n w w' g) := by
  have hnews : ∀ j u, [x][j]? = some u → w.cell? (ad.add j) = some u := fun j u hj => by
    cases j with
    | zero => simp at hj; subst hj; exact hx
    | succ j => simp at hj
  have h1' : ∀ u ∈ [x], u.oneCell' = true := by intro u hu; simp at hu; subst hu; exact h1
  obtain ⟨v', w', hr, h2, h3, _, h5⟩ := run_append_own_at (P := P) (w := w) base t ty e i z 1 bytes ht hi hz hsize hby hzs (by decide) v n xs hown ad 1 1 [x] rfl hnews h1' h63 hbytes hbase
  refine ⟨v', w', hr, h2, h3, h5, fun g hg => ?_⟩
  rcases hown.2 with ⟨rfl, _⟩ | ⟨g', cap, cur, rfl, hbg, hh, hnc, hcm, hcs, htake⟩
  · simp [Value.ownBlock] at hg
  · simp [Value.ownBlock] at hg
    subst hg
    by_cases hroom : n + 1 ≤ cap
    · have hfit : n * i.size + [x].length ≤ cur.size := by rw [hsize, hcs]; simp; omega
      have hr2 := run_append_room (P := P) w t ty e i ht hi g' n cap cur hh ad 1 1 [x] (by rw [hsize]; rfl) hnews h1' hroom hfit
      rw [hr] at hr2
      cases hr2
      intro cur' hc'
      rw [hh] at hc'
      cases hc'
      refine ⟨_, setRow_heap w g' cur _ e _ hh, ?_, ?_⟩
      · rw [hsize] at hfit ⊢
        simp at hfit ⊢
        omega
      · rw [hsize, Nat.mul_one]
        have hl : (cur.toList.take n).length = n := by simp; simp at hfit; rw [hsize] at hfit; omega
        simp only [List.append_assoc]
        rw [List.take_append_of_le_length (by omega), List.take_of_length_le (by omega)]
    · have holds : ∀ j u, xs[j]? = some u → w.cell? ((⟨g', 0, none⟩ : Addr).add j) = some u := hown.cells (g := g') rfl
      have hr2 := run_append_grow (P := P) w t ty e i z ht hi hz ⟨g', 0, none⟩ n cap xs (by rw [hsize]; exact hown.1) holds ad 1 1 [x] (by rw [hsize]; rfl) hnews (by omega) (by unfold maxLen at h63; omega) (growslice_fits (by omega) (by rw [hby]; exact hbytes))
      rw [hr] at hr2
      cases hr2
      exact KeptTo.of_eq (heap_alloc_old w.drew _ (Array.getElem?_eq_some_iff.1 hh).1)
end Go.Proofs.Ytnfhlbmapfoifaa

