/- The map of states; a state added to it; the rules. -/
import Derived.Test.YtlhobddaojdnoaaW4
import Derived.Test.YtlhobddaojdnoaaPure2
namespace Go.Proofs.Ytlhobddaojdnoaa
open Go.RowKit

theorem mixed : Try.prog.follows .mixedOrders = true := by kernel_rfl
theorem laidOut : laidOutB Try.prog = true := by kernel_rfl
theorem keyed78 : Maps.Keyed Try.prog 78 :=
  Maps.Keyed.of_law (deep_law_laid laidOut (m := 3) (by decide) (by rw [show Try.prog.types.size = 145 from by kernel_rfl]; decide) (by kernel_rfl) (by kernel_rfl))
theorem keyType78 : Try.prog.keyType 78 = true := by kernel_rfl
theorem cells3 : Try.prog.cellsOf 3 = 1 := by kernel_rfl
theorem cells78 : Try.prog.cellsOf 78 = 5 := by kernel_rfl
theorem lits3 (d : Nat) (x : Int) (hx : (Lit.int .i64 x).wf = true) : Try.prog.keyLits (d + 1) 3 [.int .i64 x] = some [.int .i64 x] := by
  simp [Program.keyLits, Try.underlying3, hx]
theorem lits78 (n : Nat) (a b c d e : Int) (ha : (Lit.int .i64 a).wf = true) (hb : (Lit.int .i64 b).wf = true) (hc : (Lit.int .i64 c).wf = true) (hd : (Lit.int .i64 d).wf = true) (he : (Lit.int .i64 e).wf = true) :
    ∃ l, Try.prog.keyLits (n + 1 + 1) 78 [.int .i64 a, .int .i64 b, .int .i64 c, .int .i64 d, .int .i64 e] = some l := by
  simp [Program.keyLits, Try.underlying78, Try.underlying3, cells78, cells3, List.range_succ, ha, hb, hc, hd, he]
theorem key78 (a b c d e : Int) (ha : (Lit.int .i64 a).wf = true) (hb : (Lit.int .i64 b).wf = true) (hc : (Lit.int .i64 c).wf = true) (hd : (Lit.int .i64 d).wf = true) (he : (Lit.int .i64 e).wf = true) :
    ∃ l, keyOf Try.prog 78 (.agg #[.int .i64 a, .int .i64 b, .int .i64 c, .int .i64 d, .int .i64 e]) = some l := by
  obtain ⟨l, hl⟩ := lits78 144 a b c d e ha hb hc hd he
  have hl' : Try.prog.keyLits 146 78 [.int .i64 a, .int .i64 b, .int .i64 c, .int .i64 d, .int .i64 e] = some l := hl
  refine ⟨.string (keyBytes l), ?_⟩
  simp [keyOf, Try.underlying78, keyType78, Value.formed, cells78, Value.cells, hl']

/-- A state as the program keeps it: so many cards, each in a slot, or out. -/
def GoodSt (n : Nat) (s : List Int) : Prop := s.length = n ∧ ∀ x ∈ s, -1 ≤ x ∧ x ≤ 5
theorem GoodSt.gi {n : Nat} {s : List Int} (h : GoodSt n s) (k : Nat) : -1 ≤ gi s k ∧ gi s k ≤ 5 := by
  by_cases hk : k < s.length
  · rw [gi_eq hk]; exact h.2 _ (by simp)
  · simp [Ytlhobddaojdnoaa.gi, List.getD, List.getElem?_eq_none (Nat.le_of_not_lt hk)]
theorem wf_small {x : Int} (h : -1 ≤ x ∧ x ≤ 5) : (Lit.int .i64 x).wf = true := WalkArith.wf_i64 (by omega)
theorem GoodSt.key {n : Nat} {s : List Int} (h : GoodSt n s) : ∃ l, keyOf Try.prog 78 (stV s) = some l :=
  key78 _ _ _ _ _ (wf_small (h.gi 0)) (wf_small (h.gi 1)) (wf_small (h.gi 2)) (wf_small (h.gi 3)) (wf_small (h.gi 4))
theorem stV_inj {n : Nat} (hn : n ≤ 5) {s t : List Int} (hs : GoodSt n s) (ht : GoodSt n t) (h : stV s = stV t) : s = t := by
  simp only [Value.agg.injEq, Array.mk.injEq, List.cons.injEq, Value.int.injEq, true_and, and_true] at h
  refine List.ext_getElem (hs.1.trans ht.1.symm) (fun i h1 h2 => ?_)
  rw [← gi_eq h1, ← gi_eq h2]
  have : i < 5 := by have := hs.1; omega
  match i, this with
  | 0, _ => exact h.1
  | 1, _ => exact h.2.1
  | 2, _ => exact h.2.2.1
  | 3, _ => exact h.2.2.2.1
  | 4, _ => exact h.2.2.2.2

/-- Block b is a map of states, each with how many cards were put back wrong at least. -/
structure StMap (n : Nat) (w : World) (b : Nat) (M : List (List Int × Int)) : Prop where
  raw : MapRaw Try.prog 78 w b (M.map fun p => (stV p.1, .int .i64 p.2))
  good : ∀ p ∈ M, GoodSt n p.1
  small : ∀ p ∈ M, 0 ≤ p.2 ∧ p.2 ≤ 100

def lookM (M : List (List Int × Int)) (t : List Int) : Option Int := (M.find? fun p => p.1 == t).map (·.2)
theorem StMap.kept {n : Nat} {w w' : World} {b : Nat} {M : List (List Int × Int)} (h : StMap n w b M) (hb : w'.heap[b]? = w.heap[b]?) : StMap n w' b M := ⟨h.raw.kept hb, h.good, h.small⟩
theorem StMap.lt {n : Nat} {w : World} {b : Nat} {M : List (List Int × Int)} (h : StMap n w b M) : b < w.heap.size := h.raw.lt
theorem StMap.keys {n : Nat} {w : World} {b : Nat} {M : List (List Int × Int)} (h : StMap n w b M) : (M.map (·.1)).Nodup := by
  have := h.raw.nodup
  rw [List.map_map] at this
  rw [List.nodup_iff_pairwise_ne, List.pairwise_map] at this ⊢
  exact this.imp (fun hne e => hne (by simp only [Function.comp]; rw [e]))
theorem look_none {M : List (List Int × Int)} {t : List Int} : lookM M t = none ↔ ∀ p ∈ M, p.1 ≠ t := by
  unfold lookM
  simp
theorem look_some {M : List (List Int × Int)} (hk : (M.map (·.1)).Nodup) {t : List Int} {x : Int} : lookM M t = some x ↔ (t, x) ∈ M := by
  induction M with
  | nil => simp [lookM]
  | cons p M ih =>
    simp only [List.map_cons, List.nodup_cons] at hk
    unfold lookM at ih ⊢
    rw [List.find?_cons]
    by_cases he : p.1 = t
    · subst he
      have : (p.1, x) ∉ M := fun hm => hk.1 (List.mem_map.2 ⟨_, hm, rfl⟩)
      simp only [beq_self_eq_true, Option.map_some, Option.some.injEq, List.mem_cons, this, or_false]
      exact ⟨fun h => by rw [← h], fun h => by rw [← h]⟩
    · have hb : (p.1 == t) = false := by simpa using he
      simp only [hb, ih hk.2, List.mem_cons]
      exact ⟨.inr, fun h => h.resolve_left (fun e => he (by rw [← e]))⟩

/-! ### no more states than there can be -/
theorem nodup_below : ∀ (N : Nat) (l : List Nat), l.Nodup → (∀ x ∈ l, x < N) → l.length ≤ N
  | 0, l, _, h => by
    cases l with
    | nil => simp
    | cons x l => exact absurd (h x (by simp)) (by omega)
  | N + 1, l, hd, h => by
    have h1 := nodup_below N (l.erase N) (hd.erase N) (fun x hx => by
      have hm := (List.Nodup.mem_erase_iff hd).1 hx
      have := h x hm.2
      have := hm.1
      omega)
    have h2 : l.length ≤ (l.erase N).length + 1 := by rw [List.length_erase]; split <;> omega
    omega
def codeSt : List Int → Nat
  | [] => 0
  | x :: r => (x + 1).toNat + 7 * codeSt r
theorem codeSt_lt : ∀ (s : List Int), (∀ x ∈ s, -1 ≤ x ∧ x ≤ 5) → codeSt s < 7 ^ s.length
  | [], _ => by simp [codeSt]
  | x :: r, h => by
    have h1 := codeSt_lt r (fun y hy => h y (by simp [hy]))
    have h2 := h x (by simp)
    simp only [codeSt, List.length_cons, Nat.pow_succ]
    omega
theorem codeSt_inj : ∀ (s t : List Int), s.length = t.length → (∀ x ∈ s, -1 ≤ x ∧ x ≤ 5) → (∀ x ∈ t, -1 ≤ x ∧ x ≤ 5) → codeSt s = codeSt t → s = t
  | [], [], _, _, _, _ => rfl
  | x :: r, y :: u, hl, hs, ht, h => by
    have h1 := hs x (by simp)
    have h2 := ht y (by simp)
    simp only [codeSt] at h
    have e1 : x = y := by omega
    have e2 : codeSt r = codeSt u := by omega
    rw [e1, codeSt_inj r u (by simpa using hl) (fun z hz => hs z (by simp [hz])) (fun z hz => ht z (by simp [hz])) e2]
  | [], _ :: _, hl, _, _, _ => by simp at hl
  | _ :: _, [], hl, _, _, _ => by simp at hl
theorem StMap.room {n : Nat} {w : World} {b : Nat} {M : List (List Int × Int)} (h : StMap n w b M) (hn : n ≤ 5) : M.length ≤ 16807 := by
  have h1 : (M.map fun p => codeSt p.1).Nodup := by
    have hk := h.keys
    rw [List.nodup_iff_pairwise_ne, List.pairwise_map] at hk ⊢
    refine List.Pairwise.imp_of_mem (fun {p q} hp hq hne he => hne ?_) hk
    have gp := h.good p hp
    have gq := h.good q hq
    exact codeSt_inj _ _ (gp.1.trans gq.1.symm) gp.2 gq.2 he
  have h2 := nodup_below 16807 _ h1 (fun x hx => by
    obtain ⟨p, hp, rfl⟩ := List.mem_map.1 hx
    have gp := h.good p hp
    have := codeSt_lt p.1 gp.2
    rw [gp.1] at this
    have : 7 ^ n ≤ 7 ^ 5 := Nat.pow_le_pow_right (by omega) hn
    omega)
  simpa using h2


theorem zero3 (w : World) : (zeroValue 3).run Try.prog w = .ok (.int .i64 0) w := by kernel_rfl

set_option maxHeartbeats 1000000 in
theorem add_any {n : Nat} (hn : n ≤ 5) {w : World} {b : Nat} {M : List (List Int × Int)} (hM : StMap n w b M) (t : List Int) (ht : GoodSt n t) (m : Int) (hm : 0 ≤ m ∧ m ≤ 100) :
    Calls Try.prog 83 #[.map (some b), stV t, .int .i64 m] w fun e w' => e = .returned (.tuple #[]) ∧ Same (fun k => k = b) w w' ∧ ∃ M', StMap n w' b M' ∧ ∀ s, lookM M' s = addAt (lookM M) t m s := by
  have hblt := hM.lt
  have hb1 : Below w.heap.size w (w.alloc (.cells (stA t) 78)) := (Below.refl _ w).alloc (Nat.le_refl _) _
  have hM1 := hM.kept (hb1.block b hblt)
  obtain ⟨v, ok, hrun, hcase⟩ := hM1.raw.look keyed78 Try.underlying69 ht.key (zero3 _) true
  have hS : Same (fun k => k = b) w (w.alloc (.cells (stA t) 78)) := (Same.refl _ w).alloc _
  rcases hcase with ⟨rfl, rfl, hno⟩ | ⟨rfl, hin⟩
  · -- it was not there
    obtain ⟨w2, hrun2, hg2, hs2, hup⟩ := hM1.raw.update keyed78 Try.underlying69 ht.key (.int .i64 m)
    have hfin : ∃ M', StMap n w2 b M' ∧ ∀ s, lookM M' s = addAt (lookM M) t m s := by
      have hn' : ∀ p ∈ M, p.1 ≠ t := fun p hp e => hno _ (List.mem_map.2 ⟨p, hp, rfl⟩) (by rw [e])
      rcases hup with ⟨_, hr⟩ | ⟨j, v, hj, _⟩
      · have hst : StMap n w2 b (M ++ [(t, m)]) := by
          refine ⟨by simpa using hr, fun p hp => ?_, fun p hp => ?_⟩
          · rcases List.mem_append.1 hp with hp | hp
            · exact hM.good p hp
            · obtain rfl := List.mem_singleton.1 hp; exact ht
          · rcases List.mem_append.1 hp with hp | hp
            · exact hM.small p hp
            · obtain rfl := List.mem_singleton.1 hp; exact hm
        refine ⟨_, hst, fun s => ?_⟩
        have e1 : lookM M t = none := look_none.2 hn'
        unfold addAt
        rw [e1]
        by_cases hst : s = t
        · subst hst
          unfold lookM at e1 ⊢
          rw [List.find?_append]
          rw [Option.map_eq_none_iff] at e1
          simp [e1]
        · rw [if_neg hst]
          unfold lookM
          rw [List.find?_append]
          have : (t == s) = false := by simpa using fun e => hst e.symm
          simp [this]
      · exact absurd rfl (hno _ (List.mem_of_getElem? hj))
    have HF := Lib.hid hfin
    clear hno hup hM hM1
    go_enter Try.func83, Try.ntmps83
    go_wp2
    go_end0
    exact ⟨rfl, hS.grown hg2 (fun k e => .inl (by cases e; rfl)), HF.out⟩
  · -- it was there
    obtain ⟨p, hp, he⟩ := List.mem_map.1 hin
    simp only [Prod.mk.injEq] at he
    obtain ⟨he1, rfl⟩ := he
    have hpt : p.1 = t := stV_inj hn (hM.good p hp) ht he1
    obtain ⟨x, hx⟩ : ∃ x, x = p.2 := ⟨_, rfl⟩
    have hx' := hM.small p hp
    rw [← hx] at hrun hx'
    have hlk : lookM M t = some x := (look_some hM.keys).2 (by rw [hx, ← hpt]; exact hp)
    by_cases hlt : m < x
    · obtain ⟨w2, hrun2, hg2, hs2, hup⟩ := hM1.raw.update keyed78 Try.underlying69 ht.key (.int .i64 m)
      have hfin : ∃ M', StMap n w2 b M' ∧ ∀ s, lookM M' s = addAt (lookM M) t m s := by
        rcases hup with ⟨hno, _⟩ | ⟨j, v, hj, hr⟩
        · exact absurd he1 (hno _ (List.mem_map.2 ⟨p, hp, rfl⟩))
        · rw [List.getElem?_map] at hj
          obtain ⟨q, hq, hqe⟩ := Option.map_eq_some_iff.1 hj
          simp only [Prod.mk.injEq] at hqe
          have hqt : q.1 = t := stV_inj hn (hM.good q (List.mem_of_getElem? hq)) ht hqe.1
          have hj' : j < M.length := (List.getElem?_eq_some_iff.1 hq).1
          have hst : StMap n w2 b (M.set j (t, m)) := by
            refine ⟨by simpa [List.map_set] using hr, fun r hr => ?_, fun r hr => ?_⟩
            · rcases List.mem_or_eq_of_mem_set hr with hr | rfl
              · exact hM.good r hr
              · exact ht
            · rcases List.mem_or_eq_of_mem_set hr with hr | rfl
              · exact hM.small r hr
              · exact hm
          refine ⟨_, hst, fun s => ?_⟩
          unfold addAt
          rw [hlk]
          by_cases hst' : s = t
          · subst hst'
            rw [if_pos rfl]
            simp only [if_pos hlt]
            exact (look_some hst.keys).2 (List.mem_iff_getElem?.2 ⟨j, by simp [hj']⟩)
          · rw [if_neg hst']
            have key : ∀ y, lookM (M.set j (t, m)) s = some y ↔ lookM M s = some y := fun y => by
              rw [look_some hst.keys, look_some hM.keys]
              constructor
              · intro hr
                rcases List.mem_or_eq_of_mem_set hr with hr | hr
                · exact hr
                · simp only [Prod.mk.injEq] at hr; exact absurd hr.1 hst'
              · intro hr
                obtain ⟨i, hi, hie⟩ := List.getElem_of_mem hr
                refine List.mem_iff_getElem.2 ⟨i, by simpa using hi, ?_⟩
                rw [List.getElem_set, if_neg (fun e => hst' ?_)]
                · exact hie
                · subst e
                  rw [List.getElem?_eq_getElem hi, hie] at hq
                  cases hq
                  exact hqt
            cases h1 : lookM M s with
            | none =>
              cases h2 : lookM (M.set j (t, m)) s with
              | none => rfl
              | some y => rw [(key y).1 h2] at h1; cases h1
            | some y => exact (key y).2 h1
      have HF := Lib.hid hfin
      clear hup hM hM1 hx hpt hlk hin he1 hp
      go_enter Try.func83, Try.ntmps83
      go_wp2
      go_end0
      exact ⟨rfl, hS.grown hg2 (fun k e => .inl (by cases e; rfl)), HF.out⟩
    · have hfin : ∃ M', StMap n (w.alloc (.cells (stA t) 78)) b M' ∧ ∀ s, lookM M' s = addAt (lookM M) t m s := by
        refine ⟨M, hM1, fun s => ?_⟩
        unfold addAt
        rw [hlk]
        by_cases hst' : s = t
        · subst hst'; simp only [if_neg hlt]; exact hlk
        · rw [if_neg hst']
      have HF := Lib.hid hfin
      clear hM hM1 hx hpt hlk hin he1 hp
      go_enter Try.func83, Try.ntmps83
      go_wp2
      go_end0
      exact ⟨rfl, hS, HF.out⟩

end Go.Proofs.Ytlhobddaojdnoaa
