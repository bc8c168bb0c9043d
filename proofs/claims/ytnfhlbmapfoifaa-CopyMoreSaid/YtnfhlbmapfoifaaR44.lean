/- Narrower piles: plain laws of CopyMore. -/
import Derived.Test.YtnfhlbmapfoifaaR40
namespace Go.Proofs.Ytnfhlbmapfoifaa
open Go.RowKit
set_option linter.unusedVariables false
set_option linter.unusedSimpArgs false

/-- The pile q is as wide as p, or narrower. -/
structure Nar (q p : Prs) : Prop where
  len : q.cards.length = p.cards.length
  of : ∀ (c : Nat) (what : Bool), ((gp p.cards c).of what).1 ≤ ((gp q.cards c).of what).1 ∧ ((gp q.cards c).of what).2 ≤ ((gp p.cards c).of what).2
  by_ : ∀ what : Bool, (p.by_ what).1 ≤ (q.by_ what).1 ∧ (q.by_ what).2 ≤ (p.by_ what).2
  marks : ∀ c f : Nat, c < q.cards.length → f < q.cards.length → markedB q c f = true → markedB p c f = true
theorem goW_nar {b1 b2 : Int × Int} {r1 r2 : Nat → (Int × Int) × Bool} {w : List Int} {card : Nat} (hb : b2.1 ≤ b1.1 ∧ b1.2 ≤ b2.2) (hr : ∀ j, (r1 j).2 = true → (r2 j).2 = true ∧ (r2 j).1.1 ≤ (r1 j).1.1 ∧ (r1 j).1.2 ≤ (r2 j).1.2) : ∀ (l : List Nat) (o1 o2 : Int × Int), o2.1 ≤ o1.1 → o1.2 ≤ o2.2 → (goW b1 r1 w card o1 l).2 = true →
    (goW b2 r2 w card o2 l).2 = true ∧ (goW b2 r2 w card o2 l).1.1 ≤ (goW b1 r1 w card o1 l).1.1 ∧ (goW b1 r1 w card o1 l).1.2 ≤ (goW b2 r2 w card o2 l).1.2
  | [], o1, o2, h1, h2, h => by
    have h' : o1.1 ≤ o1.2 := by simpa [goW] using h
    refine ⟨?_, h1, h2⟩
    show decide (o2.1 ≤ o2.2) = true
    simp; omega
  | k :: r, o1, o2, h1, h2, h => by
    by_cases hk : gi w k = (card : Int)
    · by_cases hq : (r1 k).2 = true
      · obtain ⟨g1, g2, g3⟩ := hr k hq
        have e1 : goW b1 r1 w card o1 (k :: r) = goW b1 r1 w card (max o1.1 ((r1 k).1.1 + b1.1), min o1.2 ((r1 k).1.2 + b1.2)) r := by
          conv => lhs; unfold goW
          rw [if_pos hk]
          dsimp only
          rw [if_pos hq]
        have e2 : goW b2 r2 w card o2 (k :: r) = goW b2 r2 w card (max o2.1 ((r2 k).1.1 + b2.1), min o2.2 ((r2 k).1.2 + b2.2)) r := by
          conv => lhs; unfold goW
          rw [if_pos hk]
          dsimp only
          rw [if_pos g1]
        rw [e1] at h ⊢
        rw [e2]
        exact goW_nar hb hr r _ _ (by dsimp only; omega) (by dsimp only; omega) h
      · have e1 : goW b1 r1 w card o1 (k :: r) = (o1, false) := by
          conv => lhs; unfold goW
          rw [if_pos hk]
          dsimp only
          rw [if_neg hq]
        rw [e1] at h
        cases h
    · have e1 : goW b1 r1 w card o1 (k :: r) = goW b1 r1 w card o1 r := by
        conv => lhs; unfold goW
        rw [if_neg hk]
      have e2 : goW b2 r2 w card o2 (k :: r) = goW b2 r2 w card o2 r := by
        conv => lhs; unfold goW
        rw [if_neg hk]
      rw [e1] at h ⊢
      rw [e2]
      exact goW_nar hb hr r _ _ h1 h2 h
theorem whatF_nar {q p : Prs} (H : Nar q p) (w : List Int) (what : Bool) : ∀ (d c : Nat), (whatF q w what d c).2 = true →
    (whatF p w what d c).2 = true ∧ (whatF p w what d c).1.1 ≤ (whatF q w what d c).1.1 ∧ (whatF q w what d c).1.2 ≤ (whatF p w what d c).1.2
  | 0, c, h => ⟨h, Int.le_refl _, Int.le_refl _⟩
  | d + 1, c, h => goW_nar (H.by_ what) (fun j hj => whatF_nar H w what d j hj) _ _ _ (H.of c what).1 (H.of c what).2 h
theorem way_nar {q p : Prs} (H : Nar q p) {x : List Int} (hl : x.length = q.cards.length) (hr : ∀ j, j < q.cards.length → -1 ≤ gi x j ∧ gi x j < q.cards.length) (h : isWayB q x = true) : isWayB p x = true := by
  obtain ⟨h1, h2, h3⟩ := way_parts h
  have c1 : ∀ what, canB p x what = true := fun what => by
    have := h3 what
    unfold canB at this ⊢
    rw [List.all_eq_true] at this ⊢
    intro c hc
    have h4 := this c hc
    rw [Bool.or_eq_true] at h4 ⊢
    exact h4.imp id (fun h5 => (whatF_nar H x what _ c h5).1)
  have c2 : marksB p x = true := by
    unfold marksB at h1 ⊢
    rw [List.all_eq_true] at h1 ⊢
    intro c hc
    have h4 := h1 c hc
    rw [Bool.or_eq_true] at h4 ⊢
    have hc' : c < q.cards.length := by rw [← hl]; simpa using hc
    refine h4.elim .inl (fun h5 => ?_)
    by_cases e : gi x c = -1
    · exact .inl (by simpa using e)
    · have := hr c hc'
      exact .inr (H.marks c _ hc' (by omega) h5)
  unfold isWayB
  rw [c2, h2, c1 false, c1 true]
  rfl
theorem ways_nar {q p : Prs} (H : Nar q p) {x : List Int} (h : x ∈ waysL q) : x ∈ waysL p := by
  obtain ⟨h1, h2, h3⟩ := ways_iff.1 h
  exact ways_iff.2 ⟨by rw [h1, H.len], fun j hj => by have := h2 j (by rw [H.len]; exact hj); rw [H.len] at this; exact this, way_nar H h1 (fun j hj => ⟨(h2 j hj).1, (h2 j hj).2.1⟩) h3⟩
theorem lexLt_asymm {x y : List Int} (h : lexLt x y) : ¬ lexLt y x := by
  obtain ⟨k, _, _, h1, h2⟩ := h
  rintro ⟨j, _, _, h3, h4⟩
  rcases Nat.lt_trichotomy k j with e | e | e
  · have := h3 k e; omega
  · subst e; omega
  · have := h1 j e; omega
theorem lex_len {l m : List (List Int)} (hl : l.Pairwise lexLt) (hs : ∀ x ∈ l, x ∈ m) : l.length ≤ m.length := by
  have hn : l.Nodup := List.Pairwise.imp (fun {a b} h e => by subst e; exact lexLt_irr _ h) hl
  clear hl
  induction l generalizing m with
  | nil => exact Nat.zero_le _
  | cons a r ih =>
    obtain ⟨h1, h2⟩ := List.nodup_cons.1 hn
    have ha : a ∈ m := hs a (by simp)
    obtain ⟨m1, m2, rfl⟩ := List.append_of_mem ha
    have := ih (m := m1 ++ m2) (fun x hx => by
      have := hs x (by simp [hx])
      simp only [List.mem_append, List.mem_cons] at this ⊢
      rcases this with h | h | h
      · exact .inl h
      · subst h; exact absurd hx h1
      · exact .inr h) h2
    simp only [List.length_append, List.length_cons] at this ⊢
    omega
theorem ways_fewer {q p : Prs} (H : Nar q p) : (waysL q).length ≤ (waysL p).length := lex_len ways_lex (fun x hx => ways_nar H hx)
theorem orders_nar {q p : Prs} (H : Nar q p) {o : List Int} (h : o ∈ ordersL q) : o ∈ ordersL p := by
  obtain ⟨h1, h2⟩ := orders_iff.1 h
  exact orders_iff.2 ⟨H.len ▸ h1, (ways_iff.1 (ways_nar H (chain_way h))).2.2⟩
theorem orders_fewer {q p : Prs} (H : Nar q p) : (ordersL q).length ≤ (ordersL p).length := lex_len orders_lex (fun x hx => orders_nar H hx)
/-- The orders of the narrower pile stand among those of the wider one, in the same order. -/
theorem nar_at {q p : Prs} (H : Nar q p) {k : Nat} (hk : k < (ordersL q).length) : ∃ i, i < (ordersL p).length ∧ (ordersL p).getD i [] = (ordersL q).getD k [] := by
  have h := orders_nar H (o := (ordersL q).getD k []) (by simp [hk])
  obtain ⟨i, hi, e⟩ := List.mem_iff_getElem.1 h
  exact ⟨i, hi, by simp [hi, e]⟩
theorem lex_lt {l : List (List Int)} (hl : l.Pairwise lexLt) {i j : Nat} (hi : i < l.length) (hj : j < l.length) (h : lexLt (l.getD i []) (l.getD j [])) : i < j := by
  rcases Nat.lt_trichotomy i j with e | e | e
  · exact e
  · subst e; exact absurd h (lexLt_irr _)
  · have := List.pairwise_iff_getElem.1 hl j i hj hi e
    have h2 : lexLt (l.getD j []) (l.getD i []) := by simpa [hi, hj] using this
    exact absurd h2 (lexLt_asymm h)
/-- How far one has looked for the orders from the k-th on: none of them lies before. -/
def AtI (q p : Prs) (k at_ : Nat) : Prop := at_ ≤ (ordersL p).length ∧ ∀ j i, k ≤ j → j < (ordersL q).length → i < (ordersL p).length → (ordersL p).getD i [] = (ordersL q).getD j [] → at_ ≤ i
theorem AtI.start {q p : Prs} : AtI q p 0 0 := ⟨Nat.zero_le _, fun _ _ _ _ _ _ => Nat.zero_le _⟩
theorem AtI.more {q p : Prs} (H : Nar q p) {k at_ : Nat} (h : AtI q p k at_) (hk : k < (ordersL q).length) (hat : at_ < (ordersL p).length) (hne : (ordersL p).getD at_ [] ≠ (ordersL q).getD k []) : AtI q p k (at_ + 1) := by
  refine ⟨hat, fun j i hj1 hj hi e => ?_⟩
  have h1 := h.2 j i hj1 hj hi e
  by_cases e2 : at_ = i
  · subst e2
    by_cases e3 : k = j
    · subst e3; exact absurd e hne
    · exfalso
      obtain ⟨m, hm, e4⟩ := nar_at H hk
      have h5 := h.2 k m (Nat.le_refl _) hk hm e4
      have h6 : at_ ≠ m := fun e => by subst e; exact hne e4
      have h7 := List.pairwise_iff_getElem.1 (orders_lex (p := p)) at_ m hat hm (by omega)
      have h8 := List.pairwise_iff_getElem.1 (orders_lex (p := q)) k j hk hj (by omega)
      have h7 : lexLt ((ordersL p).getD at_ []) ((ordersL p).getD m []) := by simpa [hat, hm] using h7
      have h8 : lexLt ((ordersL q).getD k []) ((ordersL q).getD j []) := by simpa [hk, hj] using h8
      rw [e4, e] at h7
      exact lexLt_asymm h8 h7
  · omega
theorem AtI.lt {q p : Prs} (H : Nar q p) {k at_ : Nat} (h : AtI q p k at_) (hk : k < (ordersL q).length) : at_ < (ordersL p).length := by
  obtain ⟨m, hm, e⟩ := nar_at H hk
  exact Nat.lt_of_le_of_lt (h.2 k m (Nat.le_refl _) hk hm e) hm
theorem AtI.next {q p : Prs} {k at_ : Nat} (h : AtI q p k at_) : AtI q p (k + 1) at_ := ⟨h.1, fun j i hj => h.2 j i (by omega)⟩
/-- The cards that a card of the narrower pile can be copied from can be that in the wider one too. -/
theorem par_nar {q p : Prs} (H : Nar q p) {i m : Nat} (hi : i < q.cards.length) (h : (parS (parL q i (waysL q).length)).testBit m = true) : (parS (parL p i (waysL p).length)).testBit m = true := by
  obtain ⟨x, hx, e⟩ := (par_all hi).1 h
  exact (par_all (by rw [← H.len]; exact hi)).2 ⟨x, ways_nar H hx, e⟩
end Go.Proofs.Ytnfhlbmapfoifaa
