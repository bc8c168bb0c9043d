/- The fewest originals, parents, fits: plain laws. -/
import Derived.Test.YtnfhlbmapfoifaaR33
import Derived.Test.YtnfhlbmapfoifaaR6
namespace Go.Proofs.Ytnfhlbmapfoifaa
open Go.RowKit
set_option linter.unusedVariables false
set_option linter.unusedSimpArgs false

theorem onW_lex {p : Prs} : ∀ (d : Nat) (pre : List Int), (onW p d pre).Pairwise lexLt
  | 0, pre => by
    rw [onW_zero]
    split <;> simp
  | d + 1, pre => by
    rw [onW_succ, List.pairwise_flatMap]
    refine ⟨fun f _ => ?_, ?_⟩
    · unfold onF
      split
      · simp
      · exact onW_lex d _
    · unfold froms
      rw [List.pairwise_map]
      refine List.pairwise_lt_range.imp (fun {a b} hab => ?_)
      intro x hx y hy
      unfold onF at hx hy
      split at hx
      · simp at hx
      · split at hy
        · simp at hy
        · obtain ⟨s, rfl, _⟩ := (onW_mem d _ _).1 hx
          obtain ⟨t, rfl, _⟩ := (onW_mem d _ _).1 hy
          rw [List.append_assoc, List.append_assoc]
          exact lexLt_at (by omega)
theorem ways_lex {p : Prs} : (waysL p).Pairwise lexLt := onW_lex _ _
theorem least_eq : ∀ (l : List (List Int)) (f : List Int), origN (leastW f l) = origN f → leastW f l = f
  | [], f, _ => rfl
  | x :: r, f, h => by
    have e : leastW f (x :: r) = leastW (if origN x < origN f then x else f) r := rfl
    rw [e] at h ⊢
    split
    · rename_i h1
      rw [if_pos h1] at h
      have h2 := least_orig r x
      have h3 := foldl_min_le r (origN x)
      omega
    · rename_i h1
      rw [if_neg h1] at h
      exact least_eq r f h
theorem least_lex : ∀ (l : List (List Int)) (f : List Int), (f :: l).Pairwise lexLt → ∀ y ∈ f :: l, origN y = origN (leastW f l) → y = leastW f l ∨ lexLt (leastW f l) y
  | [], f, _, y, hy, _ => by
    left
    simpa [leastW] using hy
  | x :: r, f, hp, y, hy, h => by
    have e : leastW f (x :: r) = leastW (if origN x < origN f then x else f) r := rfl
    rw [e] at h ⊢
    obtain ⟨hp1, hp2⟩ := List.pairwise_cons.1 hp
    by_cases h1 : origN x < origN f
    · rw [if_pos h1] at h ⊢
      rcases List.mem_cons.1 hy with hy | hy
      · subst hy
        have h2 := least_orig r x
        have h3 := foldl_min_le r (origN x)
        omega
      · exact least_lex r x hp2 y hy h
    · rw [if_neg h1] at h ⊢
      have h2 := least_orig r f
      have h3 := foldl_min_le r (origN f)
      have hpf : (f :: r).Pairwise lexLt := List.pairwise_cons.2 ⟨fun z hz => hp1 z (by simp [hz]), (List.pairwise_cons.1 hp2).2⟩
      rcases List.mem_cons.1 hy with hy | hy
      · exact least_lex r f hpf y (by rw [hy]; simp) h
      · rcases List.mem_cons.1 hy with hy | hy
        · subst hy
          right
          rw [least_eq r f (by omega)]
          exact hp1 y (by simp)
        · exact least_lex r f hpf y (by simp [hy]) h
theorem fewest_lex {p : Prs} {y : List Int} (hy : y ∈ waysL p) (h : origN y = origN (fewestW p)) : y = fewestW p ∨ lexLt (fewestW p) y := by
  have hx := ways_lex (p := p)
  cases e : waysL p with
  | nil => rw [e] at hy; cases hy
  | cons f t =>
    have hf : fewestW p = leastW f t := by unfold fewestW; rw [e]; rfl
    rw [e] at hx hy
    rw [hf] at h ⊢
    exact least_lex t f hx y hy h
/-! ### parents -/
theorem par_bit (l : List Int) (hl : ∀ x ∈ l, -1 ≤ x) (m : Nat) : (parS l).testBit m = decide ((m : Int) ∈ l) := by
  unfold parS
  rw [bits_bit]
  congr 1
  apply propext
  rw [List.mem_map]
  constructor
  · rintro ⟨x, hx, rfl⟩
    rw [List.mem_filter] at hx
    have h1 := hl x hx.1
    have h2 : x ≠ -1 := by simpa using hx.2
    have e : ((x.toNat : Nat) : Int) = x := by omega
    rw [e]
    exact hx.1
  · intro h
    exact ⟨(m : Int), List.mem_filter.2 ⟨h, by simp⟩, rfl⟩
theorem par_all {p : Prs} {i m : Nat} (hi : i < p.cards.length) : (parS (parL p i (waysL p).length)).testBit m = true ↔ ∃ x, x ∈ waysL p ∧ gi x i = (m : Int) := by
  rw [par_bit _ (fun x hx => by
    unfold parL at hx
    rw [List.take_length, List.mem_map] at hx
    obtain ⟨y, hy, rfl⟩ := hx
    exact ((ways_iff.1 hy).2.1 i hi).1)]
  unfold parL
  rw [List.take_length]
  simp [List.mem_map]
theorem par_orig {p : Prs} (hv : p.valid = true) {i : Nat} (hi : i < p.cards.length) : parO (parL p i (waysL p).length) = true := by
  unfold parO parL
  rw [List.take_length, List.any_eq_true]
  refine ⟨-1, ?_, rfl⟩
  rw [List.mem_map]
  refine ⟨List.replicate p.cards.length (-1), ?_, by simp [gi, hi]⟩
  have := onW_rep (p := p) p.cards.length [] (by simpa using way_rep hv)
  simpa [waysL] using this
/-! ### fits -/
theorem goW_bounds {by_ : Int × Int} {rec : Nat → (Int × Int) × Bool} {wl : List Int} {card : Nat} : ∀ (l : List Nat) (own : Int × Int), (goW by_ rec wl card own l).2 = true →
    (goW by_ rec wl card own l).1.1 ≤ (goW by_ rec wl card own l).1.2 ∧ own.1 ≤ (goW by_ rec wl card own l).1.1 ∧ (goW by_ rec wl card own l).1.2 ≤ own.2 ∧
      ∀ j ∈ l, gi wl j = (card : Int) → (rec j).2 = true ∧ (rec j).1.1 + by_.1 ≤ (goW by_ rec wl card own l).1.1 ∧ (goW by_ rec wl card own l).1.2 ≤ (rec j).1.2 + by_.2
  | [], own, h => by
    have h' : own.1 ≤ own.2 := by simpa [goW] using h
    exact ⟨h', Int.le_refl _, Int.le_refl _, fun j hj => by cases hj⟩
  | k :: r, own, h => by
    by_cases h1 : gi wl k = (card : Int)
    · by_cases h2 : (rec k).2 = true
      · have e : goW by_ rec wl card own (k :: r) = goW by_ rec wl card (max own.1 ((rec k).1.1 + by_.1), min own.2 ((rec k).1.2 + by_.2)) r := by
          conv => lhs; unfold goW
          rw [if_pos h1]
          dsimp only
          rw [if_pos h2]
        rw [e] at h ⊢
        obtain ⟨a1, a2, a3, a4⟩ := goW_bounds r _ h
        dsimp only at a2 a3
        refine ⟨a1, by omega, by omega, fun j hj he => ?_⟩
        rcases List.mem_cons.1 hj with e | e
        · subst e; exact ⟨h2, by omega, by omega⟩
        · exact a4 j e he
      · have e : goW by_ rec wl card own (k :: r) = (own, false) := by
          conv => lhs; unfold goW
          rw [if_pos h1]
          dsimp only
          rw [if_neg h2]
        rw [e] at h
        cases h
    · have e : goW by_ rec wl card own (k :: r) = goW by_ rec wl card own r := by
        conv => lhs; unfold goW
        rw [if_neg h1]
      rw [e] at h ⊢
      obtain ⟨a1, a2, a3, a4⟩ := goW_bounds r _ h
      refine ⟨a1, a2, a3, fun j hj he => ?_⟩
      rcases List.mem_cons.1 hj with e | e
      · subst e; exact (h1 he).elim
      · exact a4 j e he
theorem way_parts {p : Prs} {x : List Int} (h : isWayB p x = true) : marksB p x = true ∧ roundB x = false ∧ ∀ what, canB p x what = true := by
  unfold isWayB at h
  simp only [Bool.and_eq_true, Bool.not_eq_true'] at h
  exact ⟨h.1.1.1, h.1.1.2, fun what => by cases what <;> simp [h.1.2, h.2]⟩
theorem what_true {p : Prs} {x : List Int} (h : x ∈ waysL p) {c : Nat} (hc : c < p.cards.length) (what : Bool) : (whatF p x what (x.length + 1) c).2 = true := by
  obtain ⟨h1, h2, h3⟩ := ways_iff.1 h
  obtain ⟨_, hr, hcan⟩ := way_parts h3
  cases hw : (whatF p x what (x.length + 1) c).2
  · have := can_up (p := p) (what := what) (way_good h) hr x.length c (roundB_false.1 hr c (by omega)) hc hw
    rw [hcan what] at this
    cases this
  · rfl
theorem both_can {p : Prs} {i m : Nat} {what : Bool} {s0 s1 : Int × Int} (h0 : (gp (bothP p i m).cards 0).of what = s0) (h1 : (gp (bothP p i m).cards 1).of what = s1)
    (ha : s1.1 ≤ s1.2) (hb : max s0.1 (s1.1 + (p.by_ what).1) ≤ min s0.2 (s1.2 + (p.by_ what).2)) : canB (bothP p i m) [-1, 0] what = true := by
  have e1 : whatF (bothP p i m) [-1, 0] what 2 1 = (s1, true) := by
    show goW _ (whatF (bothP p i m) [-1, 0] what 1) [-1, 0] 1 ((gp (bothP p i m).cards 1).of what) [0, 1] = _
    rw [h1]
    simp [goW, gi, ha]
  have e0 : (whatF (bothP p i m) [-1, 0] what 3 0).2 = true := by
    show (goW ((bothP p i m).by_ what) (whatF (bothP p i m) [-1, 0] what 2) [-1, 0] 0 ((gp (bothP p i m).cards 0).of what) [0, 1]).2 = true
    rw [h0]
    have hby : (bothP p i m).by_ what = p.by_ what := rfl
    rw [hby]
    have g0 : gi [-1, 0] 0 = -1 := rfl
    have g1 : gi [-1, 0] 1 = 0 := rfl
    unfold goW
    rw [if_neg (by rw [g0]; decide)]
    unfold goW
    rw [if_pos (by rw [g1]; rfl)]
    dsimp only
    rw [e1]
    dsimp only
    rw [if_pos rfl]
    unfold goW
    simpa using hb
  unfold canB
  rw [List.all_eq_true]
  intro c hc
  have hc' : c = 0 ∨ c = 1 := by have : c < 2 := by simpa using hc
                                 omega
  rcases hc' with e | e
  · subst e
    simp only [Bool.or_eq_true]
    exact .inr e0
  · subst e; rfl
theorem by_span {p : Prs} (hv : p.valid = true) (what : Bool) : 0 ≤ (p.by_ what).1 ∧ (p.by_ what).1 ≤ (p.by_ what).2 := by
  unfold Prs.valid spanOk at hv
  simp only [Bool.and_eq_true, decide_eq_true_eq] at hv
  cases what
  · exact ⟨hv.1.2.1.1, hv.1.2.1.2⟩
  · exact ⟨hv.2.1.1, hv.2.1.2⟩
/-- Whatever can be a copy, fits. -/
theorem fits_way {p : Prs} {x : List Int} (h : x ∈ waysL p) {i m : Nat} (hi : i < p.cards.length) (hm : m < p.cards.length) (he : gi x i = (m : Int)) : isWayB (bothP p i m) [-1, 0] = true := by
  obtain ⟨h1, h2, h3⟩ := ways_iff.1 h
  obtain ⟨hmk, hr, hcan⟩ := way_parts h3
  have c0 : gp (bothP p i m).cards 0 = gp p.cards m := rfl
  have c1 : gp (bothP p i m).cards 1 = gp p.cards i := rfl
  have hmark : markedB p i m = true := by
    unfold marksB at hmk
    rw [List.all_eq_true] at hmk
    have := hmk i (by simp [h1, hi])
    rw [he] at this
    rw [Bool.or_eq_true] at this
    rcases this with h | h
    · simp at h
    · exact h
  have hcan2 : ∀ what, canB (bothP p i m) [-1, 0] what = true := fun what => by
    have ht := what_true h hm what
    have hb := goW_bounds (by_ := p.by_ what) (rec := whatF p x what x.length) (wl := x) (card := m) (List.range x.length) ((gp p.cards m).of what) ht
    obtain ⟨b1, b2, b3, b4⟩ := hb
    obtain ⟨d1, d2, d3⟩ := b4 i (by simp [h1, hi]) he
    cases hx : x.length with
    | zero => omega
    | succ d =>
      rw [hx] at b1 b2 b3 d1 d2 d3
      have hb2 := goW_bounds (by_ := p.by_ what) (rec := whatF p x what d) (wl := x) (card := i) (List.range x.length) ((gp p.cards i).of what) d1
      obtain ⟨e1, e2, e3, _⟩ := hb2
      have w1 : whatF p x what (d + 1) i = goW (p.by_ what) (whatF p x what d) x i ((gp p.cards i).of what) (List.range x.length) := rfl
      rw [w1] at d2 d3
      rw [hx] at d2 d3 e1 e2 e3
      exact both_can (s0 := (gp p.cards m).of what) (s1 := (gp p.cards i).of what) rfl rfl (by omega) (by omega)
  unfold isWayB
  have hround : roundB [-1, 0] = false := by decide
  have hmarks : marksB (bothP p i m) [-1, 0] = true := by
    unfold marksB
    rw [List.all_eq_true]
    intro c hc
    have hc' : c = 0 ∨ c = 1 := by have : c < 2 := by simpa using hc
                                   omega
    rcases hc' with e | e
    · subst e; rfl
    · subst e
      have : markedB (bothP p i m) 1 0 = markedB p i m := by unfold markedB; rw [c0, c1]
      simp only [Bool.or_eq_true]
      right
      show markedB (bothP p i m) 1 0 = true
      rw [this]; exact hmark
  rw [hmarks, hround, hcan2, hcan2]
  rfl
end Go.Proofs.Ytnfhlbmapfoifaa
