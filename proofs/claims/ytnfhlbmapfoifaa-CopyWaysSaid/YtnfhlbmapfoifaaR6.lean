/- Plain laws of ways: a round never ends; what can't be of a card can't be of its first one. -/
import Derived.Test.YtnfhlbmapfoifaaR5
namespace Go.Proofs.Ytnfhlbmapfoifaa
open Go.RowKit
set_option linter.unusedVariables false

theorem pigeon : ∀ (n : Nat) (f : Nat → Nat), (∀ i, i ≤ n → f i < n) → ∃ i j, i < j ∧ j ≤ n ∧ f i = f j
  | 0, f, h => by have := h 0 (Nat.le_refl _); omega
  | n + 1, f, h => by
    by_cases hv : ∃ i, i ≤ n ∧ f i = f (n + 1)
    · obtain ⟨i, hi, e⟩ := hv
      exact ⟨i, n + 1, by omega, Nat.le_refl _, e⟩
    · obtain ⟨i, j, hij, hj, e⟩ := pigeon n (fun i => if f (n + 1) < f i then f i - 1 else f i) (fun i hi => by
        have h1 := h i (by omega)
        have h2 := h (n + 1) (Nat.le_refl _)
        have h3 : f i ≠ f (n + 1) := fun e => hv ⟨i, hi, e⟩
        try dsimp only
        split <;> omega)
      have h1 : f i ≠ f (n + 1) := fun e => hv ⟨i, by omega, e⟩
      have h2 : f j ≠ f (n + 1) := fun e => hv ⟨j, hj, e⟩
      refine ⟨i, j, hij, by omega, ?_⟩
      try dsimp only at e
      split at e <;> split at e <;> omega
theorem up_shift {wl : List Int} {c : Int} {i j : Nat} (h : upW wl i c = upW wl j c) : ∀ k, upW wl (i + k) c = upW wl (j + k) c
  | 0 => h
  | k + 1 => by rw [show i + (k + 1) = (i + k) + 1 from rfl, show j + (k + 1) = (j + k) + 1 from rfl, upW_snoc, upW_snoc, up_shift h k]
theorem round_never {n : Nat} {wl : List Int} (hw : GoodW n wl) {c : Nat} (hc : c < n) (h : upW wl n (c : Int) ≠ -1) : ∀ m, upW wl m (c : Int) ≠ -1 := by
  have hle : ∀ m, m ≤ n → upW wl m (c : Int) ≠ -1 := fun m hm e => by
    have := upW_stays e (n - m)
    rw [show m + (n - m) = n by omega] at this
    exact h this
  obtain ⟨i, j, hij, hj, e⟩ := pigeon n (fun m => (upW wl m (c : Int)).toNat) (fun m hm => by
    have h1 := upW_rng hw m (c : Int) (by omega) (by omega)
    have h2 := hle m hm
    omega)
  have e' : upW wl i (c : Int) = upW wl j (c : Int) := by
    have h1 := upW_rng hw i (c : Int) (by omega) (by omega)
    have h2 := hle i (by omega)
    have h3 := upW_rng hw j (c : Int) (by omega) (by omega)
    have h4 := hle j hj
    try dsimp only at e
    omega
  intro m
  induction m using Nat.strongRecOn with
  | ind m ih =>
    by_cases hm : m ≤ n
    · exact hle m hm
    · have := up_shift e' (m - j)
      rw [show j + (m - j) = m by omega] at this
      rw [← this]
      exact ih _ (by omega)
theorem goW_false {by_ : Int × Int} {rec : Nat → (Int × Int) × Bool} {wl : List Int} {card j : Nat} (he : gi wl j = (card : Int)) (hj : (rec j).2 = false) : ∀ (l : List Nat) (own : Int × Int), j ∈ l → (goW by_ rec wl card own l).2 = false
  | [], _, h => by cases h
  | k :: r, own, h => by
    unfold goW
    split
    · dsimp only
      split
      · rename_i h1 h2
        refine goW_false he hj r _ ?_
        rcases List.mem_cons.1 h with e | e
        · subst e; rw [hj] at h2; cases h2
        · exact e
      · rfl
    · rename_i h1
      refine goW_false he hj r _ ?_
      rcases List.mem_cons.1 h with e | e
      · subst e; exact (h1 he).elim
      · exact e
theorem goW_congr {by_ : Int × Int} {rec rec' : Nat → (Int × Int) × Bool} {wl : List Int} {card : Nat} : ∀ (l : List Nat) (own : Int × Int), (∀ j ∈ l, gi wl j = (card : Int) → rec j = rec' j) → goW by_ rec wl card own l = goW by_ rec' wl card own l
  | [], _, _ => rfl
  | k :: r, own, h => by
    unfold goW
    split
    · rename_i h1
      rw [h k (by simp) h1]
      dsimp only
      split
      · exact goW_congr r _ (fun j hj => h j (by simp [hj]))
      · rfl
    · exact goW_congr r _ (fun j hj => h j (by simp [hj]))
theorem whatF_fuel {p : Prs} {wl : List Int} {what : Bool} : ∀ (d c : Nat), Dep wl d c → whatF p wl what (d + 1) c = whatF p wl what d c
  | 0, _, h => h.elim
  | d + 1, c, h => by
    show goW _ (whatF p wl what (d + 1)) wl c _ _ = goW _ (whatF p wl what d) wl c _ _
    exact goW_congr _ _ fun j hj he => whatF_fuel d j (h j (List.mem_range.1 hj) he)
theorem can_up {p : Prs} {wl : List Int} {what : Bool} {n : Nat} (hw : GoodW n wl) (hr : roundB wl = false) : ∀ (m c : Nat), upW wl m (c : Int) = -1 → c < n → (whatF p wl what (wl.length + 1) c).2 = false → canB p wl what = false
  | 0, c, h, _, _ => by simp [upW] at h
  | m + 1, c, h, hc, hf => by
    have hcl : c < wl.length := by rw [hw.1]; exact hc
    by_cases h1 : gi wl c = -1
    · exact canB_false hcl h1 hf
    · have hg := hw.gi hc
      obtain ⟨r, hr'⟩ := Int.eq_ofNat_of_zero_le (show 0 ≤ gi wl c by omega)
      have hrn : r < n := by omega
      refine can_up hw hr m r ?_ hrn ?_
      · have h2 : upW wl (m + 1) (c : Int) = upW wl m (if (c : Int) = -1 then -1 else gi wl ((c : Int)).toNat) := rfl
        rw [h2, if_neg (by omega)] at h
        rw [show ((c : Int)).toNat = c from rfl, hr'] at h
        exact h
      · rw [← whatF_fuel (wl.length + 1) r (dep_of hr (by rw [hw.1]; exact hrn))]
        exact goW_false hr' hf _ _ (List.mem_range.2 hcl)
end Go.Proofs.Ytnfhlbmapfoifaa
