/- True minutes lie between what is told: the plain law. -/
import Derived.Test.YtphefhpmbahagaaT72
namespace Go.Proofs.Ytphefhpmbahagaa
open Go.RowKit
set_option linter.unusedVariables false
set_option linter.unusedSimpArgs false

theorem true_begin {t : Tr} {o : List Int} {k : Nat} {now p : Int} (h : sel false (t.at_ o k).2 ≤ now ∧ now ≤ sel true (t.at_ o k).2) (hp : (t.wayAt o k).lo ≤ p ∧ p ≤ (t.wayAt o k).hi) :
    t.minAt false o k ≤ max (now + p) (gs t.light (gi o k).toNat).lo ∧ max (now + p) (gs t.light (gi o k).toNat).lo ≤ t.minAt true o k := by
  rw [← minAt_max, ← minAt_max]
  have e1 : (t.wayAt o k).sel false = (t.wayAt o k).lo := rfl
  have e2 : (t.wayAt o k).sel true = (t.wayAt o k).hi := rfl
  omega
theorem true_after {t : Tr} {o : List Int} {k : Nat} (hk : k < o.length) {b q : Int} (h : t.minAt false o k ≤ b ∧ b ≤ t.minAt true o k)
    (hq : (gs t.stay (gi o k).toNat).lo ≤ q ∧ q ≤ (gs t.stay (gi o k).toNat).hi) : sel false (t.at_ o (k + 1)).2 ≤ b + q ∧ b + q ≤ sel true (t.at_ o (k + 1)).2 := by
  rw [sel_next t false hk, sel_next t true hk]
  have e1 : (gs t.stay (gi o k).toNat).sel false = (gs t.stay (gi o k).toNat).lo := rfl
  have e2 : (gs t.stay (gi o k).toNat).sel true = (gs t.stay (gi o k).toNat).hi := rfl
  omega
/-- What is told of an order, if views and order are valid. -/
structure TrueFacts (t : Tr) (o : List Int) (l : List Spn) (wv v : Int) (each : Bool) (g : Int) : Prop where
  len : l.length = o.length
  at_ : ∀ k, k < o.length → gs l k = ⟨t.minAt false o k, t.minAt true o k⟩
  gw : (g = 4 ∧ wv = 2) ∨ (g = 0 ∧ wv ≠ 2)
  sure : g = 4 → ∀ k, k < o.length → t.minAt true o k ≤ (gs t.light (gi o k).toNat).hi
  never : wv = 0 → ∃ k, k < o.length ∧ (gs t.light (gi o k).toNat).hi < t.minAt false o k
  late : g = 0 → ∃ i, i < o.length ∧ v = gi o i ∧ (∀ j, j < i → t.minAt true o j ≤ (gs t.light (gi o j).toNat).hi) ∧ (each = true → (gs t.light (gi o i).toNat).hi < t.minAt false o i)
theorem late_first {α : Type} (p : α → Bool) : ∀ (l : List α), (∃ x, x ∈ l ∧ p x = false) → ∃ i x, l[i]? = some x ∧ p x = false ∧ (l.take i).all p = true
  | [], h => by obtain ⟨x, hx, _⟩ := h; cases hx
  | y :: r, h => by
    cases hy : p y
    · exact ⟨0, y, rfl, hy, rfl⟩
    · obtain ⟨x, hx, hpx⟩ := h
      have hr : ∃ x, x ∈ r ∧ p x = false := by
        rcases List.mem_cons.1 hx with rfl | hx
        · rw [hy] at hpx; cases hpx
        · exact ⟨x, hx, hpx⟩
      obtain ⟨i, z, h1, h2, h3⟩ := late_first p r hr
      exact ⟨i + 1, z, h1, h2, by rw [List.take_succ_cons, List.all_cons, hy, h3]; rfl⟩
theorem not_is {t : Tr} {q : Bool} {o : List Int} (h : t.is q o = false) : ∃ k, k < o.length ∧ (gs t.light (gi o k).toNat).hi < t.minAt q o k := by
  have hn : ¬ ∀ k, k < o.length → t.minAt q o k ≤ (gs t.light (gi o k).toNat).hi := fun hh => by
    have := (is_iff t q o).2 hh
    rw [h] at this; cases this
  rw [Classical.not_forall] at hn
  obtain ⟨k, hk⟩ := hn
  rw [Classical.not_imp] at hk
  exact ⟨k, hk.1, by omega⟩
theorem true_facts {t : Tr} {o : List Int} (hE : openE t (t.order o) = 0) :
    ∃ l lo x wv v each g, walkedE t o = (wv, 0) ∧ timesE t o = (l, ⟨lo, x⟩, 0) ∧ lateE t o = (v, each, g) ∧ lo = sel false (t.at_ o o.length).2 ∧ x = sel true (t.at_ o o.length).2 ∧ TrueFacts t o l wv v each g := by
  have hst : ∀ k, k < o.length → (t.steps (-1) (t.dawn, t.dawn) o)[k]? = some (gi o k, t.minAt false o k, t.minAt true o k) := fun k hk => steps_at t hk
  have hsl : (t.steps (-1) (t.dawn, t.dawn) o).length = o.length := steps_len t _ _ _
  have hho : ∀ k q, t.holds q (gi o k, t.minAt false o k, t.minAt true o k) = decide (t.minAt q o k ≤ (gs t.light (gi o k).toNat).hi) := fun k q => by
    rw [holds_sel]; cases q <;> rfl
  have hL : lateE t o = t.late (t.steps (-1) (t.dawn, t.dawn) o) := by unfold lateE; rw [if_pos hE]
  have hfst := times_over hE
  have hat : ∀ k, k < o.length → gs (t.times o) k = ⟨t.minAt false o k, t.minAt true o k⟩ := fun k hk => times_at (hst k hk)
  cases hS : t.is true o
  case true =>
    have hW : walkedE t o = (2, 0) := by unfold walkedE; rw [if_pos hE, hS]; rfl
    have hN : lateE t o = (0, false, 4) := by rw [hL]; exact late_none hS
    exact ⟨t.times o, _, _, 2, 0, false, 4, hW, hfst, hN, rfl, rfl, times_len t o, hat, .inl ⟨rfl, rfl⟩, fun _ => (is_iff t true o).1 hS, (fun h => by cases h), fun h => by cases h⟩
  case false =>
    have hW : walkedE t o = ((walkedE t o).1, 0) := by unfold walkedE; rw [if_pos hE]
    have h2 : (walkedE t o).1 ≠ 2 := by
      unfold walkedE; rw [if_pos hE, hS]
      cases t.is false o <;> simp
    have h0 : (walkedE t o).1 = 0 → t.is false o = false := fun h => by
      unfold walkedE at h
      rw [if_pos hE, hS] at h
      cases e : t.is false o
      · rfl
      · rw [e] at h; simp at h
    obtain ⟨k, hk, hkl⟩ := not_is hS
    obtain ⟨i, y, hi, hy, hti⟩ := late_first (t.holds true) (t.steps (-1) (t.dawn, t.dawn) o) ⟨_, List.mem_of_getElem? (hst k hk), by rw [hho]; simp; omega⟩
    have hil : i < o.length := by
      have := (List.getElem?_eq_some_iff.1 hi).1
      omega
    have hyi := hst i hil
    rw [hi] at hyi
    cases hyi
    have hN : lateE t o = (gi o i, !t.holds false (gi o i, t.minAt false o i, t.minAt true o i), 0) := by rw [hL]; exact late_some hti hi hy
    refine ⟨t.times o, _, _, _, gi o i, _, 0, hW, hfst, hN, rfl, rfl, times_len t o, hat, .inr ⟨rfl, h2⟩, (fun h => by cases h), fun h => not_is (h0 h), fun _ => ⟨i, hil, rfl, fun j hj => ?_, fun he => ?_⟩⟩
    · rw [List.all_eq_true] at hti
      have := hti (gi o j, t.minAt false o j, t.minAt true o j) (List.mem_of_getElem? (i := j) (by rw [List.getElem?_take, if_pos hj]; exact hst j (by omega)))
      rw [hho] at this
      simpa using this
    · rw [hho] at he
      simpa using he
/-- Where one truly is. -/
structure TrueI (t : Tr) (o : List Int) (wv v g : Int) (k : Nat) (now : Int) (wk lt : Bool) : Prop where
  now : sel false (t.at_ o k).2 ≤ now ∧ now ≤ sel true (t.at_ o k).2
  wk2 : wv = 2 → wk = true
  wkk : wk = true → ∀ j, j < k → t.minAt false o j ≤ (gs t.light (gi o j).toNat).hi
  lt0 : g = 0 → lt = false → ∀ j, j < k → gi o j ≠ v
  lt4 : g = 4 → lt = false
theorem gi_inj {o : List Int} (hd : o.Nodup) {i j : Nat} (hi : i < o.length) (hj : j < o.length) (h : gi o i = gi o j) : i = j := by
  have e1 : gi o i = o[i] := by simp [gi, hi]
  have e2 : gi o j = o[j] := by simp [gi, hj]
  rw [e1, e2] at h
  exact (List.getElem_inj hd).1 h
theorem TrueI.next {t : Tr} {o : List Int} {l : List Spn} {wv v g now p b : Int} {each wk lt is sv : Bool} {k : Nat} (F : TrueFacts t o l wv v each g) (hd : o.Nodup) (hk : k < o.length) (h : TrueI t o wv v g k now wk lt)
    (hp : (t.wayAt o k).lo ≤ p ∧ p ≤ (t.wayAt o k).hi) (hb : max (now + p) (gs t.light (gi o k).toNat).lo = b) (his : decide ((gs t.light (gi o k).toNat).hi < b) = is) (hsv : (gi o k == v) = sv) :
    t.minAt false o k ≤ b ∧ b ≤ t.minAt true o k ∧ (g = 4 → is = false ∧ wk = true ∧ lt = false) ∧ (g = 0 → (is = true → lt = true ∨ sv = true) ∧ (sv = true → each = true → is = true)) ∧
      ∀ q, ((gs t.stay (gi o k).toNat).lo ≤ q ∧ q ≤ (gs t.stay (gi o k).toNat).hi) → TrueI t o wv v g (k + 1) (b + q) (wk && !is) (lt || (g == 0 && sv)) := by
  have hb2 := true_begin h.now hp
  rw [hb] at hb2
  have h4 : g = 4 → is = false ∧ wk = true ∧ lt = false := fun e => by
    have h1 := F.sure e k hk
    refine ⟨by rw [← his]; simp; omega, h.wk2 ?_, h.lt4 e⟩
    rcases F.gw with ⟨_, h2⟩ | ⟨h2, _⟩
    · exact h2
    · omega
  have h0 : g = 0 → (is = true → lt = true ∨ sv = true) ∧ (sv = true → each = true → is = true) := fun e => by
    obtain ⟨i, hi, rfl, hj, he⟩ := F.late e
    refine ⟨fun hi1 => ?_, fun hs ht => ?_⟩
    · rw [← his] at hi1
      have hi1 : (gs t.light (gi o k).toNat).hi < b := by simpa using hi1
      have hik : i ≤ k := by
        by_cases h2 : k < i
        · have := hj k h2; omega
        · omega
      by_cases h3 : i = k
      · subst h3; right; rw [← hsv]; simp
      · left
        cases hlt : lt
        · exact absurd rfl (h.lt0 e hlt i (by omega))
        · rfl
    · rw [← hsv] at hs
      have hs : gi o k = gi o i := by simpa using hs
      have hki := gi_inj hd hk hi hs
      subst hki
      have := he ht
      rw [← his]; simp; omega
  refine ⟨hb2.1, hb2.2, h4, h0, fun q hq => ⟨true_after hk hb2 hq, fun e => ?_, fun e j hj => ?_, fun e hl j hj => ?_, fun e => ?_⟩⟩
  · have hw := h.wk2 e
    rcases F.gw with ⟨h2, _⟩ | ⟨_, h2⟩
    · rw [(h4 h2).1, hw]; rfl
    · exact absurd e h2
  · rw [Bool.and_eq_true] at e
    by_cases hjk : j = k
    · subst hjk
      have h1 : is = false := by simpa using e.2
      rw [← his] at h1
      have h1 : ¬ (gs t.light (gi o j).toNat).hi < b := by simpa using h1
      omega
    · exact h.wkk e.1 j (by omega)
  · subst e
    simp only [Bool.or_eq_false_iff] at hl
    have hs : sv = false := by simpa using hl.2
    by_cases hjk : j = k
    · subst hjk
      rw [← hsv] at hs
      simpa using hs
    · exact h.lt0 rfl hl.1 j (by omega)
  · subst e
    rw [h.lt4 rfl]; rfl
theorem TrueI.end_ {t : Tr} {o : List Int} {l : List Spn} {wv v g now : Int} {each wk lt : Bool} (F : TrueFacts t o l wv v each g) (h : TrueI t o wv v g o.length now wk lt) : (wv = 2 → wk = true) ∧ (wv = 0 → wk = false) := by
  refine ⟨h.wk2, fun e => ?_⟩
  obtain ⟨k, hk, hlt⟩ := F.never e
  cases hw : wk
  · rfl
  · have := h.wkk hw k hk; omega
end Go.Proofs.Ytphefhpmbahagaa
