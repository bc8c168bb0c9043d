/- Sure orders can be walked; the shortest tour: the plain law. -/
import Derived.Test.YtphefhpmbahagaaT61
import Derived.Test.YtphefhpmbahagaaT71
namespace Go.Proofs.Ytphefhpmbahagaa
open Go.RowKit
set_option linter.unusedVariables false
set_option linter.unusedSimpArgs false

theorem is_iff (t : Tr) (q : Bool) (o : List Int) : t.is q o = true ↔ ∀ k, k < o.length → t.minAt q o k ≤ (gs t.light (gi o k).toNat).hi := by
  rw [← inL_is, Tr.inL, List.all_eq_true]
  constructor
  · intro h k hk
    have := h k (by simp [hk])
    rw [mins_at _ _ hk, decide_eq_true_eq] at this
    exact this
  · intro h k hk
    have hk : k < o.length := by simpa using hk
    rw [mins_at _ _ hk, decide_eq_true_eq]
    exact h k hk
theorem span_le {s : Spn} (h : s.ok = true) : s.sel false ≤ s.sel true := ((ok_iff s).1 h).2.1
theorem min_le {t : Tr} (hF : t.Fit) {o : List Int} (ho : ∀ x ∈ o, t.view x = true) {k : Nat} (hk : k < o.length) (h : sel false (t.at_ o k).2 ≤ sel true (t.at_ o k).2) : t.minAt false o k ≤ t.minAt true o k := by
  rw [← minAt_max, ← minAt_max]
  have := span_le (wayAt_ok hF ho hk)
  omega
theorem at_le {t : Tr} (hF : t.Fit) {o : List Int} (ho : ∀ x ∈ o, t.view x = true) : ∀ k, k ≤ o.length → sel false (t.at_ o k).2 ≤ sel true (t.at_ o k).2
  | 0, _ => Int.le_refl _
  | k + 1, hk => by
    have h1 := min_le hF ho (show k < o.length by omega) (at_le hF ho k (by omega))
    rw [sel_next t false (by omega), sel_next t true (by omega)]
    obtain ⟨m, e, hm⟩ := view_nat (ho _ (gi_mem' (show k < o.length by omega)))
    have h2 := span_le (hF.oks m hm)
    rw [e, Int.toNat_natCast]
    omega
theorem sure_can {t : Tr} (hF : t.Fit) {o : List Int} (ho : ∀ x ∈ o, t.view x = true) (h : t.is true o = true) : t.is false o = true := by
  rw [is_iff] at h ⊢
  intro k hk
  exact Int.le_trans (min_le hF ho hk (at_le hF ho k (by omega))) (h k hk)
theorem tours_720 {n : Nat} (h : n ≤ 6) : (toursL n).length ≤ 720 := by
  have : n = 0 ∨ n = 1 ∨ n = 2 ∨ n = 3 ∨ n = 4 ∨ n = 5 ∨ n = 6 := by omega
  rcases this with rfl | rfl | rfl | rfl | rfl | rfl | rfl <;> decide +kernel
theorem perm_tour {n : Nat} {o : List Int} (h : IsPerm n o) : o ∈ toursL n := tours_all h.1 h.2.1 h.2.2
theorem order_mk {t : Tr} {o : List Int} (hd : o.Nodup) (hr : ∀ v ∈ o, 0 ≤ v ∧ v < t.frm.length) : t.order o = true := by
  have : (o.all t.view && decide o.Nodup) = true := by
    rw [Bool.and_eq_true, decide_eq_true_eq, List.all_eq_true]
    refine ⟨fun v hv => ?_, hd⟩
    have := hr v hv
    unfold Tr.view inR Tr.n
    rw [Bool.and_eq_true, decide_eq_true_eq, decide_eq_true_eq]
    omega
  exact this
theorem openE_mk {t : Tr} (hv : t.valid = true) {o : List Int} (ho : t.order o = true) : openE t (t.order o) = 0 := by unfold openE; rw [hv, ho]; rfl
theorem cnt_zero {t : Tr} {q : Bool} : t.cnt q (toursL t.frm.length).length = 0 ↔ ∀ x ∈ toursL t.frm.length, t.is q x = false := by
  unfold Tr.cnt
  rw [List.take_length, List.countP_eq_zero]
  simp
theorem cnt_more {t : Tr} (hF : t.Fit) : t.cnt true (toursL t.frm.length).length ≤ t.cnt false (toursL t.frm.length).length := by
  unfold Tr.cnt
  rw [List.take_length]
  exact List.countP_mono_left fun x hx h => sure_can hF (tour_view hx) h
/-- The one that comes before is less where they first differ. -/
theorem cmpL_first : ∀ {x y : List Int} {c : Nat}, x.length = y.length → cmpL x y < 0 → c < x.length → (∀ j, j < c → gi x j = gi y j) → gi x c ≠ gi y c → gi x c < gi y c
  | [], _, c, _, _, hc, _, _ => by simp at hc
  | a :: r, [], c, hl, _, _, _, _ => by simp at hl
  | a :: r, b :: s, c, hl, h, hc, hj, hne => by
    rw [cmpL_lt_cons] at h
    cases c with
    | zero =>
      have e1 : gi (a :: r) 0 = a := rfl
      have e2 : gi (b :: s) 0 = b := rfl
      rw [e1, e2] at hne ⊢
      rcases h with h | ⟨h, _⟩
      · exact h
      · exact absurd h hne
    | succ c =>
      have e0 := hj 0 (by omega)
      have e1 : gi (a :: r) 0 = a := rfl
      have e2 : gi (b :: s) 0 = b := rfl
      rw [e1, e2] at e0
      have hg : ∀ (z : Int) (l : List Int) (j : Nat), gi (z :: l) (j + 1) = gi l j := fun z l j => by simp [gi]
      rw [hg, hg] at hne ⊢
      rcases h with h | ⟨_, h⟩
      · omega
      · refine cmpL_first (by simpa using hl) h (by simpa using hc) (fun j hjc => ?_) hne
        have := hj (j + 1) (by omega)
        rwa [hg, hg] at this
/-- What the law asks of the shortest tour and another one, if the views are valid. -/
structure ShortFacts (t : Tr) (own : List Int) (su ca e wv : Int) (l most : List Int) : Prop where
  su0 : 0 ≤ su
  suca : su ≤ ca
  ca7 : ca ≤ 720
  esu : (e == 0) = decide (0 < su)
  ord : t.order most = true
  mlen : most.length ≤ 6
  e04 : e = 0 ∨ (e = 4 ∧ l = [] ∧ most.length < t.frm.length)
  w2 : wv = 2 → e = 0
  w0 : wv ≠ 0 → 0 < ca
  best : e = 0 → l.length = t.frm.length ∧ most = l ∧ t.order l = true ∧ walkedE t l = (2, 0) ∧ (wv = 2 → t.takes l ≤ t.takes own ∧
    (t.takes own = t.takes l → ∀ c, c < t.frm.length → (∀ j, j < c → gi own j = gi l j) → gi own c ≠ gi l c → gi l c < gi own c))
theorem short_facts {t : Tr} (hv : t.valid = true) {own : List Int} (hp : IsPerm t.frm.length own) :
    ∃ su ca e wv l most, shortE t = (l, e) ∧ toursE t = (su, ca, 0) ∧ mostE t = (most, 0) ∧ walkedE t own = (wv, 0) ∧ ShortFacts t own su ca e wv l most := by
  have hF := fit_of_valid hv
  have hE : openE t true = 0 := by unfold openE; rw [hv]; rfl
  have hoo : t.order own = true := order_mk hp.2.1 hp.2.2
  have hEo := openE_mk hv hoo
  have hto := perm_tour hp
  obtain ⟨f1, f2, f3, f4⟩ := best_facts t
  have hob : t.order (bestE t).1 = true := order_mk f1 f2
  have hbl := (all_in _ _ f1 f2).1
  have hb6 : (bestE t).1.length ≤ 6 := by have := hF.n; omega
  have hs0 := cnt_zero (t := t) (q := true)
  have hc0 := cnt_zero (t := t) (q := false)
  have hsc := cnt_more hF
  have hc7 : t.cnt false (toursL t.frm.length).length ≤ 720 := Nat.le_trans (cnt_le t false _) (tours_720 hF.n)
  have hcan := sure_can hF (order_view hoo)
  have hw2 : (walkedE t own).1 = 2 → t.is true own = true := fun h => by
    unfold walkedE at h
    rw [if_pos hEo] at h
    cases e : t.is true own
    · rw [e] at h; cases e2 : t.is false own <;> rw [e2] at h <;> simp at h
    · rfl
  have hw0 : (walkedE t own).1 ≠ 0 → t.is false own = true := fun h => by
    unfold walkedE at h
    rw [if_pos hEo] at h
    cases e : t.is true own
    · rw [e] at h
      cases e2 : t.is false own
      · rw [e2] at h; exact absurd rfl h
      · rfl
    · exact hcan e
  have hwz : (walkedE t own).2 = 0 := by unfold walkedE; rw [if_pos hEo]
  have t1 : toursE t = (((t.cnt true (toursL t.frm.length).length : Nat) : Int), ((t.cnt false (toursL t.frm.length).length : Nat) : Int), 0) := by unfold toursE; rw [if_pos hE]
  have t2 : mostE t = ((bestE t).1, 0) := by unfold mostE; rw [if_pos hE]
  have t3 : shortE t = (if (bestE t).1.length = t.frm.length then ((bestE t).1, 0) else ([], 4)) := by unfold shortE; rw [if_pos hE]
  have hca : (walkedE t own).1 ≠ 0 → (0 : Int) < (t.cnt false (toursL t.frm.length).length : Nat) := fun h => by
    have h1 := hw0 h
    have h2 : ¬ t.cnt false (toursL t.frm.length).length = 0 := fun e => by have := hc0.1 e own hto; rw [h1] at this; cases this
    omega
  by_cases hs : (bestE t).1.length = t.frm.length
  · rw [if_pos hs] at t3
    have hpos : ¬ t.cnt true (toursL t.frm.length).length = 0 := fun e => by
      have := hs0.1 e _ (tours_all hs f1 f2)
      rw [f3] at this; cases this
    refine ⟨((t.cnt true (toursL t.frm.length).length : Nat) : Int), ((t.cnt false (toursL t.frm.length).length : Nat) : Int), 0, (walkedE t own).1, _, _, t3, t1, t2, Prod.ext rfl hwz, ⟨by omega, by omega, by omega, ?_, hob, hb6, .inl rfl, fun _ => rfl, hca, fun _ => ⟨hs, rfl, hob, ?_, fun hw => ?_⟩⟩⟩
    · symm
      rw [show ((0 : Int) == 0) = true from rfl, decide_eq_true_eq]
      omega
    · unfold walkedE
      rw [if_pos (openE_mk hv hob), f3]
      rfl
    · have hsure := hw2 hw
      have hlow := sure_low hp.2.1 hp.2.2 hsure
      rw [f4, betE_lt] at hlow
      have k1 : (t.key own).1 = own := rfl
      have k2 : (t.key own).2 = t.takes own := rfl
      have k3 : (t.key (bestE t).1).1 = (bestE t).1 := rfl
      have k4 : (t.key (bestE t).1).2 = t.takes (bestE t).1 := rfl
      rw [k1, k2, k3, k4] at hlow
      have hlen : own.length = (bestE t).1.length := hp.1.trans hs.symm
      refine ⟨?_, fun heq c hc hj hne => ?_⟩
      · by_cases h : t.takes own < t.takes (bestE t).1
        · exact absurd (.inr ⟨hlen, .inl h⟩) hlow
        · omega
      · have hn : ¬ cmpL own (bestE t).1 < 0 := fun h => hlow (.inr ⟨hlen, .inr ⟨heq, h⟩⟩)
        rcases cmpL_total own (bestE t).1 with h | h | h
        · exact absurd h hn
        · exact absurd (by rw [h]) hne
        · exact cmpL_first hlen.symm h (by omega) (fun j hjc => (hj j hjc).symm) (Ne.symm hne)
  · rw [if_neg hs] at t3
    have hno : ∀ x ∈ toursL t.frm.length, t.is true x = false := fun x hx => by
      cases e : t.is true x
      · rfl
      · obtain ⟨g1, g2, g3⟩ := tour_mem hx
        have hlow := sure_low g3 g2 e
        rw [betE_lt] at hlow
        have e2 : (t.key x).1.length = t.frm.length := g1
        exact absurd (.inl (by rw [e2]; omega)) hlow
    have hz : t.cnt true (toursL t.frm.length).length = 0 := hs0.2 hno
    refine ⟨((t.cnt true (toursL t.frm.length).length : Nat) : Int), ((t.cnt false (toursL t.frm.length).length : Nat) : Int), 4, (walkedE t own).1, _, _, t3, t1, t2, Prod.ext rfl hwz, ⟨by omega, by omega, by omega, ?_, hob, hb6, .inr ⟨rfl, rfl, by omega⟩, fun hw => ?_, hca, fun h => by cases h⟩⟩
    · rw [hz]; rfl
    · have := hno own hto
      rw [hw2 hw] at this; cases this
/-- If the views are not valid. -/
theorem short_err {t : Tr} (hv : t.valid = false) : shortE t = ([], 1) ∧ toursE t = (0, 0, 1) ∧ mostE t = ([], 1) := by
  have hE : openE t true = 1 := by unfold openE; rw [hv]; rfl
  refine ⟨?_, ?_, ?_⟩
  · unfold shortE; rw [hE]; rfl
  · unfold toursE; rw [hE]; rfl
  · unfold mostE; rw [hE]; rfl
/-- The other end is when one is through. -/
theorem times_over {t : Tr} {o : List Int} (hE : openE t (t.order o) = 0) : timesE t o = (t.times o, ⟨(t.at_ o o.length).2.1, t.takes o⟩, 0) := by
  unfold timesE
  rw [if_pos hE, over_at]
  rfl
end Go.Proofs.Ytphefhpmbahagaa
