/- The reference's small functions; the laws' small functions. -/
import Derived.Test.YtlhobddaojdnoaaW4
import Derived.Test.YtlhobddaojdnoaaW7
namespace Go.Proofs.Ytlhobddaojdnoaa
open Go.RowKit

theorem bst {w a b : World} (h : Below w.heap.size w a) (k : Below a.heap.size a b) : Below w.heap.size w b := h.trans (k.mono h.size)
theorem bcell {W w1 : World} (hb : Below W.heap.size W w1) : (∀ b o, b < W.heap.size → w1.cell? ⟨b, o, none⟩ = W.cell? ⟨b, o, none⟩) ∧ (∀ b o, b < W.heap.size → w1.frozen? ⟨b, o, none⟩ = W.frozen? ⟨b, o, none⟩) :=
  ⟨fun b o h => hb.cell (p := ⟨b, o, none⟩) h, fun b o h => hb.frozen (p := ⟨b, o, none⟩) h⟩
theorem great_any (c : Cab) {ah : Option Addr} {ch : Nat} {al : Option Addr} {cl : Nat} (w : World) :
    Calls Try.prog 12 #[c.v ah ch al cl] w fun e w' => e = .returned (.bool (decide (16 < c.homes.length) || decide (30 < c.loans.length))) ∧ Below w.heap.size w w' := by
  have hb : Below w.heap.size w (w.alloc (.cells (c.cells ah ch al cl) 25)) := (Below.refl _ w).alloc (Nat.le_refl _) _
  by_cases h1 : 16 < c.homes.length
  · go_enter Try.func12, Try.ntmps12
    go_wp2
    go_ret
    exact ⟨ret_bool (by first | (simp; done) | (rw [Bool.eq_iff_iff]; simp only [Bool.or_eq_true, decide_eq_true_eq]; omega)), hb⟩
  · have h1' : c.homes.length ≤ 16 := by omega
    by_cases h2 : 30 < c.loans.length
    · go_enter Try.func12, Try.ntmps12
      go_wp2
      go_ret
      exact ⟨ret_bool (by first | (simp; done) | (rw [Bool.eq_iff_iff]; simp only [Bool.or_eq_true, decide_eq_true_eq]; omega)), hb⟩
    · have h2' : c.loans.length ≤ 30 := by omega
      go_enter Try.func12, Try.ntmps12
      go_wp2
      go_ret
      exact ⟨ret_bool (by first | (simp; done) | (rw [Bool.eq_iff_iff]; simp only [Bool.or_eq_true, decide_eq_true_eq]; omega)), hb⟩

theorem rcard_any (n : Int) {c : Cab} {ah : Option Addr} {ch : Nat} {al : Option Addr} {cl : Nat} (w : World) (hn : c.homes.length ≤ 16) :
    Calls Try.prog 56 #[c.v ah ch al cl, .int .i64 n] w fun e w' => e = .returned (.bool (c.card n)) ∧ Below w.heap.size w w' := by
  go_enter Try.func56, Try.ntmps56
  go_wp2_with (go_at_call 78; refine (in_any _ _ _ _).mono ?_; rintro e w' ⟨rfl, rfl⟩)
  go_ret
  exact ⟨rfl, (Below.refl _ w).alloc (Nat.le_refl _) _⟩
theorem rslot_any (n : Int) {c : Cab} {ah : Option Addr} {ch : Nat} {al : Option Addr} {cl : Nat} (w : World) (hs : 0 ≤ c.slots ∧ c.slots ≤ 100) :
    Calls Try.prog 62 #[c.v ah ch al cl, .int .i64 n] w fun e w' => e = .returned (.bool (c.slotOf n)) ∧ Below w.heap.size w w' := by
  obtain ⟨hs0, hs1⟩ := hs
  go_enter Try.func62, Try.ntmps62
  go_wp2_with (go_at_call 78; refine (in_any _ _ _ _).mono ?_; rintro e w' ⟨rfl, rfl⟩)
  go_ret
  exact ⟨rfl, (Below.refl _ w).alloc (Nat.le_refl _) _⟩

abbrev cabW (c : Cab) (ah : Option Addr) (ch : Nat) (al : Option Addr) (cl : Nat) (w : World) : World := w.alloc (.cells (c.cells ah ch al cl) 25)
set_option maxHeartbeats 1000000 in
theorem rloan_any (l : Ln) {c : Cab} {ah : Option Addr} {ch : Nat} {al : Option Addr} {cl : Nat} (w : World) (hn : c.homes.length ≤ 16) (hs : 0 ≤ c.slots ∧ c.slots ≤ 100) :
    Calls Try.prog 79 #[c.v ah ch al cl, .agg l.arr] w fun e w' => e = .returned (.bool (c.loanOk l)) ∧ Below w.heap.size w w' := by
  obtain ⟨k, ca, pe, sl⟩ := l
  have hb : Below w.heap.size w ((cabW c ah ch al cl w).alloc (.cells (Ln.arr ⟨k, ca, pe, sl⟩) 48)) := ((Below.refl _ w).alloc (Nat.le_refl _) _).alloc (by simp) _
  by_cases h2 : k = 2
  · subst h2
    cases h3 : c.slotOf sl
    · go_enter Try.func79, Try.ntmps79
      go_wp2_with fail
      refine (rslot_any sl _ hs).mono ?_
      rintro e w1 ⟨rfl, hb1⟩
      rw [h3]
      go_wp2
      go_ret
      exact ⟨ret_bool (by simp [Cab.loanOk, Cab.look, h3]), bst hb hb1⟩
    · by_cases h4 : ca = -1
      · subst h4
        go_enter Try.func79, Try.ntmps79
        go_wp2_with fail
        refine (rslot_any sl _ hs).mono ?_
        rintro e w1 ⟨rfl, hb1⟩
        rw [h3]
        obtain ⟨hc, hf⟩ := bcell hb1
        go_wp2
        go_ret
        exact ⟨ret_bool (by simp [Cab.loanOk, Cab.look, h3]), bst hb hb1⟩
      · go_enter Try.func79, Try.ntmps79
        go_wp2_with fail
        refine (rslot_any sl _ hs).mono ?_
        rintro e w1 ⟨rfl, hb1⟩
        rw [h3]
        obtain ⟨hc, hf⟩ := bcell hb1
        go_wp2_with fail
        refine (rcard_any ca _ hn).mono ?_
        rintro e w2 ⟨rfl, hb2⟩
        go_wp2
        go_ret
        exact ⟨ret_bool (by simp [Cab.loanOk, Cab.look, h3, h4]), bst (bst hb hb1) hb2⟩
  · by_cases h3 : k = 0 ∨ k = 1
    · have hk : (c.loanOk ⟨k, ca, pe, sl⟩) = c.lent ⟨k, ca, pe, sl⟩ := by
        rcases h3 with rfl | rfl <;> simp [Cab.loanOk]
      rw [hk]
      unfold Cab.lent
      clear hk
      cases h5 : c.card ca
      all_goals
        rcases h3 with rfl | rfl
        all_goals
          go_enter Try.func79, Try.ntmps79
          go_wp2_with fail
          refine (rcard_any ca _ hn).mono ?_
          rintro e w1 ⟨rfl, hb1⟩
          rw [h5]
          obtain ⟨hc, hf⟩ := bcell hb1
          go_wp2_with (go_at_call 78; refine (in_any _ _ _ _).mono ?_; rintro e w' ⟨rfl, rfl⟩)
          go_ret
          exact ⟨ret_bool (by simp), bst hb hb1⟩
    · have h0 : ¬ k = 0 := fun h => h3 (.inl h)
      have h1 : ¬ k = 1 := fun h => h3 (.inr h)
      have hk : (c.loanOk ⟨k, ca, pe, sl⟩) = false := by simp [Cab.loanOk, h0, h1, h2]
      rw [hk]
      clear hk h3
      go_enter Try.func79, Try.ntmps79
      go_wp2
      go_ret
      exact ⟨rfl, hb⟩
end Go.Proofs.Ytlhobddaojdnoaa
