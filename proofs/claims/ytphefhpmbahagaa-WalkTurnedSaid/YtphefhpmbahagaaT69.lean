/- Sure orders can be walked; orders that differ: plain laws. -/
import Derived.Test.YtphefhpmbahagaaT61
namespace Go.Proofs.Ytphefhpmbahagaa
open Go.RowKit
set_option linter.unusedVariables false
set_option linter.unusedSimpArgs false

theorem is_iff (t : Tr) (q : Bool) (o : List Int) : t.is q o = true ↔ ∀ k,k < o.length → t.minAt q o k ≤ (gs t.light (gi o k).toNat).hi := by
  rw [← inL_is,Tr.inL,List.all_eq_true]
  constructor
  · intro h k hk
    have := h k (by simp [hk])
    rw [mins_at _ _ hk,decide_eq_true_eq] at this
    exact this
  · intro h k hk
    have hk : k < o.length := by simpa using hk
    rw [mins_at _ _ hk,decide_eq_true_eq]
    exact h k hk
theorem span_le {s : Spn} (h : s.ok = true) : s.sel false ≤ s.sel true := ((ok_iff s).1 h).2.1
theorem min_le {t : Tr} (hF : t.Fit) {o : List Int} (ho : ∀ x ∈ o,t.view x = true) {k : Nat} (hk : k < o.length) (h : sel false (t.at_ o k).2 ≤ sel true (t.at_ o k).2) : t.minAt false o k ≤ t.minAt true o k := by
  rw [← minAt_max,← minAt_max]
  have := span_le (wayAt_ok hF ho hk)
  omega
theorem at_le {t : Tr} (hF : t.Fit) {o : List Int} (ho : ∀ x ∈ o,t.view x = true) : ∀ k,k ≤ o.length → sel false (t.at_ o k).2 ≤ sel true (t.at_ o k).2
  | 0,_ => Int.le_refl _
  | k + 1,hk => by
    have h1 := min_le hF ho (show k < o.length by omega) (at_le hF ho k (by omega))
    rw [sel_next t false (by omega),sel_next t true (by omega)]
    obtain ⟨m,e,hm⟩ := view_nat (ho _ (gi_mem' (show k < o.length by omega)))
    have h2 := span_le (hF.oks m hm)
    rw [e,Int.toNat_natCast]
    omega
theorem sure_can {t : Tr} (hF : t.Fit) {o : List Int} (ho : ∀ x ∈ o,t.view x = true) (h : t.is true o = true) : t.is false o = true := by
  rw [is_iff] at h ⊢
  intro k hk
  exact Int.le_trans (min_le hF ho hk (at_le hF ho k (by omega))) (h k hk)
theorem tours_720 {n : Nat} (h : n ≤ 6) : (toursL n).length ≤ 720 := by
  have : n = 0 ∨ n = 1 ∨ n = 2 ∨ n = 3 ∨ n = 4 ∨ n = 5 ∨ n = 6 := by omega
  rcases this with rfl | rfl | rfl | rfl | rfl | rfl | rfl <;> decide +kernel
theorem order_mk {t : Tr} {o : List Int} (hd : o.Nodup) (hr : ∀ v ∈ o,0 ≤ v ∧ v < t.frm.length) : t.order o = true := by
  have : (o.all t.view && decide o.Nodup) = true := by
    rw [Bool.and_eq_true,decide_eq_true_eq,List.all_eq_true]
    refine ⟨fun v hv => ?_,hd⟩
    have := hr v hv
    unfold Tr.view inR Tr.n
    rw [Bool.and_eq_true,decide_eq_true_eq,decide_eq_true_eq]
    omega
  exact this
theorem openE_mk {t : Tr} (hv : t.valid = true) {o : List Int} (ho : t.order o = true) : openE t (t.order o) = 0 := by unfold openE; rw [hv,ho]; rfl
theorem cnt_zero {t : Tr} {q : Bool} : t.cnt q (toursL t.frm.length).length = 0 ↔ ∀ x ∈ toursL t.frm.length,t.is q x = false := by
  unfold Tr.cnt
  rw [List.take_length,List.countP_eq_zero]
  simp
theorem cnt_more {t : Tr} (hF : t.Fit) : t.cnt true (toursL t.frm.length).length ≤ t.cnt false (toursL t.frm.length).length := by
  unfold Tr.cnt
  rw [List.take_length]
  exact List.countP_mono_left fun x hx h => sure_can hF (tour_view hx) h
/-- The one that comes before is less where they first differ. -/
theorem cmpL_first : ∀ {x y : List Int} {c : Nat},x.length = y.length → cmpL x y < 0 → c < x.length → (∀ j,j < c → gi x j = gi y j) → gi x c ≠ gi y c → gi x c < gi y c
  | [],_,c,_,_,hc,_,_ => by simp at hc
  | a :: r,[],c,hl,_,_,_,_ => by simp at hl
  | a :: r,b :: s,c,hl,h,hc,hj,hne => by
    rw [cmpL_lt_cons] at h
    cases c with
    | zero =>
      have e1 : gi (a :: r) 0 = a := rfl
      have e2 : gi (b :: s) 0 = b := rfl
      rw [e1,e2] at hne ⊢
      rcases h with h | ⟨h,_⟩
      · exact h
      · exact absurd h hne
    | succ c =>
      have e0 := hj 0 (by omega)
      have e1 : gi (a :: r) 0 = a := rfl
      have e2 : gi (b :: s) 0 = b := rfl
      rw [e1,e2] at e0
      have hg : ∀ (z : Int) (l : List Int) (j : Nat),gi (z :: l) (j + 1) = gi l j := fun z l j => by simp [gi]
      rw [hg,hg] at hne ⊢
      rcases h with h | ⟨_,h⟩
      · omega
      · refine cmpL_first (by simpa using hl) h (by simpa using hc) (fun j hjc => ?_) hne
        have := hj (j + 1) (by omega)
        rwa [hg,hg] at this
/-- The other end is when one is through. -/
theorem times_over {t : Tr} {o : List Int} (hE : openE t (t.order o) = 0) : timesE t o = (t.times o,⟨(t.at_ o o.length).2.1,t.takes o⟩,0) := by
  unfold timesE
  rw [if_pos hE,over_at]
  rfl
end Go.Proofs.Ytphefhpmbahagaa
