/- The reference's All, Ways. -/
import Derived.Test.YtnfhlbmapfoifaaR13
namespace Go.Proofs.Ytnfhlbmapfoifaa
open Go.RowKit
set_option linter.unusedVariables false

theorem waysL_le {p : Prs} (hn : p.cards.length ≤ 5) : (waysL p).length ≤ 7776 := by
  refine Nat.le_trans (onW_len hn p.cards.length []) ?_
  exact Nat.le_trans (Nat.pow_le_pow_right (by decide) hn) (by decide)
theorem rows_nil {w : World} : RowsAt w w.heap.size (.slice none 0 0) [] := ⟨[], World.ownsRow_nil w _ _ _, rfl, fun i x h => by simp at h⟩
theorem rows_int {w : World} {B : Nat} {v : Value} {l : List (List Int)} (h : RowsAt w B v l) : ∃ a c, v = .slice a l.length c := by
  obtain ⟨vs, h1, _⟩ := h
  obtain ⟨a, c, e, _⟩ := own_slice h1
  exact ⟨a, c, e⟩
theorem all_ref {p : Prs} {a : Option Addr} {cap : Nat} {w : World} (ha : IsPrts w a p.cards) (hv : p.valid = true) :
    Calls Try.prog 60 #[p.v a cap] w fun e w' => ∃ v', e = .returned v' ∧ RowsAt w' w.heap.size v' (waysL p) ∧ Below w.heap.size w w' := by
  have hn5 := (valid_parts hv).1
  have hb0 : Below w.heap.size w (w.alloc (.cells (p.cells a cap) 26)) := (Below.refl _ w).alloc (Nat.le_refl _) _
  have hcall := ways_rec (cap := cap) (ha.mono hb0) hv p.cards.length [] [] (w.alloc (.cells (p.cells a cap) 26)) (.slice none 0 0) (.slice none 0 0) (by simp) (by simp) (by have := waysL_le hn5; unfold waysL at this; simp; omega) (Below.refl _ _) rows_nil (World.ownsRow_nil _ _ _ _)
  have HC := Lib.hid hcall
  have HB := Lib.hid hb0
  clear hcall hb0
  go_enter Try.func60, Try.ntmps60
  go_wp2_with fail
  refine HC.out.mono ?_
  rintro e w' ⟨v', rfl, hp⟩
  obtain ⟨a2, c2, rfl⟩ := rows_int hp.rows
  have hb := hp.below rows_nil (Nat.le_refl _)
  have HR : Hid (RowsAt w' w.heap.size (.slice a2 ([] ++ onW p p.cards.length []).length c2) (waysL p)) := by
    have h2 := hp.rows.base HB.out.size
    rw [List.nil_append] at h2
    rw [Hid, List.nil_append]
    exact h2
  have HB2 := Lib.hid (HB.out.trans (hb.mono HB.out.size))
  clear hp hb
  go_wp2_with fail
  go_ret
  exact ⟨_, rfl, HR.out, HB2.out⟩
theorem ways_ref {p : Prs} {a : Option Addr} {cap : Nat} {w : World} (ha : IsPrts w a p.cards) (hn : p.cards.length ≤ 16) :
    Calls Try.prog 36 #[p.v a cap] w fun e w' => e = .returned (.tuple #[.int .i64 (waysE p).1, .int .i64 (waysE p).2]) ∧ Below w.heap.size w w' := by
  have hb0 : Below w.heap.size w (w.alloc (.cells (p.cells a cap) 26)) := (Below.refl _ w).alloc (Nat.le_refl _) _
  have q0 := World.alloc_heap_new w (.cells (p.cells a cap) 26)
  have HW := Lib.hid (And.intro hb0 (And.intro q0 (ha.mono hb0)))
  clear hb0 q0 ha
  by_cases hE : openE p true = 0
  · obtain ⟨hv, _⟩ := openE_parts hE
    have e1 : waysE p = (((waysL p).length : Int), 0) := by unfold waysE; simp only; rw [if_pos hE]
    have hle := waysL_le (valid_parts hv).1
    rw [e1]
    have HE := Lib.hid hE
    have HV := Lib.hid hv
    clear hE hv e1
    go_enter Try.func36, Try.ntmps36
    go_wp2_with fail
    revert HW
    generalize w.alloc (.cells (p.cells a cap) 26) = w1
    intro HW
    refine (rcheck_any HW.out.2.2 hn true).mono ?_
    rintro e w2 ⟨rfl, hb2⟩
    rw [HE.out]
    obtain ⟨k0, k1, k2, k3, k4⟩ := prs_cells ((hb2.block _ (heap_lt HW.out.2.1)).trans HW.out.2.1)
    have HA2 := Lib.hid (HW.out.2.2.mono hb2)
    have HB2 := Lib.hid (HW.out.1.trans (hb2.mono HW.out.1.size))
    clear hb2
    go_wp2_with fail
    refine (all_ref HA2.out HV.out).mono ?_
    rintro e w3 ⟨v', rfl, hr, hb3⟩
    obtain ⟨a2, c2, rfl⟩ := rows_int hr
    have HB3 := Lib.hid (HB2.out.trans (hb3.mono HB2.out.size))
    clear hr hb3 k0 k1 k2 k3 k4
    go_wp2_with fail
    refine bodyPost_ret (results_tmp2 rfl _ _ _) rfl ?_
    exact ⟨rfl, HB3.out⟩
  · have e1 : waysE p = (0, openE p true) := by unfold waysE; simp only; rw [if_neg hE]
    rw [e1]
    have hnb := bne_iff_ne.2 hE
    have HNB := Lib.hid hE
    clear hE e1
    go_enter Try.func36, Try.ntmps36
    go_wp2_with fail
    refine (rcheck_any HW.out.2.2 hn true).mono ?_
    rintro e w2 ⟨rfl, hb2⟩
    have HB2 := Lib.hid (HW.out.1.trans (hb2.mono HW.out.1.size))
    clear hb2
    go_wp2_with fail
    refine bodyPost_ret (results_tmp2 rfl _ _ _) rfl ?_
    exact ⟨rfl, HB2.out⟩
end Go.Proofs.Ytnfhlbmapfoifaa
