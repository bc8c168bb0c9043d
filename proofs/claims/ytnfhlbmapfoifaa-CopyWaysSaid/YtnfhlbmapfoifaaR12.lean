/- The reference's ways: all ways, in memory of their own. -/
import Derived.Test.YtnfhlbmapfoifaaR11
namespace Go.Proofs.Ytnfhlbmapfoifaa
open Go.RowKit
set_option linter.unusedVariables false

def accW (p : Prs) (d : Nat) (pre : List Int) (acc : List (List Int)) (j : Nat) : List (List Int) := acc ++ ((froms p.cards.length).take j).flatMap (onF p d pre)
theorem accW_zero (p : Prs) (d : Nat) (pre : List Int) (acc : List (List Int)) : accW p d pre acc 0 = acc := by simp [accW]
theorem accW_succ (p : Prs) (d : Nat) (pre : List Int) (acc : List (List Int)) {j : Nat} (h : j < p.cards.length + 1) : accW p d pre acc (j + 1) = accW p d pre acc j ++ onF p d pre ((j : Int) - 1) := by
  unfold accW
  rw [List.take_succ_eq_append_getElem (by rw [froms_len]; exact h), froms_get h, List.flatMap_append, List.append_assoc]
  simp
theorem accW_all (p : Prs) (d : Nat) (pre : List Int) (acc : List (List Int)) : accW p d pre acc (p.cards.length + 1) = acc ++ onW p (d + 1) pre := by
  unfold accW
  rw [List.take_of_length_le (by rw [froms_len]; exact Nat.le_refl _), onW_succ]
theorem accW_le (p : Prs) (d : Nat) (pre : List Int) (acc : List (List Int)) {j : Nat} (h : j < p.cards.length + 1) : (accW p d pre acc j).length + (onF p d pre ((j : Int) - 1)).length ≤ acc.length + (onW p (d + 1) pre).length := by
  have h1 := cntF_succ p d pre h
  have h2 := cntF_all p d pre
  have h3 : ∀ m, j + 1 + m ≤ p.cards.length + 1 → cntF p d pre (j + 1) ≤ cntF p d pre (j + 1 + m) := by
    intro m
    induction m with
    | zero => intro _; exact Nat.le_refl _
    | succ m ih =>
      intro hm
      have := cntF_succ p d pre (j := j + 1 + m) (by omega)
      have := ih (by omega)
      rw [show j + 1 + (m + 1) = (j + 1 + m) + 1 by omega]
      omega
  have h4 := h3 (p.cards.length - j) (by omega)
  rw [show j + 1 + (p.cards.length - j) = p.cards.length + 1 by omega] at h4
  have h5 : (accW p d pre acc j).length = acc.length + cntF p d pre j := by unfold accW cntF; rw [List.length_append]
  omega
theorem ownsRow_zero {w : World} {B : Nat} (h : B ≤ w.heap.size) : (w.alloc (.cells #[] 3)).ownsRow B 3 1 (.slice (some ⟨w.heap.size, 0, none⟩) 0 0) 0 [] := World.ownsRow_made (e := 3) (size := 1) w #[] 0 (base := B) h (by simp [maxLen]) (by simp)
set_option maxRecDepth 100000 in
set_option maxHeartbeats 4000000 in
theorem ways_leaf {W0 : World} {p : Prs} {a : Option Addr} {cap : Nat} (hP : IsPrts W0 a p.cards) (hv : p.valid = true) {pre : List Int} {acc : List (List Int)} {A : World} {vp vo : Value} (hl : pre.length = p.cards.length) (hr : ∀ x ∈ pre, -1 ≤ x ∧ x < p.cards.length)
    (hacc : acc.length ≤ 1000000) (hA : Below W0.heap.size W0 A) (hR : RowsAt A W0.heap.size vo acc) (hown : A.ownsRow W0.heap.size 3 1 vp pre.length (pre.map (Value.int .i64))) :
    Calls Try.prog 100 #[p.v a cap, vp, vo] A fun e A' => ∃ v', e = .returned v' ∧ WyPost W0.heap.size (acc ++ onW p 0 pre) A vo v' A' := by
  have hn5 := (valid_parts hv).1
  have hb0 : Below A.heap.size A (A.alloc (.cells (p.cells a cap) 26)) := (Below.refl _ A).alloc (Nat.le_refl _) _
  have q0 := World.alloc_heap_new A (.cells (p.cells a cap) 26)
  obtain ⟨av, cv, rfl, _⟩ := own_slice hown
  obtain ⟨vs0, hvs0, _⟩ := id hR
  obtain ⟨ao, co, rfl, _⟩ := own_slice hvs0
  have hw1 := way_ref (cap := cap) (cw := cv) hv (⟨hl, hr⟩ : GoodW p.cards.length pre) (hP.mono (hA.trans (hb0.mono hA.size))) ((own_ints hown).mono hb0)
  have HW1 := Lib.hid hw1
  have HH := Lib.hid (And.intro hb0 (And.intro hA (And.intro hR (And.intro hown hacc))))
  have hkn : ((pre.length : Int) == (p.cards.length : Int)) = true := by rw [hl]; simp
  have h5 : pre.length ≤ 5 := by omega
  have HE : Hid (onW p 0 pre = if isWayB p pre then [pre] else []) := onW_zero p pre
  clear hb0 q0 hA hR hown hw1 hl hr hP hvs0
  go_enter Try.func100, Try.ntmps100
  go_wp2_with fail
  refine HW1.out.mono ?_
  rintro e V ⟨rfl, hbV⟩
  have HV := Lib.hid (HH.out.1.trans (hbV.mono HH.out.1.size))
  clear hbV
  cases hw : isWayB p pre
  · have HW := Lib.hid hw
    clear hw
    go_wp2_with fail
    go_ret
    rw [HE.out, HW.out]
    exact ⟨_, rfl, by simpa using (WyPost.refl HH.out.2.2.1).then HV.out⟩
  · have HW := Lib.hid hw
    clear hw
    obtain ⟨v', w', hrun, hpost⟩ := rows_add HH.out.2.2.1 HV.out HH.out.2.2.2.1 HH.out.2.1.size HH.out.2.2.2.2
    have HR := Lib.hid hrun
    have HQ := Lib.hid hpost
    clear hrun hpost
    go_wp2_with (at_builtin; refine wpList_append_run rfl (.tmp 17) (.tmp 19) 32 rfl _ _ _ _ rfl rfl HR.out ?_)
    go_ret
    rw [HE.out, HW.out]
    exact ⟨_, rfl, HQ.out⟩
end Go.Proofs.Ytnfhlbmapfoifaa
