/- The reference's Chain. The reference's orders: all orders, in memory of their own. The reference's Orders. -/
import Derived.Test.YtnfhlbmapfoifaaR6
import Derived.Test.YtnfhlbmapfoifaaR19
import Derived.Test.YtnfhlbmapfoifaaW27
import Derived.StillTailTactics
import Derived.Test.YtnfhlbmapfoifaaR11
import Derived.Test.YtnfhlbmapfoifaaW38
import Derived.Test.YtnfhlbmapfoifaaR13
namespace Go.Proofs.Ytnfhlbmapfoifaa
open Go.RowKit
set_option linter.unusedVariables false

theorem lastF_take {o : List Int} {k : Nat} (hk : k < o.length) : lastF (-1) (o.take (k + 1)) = gi o k := by
  rw [List.take_succ_eq_append_getElem hk, lastF_snoc]
  simp [gi, hk]
set_option maxRecDepth 100000 in
set_option maxHeartbeats 4000000 in
theorem chain_ref {p : Prs} {a : Option Addr} {cap : Nat} {o : List Int} {ao : Option Addr} {co : Nat} {w : World} (hv : p.valid = true) (hol : o.length = p.cards.length) (ho : ∀ x ∈ o, 0 ≤ x ∧ x < o.length) (ha : IsPrts w a p.cards) (hi : IsInts w ao o) :
    Calls Try.prog 26 #[p.v a cap, .slice ao o.length co] w fun e w' => e = .returned (.bool (isWayB p (chainL o))) ∧ Below w.heap.size w w' := by
  have hn5 := (valid_parts hv).1
  have hn : o.length ≤ 5 := by omega
  obtain ⟨i0, hi0, hi1, hi2, hi3⟩ := info_parts infoI
  have hmk : ∀ w, (Instr.makeSlice 42 (.int .i64 (o.length : Int)) (.int .i64 (o.length : Int))).run Try.prog w = .ok (.slice (some ⟨w.heap.size, 0, none⟩) o.length o.length) (w.alloc (.cells (intArr (List.replicate o.length 0)) 3)) := by
    intro w
    have h := run_make (P := Try.prog) (w := w) 42 3 i0 _ Try.underlying42 hi0 hi1 .i64 .i64 (o.length : Int) (o.length : Int) (by omega) (by omega) (by rw [hi3]; omega) (by omega)
    rw [← made_ints]
    simpa [hi2, Value.cells] using h
  have hb0 : Below w.heap.size w (w.alloc (.cells (p.cells a cap) 26)) := (Below.refl _ w).alloc (Nat.le_refl _) _
  have q0 := World.alloc_heap_new w (.cells (p.cells a cap) 26)
  have hb1 : Below w.heap.size w ((w.alloc (.cells (p.cells a cap) 26)).alloc (.cells (intArr (List.replicate o.length 0)) 3)) := hb0.alloc (by simp) _
  have q1 := World.alloc_heap_new (w.alloc (.cells (p.cells a cap) 26)) (.cells (intArr (List.replicate o.length 0)) 3)
  rw [World.size_alloc] at q1
  have q2 : ((w.alloc (.cells (p.cells a cap) 26)).alloc (.cells (intArr (List.replicate o.length 0)) 3)).heap[w.heap.size]? = some (.cells (p.cells a cap) 26 (0, 0)) := (Below.heap_alloc _ _ _ (by simp)).trans q0
  have HW := Lib.hid (And.intro hb1 (And.intro q1 q2))
  have HO := Lib.hid (And.intro ho (And.intro hol hv))
  have HA := Lib.hid (And.intro ha hi)
  have HLT : Hid (∀ b off, ao = some ⟨b, off, none⟩ → 0 < o.length → b < w.heap.size) := fun b off e h => by
    obtain ⟨b', off', e', hc⟩ := hi 0 h
    rw [e] at e'
    cases e'
    exact lt_of_cell hc
  have hsz : (w.alloc (.cells (p.cells a cap) 26)).heap.size = w.heap.size + 1 := World.size_alloc ..
  clear hb0 q0 hb1 q1 q2 hi0 hi1 hi2 hi3 ho ha hi hol
  go_enter Try.func26, Try.ntmps26
  go_wp2_with fail
  go_loopw [6] (fun i wr => ∃ k : Nat, k ≤ o.length ∧ i = .int .i64 k ∧ Below w.heap.size w wr ∧ Hid (wr.heap[w.heap.size + 1]? = some (.cells (intArr (chainF (List.replicate o.length 0) (-1) (o.take k))) 3 (0, 0)) ∧ wr.heap[w.heap.size]? = some (.cells (p.cells a cap) 26 (0, 0)))) (fun i _ => o.length - (intOf i).toNat)
  case atStart => exact ⟨0, by omega, rfl, HW.out.1, HW.out.2⟩
  case round =>
    obtain ⟨k, hk, rfl, hB, HC⟩ := hrel
    by_cases hlt : k < o.length
    · obtain ⟨b, off, rfl, hc0⟩ := HA.out.2.at hlt
      have hx := HO.out.1 _ (List.getElem_mem hlt)
      have e1 : gi o k = o[k] := by simp [gi, hlt]
      obtain ⟨m, hm⟩ := Int.eq_ofNat_of_zero_le hx.1
      have hc' := cell_stays hB (hc0 k hlt)
      have e2 : o.take (k + 1) = o.take k ++ [(m : Int)] := by rw [List.take_succ_eq_append_getElem hlt, hm]
      rw [e1, hm] at hc'
      rw [hm] at hx
      have hml : m < o.length := by omega
      have hl1 : m < (chainF (List.replicate o.length 0) (-1) (o.take k)).length := by rw [chainF_len]; simpa using hml
      have HS : Hid (chainF (List.replicate o.length 0) (-1) (o.take (k + 1)) = (chainF (List.replicate o.length 0) (-1) (o.take k)).set m (lastF (-1) (o.take k))) := by rw [Hid, e2, chainF_snoc]; rfl
      have ca : ∃ u, wr.cell? ⟨w.heap.size + 1, m, none⟩ = some u := by
        rw [cell_of_heap HC.out.1]
        exact ⟨_, by simp [intArr, hl1]; rfl⟩
      obtain ⟨u, ca⟩ := ca
      have fa : wr.frozen? ⟨w.heap.size + 1, m, none⟩ = false := frozen_of_heap HC.out.1
      have HB := Lib.hid hB
      have HM := Lib.hid (And.intro hm (And.intro e1 e2))
      have HL1 := Lib.hid hl1
      by_cases h0 : k = 0
      · subst h0
        rw [Nat.add_zero] at hc'
        have HZ : Hid (lastF (-1) (o.take 0) = -1) := rfl
        clear hx e1 e2 hm hB hl1 hc0
        go_wp2_with fail
        go_roundw
        case rel => exact ⟨0 + 1, by omega, by go_num, HB.out.setCell (show w.heap.size ≤ w.heap.size + 1 by omega) _, by rw [Hid, HS.out, HZ.out, ← intArr_set]; exact ⟨heap_setCell_at HC.out.1 _, (heap_setCell_other wr _ w.heap.size _ (by simp)).trans HC.out.2⟩⟩
        case measure => simp [intOf]; omega
      · obtain ⟨i, rfl⟩ : ∃ i, k = i + 1 := ⟨k - 1, by omega⟩
        have HL := Lib.hid (lastF_take (o := o) (k := i) (by omega))
        have hbo : b ≠ w.heap.size + 1 := fun e => by have := HLT.out b off rfl (by omega); omega
        have hq2 : (wr.setCell ⟨w.heap.size + 1, m, none⟩ (.int .i64 (-1))).cell? ⟨b, off + (i + 1), none⟩ = some (.int .i64 m) := (World.cell?_setCell_far _ _ _ _ (Ne.symm hbo)).trans hc'
        have hq3 : (wr.setCell ⟨w.heap.size + 1, m, none⟩ (.int .i64 (-1))).cell? ⟨b, off + i, none⟩ = some (.int .i64 (gi o i)) := (World.cell?_setCell_far _ _ _ _ (Ne.symm hbo)).trans (cell_stays HB.out (hc0 i (by omega)))
        have hq4 : (wr.setCell ⟨w.heap.size + 1, m, none⟩ (.int .i64 (-1))).heap[w.heap.size + 1]? = some (.cells ((intArr (chainF (List.replicate o.length 0) (-1) (o.take (i + 1)))).setIfInBounds m (.int .i64 (-1))) 3 (0, 0)) := heap_setCell_at HC.out.1 _
        have hq5 : (wr.setCell ⟨w.heap.size + 1, m, none⟩ (.int .i64 (-1))).heap[w.heap.size]? = some (.cells (p.cells a cap) 26 (0, 0)) := (heap_setCell_other wr _ w.heap.size _ (by simp)).trans HC.out.2
        have HQ := Lib.hid (And.intro hq2 (And.intro hq3 (And.intro hq4 (And.intro hq5 (HB.out.setCell (p := ⟨w.heap.size + 1, m, none⟩) (show w.heap.size ≤ w.heap.size + 1 by omega) (.int .i64 (-1)))))))
        clear hx e1 e2 hm hB hl1 hc0 hq2 hq3 hq4 hq5
        go_wp2_with fail
        revert HQ
        generalize wr.setCell ⟨w.heap.size + 1, m, none⟩ (.int .i64 (-1)) = W2
        intro HQ
        obtain ⟨k0, k1, k2, k3, k4⟩ := HQ.out
        clear k2 k3 k4 ca fa
        have ca : ∃ u, W2.cell? ⟨w.heap.size + 1, m, none⟩ = some u := by
          rw [cell_of_heap HQ.out.2.2.1]
          exact ⟨_, by simp [intArr, HL1.out]; rfl⟩
        obtain ⟨u, ca⟩ := ca
        have fa : W2.frozen? ⟨w.heap.size + 1, m, none⟩ = false := frozen_of_heap HQ.out.2.2.1
        go_region
        go_wp2_with fail
        go_roundw
        case rel => exact ⟨i + 1 + 1, by omega, by go_num, (HQ.out.2.2.2.2.setCell (p := ⟨w.heap.size + 1, m, none⟩) (show w.heap.size ≤ w.heap.size + 1 by omega) (.int .i64 (gi o i))).drew, by
          have h1 := heap_setCell_at (k := m) HQ.out.2.2.1 (.int .i64 (gi o i))
          rw [Array.setIfInBounds_setIfInBounds] at h1
          rw [Hid, HS.out, HL.out, ← intArr_set]
          exact ⟨h1, (heap_setCell_other W2 ⟨w.heap.size + 1, m, none⟩ w.heap.size _ (by simp)).trans HQ.out.2.2.2.1⟩⟩
        case measure => simp [intOf]; omega
    · obtain rfl : k = o.length := by omega
      rw [List.take_length] at HC
      obtain ⟨k0, k1, k2, k3, k4⟩ := prs_cells HC.out.2
      have HB := Lib.hid hB
      clear hB
      go_wp2_with fail
      have hg := chainL_good HO.out.2.1 (fun x hx => by have h1 := HO.out.1 x hx; have h2 := HO.out.2.1; omega)
      have hii : IsInts wr (some ⟨w.heap.size + 1, 0, none⟩) (chainL o) := fun i hi => by
        refine ⟨w.heap.size + 1, 0, rfl, ?_⟩
        rw [cell_of_heap HC.out.1]
        have : i < (chainF (List.replicate o.length 0) (-1) o).length := hi
        simp [intArr, gi, chainL, this]
      have hcall := way_ref (cap := cap) (cw := o.length) HO.out.2.2 hg (HA.out.1.mono HB.out) hii
      rw [chainL_len] at hcall
      refine hcall.mono ?_
      rintro e w3 ⟨rfl, hb3⟩
      have HB3 := Lib.hid (HB.out.trans (hb3.mono HB.out.size))
      clear hb3 hg hii hcall k0 k1 k2 k3 k4
      go_wp2_with fail
      go_ret
      exact ⟨rfl, HB3.out⟩
end Go.Proofs.Ytnfhlbmapfoifaa

namespace Go.Proofs.Ytnfhlbmapfoifaa
open Go.RowKit
set_option linter.unusedVariables false

def accO (p : Prs) (d : Nat) (pre : List Int) (acc : List (List Int)) (j : Nat) : List (List Int) := acc ++ ((List.range p.cards.length).take j).flatMap (oF p d pre)
theorem accO_zero (p : Prs) (d : Nat) (pre : List Int) (acc : List (List Int)) : accO p d pre acc 0 = acc := by simp [accO]
theorem accO_succ (p : Prs) (d : Nat) (pre : List Int) (acc : List (List Int)) {j : Nat} (h : j < p.cards.length) : accO p d pre acc (j + 1) = accO p d pre acc j ++ oF p d pre j := by
  unfold accO
  rw [List.take_succ_eq_append_getElem (by simpa using h), List.flatMap_append, List.append_assoc]
  simp
theorem accO_all (p : Prs) (d : Nat) (pre : List Int) (acc : List (List Int)) : accO p d pre acc p.cards.length = acc ++ onO p (d + 1) pre := by
  unfold accO
  rw [List.take_of_length_le (by simp), onO_succ]
theorem accO_mono (p : Prs) (d : Nat) (pre : List Int) (acc : List (List Int)) {j : Nat} : ∀ m, j + m ≤ p.cards.length → (accO p d pre acc j).length ≤ (accO p d pre acc (j + m)).length
  | 0, _ => Nat.le_refl _
  | m + 1, h => by
    have h1 := accO_mono p d pre acc m (j := j) (by omega)
    have h2 := accO_succ p d pre acc (j := j + m) (by omega)
    rw [show j + (m + 1) = j + m + 1 from rfl, h2, List.length_append]
    omega
theorem accO_le (p : Prs) (d : Nat) (pre : List Int) (acc : List (List Int)) {j : Nat} (h : j < p.cards.length) : (accO p d pre acc j).length + (oF p d pre j).length ≤ acc.length + (onO p (d + 1) pre).length := by
  have h1 := accO_mono p d pre acc (j := j + 1) (p.cards.length - (j + 1)) (by omega)
  rw [accO_succ p d pre acc h, show j + 1 + (p.cards.length - (j + 1)) = p.cards.length by omega, accO_all, List.length_append, List.length_append] at h1
  exact h1
set_option maxRecDepth 100000 in
set_option maxHeartbeats 4000000 in
theorem orders_leaf {W0 : World} {p : Prs} {a : Option Addr} {cap : Nat} (hP : IsPrts W0 a p.cards) (hv : p.valid = true) {pre : List Int} {acc : List (List Int)} {A : World} {vp vo : Value} (hl : pre.length = p.cards.length) (hr : ∀ x ∈ pre, 0 ≤ x ∧ x < p.cards.length)
    (hacc : acc.length ≤ 1000000) (hA : Below W0.heap.size W0 A) (hR : RowsAt A W0.heap.size vo acc) (hown : A.ownsRow W0.heap.size 3 1 vp pre.length (pre.map (Value.int .i64))) :
    Calls Try.prog 64 #[p.v a cap, vp, vo] A fun e A' => ∃ v', e = .returned v' ∧ WyPost W0.heap.size (acc ++ onO p 0 pre) A vo v' A' := by
  have hn5 := (valid_parts hv).1
  have hb0 : Below A.heap.size A (A.alloc (.cells (p.cells a cap) 26)) := (Below.refl _ A).alloc (Nat.le_refl _) _
  have q0 := World.alloc_heap_new A (.cells (p.cells a cap) 26)
  obtain ⟨av, cv, rfl, _⟩ := own_slice hown
  obtain ⟨vs0, hvs0, _⟩ := id hR
  obtain ⟨ao, co, rfl, _⟩ := own_slice hvs0
  have hw1 := chain_ref (cap := cap) (co := cv) hv hl (fun x hx => by have := hr x hx; omega) (hP.mono (hA.trans (hb0.mono hA.size))) ((own_ints hown).mono hb0)
  have HW1 := Lib.hid hw1
  have HH := Lib.hid (And.intro hb0 (And.intro hA (And.intro hR (And.intro hown hacc))))
  have hkn : ((pre.length : Int) == (p.cards.length : Int)) = true := by rw [hl]; simp
  have h5 : pre.length ≤ 5 := by omega
  have HE : Hid (onO p 0 pre = if isWayB p (chainL pre) then [pre] else []) := onO_zero p pre
  clear hb0 q0 hA hR hown hw1 hl hr hP hvs0
  go_enter Try.func64, Try.ntmps64
  go_wp2_with fail
  refine HW1.out.mono ?_
  rintro e V ⟨rfl, hbV⟩
  have HV := Lib.hid (HH.out.1.trans (hbV.mono HH.out.1.size))
  clear hbV
  cases hw : isWayB p (chainL pre)
  · have HW := Lib.hid hw
    clear hw
    go_wp2_with fail
    go_ret
    rw [HE.out, HW.out]
    exact ⟨_, rfl, by simpa using (WyPost.refl HH.out.2.2.1).then HV.out⟩
  · have HW := Lib.hid hw
    clear hw
    obtain ⟨v', w', hrun, hpost⟩ := rows_add HH.out.2.2.1 HV.out HH.out.2.2.2.1 HH.out.2.1.size HH.out.2.2.2.2
    have HR := Lib.hid hrun
    have HQ := Lib.hid hpost
    clear hrun hpost
    go_wp2_with (at_builtin; refine wpList_append_run rfl (.tmp 17) (.tmp 19) 32 rfl _ _ _ _ rfl rfl HR.out ?_)
    go_ret
    rw [HE.out, HW.out]
    exact ⟨_, rfl, HQ.out⟩
set_option maxRecDepth 100000 in
set_option maxHeartbeats 4000000 in
theorem orders_rec {W0 : World} {p : Prs} {a : Option Addr} {cap : Nat} (hP : IsPrts W0 a p.cards) (hv : p.valid = true) : ∀ (d : Nat) (pre : List Int) (acc : List (List Int)) (A : World) (vp vo : Value), pre.length + d = p.cards.length → (∀ x ∈ pre, 0 ≤ x ∧ x < p.cards.length) →
    acc.length + (onO p d pre).length ≤ 1000000 → Below W0.heap.size W0 A → RowsAt A W0.heap.size vo acc → A.ownsRow W0.heap.size 3 1 vp pre.length (pre.map (Value.int .i64)) →
    Calls Try.prog 64 #[p.v a cap, vp, vo] A fun e A' => ∃ v', e = .returned v' ∧ WyPost W0.heap.size (acc ++ onO p d pre) A vo v' A' := by
  intro d
  induction d with
  | zero => exact fun pre acc A vp vo hl hr hacc hA hR hown => orders_leaf hP hv hl hr (by omega) hA hR hown
  | succ d ih =>
    intro pre acc A vp vo hl hr hacc hA hR hown
    have hn5 := (valid_parts hv).1
    have HIH := Lib.hid ih
    have hb0 : Below A.heap.size A (A.alloc (.cells (p.cells a cap) 26)) := (Below.refl _ A).alloc (Nat.le_refl _) _
    have q0 := World.alloc_heap_new A (.cells (p.cells a cap) 26)
    have s0 : (A.alloc (.cells (p.cells a cap) 26)).heap.size = A.heap.size + 1 := World.size_alloc ..
    obtain ⟨av, cv, rfl, _⟩ := own_slice hown
    obtain ⟨vs0, hvs0, _⟩ := id hR
    obtain ⟨ao, co, rfl, _⟩ := own_slice hvs0
    have hkn : ((pre.length : Int) == (p.cards.length : Int)) = false := by simp; omega
    have h4 : pre.length ≤ 4 := by omega
    have HH := Lib.hid (And.intro hb0 (And.intro q0 (And.intro s0 (And.intro hA (And.intro hR (And.intro hown (And.intro hacc (And.intro hr (And.intro hl hP)))))))))
    have HN := Lib.hid hl
    have HK := Lib.hid hkn
    clear ih hb0 q0 s0 hA hR hown hvs0 hr hacc hl hP
    go_enter Try.func64, Try.ntmps64
    go_wp2_with fail
    revert HH
    generalize A.alloc (.cells (p.cells a cap) 26) = A1
    intro HH
    have hR1 := HH.out.2.2.2.2.1.below HH.out.1
    have hA1 := HH.out.2.2.2.1.trans (HH.out.1.mono HH.out.2.2.2.1.size)
    have HA1 := Lib.hid (And.intro hR1 hA1)
    clear hR1 hA1 hkn
    go_loopw [2, 7] (fun o q wr => ∃ (j : Nat) (ao' : Option Addr) (co' : Nat), j ≤ p.cards.length ∧ q = .int .i64 (j : Int) ∧ o = .slice ao' (accO p d pre acc j).length co' ∧ Hid (WyPost W0.heap.size (accO p d pre acc j) A1 (.slice ao acc.length co) o wr)) (fun o q _ => (p.cards.length : Int) - intOf q |>.toNat)
    case atStart => exact ⟨0, ao, co, by omega, by go_num, by rw [accO_zero], by rw [Hid, accO_zero]; exact WyPost.refl HA1.out.1⟩
    case round =>
      obtain ⟨j, ao', co', hj, rfl, rfl, HW⟩ := hrel
      have hbw := HW.out.below HA1.out.1 HA1.out.2.size
      have hq := (HW.out.grown.block A.heap.size (by have := HH.out.2.2.1; omega) (fun e => by have := (HH.out.2.2.2.2.1.lt e.symm).2; omega)).trans HH.out.2.1
      obtain ⟨k0, k1, k2, k3, k4⟩ := prs_cells hq
      have HB := Lib.hid (HA1.out.2.trans hbw)
      have HQ := Lib.hid hq
      have hown' := HW.out.ints HA1.out.1 (own_below HH.out.2.2.2.2.2.1 HH.out.1)
      have HO := Lib.hid hown'
      have hix := index_ref (cap := cv) (v := (j : Int)) (show pre.length ≤ 1000 by omega) (own_ints hown')
      have HIX := Lib.hid hix
      clear hbw hq hown' hix
      by_cases hlt : j < p.cards.length
      · by_cases hf : (j : Int) ∈ pre
        · have HS : Hid (accO p d pre acc (j + 1) = accO p d pre acc j) := by
            rw [Hid, accO_succ p d pre acc hlt]
            unfold oF
            rw [if_pos hf]
            simp
          have hb : ¬ (indexL pre j < 0) := by have := (indexL_rng pre j).2.2.2 hf; omega
          have HF := Lib.hid hf
          clear hf k1 k2 k3 k4
          go_wp2_with fail
          refine HIX.out.mono ?_
          rintro e w5 ⟨rfl, rfl⟩
          go_wp2_with fail
          go_roundw
          case rel => exact ⟨j + 1, ao', co', by omega, by go_num, by rw [HS.out], by rw [Hid, HS.out]; exact HW.out⟩
          case measure => simp [intOf]; omega
        · have HS : Hid (accO p d pre acc (j + 1) = accO p d pre acc j ++ onO p d (pre ++ [(j : Int)])) := by
            rw [Hid, accO_succ p d pre acc hlt]
            unfold oF
            rw [if_neg hf]
          have HL : Hid ((accO p d pre acc j).length + (onO p d (pre ++ [(j : Int)])).length ≤ 1000000) := by
            have h1 := accO_le p d pre acc hlt
            unfold oF at h1
            rw [if_neg hf] at h1
            have h2 := HH.out.2.2.2.2.2.2.1
            rw [Hid]
            omega
          have hb : indexL pre j < 0 := by
            have h1 := (indexL_rng pre j).2.2
            have h2 : ¬ 0 ≤ indexL pre j := fun e => hf (h1.1 e)
            omega
          have HF := Lib.hid hf
          clear hf k0 k1 k2 k3 k4
          obtain ⟨k0, k1, k2, k3, k4⟩ := prs_cells HQ.out
          go_wp2_with fail
          refine HIX.out.mono ?_
          rintro e w5 ⟨rfl, rfl⟩
          go_wp2_with fail
          clear k0 k1 k2 k3 k4
          obtain ⟨f, hfe⟩ : ∃ f : Int, (j : Int) = f := ⟨_, rfl⟩
          have HFE := Lib.hid hfe
          rw [hfe] at HS HL hb ⊢
          have hW0 : Below wr.heap.size wr wr := Below.refl _ wr
          have kp : ∀ v, Below wr.heap.size wr v → v.cell? ⟨A.heap.size, 0, none⟩ = some (.slice a p.cards.length cap) ∧ v.cell? ⟨A.heap.size, 1, none⟩ = some (.int .i64 p.llo) ∧ v.cell? ⟨A.heap.size, 2, none⟩ = some (.int .i64 p.lhi) ∧ v.cell? ⟨A.heap.size, 3, none⟩ = some (.int .i64 p.olo) ∧ v.cell? ⟨A.heap.size, 4, none⟩ = some (.int .i64 p.ohi) := fun v h => prs_cells ((h.block _ (heap_lt HQ.out)).trans HQ.out)
          refine wpIn_wide.1 (ror9 (p := p) (a := a) (cap := cap) (bx := A.heap.size) (av := av) (k := pre.length) (cv := cv) (vo := .slice ao' (accO p d pre acc j).length co') (f := f)
            (S0 := fun fs ms w => Below wr.heap.size wr w ∧ (fs = true → wr.heap.size ≤ ms ∧ w.heap[ms]? = some (.cells #[.int .i64 f] 3 (0, 0))))
            (S1 := fun fs ms xs w => Below wr.heap.size wr w ∧ w.ownsRow wr.heap.size 3 1 xs 0 [] ∧ (fs = true → xs.ownBlock ≠ some ms ∧ w.heap[ms]? = some (.cells #[.int .i64 f] 3 (0, 0))))
            (S2 := fun fs ms xs r1 w => Below wr.heap.size wr w ∧ w.ownsRow wr.heap.size 3 1 (.slice r1.1 pre.length r1.2) pre.length (pre.map (Value.int .i64)) ∧ (fs = true → w.heap[ms]? = some (.cells #[.int .i64 f] 3 (0, 0))))
            (S3 := fun fs ms xs r1 r2 w => Below wr.heap.size wr w ∧ w.ownsRow wr.heap.size 3 1 (.slice r2.1 (pre.length + 1) r2.2) (pre ++ [f]).length ((pre ++ [f]).map (Value.int .i64)))
            (S4 := fun fs ms xs r1 r2 x41 w => WyPost W0.heap.size (accO p d pre acc (j + 1)) wr (.slice ao' (accO p d pre acc j).length co') x41 w)
            ?h0 ?l0 ?c1 ?c3 ?s0 ?s1 ?s2 ?c6 ?c8 ?hQ)
          case h0 => exact ⟨hW0.drew, fun h => by cases h⟩
          case l0 =>
            intro fs ms xs r1 r2 w h
            refine kp w ?_
            rcases h with h | h | h | h <;> exact h.1
          case c1 => exact fun fs ms w h => ⟨h.1.alloc h.1.size _, ownsRow_zero h.1.size, fun hf => ⟨fun e => by have e' : some w.heap.size = some ms := e; cases e'; have := heap_lt (h.2 hf).2; omega, (Below.heap_alloc w _ ms (heap_lt (h.2 hf).2)).trans (h.2 hf).2⟩⟩
          case c3 =>
            intro fs ms xs w h
            obtain ⟨r1, w', hrun, hb', ho', hk⟩ := copy_new (cv := cv) (by omega) h.1 h.2.1 ((own_ints HO.out).mono h.1)
            exact ⟨r1, w', hrun, hb', ho', fun hf => (hk ms (heap_lt (h.2.2 hf).2) (h.2.2 hf).1).1.trans (h.2.2 hf).2⟩
          case s0 => exact fun w h => ⟨h.1.alloc h.1.size _, fun _ => ⟨h.1.size, World.alloc_heap_new _ _⟩⟩
          case s1 => exact fun xs w h => ⟨h.1.alloc h.1.size _, h.2.1.alloc _, fun _ => ⟨fun e => by have := (h.2.1.lt _ e).2; omega, World.alloc_heap_new _ _⟩⟩
          case s2 => exact fun xs r1 w h => ⟨h.1.alloc h.1.size _, h.2.1.alloc _, fun _ => World.alloc_heap_new _ _⟩
          case c6 =>
            intro ms xs r1 w h
            obtain ⟨r2, w', hrun, hb', ho'⟩ := copy_more (by omega) h.1 h.2.1 (h.2.2 rfl)
            exact ⟨r2, w', hrun, hb', ho'⟩
          case c8 =>
            intro ms xs r1 r2 w h
            have hwr : W0.heap.size ≤ wr.heap.size := HB.out.size
            have hcall := HIH.out (pre ++ [f]) (accO p d pre acc j) w (.slice r2.1 (pre.length + 1) r2.2) (.slice ao' (accO p d pre acc j).length co') (by simp; have := HN.out; omega) (by
              intro x hx
              rcases List.mem_append.1 hx with hx | hx
              · exact HH.out.2.2.2.2.2.2.2.1 x hx
              · have hx' : x = f := by simpa using hx
                have := HFE.out
                omega) HL.out (HB.out.trans (h.1.mono hwr)) (HW.out.rows.below h.1) (own_base h.2 hwr)
            refine hcall.mono ?_
            rintro e w' ⟨v', rfl, hp⟩
            exact ⟨v', rfl, by rw [HS.out]; exact WyPost.after h.1 hp⟩
          case hQ =>
            intro ms xs r1 r2 x41 w' h
            have h2 := HW.out.trans h
            obtain ⟨vs2, hvs2, _⟩ := id h.rows
            obtain ⟨a2, c2, rfl, _⟩ := own_slice hvs2
            have H2 := Lib.hid h2
            have hf0 : -1 ≤ f := by have := HFE.out; omega
            have hf1 : f ≤ 5 := by have := HFE.out; omega
            clear hvs2 h h2 kp hW0
            go_wp2_with fail
            go_roundw
            case rel => exact ⟨j + 1, a2, c2, by omega, by have := HFE.out; go_num, rfl, H2.out⟩
            case measure => simp [intOf]; omega
      · obtain rfl : j = p.cards.length := by omega
        clear k1 k2 k3 k4
        go_wp2_with fail
        go_ret
        have h := HW.out
        rw [accO_all] at h
        exact ⟨_, rfl, by rw [← accO_all]; exact WyPost.after HH.out.1 (by rw [accO_all]; exact h)⟩
end Go.Proofs.Ytnfhlbmapfoifaa

namespace Go.Proofs.Ytnfhlbmapfoifaa
open Go.RowKit
set_option linter.unusedVariables false

theorem ordersL_le {p : Prs} (hn : p.cards.length ≤ 5) : (ordersL p).length ≤ 7776 := by
  refine Nat.le_trans (onO_len hn p.cards.length []) ?_
  exact Nat.le_trans (Nat.pow_le_pow_right (by decide) hn) (by decide)
set_option maxRecDepth 100000 in
set_option maxHeartbeats 4000000 in
theorem orders18 {p : Prs} {a : Option Addr} {cap : Nat} {w : World} (ha : IsPrts w a p.cards) (hn : p.cards.length ≤ 16) :
    Calls Try.prog 18 #[p.v a cap] w fun e w' => ∃ v, e = .returned (.tuple #[v, .int .i64 (ordersE p)]) ∧ OrdersOut p w.heap.size v w' ∧ Below w.heap.size w w' := by
  have hb0 : Below w.heap.size w (w.alloc (.cells (p.cells a cap) 26)) := (Below.refl _ w).alloc (Nat.le_refl _) _
  have q0 := World.alloc_heap_new w (.cells (p.cells a cap) 26)
  have HW := Lib.hid (And.intro hb0 (And.intro q0 (ha.mono hb0)))
  clear hb0 q0 ha
  by_cases hE : openE p true = 0
  · obtain ⟨hv, _⟩ := openE_parts hE
    have hle := ordersL_le (valid_parts hv).1
    have HLE := Lib.hid hle
    have HE := Lib.hid hE
    have HV := Lib.hid hv
    have HOE : Hid (ordersE p = if (ordersL p).isEmpty then 4 else 0) := by rw [Hid]; unfold ordersE; rw [hv]; rfl
    clear hE hv hle
    go_enter Try.func18, Try.ntmps18
    go_wp2_with fail
    revert HW
    generalize w.alloc (.cells (p.cells a cap) 26) = w1
    intro HW
    refine (rcheck_any HW.out.2.2 hn true).mono ?_
    rintro e w2 ⟨rfl, hb2⟩
    rw [HE.out]
    obtain ⟨k0, k1, k2, k3, k4⟩ := prs_cells ((hb2.block _ (heap_lt HW.out.2.1)).trans HW.out.2.1)
    have HA2 := Lib.hid (HW.out.2.2.mono hb2)
    have HB2 := Lib.hid (HW.out.1.trans (hb2.mono HW.out.1.size))
    clear hb2
    go_wp2_with fail
    have hcall := orders_rec (cap := cap) HA2.out HV.out p.cards.length [] [] w2 (.slice none 0 0) (.slice none 0 0) (by simp) (by simp) (by have := HLE.out; unfold ordersL at this; simp; omega) (Below.refl _ _) rows_nil (World.ownsRow_nil _ _ _ _)
    refine hcall.mono ?_
    rintro e w3 ⟨v', rfl, hp⟩
    obtain ⟨a2, c2, rfl⟩ := rows_int hp.rows
    have hb := hp.below rows_nil (Nat.le_refl _)
    have HR : Hid (RowsAt w3 w.heap.size (.slice a2 ([] ++ onO p p.cards.length []).length c2) (ordersL p)) := by
      have h2 := hp.rows.base HB2.out.size
      rw [List.nil_append] at h2
      rw [Hid, List.nil_append]
      exact h2
    have HB3 := Lib.hid (HB2.out.trans (hb.mono HB2.out.size))
    clear hp hb hcall k0 k1 k2 k3 k4
    have hle2 : ([] ++ onO p p.cards.length []).length = (ordersL p).length := rfl
    rw [hle2] at HR ⊢
    clear hle2
    cases hl : ordersL p with
    | nil =>
      rw [hl] at HR HOE
      have HL := Lib.hid hl
      clear hl
      go_wp2_with fail
      refine bodyPost_ret (results_tmp2 rfl _ _ _) rfl ?_
      refine ⟨_, by rw [HOE.out]; rfl, ⟨fun h => ?_, fun _ => rfl⟩, HB3.out⟩
      rw [HOE.out] at h
      cases h
    | cons o r =>
      rw [hl] at HR HOE
      have HL := Lib.hid hl
      have hlen : (((o :: r).length : Nat) == (0 : Int)) = false := by simp; omega
      clear hl
      go_wp2_with fail
      refine bodyPost_ret (results_tmp2 rfl _ _ _) rfl ?_
      refine ⟨_, by rw [HOE.out]; rfl, ⟨fun h => by rw [HL.out]; exact HR.out, fun h => ?_⟩, HB3.out⟩
      exact (h (by rw [HOE.out]; rfl)).elim
  · have hnb := bne_iff_ne.2 hE
    have HNB := Lib.hid hE
    have HOE : Hid (ordersE p = openE p true) := by
      rw [Hid]
      unfold ordersE
      unfold openE at hE ⊢
      cases hv : p.valid
      · rfl
      · rw [hv] at hE; exact (hE rfl).elim
    clear hE
    go_enter Try.func18, Try.ntmps18
    go_wp2_with fail
    refine (rcheck_any HW.out.2.2 hn true).mono ?_
    rintro e w2 ⟨rfl, hb2⟩
    have HB2 := Lib.hid (HW.out.1.trans (hb2.mono HW.out.1.size))
    clear hb2
    go_wp2_with fail
    refine bodyPost_ret (results_tmp2 rfl _ _ _) rfl ?_
    exact ⟨_, by rw [HOE.out]; rfl, ⟨fun h => (HNB.out (by rw [← HOE.out]; exact h)).elim, fun _ => rfl⟩, HB2.out⟩
end Go.Proofs.Ytnfhlbmapfoifaa

