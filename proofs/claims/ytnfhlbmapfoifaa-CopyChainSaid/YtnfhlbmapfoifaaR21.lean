/- The reference's Chain. -/
import Derived.Test.YtnfhlbmapfoifaaR6
import Derived.Test.YtnfhlbmapfoifaaR19
import Derived.Test.YtnfhlbmapfoifaaW27
import Derived.StillTailTactics
namespace Go.Proofs.Ytnfhlbmapfoifaa
open Go.RowKit
set_option linter.unusedVariables false

theorem lastF_take {o : List Int} {k : Nat} (hk : k < o.length) : lastF (-1) (o.take (k + 1)) = gi o k := by
  rw [List.take_succ_eq_append_getElem hk, lastF_snoc]
  simp [gi, hk]
set_option maxRecDepth 100000 in
set_option maxHeartbeats 4000000 in
theorem chain_ref {p : Prs} {a : Option Addr} {cap : Nat} {o : List Int} {ao : Option Addr} {co : Nat} {w : World} (hv : p.valid = true) (hol : o.length = p.cards.length) (ho : ∀ x ∈ o, 0 ≤ x ∧ x < o.length) (ha : IsPrts w a p.cards) (hi : IsInts w ao o) :
    Calls Try.prog 26 #[p.v a cap, .slice ao o.length co] w fun e w' => e = .returned (.bool (isWayB p (chainL o))) ∧ Below w.heap.size w w' := by
  have hn5 := (valid_parts hv).1
  have hn : o.length ≤ 5 := by omega
  obtain ⟨i0, hi0, hi1, hi2, hi3⟩ := info_parts infoI
  have hmk : ∀ w, (Instr.makeSlice 42 (.int .i64 (o.length : Int)) (.int .i64 (o.length : Int))).run Try.prog w = .ok (.slice (some ⟨w.heap.size, 0, none⟩) o.length o.length) (w.alloc (.cells (intArr (List.replicate o.length 0)) 3)) := by
    intro w
    have h := run_make (P := Try.prog) (w := w) 42 3 i0 _ Try.underlying42 hi0 hi1 .i64 .i64 (o.length : Int) (o.length : Int) (by omega) (by omega) (by rw [hi3]; omega) (by omega)
    rw [← made_ints]
    simpa [hi2, Value.cells] using h
  have hb0 : Below w.heap.size w (w.alloc (.cells (p.cells a cap) 26)) := (Below.refl _ w).alloc (Nat.le_refl _) _
  have q0 := World.alloc_heap_new w (.cells (p.cells a cap) 26)
  have hb1 : Below w.heap.size w ((w.alloc (.cells (p.cells a cap) 26)).alloc (.cells (intArr (List.replicate o.length 0)) 3)) := hb0.alloc (by simp) _
  have q1 := World.alloc_heap_new (w.alloc (.cells (p.cells a cap) 26)) (.cells (intArr (List.replicate o.length 0)) 3)
  rw [World.size_alloc] at q1
  have q2 : ((w.alloc (.cells (p.cells a cap) 26)).alloc (.cells (intArr (List.replicate o.length 0)) 3)).heap[w.heap.size]? = some (.cells (p.cells a cap) 26 (0, 0)) := (Below.heap_alloc _ _ _ (by simp)).trans q0
  have HW := Lib.hid (And.intro hb1 (And.intro q1 q2))
  have HO := Lib.hid (And.intro ho (And.intro hol hv))
  have HA := Lib.hid (And.intro ha hi)
  have HLT : Hid (∀ b off, ao = some ⟨b, off, none⟩ → 0 < o.length → b < w.heap.size) := fun b off e h => by
    obtain ⟨b', off', e', hc⟩ := hi 0 h
    rw [e] at e'
    cases e'
    exact lt_of_cell hc
  have hsz : (w.alloc (.cells (p.cells a cap) 26)).heap.size = w.heap.size + 1 := World.size_alloc ..
  clear hb0 q0 hb1 q1 q2 hi0 hi1 hi2 hi3 ho ha hi hol
  go_enter Try.func26, Try.ntmps26
  go_wp2_with fail
  go_loopw [6] (fun i wr => ∃ k : Nat, k ≤ o.length ∧ i = .int .i64 k ∧ Below w.heap.size w wr ∧ Hid (wr.heap[w.heap.size + 1]? = some (.cells (intArr (chainF (List.replicate o.length 0) (-1) (o.take k))) 3 (0, 0)) ∧ wr.heap[w.heap.size]? = some (.cells (p.cells a cap) 26 (0, 0)))) (fun i _ => o.length - (intOf i).toNat)
  case atStart => exact ⟨0, by omega, rfl, HW.out.1, HW.out.2⟩
  case round =>
    obtain ⟨k, hk, rfl, hB, HC⟩ := hrel
    by_cases hlt : k < o.length
    · obtain ⟨b, off, rfl, hc0⟩ := HA.out.2.at hlt
      have hx := HO.out.1 _ (List.getElem_mem hlt)
      have e1 : gi o k = o[k] := by simp [gi, hlt]
      obtain ⟨m, hm⟩ := Int.eq_ofNat_of_zero_le hx.1
      have hc' := cell_stays hB (hc0 k hlt)
      have e2 : o.take (k + 1) = o.take k ++ [(m : Int)] := by rw [List.take_succ_eq_append_getElem hlt, hm]
      rw [e1, hm] at hc'
      rw [hm] at hx
      have hml : m < o.length := by omega
      have hl1 : m < (chainF (List.replicate o.length 0) (-1) (o.take k)).length := by rw [chainF_len]; simpa using hml
      have HS : Hid (chainF (List.replicate o.length 0) (-1) (o.take (k + 1)) = (chainF (List.replicate o.length 0) (-1) (o.take k)).set m (lastF (-1) (o.take k))) := by rw [Hid, e2, chainF_snoc]; rfl
      have ca : ∃ u, wr.cell? ⟨w.heap.size + 1, m, none⟩ = some u := by
        rw [cell_of_heap HC.out.1]
        exact ⟨_, by simp [intArr, hl1]; rfl⟩
      obtain ⟨u, ca⟩ := ca
      have fa : wr.frozen? ⟨w.heap.size + 1, m, none⟩ = false := frozen_of_heap HC.out.1
      have HB := Lib.hid hB
      have HM := Lib.hid (And.intro hm (And.intro e1 e2))
      have HL1 := Lib.hid hl1
      by_cases h0 : k = 0
      · subst h0
        rw [Nat.add_zero] at hc'
        have HZ : Hid (lastF (-1) (o.take 0) = -1) := rfl
        clear hx e1 e2 hm hB hl1 hc0
        go_wp2_with fail
        go_roundw
        case rel => exact ⟨0 + 1, by omega, by go_num, HB.out.setCell (show w.heap.size ≤ w.heap.size + 1 by omega) _, by rw [Hid, HS.out, HZ.out, ← intArr_set]; exact ⟨heap_setCell_at HC.out.1 _, (heap_setCell_other wr _ w.heap.size _ (by simp)).trans HC.out.2⟩⟩
        case measure => simp [intOf]; omega
      · obtain ⟨i, rfl⟩ : ∃ i, k = i + 1 := ⟨k - 1, by omega⟩
        have HL := Lib.hid (lastF_take (o := o) (k := i) (by omega))
        have hbo : b ≠ w.heap.size + 1 := fun e => by have := HLT.out b off rfl (by omega); omega
        have hq2 : (wr.setCell ⟨w.heap.size + 1, m, none⟩ (.int .i64 (-1))).cell? ⟨b, off + (i + 1), none⟩ = some (.int .i64 m) := (World.cell?_setCell_far _ _ _ _ (Ne.symm hbo)).trans hc'
        have hq3 : (wr.setCell ⟨w.heap.size + 1, m, none⟩ (.int .i64 (-1))).cell? ⟨b, off + i, none⟩ = some (.int .i64 (gi o i)) := (World.cell?_setCell_far _ _ _ _ (Ne.symm hbo)).trans (cell_stays HB.out (hc0 i (by omega)))
        have hq4 : (wr.setCell ⟨w.heap.size + 1, m, none⟩ (.int .i64 (-1))).heap[w.heap.size + 1]? = some (.cells ((intArr (chainF (List.replicate o.length 0) (-1) (o.take (i + 1)))).setIfInBounds m (.int .i64 (-1))) 3 (0, 0)) := heap_setCell_at HC.out.1 _
        have hq5 : (wr.setCell ⟨w.heap.size + 1, m, none⟩ (.int .i64 (-1))).heap[w.heap.size]? = some (.cells (p.cells a cap) 26 (0, 0)) := (heap_setCell_other wr _ w.heap.size _ (by simp)).trans HC.out.2
        have HQ := Lib.hid (And.intro hq2 (And.intro hq3 (And.intro hq4 (And.intro hq5 (HB.out.setCell (p := ⟨w.heap.size + 1, m, none⟩) (show w.heap.size ≤ w.heap.size + 1 by omega) (.int .i64 (-1)))))))
        clear hx e1 e2 hm hB hl1 hc0 hq2 hq3 hq4 hq5
        go_wp2_with fail
        revert HQ
        generalize wr.setCell ⟨w.heap.size + 1, m, none⟩ (.int .i64 (-1)) = W2
        intro HQ
        obtain ⟨k0, k1, k2, k3, k4⟩ := HQ.out
        clear k2 k3 k4 ca fa
        have ca : ∃ u, W2.cell? ⟨w.heap.size + 1, m, none⟩ = some u := by
          rw [cell_of_heap HQ.out.2.2.1]
          exact ⟨_, by simp [intArr, HL1.out]; rfl⟩
        obtain ⟨u, ca⟩ := ca
        have fa : W2.frozen? ⟨w.heap.size + 1, m, none⟩ = false := frozen_of_heap HQ.out.2.2.1
        go_region
        go_wp2_with fail
        go_roundw
        case rel => exact ⟨i + 1 + 1, by omega, by go_num, (HQ.out.2.2.2.2.setCell (p := ⟨w.heap.size + 1, m, none⟩) (show w.heap.size ≤ w.heap.size + 1 by omega) (.int .i64 (gi o i))).drew, by
          have h1 := heap_setCell_at (k := m) HQ.out.2.2.1 (.int .i64 (gi o i))
          rw [Array.setIfInBounds_setIfInBounds] at h1
          rw [Hid, HS.out, HL.out, ← intArr_set]
          exact ⟨h1, (heap_setCell_other W2 ⟨w.heap.size + 1, m, none⟩ w.heap.size _ (by simp)).trans HQ.out.2.2.2.1⟩⟩
        case measure => simp [intOf]; omega
    · obtain rfl : k = o.length := by omega
      rw [List.take_length] at HC
      obtain ⟨k0, k1, k2, k3, k4⟩ := prs_cells HC.out.2
      have HB := Lib.hid hB
      clear hB
      go_wp2_with fail
      have hg := chainL_good HO.out.2.1 (fun x hx => by have h1 := HO.out.1 x hx; have h2 := HO.out.2.1; omega)
      have hii : IsInts wr (some ⟨w.heap.size + 1, 0, none⟩) (chainL o) := fun i hi => by
        refine ⟨w.heap.size + 1, 0, rfl, ?_⟩
        rw [cell_of_heap HC.out.1]
        have : i < (chainF (List.replicate o.length 0) (-1) o).length := hi
        simp [intArr, gi, chainL, this]
      have hcall := way_ref (cap := cap) (cw := o.length) HO.out.2.2 hg (HA.out.1.mono HB.out) hii
      rw [chainL_len] at hcall
      refine hcall.mono ?_
      rintro e w3 ⟨rfl, hb3⟩
      have HB3 := Lib.hid (HB.out.trans (hb3.mono HB.out.size))
      clear hb3 hg hii hcall k0 k1 k2 k3 k4
      go_wp2_with fail
      go_ret
      exact ⟨rfl, HB3.out⟩
end Go.Proofs.Ytnfhlbmapfoifaa
