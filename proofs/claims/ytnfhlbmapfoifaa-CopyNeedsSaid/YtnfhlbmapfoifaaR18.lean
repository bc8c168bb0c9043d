/- CopyWays: the walk. -/
import Derived.Test.YtnfhlbmapfoifaaR17
import Derived.Test.YtnfhlbmapfoifaaW52
namespace Go.Proofs.Ytnfhlbmapfoifaa
open Go.RowKit
set_option linter.unusedVariables false

theorem great5 {p : Prs} {a : Option Addr} {cap : Nat} {w : World} (ha : IsPrts w a p.cards) : Calls Try.prog 13 #[p.v a cap, .int .i64 5] w fun e w' => e = .returned (.bool (decide (16 < p.cards.length))) ∧ Below w.heap.size w w' := by
  have h := great_any (cap := cap) ha 5 (by decide)
  have e : (decide (16 < p.cards.length) || (decide (5 < p.cards.length) && p.valid)) = decide (16 < p.cards.length) := by
    cases hv : p.valid
    · simp
    · have := (valid_parts hv).1
      simp
      omega
  rw [e] at h
  exact h
/-- The fewest, whatever the prints: how both answer. -/
def fewN (p : Prs) : List Int := if p.valid then fewestW p else []
def fewO (p : Prs) : Int := if p.valid then (origN (fewestW p) : Int) else 0
def fewE (p : Prs) : Int := if p.valid then 0 else 1
theorem fewest_c {p : Prs} {a : Option Addr} {cap : Nat} {w : World} (ha : IsPrts w a p.cards) (hn : p.cards.length ≤ 16) : Calls Try.prog 28 #[p.v a cap] w fun e w' => ∃ av cv, e = .returned (.tuple #[.slice av (fewN p).length cv, .int .i64 (fewO p), .int .i64 (fewE p)]) ∧ IsInts w' av (fewN p) ∧ Below w.heap.size w w' := by
  unfold fewN fewO fewE
  cases hv : p.valid
  · refine (fewest_no ha hn hv).mono ?_
    rintro e w' ⟨rfl, hb⟩
    exact ⟨none, 0, rfl, fun i hi => by simp at hi, hb⟩
  · exact fewest_yes ha hn hv
theorem fewest_r {p : Prs} {a : Option Addr} {cap : Nat} {w : World} (ha : IsPrts w a p.cards) (hn : p.cards.length ≤ 16) : Calls Try.prog 38 #[p.v a cap] w fun e w' => ∃ av cv, e = .returned (.tuple #[.slice av (fewN p).length cv, .int .i64 (fewO p), .int .i64 (fewE p)]) ∧ IsInts w' av (fewN p) ∧ Below w.heap.size w w' := by
  unfold fewN fewO fewE
  cases hv : p.valid
  · refine (fewest_ref_no ha hn hv).mono ?_
    rintro e w' ⟨rfl, hb⟩
    exact ⟨none, 0, rfl, fun i hi => by simp at hi, hb⟩
  · exact fewest_ref ha hn hv
theorem few_len {p : Prs} : (fewN p).length ≤ 16 := by
  unfold fewN
  cases hv : p.valid
  · simp
  · have hn5 := (valid_parts hv).1
    obtain ⟨h, t, het⟩ : ∃ h t, waysL p = h :: t := by
      cases e : waysL p with
      | nil => exact (ways_ne hv e).elim
      | cons h t => exact ⟨h, t, rfl⟩
    obtain ⟨hf1, _⟩ := fewL_first hn5 het
    have hm : fewestW p ∈ fewL (waysL p) := List.mem_of_head? hf1
    have := (ways_all (List.mem_filter.1 hm).1).1
    simp
    omega
set_option maxRecDepth 100000 in
set_option maxHeartbeats 4000000 in
theorem copyWays_any {p : Prs} {a : Option Addr} {cap : Nat} {w : World} (ha : IsPrts w a p.cards) (cd fr : Int) : Calls Try.prog 8 #[p.v a cap, .int .i64 cd, .int .i64 fr] w fun e w' => e = .returned (.bool true) ∧ Below w.heap.size w w' := by
  have hb0 : Below w.heap.size w (w.alloc (.cells (p.cells a cap) 26)) := (Below.refl _ w).alloc (Nat.le_refl _) _
  have q0 := World.alloc_heap_new w (.cells (p.cells a cap) 26)
  have HW := Lib.hid (And.intro hb0 (And.intro q0 (ha.mono hb0)))
  clear hb0 q0 ha
  go_enter Try.func8, Try.ntmps8
  go_wp2_with fail
  revert HW
  generalize w.alloc (.cells (p.cells a cap) 26) = w1
  intro HW
  have KP : Hid (∀ v, Below w1.heap.size w1 v → v.heap[w.heap.size]? = some (.cells (p.cells a cap) 26 (0, 0)) ∧ IsPrts v a p.cards ∧ Below w.heap.size w v) := fun v h => ⟨(h.block _ (heap_lt HW.out.2.1)).trans HW.out.2.1, HW.out.2.2.mono h, HW.out.1.trans (h.mono HW.out.1.size)⟩
  obtain ⟨k0, k1, k2, k3, k4⟩ := prs_cells (KP.out w1 (Below.refl _ _)).1
  refine (great5 (KP.out w1 (Below.refl _ _)).2.1).mono ?_
  rintro e b0 ⟨rfl, hb⟩
  have HB := Lib.hid hb
  clear hb k0 k1 k2 k3 k4
  by_cases hg : 16 < p.cards.length
  · have hd : decide (16 < p.cards.length) = true := by simpa using hg
    rw [hd]
    go_wp2_with fail
    refine (alive_any b0).mono ?_
    rintro e c1 ⟨rfl, hb⟩
    have HB2 := Lib.hid (HB.out.trans (hb.mono HB.out.size))
    clear hb
    go_wp2_with fail
    go_ret
    exact ⟨rfl, (KP.out _ HB2.out).2.2⟩
  have hn : p.cards.length ≤ 16 := by omega
  have hd : decide (16 < p.cards.length) = false := by simpa using hn
  rw [hd]
  have HN := Lib.hid hn
  clear hg hn hd
  obtain ⟨k0, k1, k2, k3, k4⟩ := prs_cells (KP.out b0 HB.out).1
  go_wp2_with fail
  refine (fits_any (KP.out b0 HB.out).2.1 HN.out cd fr).mono ?_
  rintro e b1 ⟨rfl, hb⟩
  have HB2 := Lib.hid (HB.out.trans (hb.mono HB.out.size))
  clear hb k0 k1 k2 k3 k4 HB
  have HB := HB2
  clear HB2
  obtain ⟨k0, k1, k2, k3, k4⟩ := prs_cells (KP.out b1 HB.out).1
  go_wp2_with fail
  refine (fits_ref (KP.out b1 HB.out).2.1 HN.out cd fr).mono ?_
  rintro e b2 ⟨rfl, hb⟩
  have HB2 := Lib.hid (HB.out.trans (hb.mono HB.out.size))
  clear hb k0 k1 k2 k3 k4 HB
  have HB := HB2
  clear HB2
  obtain ⟨k0, k1, k2, k3, k4⟩ := prs_cells (KP.out b2 HB.out).1
  go_wp2_with fail
  refine (waysC_any (KP.out b2 HB.out).2.1 HN.out).mono ?_
  rintro e b3 ⟨rfl, hb⟩
  have HB2 := Lib.hid (HB.out.trans (hb.mono HB.out.size))
  clear hb k0 k1 k2 k3 k4 HB
  have HB := HB2
  clear HB2
  obtain ⟨k0, k1, k2, k3, k4⟩ := prs_cells (KP.out b3 HB.out).1
  go_wp2_with fail
  refine (ways_ref (KP.out b3 HB.out).2.1 HN.out).mono ?_
  rintro e b4 ⟨rfl, hb⟩
  have HB2 := Lib.hid (HB.out.trans (hb.mono HB.out.size))
  clear hb k0 k1 k2 k3 k4 HB
  have HB := HB2
  clear HB2
  obtain ⟨k0, k1, k2, k3, k4⟩ := prs_cells (KP.out b4 HB.out).1
  go_wp2_with fail
  refine (parents_any (KP.out b4 HB.out).2.1 HN.out cd).mono ?_
  rintro e b5 ⟨rfl, hb⟩
  have HB2 := Lib.hid (HB.out.trans (hb.mono HB.out.size))
  clear hb k0 k1 k2 k3 k4 HB
  have HB := HB2
  clear HB2
  obtain ⟨k0, k1, k2, k3, k4⟩ := prs_cells (KP.out b5 HB.out).1
  go_wp2_with fail
  refine (parents_ref (KP.out b5 HB.out).2.1 HN.out cd).mono ?_
  rintro e b6 ⟨rfl, hb⟩
  have HB2 := Lib.hid (HB.out.trans (hb.mono HB.out.size))
  clear hb k0 k1 k2 k3 k4 HB
  have HB := HB2
  clear HB2
  obtain ⟨k0, k1, k2, k3, k4⟩ := prs_cells (KP.out b6 HB.out).1
  go_wp2_with fail
  refine (fewest_c (KP.out b6 HB.out).2.1 HN.out).mono ?_
  rintro e b7 ⟨av, cv, rfl, hi, hb⟩
  have HB2 := Lib.hid (HB.out.trans (hb.mono HB.out.size))
  have HI := Lib.hid hi
  clear hi
  clear hb k0 k1 k2 k3 k4 HB
  have HB := HB2
  clear HB2
  obtain ⟨k0, k1, k2, k3, k4⟩ := prs_cells (KP.out b7 HB.out).1
  go_wp2_with fail
  refine (fewest_r (KP.out b7 HB.out).2.1 HN.out).mono ?_
  rintro e b8 ⟨av2, cv2, rfl, hi2, hb⟩
  have HB2 := Lib.hid (HB.out.trans (hb.mono HB.out.size))
  have HI2 := Lib.hid (And.intro (HI.out.mono hb) hi2)
  clear hi2
  clear hb k0 k1 k2 k3 k4 HB
  have HB := HB2
  clear HB2
  have HL := Lib.hid (few_len (p := p))
  revert HI2 HL
  generalize (fewN p) = l
  generalize (fewO p) = on
  generalize (fewE p) = er
  generalize (fitsE p cd fr).1 = f1
  generalize (fitsE p cd fr).2 = f2
  generalize (waysE p).1 = f3
  generalize (waysE p).2 = f4
  generalize (parentsE p cd).1 = f5
  generalize (parentsE p cd).2.1 = f6
  generalize (parentsE p cd).2.2 = f7
  intro HI2 HL
  go_wp2_with fail
  refine (ints27 (ca := cv) (cb := cv2) HI2.out.1 HI2.out.2 (by have := HL.out; omega) (by have := HL.out; omega)).mono ?_
  rintro e b9 ⟨rfl, hb⟩
  have HB2 := Lib.hid (HB.out.trans (hb.mono HB.out.size))
  clear hb HB
  rw [show decide (l = l) = true by simp]
  go_wp2_with fail
  refine (alive_any b9).mono ?_
  rintro e c1 ⟨rfl, hb⟩
  have HB3 := Lib.hid (HB2.out.trans (hb.mono HB2.out.size))
  clear hb HB2
  go_wp2_with fail
  go_ret
  exact ⟨rfl, (KP.out _ HB3.out).2.2⟩
end Go.Proofs.Ytnfhlbmapfoifaa
