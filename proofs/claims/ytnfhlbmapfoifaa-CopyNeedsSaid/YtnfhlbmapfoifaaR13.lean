/- The reference's ways: whatever cards. The reference's All, Ways. -/
import Derived.Test.YtnfhlbmapfoifaaR11
namespace Go.Proofs.Ytnfhlbmapfoifaa
open Go.RowKit
set_option linter.unusedVariables false

set_option maxRecDepth 100000 in
set_option maxHeartbeats 4000000 in
theorem ways_rec {W0 : World} {p : Prs} {a : Option Addr} {cap : Nat} (hP : IsPrts W0 a p.cards) (hv : p.valid = true) : ∀ (d : Nat) (pre : List Int) (acc : List (List Int)) (A : World) (vp vo : Value), pre.length + d = p.cards.length → (∀ x ∈ pre, -1 ≤ x ∧ x < p.cards.length) →
    acc.length + (onW p d pre).length ≤ 1000000 → Below W0.heap.size W0 A → RowsAt A W0.heap.size vo acc → A.ownsRow W0.heap.size 3 1 vp pre.length (pre.map (Value.int .i64)) →
    Calls Try.prog 100 #[p.v a cap, vp, vo] A fun e A' => ∃ v', e = .returned v' ∧ WyPost W0.heap.size (acc ++ onW p d pre) A vo v' A' := by
  intro d
  induction d with
  | zero => exact fun pre acc A vp vo hl hr hacc hA hR hown => ways_leaf hP hv hl hr (by omega) hA hR hown
  | succ d ih =>
    intro pre acc A vp vo hl hr hacc hA hR hown
    have hn5 := (valid_parts hv).1
    have HIH := Lib.hid ih
    have hb0 : Below A.heap.size A (A.alloc (.cells (p.cells a cap) 26)) := (Below.refl _ A).alloc (Nat.le_refl _) _
    have q0 := World.alloc_heap_new A (.cells (p.cells a cap) 26)
    have s0 : (A.alloc (.cells (p.cells a cap) 26)).heap.size = A.heap.size + 1 := World.size_alloc ..
    obtain ⟨av, cv, rfl, _⟩ := own_slice hown
    obtain ⟨vs0, hvs0, _⟩ := id hR
    obtain ⟨ao, co, rfl, _⟩ := own_slice hvs0
    have hkn : ((pre.length : Int) == (p.cards.length : Int)) = false := by simp; omega
    have h4 : pre.length ≤ 4 := by omega
    have HH := Lib.hid (And.intro hb0 (And.intro q0 (And.intro s0 (And.intro hA (And.intro hR (And.intro hown (And.intro hacc (And.intro hr (And.intro hl hP)))))))))
    have HN := Lib.hid hl
    have HK := Lib.hid hkn
    clear ih hb0 q0 s0 hA hR hown hvs0 hr hacc hl hP
    go_enter Try.func100, Try.ntmps100
    go_wp2_with fail
    revert HH
    generalize A.alloc (.cells (p.cells a cap) 26) = A1
    intro HH
    have hR1 := HH.out.2.2.2.2.1.below HH.out.1
    have hA1 := HH.out.2.2.2.1.trans (HH.out.1.mono HH.out.2.2.2.1.size)
    have HA1 := Lib.hid (And.intro hR1 hA1)
    clear hR1 hA1 hkn
    go_loopw [2, 7] (fun o q wr => ∃ (j : Nat) (ao' : Option Addr) (co' : Nat), j ≤ p.cards.length + 1 ∧ q = .int .i64 ((j : Int) - 1) ∧ o = .slice ao' (accW p d pre acc j).length co' ∧ Hid (WyPost W0.heap.size (accW p d pre acc j) A1 (.slice ao acc.length co) o wr)) (fun o q _ => (p.cards.length : Int) + 1 - intOf q |>.toNat)
    case atStart => exact ⟨0, ao, co, by omega, by go_num, by rw [accW_zero], by rw [Hid, accW_zero]; exact WyPost.refl HA1.out.1⟩
    case round =>
      obtain ⟨j, ao', co', hj, rfl, rfl, HW⟩ := hrel
      have hbw := HW.out.below HA1.out.1 HA1.out.2.size
      have hq := (HW.out.grown.block A.heap.size (by have := HH.out.2.2.1; omega) (fun e => by have := (HH.out.2.2.2.2.1.lt e.symm).2; omega)).trans HH.out.2.1
      obtain ⟨k0, k1, k2, k3, k4⟩ := prs_cells hq
      have HB := Lib.hid (HA1.out.2.trans hbw)
      have HQ := Lib.hid hq
      have hown' := HW.out.ints HA1.out.1 (own_below HH.out.2.2.2.2.2.1 HH.out.1)
      have HO := Lib.hid hown'
      clear hbw hq hown'
      by_cases hlt : j < p.cards.length + 1
      · by_cases hf : (j : Int) - 1 = (pre.length : Int)
        · have HS : Hid (accW p d pre acc (j + 1) = accW p d pre acc j) := by
            rw [Hid, accW_succ p d pre acc hlt]
            unfold onF
            rw [if_pos hf]
            simp
          have hb : (((j : Int) - 1) != (pre.length : Int)) = false := by simpa using hf
          have HF := Lib.hid hf
          clear hf k1 k2 k3 k4
          go_wp2_with fail
          go_roundw
          case rel => exact ⟨j + 1, ao', co', by omega, by go_num, by rw [HS.out], by rw [Hid, HS.out]; exact HW.out⟩
          case measure => simp [intOf]; omega
        · have HS : Hid (accW p d pre acc (j + 1) = accW p d pre acc j ++ onW p d (pre ++ [(j : Int) - 1])) := by
            rw [Hid, accW_succ p d pre acc hlt]
            unfold onF
            rw [if_neg hf]
          have HL : Hid ((accW p d pre acc j).length + (onW p d (pre ++ [(j : Int) - 1])).length ≤ 1000000) := by
            have h1 := accW_le p d pre acc hlt
            unfold onF at h1
            rw [if_neg hf] at h1
            have h2 := HH.out.2.2.2.2.2.2.1
            rw [Hid]
            omega
          have hb : (((j : Int) - 1) != (pre.length : Int)) = true := by simpa using hf
          have HF := Lib.hid hf
          clear hf k0 k1 k2 k3 k4
          obtain ⟨k0, k1, k2, k3, k4⟩ := prs_cells HQ.out
          go_wp2_with fail
          clear k0 k1 k2 k3 k4
          obtain ⟨f, hfe⟩ : ∃ f : Int, (j : Int) - 1 = f := ⟨_, rfl⟩
          have HFE := Lib.hid hfe
          rw [hfe] at HS HL hb ⊢
          have hW0 : Below wr.heap.size wr wr := Below.refl _ wr
          have kp : ∀ v, Below wr.heap.size wr v → v.cell? ⟨A.heap.size, 0, none⟩ = some (.slice a p.cards.length cap) ∧ v.cell? ⟨A.heap.size, 1, none⟩ = some (.int .i64 p.llo) ∧ v.cell? ⟨A.heap.size, 2, none⟩ = some (.int .i64 p.lhi) ∧ v.cell? ⟨A.heap.size, 3, none⟩ = some (.int .i64 p.olo) ∧ v.cell? ⟨A.heap.size, 4, none⟩ = some (.int .i64 p.ohi) := fun v h => prs_cells ((h.block _ (heap_lt HQ.out)).trans HQ.out)
          refine wpIn_wide.1 (rwa9 (p := p) (a := a) (cap := cap) (bx := A.heap.size) (av := av) (k := pre.length) (cv := cv) (vo := .slice ao' (accW p d pre acc j).length co') (f := f)
            (S0 := fun fs ms w => Below wr.heap.size wr w ∧ (fs = true → wr.heap.size ≤ ms ∧ w.heap[ms]? = some (.cells #[.int .i64 f] 3 (0, 0))))
            (S1 := fun fs ms xs w => Below wr.heap.size wr w ∧ w.ownsRow wr.heap.size 3 1 xs 0 [] ∧ (fs = true → xs.ownBlock ≠ some ms ∧ w.heap[ms]? = some (.cells #[.int .i64 f] 3 (0, 0))))
            (S2 := fun fs ms xs r1 w => Below wr.heap.size wr w ∧ w.ownsRow wr.heap.size 3 1 (.slice r1.1 pre.length r1.2) pre.length (pre.map (Value.int .i64)) ∧ (fs = true → w.heap[ms]? = some (.cells #[.int .i64 f] 3 (0, 0))))
            (S3 := fun fs ms xs r1 r2 w => Below wr.heap.size wr w ∧ w.ownsRow wr.heap.size 3 1 (.slice r2.1 (pre.length + 1) r2.2) (pre ++ [f]).length ((pre ++ [f]).map (Value.int .i64)))
            (S4 := fun fs ms xs r1 r2 x41 w => WyPost W0.heap.size (accW p d pre acc (j + 1)) wr (.slice ao' (accW p d pre acc j).length co') x41 w)
            ?h0 ?l0 ?c1 ?c3 ?s0 ?s1 ?s2 ?c6 ?c8 ?hQ)
          case h0 => exact ⟨hW0.drew, fun h => by cases h⟩
          case l0 =>
            intro fs ms xs r1 r2 w h
            refine kp w ?_
            rcases h with h | h | h | h <;> exact h.1
          case c1 => exact fun fs ms w h => ⟨h.1.alloc h.1.size _, ownsRow_zero h.1.size, fun hf => ⟨fun e => by have e' : some w.heap.size = some ms := e; cases e'; have := heap_lt (h.2 hf).2; omega, (Below.heap_alloc w _ ms (heap_lt (h.2 hf).2)).trans (h.2 hf).2⟩⟩
          case c3 =>
            intro fs ms xs w h
            obtain ⟨r1, w', hrun, hb', ho', hk⟩ := copy_new (cv := cv) (by omega) h.1 h.2.1 ((own_ints HO.out).mono h.1)
            exact ⟨r1, w', hrun, hb', ho', fun hf => (hk ms (heap_lt (h.2.2 hf).2) (h.2.2 hf).1).1.trans (h.2.2 hf).2⟩
          case s0 => exact fun w h => ⟨h.1.alloc h.1.size _, fun _ => ⟨h.1.size, World.alloc_heap_new _ _⟩⟩
          case s1 => exact fun xs w h => ⟨h.1.alloc h.1.size _, h.2.1.alloc _, fun _ => ⟨fun e => by have := (h.2.1.lt _ e).2; omega, World.alloc_heap_new _ _⟩⟩
          case s2 => exact fun xs r1 w h => ⟨h.1.alloc h.1.size _, h.2.1.alloc _, fun _ => World.alloc_heap_new _ _⟩
          case c6 =>
            intro ms xs r1 w h
            obtain ⟨r2, w', hrun, hb', ho'⟩ := copy_more (by omega) h.1 h.2.1 (h.2.2 rfl)
            exact ⟨r2, w', hrun, hb', ho'⟩
          case c8 =>
            intro ms xs r1 r2 w h
            have hwr : W0.heap.size ≤ wr.heap.size := HB.out.size
            have hcall := HIH.out (pre ++ [f]) (accW p d pre acc j) w (.slice r2.1 (pre.length + 1) r2.2) (.slice ao' (accW p d pre acc j).length co') (by simp; have := HN.out; omega) (by
              intro x hx
              rcases List.mem_append.1 hx with hx | hx
              · exact HH.out.2.2.2.2.2.2.2.1 x hx
              · have hx' : x = f := by simpa using hx
                have := HFE.out
                omega) HL.out (HB.out.trans (h.1.mono hwr)) (HW.out.rows.below h.1) (own_base h.2 hwr)
            refine hcall.mono ?_
            rintro e w' ⟨v', rfl, hp⟩
            exact ⟨v', rfl, by rw [HS.out]; exact WyPost.after h.1 hp⟩
          case hQ =>
            intro ms xs r1 r2 x41 w' h
            have h2 := HW.out.trans h
            obtain ⟨vs2, hvs2, _⟩ := id h.rows
            obtain ⟨a2, c2, rfl, _⟩ := own_slice hvs2
            have H2 := Lib.hid h2
            have hf0 : -1 ≤ f := by have := HFE.out; omega
            have hf1 : f ≤ 5 := by have := HFE.out; omega
            clear hvs2 h h2 kp hW0
            go_wp2_with fail
            go_roundw
            case rel => exact ⟨j + 1, a2, c2, by omega, by have := HFE.out; go_num, rfl, H2.out⟩
            case measure => simp [intOf]; omega
      · obtain rfl : j = p.cards.length + 1 := by omega
        clear k1 k2 k3 k4
        go_wp2_with fail
        go_ret
        have h := HW.out
        rw [accW_all] at h
        exact ⟨_, rfl, by rw [← accW_all]; exact WyPost.after HH.out.1 (by rw [accW_all]; exact h)⟩
end Go.Proofs.Ytnfhlbmapfoifaa

namespace Go.Proofs.Ytnfhlbmapfoifaa
open Go.RowKit
set_option linter.unusedVariables false

theorem waysL_le {p : Prs} (hn : p.cards.length ≤ 5) : (waysL p).length ≤ 7776 := by
  refine Nat.le_trans (onW_len hn p.cards.length []) ?_
  exact Nat.le_trans (Nat.pow_le_pow_right (by decide) hn) (by decide)
theorem rows_nil {w : World} : RowsAt w w.heap.size (.slice none 0 0) [] := ⟨[], World.ownsRow_nil w _ _ _, rfl, fun i x h => by simp at h⟩
theorem rows_int {w : World} {B : Nat} {v : Value} {l : List (List Int)} (h : RowsAt w B v l) : ∃ a c, v = .slice a l.length c := by
  obtain ⟨vs, h1, _⟩ := h
  obtain ⟨a, c, e, _⟩ := own_slice h1
  exact ⟨a, c, e⟩
theorem all_ref {p : Prs} {a : Option Addr} {cap : Nat} {w : World} (ha : IsPrts w a p.cards) (hv : p.valid = true) :
    Calls Try.prog 60 #[p.v a cap] w fun e w' => ∃ v', e = .returned v' ∧ RowsAt w' w.heap.size v' (waysL p) ∧ Below w.heap.size w w' := by
  have hn5 := (valid_parts hv).1
  have hb0 : Below w.heap.size w (w.alloc (.cells (p.cells a cap) 26)) := (Below.refl _ w).alloc (Nat.le_refl _) _
  have hcall := ways_rec (cap := cap) (ha.mono hb0) hv p.cards.length [] [] (w.alloc (.cells (p.cells a cap) 26)) (.slice none 0 0) (.slice none 0 0) (by simp) (by simp) (by have := waysL_le hn5; unfold waysL at this; simp; omega) (Below.refl _ _) rows_nil (World.ownsRow_nil _ _ _ _)
  have HC := Lib.hid hcall
  have HB := Lib.hid hb0
  clear hcall hb0
  go_enter Try.func60, Try.ntmps60
  go_wp2_with fail
  refine HC.out.mono ?_
  rintro e w' ⟨v', rfl, hp⟩
  obtain ⟨a2, c2, rfl⟩ := rows_int hp.rows
  have hb := hp.below rows_nil (Nat.le_refl _)
  have HR : Hid (RowsAt w' w.heap.size (.slice a2 ([] ++ onW p p.cards.length []).length c2) (waysL p)) := by
    have h2 := hp.rows.base HB.out.size
    rw [List.nil_append] at h2
    rw [Hid, List.nil_append]
    exact h2
  have HB2 := Lib.hid (HB.out.trans (hb.mono HB.out.size))
  clear hp hb
  go_wp2_with fail
  go_ret
  exact ⟨_, rfl, HR.out, HB2.out⟩
theorem ways_ref {p : Prs} {a : Option Addr} {cap : Nat} {w : World} (ha : IsPrts w a p.cards) (hn : p.cards.length ≤ 16) :
    Calls Try.prog 36 #[p.v a cap] w fun e w' => e = .returned (.tuple #[.int .i64 (waysE p).1, .int .i64 (waysE p).2]) ∧ Below w.heap.size w w' := by
  have hb0 : Below w.heap.size w (w.alloc (.cells (p.cells a cap) 26)) := (Below.refl _ w).alloc (Nat.le_refl _) _
  have q0 := World.alloc_heap_new w (.cells (p.cells a cap) 26)
  have HW := Lib.hid (And.intro hb0 (And.intro q0 (ha.mono hb0)))
  clear hb0 q0 ha
  by_cases hE : openE p true = 0
  · obtain ⟨hv, _⟩ := openE_parts hE
    have e1 : waysE p = (((waysL p).length : Int), 0) := by unfold waysE; simp only; rw [if_pos hE]
    have hle := waysL_le (valid_parts hv).1
    rw [e1]
    have HE := Lib.hid hE
    have HV := Lib.hid hv
    clear hE hv e1
    go_enter Try.func36, Try.ntmps36
    go_wp2_with fail
    revert HW
    generalize w.alloc (.cells (p.cells a cap) 26) = w1
    intro HW
    refine (rcheck_any HW.out.2.2 hn true).mono ?_
    rintro e w2 ⟨rfl, hb2⟩
    rw [HE.out]
    obtain ⟨k0, k1, k2, k3, k4⟩ := prs_cells ((hb2.block _ (heap_lt HW.out.2.1)).trans HW.out.2.1)
    have HA2 := Lib.hid (HW.out.2.2.mono hb2)
    have HB2 := Lib.hid (HW.out.1.trans (hb2.mono HW.out.1.size))
    clear hb2
    go_wp2_with fail
    refine (all_ref HA2.out HV.out).mono ?_
    rintro e w3 ⟨v', rfl, hr, hb3⟩
    obtain ⟨a2, c2, rfl⟩ := rows_int hr
    have HB3 := Lib.hid (HB2.out.trans (hb3.mono HB2.out.size))
    clear hr hb3 k0 k1 k2 k3 k4
    go_wp2_with fail
    refine bodyPost_ret (results_tmp2 rfl _ _ _) rfl ?_
    exact ⟨rfl, HB3.out⟩
  · have e1 : waysE p = (0, openE p true) := by unfold waysE; simp only; rw [if_neg hE]
    rw [e1]
    have hnb := bne_iff_ne.2 hE
    have HNB := Lib.hid hE
    clear hE e1
    go_enter Try.func36, Try.ntmps36
    go_wp2_with fail
    refine (rcheck_any HW.out.2.2 hn true).mono ?_
    rintro e w2 ⟨rfl, hb2⟩
    have HB2 := Lib.hid (HW.out.1.trans (hb2.mono HW.out.1.size))
    clear hb2
    go_wp2_with fail
    refine bodyPost_ret (results_tmp2 rfl _ _ _) rfl ?_
    exact ⟨rfl, HB2.out⟩
end Go.Proofs.Ytnfhlbmapfoifaa

