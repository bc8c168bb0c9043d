/- The law LendTurned: the cabinet that is numbered otherwise is made. The law LendTurned: for every cabinet. -/
import Derived.Test.YtlhobddaojdnoaaR9
import Derived.Test.YtlhobddaojdnoaaW25
import Derived.Laws.MakeOwn
import Derived.Deep.RegionHeld3
import Derived.Deep.DeepCutAuto
import Derived.Test.YtlhobddaojdnoaaR12
import Derived.Test.YtlhobddaojdnoaaR15
namespace Go.Proofs.Ytlhobddaojdnoaa
open Go.RowKit

theorem hb3S {w2 w3 w4 : World} {M : Nat → Prop} (h : Below w2.heap.size w2 w3) (hs : Same M w3 w4) : Same M w2 w4 := (Same.of_below M h).trans hs
theorem info3b : (Try.prog.info? 3).map (fun i => (i.zero, i.size, i.bytes)) = some (some (.int .i64 0), 1, 8) := by kernel_rfl
theorem heap4 (w : World) (a b d e : Obj) : let W := (((w.alloc a).alloc b).alloc d).alloc e
    W.heap[w.heap.size]? = some a ∧ W.heap[w.heap.size + 1]? = some b ∧ W.heap[w.heap.size + 1 + 1]? = some d ∧ W.heap[w.heap.size + 1 + 1 + 1]? = some e := by
  obtain ⟨q0, q1, q2⟩ := heap3 w a b d
  have qe := World.alloc_heap_new (((w.alloc a).alloc b).alloc d) e
  simp only [World.size_alloc] at qe
  exact ⟨(Below.heap_alloc _ _ _ (by simp only [World.size_alloc]; omega)).trans q0, (Below.heap_alloc _ _ _ (by simp only [World.size_alloc]; omega)).trans q1, (Below.heap_alloc _ _ _ (by simp only [World.size_alloc]; omega)).trans q2, qe⟩

set_option maxRecDepth 100000 in
set_option maxHeartbeats 8000000 in
theorem lawTurned_t {c : Cab} {w : World} {ah : Option Addr} {ch : Nat} {al : Option Addr} {cl : Nat} {a b d : Nat} (hg : Given w c ah ch al cl) (hv : c.valid = true) (ha : a ≤ 255) (hb : b ≤ 255) (hd : d ≤ 255) :
    Calls Try.prog 11 #[c.v ah ch al cl, .int .u8 a, .int .u8 b, .int .u8 d] w fun e w' => e = .returned (.bool true) ∧ Below w.heap.size w w' := by
  have hmf : ∀ (fn : Fn) (first cap : Array Value) (w : World), (Instr.makeFunc fn first cap).run Try.prog w = .ok (.func fn first cap) w := fun _ _ _ _ => rfl
  obtain ⟨i0, hi0, hi1, hi2, hi3⟩ := info_parts info3b
  have hmk : ∀ w, (Instr.makeSlice 22 (.int .i64 (c.homes.length : Int)) (.int .i64 (c.homes.length : Int))).run Try.prog w = .ok (.slice (some ⟨w.heap.size, 0, none⟩) c.homes.length c.homes.length) (w.alloc (.cells (madeCells #[.int .i64 0] c.homes.length) 3)) := by
    intro w
    have h := run_make (P := Try.prog) (w := w) 22 3 i0 _ Try.underlying22 hi0 hi1 .i64 .i64 (c.homes.length : Int) (c.homes.length : Int) (by omega) (by omega) (by rw [hi3]; have := hg.hh; omega) (by have := hg.hh; omega)
    simpa [hi2, Value.cells] using h
  have hgr : Hid ((decide (16 < c.homes.length) || decide (30 < c.loans.length)) = false) := by have := hg.hh; have := hg.hl; unfold Hid; simp; omega
  have HV := Lib.hid hv
  obtain ⟨vs1, vs2⟩ := valid_slots hv
  have vh := valid_homes hv
  have vl := valid_loans hv
  clear hv
  go_enter Try.func11, Try.ntmps11
  go_wp2_with fail
  obtain ⟨q0, q1, q2, q3⟩ := heap4 w (.cells (c.cells ah ch al cl) 25) (.cells #[.int .u8 a] 5) (.cells #[.int .u8 b] 5) (.cells #[.int .u8 d] 5)
  have hb0 : Below w.heap.size w ((((w.alloc (.cells (c.cells ah ch al cl) 25)).alloc (.cells #[.int .u8 a] 5)).alloc (.cells #[.int .u8 b] 5)).alloc (.cells #[.int .u8 d] 5)) :=
    ((((Below.refl _ w).alloc (Nat.le_refl _) _).alloc (by simp) _).alloc (by simp; omega) _).alloc (by simp; omega) _
  have hz0 : ((((w.alloc (.cells (c.cells ah ch al cl) 25)).alloc (.cells #[.int .u8 a] 5)).alloc (.cells #[.int .u8 b] 5)).alloc (.cells #[.int .u8 d] 5)).heap.size = w.heap.size + 4 := by simp
  revert q0 q1 q2 q3 hb0 hz0
  generalize ((((w.alloc (.cells (c.cells ah ch al cl) 25)).alloc (.cells #[.int .u8 a] 5)).alloc (.cells #[.int .u8 b] 5)).alloc (.cells #[.int .u8 d] 5)) = w0
  intro q0 q1 q2 q3 hb0 hz0
  have HZ0 := Lib.hid hz0
  clear hz0
  refine (great_any c _).mono ?_
  rintro e w1 ⟨rfl, hb1⟩
  rw [hgr.out]
  have hB1 := bst hb0 hb1
  have hg1 := hg.mono hB1
  have g0 := (hb1.block w.heap.size (by rw [HZ0.out]; omega)).trans q0
  have g1 := (hb1.block (w.heap.size + 1) (by rw [HZ0.out]; omega)).trans q1
  have g2 := (hb1.block (w.heap.size + 1 + 1) (by rw [HZ0.out]; omega)).trans q2
  have g3 := (hb1.block (w.heap.size + 1 + 1 + 1) (by rw [HZ0.out]; omega)).trans q3
  clear q0 q1 q2 q3
  have d0 : w1.cell? ⟨w.heap.size, 0, none⟩ = some (.int .i64 c.slots) := by rw [cell_of_heap g0]; rfl
  have d1 : w1.cell? ⟨w.heap.size, 1, none⟩ = some (.slice ah c.homes.length ch) := by rw [cell_of_heap g0]; rfl
  have d2 : w1.cell? ⟨w.heap.size, 2, none⟩ = some (.int .i64 c.wrong) := by rw [cell_of_heap g0]; rfl
  have d3 : w1.cell? ⟨w.heap.size, 3, none⟩ = some (.slice al c.loans.length cl) := by rw [cell_of_heap g0]; rfl
  have d4 : w1.cell? ⟨w.heap.size + 1, 0, none⟩ = some (.int .u8 a) := by rw [cell_of_heap g1]; rfl
  have d5 : w1.cell? ⟨w.heap.size + 1 + 1, 0, none⟩ = some (.int .u8 b) := by rw [cell_of_heap g2]; rfl
  have d6 : w1.cell? ⟨w.heap.size + 1 + 1 + 1, 0, none⟩ = some (.int .u8 d) := by rw [cell_of_heap g3]; rfl
  clear g0 g1 g2 g3
  go_wp2_with fail
  refine (refCab_any hg1.hi hg1.li hg1.hh hg1.hl).mono ?_
  rintro e w2 ⟨rfl, hb2⟩
  rw [HV.out]
  have hB2 := bst hB1 hb2
  have hg2 := hg1.mono hb2
  have e0 := cell_stays hb2 d0
  have e1 := cell_stays hb2 d1
  have e2 := cell_stays hb2 d2
  have e3 := cell_stays hb2 d3
  have e4 := cell_stays hb2 d4
  have e5 := cell_stays hb2 d5
  have e6 := cell_stays hb2 d6
  clear d0 d1 d2 d3 d4 d5 d6 hgr hg1
  have hlt2 := lt_of_cell e6
  have hlt3 := lt_of_cell e5
  have hlt4 := lt_of_cell e4
  have hlt5 := lt_of_cell e0
  have hlt6 : w.heap.size < w2.heap.size + 1 := by omega
  have hlt7 : w.heap.size < w2.heap.size + 1 + 1 := by omega
  go_wp2_with fail
  obtain ⟨q0, q1, q2⟩ := heap3 w2 (.cells #[.int .i64 c.homes.length] 3) (.cells #[.int .i64 c.slots, .slice (some ⟨w2.heap.size + 1 + 1, 0, none⟩) c.homes.length c.homes.length, .int .i64 c.wrong, .slice none 0 0] 25) (.cells (madeCells #[.int .i64 0] c.homes.length) 3)
  have hb3 : Below w2.heap.size w2 (((w2.alloc (.cells #[.int .i64 c.homes.length] 3)).alloc (.cells #[.int .i64 c.slots, .slice (some ⟨w2.heap.size + 1 + 1, 0, none⟩) c.homes.length c.homes.length, .int .i64 c.wrong, .slice none 0 0] 25)).alloc (.cells (madeCells #[.int .i64 0] c.homes.length) 3)) :=
    (((Below.refl _ w2).alloc (Nat.le_refl _) _).alloc (by simp) _).alloc (by simp; omega) _
  have hz3 : (((w2.alloc (.cells #[.int .i64 c.homes.length] 3)).alloc (.cells #[.int .i64 c.slots, .slice (some ⟨w2.heap.size + 1 + 1, 0, none⟩) c.homes.length c.homes.length, .int .i64 c.wrong, .slice none 0 0] 25)).alloc (.cells (madeCells #[.int .i64 0] c.homes.length) 3)).heap.size = w2.heap.size + 3 := by simp
  revert q0 q1 q2 hb3 hz3
  generalize (((w2.alloc (.cells #[.int .i64 c.homes.length] 3)).alloc (.cells #[.int .i64 c.slots, .slice (some ⟨w2.heap.size + 1 + 1, 0, none⟩) c.homes.length c.homes.length, .int .i64 c.wrong, .slice none 0 0] 25)).alloc (.cells (madeCells #[.int .i64 0] c.homes.length) 3)) = w3
  intro q0 q1 q2 hb3 hz3
  have HZ3 := Lib.hid hz3
  have HQ2 := Lib.hid q2
  have hg3 := hg2.mono hb3
  have hB3 := bst hB2 hb3
  have d0 := cell_stays hb3 e0
  have d1 := cell_stays hb3 e1
  have d2 := cell_stays hb3 e2
  have d3 := cell_stays hb3 e3
  have d4 := cell_stays hb3 e4
  have d5 := cell_stays hb3 e5
  have d6 := cell_stays hb3 e6
  have d7 : w3.cell? ⟨w2.heap.size, 0, none⟩ = some (.int .i64 c.homes.length) := by rw [cell_of_heap q0]; rfl
  have u0 : w3.cell? ⟨w2.heap.size + 1, 0, none⟩ = some (.int .i64 c.slots) := by rw [cell_of_heap q1]; rfl
  have u1 : w3.cell? ⟨w2.heap.size + 1, 1, none⟩ = some (.slice (some ⟨w2.heap.size + 1 + 1, 0, none⟩) c.homes.length c.homes.length) := by rw [cell_of_heap q1]; rfl
  have u2 : w3.cell? ⟨w2.heap.size + 1, 2, none⟩ = some (.int .i64 c.wrong) := by rw [cell_of_heap q1]; rfl
  have u3 : w3.cell? ⟨w2.heap.size + 1, 3, none⟩ = some (.slice none 0 0) := by rw [cell_of_heap q1]; rfl
  have HQ1 := Lib.hid q1
  clear e0 e1 e2 e3 e4 e5 e6 q0 q1 q2 hz3
  have HD3 := Lib.hid (And.intro d0 (And.intro d1 (And.intro d2 (And.intro d3 (And.intro d4 (And.intro d5 (And.intro d6 (And.intro d7 (And.intro u0 (And.intro u1 (And.intro u2 u3)))))))))))
  have HSa : Hid (∀ (v : World) b' o' x', Same (fun i => i = w2.heap.size + 1 + 1) w3 v → w3.cell? ⟨b', o', none⟩ = some x' → b' ≠ w2.heap.size + 1 + 1 → v.cell? ⟨b', o', none⟩ = some x') := fun v b' o' x' h1 h2 h3 => h1.cell h2 h3
  go_loopw [83] (fun i wr => ∃ (k : Nat) (arr : Array Value), k ≤ c.homes.length ∧ i = .int .i64 k ∧ Same (fun i => i = w2.heap.size + 1 + 1) w3 wr ∧ Hid (wr.heap[w2.heap.size + 1 + 1]? = some (.cells arr 3 (0, 0))) ∧ Hid (arr.size = c.homes.length) ∧
    Hid (∀ j, j < k → arr[fT c.homes.length a j]? = some (.int .i64 (slotT c.slots b (gi c.homes j))))) (fun i _ => c.homes.length - (intOf i).toNat)
  case atStart => exact ⟨0, _, by omega, rfl, Same.refl _ _, HQ2.out, by simp [Hid, madeCells], fun j hj => by omega⟩
  case round =>
    obtain ⟨k, arr, hk, rfl, hS, HA, HN, HF⟩ := hrel
    have hSz := hS.size
    have e0 := hS.cell d0 (by omega)
    have e1 := hS.cell d1 (by omega)
    have e4 := hS.cell d4 (by omega)
    have e5 := hS.cell d5 (by omega)
    have e7 := hS.cell d7 (by omega)
    have v1 := hS.cell u1 (by omega)
    by_cases hlt : k < c.homes.length
    · obtain ⟨bo, off, hah, hcell⟩ := hg2.hi k hlt
      have hbo := lt_of_cell hcell
      have e8 := hS.cell (cell_stays hb3 hcell) (by omega)
      subst hah
      obtain ⟨m, hm⟩ : ∃ m, m = fT c.homes.length a k := ⟨_, rfl⟩
      have hck : cardT c.homes.length a (k : Int) = (m : Int) := by rw [hm]; exact cardT_eq (by omega)
      have hmlt : m < c.homes.length := by rw [hm]; exact (fT_fin hlt).1
      have HM := Lib.hid hm
      have hin := home_in HV.out hlt
      obtain ⟨hin0, hin1⟩ := hin
      have ea : wr.cell? ⟨w2.heap.size + 1 + 1, m, none⟩ = some (arr[m]'(by rw [HN.out]; exact hmlt)) := by rw [cell_of_heap HA.out]; simp [HN.out, hmlt]
      have fa : wr.frozen? ⟨w2.heap.size + 1 + 1, m, none⟩ = false := frozen_of_heap HA.out
      have c42 := fun y : Aft wr.heap.size wr => card42 (w := y.v) (k : Int) a c.homes.length ha (by omega) (.inr ⟨by omega, by omega⟩) (cell_stays y.h e4) (cell_stays y.h e7)
      have c43 := fun y : Aft wr.heap.size wr => slot43 (w := y.v) (gi c.homes k) b c.slots hb ⟨vs1, vs2⟩ ⟨hin0, hin1⟩ (cell_stays y.h e5) (cell_stays y.h e0)
      rw [hck] at c42
      have C42 := Lib.hid c42
      have C43 := Lib.hid c43
      have x1 := fun y : Aft wr.heap.size wr => cell_stays y.h v1
      have x2 := fun y : Aft wr.heap.size wr => cell_stays y.h e8
      clear c42 c43 hcell hm hck
      go_wp2_with fail
      refine wp_region_aft_tail 9 mixed (by kernel_rfl) ?_
      simp only [List.take_succ_cons, List.take_zero, List.drop_succ_cons, List.drop_zero]
      repeat (go_big_quiet_step (first | (go_at_call 42; exact calls_aft_same (C42.out _)) | (go_at_call 43; exact calls_aft_same (C43.out _))))
      refine wpQuiet_nil ?_
      rintro _ ⟨y, rfl⟩
      have hby := y.h
      have ea' := cell_stays hby ea
      have fa' := (hby.frozen (p := ⟨w2.heap.size + 1 + 1, m, none⟩) (lt_of_cell ea)).trans fa
      have hA' := (hby.block _ (lt_of_cell ea)).trans HA.out
      revert hby ea' fa' hA'
      generalize y.v = w5
      intro hby ea' fa' hA'
      have HA' := Lib.hid hA'
      clear x1 x2 y C42 C43 hA' ea fa
      go_wp2_with fail
      go_roundw
      case rel =>
        refine ⟨k + 1, arr.setIfInBounds m (.int .i64 (slotT c.slots b (gi c.homes k))), by omega, by go_num, (hS.trans (Same.of_below _ hby)).setCell (.inl rfl) _, heap_setCell_at HA'.out _, by simpa [Hid] using HN.out, fun j hj => ?_⟩
        by_cases e : j = k
        · subst e
          rw [← HM.out]
          simp [HN.out, hmlt]
        · rw [Array.getElem?_setIfInBounds_ne]
          · exact HF.out j (by omega)
          · intro he
            have h1 := fT_fin (a := a) hlt
            have h2 := fT_fin (a := a) (i := j) (n := c.homes.length) (by omega)
            rw [HM.out] at he
            exact e (by rw [← h2.2, ← he, h1.2])
      case measure => simp [intOf]; omega
    · obtain rfl : k = c.homes.length := by omega
      obtain ⟨w4, rfl⟩ : ∃ w4 : World, w4 = wr := ⟨_, rfl⟩
      have hXi : IsInts w4 (some ⟨w2.heap.size + 1 + 1, 0, none⟩) (turned c a b d).homes := by
        intro j hj
        rw [turned_len] at hj
        refine ⟨_, _, rfl, ?_⟩
        have h1 := fT_fin' (a := a) hj
        have h2 := HF.out _ h1.1
        rw [h1.2] at h2
        rw [cell_of_heap HA.out, turned_home hj, Nat.zero_add]
        exact h2
      have hB4 : Below w.heap.size w w4 := hB2.trans (Same.below (hb3S hb3 hS) (by have := hB2.size; omega) (fun k hk => by have := hB2.size; omega))
      have hg4 : Given w4 c ah ch al cl := ⟨(hg.hi).mono (hB4), (hg.li).mono hB4, hg.hh, hg.hl, hg.cl⟩
      have hW : ∀ b' o' x', w3.cell? ⟨b', o', none⟩ = some x' → b' ≠ w2.heap.size + 1 + 1 → w4.cell? ⟨b', o', none⟩ = some x' := fun b' o' x' h2 h3 => hS.cell h2 h3
      have e2 := hW _ _ _ d2 (by omega)
      have e3 := hW _ _ _ d3 (by omega)
      have e6 := hW _ _ _ d6 (by omega)
      have v0 := hW _ _ _ u0 (by omega)
      have v2 := hW _ _ _ u2 (by omega)
      have v3 := hW _ _ _ u3 (by omega)
      have hH1 : Hid (w4.heap[w2.heap.size + 1]? = some (.cells #[.int .i64 c.slots, .slice (some ⟨w2.heap.size + 1 + 1, 0, none⟩) c.homes.length c.homes.length, .int .i64 c.wrong, .slice none 0 0] 25 (0, 0))) := by
        rw [Hid, hS.block _ (by rw [HZ3.out]; omega) (by omega)]; exact HQ1.out
      have hz4 : w2.heap.size + 3 ≤ w4.heap.size := by have := hS.size; rw [HZ3.out] at this; exact this
      clear d0 d1 d2 d3 d4 d5 d6 d7 u0 u1 u2 u3 HA HN HF hk hlt hS HQ1 HQ2 HSa hW hmk hmf HD3 hb3 hSz hg3 hB3 hg2
      obtain ⟨i1, hj0, hj1, hj2, hj3⟩ := info_parts info48
      go_wp2_with fail
      go_loopw [101] (fun i wr => ∃ (k : Nat) (lv : Value), k ≤ c.loans.length ∧ i = .int .i64 k ∧ Same (fun i => i = w2.heap.size + 1) w4 wr ∧
        Hid (wr.heap[w2.heap.size + 1]? = some (.cells #[.int .i64 c.slots, .slice (some ⟨w2.heap.size + 1 + 1, 0, none⟩) c.homes.length c.homes.length, .int .i64 c.wrong, lv] 25 (0, 0))) ∧
        wr.ownsRow w4.heap.size 48 4 lv k (loanCells ((c.loans.take k).map (loanT c.homes.length c.slots a b d)))) (fun i _ => c.loans.length - (intOf i).toNat)
      case atStart => exact ⟨0, _, by omega, rfl, Same.refl _ _, hH1, World.ownsRow_nil _ _ _ _⟩
      case round =>
        obtain ⟨k, lv, hk, rfl, hS, HX, hown⟩ := hrel
        by_cases hlt : k < c.loans.length
        · obtain ⟨bo, off, hal, l0, l1, l2, l3⟩ := hg.li k hlt
          have hbo := lt_of_cell l0
          have hm0 := hS.cell (cell_stays hB4 l0) (by omega)
          have hm1 := hS.cell (cell_stays hB4 l1) (by omega)
          have hm2 := hS.cell (cell_stays hB4 l2) (by omega)
          have hm3 := hS.cell (cell_stays hB4 l3) (by omega)
          have f0 := hS.cell e0 (by omega)
          have f4 := hS.cell e4 (by omega)
          have f5 := hS.cell e5 (by omega)
          have f6 := hS.cell e6 (by omega)
          have f7 := hS.cell e7 (by omega)
          have hkd := loan_kind HV.out hlt
          have hmv := @loan_move c HV.out k hlt
          have hlk := @loan_look c HV.out k hlt
          have htk : (c.loans.take (k + 1)).map (loanT c.homes.length c.slots a b d) = (c.loans.take k).map (loanT c.homes.length c.slots a b d) ++ [loanT c.homes.length c.slots a b d (gl c.loans k)] := by
            rw [take_succ' hlt, List.map_append, List.map_singleton]
          have HTK := Lib.hid htk
          clear htk l0 l1 l2 l3
          revert hm0 hm1 hm2 hm3 hkd hmv hlk HTK
          generalize gl c.loans k = l
          obtain ⟨kd, ca, pe, sl⟩ := l
          intro hm0 hm1 hm2 hm3 hkd hmv hlk HTK
          simp only at hm0 hm1 hm2 hm3 hkd hmv hlk
          have hci : ca = -1 ∨ (0 ≤ ca ∧ ca < c.homes.length) := by
            by_cases h2 : kd = 2
            · rcases (hlk h2).2.2 with h | h
              · exact .inl h
              · exact .inr (by omega)
            · have := hmv h2; exact .inr (by omega)
          have hpi : kd ≠ 2 → 0 ≤ pe ∧ pe ≤ 7 := fun h2 => by have := hmv h2; omega
          have hsi : kd = 2 → 0 ≤ sl ∧ sl < c.slots := fun h2 => by have := hlk h2; omega
          subst hal
          clear hmv hlk
          have HPI := Lib.hid hpi
          have HSI := Lib.hid hsi
          clear hpi hsi
          have hbw : Below wr.heap.size wr (wr.alloc (.cells #[.int .i64 kd, .int .i64 ca, .int .i64 pe, .int .i64 sl] 48)) := (Below.refl _ wr).alloc (Nat.le_refl _) _
          have hnw := World.alloc_heap_new wr (.cells #[.int .i64 kd, .int .i64 ca, .int .i64 pe, .int .i64 sl] 48)
          go_upto_region 17 with fail
          revert hbw hnw
          generalize (wr.alloc (.cells #[.int .i64 kd, .int .i64 ca, .int .i64 pe, .int .i64 sl] 48)) = w5
          intro hbw hnw
          have p0 : w5.cell? ⟨wr.heap.size, 0, none⟩ = some (.int .i64 kd) := by rw [cell_of_heap hnw]; rfl
          have p1 : w5.cell? ⟨wr.heap.size, 1, none⟩ = some (.int .i64 ca) := by rw [cell_of_heap hnw]; rfl
          have p2 : w5.cell? ⟨wr.heap.size, 2, none⟩ = some (.int .i64 pe) := by rw [cell_of_heap hnw]; rfl
          have p3 : w5.cell? ⟨wr.heap.size, 3, none⟩ = some (.int .i64 sl) := by rw [cell_of_heap hnw]; rfl
          have g0 := cell_stays hbw f0
          have g4 := cell_stays hbw f4
          have g5 := cell_stays hbw f5
          have g6 := cell_stays hbw f6
          have g7 := cell_stays hbw f7
          clear f0 f4 f5 f6 f7 hm0 hm1 hm2 hm3
          have hn5 : c.homes.length ≤ 5 := vh
          have hlw1 := lt_of_cell p0
          have hlw2 := lt_of_cell g4
          have hlw3 := lt_of_cell g7
          go_cut [18] (fun s18 wx => ∃ b18 : Nat, s18 = .pointer (some ⟨b18, 0, none⟩) ∧ w5.heap.size ≤ b18 ∧ wx.heap[b18]? = some (.cells #[.int .i64 kd, .int .i64 (cardT c.homes.length a ca), .int .i64 0, .int .i64 0] 48 (0, 0)) ∧ Below w5.heap.size w5 wx)
          case first =>
            go_region_held3 (fun w' => w'.cell? ⟨wr.heap.size, 0, none⟩ = some (.int .i64 kd) ∧ w'.cell? ⟨wr.heap.size, 1, none⟩ = some (.int .i64 ca) ∧ w'.cell? ⟨w.heap.size + 1, 0, none⟩ = some (.int .u8 a) ∧ w'.cell? ⟨w2.heap.size, 0, none⟩ = some (.int .i64 c.homes.length)) (go_keep)
              (first | (go_at_call 42; refine (card42 _ a c.homes.length ha hn5 hci (by first | assumption | go_simp) (by first | assumption | go_simp)).mono ?_; rintro e w' ⟨rfl, rfl⟩))
            all_goals (go_wp2_with fail; go_meet; exact ⟨w5.heap.size, rfl, Nat.le_refl _, World.alloc_heap_new w5 _, ((Below.refl _ w5).alloc (Nat.le_refl _) _).drew⟩)
          case rest =>
            obtain ⟨b18, rfl, hb18, hn18, hb6⟩ := hcut
            obtain ⟨w6, rfl⟩ : ∃ w6 : World, w6 = wc := ⟨_, rfl⟩
            have q0 := cell_stays hb6 p0
            have q1 := cell_stays hb6 p1
            have q2 := cell_stays hb6 p2
            have q3 := cell_stays hb6 p3
            have g0 := cell_stays hb6 g0
            have g5 := cell_stays hb6 g5
            have g6 := cell_stays hb6 g6
            clear p0 p1 p2 p3 g4 g7 hlw1 hlw2 hlw3 hnw
            have r0 : w6.cell? ⟨b18, 0, none⟩ = some (.int .i64 kd) := by rw [cell_of_heap hn18]; rfl
            have r1 : w6.cell? ⟨b18, 1, none⟩ = some (.int .i64 (cardT c.homes.length a ca)) := by rw [cell_of_heap hn18]; rfl
            have r2 : w6.cell? ⟨b18, 2, none⟩ = some (.int .i64 0) := by rw [cell_of_heap hn18]; rfl
            have r3 : w6.cell? ⟨b18, 3, none⟩ = some (.int .i64 0) := by rw [cell_of_heap hn18]; rfl
            have rf : ∀ o, w6.frozen? ⟨b18, o, none⟩ = false := fun o => frozen_of_heap hn18
            have HN18 := Lib.hid hn18
            have hb56 : Below wr.heap.size wr w6 := hbw.trans (hb6.mono hbw.size)
            have hX6 := (hb56.block _ (Array.getElem?_eq_some_iff.1 HX.out).1).trans HX.out
            have hown6 := own_below hown hb56
            have hS6 : Same (fun i => i = w2.heap.size + 1) w4 w6 := hS.trans (Same.of_below _ hb56)
            have hb18own : lv.ownBlock ≠ some b18 := fun e => by have := (hown.lt b18 e).2; have := hbw.size; omega
            have hb18z : w4.heap.size ≤ b18 := by have := hS.size; have := hbw.size; omega
            have hb18x : b18 ≠ w2.heap.size + 1 := by omega
            have hk30 : k ≤ 30 := by omega
            clear hn18 hbw hb6 hown hS
            by_cases hk2 : kd = 2
            · subst hk2
              obtain ⟨hs0, hs1⟩ := HSI.out rfl

              obtain ⟨v', w9, hr, hc9, hf9, hH9, hS9, hown9⟩ := put_loan (o := 3) ⟨2, cardT c.homes.length a ca, 0, slotT c.slots b sl⟩ (.int .i64 (slotT c.slots b sl)) hX6 hown6 (by omega) hb18x hb18own hb18z hS6 hk30
              have HR := Lib.hid hr
              have ha := own_slice hown6
              obtain ⟨a5, c5, rfl, _⟩ := ha
              have ha9 := own_slice hown9
              obtain ⟨a9, c9, rfl, _⟩ := ha9
              have HP := Lib.hid (And.intro hS9 hown9)
              clear hS9 hown9
              have hx3 : w6.cell? ⟨w2.heap.size + 1, 3, none⟩ = some (.slice a5 k c5) := by rw [cell_of_heap hX6]; rfl
              clear hr hX6 hown6 hS6
              go_wp2_with (first | (go_at_call 43; refine (slot43 sl b c.slots hb ⟨vs1, vs2⟩ ⟨hs0, hs1⟩ g5 g0).mono ?_; rintro e w' ⟨rfl, rfl⟩) | (at_builtin; refine wpList_append_run rfl (.tmp 126) (.tmp 128) 23 rfl _ _ _ _ rfl rfl HR.out ?_))
              go_roundw
              case rel => exact ⟨k + 1, _, by omega, by go_num, HP.out.1, hH9, by rw [HTK.out]; exact HP.out.2⟩
              case measure => simp [intOf]; omega
            · have hkb : (kd == 2) = false := by simpa using hk2
              obtain ⟨hp0, hp1⟩ := HPI.out hk2
              have HK2 := Lib.hid hk2
              have HLT : Hid (loanT c.homes.length c.slots a b d ⟨kd, ca, pe, sl⟩ = ⟨kd, cardT c.homes.length a ca, persT d pe, 0⟩) := by rw [Hid]; unfold loanT; rw [if_neg HK2.out]
              clear hk2

              obtain ⟨v', w9, hr, hc9, hf9, hH9, hS9, hown9⟩ := put_loan (o := 2) ⟨kd, cardT c.homes.length a ca, persT d pe, 0⟩ (.int .i64 (persT d pe)) hX6 hown6 (by omega) hb18x hb18own hb18z hS6 hk30
              have HR := Lib.hid hr
              have ha := own_slice hown6
              obtain ⟨a5, c5, rfl, _⟩ := ha
              have ha9 := own_slice hown9
              obtain ⟨a9, c9, rfl, _⟩ := ha9
              have HP := Lib.hid (And.intro hS9 hown9)
              clear hS9 hown9
              have hx3 : w6.cell? ⟨w2.heap.size + 1, 3, none⟩ = some (.slice a5 k c5) := by rw [cell_of_heap hX6]; rfl
              clear hr hX6 hown6 hS6
              go_wp2_with (first | (go_at_call 44; refine (pers44 pe d hd ⟨hp0, hp1⟩ g6).mono ?_; rintro e w' ⟨rfl, rfl⟩) | (at_builtin; refine wpList_append_run rfl (.tmp 126) (.tmp 128) 23 rfl _ _ _ _ rfl rfl HR.out ?_))
              go_roundw
              case rel => exact ⟨k + 1, _, by omega, by go_num, HP.out.1, hH9, by rw [HTK.out, HLT.out]; exact HP.out.2⟩
              case measure => simp [intOf]; omega
        · obtain rfl : k = c.loans.length := by omega
          obtain ⟨w7, rfl⟩ : ∃ w7 : World, w7 = wr := ⟨_, rfl⟩
          have hS4 := hS.size
          have f0 := hS.cell e0 (by omega)
          have f2 := hS.cell e2 (by omega)
          have f3 := hS.cell e3 (by omega)
          have f4 := hS.cell e4 (by omega)
          have f5 := hS.cell e5 (by omega)
          have f6 := hS.cell e6 (by omega)
          have f7 := hS.cell e7 (by omega)
          have f1 := hS.cell e1 (by omega)
          have hB7 : Below w.heap.size w w7 := hB4.trans (Same.below hS (by have := hB4.size; omega) (fun k hk => by have := hB2.size; omega))
          have hg7 : Given w7 c ah ch al cl := ⟨hg.hi.mono hB7, hg.li.mono hB7, hg.hh, hg.hl, hg.cl⟩
          rw [List.take_of_length_le (Nat.le_refl _)] at hown
          have hXl : (turned c a b d).loans = c.loans.map (loanT c.homes.length c.slots a b d) := rfl
          rw [← hXl] at hown
          have hxs := own_slice hown
          obtain ⟨lx, lc, rfl, hlc, _⟩ := hxs
          have hgX : Given w7 (turned c a b d) (some ⟨w2.heap.size + 1 + 1, 0, none⟩) c.homes.length lx lc := by
            refine ⟨fun j hj => ?_, ?_, by rw [turned_len]; omega, by rw [hXl, List.length_map]; omega, by rw [hXl, List.length_map]; exact hlc⟩
            · obtain ⟨b', o', h1, h2⟩ := hXi j hj
              cases h1
              exact ⟨_, _, rfl, hS.cell h2 (by omega)⟩
            · by_cases h0 : c.loans.length = 0
              · intro j hj
                rw [hXl, List.length_map] at hj
                omega
              · obtain ⟨g, cap, he, _, _, _, _, hcs⟩ := own_cell hown (by omega)
                cases he
                exact loans_of_cells hcs
          have x0 : w7.cell? ⟨w2.heap.size + 1, 0, none⟩ = some (.int .i64 c.slots) := by rw [cell_of_heap HX.out]; rfl
          have x1 : w7.cell? ⟨w2.heap.size + 1, 1, none⟩ = some (.slice (some ⟨w2.heap.size + 1 + 1, 0, none⟩) c.homes.length c.homes.length) := by rw [cell_of_heap HX.out]; rfl
          have x2 : w7.cell? ⟨w2.heap.size + 1, 2, none⟩ = some (.int .i64 c.wrong) := by rw [cell_of_heap HX.out]; rfl
          have x3 : w7.cell? ⟨w2.heap.size + 1, 3, none⟩ = some (.slice lx c.loans.length lc) := by rw [cell_of_heap HX.out]; rfl
          clear e0 e1 e2 e3 e4 e5 e6 e7 v0 v1 v2 v3 hlt hk HX hown hXl hlc hXi hS hg4 hH1
          have HK7 := Lib.hid (And.intro f0 (And.intro f2 (And.intro f4 (And.intro f5 (And.intro f6 (And.intro f7 (And.intro x0 (And.intro x1 (And.intro x2 x3)))))))))
          clear f0 f2 f4 f5 f6 f7 x0 x1 x2 x3
          have hlt7 := lt_of_cell f1
          go_upto_region 23 with fail
          go_cut [19, 20] (fun s19 s20 wx => ∃ (a1 : Option Addr) (c1 : Nat) (a2 : Option Addr) (c2 : Nat), s19 = .slice a1 c.homes.length c1 ∧ s20 = .slice a2 c.loans.length c2 ∧ IsInts wx a1 c.homes ∧ IsLoans wx a2 c.loans ∧ Below w7.heap.size w7 wx)
          case first =>
            refine regD hg7.hi hg7.li hg7.hh hg7.hl f1 f3 ?_
            intro x132 x133 x134 x135 x136 x137 x138 x139 a1 a2 c1 c2 w' hi1 hl2 hb8
            go_wp2_with fail
            go_meet
            exact ⟨a1, c1, a2, c2, rfl, rfl, hi1, hl2, hb8⟩
          case rest =>
            obtain ⟨a1, c1, a2, c2, rfl, rfl, hi1, hl2, hb8⟩ := hcut
            obtain ⟨w8, rfl⟩ : ∃ w8 : World, w8 = wc := ⟨_, rfl⟩
            refine (‹∀ (a_ : Act) (w_ : World), Code.wp Try.prog _ _ a_ w_ → _› _ _ ?_)
            obtain ⟨f0, f2, f4, f5, f6, f7, x0, x1, x2, x3⟩ := HK7.out
            exact restE HV.out ha hb hd (hg7.mono hb8) (hgX.mono hb8) ⟨cell_stays hb8 f0, cell_stays hb8 f1, cell_stays hb8 f2, cell_stays hb8 f3, cell_stays hb8 f4, cell_stays hb8 f5, cell_stays hb8 f6, cell_stays hb8 f7, cell_stays hb8 x0, cell_stays hb8 x1, cell_stays hb8 x2, cell_stays hb8 x3⟩ hi1 hl2 (bst hB7 hb8)
end Go.Proofs.Ytlhobddaojdnoaa

namespace Go.Proofs.Ytlhobddaojdnoaa
open Go.RowKit

set_option maxRecDepth 100000 in
set_option maxHeartbeats 2000000 in
theorem lawTurned_o {c : Cab} {w : World} {ah : Option Addr} {ch : Nat} {al : Option Addr} {cl : Nat} {p q r : Int} (hi : IsInts w ah c.homes) (li : IsLoans w al c.loans)
    (h : (decide (16 < c.homes.length) || decide (30 < c.loans.length)) = true ∨ (c.homes.length ≤ 16 ∧ c.loans.length ≤ 30 ∧ c.valid = false)) :
    Calls Try.prog 11 #[c.v ah ch al cl, .int .u8 p, .int .u8 q, .int .u8 r] w fun e w' => e = .returned (.bool true) ∧ Below w.heap.size w w' := by
  obtain ⟨W, hW⟩ : ∃ W : World, W = ((((w.alloc (.cells #[.int .i64 c.slots, .slice ah c.homes.length ch, .int .i64 c.wrong, .slice al c.loans.length cl] 25)).alloc (.cells #[.int .u8 p] 5)).alloc (.cells #[.int .u8 q] 5)).alloc (.cells #[.int .u8 r] 5)) := ⟨_, rfl⟩
  have hb0 : Below w.heap.size w W := by
    rw [hW]
    exact ((((Below.refl _ w).alloc (Nat.le_refl _) _).alloc (by simp) _).alloc (by simp; omega) _).alloc (by simp; omega) _
  have hq0 : W.heap[w.heap.size]? = some (.cells (c.cells ah ch al cl) 25 (0, 0)) := by
    rw [hW]
    exact (heap4 w (.cells (c.cells ah ch al cl) 25) (.cells #[.int .u8 p] 5) (.cells #[.int .u8 q] 5) (.cells #[.int .u8 r] 5)).1
  have HW := Lib.hid hW
  have HQ := Lib.hid hq0
  have hlt : w.heap.size < W.heap.size := (Array.getElem?_eq_some_iff.1 hq0).1
  clear hW hq0
  rcases h with h | ⟨h1, h2, hv⟩
  · have H := Lib.hid h
    clear h
    go_enter Try.func11, Try.ntmps11
    go_wp2_with fail
    have hW := HW.out
    rw [← hW]
    clear hW
    refine (great_any c _).mono ?_
    rintro e w1 ⟨rfl, hb1⟩
    rw [H.out]
    go_wp2_with fail
    refine (alive_any _).mono ?_
    rintro e w9 ⟨rfl, hb9⟩
    go_wp2_with fail
    go_ret
    exact ⟨rfl, bst (bst hb0 hb1) hb9⟩
  · have H : Hid ((decide (16 < c.homes.length) || decide (30 < c.loans.length)) = false) := by unfold Hid; simp; omega
    have HV := Lib.hid hv
    clear hv
    go_enter Try.func11, Try.ntmps11
    go_wp2_with fail
    have hW := HW.out
    rw [← hW]
    clear hW
    refine (great_any c _).mono ?_
    rintro e w1 ⟨rfl, hb1⟩
    rw [H.out]
    have hB1 := bst hb0 hb1
    have hX := (hb1.block _ hlt).trans HQ.out
    have d0 : w1.cell? ⟨w.heap.size, 0, none⟩ = some (.int .i64 c.slots) := by rw [cell_of_heap hX]; rfl
    have d1 : w1.cell? ⟨w.heap.size, 1, none⟩ = some (.slice ah c.homes.length ch) := by rw [cell_of_heap hX]; rfl
    have d2 : w1.cell? ⟨w.heap.size, 2, none⟩ = some (.int .i64 c.wrong) := by rw [cell_of_heap hX]; rfl
    have d3 : w1.cell? ⟨w.heap.size, 3, none⟩ = some (.slice al c.loans.length cl) := by rw [cell_of_heap hX]; rfl
    clear hX
    go_wp2_with fail
    refine (refCab_any (hi.mono hB1) (li.mono hB1) h1 h2).mono ?_
    rintro e w2 ⟨rfl, hb2⟩
    rw [HV.out]
    go_wp2_with fail
    refine (alive_any _).mono ?_
    rintro e w9 ⟨rfl, hb9⟩
    go_wp2_with fail
    go_ret
    exact ⟨rfl, bst (bst hB1 hb2) hb9⟩
theorem lawTurned_any {c : Cab} {w : World} {ah : Option Addr} {ch : Nat} {al : Option Addr} {cl : Nat} {p q r : Int} (hi : IsInts w ah c.homes) (li : IsLoans w al c.loans) (hcl : c.loans.length ≤ cl) (hp : 0 ≤ p ∧ p ≤ 255) (hq : 0 ≤ q ∧ q ≤ 255) (hr : 0 ≤ r ∧ r ≤ 255) :
    Calls Try.prog 11 #[c.v ah ch al cl, .int .u8 p, .int .u8 q, .int .u8 r] w fun e w' => e = .returned (.bool true) ∧ Below w.heap.size w w' := by
  by_cases hg : c.homes.length ≤ 16 ∧ c.loans.length ≤ 30
  · have hG : Given w c ah ch al cl := ⟨hi, li, hg.1, hg.2, hcl⟩
    cases hv : c.valid with
    | false => exact lawTurned_o hi li (.inr ⟨hg.1, hg.2, hv⟩)
    | true =>
      obtain ⟨a, rfl⟩ : ∃ a : Nat, p = a := ⟨p.toNat, by omega⟩
      obtain ⟨b, rfl⟩ : ∃ a : Nat, q = a := ⟨q.toNat, by omega⟩
      obtain ⟨d, rfl⟩ : ∃ a : Nat, r = a := ⟨r.toNat, by omega⟩
      exact lawTurned_t hG hv (by omega) (by omega) (by omega)
  · exact lawTurned_o hi li (.inl (by simp; omega))
end Go.Proofs.Ytlhobddaojdnoaa

