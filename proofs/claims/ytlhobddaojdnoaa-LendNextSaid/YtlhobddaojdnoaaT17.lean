/- The law LendNext's closure: how many states are left. The law LendNext. -/
import Derived.Test.YtlhobddaojdnoaaTD
import Derived.Test.YtlhobddaojdnoaaL12
import Derived.Test.YtlhobddaojdnoaaT9
namespace Go.Proofs.Ytlhobddaojdnoaa
open Go.RowKit
set_option linter.unusedVariables false

set_option maxRecDepth 100000 in
set_option maxHeartbeats 2000000 in
theorem worst40_any {c : Cab} {ah : Option Addr} {ch pc pa : Nat} {w5 : World} {F : List Tr} {B1 B2 g2 cap2 : Nat} (h1 : w5.cell? ⟨pc, 1, none⟩ = some (.slice ah c.homes.length ch)) (h2 : w5.cell? ⟨pa, 0, none⟩ = some (.slice (some ⟨g2, 0, none⟩) F.length cap2)) (hO : Outs2 w5 B1 B2 (.slice (some ⟨g2, 0, none⟩) F.length cap2) F)
    (hF : ∀ x ∈ F, x.1.length ≤ 5) (hFle : F.length ≤ 1296) (hcap : F.length ≤ cap2) (hnh : c.homes.length ≤ 5) (s : Nat) :
    Calls Try.prog 40 #[.int .i64 s, .pointer (some ⟨pc, 0, none⟩), .pointer (some ⟨pa, 0, none⟩)] w5 fun e w' => e = .returned (.int .i64 (rworst F s (c.homes.length + 1) : Nat)) ∧ Below w5.heap.size w5 w' := by
  have HO := Lib.hid hO
  have HM := Lib.hid (And.intro h1 h2)
  have HFL := Lib.hid hF
  clear hO h1 h2 hF
  go_enter Try.func40, Try.ntmps40
  go_wp2_with fail
  go_loopw [5, 6] (fun z cd w2 => ∃ (j zz : Nat), j ≤ c.homes.length + 1 ∧ cd = .int .i64 ((j : Int) - 1) ∧ z = .int .i64 zz ∧ zz ≤ 1296 ∧ Hid (zz = rworst F s j) ∧ Below w5.heap.size w5 w2) (fun _ cd _ => c.homes.length + 1 - (intOf cd + 1).toNat)
  case atStart => exact ⟨0, 0, by omega, rfl, rfl, by omega, rfl, Below.refl _ _⟩
  case round =>
    obtain ⟨wm, rfl⟩ : ∃ wm : World, wm = wr := ⟨_, rfl⟩
    obtain ⟨j, zz, hj, rfl, rfl, hzz, HZ, hbm⟩ := hrel
    obtain ⟨c1, c2⟩ := HM.out
    have c1 := cell_stays hbm c1
    have c2 := cell_stays hbm c2
    have HR := Lib.hid (rworst_succ F s j)
    by_cases hjl : (j : Int) - 1 < (c.homes.length : Int)
    · have hd2 : decide ((j : Int) - 1 < (c.homes.length : Int)) = true := by simpa using hjl
      go_wp2_with fail
      go_loopw [7, 19] (fun n i w3 => ∃ (k nn : Nat), k ≤ F.length ∧ i = .int .i64 k ∧ n = .int .i64 nn ∧ nn ≤ k ∧ Hid (nn = cntL F s ((j : Int) - 1) k) ∧ Below wm.heap.size wm w3) (fun _ i _ => F.length - (intOf i).toNat)
      case atStart => exact ⟨0, 0, by omega, rfl, rfl, by omega, rfl, Below.refl _ _⟩
      case round =>
        obtain ⟨k, nn, hk, rfl, rfl, hnn, HNN, hb3⟩ := hrel
        by_cases hkl : k < F.length
        · obtain ⟨x, hx⟩ : ∃ x, F[k]? = some x := ⟨_, List.getElem?_eq_getElem hkl⟩
          have hbw : Below w5.heap.size w5 wr := hbm.trans (hb3.mono hbm.size)
          obtain ⟨g3, cap3, p, he, q1, q2, hp⟩ := (HO.out.below hbw).at hx
          simp only [Value.slice.injEq, Option.some.injEq, Addr.mk.injEq, and_true, true_and] at he
          obtain ⟨rfl, rfl⟩ := he
          have hal : Below wr.heap.size wr (wr.alloc (.cells #[p.1, p.2] 56)) := (Below.refl _ _).alloc (Nat.le_refl _) _
          have hIT := hp.is.mono hal
          have hx5 : x.1.length ≤ 5 := HFL.out x (List.mem_of_getElem? hx)
          have hC := cntU_succ (p := fun x => decide (lies x.1 (s : Int) = (j : Int) - 1)) hx
          have HC : Hid (cntL F s ((j : Int) - 1) (k + 1) = cntL F s ((j : Int) - 1) k + if decide (lies x.1 (s : Int) = (j : Int) - 1) = true then 1 else 0) := hC
          have HAL := Lib.hid hal
          obtain ⟨a1, k1, e1, _⟩ := own_slice hp.1
          obtain ⟨a2, k2, e2, _⟩ := own_slice hp.2
          have hpp : p = (.slice a1 x.1.length k1, .slice a2 x.2.length k2) := by rw [← e1, ← e2]
          subst hpp
          clear hx hp hC hal e1 e2
          by_cases hli : lies x.1 (s : Int) = (j : Int) - 1
          · have hlb2 : (lies x.1 (s : Int) == (j : Int) - 1) = true := by simp [hli]
            have HLI := Lib.hid hli
            clear hli
            go_wp2_with fail
            refine (rlies_any hIT hx5 (s : Int)).mono ?_
            rintro e w6 ⟨rfl, hb6⟩
            go_wp2_with fail
            go_roundw
            case rel => exact ⟨k + 1, nn + 1, by omega, by go_num, by go_num, by omega, by rw [Hid, HC.out, HNN.out, decide_eq_true HLI.out]; simp, hb3.trans ((bst HAL.out hb6).mono hb3.size)⟩
            case measure => simp [intOf]; omega
          · have hlb2 : (lies x.1 (s : Int) == (j : Int) - 1) = false := by simpa using hli
            have HLI := Lib.hid hli
            clear hli
            go_wp2_with fail
            refine (rlies_any hIT hx5 (s : Int)).mono ?_
            rintro e w6 ⟨rfl, hb6⟩
            go_wp2_with fail
            go_roundw
            case rel => exact ⟨k + 1, nn, by omega, by go_num, by go_num, by omega, by rw [Hid, HC.out, HNN.out, decide_eq_false HLI.out]; simp, hb3.trans ((bst HAL.out hb6).mono hb3.size)⟩
            case measure => simp [intOf]; omega
        · obtain rfl : k = F.length := by omega
          by_cases hzn : zz < nn
          · go_wp2_with fail
            go_roundw
            case rel =>
              refine ⟨j + 1, nn, by omega, ?_, ?_, by omega, by rw [Hid, HR.out, ← HZ.out, ← HNN.out]; omega, hbm.trans (hb3.mono hbm.size)⟩
              · first | go_num | (congr 1; omega)
              · first | rfl | (simp [hzn])
            case measure => simp [intOf]; omega
          · go_wp2_with fail
            go_roundw
            case rel =>
              refine ⟨j + 1, zz, by omega, ?_, ?_, by omega, by rw [Hid, HR.out, ← HZ.out, ← HNN.out]; omega, hbm.trans (hb3.mono hbm.size)⟩
              · first | go_num | (congr 1; omega)
              · first | rfl | (simp [hzn])
            case measure => simp [intOf]; omega
    · obtain rfl : j = c.homes.length + 1 := by omega
      go_wp2_with fail
      go_ret
      exact ⟨ret_int (by rw [HZ.out]), hbm⟩
end Go.Proofs.Ytlhobddaojdnoaa

namespace Go.Proofs.Ytlhobddaojdnoaa
open Go.RowKit
set_option linter.unusedVariables false

theorem and_nat2 (a b : Nat) (ha : a < 2 ^ 62) (hb : b < 2 ^ 62) : bits .and .i64 (a : Int) (b : Int) = ((a &&& b : Nat) : Int) :=
  (bits_nat .i64 62 (by decide) (fun n h1 h2 => by rw [IntKind.wrap_i64]; omega) a b ha hb).1
theorem firsts_le (T : List Tr) : (firsts T).length ≤ T.length := firstsTo_le T T.length
set_option maxRecDepth 100000 in
set_option maxHeartbeats 2000000 in
theorem lawNext_o {c : Cab} {w : World} {ah : Option Addr} {ch : Nat} {al : Option Addr} {cl : Nat} {q : Int} (hi : IsInts w ah c.homes) (li : IsLoans w al c.loans) (hcl : c.loans.length ≤ cl) (hq : 0 ≤ q ∧ q ≤ 255) (h : greatB c = true ∨ heavyB c = true ∨ c.valid = false) :
    Calls Try.prog 9 #[c.v ah ch al cl, .int .u8 q] w fun e w' => e = .returned (.bool true) ∧ Below w.heap.size w w' := by
  have hb1 : Below w.heap.size w (w.alloc (.cells (c.cells ah ch al cl) 25)) := (Below.refl _ w).alloc (Nat.le_refl _) _
  have HB1 := Lib.hid hb1
  have great := fun w' => great_any c (ah := ah) (ch := ch) (al := al) (cl := cl) w'
  have hgr : greatB c = (decide (16 < c.homes.length) || decide (30 < c.loans.length)) := rfl
  rw [← hgr] at great
  have HGR := Lib.hid great
  clear hgr great
  cases hG : greatB c with
  | true =>
    rw [hG] at HGR
    clear hG hb1
    go_enter Try.func9, Try.ntmps9
    go_wp2_with fail
    refine (HGR.out _).mono ?_
    rintro e w2 ⟨rfl, hb2⟩
    have HB := Lib.hid (bst HB1.out hb2)
    clear hb2
    go_wp2_with fail
    refine (alive_any _).mono ?_
    rintro e w20 ⟨rfl, hb20⟩
    go_wp2_with fail
    go_ret
    exact ⟨rfl, bst HB.out hb20⟩
  | false =>
    rw [hG] at HGR
    rw [hG] at h
    have hhl : c.homes.length ≤ 16 ∧ c.loans.length ≤ 30 := by
      unfold greatB at hG
      simp only [Bool.or_eq_false_iff, decide_eq_false_iff_not] at hG
      omega
    have hg : Given (w.alloc (.cells (c.cells ah ch al cl) 25)) c ah ch al cl := ⟨hi.mono hb1, li.mono hb1, hhl.1, hhl.2, hcl⟩
    have hA := World.alloc_heap_new w (.cells (c.cells ah ch al cl) 25)
    have HG := Lib.hid hg
    have HA := Lib.hid hA
    have hh16 := hhl.1
    have hl30 := hhl.2
    clear hG hb1 hg hA hi li hhl
    cases hV : heavyB c with
    | true =>
      have HV := Lib.hid hV
      clear hV h
      go_enter Try.func9, Try.ntmps9
      go_wp2_with fail
      refine (HGR.out _).mono ?_
      rintro e w2 ⟨rfl, hb2⟩
      obtain ⟨c0, c1, c2, c3⟩ := cells_new (w := w2) ((hb2.block _ (by simp)).trans HA.out)
      have HG := Lib.hid (HG.out.mono hb2)
      have HB := Lib.hid (bst HB1.out hb2)
      clear hb2
      go_wp2_with fail
      refine (heavy_any HG.out).mono ?_
      rintro e w3 ⟨rfl, hb3⟩
      rw [HV.out]
      have c0 := cell_stays hb3 c0
      have c1 := cell_stays hb3 c1
      have c2 := cell_stays hb3 c2
      have c3 := cell_stays hb3 c3
      have HG := Lib.hid (HG.out.mono hb3)
      have HB := Lib.hid (bst HB.out hb3)
      clear hb3
      go_wp2_with fail
      refine (alive_any _).mono ?_
      rintro e w20 ⟨rfl, hb20⟩
      go_wp2_with fail
      go_ret
      exact ⟨rfl, bst HB.out hb20⟩
    | false =>
      have HVC : Hid (c.valid = false) := by
        rcases h with h | h | h
        · cases h
        · rw [hV] at h; cases h
        · exact h
      have HV := Lib.hid hV
      clear hV h
      go_enter Try.func9, Try.ntmps9
      go_wp2_with fail
      refine (HGR.out _).mono ?_
      rintro e w2 ⟨rfl, hb2⟩
      obtain ⟨c0, c1, c2, c3⟩ := cells_new (w := w2) ((hb2.block _ (by simp)).trans HA.out)
      have HG := Lib.hid (HG.out.mono hb2)
      have HB := Lib.hid (bst HB1.out hb2)
      clear hb2
      go_wp2_with fail
      refine (heavy_any HG.out).mono ?_
      rintro e w3 ⟨rfl, hb3⟩
      rw [HV.out]
      have c0 := cell_stays hb3 c0
      have c1 := cell_stays hb3 c1
      have c2 := cell_stays hb3 c2
      have c3 := cell_stays hb3 c3
      have HG := Lib.hid (HG.out.mono hb3)
      have HB := Lib.hid (bst HB.out hb3)
      clear hb3
      go_wp2_with fail
      refine (refCab_any HG.out.hi HG.out.li HG.out.hh HG.out.hl).mono ?_
      rintro e w4 ⟨rfl, hb4⟩
      rw [HVC.out]
      have c0 := cell_stays hb4 c0
      have c1 := cell_stays hb4 c1
      have c2 := cell_stays hb4 c2
      have c3 := cell_stays hb4 c3
      have HG := Lib.hid (HG.out.mono hb4)
      have HB := Lib.hid (bst HB.out hb4)
      clear hb4
      go_wp2_with fail
      refine (alive_any _).mono ?_
      rintro e w20 ⟨rfl, hb20⟩
      go_wp2_with fail
      go_ret
      exact ⟨rfl, bst HB.out hb20⟩
set_option maxRecDepth 100000 in
set_option maxHeartbeats 2000000 in
theorem lawNext_a {c : Cab} {w : World} {ah : Option Addr} {ch : Nat} {al : Option Addr} {cl : Nat} {q : Int} (hi : IsInts w ah c.homes) (li : IsLoans w al c.loans) (hcl : c.loans.length ≤ cl) (hq : 0 ≤ q ∧ q ≤ 255) (hG : greatB c = false) (hV : heavyB c = false) (hv : c.valid = true) (hT : truths c = []) :
    Calls Try.prog 9 #[c.v ah ch al cl, .int .u8 q] w fun e w' => e = .returned (.bool true) ∧ Below w.heap.size w w' := by
  have hb1 : Below w.heap.size w (w.alloc (.cells (c.cells ah ch al cl) 25)) := (Below.refl _ w).alloc (Nat.le_refl _) _
  have HB1 := Lib.hid hb1
  have great := fun w' => great_any c (ah := ah) (ch := ch) (al := al) (cl := cl) w'
  have hgr : greatB c = (decide (16 < c.homes.length) || decide (30 < c.loans.length)) := rfl
  rw [← hgr] at great
  have HGR := Lib.hid great
  clear hgr great
  have hnx : nextE c = (0, 0, 4) := by unfold nextE; simp [openE_no hv hT]
  obtain ⟨k0, hk0⟩ : ∃ k : Int, check c = (k, 0) := ⟨(check c).1, by have := check_no hv hT; rw [← this]⟩
  have HNX : Hid (∀ W', Given W' c ah ch al cl → Calls Try.prog 29 #[c.v ah ch al cl] W' fun e w' => e = .returned (.tuple #[.int .i64 0, .int .i64 0, .int .i64 4]) ∧ Below W'.heap.size W' w') := fun W' h => by
    have := next_any h
    rw [hnx] at this
    exact this
  have HCK : Hid (∀ W', Given W' c ah ch al cl → Calls Try.prog 15 #[c.v ah ch al cl] W' fun e w' => e = .returned (.tuple #[.int .i64 k0, .int .i64 0]) ∧ Below W'.heap.size W' w') := fun W' h => by
    have := check_any h
    rw [hk0] at this
    exact this
  have HWH : Hid (0 < c.homes.length → ∀ W', Given W' c ah ch al cl → Calls Try.prog 17 #[c.v ah ch al cl, .int .i64 0] W' fun e w' => e = .returned (.tuple #[.int .i64 0, .bool false, .int .i64 4]) ∧ Below W'.heap.size W' w') := fun h0 W' h => by
    have := where_any h 0
    rw [where_no hv hT (by simp [Cab.card, inR]; omega)] at this
    exact this
  clear hnx hk0 hT
  rw [hG] at HGR
  have hhl : c.homes.length ≤ 16 ∧ c.loans.length ≤ 30 := by
    unfold greatB at hG
    simp only [Bool.or_eq_false_iff, decide_eq_false_iff_not] at hG
    omega
  have hg : Given (w.alloc (.cells (c.cells ah ch al cl) 25)) c ah ch al cl := ⟨hi.mono hb1, li.mono hb1, hhl.1, hhl.2, hcl⟩
  have hA := World.alloc_heap_new w (.cells (c.cells ah ch al cl) 25)
  have HG := Lib.hid hg
  have HA := Lib.hid hA
  have hh16 := hhl.1
  have hl30 := hhl.2
  clear hG hb1 hg hA hi li hhl
  have HBK : Hid (c.valid = true → backN c.loans ≤ 4) := fun h => by
    unfold heavyB at hV
    rw [h] at hV
    simp at hV
    omega
  have HV := Lib.hid hV
  have HVC := Lib.hid hv
  have hnh := valid_homes hv
  have hs := valid_slots hv
  clear hV hv
  go_enter Try.func9, Try.ntmps9
  go_wp2_with fail
  refine (HGR.out _).mono ?_
  rintro e w2 ⟨rfl, hb2⟩
  obtain ⟨c0, c1, c2, c3⟩ := cells_new (w := w2) ((hb2.block _ (by simp)).trans HA.out)
  have HG := Lib.hid (HG.out.mono hb2)
  have HB := Lib.hid (bst HB1.out hb2)
  clear hb2
  go_wp2_with fail
  refine (heavy_any HG.out).mono ?_
  rintro e w3 ⟨rfl, hb3⟩
  rw [HV.out]
  have c0 := cell_stays hb3 c0
  have c1 := cell_stays hb3 c1
  have c2 := cell_stays hb3 c2
  have c3 := cell_stays hb3 c3
  have HG := Lib.hid (HG.out.mono hb3)
  have HB := Lib.hid (bst HB.out hb3)
  clear hb3
  go_wp2_with fail
  refine (refCab_any HG.out.hi HG.out.li HG.out.hh HG.out.hl).mono ?_
  rintro e w4 ⟨rfl, hb4⟩
  rw [HVC.out]
  have c0 := cell_stays hb4 c0
  have c1 := cell_stays hb4 c1
  have c2 := cell_stays hb4 c2
  have c3 := cell_stays hb4 c3
  have HG := Lib.hid (HG.out.mono hb4)
  have HB := Lib.hid (bst HB.out hb4)
  clear hb4
  go_wp2_with fail
  refine (HNX.out _ HG.out).mono ?_
  rintro e w5 ⟨rfl, hb5⟩
  have c0 := cell_stays hb5 c0
  have c1 := cell_stays hb5 c1
  have c2 := cell_stays hb5 c2
  have c3 := cell_stays hb5 c3
  have HG := Lib.hid (HG.out.mono hb5)
  have HB := Lib.hid (bst HB.out hb5)
  clear hb5
  go_wp2_with fail
  have HM := Lib.hid (And.intro c0 (And.intro c1 (And.intro c2 c3)))
  go_loopw [8, 40] (fun kn i wr => kn = .bool true ∧ i = .int .i64 0 ∧ wr = w5) (fun _ _ _ => 0)
  case atStart => exact ⟨rfl, rfl, rfl⟩
  case round =>
    obtain ⟨rfl, rfl, rfl⟩ := hrel
    by_cases h0 : 0 < c.homes.length
    · have HW0 := Lib.hid (HWH.out h0)
      clear HWH
      go_wp2_with fail
      refine (HW0.out _ HG.out).mono ?_
      rintro e w6 ⟨rfl, hb6⟩
      have HB := Lib.hid (bst HB.out hb6)
      clear hb6
      go_wp2_with fail
      refine (alive_any _).mono ?_
      rintro e w20 ⟨rfl, hb20⟩
      go_wp2_with fail
      go_ret
      exact ⟨rfl, bst HB.out hb20⟩
    · have h1 : c.homes.length = 0 := by omega
      have h2 : ¬ (0 < c.homes.length) := h0
      clear HWH h1
      go_wp2_with fail
      refine (HCK.out _ HG.out).mono ?_
      rintro e w8 ⟨rfl, hb8⟩
      have c0 := cell_stays hb8 c0
      have c1 := cell_stays hb8 c1
      have c2 := cell_stays hb8 c2
      have c3 := cell_stays hb8 c3
      have HG := Lib.hid (HG.out.mono hb8)
      have HB := Lib.hid (bst HB.out hb8)
      clear hb8
      go_wp2_with fail
      refine (alive_any _).mono ?_
      rintro e w20 ⟨rfl, hb20⟩
      go_wp2_with fail
      go_ret
      exact ⟨rfl, bst HB.out hb20⟩
set_option maxRecDepth 100000 in
set_option maxHeartbeats 2000000 in
theorem lawNext_b {c : Cab} {w : World} {ah : Option Addr} {ch : Nat} {al : Option Addr} {cl : Nat} {q : Int} (hi : IsInts w ah c.homes) (li : IsLoans w al c.loans) (hcl : c.loans.length ≤ cl) (hq : 0 ≤ q ∧ q ≤ 255) (hG : greatB c = false) (hV : heavyB c = false) (hv : c.valid = true) (hT : truths c ≠ []) (h1 : (states c).length = 1) :
    Calls Try.prog 9 #[c.v ah ch al cl, .int .u8 q] w fun e w' => e = .returned (.bool true) ∧ Below w.heap.size w w' := by
  have hb1 : Below w.heap.size w (w.alloc (.cells (c.cells ah ch al cl) 25)) := (Below.refl _ w).alloc (Nat.le_refl _) _
  have HB1 := Lib.hid hb1
  have great := fun w' => great_any c (ah := ah) (ch := ch) (al := al) (cl := cl) w'
  have hgr : greatB c = (decide (16 < c.homes.length) || decide (30 < c.loans.length)) := rfl
  rw [← hgr] at great
  have HGR := Lib.hid great
  clear hgr great
  have hnx : nextE c = (0, 0, 4) := next_one (openE_yes hv hT) (by rw [firsts_len, h1])
  have HNX : Hid (∀ W', Given W' c ah ch al cl → Calls Try.prog 29 #[c.v ah ch al cl] W' fun e w' => e = .returned (.tuple #[.int .i64 0, .int .i64 0, .int .i64 4]) ∧ Below W'.heap.size W' w') := fun W' h => by
    have := next_any h
    rw [hnx] at this
    exact this
  have HCK : Hid (∀ W', Given W' c ah ch al cl → Calls Try.prog 15 #[c.v ah ch al cl] W' fun e w' => e = .returned (.tuple #[.int .i64 0, .int .i64 4]) ∧ Below W'.heap.size W' w') := fun W' h => by
    have := check_any h
    rw [check_yes hv hT] at this
    exact this
  have HWH : Hid (∀ k : Nat, k < c.homes.length → ∀ W', Given W' c ah ch al cl → Calls Try.prog 17 #[c.v ah ch al cl, .int .i64 k] W' fun e w' => e = .returned (.tuple #[.int .i64 (setL (whereL c k) : Nat), .bool (outL (whereL c k)), .int .i64 0]) ∧ Below W'.heap.size W' w') := fun k h0 W' h => by
    have := where_any h k
    rw [where_yes hv hT (by simp [Cab.card, inR]; omega)] at this
    exact this
  have HSM : Hid (∀ k : Nat, k < c.homes.length → setL (whereL c k) ≤ 1048576) := fun k hk => by
    have := setL_small hv hk (whereL c k).length
    rwa [List.take_length] at this
  have HKN : Hid (knownB c c.homes.length = true) := known_one hv h1
  clear hnx hT h1
  rw [hG] at HGR
  have hhl : c.homes.length ≤ 16 ∧ c.loans.length ≤ 30 := by
    unfold greatB at hG
    simp only [Bool.or_eq_false_iff, decide_eq_false_iff_not] at hG
    omega
  have hg : Given (w.alloc (.cells (c.cells ah ch al cl) 25)) c ah ch al cl := ⟨hi.mono hb1, li.mono hb1, hhl.1, hhl.2, hcl⟩
  have hA := World.alloc_heap_new w (.cells (c.cells ah ch al cl) 25)
  have HG := Lib.hid hg
  have HA := Lib.hid hA
  have hh16 := hhl.1
  have hl30 := hhl.2
  clear hG hb1 hg hA hi li hhl
  have HBK : Hid (c.valid = true → backN c.loans ≤ 4) := fun h => by
    unfold heavyB at hV
    rw [h] at hV
    simp at hV
    omega
  have HV := Lib.hid hV
  have HVC := Lib.hid hv
  have hnh := valid_homes hv
  have hs := valid_slots hv
  clear hV hv
  go_enter Try.func9, Try.ntmps9
  go_wp2_with fail
  refine (HGR.out _).mono ?_
  rintro e w2 ⟨rfl, hb2⟩
  obtain ⟨c0, c1, c2, c3⟩ := cells_new (w := w2) ((hb2.block _ (by simp)).trans HA.out)
  have HG := Lib.hid (HG.out.mono hb2)
  have HB := Lib.hid (bst HB1.out hb2)
  clear hb2
  go_wp2_with fail
  refine (heavy_any HG.out).mono ?_
  rintro e w3 ⟨rfl, hb3⟩
  rw [HV.out]
  have c0 := cell_stays hb3 c0
  have c1 := cell_stays hb3 c1
  have c2 := cell_stays hb3 c2
  have c3 := cell_stays hb3 c3
  have HG := Lib.hid (HG.out.mono hb3)
  have HB := Lib.hid (bst HB.out hb3)
  clear hb3
  go_wp2_with fail
  refine (refCab_any HG.out.hi HG.out.li HG.out.hh HG.out.hl).mono ?_
  rintro e w4 ⟨rfl, hb4⟩
  rw [HVC.out]
  have c0 := cell_stays hb4 c0
  have c1 := cell_stays hb4 c1
  have c2 := cell_stays hb4 c2
  have c3 := cell_stays hb4 c3
  have HG := Lib.hid (HG.out.mono hb4)
  have HB := Lib.hid (bst HB.out hb4)
  clear hb4
  go_wp2_with fail
  refine (HNX.out _ HG.out).mono ?_
  rintro e w5 ⟨rfl, hb5⟩
  have c0 := cell_stays hb5 c0
  have c1 := cell_stays hb5 c1
  have c2 := cell_stays hb5 c2
  have c3 := cell_stays hb5 c3
  have HG := Lib.hid (HG.out.mono hb5)
  have HB := Lib.hid (bst HB.out hb5)
  clear hb5
  go_wp2_with fail
  have HM := Lib.hid (And.intro c0 (And.intro c1 (And.intro c2 c3)))
  go_loopw [8, 40] (fun kn i wr => ∃ (k : Nat) (b : Bool), k ≤ c.homes.length ∧ i = .int .i64 k ∧ kn = .bool b ∧ Hid (b = knownB c k) ∧ Below w5.heap.size w5 wr) (fun _ i _ => c.homes.length - (intOf i).toNat)
  case atStart => exact ⟨0, true, by omega, rfl, rfl, rfl, Below.refl _ _⟩
  case round =>
    obtain ⟨k, b, hk, rfl, rfl, HK, hbr⟩ := hrel
    obtain ⟨c0, c1, c2, c3⟩ := HM.out
    have c0 := cell_stays hbr c0
    have c1 := cell_stays hbr c1
    have c2 := cell_stays hbr c2
    have c3 := cell_stays hbr c3
    have HGr := Lib.hid (HG.out.mono hbr)
    by_cases hlt : k < c.homes.length
    · have HW0 := HWH.out k hlt
      have hsm := HSM.out k hlt
      have HKS := Lib.hid (knownB_succ c k)
      have HCd : Hid (cardK c k = (decide (setL (whereL c k) = 0) || (decide (setL (whereL c k) &&& (setL (whereL c k) - 1) = 0) && !outL (whereL c k)))) := rfl
      obtain ⟨S, hS⟩ : ∃ S, setL (whereL c k) = S := ⟨_, rfl⟩
      obtain ⟨o, ho⟩ : ∃ o, outL (whereL c k) = o := ⟨_, rfl⟩
      rw [hS, ho] at HW0 HCd
      rw [hS] at hsm
      have HW := Lib.hid HW0
      clear HW0 hS ho
      cases b with
      | false =>
        go_wp2_with fail
        refine (HW.out _ HGr.out).mono ?_
        rintro e w6 ⟨rfl, hb6⟩
        go_wp2_with fail
        go_roundw
        case rel => exact ⟨k + 1, false, by omega, by go_num, rfl, by rw [Hid, HKS.out, ← HK.out]; rfl, hbr.trans (hb6.mono hbr.size)⟩
        case measure => simp [intOf]; omega
      | true =>
        by_cases hS0 : S = 0
        · subst hS0
          go_wp2_with fail
          refine (HW.out _ HGr.out).mono ?_
          rintro e w6 ⟨rfl, hb6⟩
          go_wp2_with fail
          go_roundw
          case rel => exact ⟨k + 1, true, by omega, by go_num, rfl, by rw [Hid, HKS.out, ← HK.out, HCd.out]; simp, hbr.trans (hb6.mono hbr.size)⟩
          case measure => simp [intOf]; omega
        · obtain ⟨z, hz⟩ : ∃ z, S &&& (S - 1) = z := ⟨_, rfl⟩
          have hSb : ((S : Int) == 0) = false := by simp; omega
          have hand : bits .and .i64 (S : Int) ((S : Int) - 1) = (z : Int) := by
            have := and_nat2 S (S - 1) (by omega) (by omega)
            rw [hz] at this
            rw [show (S : Int) - 1 = ((S - 1 : Nat) : Int) by omega]
            exact this
          have hS1 : 1 ≤ S := by omega
          rw [hz] at HCd
          have HS0 := Lib.hid hS0
          clear hz hS0
          by_cases hz0 : z = 0
          · subst hz0
            cases o with
            | false =>
              go_wp2_with fail
              refine (HW.out _ HGr.out).mono ?_
              rintro e w6 ⟨rfl, hb6⟩
              go_wp2_with fail
              go_roundw
              case rel => exact ⟨k + 1, true, by omega, by go_num, rfl, by rw [Hid, HKS.out, ← HK.out, HCd.out]; simp, hbr.trans (hb6.mono hbr.size)⟩
              case measure => simp [intOf]; omega
            | true =>
              go_wp2_with fail
              refine (HW.out _ HGr.out).mono ?_
              rintro e w6 ⟨rfl, hb6⟩
              go_wp2_with fail
              go_roundw
              case rel => exact ⟨k + 1, false, by omega, by go_num, rfl, by rw [Hid, HKS.out, ← HK.out, HCd.out]; simp [HS0.out], hbr.trans (hb6.mono hbr.size)⟩
              case measure => simp [intOf]; omega
          · have hzb : ((z : Int) == 0) = false := by simp; omega
            have HZ0 := Lib.hid hz0
            clear hz0
            go_wp2_with fail
            refine (HW.out _ HGr.out).mono ?_
            rintro e w6 ⟨rfl, hb6⟩
            go_wp2_with fail
            go_roundw
            case rel => exact ⟨k + 1, false, by omega, by go_num, rfl, by rw [Hid, HKS.out, ← HK.out, HCd.out]; simp [HS0.out, HZ0.out], hbr.trans (hb6.mono hbr.size)⟩
            case measure => simp [intOf]; omega
    · obtain rfl : k = c.homes.length := by omega
      have HG := HGr
      have HB := Lib.hid (bst HB.out hbr)
      have hbt : b = true := by rw [HK.out]; exact HKN.out
      subst hbt
      go_wp2_with fail
      refine (HCK.out _ HG.out).mono ?_
      rintro e w8 ⟨rfl, hb8⟩
      have c0 := cell_stays hb8 c0
      have c1 := cell_stays hb8 c1
      have c2 := cell_stays hb8 c2
      have c3 := cell_stays hb8 c3
      have HG := Lib.hid (HG.out.mono hb8)
      have HB := Lib.hid (bst HB.out hb8)
      clear hb8
      go_wp2_with fail
      refine (alive_any _).mono ?_
      rintro e w20 ⟨rfl, hb20⟩
      go_wp2_with fail
      go_ret
      exact ⟨rfl, bst HB.out hb20⟩
set_option maxRecDepth 100000 in
set_option maxHeartbeats 2000000 in
theorem lawNext_c {c : Cab} {w : World} {ah : Option Addr} {ch : Nat} {al : Option Addr} {cl : Nat} {q : Int} (hi : IsInts w ah c.homes) (li : IsLoans w al c.loans) (hcl : c.loans.length ≤ cl) (hq : 0 ≤ q ∧ q ≤ 255) (hG : greatB c = false) (hV : heavyB c = false) (hv : c.valid = true) (hT : truths c ≠ []) (h1 : (states c).length ≠ 1) :
    Calls Try.prog 9 #[c.v ah ch al cl, .int .u8 q] w fun e w' => e = .returned (.bool true) ∧ Below w.heap.size w w' := by
  have hb1 : Below w.heap.size w (w.alloc (.cells (c.cells ah ch al cl) 25)) := (Below.refl _ w).alloc (Nat.le_refl _) _
  have HB1 := Lib.hid hb1
  have great := fun w' => great_any c (ah := ah) (ch := ch) (al := al) (cl := cl) w'
  have hgr : greatB c = (decide (16 < c.homes.length) || decide (30 < c.loans.length)) := rfl
  rw [← hgr] at great
  have HGR := Lib.hid great
  clear hgr great
  obtain ⟨bs, left, hnx, hb0, hl1, hl2, hw0, hbest⟩ := next_spec hv hT (by rw [firsts_len]; exact h1)
  have HNX : Hid (∀ W', Given W' c ah ch al cl → Calls Try.prog 29 #[c.v ah ch al cl] W' fun e w' => e = .returned (.tuple #[.int .i64 bs, .int .i64 left, .int .i64 0]) ∧ Below W'.heap.size W' w') := fun W' h => by
    have := next_any h
    rw [hnx] at this
    exact this
  have HWH : Hid (∀ k : Nat, k < c.homes.length → ∀ W', Given W' c ah ch al cl → Calls Try.prog 17 #[c.v ah ch al cl, .int .i64 k] W' fun e w' => e = .returned (.tuple #[.int .i64 (setL (whereL c k) : Nat), .bool (outL (whereL c k)), .int .i64 0]) ∧ Below W'.heap.size W' w') := fun k h0 W' h => by
    have := where_any h k
    rw [where_yes hv hT (by simp [Cab.card, inR]; omega)] at this
    exact this
  have HSM : Hid (∀ k : Nat, k < c.homes.length → setL (whereL c k) ≤ 1048576) := fun k hk => by
    have := setL_small hv hk (whereL c k).length
    rwa [List.take_length] at this
  have HKN : Hid (knownB c c.homes.length = false) := known_more hv hT h1
  have HT0 := Lib.hid hT
  have HBS := Lib.hid (And.intro hw0 hbest)
  have hFl : (firsts (truths c)).length ≤ (truths c).length := firsts_le _
  clear hnx hT h1 hw0 hbest
  rw [hG] at HGR
  have hhl : c.homes.length ≤ 16 ∧ c.loans.length ≤ 30 := by
    unfold greatB at hG
    simp only [Bool.or_eq_false_iff, decide_eq_false_iff_not] at hG
    omega
  have hg : Given (w.alloc (.cells (c.cells ah ch al cl) 25)) c ah ch al cl := ⟨hi.mono hb1, li.mono hb1, hhl.1, hhl.2, hcl⟩
  have hA := World.alloc_heap_new w (.cells (c.cells ah ch al cl) 25)
  have HG := Lib.hid hg
  have HA := Lib.hid hA
  have hh16 := hhl.1
  have hl30 := hhl.2
  clear hG hb1 hg hA hi li hhl
  have HBK : Hid (c.valid = true → backN c.loans ≤ 4) := fun h => by
    unfold heavyB at hV
    rw [h] at hV
    simp at hV
    omega
  have HV := Lib.hid hV
  have HVC := Lib.hid hv
  have hnh := valid_homes hv
  have hs := valid_slots hv
  clear hV hv
  go_enter Try.func9, Try.ntmps9
  go_wp2_with fail
  refine (HGR.out _).mono ?_
  rintro e w2 ⟨rfl, hb2⟩
  obtain ⟨c0, c1, c2, c3⟩ := cells_new (w := w2) ((hb2.block _ (by simp)).trans HA.out)
  have HG := Lib.hid (HG.out.mono hb2)
  have HB := Lib.hid (bst HB1.out hb2)
  clear hb2
  go_wp2_with fail
  refine (heavy_any HG.out).mono ?_
  rintro e w3 ⟨rfl, hb3⟩
  rw [HV.out]
  have c0 := cell_stays hb3 c0
  have c1 := cell_stays hb3 c1
  have c2 := cell_stays hb3 c2
  have c3 := cell_stays hb3 c3
  have HG := Lib.hid (HG.out.mono hb3)
  have HB := Lib.hid (bst HB.out hb3)
  clear hb3
  go_wp2_with fail
  refine (refCab_any HG.out.hi HG.out.li HG.out.hh HG.out.hl).mono ?_
  rintro e w4 ⟨rfl, hb4⟩
  rw [HVC.out]
  have c0 := cell_stays hb4 c0
  have c1 := cell_stays hb4 c1
  have c2 := cell_stays hb4 c2
  have c3 := cell_stays hb4 c3
  have HG := Lib.hid (HG.out.mono hb4)
  have HB := Lib.hid (bst HB.out hb4)
  clear hb4
  go_wp2_with fail
  refine (HNX.out _ HG.out).mono ?_
  rintro e w5 ⟨rfl, hb5⟩
  have c0 := cell_stays hb5 c0
  have c1 := cell_stays hb5 c1
  have c2 := cell_stays hb5 c2
  have c3 := cell_stays hb5 c3
  have HG := Lib.hid (HG.out.mono hb5)
  have HB := Lib.hid (bst HB.out hb5)
  clear hb5
  go_wp2_with fail
  have HM := Lib.hid (And.intro c0 (And.intro c1 (And.intro c2 c3)))
  go_loopw [8, 40] (fun kn i wr => ∃ (k : Nat) (b : Bool), k ≤ c.homes.length ∧ i = .int .i64 k ∧ kn = .bool b ∧ Hid (b = knownB c k) ∧ Below w5.heap.size w5 wr) (fun _ i _ => c.homes.length - (intOf i).toNat)
  case atStart => exact ⟨0, true, by omega, rfl, rfl, rfl, Below.refl _ _⟩
  case round =>
    obtain ⟨k, b, hk, rfl, rfl, HK, hbr⟩ := hrel
    obtain ⟨c0, c1, c2, c3⟩ := HM.out
    have c0 := cell_stays hbr c0
    have c1 := cell_stays hbr c1
    have c2 := cell_stays hbr c2
    have c3 := cell_stays hbr c3
    have HGr := Lib.hid (HG.out.mono hbr)
    by_cases hlt : k < c.homes.length
    · have HW0 := HWH.out k hlt
      have hsm := HSM.out k hlt
      have HKS := Lib.hid (knownB_succ c k)
      have HCd : Hid (cardK c k = (decide (setL (whereL c k) = 0) || (decide (setL (whereL c k) &&& (setL (whereL c k) - 1) = 0) && !outL (whereL c k)))) := rfl
      obtain ⟨S, hS⟩ : ∃ S, setL (whereL c k) = S := ⟨_, rfl⟩
      obtain ⟨o, ho⟩ : ∃ o, outL (whereL c k) = o := ⟨_, rfl⟩
      rw [hS, ho] at HW0 HCd
      rw [hS] at hsm
      have HW := Lib.hid HW0
      clear HW0 hS ho
      cases b with
      | false =>
        go_wp2_with fail
        refine (HW.out _ HGr.out).mono ?_
        rintro e w6 ⟨rfl, hb6⟩
        go_wp2_with fail
        go_roundw
        case rel => exact ⟨k + 1, false, by omega, by go_num, rfl, by rw [Hid, HKS.out, ← HK.out]; rfl, hbr.trans (hb6.mono hbr.size)⟩
        case measure => simp [intOf]; omega
      | true =>
        by_cases hS0 : S = 0
        · subst hS0
          go_wp2_with fail
          refine (HW.out _ HGr.out).mono ?_
          rintro e w6 ⟨rfl, hb6⟩
          go_wp2_with fail
          go_roundw
          case rel => exact ⟨k + 1, true, by omega, by go_num, rfl, by rw [Hid, HKS.out, ← HK.out, HCd.out]; simp, hbr.trans (hb6.mono hbr.size)⟩
          case measure => simp [intOf]; omega
        · obtain ⟨z, hz⟩ : ∃ z, S &&& (S - 1) = z := ⟨_, rfl⟩
          have hSb : ((S : Int) == 0) = false := by simp; omega
          have hand : bits .and .i64 (S : Int) ((S : Int) - 1) = (z : Int) := by
            have := and_nat2 S (S - 1) (by omega) (by omega)
            rw [hz] at this
            rw [show (S : Int) - 1 = ((S - 1 : Nat) : Int) by omega]
            exact this
          have hS1 : 1 ≤ S := by omega
          rw [hz] at HCd
          have HS0 := Lib.hid hS0
          clear hz hS0
          by_cases hz0 : z = 0
          · subst hz0
            cases o with
            | false =>
              go_wp2_with fail
              refine (HW.out _ HGr.out).mono ?_
              rintro e w6 ⟨rfl, hb6⟩
              go_wp2_with fail
              go_roundw
              case rel => exact ⟨k + 1, true, by omega, by go_num, rfl, by rw [Hid, HKS.out, ← HK.out, HCd.out]; simp, hbr.trans (hb6.mono hbr.size)⟩
              case measure => simp [intOf]; omega
            | true =>
              go_wp2_with fail
              refine (HW.out _ HGr.out).mono ?_
              rintro e w6 ⟨rfl, hb6⟩
              go_wp2_with fail
              go_roundw
              case rel => exact ⟨k + 1, false, by omega, by go_num, rfl, by rw [Hid, HKS.out, ← HK.out, HCd.out]; simp [HS0.out], hbr.trans (hb6.mono hbr.size)⟩
              case measure => simp [intOf]; omega
          · have hzb : ((z : Int) == 0) = false := by simp; omega
            have HZ0 := Lib.hid hz0
            clear hz0
            go_wp2_with fail
            refine (HW.out _ HGr.out).mono ?_
            rintro e w6 ⟨rfl, hb6⟩
            go_wp2_with fail
            go_roundw
            case rel => exact ⟨k + 1, false, by omega, by go_num, rfl, by rw [Hid, HKS.out, ← HK.out, HCd.out]; simp [HS0.out, HZ0.out], hbr.trans (hb6.mono hbr.size)⟩
            case measure => simp [intOf]; omega
    · obtain rfl : k = c.homes.length := by omega
      have HG := HGr
      have HB := Lib.hid (bst HB.out hbr)
      have hbt : b = false := by rw [HK.out]; exact HKN.out
      subst hbt
      obtain ⟨hs1, hs2⟩ := hs
      obtain ⟨hq0, hq1⟩ := hq
      obtain ⟨kq, hmod⟩ : ∃ kq : Nat, q % c.slots = kq := ⟨(q % c.slots).toNat, by have := Int.emod_nonneg q (show c.slots ≠ 0 by omega); omega⟩
      have hkq : (kq : Int) < c.slots := by rw [← hmod]; exact Int.emod_lt_of_pos _ (by omega)
      have HTC := Lib.hid (truths_count (c := c) hs2 (HBK.out HVC.out))
      go_wp2_with fail
      refine (all_given HG.out HVC.out (HBK.out HVC.out)).mono ?_
      rintro e w6 ⟨v, rfl, hO, hb6⟩
      have c0 := cell_stays hb6 c0
      have c1 := cell_stays hb6 c1
      have c2 := cell_stays hb6 c2
      have c3 := cell_stays hb6 c3
      have HB := Lib.hid (bst HB.out hb6)
      obtain ⟨g, cap, rfl, hcap, hmax⟩ := hO.some HT0.out
      have HO := Lib.hid hO
      clear hO hb6
      go_wp2_with fail
      refine (states_any HO.out (fun x hx => (truth_st HVC.out (r := anyRule) (ls := c.loans) (W := c.wrong) (t := x.1) (bs := x.2) hx).len) hnh (by have := HTC.out; omega) hcap).mono ?_
      rintro e w7 ⟨v2, rfl, hO2, hb7⟩
      have c0 := cell_stays hb7 c0
      have c1 := cell_stays hb7 c1
      have c2 := cell_stays hb7 c2
      have c3 := cell_stays hb7 c3
      have HB := Lib.hid (bst HB.out hb7)
      have hF0 : 0 < (firsts (truths c)).length := List.length_pos_iff.2 (firsts_ne HT0.out)
      have HFM : Hid (∀ x ∈ firsts (truths c), x.1.length ≤ 5) := fun x hx => by
        rw [(truth_st HVC.out (r := anyRule) (ls := c.loans) (W := c.wrong) (t := x.1) (bs := x.2) (firsts_mem hx)).len]; exact hnh
      obtain ⟨F, hF⟩ : ∃ F, firsts (truths c) = F := ⟨_, rfl⟩
      have HBS := HBS.out
      rw [hF] at hO2 HFM hF0 hFl hl2 HBS
      have hFle : F.length ≤ 1296 := by have := HTC.out; omega
      obtain ⟨g2, cap2, v2e, hcap2, hmax2⟩ : ∃ g2 cap2, v2 = .slice (some ⟨g2, 0, none⟩) F.length cap2 ∧ F.length ≤ cap2 ∧ cap2 ≤ maxLen := by
        obtain ⟨vs, h1, h2, h3⟩ := hO2
        obtain ⟨g', cap', he, _, _, h4, h5, _⟩ := own_cell h2 hF0
        exact ⟨g', cap', he, h4, h5⟩
      subst v2e
      have hal : Below w7.heap.size w7 (w7.alloc (.cells #[.slice (some ⟨g2, 0, none⟩) F.length cap2] 51)) := (Below.refl _ _).alloc (Nat.le_refl _) _
      have hn := World.alloc_heap_new w7 (.cells #[.slice (some ⟨g2, 0, none⟩) F.length cap2] 51)
      have lt7 := lt_of_cell c0
      have d0 := cell_stays hal c0
      have d1 := cell_stays hal c1
      have d2 := cell_stays hal c2
      have d3 := cell_stays hal c3
      have dn : (w7.alloc (.cells #[.slice (some ⟨g2, 0, none⟩) F.length cap2] 51)).cell? ⟨w7.heap.size, 0, none⟩ = some (.slice (some ⟨g2, 0, none⟩) F.length cap2) := by rw [cell_of_heap hn]; rfl
      have HW := Lib.hid (hO2.below hal)
      have HB := Lib.hid (bst HB.out hal)
      obtain ⟨M, hM⟩ : ∃ M, rworst F (kq : Int) (c.homes.length + 1) = M := ⟨_, rfl⟩
      have hbk := HBS.2 kq hkq
      have hbw := HBS.1
      rw [hM] at hbk
      have HC1 : Hid (∀ W', Below (w7.alloc (.cells #[.slice (some ⟨g2, 0, none⟩) F.length cap2] 51)).heap.size (w7.alloc (.cells #[.slice (some ⟨g2, 0, none⟩) F.length cap2] 51)) W' → Calls Try.prog 40 #[.int .i64 kq, .pointer (some ⟨w.heap.size, 0, none⟩), .pointer (some ⟨w7.heap.size, 0, none⟩)] W' fun e w' => e = .returned (.int .i64 M) ∧ Below W'.heap.size W' w') := fun W' h => by
        have := worst40_any (c := c) (cell_stays h d1) (cell_stays h dn) (HW.out.below h) HFM.out hFle hcap2 hnh kq
        rw [hM] at this
        exact this
      have HC2 : Hid (∀ W', Below (w7.alloc (.cells #[.slice (some ⟨g2, 0, none⟩) F.length cap2] 51)).heap.size (w7.alloc (.cells #[.slice (some ⟨g2, 0, none⟩) F.length cap2] 51)) W' → Calls Try.prog 40 #[.int .i64 bs, .pointer (some ⟨w.heap.size, 0, none⟩), .pointer (some ⟨w7.heap.size, 0, none⟩)] W' fun e w' => e = .returned (.int .i64 left) ∧ Below W'.heap.size W' w') := fun W' h => by
        have := worst40_any (c := c) (cell_stays h d1) (cell_stays h dn) (HW.out.below h) HFM.out hFle hcap2 hnh bs
        rw [hbw] at this
        exact this
      have hmf : ∀ (fn : Fn) (first cap : Array Value) (w : World), (Instr.makeFunc fn first cap).run Try.prog w = .ok (.func fn first cap) w := fun _ _ _ _ => rfl
      clear hO2 hb7 hF hM HBS hbw hn dn d0 d1 d2 d3 hal hl2
      go_wp2_with fail
      refine (HC1.out _ (Below.refl _ _)).mono ?_
      rintro e w9 ⟨rfl, hb9⟩
      rcases hbk with hbk | ⟨rfl, hbk⟩
      · go_wp2_with fail
        refine (HC2.out _ hb9).mono ?_
        rintro e w10 ⟨rfl, hb10⟩
        have HB := Lib.hid (bst (bst HB.out hb9) hb10)
        go_wp2_with fail
        refine (alive_any _).mono ?_
        rintro e w20 ⟨rfl, hb20⟩
        go_wp2_with fail
        go_ret
        exact ⟨rfl, bst HB.out hb20⟩
      · have hML : ¬ (M < M) := by omega
        go_wp2_with fail
        refine (HC2.out _ hb9).mono ?_
        rintro e w10 ⟨rfl, hb10⟩
        have HB := Lib.hid (bst (bst HB.out hb9) hb10)
        go_wp2_with fail
        refine (alive_any _).mono ?_
        rintro e w20 ⟨rfl, hb20⟩
        go_wp2_with fail
        go_ret
        exact ⟨rfl, bst HB.out hb20⟩
theorem lendNext_any {c : Cab} {w : World} {ah : Option Addr} {ch : Nat} {al : Option Addr} {cl : Nat} {q : Int} (hi : IsInts w ah c.homes) (li : IsLoans w al c.loans) (hcl : c.loans.length ≤ cl) (hq : 0 ≤ q ∧ q ≤ 255) :
    Calls Try.prog 9 #[c.v ah ch al cl, .int .u8 q] w fun e w' => e = .returned (.bool true) ∧ Below w.heap.size w w' := by
  cases hG : greatB c with
  | true => exact lawNext_o hi li hcl hq (.inl hG)
  | false =>
    cases hV : heavyB c with
    | true => exact lawNext_o hi li hcl hq (.inr (.inl hV))
    | false =>
      cases hv : c.valid with
      | false => exact lawNext_o hi li hcl hq (.inr (.inr hv))
      | true =>
        by_cases hT : truths c = []
        · exact lawNext_a hi li hcl hq hG hV hv hT
        · by_cases h1 : (states c).length = 1
          · exact lawNext_b hi li hcl hq hG hV hv hT h1
          · exact lawNext_c hi li hcl hq hG hV hv hT h1
end Go.Proofs.Ytlhobddaojdnoaa

