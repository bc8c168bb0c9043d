/- The reference: lists compared; cards away; who did. The reference: Blame; People. -/
import Derived.Test.YtlhobddaojdnoaaTB
import Derived.Test.YtlhobddaojdnoaaL12
namespace Go.Proofs.Ytlhobddaojdnoaa
open Go.RowKit
set_option linter.unusedVariables false

theorem cellsN {c : Cab} {ah : Option Addr} {ch : Nat} {al : Option Addr} {cl : Nat} {W1 : World} {b : Nat} (hA : W1.heap[b]? = some (.cells (c.cells ah ch al cl) 25 (0, 0))) :
    W1.cell? ⟨b, 0, none⟩ = some (.int .i64 c.slots) ∧ W1.cell? ⟨b, 1, none⟩ = some (.slice ah c.homes.length ch) ∧ W1.cell? ⟨b, 2, none⟩ = some (.int .i64 c.wrong) ∧ W1.cell? ⟨b, 3, none⟩ = some (.slice al c.loans.length cl) := by
  have a0 : ∀ o, W1.cell? ⟨b, o, none⟩ = (c.cells ah ch al cl)[o]? := fun o => cell_of_heap hA
  exact ⟨a0 0, a0 1, a0 2, a0 3⟩
set_option maxRecDepth 100000 in
set_option maxHeartbeats 1000000 in
theorem did_any {c : Cab} {ah : Option Addr} {ch : Nat} {al : Option Addr} {cl : Nat} {w : World} {x : Tr} {u v : Value} (li : IsLoans w al c.loans) (h : IsTruth w x u v) (hl : c.loans.length ≤ 30) (hx : x.2.length = c.loans.length) (n : Nat) :
    Calls Try.prog 71 #[c.v ah ch al cl, .agg #[u, v], .int .i64 n] w fun e w' => e = .returned (.bool (didP c n x)) ∧ Below w.heap.size w w' := by
  obtain ⟨a, cap, rfl, _⟩ := h.at_
  obtain ⟨a', cap', rfl, hi⟩ := h.wr
  have hb : Below w.heap.size w ((w.alloc (.cells (c.cells ah ch al cl) 25)).alloc (.cells #[.slice a x.1.length cap, .slice a' x.2.length cap'] 56)) := ((Below.refl _ w).alloc (Nat.le_refl _) _).alloc (by simp) _
  have HI := Lib.hid (And.intro hi (And.intro li hb))
  have HX := Lib.hid hx
  have hx30 : x.2.length ≤ 30 := by omega
  clear h hi li hb hx
  have HD : Hid (didP c n x = (List.range c.loans.length).any fun i => gb x.2 i && decide ((gl c.loans i).person = (n : Int))) := rfl
  go_enter Try.func71, Try.ntmps71
  go_wp2_with fail
  go_loop [7] (fun i => ∃ k : Nat, k ≤ c.loans.length ∧ i = .int .i64 k ∧ Hid (∀ j, j < k → (gb x.2 j && decide ((gl c.loans j).person = (n : Int))) = false)) (fun i => c.loans.length - (intOf i).toNat)
  case atStart => exact ⟨0, by omega, rfl, fun j hj => by omega⟩
  case round =>
    obtain ⟨k, hk, rfl, HK⟩ := hrel
    by_cases hlt : k < c.loans.length
    · obtain ⟨hi, li, hb⟩ := HI.out
      have hkx : k < x.2.length := by have := HX.out; omega
      obtain ⟨b, off, rfl, hc⟩ := hi k hkx
      obtain ⟨lb, lo, rfl, l0, l1, l2, l3⟩ := li k hlt
      have hc := cell_stays hb hc
      have l2 := cell_stays hb l2
      cases hgb : gb x.2 k with
      | false =>
        rw [hgb] at hc
        have HG := Lib.hid hgb
        clear hgb hi li hb l0 l1 l3
        go_wp2_with fail
        go_round
        case rel => exact ⟨k + 1, by omega, by go_num, fun j hj => by
          by_cases e : j = k
          · subst e; rw [HG.out]; rfl
          · exact HK.out j (by omega)⟩
        case measure => simp [intOf]; omega
      | true =>
        rw [hgb] at hc
        have HG := Lib.hid hgb
        by_cases hp : (gl c.loans k).person = (n : Int)
        · have hpb : ((gl c.loans k).person == (n : Int)) = true := by simp [hp]
          have HP := Lib.hid hp
          clear hgb hi li l0 l1 l3 hp
          have HB := Lib.hid hb
          clear hb
          go_wp2_with fail
          go_ret
          refine ⟨ret_bool ?_, HB.out⟩
          rw [HD.out]
          symm
          rw [List.any_eq_true]
          exact ⟨k, List.mem_range.2 hlt, by rw [HG.out, HP.out]; simp⟩
        · have hpb : ((gl c.loans k).person == (n : Int)) = false := by simpa using hp
          have HP := Lib.hid hp
          clear hgb hi li hb l0 l1 l3 hp
          go_wp2_with fail
          go_round
          case rel => exact ⟨k + 1, by omega, by go_num, fun j hj => by
            by_cases e : j = k
            · subst e; rw [HG.out]; simp [HP.out]
            · exact HK.out j (by omega)⟩
          case measure => simp [intOf]; omega
    · obtain rfl : k = c.loans.length := by omega
      go_wp2_with fail
      go_ret
      refine ⟨ret_bool ?_, HI.out.2.2⟩
      rw [HD.out]
      symm
      rw [List.any_eq_false]
      intro j hj
      rw [HK.out j (List.mem_range.1 hj)]
      simp
set_option maxRecDepth 100000 in
set_option maxHeartbeats 1000000 in
theorem away_any {c : Cab} {ah : Option Addr} {ch : Nat} {al : Option Addr} {cl : Nat} {w : World} {s : List Int} {a : Option Addr} {cap : Nat} (hh : IsInts w ah c.homes) (hs : IsInts w a s) (hl : s.length = c.homes.length) (h5 : c.homes.length ≤ 5) :
    Calls Try.prog 73 #[c.v ah ch al cl, .slice a s.length cap] w fun e w' => e = .returned (.int .i64 (away c s)) ∧ Below w.heap.size w w' := by
  have hb : Below w.heap.size w (w.alloc (.cells (c.cells ah ch al cl) 25)) := (Below.refl _ w).alloc (Nat.le_refl _) _
  obtain ⟨W1, hW1⟩ : ∃ W1 : World, W1 = w.alloc (.cells #[.int .i64 c.slots, .slice ah c.homes.length ch, .int .i64 c.wrong, .slice al c.loans.length cl] 25) := ⟨_, rfl⟩
  have hA : W1.heap[w.heap.size]? = some (.cells (c.cells ah ch al cl) 25 (0, 0)) := by rw [hW1]; exact World.alloc_heap_new _ _
  have hb1 : Below w.heap.size w W1 := by rw [hW1]; exact hb
  obtain ⟨c0, c1, c2, c3⟩ := cellsN hA
  have HH : Hid (IsInts W1 ah c.homes ∧ IsInts W1 a s ∧ Below w.heap.size w W1) := ⟨hh.mono hb1, hs.mono hb1, hb1⟩
  have HL := Lib.hid hl
  have HM := Lib.hid c1
  have HW := Lib.hid hW1
  have hs5 : s.length ≤ 5 := by omega
  clear hb hW1 hA hb1 c0 c1 c2 c3 hh hs hl
  go_enter Try.func73, Try.ntmps73
  go_wp2_with fail
  have hW1 := HW.out
  rw [← hW1]
  clear hW1
  go_loopw [5, 6] (fun n i wr => ∃ (k z : Nat), k ≤ s.length ∧ i = .int .i64 k ∧ n = .int .i64 z ∧ Hid (z = awayTo c s k) ∧ z ≤ k ∧ Below W1.heap.size W1 wr) (fun _ i _ => s.length - (intOf i).toNat)
  case atStart => exact ⟨0, 0, by omega, rfl, rfl, by simp [Hid, awayTo], by omega, Below.refl _ _⟩
  case round =>
    obtain ⟨k, z, hk, rfl, rfl, HZ, hz, hbr⟩ := hrel
    by_cases hlt : k < s.length
    · obtain ⟨hhi, hsi, _⟩ := HH.out
      have hkh : k < c.homes.length := by have := HL.out; omega
      obtain ⟨b, off, rfl, q1⟩ := hsi.mono hbr k hlt
      obtain ⟨b2, off2, rfl, q2⟩ := hhi.mono hbr k hkh
      have c1 := cell_stays hbr HM.out
      have x0 := fun y : Aft wr.heap.size wr => cell_stays y.h q1
      have x1 := fun y : Aft wr.heap.size wr => cell_stays y.h q2
      have x2 := fun y : Aft wr.heap.size wr => cell_stays y.h c1
      have HS := Lib.hid (awayTo_succ HL.out hkh)
      clear hhi hsi
      by_cases h1 : gi s k = -1
      · have h1b : (gi s k == -1) = true := by simp [h1]
        have h1c : (gi s k != -1) = false := by simp [h1]
        have H1 := Lib.hid h1
        clear h1
        go_wp2_with fail
        refine wp_region_aft mixed (by kernel_rfl) ?_
        repeat (go_big_quiet_step (fail))
        refine wpQuiet_nil ?_
        rintro _ ⟨y, rfl⟩
        go_wp2_with fail
        go_roundw
        case rel => exact ⟨k + 1, z, by omega, by go_num, by go_num, by rw [Hid, HS.out, if_neg (fun h => h.1 H1.out), HZ.out]; simp, by omega, hbr.trans (y.h.mono hbr.size)⟩
        case measure => simp [intOf]; omega
      · have h1b : (gi s k == -1) = false := by simpa using h1
        have h1c : (gi s k != -1) = true := by simpa using h1
        have H1 := Lib.hid h1
        clear h1
        by_cases h2 : gi s k = gi c.homes k
        · have h2b : (gi s k == gi c.homes k) = true := by simp [h2]
          have h2c : (gi s k != gi c.homes k) = false := by simp [h2]
          have H2 := Lib.hid h2
          clear h2
          go_wp2_with fail
          refine wp_region_aft mixed (by kernel_rfl) ?_
          repeat (go_big_quiet_step (fail))
          refine wpQuiet_nil ?_
          rintro _ ⟨y, rfl⟩
          go_wp2_with fail
          go_roundw
          case rel => exact ⟨k + 1, z, by omega, by go_num, by go_num, by rw [Hid, HS.out, if_neg (fun h => h.2 H2.out), HZ.out]; simp, by omega, hbr.trans (y.h.mono hbr.size)⟩
          case measure => simp [intOf]; omega
        · have h2b : (gi s k == gi c.homes k) = false := by simpa using h2
          have h2c : (gi s k != gi c.homes k) = true := by simpa using h2
          have H2 := Lib.hid h2
          clear h2
          go_wp2_with fail
          refine wp_region_aft mixed (by kernel_rfl) ?_
          repeat (go_big_quiet_step (fail))
          refine wpQuiet_nil ?_
          rintro _ ⟨y, rfl⟩
          go_wp2_with fail
          go_roundw
          case rel => exact ⟨k + 1, z + 1, by omega, by go_num, by go_num, by rw [Hid, HS.out, if_pos ⟨H1.out, H2.out⟩, HZ.out], by omega, hbr.trans (y.h.mono hbr.size)⟩
          case measure => simp [intOf]; omega
    · obtain rfl : k = s.length := by omega
      go_wp2_with fail
      go_ret
      refine ⟨ret_int ?_, bst HH.out.2.2 hbr⟩
      rw [HZ.out]
      have := awayTo_all HL.out
      rw [← HL.out] at this
      rw [this]
end Go.Proofs.Ytlhobddaojdnoaa

namespace Go.Proofs.Ytlhobddaojdnoaa
open Go.RowKit
set_option linter.unusedVariables false

theorem truth_len {c : Cab} {x : Tr} (hx : x ∈ truths c) : x.2.length = c.loans.length :=
  paths_len c c.loans c.homes x.1 x.2 (truthsBy_mem.1 (show (x.1, x.2) ∈ truthsBy c anyRule c.loans c.wrong from hx)).1
set_option maxRecDepth 100000 in
set_option maxHeartbeats 2000000 in
theorem rblame_any {c : Cab} {ah : Option Addr} {ch : Nat} {al : Option Addr} {cl : Nat} {w : World} (hg : Given w c ah ch al cl) (hb : c.valid = true → backN c.loans ≤ 4) :
    Calls Try.prog 24 #[c.v ah ch al cl] w fun e w' => e = .returned (.tuple #[.int .i64 (blameE c).1, .int .i64 (blameE c).2.1, .int .i64 (blameE c).2.2]) ∧ Below w.heap.size w w' := by
  have hb1 : Below w.heap.size w (w.alloc (.cells (c.cells ah ch al cl) 25)) := (Below.refl _ w).alloc (Nat.le_refl _) _
  have HB1 := Lib.hid hb1
  have HG1 := Lib.hid (hg.mono hb1)
  have HBK := Lib.hid hb
  have hA := Lib.hid (World.alloc_heap_new w (.cells (c.cells ah ch al cl) 25))
  have hn16 := hg.hh
  have hl30 := hg.hl
  clear hb1 hg hb
  by_cases h0 : openE c true = 0
  · have hq : (openE c true == 0) = true := by simp [h0]
    have hq' : (openE c true != 0) = false := by simp [h0]
    have H0 := Lib.hid h0
    obtain ⟨hv, _, hT⟩ := openE_zero h0
    have HV := Lib.hid hv
    have HT0 : Hid (truths c ≠ []) := hT
    have hnh := valid_homes hv
    have hnl := valid_loans hv
    have HVS := Lib.hid (valid_slots hv)
    have hE : Hid (blameE c = ((allU (truths c) wrongP c.loans.length : Int), (someU (truths c) wrongP c.loans.length : Int), 0)) := by rw [Hid, surely_eq hT, can_eq]; exact blame_yes hv hT
    have HTP : Hid (0 < (truths c).length) := List.length_pos_iff.2 hT
    have hTl := truths_count (c := c) HVS.out.2 (HBK.out hv)
    clear h0 hv hT
    go_enter Try.func24, Try.ntmps24
    go_wp2_with fail
    refine (ropen_any HG1.out HBK.out true).mono ?_
    rintro e w4 ⟨v, rfl, hO, hb4⟩
    have hO := hO H0.out
    obtain ⟨c0, c1, c2, c3⟩ := cellsN ((hb4.block _ (by simp)).trans hA.out)
    obtain ⟨g, cap, rfl, hcap, hmax⟩ := hO.some HT0.out
    have HO := Lib.hid hO
    have HB4 := Lib.hid hb4
    clear hO hb4
    go_wp2_with fail
    go_loop [7, 8, 9] (fun a s i => ∃ (k A S : Nat), k ≤ c.loans.length ∧ i = .int .i64 k ∧ a = .int .i64 A ∧ s = .int .i64 S ∧ Hid (A = allU (truths c) wrongP k) ∧ Hid (S = someU (truths c) wrongP k)) (fun _ _ i => c.loans.length - (intOf i).toNat)
    case atStart => exact ⟨0, 0, 0, by omega, rfl, rfl, rfl, rfl, rfl⟩
    case round =>
      obtain ⟨i, A, S, hi, rfl, rfl, rfl, HA, HS⟩ := hrel
      by_cases hlt : i < c.loans.length
      · go_wp2_with fail
        go_loop [10, 11] (fun n j => ∃ (k z : Nat), k ≤ (truths c).length ∧ j = .int .i64 k ∧ n = .int .i64 z ∧ Hid (z = cntU (truths c) (wrongP i) k) ∧ z ≤ k) (fun _ j => (truths c).length - (intOf j).toNat)
        case atStart => exact ⟨0, 0, by omega, rfl, rfl, rfl, by omega⟩
        case round =>
          obtain ⟨k, z, hk, rfl, rfl, HZ, hz⟩ := hrel
          by_cases hkl : k < (truths c).length
          · obtain ⟨x, hx⟩ : ∃ x, (truths c)[k]? = some x := ⟨_, List.getElem?_eq_getElem hkl⟩
            obtain ⟨p, q1, q2, hp⟩ := HO.out.at rfl hx
            obtain ⟨a, cp, hpa, hpi⟩ := own_bools hp.2 rfl
            rw [hpa] at q2
            have hxl := truth_len (List.mem_of_getElem? hx)
            obtain ⟨ab, ao, rfl, ac⟩ := hpi i (by rw [hxl]; exact hlt)
            have hix : i < x.2.length := by rw [hxl]; exact hlt
            have hC := cntU_succ (p := wrongP i) hx
            have hwp : wrongP i x = gb x.2 i := rfl
            rw [hwp] at hC
            cases hgb : gb x.2 i
            all_goals
              rw [hgb] at ac hC
              have HC := Lib.hid hC
              clear hC hwp hxl hpi hpa hp hx q1 hgb
              go_wp2_with fail
              go_round
            case rel => exact ⟨k + 1, z, by omega, by go_num, rfl, by rw [Hid, HC.out, HZ.out]; simp, by omega⟩
            case measure => simp [intOf]; omega
            case rel => exact ⟨k + 1, z + 1, by omega, by go_num, by go_num, by rw [Hid, HC.out, HZ.out]; simp, by omega⟩
            case measure => simp [intOf]; omega
          · obtain rfl : k = (truths c).length := by omega
            have HZf := HZ
            have h20 : i ≤ 20 := by omega
            by_cases hall : z = (truths c).length
            · have hab : Hid (allB (truths c) (wrongP i) = true) := by unfold Hid allB; rw [← HZf.out]; simpa using hall
              have hzt : ((z : Int) == ((truths c).length : Int)) = true := by simp [hall]
              have hz0 : 0 < z := by have := HTP.out; omega
              have hsb : Hid (someB (truths c) (wrongP i) = true) := by unfold Hid someB; rw [← HZf.out]; simpa using hz0
              have hA1 := Lib.hid (allU_succ (truths c) (wrongP) i)
              have hS1 := Lib.hid (someU_succ (truths c) (wrongP) i)
              have hza := allU_small (truths c) (wrongP) (i := i) (by omega)
              have hsa := someU_small (truths c) (wrongP) (i := i) (by omega)
              rw [← HA.out] at hza
              rw [← HS.out] at hsa
              clear hall
              go_wp2_with ((go_at_call 57; first | ((with_reducible refine (setWith_any A i hza h20 _).mono ?_); rintro e w' ⟨rfl, rfl⟩) | ((with_reducible refine (setWith_any S i hsa h20 _).mono ?_); rintro e w' ⟨rfl, rfl⟩)))
              go_round
              case rel => exact ⟨i + 1, A ||| 2 ^ i, S ||| 2 ^ i, by omega, by go_num, rfl, rfl, by rw [Hid, hA1.out, if_pos hab.out, HA.out], by rw [Hid, hS1.out, if_pos hsb.out, HS.out]⟩
              case measure => simp [intOf]; omega
            · have hab : Hid (¬ allB (truths c) (wrongP i) = true) := by unfold Hid allB; rw [← HZf.out]; simpa using hall
              have hzt : ((z : Int) == ((truths c).length : Int)) = false := by simp; omega
              have hA1 := Lib.hid (allU_succ (truths c) (wrongP) i)
              have hS1 := Lib.hid (someU_succ (truths c) (wrongP) i)
              have hsa := someU_small (truths c) (wrongP) (i := i) (by omega)
              rw [← HS.out] at hsa
              have hne : ¬ z = (truths c).length := hall
              by_cases hz0 : 0 < z
              · have hsb : Hid (someB (truths c) (wrongP i) = true) := by unfold Hid someB; rw [← HZf.out]; simpa using hz0
                go_wp2_with ((go_at_call 57; (with_reducible refine (setWith_any S i hsa h20 _).mono ?_); rintro e w' ⟨rfl, rfl⟩))
                go_round
                case rel => exact ⟨i + 1, A, S ||| 2 ^ i, by omega, by go_num, rfl, rfl, by rw [Hid, hA1.out, if_neg hab.out, HA.out], by rw [Hid, hS1.out, if_pos hsb.out, HS.out]⟩
                case measure => simp [intOf]; omega
              · have hsb : Hid (¬ someB (truths c) (wrongP i) = true) := by unfold Hid someB; rw [← HZf.out]; simpa using hz0
                go_wp2_with fail
                go_round
                case rel => exact ⟨i + 1, A, S, by omega, by go_num, rfl, rfl, by rw [Hid, hA1.out, if_neg hab.out, HA.out], by rw [Hid, hS1.out, if_neg hsb.out, HS.out]⟩
                case measure => simp [intOf]; omega
      · obtain rfl : i = c.loans.length := by omega
        go_wp2_with fail
        go_ret3
        refine ⟨?_, bst HB1.out HB4.out⟩
        rw [hE.out, HA.out, HS.out]
        rfl
  · have hq : (openE c true == 0) = false := by simpa using h0
    have hq' : (openE c true != 0) = true := by simpa using h0
    have hE : Hid (blameE c = (0, 0, openE c true)) := by
      unfold Hid blameE
      simp only [h0, if_false]
    clear h0
    go_enter Try.func24, Try.ntmps24
    go_wp2_with fail
    refine (ropen_any HG1.out HBK.out true).mono ?_
    rintro e w4 ⟨v, rfl, hO, hb4⟩
    obtain ⟨c0, c1, c2, c3⟩ := cellsN ((hb4.block _ (by simp)).trans hA.out)
    have HO := Lib.hid hO
    clear hO
    go_wp2_with fail
    go_ret3
    exact ⟨by rw [hE.out]; rfl, bst HB1.out hb4⟩
set_option maxRecDepth 100000 in
set_option maxHeartbeats 2000000 in
theorem rpeople_any {c : Cab} {ah : Option Addr} {ch : Nat} {al : Option Addr} {cl : Nat} {w : World} (hg : Given w c ah ch al cl) (hb : c.valid = true → backN c.loans ≤ 4) :
    Calls Try.prog 26 #[c.v ah ch al cl] w fun e w' => e = .returned (.tuple #[.int .i64 (peopleE c).1, .int .i64 (peopleE c).2.1, .int .i64 (peopleE c).2.2]) ∧ Below w.heap.size w w' := by
  have hb1 : Below w.heap.size w (w.alloc (.cells (c.cells ah ch al cl) 25)) := (Below.refl _ w).alloc (Nat.le_refl _) _
  have HB1 := Lib.hid hb1
  have HG1 := Lib.hid (hg.mono hb1)
  have HBK := Lib.hid hb
  have hA := Lib.hid (World.alloc_heap_new w (.cells (c.cells ah ch al cl) 25))
  have hn16 := hg.hh
  have hl30 := hg.hl
  clear hb1 hg hb
  by_cases h0 : openE c true = 0
  · have hq : (openE c true == 0) = true := by simp [h0]
    have hq' : (openE c true != 0) = false := by simp [h0]
    have H0 := Lib.hid h0
    obtain ⟨hv, _, hT⟩ := openE_zero h0
    have HV := Lib.hid hv
    have HT0 : Hid (truths c ≠ []) := hT
    have hnh := valid_homes hv
    have hnl := valid_loans hv
    have HVS := Lib.hid (valid_slots hv)
    have hE : Hid (peopleE c = ((allU (truths c) (didP c) 8 : Int), (someU (truths c) (didP c) 8 : Int), 0)) := by rw [Hid, own_eq, may_eq hv]; exact people_yes hv hT
    have HTP : Hid (0 < (truths c).length) := List.length_pos_iff.2 hT
    have hTl := truths_count (c := c) HVS.out.2 (HBK.out hv)
    clear h0 hv hT
    go_enter Try.func26, Try.ntmps26
    go_wp2_with fail
    refine (ropen_any HG1.out HBK.out true).mono ?_
    rintro e w4 ⟨v, rfl, hO, hb4⟩
    have hO := hO H0.out
    obtain ⟨c0, c1, c2, c3⟩ := cellsN ((hb4.block _ (by simp)).trans hA.out)
    obtain ⟨g, cap, rfl, hcap, hmax⟩ := hO.some HT0.out
    have HO := Lib.hid hO
    have HB4 := Lib.hid hb4
    clear hO hb4
    go_wp2_with fail
    have HM := Lib.hid (And.intro c0 (And.intro c1 (And.intro c2 c3)))
    clear c0 c1 c2 c3
    have HL4 : Hid (IsLoans w4 al c.loans) := (HG1.out.mono HB4.out).li
    go_loopw [7, 8, 9] (fun a s i wr => ∃ (k A S : Nat), k ≤ 8 ∧ i = .int .i64 k ∧ a = .int .i64 A ∧ s = .int .i64 S ∧ Hid (A = allU (truths c) (didP c) k) ∧ Hid (S = someU (truths c) (didP c) k) ∧ Below w4.heap.size w4 wr) (fun _ _ i _ => 8 - (intOf i).toNat)
    case atStart => exact ⟨0, 0, 0, by omega, rfl, rfl, rfl, rfl, rfl, Below.refl _ _⟩
    case round =>
      obtain ⟨wo, rfl⟩ : ∃ wo : World, wo = wr := ⟨_, rfl⟩
      obtain ⟨i, A, S, hi, rfl, rfl, rfl, HA, HS, hbo⟩ := hrel
      by_cases hlt : i < 8
      · have hd8 : decide (i < 8) = true := by simpa using hlt
        have hd9 : decide ((i : Int) < 8) = true := by simp; omega
        go_wp2_with fail
        go_loopw [10, 11] (fun n j w2 => ∃ (k z : Nat), k ≤ (truths c).length ∧ j = .int .i64 k ∧ n = .int .i64 z ∧ Hid (z = cntU (truths c) (didP c i) k) ∧ z ≤ k ∧ Below w4.heap.size w4 w2) (fun _ j _ => (truths c).length - (intOf j).toNat)
        case atStart => exact ⟨0, 0, by omega, rfl, rfl, rfl, by omega, hbo⟩
        case round =>
          obtain ⟨k, z, hk, rfl, rfl, HZ, hz, hbr⟩ := hrel
          by_cases hkl : k < (truths c).length
          · obtain ⟨x, hx⟩ : ∃ x, (truths c)[k]? = some x := ⟨_, List.getElem?_eq_getElem hkl⟩
            obtain ⟨p, q1, q2, hp⟩ := (HO.out.below hbr).at rfl hx
            have hIT := hp.is
            have hxl := truth_len (List.mem_of_getElem? hx)
            have hL := HL4.out.mono hbr
            obtain ⟨c0, c1, c2, c3⟩ := HM.out
            have c0 := cell_stays hbr c0
            have c1 := cell_stays hbr c1
            have c2 := cell_stays hbr c2
            have c3 := cell_stays hbr c3
            have x0 := fun y : Aft wr.heap.size wr => cell_stays y.h c0
            have x1 := fun y : Aft wr.heap.size wr => cell_stays y.h c1
            have x2 := fun y : Aft wr.heap.size wr => cell_stays y.h c2
            have x3 := fun y : Aft wr.heap.size wr => cell_stays y.h c3
            have x4 := fun y : Aft wr.heap.size wr => cell_stays y.h q1
            have x5 := fun y : Aft wr.heap.size wr => cell_stays y.h q2
            have hC := cntU_succ (p := didP c i) hx
            have HXL := Lib.hid hxl
            have HCall : Hid (∀ (y : Aft wr.heap.size wr) (b : Bool), didP c i x = b → Calls Try.prog 71 #[c.v ah ch al cl, .agg #[p.1, p.2], .int .i64 i] y.v fun e w' => e = .returned (.bool b) ∧ Below y.v.heap.size y.v w') := fun y b hb => hb ▸ did_any (hL.mono y.h) (hIT.mono y.h) hl30 HXL.out i
            clear hxl hp hx hIT hL
            cases hd : didP c i x
            all_goals
              have HCb := Lib.hid (fun y => HCall.out y _ hd)
              rw [hd] at hC
              have HC := Lib.hid hC
              clear hC hd HCall
              go_wp2_with fail
              refine wp_region_aft mixed (by kernel_rfl) ?_
              repeat (go_big_quiet_step ((go_at_call 71; exact calls_aft (HCb.out _))))
              refine wpQuiet_nil ?_
              rintro _ ⟨y, rfl⟩
              go_wp2_with fail
              go_roundw
            case rel => exact ⟨k + 1, z, by omega, by go_num, rfl, by rw [Hid, HC.out, HZ.out]; simp, by omega, hbr.trans (y.h.mono hbr.size)⟩
            case measure => simp [intOf]; omega
            case rel => exact ⟨k + 1, z + 1, by omega, by go_num, by go_num, by rw [Hid, HC.out, HZ.out]; simp, by omega, hbr.trans (y.h.mono hbr.size)⟩
            case measure => simp [intOf]; omega
          · obtain rfl : k = (truths c).length := by omega
            have HZf := HZ
            have h20 : i ≤ 20 := by omega
            by_cases hall : z = (truths c).length
            · have hab : Hid (allB (truths c) (didP c i) = true) := by unfold Hid allB; rw [← HZf.out]; simpa using hall
              have hzt : ((z : Int) == ((truths c).length : Int)) = true := by simp [hall]
              have hz0 : 0 < z := by have := HTP.out; omega
              have hsb : Hid (someB (truths c) (didP c i) = true) := by unfold Hid someB; rw [← HZf.out]; simpa using hz0
              have hA1 := Lib.hid (allU_succ (truths c) (didP c) i)
              have hS1 := Lib.hid (someU_succ (truths c) (didP c) i)
              have hza := allU_small (truths c) (didP c) (i := i) (by omega)
              have hsa := someU_small (truths c) (didP c) (i := i) (by omega)
              rw [← HA.out] at hza
              rw [← HS.out] at hsa
              clear hall
              go_wp2_with ((go_at_call 57; first | ((with_reducible refine (setWith_any A i hza h20 _).mono ?_); rintro e w' ⟨rfl, rfl⟩) | ((with_reducible refine (setWith_any S i hsa h20 _).mono ?_); rintro e w' ⟨rfl, rfl⟩)))
              go_roundw
              case rel => exact ⟨i + 1, A ||| 2 ^ i, S ||| 2 ^ i, by omega, by go_num, rfl, rfl, by rw [Hid, hA1.out, if_pos hab.out, HA.out], by rw [Hid, hS1.out, if_pos hsb.out, HS.out], hbr⟩
              case measure => simp [intOf]; omega
            · have hab : Hid (¬ allB (truths c) (didP c i) = true) := by unfold Hid allB; rw [← HZf.out]; simpa using hall
              have hzt : ((z : Int) == ((truths c).length : Int)) = false := by simp; omega
              have hA1 := Lib.hid (allU_succ (truths c) (didP c) i)
              have hS1 := Lib.hid (someU_succ (truths c) (didP c) i)
              have hsa := someU_small (truths c) (didP c) (i := i) (by omega)
              rw [← HS.out] at hsa
              have hne : ¬ z = (truths c).length := hall
              by_cases hz0 : 0 < z
              · have hsb : Hid (someB (truths c) (didP c i) = true) := by unfold Hid someB; rw [← HZf.out]; simpa using hz0
                go_wp2_with ((go_at_call 57; (with_reducible refine (setWith_any S i hsa h20 _).mono ?_); rintro e w' ⟨rfl, rfl⟩))
                go_roundw
                case rel => exact ⟨i + 1, A, S ||| 2 ^ i, by omega, by go_num, rfl, rfl, by rw [Hid, hA1.out, if_neg hab.out, HA.out], by rw [Hid, hS1.out, if_pos hsb.out, HS.out], hbr⟩
                case measure => simp [intOf]; omega
              · have hsb : Hid (¬ someB (truths c) (didP c i) = true) := by unfold Hid someB; rw [← HZf.out]; simpa using hz0
                go_wp2_with fail
                go_roundw
                case rel => exact ⟨i + 1, A, S, by omega, by go_num, rfl, rfl, by rw [Hid, hA1.out, if_neg hab.out, HA.out], by rw [Hid, hS1.out, if_neg hsb.out, HS.out], hbr⟩
                case measure => simp [intOf]; omega
      · obtain rfl : i = 8 := by omega
        go_wp2_with fail
        go_ret3
        refine ⟨?_, bst HB1.out (bst HB4.out hbo)⟩
        rw [hE.out, HA.out, HS.out]
        rfl
  · have hq : (openE c true == 0) = false := by simpa using h0
    have hq' : (openE c true != 0) = true := by simpa using h0
    have hE : Hid (peopleE c = (0, 0, openE c true)) := by
      unfold Hid peopleE
      simp only [h0, if_false]
    clear h0
    go_enter Try.func26, Try.ntmps26
    go_wp2_with fail
    refine (ropen_any HG1.out HBK.out true).mono ?_
    rintro e w4 ⟨v, rfl, hO, hb4⟩
    obtain ⟨c0, c1, c2, c3⟩ := cellsN ((hb4.block _ (by simp)).trans hA.out)
    have HO := Lib.hid hO
    clear hO
    go_wp2_with fail
    go_ret3
    exact ⟨by rw [hE.out]; rfl, bst HB1.out hb4⟩
end Go.Proofs.Ytlhobddaojdnoaa

