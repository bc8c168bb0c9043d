/- People. -/
import Derived.Test.YtlhobddaojdnoaaW17
namespace Go.Proofs.Ytlhobddaojdnoaa
open Go.RowKit

def setP (c : Cab) (k : Nat) : List Nat := (List.range k).filter fun (p : Nat) => (truthsBy c (honestRule p) c.loans c.wrong).isEmpty
def setQ (c : Cab) (k : Nat) : List Nat := (setT c k).map fun i => (gl c.loans i).person.toNat
theorem setP_no (c : Cab) (k : Nat) (h : (truthsBy c (honestRule k) c.loans c.wrong).isEmpty = false) : setP c (k + 1) = setP c k := by unfold setP; rw [List.range_succ, List.filter_append]; simp [h]
theorem setP_yes (c : Cab) (k : Nat) (h : (truthsBy c (honestRule k) c.loans c.wrong).isEmpty = true) : setP c (k + 1) = setP c k ++ [k] := by
  have h' : truthsBy c (honestRule k) c.loans c.wrong = [] := List.isEmpty_iff.1 h
  unfold setP; rw [List.range_succ, List.filter_append]; simp [h']
theorem setP_small (c : Cab) (k : Nat) (hk : k ≤ 20) : bitsOf (setP c k) < 2 ^ 62 := by
  have : bitsOf (setP c k) < 2 ^ 20 := bitsOf_lt (fun j hj => by
    have := List.mem_range.1 (List.mem_filter.1 hj).1
    omega)
  omega
theorem person_in {c : Cab} (hok : ∀ l ∈ c.loans, c.loanOk l = true) {k : Nat} (hk : k < c.loans.length) (hb : isBack c k = true) : ∃ pn : Nat, (gl c.loans k).person = pn ∧ pn ≤ 7 := by
  have h1 := hok _ (gl_mem hk)
  unfold isBack at hb
  have h2 : (gl c.loans k).kind = 1 := by simpa using hb
  unfold Cab.loanOk Cab.lent inR at h1
  simp [h2] at h1
  exact ⟨(gl c.loans k).person.toNat, by omega, by omega⟩
theorem setQ_small {c : Cab} (hok : ∀ l ∈ c.loans, c.loanOk l = true) (k : Nat) (hk : k ≤ c.loans.length) : bitsOf (setQ c k) < 2 ^ 62 := by
  have : bitsOf (setQ c k) < 2 ^ 20 := bitsOf_lt (fun j hj => by
    obtain ⟨i, hi, rfl⟩ := List.mem_map.1 hj
    have h1 := (List.mem_filter.1 hi).1
    have h2 := List.mem_range.1 (List.mem_filter.1 h1).1
    obtain ⟨pn, hp, hp7⟩ := person_in hok (by omega : i < c.loans.length) (List.mem_filter.1 h1).2
    rw [hp]; simp; omega)
  omega
theorem setQ_other (c : Cab) (k : Nat) (h : isBack c k = false) : setQ c (k + 1) = setQ c k := by unfold setQ; rw [setT_other c k h]
theorem setQ_no (c : Cab) (k : Nat) (h : (truthsBy c (mustRule k true) c.loans c.wrong).isEmpty = true) : setQ c (k + 1) = setQ c k := by unfold setQ; rw [setT_no c k h]
theorem setQ_yes (c : Cab) (k : Nat) (h0 : isBack c k = true) (h : (truthsBy c (mustRule k true) c.loans c.wrong).isEmpty = false) : setQ c (k + 1) = setQ c k ++ [(gl c.loans k).person.toNat] := by unfold setQ; rw [setT_yes c k h0 h]; simp
theorem peopleE_of {c : Cab} (h0 : openE c true = 0) : peopleE c = ((bitsOf (setP c 8) : Int), (bitsOf (setQ c c.loans.length) : Int), 0) := by
  unfold peopleE
  rw [if_pos h0]
  rfl
theorem cf70 (args : Array Value) (w : World) : (callFunc 70 args).run Try.prog w = .ok (.enter 70 args) w := by simp [callFunc, Try.func70, Try.f70, go_sem]

set_option maxRecDepth 100000 in
set_option maxHeartbeats 2000000 in
theorem people_any {c : Cab} {w : World} {ah : Option Addr} {ch : Nat} {al : Option Addr} {cl : Nat} (hg : Given w c ah ch al cl) :
    Calls Try.prog 25 #[c.v ah ch al cl] w fun e w' => e = .returned (.tuple #[.int .i64 (peopleE c).1, .int .i64 (peopleE c).2.1, .int .i64 (peopleE c).2.2]) ∧ Below w.heap.size w w' := by
  have hmf : ∀ (fn : Fn) (first cap : Array Value) (w : World), (Instr.makeFunc fn first cap).run Try.prog w = .ok (.func fn first cap) w := fun _ _ _ _ => rfl
  go_enter_defers Try.func25, Try.ntmps25
  go_wp2_with fail
  have hb1 : Below w.heap.size w ((w.alloc (.cells (c.cells ah ch al cl) 25)).alloc (.cells #[.int .i64 0] 28)) := ((Below.refl _ w).alloc (Nat.le_refl _) _).alloc (by simp) _
  have q2 := World.alloc_heap_new (w.alloc (.cells (c.cells ah ch al cl) 25)) (.cells #[.int .i64 0] 28)
  rw [World.size_alloc] at q2
  have hg1 := hg.mono hb1
  have hz1 : ((w.alloc (.cells (c.cells ah ch al cl) 25)).alloc (.cells #[.int .i64 0] 28)).heap.size = w.heap.size + 2 := by simp
  revert hb1 q2 hg1 hz1
  generalize ((w.alloc (.cells (c.cells ah ch al cl) 25)).alloc (.cells #[.int .i64 0] 28)) = w1
  intro hb1 q2 hg1 hz1
  have hasks := asks_always c ah ch al cl w1
  by_cases h0 : openE c true = 0
  · obtain ⟨hv, _, ht⟩ := openE_zero h0
    obtain ⟨v1, v2, v3, v4, v5, v6⟩ := valid_parts hv
    refine (open_ok hg1 (fun _ => hasks) h0 hasks.1).mono ?_
    rintro e w2 ⟨bc, b, M, rfl, hc, _, hb2⟩
    have e4 := (hb2.block (w.heap.size + 1) (by omega)).trans q2
    have hz2 : w.heap.size + 2 ≤ w2.heap.size := by have := hb2.size; omega
    have hB2 : Below w.heap.size w w2 := hb1.trans (hb2.mono (by omega))
    clear hb1 q2 hg1 hz1 hb2 hasks
    have HW : Hid (peopleE c = _) := peopleE_of h0
    go_wp2_with fail
    go_loopw [2, 16] (fun x i wr => ∃ k : Nat, k ≤ 8 ∧ i = .int .i64 k ∧ x = .int .i64 (bitsOf (setP c k)) ∧ Below w2.heap.size w2 wr) (fun _ i _ => 8 - (intOf i).toNat)
    case atStart => exact ⟨0, by omega, rfl, rfl, Below.refl _ _⟩
    case round =>
      obtain ⟨k, hk, rfl, rfl, hbr⟩ := hrel
      by_cases hlt : k < 8
      · have hcr := hc.mono hbr
        have h101 : (k : Int) < 8 := by omega
        have h100 : (k : Int) ≤ 100 := by omega
        obtain ⟨z, hz⟩ : ∃ z : Nat, 2 ^ k = z := ⟨_, rfl⟩
        have hwr := wrap_two (j := k) (by omega)
        have hzl := two_lt (j := k) (by omega)
        rw [hz] at hwr hzl
        have HZ := Lib.hid hz
        clear hz
        go_wp2_with fail
        refine (all_any (honest_rule (k : Int)) hcr hv hg.cl).mono ?_
        rintro e w11 ⟨b1, M1, rfl, hM1, hl1, hb11, _⟩
        have hlen1 := hM1.raw.len Try.underlying69 3
        rw [List.length_map] at hlen1
        have hbS := hbr.trans (hb11.mono hbr.size)
        cases hE1 : (truthsBy c (honestRule k) c.loans c.wrong).isEmpty with
        | true =>
          have hM0 := (map_empty hM1 hl1).2 (List.isEmpty_iff.1 hE1)
          subst hM0
          have HE1 := Lib.hid hE1
          clear hE1
          have hlen1' : (Builtin.len_ #[69] 3 #[.map (some b1)]).run Try.prog w11 = .ok (.int .i64 0) w11 := hlen1
          clear hlen1
          have hbb : bitsOf (setP c k) < 2 ^ 62 := setP_small _ _ (by omega)
          go_wp2_with fail
          have hq := World.alloc_heap_new w11 (.cells #[.int .i64 (bitsOf (setP c k)), .int .i64 z] 3)
          refine (union_any (bitsOf (setP c k)) z hbb hzl (by rw [cell_of_heap hq]; rfl) (by rw [cell_of_heap hq]; rfl)).mono ?_
          rintro e w12 ⟨rfl, rfl⟩
          go_wp2_with fail
          go_roundw
          case rel =>
            refine ⟨k + 1, by omega, by go_num, ?_, hbS.alloc hbS.size _⟩
            rw [setP_yes c k HE1.out, bitsOf_snoc, HZ.out]
          case measure => simp [intOf]; omega
        | false =>
          have hMp1 : (M1.length : Int) ≠ 0 := by
            intro h
            have := (map_empty hM1 hl1).1 (List.length_eq_zero_iff.1 (by omega))
            rw [this] at hE1
            cases hE1
          have hMb : ((M1.length : Int) == 0) = false := by simpa using hMp1
          have HE1 := Lib.hid hE1
          clear hE1 hMp1
          go_wp2_with fail
          go_roundw
          case rel => exact ⟨k + 1, by omega, by go_num, by rw [setP_no c k HE1.out], hbS⟩
          case measure => simp [intOf]; omega
      · have hkk : k = 8 := by omega
        subst hkk
        have hc8 := hc.mono hbr
        have c3 := hc8.l
        have g3 := lt_of_cell c3
        obtain ⟨N8, hN8⟩ : ∃ N8 : Nat, bitsOf (setP c 8) = N8 := ⟨_, rfl⟩
        rw [hN8]
        have H8 := Lib.hid hN8
        clear hN8
        have hB8 := hB2.trans (hbr.mono (by omega))
        have e48 := (hbr.block (w.heap.size + 1) (by omega)).trans e4
        have hz8 : w.heap.size + 2 ≤ wr.heap.size := by have := hbr.size; omega
        clear hbr hB2 e4 hc hz2
        revert hc8 c3 g3 hB8 e48 hz8
        generalize wr = w2
        intro hc c3 g3 hB2 e4 hz2
        go_wp2_with fail
        go_loopw [3, 38] (fun y i wr => ∃ k : Nat, k ≤ c.loans.length ∧ i = .int .i64 k ∧ y = .int .i64 (bitsOf (setQ c k)) ∧ Below w2.heap.size w2 wr) (fun _ i _ => c.loans.length - (intOf i).toNat)
        case atStart => exact ⟨0, by omega, rfl, rfl, Below.refl _ _⟩
        case round =>
          obtain ⟨k, hk, rfl, rfl, hbr⟩ := hrel
          clear c3
          by_cases hlt : k < c.loans.length
          · have hcr := hc.mono hbr
            obtain ⟨bl, ol, rfl, k0, k1, k2, k3⟩ := hcr.li k hlt
            have h100 : (k : Int) ≤ 100 := by omega
            have h101 : (k : Int) < (c.loans.length : Int) := by omega
            have hbA : Below w2.heap.size w2 (wr.alloc (.cells (gl c.loans k).arr 48)) := hbr.alloc hbr.size _
            by_cases hkind : (gl c.loans k).kind = 1
            · have HK : Hid (isBack c k = true) := by unfold Hid isBack; simp [hkind]
              have hcA := hc.mono hbA
              obtain ⟨pn, hpn, hp7⟩ := person_in v4 hlt HK.out
              obtain ⟨z, hz⟩ : ∃ z : Nat, 2 ^ pn = z := ⟨_, rfl⟩
              have hwr := wrap_two (j := pn) (by omega)
              have hzl := two_lt (j := pn) (by omega)
              rw [hz] at hwr hzl
              have HZ := Lib.hid hz
              have HP := Lib.hid hpn
              have hkn : ((gl c.loans k).kind == 1) = true := by simp [hkind]
              clear hz hkind
              have hnew := World.alloc_heap_new wr (.cells (gl c.loans k).arr 48)
              have n2 : (wr.alloc (.cells (gl c.loans k).arr 48)).cell? ⟨wr.heap.size, 2, none⟩ = some (.int .i64 pn) := by rw [cell_of_heap hnew, ← hpn]; rfl
              clear hnew hpn
              go_wp2_with fail
              refine (all_any (must_rule (k : Int) true) hcA hv hg.cl).mono ?_
              rintro e w11 ⟨b1, M1, rfl, hM1, hl1, hb11, _⟩
              have hlen1 := hM1.raw.len Try.underlying69 3
              rw [List.length_map] at hlen1
              have hbS := hbA.trans (hb11.mono hbA.size)
              have n2 := cell_stays hb11 n2
              clear k0 k1 k2 k3
              cases hE1 : (truthsBy c (mustRule k true) c.loans c.wrong).isEmpty with
              | true =>
                have hM0 := (map_empty hM1 hl1).2 (List.isEmpty_iff.1 hE1)
                subst hM0
                have HE1 := Lib.hid hE1
                clear hE1
                have hlen1' : (Builtin.len_ #[69] 3 #[.map (some b1)]).run Try.prog w11 = .ok (.int .i64 0) w11 := hlen1
                clear hlen1
                go_wp2_with fail
                refine ⟨?_, ?measure⟩
                (repeat apply Exists.intro)
                refine ⟨?rel, rfl⟩
                case rel => exact ⟨k + 1, by omega, by go_num, by rw [setQ_no c k HE1.out], hbS⟩
                case measure => simp [intOf]; omega
              | false =>
                have hMp : 0 < M1.length := by
                  rcases Nat.eq_zero_or_pos M1.length with h | h
                  · have := (map_empty hM1 hl1).1 (List.length_eq_zero_iff.1 h)
                    rw [this] at hE1
                    cases hE1
                  · exact h
                have HE1 := Lib.hid hE1
                clear hE1
                have hbb : bitsOf (setQ c k) < 2 ^ 62 := setQ_small v4 k hk
                go_wp2_with fail
                have hq := World.alloc_heap_new w11 (.cells #[.int .i64 (bitsOf (setQ c k)), .int .i64 z] 3)
                refine (union_any (bitsOf (setQ c k)) z hbb hzl (by rw [cell_of_heap hq]; rfl) (by rw [cell_of_heap hq]; rfl)).mono ?_
                rintro e w12 ⟨rfl, rfl⟩
                go_wp2_with fail
                refine ⟨?_, ?measure⟩
                (repeat apply Exists.intro)
                refine ⟨?rel, rfl⟩
                case rel =>
                  refine ⟨k + 1, by omega, by go_num, ?_, hbS.alloc hbS.size _⟩
                  rw [setQ_yes c k HK.out HE1.out, bitsOf_snoc, HP.out, Int.toNat_natCast, HZ.out]
                case measure => simp [intOf]; omega
            · have HK : Hid (isBack c k = false) := by unfold Hid isBack; simp [hkind]
              have hkn : ((gl c.loans k).kind == 1) = false := by simp [hkind]
              clear hkind
              go_wp2_with fail
              go_roundw
              case rel => exact ⟨k + 1, by omega, by go_num, by rw [setQ_other c k HK.out], hbA⟩
              case measure => simp [intOf]; omega
          · have hkk : k = c.loans.length := by omega
            subst hkk
            have e5 := (hbr.block (w.heap.size + 1) (by omega)).trans e4
            have ce5 : wr.cell? ⟨w.heap.size + 1, 0, none⟩ = some (.int .i64 0) := by rw [cell_of_heap e5]; rfl
            have fe5 : wr.frozen? ⟨w.heap.size + 1, 0, none⟩ = false := frozen_of_heap e5
            have hBr := hB2.trans (hbr.mono (by omega))
            go_wp2_with fail
            refine leaves_ok (recov70_ok _ _) cf70 (res_ttc rfl _ rfl (World.cell?_setCell_same _ _ _ ce5)) ⟨?_, hBr.setCell (by simp) _⟩
            rw [HW.out, H8.out]
            rfl
  · refine (open_no hg1 (fun _ => hasks) h0 hasks.1).mono ?_
    rintro e w2 ⟨rfl, hb2⟩
    have he2 := (hb2.block (w.heap.size + 1) (by omega)).trans q2
    have hc2 : w2.cell? ⟨w.heap.size + 1, 0, none⟩ = some (.int .i64 0) := by rw [cell_of_heap he2]; rfl
    have hb3 : Below w.heap.size w ((w2.alloc (.cells #[.int .i64 (openE c true)] 105)).setCell ⟨w.heap.size + 1, 0, none⟩ (.int .i64 (openE c true))) := by
      have h2 := hb1.trans (hb2.mono (by omega))
      exact (h2.alloc h2.size _).setCell (by simp) _
    have hcell := World.cell?_setCell_same (w2.alloc (.cells #[.int .i64 (openE c true)] 105)) ⟨w.heap.size + 1, 0, none⟩ (.int .i64 (openE c true)) (cell_stays ((Below.refl _ w2).alloc (Nat.le_refl _) _) hc2)
    refine leaves_no (recov70_no _ hc2 (frozen_of_heap he2)) rfl cf70 (res_ttc rfl _ rfl hcell) ⟨?_, hb3⟩
    unfold peopleE
    rw [if_neg h0]
    rfl
end Go.Proofs.Ytlhobddaojdnoaa
