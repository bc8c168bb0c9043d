/- Blame. -/
import Derived.Test.YtlhobddaojdnoaaW16
namespace Go.Proofs.Ytlhobddaojdnoaa
open Go.RowKit

def isBack (c : Cab) (i : Nat) : Bool := decide ((gl c.loans i).kind = 1)
def setF (c : Cab) (k : Nat) : List Nat := ((List.range k).filter (isBack c)).filter fun i => (truthsBy c (mustRule i false) c.loans c.wrong).isEmpty
def setT (c : Cab) (k : Nat) : List Nat := ((List.range k).filter (isBack c)).filter fun i => !(truthsBy c (mustRule i true) c.loans c.wrong).isEmpty
theorem filt_succ (p q : Nat → Bool) (k : Nat) : ((List.range (k + 1)).filter p).filter q = ((List.range k).filter p).filter q ++ (if p k && q k then [k] else []) := by
  rw [List.range_succ, List.filter_append, List.filter_append]
  congr 1
  cases hp : p k <;> cases hq : q k <;> simp [hp, hq]
theorem setF_other (c : Cab) (k : Nat) (h : isBack c k = false) : setF c (k + 1) = setF c k := by unfold setF; rw [filt_succ, h]; simp
theorem setT_other (c : Cab) (k : Nat) (h : isBack c k = false) : setT c (k + 1) = setT c k := by unfold setT; rw [filt_succ, h]; simp
theorem setF_no (c : Cab) (k : Nat) (h : (truthsBy c (mustRule k false) c.loans c.wrong).isEmpty = false) : setF c (k + 1) = setF c k := by unfold setF; rw [filt_succ, h]; simp
theorem setF_yes (c : Cab) (k : Nat) (h0 : isBack c k = true) (h : (truthsBy c (mustRule k false) c.loans c.wrong).isEmpty = true) : setF c (k + 1) = setF c k ++ [k] := by unfold setF; rw [filt_succ, h0, h]; simp
theorem setT_no (c : Cab) (k : Nat) (h : (truthsBy c (mustRule k true) c.loans c.wrong).isEmpty = true) : setT c (k + 1) = setT c k := by unfold setT; rw [filt_succ, h]; simp
theorem setT_yes (c : Cab) (k : Nat) (h0 : isBack c k = true) (h : (truthsBy c (mustRule k true) c.loans c.wrong).isEmpty = false) : setT c (k + 1) = setT c k ++ [k] := by unfold setT; rw [filt_succ, h0, h]; simp
theorem set_small (k : Nat) (p q : Nat → Bool) (hk : k ≤ 20) : bitsOf (((List.range k).filter p).filter q) < 2 ^ 62 := by
  have : bitsOf (((List.range k).filter p).filter q) < 2 ^ 20 := bitsOf_lt (fun j hj => by
    have := List.mem_range.1 (List.mem_filter.1 (List.mem_filter.1 hj).1).1
    omega)
  omega
theorem blameE_of {c : Cab} (h0 : openE c true = 0) : blameE c = ((bitsOf (setF c c.loans.length) : Int), (bitsOf (setT c c.loans.length) : Int), 0) := by
  unfold blameE
  rw [if_pos h0]
  rfl
theorem cf67 (args : Array Value) (w : World) : (callFunc 67 args).run Try.prog w = .ok (.enter 67 args) w := by simp [callFunc, Try.func67, Try.f67, go_sem]

set_option maxRecDepth 100000 in
set_option maxHeartbeats 2000000 in
theorem blame_any {c : Cab} {w : World} {ah : Option Addr} {ch : Nat} {al : Option Addr} {cl : Nat} (hg : Given w c ah ch al cl) :
    Calls Try.prog 23 #[c.v ah ch al cl] w fun e w' => e = .returned (.tuple #[.int .i64 (blameE c).1, .int .i64 (blameE c).2.1, .int .i64 (blameE c).2.2]) ∧ Below w.heap.size w w' := by
  have hmf : ∀ (fn : Fn) (first cap : Array Value) (w : World), (Instr.makeFunc fn first cap).run Try.prog w = .ok (.func fn first cap) w := fun _ _ _ _ => rfl
  go_enter_defers Try.func23, Try.ntmps23
  go_wp2_with fail
  have hb1 : Below w.heap.size w ((w.alloc (.cells (c.cells ah ch al cl) 25)).alloc (.cells #[.int .i64 0] 28)) := ((Below.refl _ w).alloc (Nat.le_refl _) _).alloc (by simp) _
  have q2 := World.alloc_heap_new (w.alloc (.cells (c.cells ah ch al cl) 25)) (.cells #[.int .i64 0] 28)
  rw [World.size_alloc] at q2
  have hg1 := hg.mono hb1
  have hz1 : ((w.alloc (.cells (c.cells ah ch al cl) 25)).alloc (.cells #[.int .i64 0] 28)).heap.size = w.heap.size + 2 := by simp
  revert hb1 q2 hg1 hz1
  generalize ((w.alloc (.cells (c.cells ah ch al cl) 25)).alloc (.cells #[.int .i64 0] 28)) = w1
  intro hb1 q2 hg1 hz1
  have hasks := asks_always c ah ch al cl w1
  by_cases h0 : openE c true = 0
  · obtain ⟨hv, _, ht⟩ := openE_zero h0
    obtain ⟨v1, v2, v3, v4, v5, v6⟩ := valid_parts hv
    refine (open_ok hg1 (fun _ => hasks) h0 hasks.1).mono ?_
    rintro e w2 ⟨bc, b, M, rfl, hc, _, hb2⟩
    have e4 := (hb2.block (w.heap.size + 1) (by omega)).trans q2
    have hz2 : w.heap.size + 2 ≤ w2.heap.size := by have := hb2.size; omega
    have hB2 : Below w.heap.size w w2 := hb1.trans (hb2.mono (by omega))
    clear hb1 q2 hg1 hz1 hb2 hasks
    have HW : Hid (blameE c = _) := blameE_of h0
    have c3 := hc.l
    have g3 := lt_of_cell c3
    go_wp2_with fail
    go_loopw [2, 3, 21] (fun x y i wr => ∃ k : Nat, k ≤ c.loans.length ∧ i = .int .i64 k ∧ x = .int .i64 (bitsOf (setF c k)) ∧ y = .int .i64 (bitsOf (setT c k)) ∧ Below w2.heap.size w2 wr) (fun _ _ i _ => c.loans.length - (intOf i).toNat)
    case atStart => exact ⟨0, by omega, rfl, rfl, rfl, Below.refl _ _⟩
    case round =>
      obtain ⟨k, hk, rfl, rfl, rfl, hbr⟩ := hrel
      clear c3
      by_cases hlt : k < c.loans.length
      · have hcr := hc.mono hbr
        obtain ⟨bl, ol, rfl, k0, k1, k2, k3⟩ := hcr.li k hlt
        have h100 : (k : Int) ≤ 100 := by omega
        have h101 : (k : Int) < (c.loans.length : Int) := by omega
        have hbA : Below w2.heap.size w2 (wr.alloc (.cells (gl c.loans k).arr 48)) := hbr.alloc hbr.size _
        by_cases hkind : (gl c.loans k).kind = 1
        · have HK : Hid (isBack c k = true) := by unfold Hid isBack; simp [hkind]
          have hcA := hc.mono hbA
          obtain ⟨z, hz⟩ : ∃ z : Nat, 2 ^ k = z := ⟨_, rfl⟩
          have hwr := wrap_two (j := k) (by omega)
          have hzl := two_lt (j := k) (by omega)
          rw [hz] at hwr hzl
          have HZ := Lib.hid hz
          have hkd := Lib.hid hkind
          have hkn : ((gl c.loans k).kind != 1) = false := by simp [hkind]
          clear hz hkind
          go_wp2_with fail
          refine (all_any (must_rule (k : Int) false) hcA hv hg.cl).mono ?_
          rintro e w11 ⟨b1, M1, rfl, hM1, hl1, hb11, _⟩
          have hlen1 := hM1.raw.len Try.underlying69 3
          rw [List.length_map] at hlen1
          have hbS := hbA.trans (hb11.mono hbA.size)
          clear k0 k1 k2 k3
          cases hE1 : (truthsBy c (mustRule k false) c.loans c.wrong).isEmpty with
          | true =>
            have hM0 := (map_empty hM1 hl1).2 (List.isEmpty_iff.1 hE1)
            subst hM0
            have HE1 := Lib.hid hE1
            clear hE1
            have hlen1' : (Builtin.len_ #[69] 3 #[.map (some b1)]).run Try.prog w11 = .ok (.int .i64 0) w11 := hlen1
            clear hlen1
            have hbb : bitsOf (setF c k) < 2 ^ 62 := set_small _ _ _ (by omega)
            go_wp2_with fail
            have hq := World.alloc_heap_new w11 (.cells #[.int .i64 (bitsOf (setF c k)), .int .i64 z] 3)
            refine (union_any (bitsOf (setF c k)) z hbb hzl (by rw [cell_of_heap hq]; rfl) (by rw [cell_of_heap hq]; rfl)).mono ?_
            rintro e w12 ⟨rfl, rfl⟩
            clear hlen1'
            have hbS := hbS.alloc hbS.size (.cells #[.int .i64 (bitsOf (setF c k)), .int .i64 z] 3)
            clear hq
            have hac : (bitsOf (setF c k) ||| z) = bitsOf (setF c (k + 1)) := by rw [setF_yes c k HK.out HE1.out, bitsOf_snoc, HZ.out]
            have HAC := Lib.hid hac
            clear hac
            revert hbS
            generalize w11.alloc (.cells #[.int .i64 (bitsOf (setF c k)), .int .i64 z] 3) = w12
            intro hbS
            have hcs := hc.mono hbS
            go_wp2_with fail
            refine (all_any (must_rule (k : Int) true) hcs hv hg.cl).mono ?_
            rintro e w13 ⟨b2, M2, rfl, hM2, hl2, hb13, _⟩
            have hlen2 := hM2.raw.len Try.underlying69 3
            rw [List.length_map] at hlen2
            have hbT := hbS.trans (hb13.mono hbS.size)
            cases hE2 : (truthsBy c (mustRule k true) c.loans c.wrong).isEmpty with
            | true =>
              have hM0 := (map_empty hM2 hl2).2 (List.isEmpty_iff.1 hE2)
              subst hM0
              have HE2 := Lib.hid hE2
              clear hE2
              have hlen2' : (Builtin.len_ #[69] 3 #[.map (some b2)]).run Try.prog w13 = .ok (.int .i64 0) w13 := hlen2
              clear hlen2
              go_wp2_with fail
              go_roundw
              case rel =>
                refine ⟨k + 1, by omega, by go_num, by rw [HAC.out], ?_, hbT⟩
                rw [setT_no c k HE2.out]
              case measure => simp [intOf]; omega
            | false =>
              have hMp : 0 < M2.length := by
                rcases Nat.eq_zero_or_pos M2.length with h | h
                · have := (map_empty hM2 hl2).1 (List.length_eq_zero_iff.1 h)
                  rw [this] at hE2
                  cases hE2
                · exact h
              have HE2 := Lib.hid hE2
              clear hE2
              have hbb2 : bitsOf (setT c k) < 2 ^ 62 := set_small _ _ _ (by omega)
              go_wp2_with fail
              have hq := World.alloc_heap_new w13 (.cells #[.int .i64 (bitsOf (setT c k)), .int .i64 z] 3)
              refine (union_any (bitsOf (setT c k)) z hbb2 hzl (by rw [cell_of_heap hq]; rfl) (by rw [cell_of_heap hq]; rfl)).mono ?_
              rintro e w14 ⟨rfl, rfl⟩
              go_wp2_with fail
              go_roundw
              case rel =>
                refine ⟨k + 1, by omega, by go_num, by rw [HAC.out], ?_, hbT.alloc hbT.size _⟩
                rw [setT_yes c k HK.out HE2.out, bitsOf_snoc, HZ.out]
              case measure => simp [intOf]; omega
          | false =>
            have hMp1 : (M1.length : Int) ≠ 0 := by
              intro h
              have := (map_empty hM1 hl1).1 (List.length_eq_zero_iff.1 (by omega))
              rw [this] at hE1
              cases hE1
            have hMb : ((M1.length : Int) == 0) = false := by simpa using hMp1
            have HE1 := Lib.hid hE1
            clear hE1 hMp1
            have hcs := hc.mono hbS
            go_wp2_with fail
            refine (all_any (must_rule (k : Int) true) hcs hv hg.cl).mono ?_
            rintro e w13 ⟨b2, M2, rfl, hM2, hl2, hb13, _⟩
            have hlen2 := hM2.raw.len Try.underlying69 3
            rw [List.length_map] at hlen2
            have hbT := hbS.trans (hb13.mono hbS.size)
            cases hE2 : (truthsBy c (mustRule k true) c.loans c.wrong).isEmpty with
            | true =>
              have hM0 := (map_empty hM2 hl2).2 (List.isEmpty_iff.1 hE2)
              subst hM0
              have HE2 := Lib.hid hE2
              clear hE2
              have hlen2' : (Builtin.len_ #[69] 3 #[.map (some b2)]).run Try.prog w13 = .ok (.int .i64 0) w13 := hlen2
              clear hlen2
              go_wp2_with fail
              go_roundw
              case rel =>
                refine ⟨k + 1, by omega, by go_num, by rw [setF_no c k HE1.out], ?_, hbT⟩
                rw [setT_no c k HE2.out]
              case measure => simp [intOf]; omega
            | false =>
              have hMp : 0 < M2.length := by
                rcases Nat.eq_zero_or_pos M2.length with h | h
                · have := (map_empty hM2 hl2).1 (List.length_eq_zero_iff.1 h)
                  rw [this] at hE2
                  cases hE2
                · exact h
              have HE2 := Lib.hid hE2
              clear hE2
              have hbb2 : bitsOf (setT c k) < 2 ^ 62 := set_small _ _ _ (by omega)
              go_wp2_with fail
              have hq := World.alloc_heap_new w13 (.cells #[.int .i64 (bitsOf (setT c k)), .int .i64 z] 3)
              refine (union_any (bitsOf (setT c k)) z hbb2 hzl (by rw [cell_of_heap hq]; rfl) (by rw [cell_of_heap hq]; rfl)).mono ?_
              rintro e w14 ⟨rfl, rfl⟩
              go_wp2_with fail
              go_roundw
              case rel =>
                refine ⟨k + 1, by omega, by go_num, by rw [setF_no c k HE1.out], ?_, hbT.alloc hbT.size _⟩
                rw [setT_yes c k HK.out HE2.out, bitsOf_snoc, HZ.out]
              case measure => simp [intOf]; omega
        · have HK : Hid (isBack c k = false) := by unfold Hid isBack; simp [hkind]
          have hkn : ((gl c.loans k).kind != 1) = true := by simp [hkind]
          clear hkind
          go_wp2_with fail
          go_roundw
          case rel => exact ⟨k + 1, by omega, by go_num, by rw [setF_other c k HK.out], by rw [setT_other c k HK.out], hbA⟩
          case measure => simp [intOf]; omega
      · have hkk : k = c.loans.length := by omega
        subst hkk
        have e5 := (hbr.block (w.heap.size + 1) (by omega)).trans e4
        have ce5 : wr.cell? ⟨w.heap.size + 1, 0, none⟩ = some (.int .i64 0) := by rw [cell_of_heap e5]; rfl
        have fe5 : wr.frozen? ⟨w.heap.size + 1, 0, none⟩ = false := frozen_of_heap e5
        have hBr := hB2.trans (hbr.mono (by omega))
        go_wp2_with fail
        refine leaves_ok (recov67_ok _ _) cf67 (res_ttc rfl _ rfl (World.cell?_setCell_same _ _ _ ce5)) ⟨?_, hBr.setCell (by simp) _⟩
        rw [HW.out]
        rfl
  · refine (open_no hg1 (fun _ => hasks) h0 hasks.1).mono ?_
    rintro e w2 ⟨rfl, hb2⟩
    have he2 := (hb2.block (w.heap.size + 1) (by omega)).trans q2
    have hc2 : w2.cell? ⟨w.heap.size + 1, 0, none⟩ = some (.int .i64 0) := by rw [cell_of_heap he2]; rfl
    have hb3 : Below w.heap.size w ((w2.alloc (.cells #[.int .i64 (openE c true)] 105)).setCell ⟨w.heap.size + 1, 0, none⟩ (.int .i64 (openE c true))) := by
      have h2 := hb1.trans (hb2.mono (by omega))
      exact (h2.alloc h2.size _).setCell (by simp) _
    have hcell := World.cell?_setCell_same (w2.alloc (.cells #[.int .i64 (openE c true)] 105)) ⟨w.heap.size + 1, 0, none⟩ (.int .i64 (openE c true)) (cell_stays ((Below.refl _ w2).alloc (Nat.le_refl _) _) hc2)
    refine leaves_no (recov67_no _ hc2 (frozen_of_heap he2)) rfl cf67 (res_ttc rfl _ rfl hcell) ⟨?_, hb3⟩
    unfold blameE
    rw [if_neg h0]
    rfl
end Go.Proofs.Ytlhobddaojdnoaa
