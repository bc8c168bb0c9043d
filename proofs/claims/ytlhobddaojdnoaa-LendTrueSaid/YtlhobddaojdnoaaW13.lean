/- Check. -/
import Derived.Test.YtlhobddaojdnoaaW12
namespace Go.Proofs.Ytlhobddaojdnoaa
open Go.RowKit

/-- What a caller hands in. -/
structure Given (w : World) (c : Cab) (ah : Option Addr) (ch : Nat) (al : Option Addr) (cl : Nat) : Prop where
  hi : IsInts w ah c.homes
  li : IsLoans w al c.loans
  hh : c.homes.length ≤ 16
  hl : c.loans.length ≤ 30
  cl : c.loans.length ≤ cl
theorem Given.mono {w w' : World} {c : Cab} {ah : Option Addr} {ch : Nat} {al : Option Addr} {cl : Nat} (h : Given w c ah ch al cl) (hb : Below w.heap.size w w') : Given w' c ah ch al cl :=
  ⟨h.hi.mono hb, h.li.mono hb, h.hh, h.hl, h.cl⟩
theorem cf46 (args : Array Value) (w : World) : (callFunc 46 args).run Try.prog w = .ok (.enter 46 args) w := by simp [callFunc, Try.func46, Try.f46, go_sem]

set_option maxRecDepth 100000 in
set_option maxHeartbeats 1000000 in
theorem check_any {c : Cab} {w : World} {ah : Option Addr} {ch : Nat} {al : Option Addr} {cl : Nat} (hg : Given w c ah ch al cl) :
    Calls Try.prog 15 #[c.v ah ch al cl] w fun e w' => e = .returned (.tuple #[.int .i64 (check c).1, .int .i64 (check c).2]) ∧ Below w.heap.size w w' := by
  have hmf : ∀ (fn : Fn) (first cap : Array Value) (w : World), (Instr.makeFunc fn first cap).run Try.prog w = .ok (.func fn first cap) w := fun _ _ _ _ => rfl
  go_enter_defers Try.func15, Try.ntmps15
  have hb1 : Below w.heap.size w ((w.alloc (.cells (c.cells ah ch al cl) 25)).alloc (.cells #[.int .i64 0] 28)) := ((Below.refl _ w).alloc (Nat.le_refl _) _).alloc (by simp) _
  have hz1 : ((w.alloc (.cells (c.cells ah ch al cl) 25)).alloc (.cells #[.int .i64 0] 28)).heap.size = w.heap.size + 2 := by simp
  have he1 : ((w.alloc (.cells (c.cells ah ch al cl) 25)).alloc (.cells #[.int .i64 0] 28)).heap[w.heap.size + 1]? = some (.cells #[.int .i64 0] 28 (0, 0)) := by
    have := World.alloc_heap_new (w.alloc (.cells (c.cells ah ch al cl) 25)) (.cells #[.int .i64 0] 28)
    rwa [World.size_alloc] at this
  have hg1 := hg.mono hb1
  cases hv : c.valid with
  | false =>
    go_wp2_with fail
    refine (look_no hg1.hi hg1.li hg1.hh hg1.hl hv).mono ?_
    rintro e w2 ⟨rfl, hb2⟩
    have he2 := (hb2.block (w.heap.size + 1) (by omega)).trans he1
    have hc2 : w2.cell? ⟨w.heap.size + 1, 0, none⟩ = some (.int .i64 0) := by rw [cell_of_heap he2]; rfl
    have hb3 : Below w.heap.size w ((w2.alloc (.cells #[.int .i64 1] 105)).setCell ⟨w.heap.size + 1, 0, none⟩ (.int .i64 1)) := by
      have h2 := hb1.trans (hb2.mono (by omega))
      exact (h2.alloc h2.size _).setCell (by simp) _
    have hcell : ((w2.alloc (.cells #[.int .i64 1] 105)).setCell ⟨w.heap.size + 1, 0, none⟩ (.int .i64 1)).cell? ⟨w.heap.size + 1, 0, none⟩ = some (.int .i64 1) :=
      World.cell?_setCell_same _ _ _ (cell_stays ((Below.refl _ w2).alloc (Nat.le_refl _) _) hc2)
    refine leaves_no (recov46_no 1 hc2 (frozen_of_heap he2)) rfl cf46 (res_tc rfl _ rfl hcell) ⟨?_, hb3⟩
    unfold check
    rw [hv]
    rfl
  | true =>
    obtain ⟨v1, v2, v3, v4, v5, v6⟩ := valid_parts hv
    go_wp2_with fail
    refine (look_yes hg1.hi hg1.li hg1.hh hg1.hl hv).mono ?_
    rintro e w2 ⟨bc, rfl, hbc, hc, hb2⟩
    have he2 := (hb2.block (w.heap.size + 1) (by omega)).trans he1
    have hB2 := hb1.trans (hb2.mono (by omega))
    have l2 := hc.l
    have hbc2 := lt_of_cell l2
    have hz2 : w.heap.size + 2 ≤ w2.heap.size := by have := hb2.size; omega
    clear hb1 hz1 he1 hg1 hb2
    go_wp2_with fail
    go_loopw [15] (fun i wr => ∃ k : Nat, k ≤ c.loans.length ∧ i = .int .i64 k ∧ Below w2.heap.size w2 wr ∧ check c = checkFrom c (c.loans.length - k) k) (fun i _ => c.loans.length - (intOf i).toNat)
    case atStart => exact ⟨0, by omega, rfl, Below.refl _ _, by unfold check; rw [hv]; rfl⟩
    case round =>
      obtain ⟨k, hk, rfl, hbr, hck⟩ := hrel
      have her := (hbr.block (w.heap.size + 1) (by omega)).trans he2
      have cer : wr.cell? ⟨w.heap.size + 1, 0, none⟩ = some (.int .i64 0) := by rw [cell_of_heap her]; rfl
      have fer : wr.frozen? ⟨w.heap.size + 1, 0, none⟩ = false := frozen_of_heap her
      have hBr := hB2.trans (hbr.mono hB2.size)
      by_cases hlt : k < c.loans.length
      · have hcr := hc.mono hbr
        have gr := hcr.g
        have hp := play_valid anything_rule hcr hv hg.cl (k + 1) (by omega) c.wrong ⟨v6.1, by omega⟩
        rw [show ((k + 1 : Nat) : Int) = (k : Int) + 1 from by omega] at hp
        have h100 : (k : Int) ≤ 100 := by omega
        have h101 : (k : Int) < (c.loans.length : Int) := by omega
        go_wp2_with fail
        refine hp.mono ?_
        rintro e w3 ⟨b, M, rfl, hM, hl, hb3, _⟩
        have hlen := hM.raw.len Try.underlying69 3
        rw [List.length_map] at hlen
        have hB3 := hBr.trans (hb3.mono hBr.size)
        have he3 := (hb3.block (w.heap.size + 1) (Array.getElem?_eq_some_iff.1 her).1).trans her
        have ce3 : w3.cell? ⟨w.heap.size + 1, 0, none⟩ = some (.int .i64 0) := by rw [cell_of_heap he3]; rfl
        have fe3 : w3.frozen? ⟨w.heap.size + 1, 0, none⟩ = false := frozen_of_heap he3
        have hstep : check c = if (truthsBy c anyRule (c.loans.take (k + 1)) c.wrong).isEmpty then ((k : Int), 0) else checkFrom c (c.loans.length - (k + 1)) (k + 1) := by
          rw [hck, show c.loans.length - k = (c.loans.length - (k + 1)) + 1 by omega, checkFrom]
        clear hp cer fer her hck
        cases hE : (truthsBy c anyRule (c.loans.take (k + 1)) c.wrong).isEmpty with
        | true =>
          have hM0 := (map_empty hM hl).2 (List.isEmpty_iff.1 hE)
          subst hM0
          have HS := Lib.hid hstep
          have HE := Lib.hid hE
          clear hstep hE
          have hlen' : (Builtin.len_ #[69] 3 #[.map (some b)]).run Try.prog w3 = .ok (.int .i64 0) w3 := hlen
          clear hlen
          go_wp2_with fail
          refine leaves_ok (recov46_ok _ _) cf46 (res_tc rfl _ rfl (World.cell?_setCell_same _ _ _ ce3)) ⟨?_, hB3.setCell (by simp) _⟩
          rw [HS.out, HE.out]
          rfl
        | false =>
          have hM0 : (M.length : Int) ≠ 0 := by
            intro h
            have h0 : M = [] := List.length_eq_zero_iff.1 (by omega)
            have := (map_empty hM hl).1 h0
            rw [this] at hE
            cases hE
          have hMb : ((M.length : Int) == 0) = false := by simpa using hM0
          have HS := Lib.hid (hstep.trans (by rw [hE]; rfl) : check c = checkFrom c (c.loans.length - (k + 1)) (k + 1))
          clear hstep hE hM0
          go_wp2_with fail
          go_roundw
          case rel => exact ⟨k + 1, by omega, by go_num, hbr.trans (hb3.mono hbr.size), HS.out⟩
          case measure => simp [intOf]; omega
      · have hkk : k = c.loans.length := by omega
        have HS : Hid (check c = (0, 4)) := by unfold Hid; rw [hck, hkk, Nat.sub_self]; rfl
        clear hck
        subst hkk
        go_wp2_with fail
        refine leaves_ok (recov46_ok _ _) cf46 (res_tc rfl _ rfl (World.cell?_setCell_same _ _ _ cer)) ⟨?_, hBr.setCell (by simp) _⟩
        rw [HS.out]
        rfl
end Go.Proofs.Ytlhobddaojdnoaa
