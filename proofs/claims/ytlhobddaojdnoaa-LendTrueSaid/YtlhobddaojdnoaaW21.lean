/- Next. -/
import Derived.Test.YtlhobddaojdnoaaW20
namespace Go.Proofs.Ytlhobddaojdnoaa
open Go.RowKit

theorem nextFrom_perm {L L' : List (List Int)} (h : L.Perm L') : ∀ (f s b l : Nat), nextFrom L f s b l = nextFrom L' f s b l
  | 0, _, _, _ => rfl
  | f + 1, s, b, l => by
    unfold nextFrom
    rw [worst_perm h, nextFrom_perm h f, nextFrom_perm h f]
theorem Reached.perm {c : Cab} {n0 b : Nat} {M : List (List Int × Int)} {w : World} (h : Reached c anyRule n0 b M w) : (M.map (·.1)).Perm (states c) := by
  refine states_perm h.map.keys (fun t => ?_)
  have := h.keys t
  rw [List.mem_map]
  constructor
  · rintro ⟨p, hp, rfl⟩; exact this.1 ⟨p.2, hp⟩
  · intro hx; obtain ⟨n, hn⟩ := this.2 hx; exact ⟨_, hn, rfl⟩
theorem nextE_few {c : Cab} (h0 : openE c true = 0) {n0 b : Nat} {M : List (List Int × Int)} {w : World} (hR : Reached c anyRule n0 b M w) (hl : M.length ≤ 1) : nextE c = (0, 0, 4) := by
  have hp := hR.perm.length_eq
  rw [List.length_map] at hp
  unfold nextE
  rw [if_pos h0]
  simp only [← hp]
  rw [if_pos hl]
theorem nextE_more {c : Cab} (h0 : openE c true = 0) {n0 b : Nat} {M : List (List Int × Int)} {w : World} (hR : Reached c anyRule n0 b M w) (hl : ¬ M.length ≤ 1) :
    nextE c = ((nextFrom (M.map (·.1)) c.slots.toNat 0 0 (M.length + 1)).1, (nextFrom (M.map (·.1)) c.slots.toNat 0 0 (M.length + 1)).2, 0) := by
  have hp := hR.perm.length_eq
  rw [List.length_map] at hp
  unfold nextE
  rw [if_pos h0]
  simp only [← hp, nextFrom_perm hR.perm]
  rw [if_neg hl]
theorem cf74 (args : Array Value) (w : World) : (callFunc 74 args).run Try.prog w = .ok (.enter 74 args) w := by simp [callFunc, Try.func74, Try.f74, go_sem]

set_option maxRecDepth 100000 in
set_option maxHeartbeats 2000000 in
theorem next_any {c : Cab} {w : World} {ah : Option Addr} {ch : Nat} {al : Option Addr} {cl : Nat} (hg : Given w c ah ch al cl) :
    Calls Try.prog 29 #[c.v ah ch al cl] w fun e w' => e = .returned (.tuple #[.int .i64 (nextE c).1, .int .i64 (nextE c).2.1, .int .i64 (nextE c).2.2]) ∧ Below w.heap.size w w' := by
  have hmf : ∀ (fn : Fn) (first cap : Array Value) (w : World), (Instr.makeFunc fn first cap).run Try.prog w = .ok (.func fn first cap) w := fun _ _ _ _ => rfl
  go_enter_defers Try.func29, Try.ntmps29
  go_wp2_with fail
  have hb1 : Below w.heap.size w ((w.alloc (.cells (c.cells ah ch al cl) 25)).alloc (.cells #[.int .i64 0] 28)) := ((Below.refl _ w).alloc (Nat.le_refl _) _).alloc (by simp) _
  have q2 := World.alloc_heap_new (w.alloc (.cells (c.cells ah ch al cl) 25)) (.cells #[.int .i64 0] 28)
  rw [World.size_alloc] at q2
  have hg1 := hg.mono hb1
  have hz1 : ((w.alloc (.cells (c.cells ah ch al cl) 25)).alloc (.cells #[.int .i64 0] 28)).heap.size = w.heap.size + 2 := by simp
  revert hb1 q2 hg1 hz1
  generalize ((w.alloc (.cells (c.cells ah ch al cl) 25)).alloc (.cells #[.int .i64 0] 28)) = w1
  intro hb1 q2 hg1 hz1
  have hasks := asks_always c ah ch al cl w1
  by_cases h0 : openE c true = 0
  · obtain ⟨hv, _, ht⟩ := openE_zero h0
    obtain ⟨v1, v2, v3, v4, v5, v6⟩ := valid_parts hv
    refine (open_ok hg1 (fun _ => hasks) h0 hasks.1).mono ?_
    rintro e w2 ⟨bc, b, M, rfl, hc, hR, hb2⟩
    have e4 := (hb2.block (w.heap.size + 1) (by omega)).trans q2
    have hz2 : w.heap.size + 2 ≤ w2.heap.size := by have := hb2.size; omega
    have hB2 : Below w.heap.size w w2 := hb1.trans (hb2.mono (by omega))
    clear hb1 q2 hg1 hz1 hb2 hasks
    have hbb : Below w2.heap.size w2 ((w2.alloc (.cells #[.pointer (some ⟨bc, 0, none⟩)] 64)).alloc (.cells #[.map (some b)] 69)) := ((Below.refl _ w2).alloc (Nat.le_refl _) _).alloc (by simp) _
    have m1 := heap_alloc2_0 w2 (.cells #[.pointer (some ⟨bc, 0, none⟩)] 64) (.cells #[.map (some b)] 69)
    have m2 := World.alloc_heap_new (w2.alloc (.cells #[.pointer (some ⟨bc, 0, none⟩)] 64)) (.cells #[.map (some b)] 69)
    rw [World.size_alloc] at m2
    have hlen := (hR.map.raw.kept (hbb.block b hR.map.lt)).len Try.underlying69 3
    rw [List.length_map] at hlen
    have hroom := hR.map.room v1
    have hrm : (M.length : Int) ≤ 16807 := by omega
    by_cases hfew : M.length ≤ 1
    · have HN := Lib.hid (nextE_few h0 hR hfew)
      have hn1 : ¬ 1 < M.length := by omega
      clear hfew
      go_wp2_with fail
      rw [show decide ((1 : Int) < (M.length : Int)) = false from decide_eq_false (by omega)]
      refine (need_no _ _).mono ?_
      rintro e w3 ⟨rfl, rfl⟩
      have he2 := (hbb.block (w.heap.size + 1) (by omega)).trans e4
      revert hbb he2
      generalize (w2.alloc (.cells #[.pointer (some ⟨bc, 0, none⟩)] 64)).alloc (.cells #[.map (some b)] 69) = w3
      intro hbb he2
      have hc2 : w3.cell? ⟨w.heap.size + 1, 0, none⟩ = some (.int .i64 0) := by rw [cell_of_heap he2]; rfl
      have hb3 : Below w.heap.size w ((w3.alloc (.cells #[.int .i64 4] 105)).setCell ⟨w.heap.size + 1, 0, none⟩ (.int .i64 4)) := by
        have h2 := hB2.trans (hbb.mono (by omega))
        exact (h2.alloc h2.size _).setCell (by simp) _
      have hcell := World.cell?_setCell_same (w3.alloc (.cells #[.int .i64 4] 105)) ⟨w.heap.size + 1, 0, none⟩ (.int .i64 4) (cell_stays ((Below.refl _ w3).alloc (Nat.le_refl _) _) hc2)
      refine leaves_no (recov74_no _ hc2 (frozen_of_heap he2)) rfl cf74 (res_ttc rfl _ rfl hcell) ⟨?_, hb3⟩
      rw [HN.out]
      rfl
    · have HN := Lib.hid (nextE_more h0 hR hfew)
      have hn1 : 1 < M.length := by omega
      clear hfew
      go_wp2_with fail
      rw [show decide ((1 : Int) < (M.length : Int)) = true from decide_eq_true (by omega)]
      refine (need_yes _ _).mono ?_
      rintro e w3 ⟨rfl, rfl⟩
      have hcA := hc.mono hbb
      have hMA := hR.map.kept (hbb.block b hR.map.lt)
      have cm : ((w2.alloc (.cells #[.pointer (some ⟨bc, 0, none⟩)] 64)).alloc (.cells #[.map (some b)] 69)).cell? ⟨w2.heap.size + 1, 0, none⟩ = some (.map (some b)) := by rw [cell_of_heap m2]; rfl
      have cp : ((w2.alloc (.cells #[.pointer (some ⟨bc, 0, none⟩)] 64)).alloc (.cells #[.map (some b)] 69)).cell? ⟨w2.heap.size, 0, none⟩ = some (.pointer (some ⟨bc, 0, none⟩)) := by rw [cell_of_heap m1]; rfl
      have hBA := hB2.trans (hbb.mono (by omega))
      have e5 := (hbb.block (w.heap.size + 1) (by omega)).trans e4
      have hz5 : w.heap.size + 2 ≤ ((w2.alloc (.cells #[.pointer (some ⟨bc, 0, none⟩)] 64)).alloc (.cells #[.map (some b)] 69)).heap.size := by simp; omega
      clear hbb m1 m2 hc e4 hB2
      revert hcA hMA cm cp hBA e5 hz5 hlen
      generalize (w2.alloc (.cells #[.pointer (some ⟨bc, 0, none⟩)] 64)).alloc (.cells #[.map (some b)] 69) = w3
      intro hlen hcA hMA cm cp hBA e5 hz5
      obtain ⟨N, hN⟩ : ∃ N : Nat, c.slots = (N : Int) := ⟨c.slots.toNat, by omega⟩
      have sA := hcA.s
      rw [hN] at sA
      have hN6 : N ≤ 6 := by omega
      have HNN := Lib.hid hN
      clear hN
      go_wp2_with fail
      go_loopw [2, 3, 29] (fun x y i wr => ∃ k best left : Nat, k ≤ N ∧ i = .int .i64 k ∧ x = .int .i64 best ∧ y = .int .i64 left ∧ Below w3.heap.size w3 wr ∧ nextFrom (M.map (·.1)) N 0 0 (M.length + 1) = nextFrom (M.map (·.1)) (N - k) k best left) (fun _ _ i _ => N - (intOf i).toNat)
      case atStart => exact ⟨0, 0, M.length + 1, by omega, rfl, rfl, by go_num, Below.refl _ _, rfl⟩
      case round =>
        obtain ⟨k, best, left, hk, rfl, rfl, rfl, hbr, hnf⟩ := hrel
        have HF := Lib.hid hnf
        clear hnf
        by_cases hlt : k < N
        · have h101 : (k : Int) < (N : Int) := by omega
          have h100 : (k : Int) ≤ 100 := by omega
          go_wp2_with fail
          refine (worst_any (hcA.mono hbr) v1 (hMA.kept (hbr.block b hMA.lt)) (cell_stays hbr cm) (cell_stays hbr cp) (k : Int)).mono ?_
          rintro e w12 ⟨rfl, hb12⟩
          have hbs := hbr.trans (hb12.mono hbr.size)
          obtain ⟨ws, hws⟩ : ∃ ws : Nat, worst (M.map (·.1)) (k : Int) = ws := ⟨_, rfl⟩
          have HS : Hid (nextFrom (M.map (·.1)) (N - k) k best left = if ws < left then nextFrom (M.map (·.1)) (N - (k + 1)) (k + 1) k ws else nextFrom (M.map (·.1)) (N - (k + 1)) (k + 1) best left) := by
            unfold Hid
            rw [show N - k = (N - (k + 1)) + 1 by omega, nextFrom, hws]
          rw [hws]
          clear hws
          by_cases hl : ws < left
          · have hl' : (ws : Int) < (left : Int) := by omega
            have HX := Lib.hid hl
            clear hl
            go_wp2_with fail
            go_roundw
            case rel => exact ⟨k + 1, k, ws, by omega, by go_num, rfl, rfl, hbs, by rw [HF.out, HS.out, if_pos HX.out]⟩
            case measure => simp [intOf]; omega
          · have hl' : (left : Int) ≤ (ws : Int) := by omega
            have HX := Lib.hid hl
            clear hl
            go_wp2_with fail
            go_roundw
            case rel => exact ⟨k + 1, best, left, by omega, by go_num, rfl, rfl, hbs, by rw [HF.out, HS.out, if_neg HX.out]⟩
            case measure => simp [intOf]; omega
        · have hkk : k = N := by omega
          subst hkk
          have e6 := (hbr.block (w.heap.size + 1) (by omega)).trans e5
          have ce5 : wr.cell? ⟨w.heap.size + 1, 0, none⟩ = some (.int .i64 0) := by rw [cell_of_heap e6]; rfl
          have fe5 : wr.frozen? ⟨w.heap.size + 1, 0, none⟩ = false := frozen_of_heap e6
          have hBr := hBA.trans (hbr.mono (by omega))
          go_wp2_with fail
          refine leaves_ok (recov74_ok _ _) cf74 (res_ttc rfl _ rfl (World.cell?_setCell_same _ _ _ ce5)) ⟨?_, hBr.setCell (by simp) _⟩
          rw [HN.out, HNN.out, Int.toNat_natCast, HF.out, Nat.sub_self]
          rfl
  · refine (open_no hg1 (fun _ => hasks) h0 hasks.1).mono ?_
    rintro e w2 ⟨rfl, hb2⟩
    have he2 := (hb2.block (w.heap.size + 1) (by omega)).trans q2
    have hc2 : w2.cell? ⟨w.heap.size + 1, 0, none⟩ = some (.int .i64 0) := by rw [cell_of_heap he2]; rfl
    have hb3 : Below w.heap.size w ((w2.alloc (.cells #[.int .i64 (openE c true)] 105)).setCell ⟨w.heap.size + 1, 0, none⟩ (.int .i64 (openE c true))) := by
      have h2 := hb1.trans (hb2.mono (by omega))
      exact (h2.alloc h2.size _).setCell (by simp) _
    have hcell := World.cell?_setCell_same (w2.alloc (.cells #[.int .i64 (openE c true)] 105)) ⟨w.heap.size + 1, 0, none⟩ (.int .i64 (openE c true)) (cell_stays ((Below.refl _ w2).alloc (Nat.le_refl _) _) hc2)
    refine leaves_no (recov74_no _ hc2 (frozen_of_heap he2)) rfl cf74 (res_ttc rfl _ rfl hcell) ⟨?_, hb3⟩
    unfold nextE
    rw [if_neg h0]
    rfl
end Go.Proofs.Ytlhobddaojdnoaa
