/- What can follow when a card is put back: the iterator. -/
import Derived.Test.YtlhobddaojdnoaaW7
namespace Go.Proofs.Ytlhobddaojdnoaa
open Go.RowKit

/-- What putting card k back into slot j comes to. -/
def backF (c : Cab) (s : List Int) (k j : Nat) : Option (List Int × Bool) :=
  if lies s (j : Int) = -1 then some (s.set k (j : Int), !decide ((j : Int) = gi c.homes k)) else none
theorem step_back (c : Cab) (s : List Int) (k : Nat) (lp ls : Int) (h : gi s k = -1) : step c s ⟨1, k, lp, ls⟩ = (List.range c.slots.toNat).filterMap (backF c s k) := by
  have e : ((k : Int)).toNat = k := rfl
  simp only [step, e, h]
  rfl

theorem stL_get (s : List Int) (k : Nat) (h : k < 5) : ([.int .i64 (gi s 0), .int .i64 (gi s 1), .int .i64 (gi s 2), .int .i64 (gi s 3), .int .i64 (gi s 4)] : List Value)[k]? = some (.int .i64 (gi s k)) := by
  match k, h with
  | 0, _ | 1, _ | 2, _ | 3, _ | 4, _ => rfl
theorem filterMap_range_at {α : Type} {f : Nat → Option α} {j n : Nat} {x : α} (h : j < n) (hf : f j = some x) : ((List.range n).filterMap f)[((List.range j).filterMap f).length]? = some x := by
  have e : List.range n = List.range (j + 1) ++ (List.range n).drop (j + 1) := by
    have := (List.take_append_drop (j + 1) (List.range n)).symm
    rwa [List.take_range, Nat.min_eq_left (by omega)] at this
  rw [e, List.range_succ, List.filterMap_append, List.filterMap_append]
  simp [hf]

set_option maxRecDepth 100000 in
set_option maxHeartbeats 2000000 in
theorem back_iter (c : Cab) (s : List Int) (k : Nat) (lp ls : Int) {bc : Nat} {ah : Option Addr} {ch : Nat} {al : Option Addr} {cl : Nat} {bp bs bl : Nat} {W : World} (O M : Nat → Prop)
    (hc : ∀ W', Same M W W' → CabP W' bc c ah ch al cl) (hp : W.heap[bp]? = some (.cells #[.pointer (some ⟨bc, 0, none⟩)] 64 (0, 0)))
    (hs : W.heap[bs]? = some (.cells (stA s) 78 (0, 0))) (hl : W.heap[bl]? = some (.cells (Ln.arr ⟨1, k, lp, ls⟩) 48 (0, 0))) (hMp : ¬ M bp) (hMs : ¬ M bs) (hMl : ¬ M bl)
    (hn : c.homes.length ≤ 5) (hsl : s.length = c.homes.length) (hk : k < s.length) (hslots : 0 ≤ c.slots ∧ c.slots ≤ 100) :
    IterOk Try.prog 99 #[.pointer (some ⟨bs, 0, none⟩), .pointer (some ⟨bl, 0, none⟩), .pointer (some ⟨bp, 0, none⟩)] ((step c s ⟨1, k, lp, ls⟩).map encSt) O M W := by
  intro l J Jx hJ hJx hY h0
  have c1 : W.cell? ⟨bl, 1, none⟩ = some (.int .i64 k) := by rw [cell_of_heap hl]; rfl
  have c2 : W.cell? ⟨bs, k, none⟩ = some (.int .i64 (gi s k)) := by rw [cell_of_heap hs]; exact stA_get s k (by omega)
  by_cases hg : gi s k = -1
  · have hE := step_back c s k lp ls hg
    have HE := Lib.hid hE
    have hg' : (gi s k != -1) = false := by simp [hg]
    have c0 : W.cell? ⟨bp, 0, none⟩ = some (.pointer (some ⟨bc, 0, none⟩)) := by rw [cell_of_heap hp]; rfl
    have d0 := (hc W (Same.refl _ _)).s
    obtain ⟨n, hsn⟩ : ∃ n : Nat, c.slots = (n : Int) := ⟨c.slots.toNat, by omega⟩
    have hn100 : n ≤ 100 := by omega
    rw [hsn] at d0
    clear hE hg
    refine callsIn_wide.2 ?_
    go_enter Try.func99, Try.ntmps99
    go_wp2
    go_step3
    go_wp2
    go_step3
    go_wp2
    go_loopw [17] (fun i wr => ∃ j : Nat, j ≤ n ∧ i = .int .i64 j ∧ Same M W wr ∧ J ((List.range j).filterMap (backF c s k)).length wr) (fun i _ => n - (intOf i).toNat)
    case atStart => exact ⟨0, by omega, rfl, Same.refl _ _, h0⟩
    case round =>
      obtain ⟨j, hj, rfl, hSr, hJr⟩ := hrel
      by_cases hlt : j < n
      · have hcr := hc _ hSr
        have r0 := hSr.cell c0 hMp
        have hsr := (hSr.block bs (Array.getElem?_eq_some_iff.1 hs).1 hMs).trans hs
        obtain ⟨d0, d1, d2, d3, d4⟩ := five hsr
        have r1 := hSr.cell c1 hMl
        have hstep : Hid ((List.range (j + 1)).filterMap (backF c s k) = (List.range j).filterMap (backF c s k) ++ (backF c s k j).toList) := by
          unfold Hid; rw [List.range_succ, List.filterMap_append]; cases h : backF c s k j <;> simp [h]
        go_wp2_with fail
        refine (lies_any s (j : Int) hcr hn hsl).mono ?_
        rintro e w2 ⟨rfl, hb2⟩
        have hS2 := hSr.trans (Same.of_below M hb2)
        have hJ2 := hJ _ _ _ hJr (Same.of_below O hb2)
        by_cases hli : lies s (j : Int) = -1
        · have hli' : (lies s (j : Int) != -1) = false := by simp [hli]
          have hbf : Hid (backF c s k j = some (s.set k (j : Int), !decide ((j : Int) = gi c.homes k))) := by unfold Hid backF; rw [if_pos hli]
          have q0 := hS2.cell c0 hMp
          have q1 := hS2.cell c1 hMl
          have hs2 := (hS2.block bs (Array.getElem?_eq_some_iff.1 hs).1 hMs).trans hs
          obtain ⟨e0, e1, e2, e3, e4⟩ := five hs2
          have hst := stA_set s k (by omega) hk (j : Int)
          have hgl := stL_get s k (by omega)
          clear hli r0 r1 d0 d1 d2 d3 d4 hb2
          have g0 := lt_of_cell q0
          have g1 := lt_of_cell q1
          have g2 := lt_of_cell e0
          go_wp2_with fail
          have hb3 : Below w2.heap.size w2 (w2.alloc (.cells (stA (s.set k (j : Int))) 78)) := (Below.refl _ w2).alloc (Nat.le_refl _) _
          have hS3 := hS2.trans (Same.of_below M hb3)
          have hnew := (MapKept.heap_alloc w2 (.cells (stA (s.set k (j : Int))) 78)).1
          obtain ⟨m0, m1, m2, m3, m4⟩ := five hnew
          obtain ⟨n0, n1⟩ : (w2.alloc (.cells (stA (s.set k (j : Int))) 78)).cell? ⟨bp, 0, none⟩ = some (.pointer (some ⟨bc, 0, none⟩)) ∧ (w2.alloc (.cells (stA (s.set k (j : Int))) 78)).cell? ⟨bl, 1, none⟩ = some (.int .i64 k) := ⟨cell_stays hb3 q0, cell_stays hb3 q1⟩
          have hc3 := hc _ hS3
          obtain ⟨bh, oh, hah, hcell⟩ := hc3.hi k (by omega)
          subst hah
          have hc3h := hc3.h
          have x0 := fun x : Aft (w2.alloc (.cells (stA (s.set k (j : Int))) 78)).heap.size (w2.alloc (.cells (stA (s.set k (j : Int))) 78)) => cell_stays x.h m0
          have x1 := fun x : Aft (w2.alloc (.cells (stA (s.set k (j : Int))) 78)).heap.size (w2.alloc (.cells (stA (s.set k (j : Int))) 78)) => cell_stays x.h m1
          have x2 := fun x : Aft (w2.alloc (.cells (stA (s.set k (j : Int))) 78)).heap.size (w2.alloc (.cells (stA (s.set k (j : Int))) 78)) => cell_stays x.h m2
          have x3 := fun x : Aft (w2.alloc (.cells (stA (s.set k (j : Int))) 78)).heap.size (w2.alloc (.cells (stA (s.set k (j : Int))) 78)) => cell_stays x.h m3
          have x4 := fun x : Aft (w2.alloc (.cells (stA (s.set k (j : Int))) 78)).heap.size (w2.alloc (.cells (stA (s.set k (j : Int))) 78)) => cell_stays x.h m4
          have x5 := fun x : Aft (w2.alloc (.cells (stA (s.set k (j : Int))) 78)).heap.size (w2.alloc (.cells (stA (s.set k (j : Int))) 78)) => cell_stays x.h n0
          have x6 := fun x : Aft (w2.alloc (.cells (stA (s.set k (j : Int))) 78)).heap.size (w2.alloc (.cells (stA (s.set k (j : Int))) 78)) => cell_stays x.h n1
          have x7 := fun x : Aft (w2.alloc (.cells (stA (s.set k (j : Int))) 78)).heap.size (w2.alloc (.cells (stA (s.set k (j : Int))) 78)) => cell_stays x.h hc3h
          have x8 := fun x : Aft (w2.alloc (.cells (stA (s.set k (j : Int))) 78)).heap.size (w2.alloc (.cells (stA (s.set k (j : Int))) 78)) => cell_stays x.h hcell
          have hJ3 := hJ _ _ _ hJ2 (Same.of_below O hb3)
          have hkh : k < c.homes.length := by omega
          revert x0 x1 x2 x3 x4 x5 x6 x7 x8 hS3 hJ3 hkh
          clear m0 m1 m2 m3 m4 n0 n1 hc3 hcell hc3h hnew hJ2 q0 q1 e0 e1 e2 e3 e4 hs2 hb3 hst hcr hsr hJr
          generalize w2.alloc (.cells (stA (s.set k (j : Int))) 78) = w3
          intro hS3 x0 x1 x2 x3 x4 x5 x6 x7 x8 hJ3 hkh
          refine wpIn_wide.1 (wpIn_region_aft_tail (r := none) (m := 0) 13 mixed (by kernel_rfl) ?_)
          simp only [List.take_succ_cons, List.take_zero, List.drop_succ_cons, List.drop_zero]
          repeat (go_big_quiet_step (fail))
          refine wpQuiet_nil ?_
          rintro _ ⟨x, rfl⟩
          have hJx3 := hJ _ _ _ hJ3 (Same.of_below O x.h)
          have hSx := hS3.trans (Same.of_below M x.h)
          have hidx : ((step c s ⟨1, k, lp, ls⟩).map encSt)[((List.range j).filterMap (backF c s k)).length]? = some (encSt (s.set k (j : Int), !decide ((j : Int) = gi c.homes k))) := by
            rw [HE.out, hsn, List.getElem?_map, Int.toNat_natCast, filterMap_range_at hlt hbf.out]
            rfl
          obtain ⟨fn, tmps, assign, body, hy, hR⟩ := hY _ _ hidx x.v hJx3
          have hy' : (Instr.yield l #[stV (s.set k (j : Int)), .bool ((j : Int) != gi c.homes k)]).run Try.prog x.v = .ok (.round l fn tmps assign body) x.v := hy
          have HR := Lib.hid hR
          have HI := Lib.hid hidx
          clear hy hR hidx x0 x1 x2 x3 x4 x5 x6 x7 x8 hJ3 hS3
          gi_wp2_with fail
          refine ⟨rfl, HR.out.mono ?_⟩
          rintro e W4 (⟨rfl, hJ4, hk4⟩ | ⟨rfl, hJx4, hk4⟩)
          · gi_wp2
            go_wp2
            go_roundw
            case rel => exact ⟨j + 1, by omega, by go_num, hSx.trans hk4, by rw [hstep.out, hbf.out]; simpa using hJ4⟩
            case measure => simp [intOf]; omega
          · gi_wp2
            go_wp2
            rw [Exit.noGoto_ret]
            refine bodyPost_ret (results_none rfl _ _ _) rfl ?_
            refine ⟨⟨_, rfl⟩, .inr ⟨_, ?_, hJx4⟩⟩
            exact (List.getElem?_eq_some_iff.1 HI.out).1
        · have hli' : (lies s (j : Int) != -1) = true := by simp [hli]
          have hbf : Hid (backF c s k j = none) := by unfold Hid backF; rw [if_neg hli]
          clear hli
          go_wp2
          go_roundw
          case rel => exact ⟨j + 1, by omega, by go_num, hS2, by rw [hstep.out, hbf.out]; simpa using hJ2⟩
          case measure => simp [intOf]; omega
      · go_wp2
        rw [Exit.noGoto_normal]
        go_end0
        refine ⟨⟨_, rfl⟩, .inl ?_⟩
        obtain rfl : j = n := by omega
        rw [HE.out, hsn]
        simpa using hJr
  · have hE : step c s ⟨1, k, lp, ls⟩ = [] := by simp [step, hg]
    have HE := Lib.hid hE
    have hg' : (gi s k != -1) = true := by simp [hg]
    clear hE hg
    refine callsIn_wide.2 ?_
    go_enter Try.func99, Try.ntmps99
    go_wp2
    go_step3
    go_wp2
    rw [Exit.noGoto_ret]
    refine bodyPost_ret (results_none rfl _ _ _) rfl ?_
    exact ⟨⟨_, rfl⟩, .inl (by rw [HE.out]; exact h0)⟩
end Go.Proofs.Ytlhobddaojdnoaa
