/- Where. -/
import Derived.Test.YtlhobddaojdnoaaW14
import Derived.Test.YtlhobddaojdnoaaPure3
namespace Go.Proofs.Ytlhobddaojdnoaa
open Go.RowKit

/-- What is reached is what is true. -/
theorem Reached.keys {c : Cab} {r : Rule} {n0 b : Nat} {M : List (List Int × Int)} {w : World} (h : Reached c r n0 b M w) (t : List Int) : (∃ n, (t, n) ∈ M) ↔ ∃ bs, (t, bs) ∈ truthsBy c r c.loans c.wrong := by
  rw [← reach_true]
  constructor
  · rintro ⟨n, hn⟩; exact ⟨n, by rw [← h.look, look_some h.map.keys]; exact hn⟩
  · rintro ⟨n, hn⟩; exact ⟨n, by rw [← h.look, look_some h.map.keys] at hn; exact hn⟩
/-- Where card k lies, by so many states; whether it is out in one. -/
def placesOf (k : Nat) (D : List (List Int × Int)) : List Nat := (D.filter fun p => !decide (gi p.1 k = -1)).map fun p => (gi p.1 k).toNat
def outOf (k : Nat) (D : List (List Int × Int)) : Bool := D.any fun p => decide (gi p.1 k = -1)
theorem whereE_of {c : Cab} {k : Nat} (h0 : openE c (c.card k) = 0) {n0 b : Nat} {M D : List (List Int × Int)} {w : World} (hR : Reached c anyRule n0 b M w) (hmem : ∀ p, p ∈ M ↔ p ∈ D) :
    whereE c k = ((bitsOf (placesOf k D) : Int), outOf k D, 0) := by
  have hk : ∀ t, (∃ n, (t, n) ∈ D) ↔ ∃ bs, (t, bs) ∈ truths c := fun t => by
    have := hR.keys t
    simp only [hmem] at this
    exact this
  unfold whereE
  rw [if_pos h0]
  have e1 : bitsOf ((((truths c).map fun x => gi x.1 (k : Int).toNat).filter fun s => !decide (s = -1)).map Int.toNat) = bitsOf (placesOf k D) := by
    apply bitsOf_ext
    intro j
    simp only [placesOf, List.mem_map, List.mem_filter, Int.toNat_natCast]
    constructor
    · rintro ⟨s, ⟨⟨x, hx, rfl⟩, hs⟩, rfl⟩
      obtain ⟨n, hn⟩ := (hk x.1).2 ⟨x.2, hx⟩
      exact ⟨(x.1, n), ⟨hn, hs⟩, rfl⟩
    · rintro ⟨p, ⟨hp, hs⟩, rfl⟩
      obtain ⟨bs, hb⟩ := (hk p.1).1 ⟨p.2, hp⟩
      exact ⟨_, ⟨⟨_, hb, rfl⟩, hs⟩, rfl⟩
  have e2 : ((truths c).map fun x => gi x.1 (k : Int).toNat).any (fun s => decide (s = -1)) = outOf k D := by
    rw [Bool.eq_iff_iff]
    simp only [outOf, List.any_eq_true, List.mem_map, Int.toNat_natCast, decide_eq_true_eq]
    constructor
    · rintro ⟨s, ⟨x, hx, rfl⟩, hs⟩
      obtain ⟨n, hn⟩ := (hk x.1).2 ⟨x.2, hx⟩
      exact ⟨(x.1, n), hn, hs⟩
    · rintro ⟨p, hp, hs⟩
      obtain ⟨bs, hb⟩ := (hk p.1).1 ⟨p.2, hp⟩
      exact ⟨_, ⟨_, hb, rfl⟩, hs⟩
  simp only [e1, e2]

theorem wrap_two {j : Nat} (h : j ≤ 12) : wrap64 (2 ^ j) = ((2 ^ j : Nat) : Int) := by
  have : j = 0 ∨ j = 1 ∨ j = 2 ∨ j = 3 ∨ j = 4 ∨ j = 5 ∨ j = 6 ∨ j = 7 ∨ j = 8 ∨ j = 9 ∨ j = 10 ∨ j = 11 ∨ j = 12 := by omega
  rcases this with rfl | rfl | rfl | rfl | rfl | rfl | rfl | rfl | rfl | rfl | rfl | rfl | rfl <;> decide +kernel
theorem two_lt {j : Nat} (h : j ≤ 12) : 2 ^ j < 2 ^ 62 := Nat.pow_lt_pow_right (by decide) (by omega)
theorem mem_step {M D T1 T2 : List (List Int × Int)} {x : List Int × Int} (h : ∀ p, p ∈ M ↔ p ∈ D ∨ p ∈ T1 ++ x :: T2) : ∀ p, p ∈ M ↔ p ∈ D ++ [x] ∨ p ∈ T1 ++ T2 := fun p => by
  rw [h]
  simp only [List.mem_append, List.mem_cons, List.not_mem_nil, or_false]
  constructor
  · rintro (h | h | h | h)
    · exact .inl (.inl h)
    · exact .inr (.inl h)
    · exact .inl (.inr h)
    · exact .inr (.inr h)
  · rintro ((h | h) | h | h)
    · exact .inl h
    · exact .inr (.inr (.inl h))
    · exact .inr (.inl h)
    · exact .inr (.inr (.inr h))
theorem places_in {k : Nat} {s : List Int} (h : gi s k ≠ -1) (m : Int) (D : List (List Int × Int)) : placesOf k (D ++ [(s, m)]) = placesOf k D ++ [(gi s k).toNat] ∧ outOf k (D ++ [(s, m)]) = outOf k D := by
  simp [placesOf, outOf, h]
theorem places_out {k : Nat} {s : List Int} (h : gi s k = -1) (m : Int) (D : List (List Int × Int)) : placesOf k (D ++ [(s, m)]) = placesOf k D ∧ outOf k (D ++ [(s, m)]) = true := by
  simp [placesOf, outOf, h]
theorem places_small {k : Nat} {n : Nat} {D : List (List Int × Int)} (h : ∀ p ∈ D, GoodSt n p.1) : bitsOf (placesOf k D) < 2 ^ 62 := by
  have : bitsOf (placesOf k D) < 2 ^ 6 := bitsOf_lt (fun j hj => by
    obtain ⟨p, hp, rfl⟩ := List.mem_map.1 hj
    have := (h p ((List.mem_filter.1 hp).1)).gi k
    omega)
  omega
theorem stL_at (s : List Int) (k : Nat) : ∀ h, ([.int .i64 (gi s 0), .int .i64 (gi s 1), .int .i64 (gi s 2), .int .i64 (gi s 3), .int .i64 (gi s 4)] : List Value)[k]'h = .int .i64 (gi s k) := fun h => by
  have := stL_get s k (by simpa using h)
  rw [List.getElem?_eq_getElem h] at this
  exact Option.some.inj this
theorem cf50 (args : Array Value) (w : World) : (callFunc 50 args).run Try.prog w = .ok (.enter 50 args) w := by simp [callFunc, Try.func50, Try.f50, go_sem]

set_option maxRecDepth 100000 in
set_option maxHeartbeats 1000000 in
theorem where_any {c : Cab} {w : World} {ah : Option Addr} {ch : Nat} {al : Option Addr} {cl : Nat} (hg : Given w c ah ch al cl) (n : Int) :
    Calls Try.prog 17 #[c.v ah ch al cl, .int .i64 n] w fun e w' => e = .returned (.tuple #[.int .i64 (whereE c n).1, .bool (whereE c n).2.1, .int .i64 (whereE c n).2.2]) ∧ Below w.heap.size w w' := by
  have hmf : ∀ (fn : Fn) (first cap : Array Value) (w : World), (Instr.makeFunc fn first cap).run Try.prog w = .ok (.func fn first cap) w := fun _ _ _ _ => rfl
  go_enter_defers Try.func17, Try.ntmps17
  go_wp2_with fail
  have hb1 : Below w.heap.size w (((w.alloc (.cells (c.cells ah ch al cl) 25)).alloc (.cells #[.int .i64 n] 3)).alloc (.cells #[.int .i64 0] 28)) := (((Below.refl _ w).alloc (Nat.le_refl _) _).alloc (by simp) _).alloc (by simp; omega) _
  obtain ⟨_, q1, q2⟩ := heap3 w (.cells (c.cells ah ch al cl) 25) (.cells #[.int .i64 n] 3) (.cells #[.int .i64 0] 28)
  have hg1 := hg.mono hb1
  have hz1 : (((w.alloc (.cells (c.cells ah ch al cl) 25)).alloc (.cells #[.int .i64 n] 3)).alloc (.cells #[.int .i64 0] 28)).heap.size = w.heap.size + 3 := by simp
  revert hb1 q1 q2 hg1 hz1
  generalize (((w.alloc (.cells (c.cells ah ch al cl) 25)).alloc (.cells #[.int .i64 n] 3)).alloc (.cells #[.int .i64 0] 28)) = w1
  intro hb1 q1 q2 hg1 hz1
  have hasks := asks_card hg.hh ah ch al cl (w := w1) (n := n) (b := w.heap.size + 1) (by rw [cell_of_heap q1]; rfl)
  by_cases h0 : openE c (c.card n) = 0
  · obtain ⟨hv, hcard, ht⟩ := openE_zero h0
    obtain ⟨v1, v2, v3, v4, v5, v6⟩ := valid_parts hv
    obtain ⟨k, hk1, hk2⟩ := card_in (c := c) (l := ⟨0, n, 0, 0⟩) hcard
    simp only at hk1
    subst hk1
    refine (open_ok hg1 (fun _ => hasks) h0 hasks.1).mono ?_
    rintro e w2 ⟨bc, b, M, rfl, hc, hR, hb2⟩
    have e3 := (hb2.block (w.heap.size + 1) (by omega)).trans q1
    have e4 := (hb2.block (w.heap.size + 1 + 1) (by omega)).trans q2
    have hz2 : w.heap.size + 3 ≤ w2.heap.size := by have := hb2.size; omega
    have hB2 : Below w.heap.size w w2 := hb1.trans (hb2.mono (by omega))
    obtain ⟨w3, hrng, hR3, hg3, hs3⟩ := hR.map.raw.range Try.underlying69
    have hB3 : Below w2.heap.size w2 w3 := (Below.refl _ w2).grown hg3 (Nat.le_refl _) (by simp)
    clear hb1 q1 q2 hg1 hz1 hb2 hs3 hasks
    have HW : Hid (∀ D, (∀ p, p ∈ M ↔ p ∈ D) → whereE c k = ((bitsOf (placesOf k D) : Int), outOf k D, 0)) := fun D hD => whereE_of h0 hR hD
    go_wp2_with fail
    go_loopw [4, 5] (fun a o wr => ∃ (D Td : List (List Int × Int)), a = .int .i64 (bitsOf (placesOf k D)) ∧ o = .bool (outOf k D) ∧ Below w2.heap.size w2 wr ∧ Rng Try.prog 78 wr b w2.heap.size (M.map encP) (Td.map encP) ∧ (∀ p, p ∈ M ↔ p ∈ D ∨ p ∈ Td)) (fun _ _ wr => rngLeft wr b w2.heap.size)
    case atStart => exact ⟨[], M, rfl, rfl, hB3, hR3, by simp⟩
    case round =>
      obtain ⟨D, Td, rfl, rfl, hbr, hRg, hmem⟩ := hrel
      have hHM := Lib.hid hmem
      clear hmem hrng
      rcases hRg.next 0 with ⟨htd, hnx⟩ | ⟨kx, vx, l1, l2, w10, htd, hkm, hnx, hR10, hg10, hs10, hent⟩
      · have htd' : Td = [] := by simpa using htd
        subst htd'
        clear htd
        have e5 := (hbr.block (w.heap.size + 1 + 1) (by omega)).trans e4
        have ce5 : wr.cell? ⟨w.heap.size + 1 + 1, 0, none⟩ = some (.int .i64 0) := by rw [cell_of_heap e5]; rfl
        have fe5 : wr.frozen? ⟨w.heap.size + 1 + 1, 0, none⟩ = false := frozen_of_heap e5
        have hBr := hB2.trans (hbr.mono (by omega))
        go_wp2_with fail
        refine leaves_ok (recov50_ok _ _) cf50 (res_ttc rfl _ rfl (World.cell?_setCell_same _ _ _ ce5)) ⟨?_, hBr.setCell (by simp; omega) _⟩
        rw [HW.out D (fun p => by rw [hHM.out]; simp)]
        rfl
      · obtain ⟨T1, ⟨s, m⟩, T2, rfl, he, hl12⟩ := map_split htd
        have hsn : stV s = kx ∧ Value.int .i64 m = vx := by simpa [encP] using he
        obtain ⟨rfl, rfl⟩ := hsn
        have hsM : (s, m) ∈ M := (hHM.out (s, m)).2 (.inr (by simp))
        have hsg : GoodSt c.homes.length s := hR.map.good _ hsM
        rw [← hl12] at hR10
        have hs10' := Lib.hid hs10
        clear he hl12 htd hkm hs10
        have e5 := (hbr.block (w.heap.size + 1) (by omega)).trans e3
        have e6 := (hg10.block (w.heap.size + 1) (by have := hbr.size; omega) (by simp; omega)).trans e5
        have ck : w10.cell? ⟨w.heap.size + 1, 0, none⟩ = some (.int .i64 k) := by rw [cell_of_heap e6]; rfl
        have gk := lt_of_cell ck
        have hgl := stL_at s k
        have hgs := hsg.gi k
        have hk5 : k < 5 := by omega
        have hb10 : Below w2.heap.size w2 w10 := hbr.grown hg10 hbr.size (by rintro q ⟨⟩; omega)
        have hbA : Below w2.heap.size w2 (w10.alloc (.cells (stA s) 78)) := hb10.alloc hb10.size _
        have hRA : Rng Try.prog 78 (w10.alloc (.cells (stA s) 78)) b w2.heap.size (M.map encP) ((T1 ++ T2).map encP) := hR10.kept (Below.heap_alloc _ _ _ hR10.raw.lt) (Below.heap_alloc _ _ _ hR10.lt)
        by_cases hout : gi s k = -1
        · have hb' : (gi s k == -1) = true := by simp [hout]
          have HO := Lib.hid hout
          clear hout
          go_wp2_with fail
          go_roundw
          case rel => exact ⟨D ++ [(s, m)], T1 ++ T2, by rw [(places_out HO.out m D).1], by rw [(places_out HO.out m D).2], hbA, hRA, mem_step hHM.out⟩
          case measure =>
            rw [hRA.left, hRg.left]
            simp
        · have hb' : (gi s k == -1) = false := by simpa using hout
          obtain ⟨jn, hjn, hj5⟩ : ∃ jn : Nat, gi s k = jn ∧ jn ≤ 5 := ⟨(gi s k).toNat, by omega, by omega⟩
          have HO := Lib.hid hout
          have HJ := Lib.hid hjn
          obtain ⟨z, hz⟩ : ∃ z : Nat, 2 ^ jn = z := ⟨_, rfl⟩
          have hwr := wrap_two (j := jn) (by omega)
          have hzl := two_lt (j := jn) (by omega)
          rw [hz] at hwr hzl
          have HZ := Lib.hid hz
          have hbj : ((jn : Int) == -1) = false := by rw [← hjn]; exact hb'
          have hbb : bitsOf (placesOf k D) < 2 ^ 62 := places_small (fun p hp => hR.map.good p ((hHM.out p).2 (.inl hp)))
          clear hout hb' hz
          go_wp2_with fail
          have hq := World.alloc_heap_new (w10.alloc (.cells (stA s) 78)) (.cells #[.int .i64 (bitsOf (placesOf k D)), .int .i64 z] 3)
          rw [World.size_alloc] at hq
          refine (union_any (bitsOf (placesOf k D)) z hbb hzl (by rw [cell_of_heap hq]; rfl) (by rw [cell_of_heap hq]; rfl)).mono ?_
          rintro e w12 ⟨rfl, rfl⟩
          go_wp2_with fail
          go_roundw
          case rel =>
            refine ⟨D ++ [(s, m)], T1 ++ T2, ?_, by rw [(places_in HO.out m D).2], hbA.alloc (by rw [World.size_alloc]; have := hbA.size; rw [World.size_alloc] at this; omega) _, hRA.kept (Below.heap_alloc _ _ _ ?_) (Below.heap_alloc _ _ _ ?_), mem_step hHM.out⟩
            · rw [(places_in HO.out m D).1, bitsOf_snoc, HJ.out, Int.toNat_natCast, HZ.out]
            · exact hRA.raw.lt
            · exact hRA.lt
          case measure =>
            rw [(hRA.kept (Below.heap_alloc _ _ _ hRA.raw.lt) (Below.heap_alloc _ _ _ hRA.lt)).left, hRg.left]
            simp
  · refine (open_no hg1 (fun _ => hasks) h0 hasks.1).mono ?_
    rintro e w2 ⟨rfl, hb2⟩
    have he2 := (hb2.block (w.heap.size + 1 + 1) (by omega)).trans q2
    have hc2 : w2.cell? ⟨w.heap.size + 1 + 1, 0, none⟩ = some (.int .i64 0) := by rw [cell_of_heap he2]; rfl
    have hb3 : Below w.heap.size w ((w2.alloc (.cells #[.int .i64 (openE c (c.card n))] 105)).setCell ⟨w.heap.size + 1 + 1, 0, none⟩ (.int .i64 (openE c (c.card n)))) := by
      have h2 := hb1.trans (hb2.mono (by omega))
      exact (h2.alloc h2.size _).setCell (by simp; omega) _
    have hcell := World.cell?_setCell_same (w2.alloc (.cells #[.int .i64 (openE c (c.card n))] 105)) ⟨w.heap.size + 1 + 1, 0, none⟩ (.int .i64 (openE c (c.card n))) (cell_stays ((Below.refl _ w2).alloc (Nat.le_refl _) _) hc2)
    refine leaves_no (recov50_no _ hc2 (frozen_of_heap he2)) rfl cf50 (res_ttc rfl _ rfl hcell) ⟨?_, hb3⟩
    unfold whereE
    rw [if_neg h0]
    rfl
end Go.Proofs.Ytlhobddaojdnoaa
