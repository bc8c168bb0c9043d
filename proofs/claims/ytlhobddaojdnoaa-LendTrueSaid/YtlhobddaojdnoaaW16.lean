/- Slot. -/
import Derived.Test.YtlhobddaojdnoaaW15
namespace Go.Proofs.Ytlhobddaojdnoaa
open Go.RowKit

theorem liesFrom_in : ∀ (l : List Int) (slot : Int) (k : Nat), liesFrom l slot k = -1 ∨ ((k : Int) ≤ liesFrom l slot k ∧ liesFrom l slot k < (k : Int) + l.length)
  | [], _, _ => .inl rfl
  | x :: r, slot, k => by
    unfold liesFrom
    split
    · right; simp; omega
    · rcases liesFrom_in r slot (k + 1) with h | h
      · exact .inl h
      · right; simp only [List.length_cons]; omega
theorem lies_in (l : List Int) (slot : Int) : lies l slot = -1 ∨ (0 ≤ lies l slot ∧ lies l slot < l.length) := by
  rcases liesFrom_in l slot 0 with h | h
  · exact .inl h
  · right; unfold lies; omega
/-- Which cards lie in a slot, by so many states; whether none does in one. -/
def cardsOf (k : Int) (D : List (List Int × Int)) : List Nat := (D.filter fun p => !decide (lies p.1 k = -1)).map fun p => (lies p.1 k).toNat
def emptyOf (k : Int) (D : List (List Int × Int)) : Bool := D.any fun p => decide (lies p.1 k = -1)
theorem slotE_of {c : Cab} {k : Int} (h0 : openE c (c.slotOf k) = 0) {n0 b : Nat} {M D : List (List Int × Int)} {w : World} (hR : Reached c anyRule n0 b M w) (hmem : ∀ p, p ∈ M ↔ p ∈ D) :
    slotE c k = ((bitsOf (cardsOf k D) : Int), emptyOf k D, 0) := by
  have hk : ∀ t, (∃ n, (t, n) ∈ D) ↔ ∃ bs, (t, bs) ∈ truths c := fun t => by
    have := hR.keys t
    simp only [hmem] at this
    exact this
  unfold slotE
  rw [if_pos h0]
  have e1 : bitsOf ((((truths c).map fun x => lies x.1 k).filter fun s => !decide (s = -1)).map Int.toNat) = bitsOf (cardsOf k D) := by
    apply bitsOf_ext
    intro j
    simp only [cardsOf, List.mem_map, List.mem_filter]
    constructor
    · rintro ⟨s, ⟨⟨x, hx, rfl⟩, hs⟩, rfl⟩
      obtain ⟨n, hn⟩ := (hk x.1).2 ⟨x.2, hx⟩
      exact ⟨(x.1, n), ⟨hn, hs⟩, rfl⟩
    · rintro ⟨p, ⟨hp, hs⟩, rfl⟩
      obtain ⟨bs, hb⟩ := (hk p.1).1 ⟨p.2, hp⟩
      exact ⟨_, ⟨⟨_, hb, rfl⟩, hs⟩, rfl⟩
  have e2 : ((truths c).map fun x => lies x.1 k).any (fun s => decide (s = -1)) = emptyOf k D := by
    rw [Bool.eq_iff_iff]
    simp only [emptyOf, List.any_eq_true, List.mem_map, decide_eq_true_eq]
    constructor
    · rintro ⟨s, ⟨x, hx, rfl⟩, hs⟩
      obtain ⟨n, hn⟩ := (hk x.1).2 ⟨x.2, hx⟩
      exact ⟨(x.1, n), hn, hs⟩
    · rintro ⟨p, hp, hs⟩
      obtain ⟨bs, hb⟩ := (hk p.1).1 ⟨p.2, hp⟩
      exact ⟨_, ⟨_, hb, rfl⟩, hs⟩
  simp only [e1, e2]
theorem cards_in {k : Int} {s : List Int} (h : lies s k ≠ -1) (m : Int) (D : List (List Int × Int)) : cardsOf k (D ++ [(s, m)]) = cardsOf k D ++ [(lies s k).toNat] ∧ emptyOf k (D ++ [(s, m)]) = emptyOf k D := by
  simp [cardsOf, emptyOf, h]
theorem cards_out {k : Int} {s : List Int} (h : lies s k = -1) (m : Int) (D : List (List Int × Int)) : cardsOf k (D ++ [(s, m)]) = cardsOf k D ∧ emptyOf k (D ++ [(s, m)]) = true := by
  simp [cardsOf, emptyOf, h]
theorem cards_small {k : Int} {n : Nat} (hn : n ≤ 5) {D : List (List Int × Int)} (h : ∀ p ∈ D, GoodSt n p.1) : bitsOf (cardsOf k D) < 2 ^ 62 := by
  have : bitsOf (cardsOf k D) < 2 ^ 6 := bitsOf_lt (fun j hj => by
    obtain ⟨p, hp, rfl⟩ := List.mem_map.1 hj
    have := (h p (List.mem_filter.1 hp).1).1
    rcases lies_in p.1 k with h | h <;> omega)
  omega
theorem cf58 (args : Array Value) (w : World) : (callFunc 58 args).run Try.prog w = .ok (.enter 58 args) w := by simp [callFunc, Try.func58, Try.f58, go_sem]

set_option maxRecDepth 100000 in
set_option maxHeartbeats 1000000 in
theorem slot_any {c : Cab} {w : World} {ah : Option Addr} {ch : Nat} {al : Option Addr} {cl : Nat} (hg : Given w c ah ch al cl) (n : Int) :
    Calls Try.prog 19 #[c.v ah ch al cl, .int .i64 n] w fun e w' => e = .returned (.tuple #[.int .i64 (slotE c n).1, .bool (slotE c n).2.1, .int .i64 (slotE c n).2.2]) ∧ Below w.heap.size w w' := by
  have hmf : ∀ (fn : Fn) (first cap : Array Value) (w : World), (Instr.makeFunc fn first cap).run Try.prog w = .ok (.func fn first cap) w := fun _ _ _ _ => rfl
  go_enter_defers Try.func19, Try.ntmps19
  go_wp2_with fail
  have hb1 : Below w.heap.size w (((w.alloc (.cells (c.cells ah ch al cl) 25)).alloc (.cells #[.int .i64 n] 3)).alloc (.cells #[.int .i64 0] 28)) := (((Below.refl _ w).alloc (Nat.le_refl _) _).alloc (by simp) _).alloc (by simp; omega) _
  obtain ⟨_, q1, q2⟩ := heap3 w (.cells (c.cells ah ch al cl) 25) (.cells #[.int .i64 n] 3) (.cells #[.int .i64 0] 28)
  have hg1 := hg.mono hb1
  have hz1 : (((w.alloc (.cells (c.cells ah ch al cl) 25)).alloc (.cells #[.int .i64 n] 3)).alloc (.cells #[.int .i64 0] 28)).heap.size = w.heap.size + 3 := by simp
  revert hb1 q1 q2 hg1 hz1
  generalize (((w.alloc (.cells (c.cells ah ch al cl) 25)).alloc (.cells #[.int .i64 n] 3)).alloc (.cells #[.int .i64 0] 28)) = w1
  intro hb1 q1 q2 hg1 hz1
  have hasks : c.valid = true → Asks c ah ch al cl w1 59 #[.pointer (some ⟨w.heap.size + 1, 0, none⟩)] (c.slotOf n) := fun hv => asks_slot (by have := (valid_parts hv).2.2.1; omega) ah ch al cl (w := w1) (n := n) (b := w.heap.size + 1) (by rw [cell_of_heap q1]; rfl)
  have hcf : ∀ args w, (callFunc 59 args).run Try.prog w = .ok (.enter 59 args) w := fun args w => by simp [callFunc, Try.func59, Try.f59, go_sem]
  by_cases h0 : openE c (c.slotOf n) = 0
  · obtain ⟨hv, hslot, ht⟩ := openE_zero h0
    obtain ⟨v1, v2, v3, v4, v5, v6⟩ := valid_parts hv
    refine (open_ok hg1 hasks h0 hcf).mono ?_
    rintro e w2 ⟨bc, b, M, rfl, hc, hR, hb2⟩
    have e3 := (hb2.block (w.heap.size + 1) (by omega)).trans q1
    have e4 := (hb2.block (w.heap.size + 1 + 1) (by omega)).trans q2
    have hz2 : w.heap.size + 3 ≤ w2.heap.size := by have := hb2.size; omega
    have hB2 : Below w.heap.size w w2 := hb1.trans (hb2.mono (by omega))
    obtain ⟨w3, hrng, hR3, hg3, hs3⟩ := hR.map.raw.range Try.underlying69
    have hB3 : Below w2.heap.size w2 w3 := (Below.refl _ w2).grown hg3 (Nat.le_refl _) (by simp)
    clear hb1 q1 q2 hg1 hz1 hb2 hs3 hasks hcf
    have HW : Hid (∀ D, (∀ p, p ∈ M ↔ p ∈ D) → slotE c n = ((bitsOf (cardsOf n D) : Int), emptyOf n D, 0)) := fun D hD => slotE_of h0 hR hD
    go_wp2_with fail
    go_loopw [4, 5] (fun a o wr => ∃ (D Td : List (List Int × Int)), a = .int .i64 (bitsOf (cardsOf n D)) ∧ o = .bool (emptyOf n D) ∧ Below w2.heap.size w2 wr ∧ Rng Try.prog 78 wr b w2.heap.size (M.map encP) (Td.map encP) ∧ (∀ p, p ∈ M ↔ p ∈ D ∨ p ∈ Td)) (fun _ _ wr => rngLeft wr b w2.heap.size)
    case atStart => exact ⟨[], M, rfl, rfl, hB3, hR3, by simp⟩
    case round =>
      obtain ⟨D, Td, rfl, rfl, hbr, hRg, hmem⟩ := hrel
      have hHM := Lib.hid hmem
      clear hmem hrng
      rcases hRg.next 0 with ⟨htd, hnx⟩ | ⟨kx, vx, l1, l2, w10, htd, hkm, hnx, hR10, hg10, hs10, hent⟩
      · have htd' : Td = [] := by simpa using htd
        subst htd'
        clear htd
        have e5 := (hbr.block (w.heap.size + 1 + 1) (by omega)).trans e4
        have ce5 : wr.cell? ⟨w.heap.size + 1 + 1, 0, none⟩ = some (.int .i64 0) := by rw [cell_of_heap e5]; rfl
        have fe5 : wr.frozen? ⟨w.heap.size + 1 + 1, 0, none⟩ = false := frozen_of_heap e5
        have hBr := hB2.trans (hbr.mono (by omega))
        go_wp2_with fail
        refine leaves_ok (recov58_ok _ _) cf58 (res_ttc rfl _ rfl (World.cell?_setCell_same _ _ _ ce5)) ⟨?_, hBr.setCell (by simp; omega) _⟩
        rw [HW.out D (fun p => by rw [hHM.out]; simp)]
        rfl
      · obtain ⟨T1, ⟨s, m⟩, T2, rfl, he, hl12⟩ := map_split htd
        have hsn : stV s = kx ∧ Value.int .i64 m = vx := by simpa [encP] using he
        obtain ⟨rfl, rfl⟩ := hsn
        have hsM : (s, m) ∈ M := (hHM.out (s, m)).2 (.inr (by simp))
        have hsg : GoodSt c.homes.length s := hR.map.good _ hsM
        rw [← hl12] at hR10
        have hs10' := Lib.hid hs10
        clear he hl12 htd hkm hs10
        have hb10 : Below w2.heap.size w2 w10 := hbr.grown hg10 hbr.size (by rintro q ⟨⟩; omega)
        have hbA : Below w2.heap.size w2 (w10.alloc (.cells (stA s) 78)) := hb10.alloc hb10.size _
        have hRA : Rng Try.prog 78 (w10.alloc (.cells (stA s) 78)) b w2.heap.size (M.map encP) ((T1 ++ T2).map encP) := hR10.kept (Below.heap_alloc _ _ _ hR10.raw.lt) (Below.heap_alloc _ _ _ hR10.lt)
        have e6 := (hbA.block (w.heap.size + 1) (by omega)).trans e3
        have ck : (w10.alloc (.cells (stA s) 78)).cell? ⟨w.heap.size + 1, 0, none⟩ = some (.int .i64 n) := by rw [cell_of_heap e6]; rfl
        go_wp2_with fail
        refine (lies_any s n (hc.mono hbA) v1 hsg.1).mono ?_
        rintro e w11 ⟨rfl, hb11⟩
        have hbB := hbA.trans (hb11.mono hbA.size)
        have hRB : Rng Try.prog 78 w11 b w2.heap.size (M.map encP) ((T1 ++ T2).map encP) := hRA.kept (hb11.block _ hRA.raw.lt) (hb11.block _ hRA.lt)
        clear ck e6
        by_cases hout : lies s n = -1
        · have hb' : (lies s n == -1) = true := by simp [hout]
          have HO := Lib.hid hout
          clear hout
          go_wp2_with fail
          go_roundw
          case rel => exact ⟨D ++ [(s, m)], T1 ++ T2, by rw [(cards_out HO.out m D).1], by rw [(cards_out HO.out m D).2], hbB, hRB, mem_step hHM.out⟩
          case measure =>
            rw [hRB.left, hRg.left]
            simp
        · have hb' : (lies s n == -1) = false := by simpa using hout
          have hsl := hsg.1
          obtain ⟨jn, hjn, hj5⟩ : ∃ jn : Nat, lies s n = jn ∧ jn ≤ 5 := ⟨(lies s n).toNat, by rcases lies_in s n with h | h <;> omega, by rcases lies_in s n with h | h <;> omega⟩
          have HO := Lib.hid hout
          have HJ := Lib.hid hjn
          obtain ⟨z, hz⟩ : ∃ z : Nat, 2 ^ jn = z := ⟨_, rfl⟩
          have hwr := wrap_two (j := jn) (by omega)
          have hzl := two_lt (j := jn) (by omega)
          rw [hz] at hwr hzl
          have HZ := Lib.hid hz
          have hbj : ((jn : Int) == -1) = false := by rw [← hjn]; exact hb'
          have hbb : bitsOf (cardsOf n D) < 2 ^ 62 := cards_small v1 (fun p hp => hR.map.good p ((hHM.out p).2 (.inl hp)))
          clear hout hb' hz hsl
          go_wp2_with fail
          have hq := World.alloc_heap_new w11 (.cells #[.int .i64 (bitsOf (cardsOf n D)), .int .i64 z] 3)
          refine (union_any (bitsOf (cardsOf n D)) z hbb hzl (by rw [cell_of_heap hq]; rfl) (by rw [cell_of_heap hq]; rfl)).mono ?_
          rintro e w12 ⟨rfl, rfl⟩
          go_wp2_with fail
          go_roundw
          case rel =>
            refine ⟨D ++ [(s, m)], T1 ++ T2, ?_, by rw [(cards_in HO.out m D).2], hbB.alloc hbB.size _, hRB.kept (Below.heap_alloc _ _ _ hRB.raw.lt) (Below.heap_alloc _ _ _ hRB.lt), mem_step hHM.out⟩
            rw [(cards_in HO.out m D).1, bitsOf_snoc, HJ.out, Int.toNat_natCast, HZ.out]
          case measure =>
            rw [(hRB.kept (Below.heap_alloc _ _ _ hRB.raw.lt) (Below.heap_alloc _ _ _ hRB.lt)).left, hRg.left]
            simp
  · refine (open_no hg1 hasks h0 hcf).mono ?_
    rintro e w2 ⟨rfl, hb2⟩
    have he2 := (hb2.block (w.heap.size + 1 + 1) (by omega)).trans q2
    have hc2 : w2.cell? ⟨w.heap.size + 1 + 1, 0, none⟩ = some (.int .i64 0) := by rw [cell_of_heap he2]; rfl
    have hb3 : Below w.heap.size w ((w2.alloc (.cells #[.int .i64 (openE c (c.slotOf n))] 105)).setCell ⟨w.heap.size + 1 + 1, 0, none⟩ (.int .i64 (openE c (c.slotOf n)))) := by
      have h2 := hb1.trans (hb2.mono (by omega))
      exact (h2.alloc h2.size _).setCell (by simp; omega) _
    have hcell := World.cell?_setCell_same (w2.alloc (.cells #[.int .i64 (openE c (c.slotOf n))] 105)) ⟨w.heap.size + 1 + 1, 0, none⟩ (.int .i64 (openE c (c.slotOf n))) (cell_stays ((Below.refl _ w2).alloc (Nat.le_refl _) _) hc2)
    refine leaves_no (recov58_no _ hc2 (frozen_of_heap he2)) rfl cf58 (res_ttc rfl _ rfl hcell) ⟨?_, hb3⟩
    unfold slotE
    rw [if_neg h0]
    rfl
end Go.Proofs.Ytlhobddaojdnoaa
