/- CopyCompare: the walk. -/
import Derived.Test.YtnfhlbmapfoifaaR30
import Derived.Test.YtnfhlbmapfoifaaR24
import Derived.Test.YtnfhlbmapfoifaaOrd
import Derived.Test.YtnfhlbmapfoifaaW52
namespace Go.Proofs.Ytnfhlbmapfoifaa
open Go.RowKit
set_option linter.unusedVariables false
set_option linter.unusedSimpArgs false

theorem cf30 (args : Array Value) (w : World) : (callFunc 30 args).run Try.prog w = .ok (.enter 30 args) w := by simp [callFunc, Try.func30, Try.f30, go_sem]
set_option maxHeartbeats 2000000 in
theorem worst30 {os : List (List Int)} {al : Option Addr} {c lb : Nat} {w : World} (hos : os.length ≤ 128) (hl : ∀ o ∈ os, o.length ≤ 16) (ha : IsLists w al os) (hc : w.heap[lb]? = some (.cells #[.slice al os.length c] 32 (0, 0))) (a b : Nat) :
    Calls Try.prog 30 #[.int .i64 a, .int .i64 b, .pointer (some ⟨lb, 0, none⟩)] w fun e w' => e = .returned (.int .i64 (worstN os (a, b) : Nat)) ∧ Below w.heap.size w w' := by
  have hsp := split_ref (cap := c) ha (by omega) hl a b
  rw [show befL os a b = selS os (befS os (allS os.length) a b) by rw [← sel_bef, sel_all], show aftL os a b = selS os (aftS os (allS os.length) a b) by rw [← sel_aft, sel_all], sel_len hos (bef_in os _ a b), sel_len hos (aft_in os _ a b)] at hsp
  have HSP := Lib.hid hsp
  have HWN : Hid (worstN os (a, b) = mxN (manyS (befS os (allS os.length) a b)) (manyS (aftS os (allS os.length) a b))) := rfl
  have c0 : w.cell? ⟨lb, 0, none⟩ = some (.slice al os.length c) := by rw [cell_of_heap hc]; rfl
  have hmx := many_le (befS os (allS os.length) a b)
  have hmy := many_le (aftS os (allS os.length) a b)
  clear hsp ha hc
  revert HSP HWN hmx hmy
  generalize manyS (befS os (allS os.length) a b) = X
  generalize manyS (aftS os (allS os.length) a b) = Y
  generalize selS os (befS os (allS os.length) a b) = LX
  generalize selS os (aftS os (allS os.length) a b) = LY
  intro HSP HWN hmx hmy
  go_enter Try.func30, Try.ntmps30
  go_wp2_with fail
  refine HSP.out.mono ?_
  rintro e w2 ⟨a1, c1, a2, c2, rfl, O1, _⟩
  have HB := Lib.hid O1.1
  clear O1
  go_wp2_with fail
  all_goals
    go_ret
    exact ⟨by rw [HWN.out, ← mx_eq]; first | rfl | (simp; omega), HB.out⟩
set_option maxRecDepth 100000 in
set_option maxHeartbeats 8000000 in
theorem compare_no {p : Prs} {a : Option Addr} {cap : Nat} {w : World} (ha : IsPrts w a p.cards) (hn : p.cards.length ≤ 16) (hE : ordersE p ≠ 0) {x y : Int} (hx : 0 ≤ x ∧ x ≤ 255) (hy : 0 ≤ y ∧ y ≤ 255) : Calls Try.prog 6 #[p.v a cap, .int .u8 x, .int .u8 y] w fun e w' => e = .returned (.bool true) ∧ Below w.heap.size w w' := by
  have HN := Lib.hid hn
  have HCM : Hid (∀ {v : World}, IsPrts v a p.cards → Calls Try.prog 19 #[p.v a cap] v fun e w' => e = .returned (.tuple #[.int .i64 0, .int .i64 0, .int .i64 0, .int .i64 (ordersE p)]) ∧ Below v.heap.size v w') := fun h => by
    have h1 := compare19 (cap := cap) h HN.out
    have h2 : compE p = (0, 0, 0, ordersE p) := by unfold compE; rw [if_neg hE]
    rw [h2] at h1
    exact h1
  have HNE : Hid (∀ {v : World}, IsPrts v a p.cards → Calls Try.prog 22 #[p.v a cap] v fun e w' => e = .returned (.tuple #[.int .i64 0, .int .i64 (ordersE p)]) ∧ Below v.heap.size v w') := fun h => by
    have h1 := needs22 (cap := cap) h HN.out
    have h2 : needsE p = (0, ordersE p) := by unfold needsE; rw [if_neg hE]
    rw [h2] at h1
    exact h1
  have hnb := bne_iff_ne.2 hE
  have HE := Lib.hid hE
  clear hn hE
  have hb0 : Below w.heap.size w (w.alloc (.cells (p.cells a cap) 26)) := (Below.refl _ w).alloc (Nat.le_refl _) _
  have q0 := World.alloc_heap_new w (.cells (p.cells a cap) 26)
  have HW := Lib.hid (And.intro hb0 (And.intro q0 (ha.mono hb0)))
  clear hb0 q0 ha
  go_enter Try.func6, Try.ntmps6
  go_wp2_with fail
  revert HW
  generalize w.alloc (.cells (p.cells a cap) 26) = w1
  intro HW
  have KP : Hid (∀ v, Below w1.heap.size w1 v → v.heap[w.heap.size]? = some (.cells (p.cells a cap) 26 (0, 0)) ∧ IsPrts v a p.cards ∧ Below w.heap.size w v) := fun v h => ⟨(h.block _ (heap_lt HW.out.2.1)).trans HW.out.2.1, HW.out.2.2.mono h, HW.out.1.trans (h.mono HW.out.1.size)⟩
  obtain ⟨k0, k1, k2, k3, k4⟩ := prs_cells (KP.out w1 (Below.refl _ _)).1
  refine (great5 (KP.out w1 (Below.refl _ _)).2.1).mono ?_
  rintro e b0 ⟨rfl, hb⟩
  have HB := Lib.hid hb
  clear hb k0 k1 k2 k3 k4
  rw [show decide (16 < p.cards.length) = false from by simpa using HN.out]
  obtain ⟨k0, k1, k2, k3, k4⟩ := prs_cells (KP.out b0 HB.out).1
  go_wp2_with fail
  refine ((HCM.out (KP.out b0 HB.out).2.1)).mono ?_
  rintro e b1 ⟨rfl, hb⟩
  have HB2 := Lib.hid (HB.out.trans (hb.mono HB.out.size))
  clear hb k0 k1 k2 k3 k4 HB
  have HB := HB2
  clear HB2
  obtain ⟨k0, k1, k2, k3, k4⟩ := prs_cells (KP.out b1 HB.out).1
  go_wp2_with fail
  refine (orders_c (KP.out b1 HB.out).2.1 HN.out).mono ?_
  rintro e b2 ⟨av, cv, rfl, hi, hb⟩
  have HB2 := Lib.hid (HB.out.trans (hb.mono HB.out.size))
  have HI := Lib.hid hi
  clear hi
  clear hb k0 k1 k2 k3 k4 HB
  have HB := HB2
  clear HB2
  have hb3 : Below b2.heap.size b2 (b2.alloc (.cells #[.slice av (ordN p).length cv] 32)) := (Below.refl _ b2).alloc (Nat.le_refl _) _
  have q3 : (b2.alloc (.cells #[.slice av (ordN p).length cv] 32)).heap[b2.heap.size]? = some (.cells #[.slice av (ordN p).length cv] 32 (0, 0)) := World.alloc_heap_new _ _
  have HI3 := Lib.hid (HI.out.mono hb3)
  have HQ3 := Lib.hid q3
  have HB3 := Lib.hid (HB.out.trans (hb3.mono HB.out.size))
  clear hb3 q3 HB HI
  obtain ⟨k0, k1, k2, k3, k4⟩ := prs_cells (KP.out _ HB3.out).1
  go_wp2_with fail
  clear k0 k1 k2 k3 k4
  revert HI3 HQ3 HB3
  generalize b2.alloc (.cells #[.slice av (ordN p).length cv] 32) = b3
  intro HI3 HQ3 HB3
  refine (HNE.out (KP.out b3 HB3.out).2.1).mono ?_
  rintro e b4 ⟨rfl, hb⟩
  have HB := Lib.hid (HB3.out.trans (hb.mono HB3.out.size))
  have HL := Lib.hid (HI3.out.mono hb)
  have HQ := Lib.hid ((hb.block _ (heap_lt HQ3.out)).trans HQ3.out)
  clear hb HI3 HQ3 HB3
  clear HQ HL HCM HNE HN HW
  revert hnb
  generalize ordersE p = er
  intro hnb
  go_wp2_with fail
  refine (alive_any b4).mono ?_
  rintro e c9 ⟨rfl, hb⟩
  have HB9 := Lib.hid (HB.out.trans (hb.mono HB.out.size))
  clear hb
  go_wp2_with fail
  go_ret
  exact ⟨rfl, (KP.out _ HB9.out).2.2⟩
set_option maxRecDepth 100000 in
set_option maxHeartbeats 8000000 in
theorem compare_one {p : Prs} {a : Option Addr} {cap : Nat} {w : World} (ha : IsPrts w a p.cards) (hn : p.cards.length ≤ 16) (hE : ordersE p = 0) (h1 : (ordersL p).length = 1) {x y : Int} (hx : 0 ≤ x ∧ x ≤ 255) (hy : 0 ≤ y ∧ y ≤ 255) : Calls Try.prog 6 #[p.v a cap, .int .u8 x, .int .u8 y] w fun e w' => e = .returned (.bool true) ∧ Below w.heap.size w w' := by
  have HN := Lib.hid hn
  have HCM : Hid (∀ {v : World}, IsPrts v a p.cards → Calls Try.prog 19 #[p.v a cap] v fun e w' => e = .returned (.tuple #[.int .i64 0, .int .i64 0, .int .i64 0, .int .i64 4]) ∧ Below v.heap.size v w') := fun h => by
    have h1 := compare19 (cap := cap) h HN.out
    have h2 : compE p = (0, 0, 0, 4) := by unfold compE; rw [if_pos hE, if_pos (by omega)]
    rw [h2] at h1
    exact h1
  have HNE : Hid (∀ {v : World}, IsPrts v a p.cards → Calls Try.prog 22 #[p.v a cap] v fun e w' => e = .returned (.tuple #[.int .i64 0, .int .i64 0]) ∧ Below v.heap.size v w') := fun h => by
    have h3 := needs22 (cap := cap) h HN.out
    have h2 : needsE p = (0, 0) := by unfold needsE; rw [if_pos hE, needV_few (by rw [many_all (by omega)]; omega)]; rfl
    rw [h2] at h3
    exact h3
  have HOL : Hid ((ordN p).length = 1) := by rw [Hid]; unfold ordN; rw [if_pos hE]; exact h1
  have HE := Lib.hid hE
  clear hn hE h1
  have hb0 : Below w.heap.size w (w.alloc (.cells (p.cells a cap) 26)) := (Below.refl _ w).alloc (Nat.le_refl _) _
  have q0 := World.alloc_heap_new w (.cells (p.cells a cap) 26)
  have HW := Lib.hid (And.intro hb0 (And.intro q0 (ha.mono hb0)))
  clear hb0 q0 ha
  go_enter Try.func6, Try.ntmps6
  go_wp2_with fail
  revert HW
  generalize w.alloc (.cells (p.cells a cap) 26) = w1
  intro HW
  have KP : Hid (∀ v, Below w1.heap.size w1 v → v.heap[w.heap.size]? = some (.cells (p.cells a cap) 26 (0, 0)) ∧ IsPrts v a p.cards ∧ Below w.heap.size w v) := fun v h => ⟨(h.block _ (heap_lt HW.out.2.1)).trans HW.out.2.1, HW.out.2.2.mono h, HW.out.1.trans (h.mono HW.out.1.size)⟩
  obtain ⟨k0, k1, k2, k3, k4⟩ := prs_cells (KP.out w1 (Below.refl _ _)).1
  refine (great5 (KP.out w1 (Below.refl _ _)).2.1).mono ?_
  rintro e b0 ⟨rfl, hb⟩
  have HB := Lib.hid hb
  clear hb k0 k1 k2 k3 k4
  rw [show decide (16 < p.cards.length) = false from by simpa using HN.out]
  obtain ⟨k0, k1, k2, k3, k4⟩ := prs_cells (KP.out b0 HB.out).1
  go_wp2_with fail
  refine ((HCM.out (KP.out b0 HB.out).2.1)).mono ?_
  rintro e b1 ⟨rfl, hb⟩
  have HB2 := Lib.hid (HB.out.trans (hb.mono HB.out.size))
  clear hb k0 k1 k2 k3 k4 HB
  have HB := HB2
  clear HB2
  obtain ⟨k0, k1, k2, k3, k4⟩ := prs_cells (KP.out b1 HB.out).1
  go_wp2_with fail
  refine (orders_c (KP.out b1 HB.out).2.1 HN.out).mono ?_
  rintro e b2 ⟨av, cv, rfl, hi, hb⟩
  have HB2 := Lib.hid (HB.out.trans (hb.mono HB.out.size))
  rw [HOL.out, HE.out]
  have HI := Lib.hid hi
  clear hi
  clear hb k0 k1 k2 k3 k4 HB
  have HB := HB2
  clear HB2
  have hb3 : Below b2.heap.size b2 (b2.alloc (.cells #[.slice av 1 cv] 32)) := (Below.refl _ b2).alloc (Nat.le_refl _) _
  have q3 : (b2.alloc (.cells #[.slice av 1 cv] 32)).heap[b2.heap.size]? = some (.cells #[.slice av 1 cv] 32 (0, 0)) := World.alloc_heap_new _ _
  have HI3 := Lib.hid (HI.out.mono hb3)
  have HQ3 := Lib.hid q3
  have HB3 := Lib.hid (HB.out.trans (hb3.mono HB.out.size))
  clear hb3 q3 HB HI
  obtain ⟨k0, k1, k2, k3, k4⟩ := prs_cells (KP.out _ HB3.out).1
  go_wp2_with fail
  clear k0 k1 k2 k3 k4
  revert HI3 HQ3 HB3
  generalize b2.alloc (.cells #[.slice av 1 cv] 32) = b3
  intro HI3 HQ3 HB3
  refine (HNE.out (KP.out b3 HB3.out).2.1).mono ?_
  rintro e b4 ⟨rfl, hb⟩
  have HB := Lib.hid (HB3.out.trans (hb.mono HB3.out.size))
  have HL := Lib.hid (HI3.out.mono hb)
  have HQ := Lib.hid ((hb.block _ (heap_lt HQ3.out)).trans HQ3.out)
  clear hb HI3 HQ3 HB3
  have c3 : b4.cell? ⟨b2.heap.size, 0, none⟩ = some (.slice av 1 cv) := by rw [cell_of_heap HQ.out]; rfl
  obtain ⟨k0, k1, k2, k3, k4⟩ := prs_cells (KP.out _ HB.out).1
  go_wp2_with fail
  refine (alive_any b4).mono ?_
  rintro e c9 ⟨rfl, hb⟩
  have HB9 := Lib.hid (HB.out.trans (hb.mono HB.out.size))
  clear hb
  go_wp2_with fail
  go_ret
  exact ⟨rfl, (KP.out _ HB9.out).2.2⟩
theorem fact_pow {n : Nat} (h : n ≤ 5) : fact n ≤ 2 ^ (n * n) := by
  rcases (show n = 0 ∨ n = 1 ∨ n = 2 ∨ n = 3 ∨ n = 4 ∨ n = 5 by omega) with e | e | e | e | e | e <;> subst e <;> decide
theorem orders_fact {p : Prs} : (ordersL p).length ≤ fact p.cards.length := by
  refine Nat.le_trans (onO_fact p.cards.length []) (fact_mono ?_)
  unfold freeN
  refine Nat.le_trans List.countP_le_length ?_
  simp
theorem pairs_len {n : Nat} (h : n ≤ 5) : (pairsL n).length = n * (n - 1) / 2 := by
  rcases (show n = 0 ∨ n = 1 ∨ n = 2 ∨ n = 3 ∨ n = 4 ∨ n = 5 by omega) with e | e | e | e | e | e <;> subst e <;> decide
theorem orders_perm {p : Prs} : ∀ o ∈ ordersL p, IsPerm p.cards.length o := fun o h => (orders_iff.1 h).1
/-- What is told of several orders. -/
theorem many_facts {p : Prs} (hv : p.valid = true) (h1 : 1 < (ordersL p).length) : 2 ≤ p.cards.length ∧ p.cards.length ≤ 5 ∧ (ordersL p).length ≤ 120 ∧
    1 ≤ needV (ordersL p) p.cards.length (allS (ordersL p).length) ∧ needV (ordersL p) p.cards.length (allS (ordersL p).length) ≤ p.cards.length * (p.cards.length - 1) / 2 ∧ (ordersL p).length ≤ 2 ^ needV (ordersL p) p.cards.length (allS (ordersL p).length) := by
  have hn5 := (valid_parts hv).1
  have hfew := orders_few hv
  have hf := orders_fact (p := p)
  have hn2 : 2 ≤ p.cards.length := by
    apply Classical.byContradiction
    intro h
    have : fact p.cards.length ≤ fact 1 := fact_mono (by omega)
    have h2 : fact 1 = 1 := by decide
    omega
  have hge := need_ge (n := p.cards.length) (by omega : (ordersL p).length ≤ 128) (Nat.le_trans hf (fact_pow hn5)) _ (allS (ordersL p).length) (Nat.le_refl _) (allS_lt (by omega)) (all_in _)
  have hle := need_le (by omega : (ordersL p).length ≤ 128) orders_perm orders_nodup _ (allS (ordersL p).length) (Nat.le_refl _) (allS_lt (by omega)) (all_in _)
  rw [many_all (by omega)] at hge
  refine ⟨hn2, hn5, hfew, ?_, ?_, hge⟩
  · apply Classical.byContradiction
    intro h
    have h0 : needV (ordersL p) p.cards.length (allS (ordersL p).length) = 0 := by omega
    rw [h0] at hge
    omega
  · rw [← pairs_len hn5]
    exact Nat.le_trans hle List.countP_le_length
set_option maxRecDepth 100000 in
set_option maxHeartbeats 8000000 in
theorem compare_many {p : Prs} {a : Option Addr} {cap : Nat} {w : World} (ha : IsPrts w a p.cards) (hn : p.cards.length ≤ 16) (hE : ordersE p = 0) (h1 : 1 < (ordersL p).length) {x y : Int} (hx : 0 ≤ x ∧ x ≤ 255) (hy : 0 ≤ y ∧ y ≤ 255) : Calls Try.prog 6 #[p.v a cap, .int .u8 x, .int .u8 y] w fun e w' => e = .returned (.bool true) ∧ Below w.heap.size w w' := by
  have HN := Lib.hid hn
  have hv := ordersE_valid hE
  obtain ⟨f1, f2, f3, f4, f5, f6⟩ := many_facts hv h1
  obtain ⟨ka, kb, hab, hbn, hcm, hbest⟩ := cmp_best (os := ordersL p) (n := p.cards.length) (by omega) f1
  have HCM : Hid (∀ {v : World}, IsPrts v a p.cards → Calls Try.prog 19 #[p.v a cap] v fun e w' => e = .returned (.tuple #[.int .i64 ka, .int .i64 kb, .int .i64 (worstN (ordersL p) (ka, kb) : Nat), .int .i64 0]) ∧ Below v.heap.size v w') := fun h => by
    have h3 := compare19 (cap := cap) h HN.out
    have h2 : compE p = ((ka : Int), (kb : Int), ((worstN (ordersL p) (ka, kb) : Nat) : Int), 0) := by unfold compE; rw [if_pos hE, if_neg (by omega), hcm]
    rw [h2] at h3
    exact h3
  have HNE : Hid (∀ {v : World}, IsPrts v a p.cards → Calls Try.prog 22 #[p.v a cap] v fun e w' => e = .returned (.tuple #[.int .i64 (needV (ordersL p) p.cards.length (allS (ordersL p).length) : Nat), .int .i64 0]) ∧ Below v.heap.size v w') := fun h => by
    have h3 := needs22 (cap := cap) h HN.out
    have h2 : needsE p = (((needV (ordersL p) p.cards.length (allS (ordersL p).length) : Nat) : Int), 0) := by unfold needsE; rw [if_pos hE]
    rw [h2] at h3
    exact h3
  have HOL : Hid (ordN p = ordersL p) := by rw [Hid]; unfold ordN; rw [if_pos hE]
  have HOS : Hid ((∀ o ∈ ordersL p, o.length = p.cards.length) ∧ (∀ o ∈ ordersL p, o.length ≤ 16)) := ⟨fun o ho => orders_at ho, fun o ho => by rw [orders_at ho]; exact hn⟩
  have HWO : Hid (∀ x, worstN (ordersL p) x ≤ 128) := fun x => Nat.le_trans (worst_le (by omega) x) (by omega)
  have HBS := Lib.hid hbest
  have HE := Lib.hid hE
  have HM := Lib.hid f6
  have HRS : Hid (p.cards.length * (p.cards.length - 1) / 2 ≤ 10) := by
    rw [Hid, ← pairs_len f2]
    rcases (show p.cards.length = 2 ∨ p.cards.length = 3 ∨ p.cards.length = 4 ∨ p.cards.length = 5 by omega) with e | e | e | e <;> rw [e] <;> decide
  have HF5 := Lib.hid f5
  clear hn hE hv hcm hbest f5 f6
  have hb0 : Below w.heap.size w (w.alloc (.cells (p.cells a cap) 26)) := (Below.refl _ w).alloc (Nat.le_refl _) _
  have q0 := World.alloc_heap_new w (.cells (p.cells a cap) 26)
  have HW := Lib.hid (And.intro hb0 (And.intro q0 (ha.mono hb0)))
  clear hb0 q0 ha
  go_enter Try.func6, Try.ntmps6
  go_wp2_with fail
  revert HW
  generalize w.alloc (.cells (p.cells a cap) 26) = w1
  intro HW
  have KP : Hid (∀ v, Below w1.heap.size w1 v → v.heap[w.heap.size]? = some (.cells (p.cells a cap) 26 (0, 0)) ∧ IsPrts v a p.cards ∧ Below w.heap.size w v) := fun v h => ⟨(h.block _ (heap_lt HW.out.2.1)).trans HW.out.2.1, HW.out.2.2.mono h, HW.out.1.trans (h.mono HW.out.1.size)⟩
  obtain ⟨k0, k1, k2, k3, k4⟩ := prs_cells (KP.out w1 (Below.refl _ _)).1
  refine (great5 (KP.out w1 (Below.refl _ _)).2.1).mono ?_
  rintro e b0 ⟨rfl, hb⟩
  have HB := Lib.hid hb
  clear hb k0 k1 k2 k3 k4
  rw [show decide (16 < p.cards.length) = false from by simpa using HN.out]
  obtain ⟨k0, k1, k2, k3, k4⟩ := prs_cells (KP.out b0 HB.out).1
  go_wp2_with fail
  refine ((HCM.out (KP.out b0 HB.out).2.1)).mono ?_
  rintro e b1 ⟨rfl, hb⟩
  have HB2 := Lib.hid (HB.out.trans (hb.mono HB.out.size))
  clear hb k0 k1 k2 k3 k4 HB
  have HB := HB2
  clear HB2
  obtain ⟨k0, k1, k2, k3, k4⟩ := prs_cells (KP.out b1 HB.out).1
  go_wp2_with fail
  refine (orders_c (KP.out b1 HB.out).2.1 HN.out).mono ?_
  rintro e b2 ⟨av, cv, rfl, hi, hb⟩
  have HB2 := Lib.hid (HB.out.trans (hb.mono HB.out.size))
  rw [HOL.out] at hi ⊢
  rw [HE.out]
  have HI := Lib.hid hi
  clear hi
  clear hb k0 k1 k2 k3 k4 HB
  have HB := HB2
  clear HB2
  have hm10 : needV (ordersL p) p.cards.length (allS (ordersL p).length) ≤ 10 := Nat.le_trans HF5.out HRS.out
  have hwo := HWO.out (ka, kb)
  revert HI HM HBS HNE HOS HWO HF5 f3 f4 h1 hm10 hwo
  generalize needV (ordersL p) p.cards.length (allS (ordersL p).length) = m
  generalize ordersL p = os
  intro h1 f3 f4 HNE HOS HWO HBS HM HF5 HI hm10 hwo
  have hb3 : Below b2.heap.size b2 (b2.alloc (.cells #[.slice av os.length cv] 32)) := (Below.refl _ b2).alloc (Nat.le_refl _) _
  have q3 : (b2.alloc (.cells #[.slice av os.length cv] 32)).heap[b2.heap.size]? = some (.cells #[.slice av os.length cv] 32 (0, 0)) := World.alloc_heap_new _ _
  have HI3 := Lib.hid (HI.out.mono hb3)
  have HQ3 := Lib.hid q3
  have HB3 := Lib.hid (HB.out.trans (hb3.mono HB.out.size))
  clear hb3 q3 HB HI
  obtain ⟨k0, k1, k2, k3, k4⟩ := prs_cells (KP.out _ HB3.out).1
  go_wp2_with fail
  clear k0 k1 k2 k3 k4
  revert HI3 HQ3 HB3
  generalize b2.alloc (.cells #[.slice av os.length cv] 32) = b3
  intro HI3 HQ3 HB3
  refine (HNE.out (KP.out b3 HB3.out).2.1).mono ?_
  rintro e b4 ⟨rfl, hb⟩
  have HB := Lib.hid (HB3.out.trans (hb.mono HB3.out.size))
  have HL := Lib.hid (HI3.out.mono hb)
  have HQ := Lib.hid ((hb.block _ (heap_lt HQ3.out)).trans HQ3.out)
  clear hb HI3 HQ3 HB3
  have c3 : b4.cell? ⟨b2.heap.size, 0, none⟩ = some (.slice av os.length cv) := by rw [cell_of_heap HQ.out]; rfl
  obtain ⟨k0, k1, k2, k3, k4⟩ := prs_cells (KP.out _ HB.out).1
  have HQU : Hid ((m : Int) ≤ wrap64 ((wrap64 ((p.cards.length : Int) * ((p.cards.length : Int) - 1))).tdiv 2)) := by
    have h5 := HF5.out
    rcases (show p.cards.length = 2 ∨ p.cards.length = 3 ∨ p.cards.length = 4 ∨ p.cards.length = 5 by omega) with e | e | e | e <;> rw [e] at h5 ⊢ <;> rw [Hid]
    · rw [show wrap64 ((wrap64 (((2 : Nat) : Int) * (((2 : Nat) : Int) - 1))).tdiv 2) = 1 by simp [wrap64]]; omega
    · rw [show wrap64 ((wrap64 (((3 : Nat) : Int) * (((3 : Nat) : Int) - 1))).tdiv 2) = 3 by simp [wrap64]]; omega
    · rw [show wrap64 ((wrap64 (((4 : Nat) : Int) * (((4 : Nat) : Int) - 1))).tdiv 2) = 6 by simp [wrap64]]; omega
    · rw [show wrap64 ((wrap64 (((5 : Nat) : Int) * (((5 : Nat) : Int) - 1))).tdiv 2) = 10 by simp [wrap64]]; omega
  go_wp2_with fail
  clear k0 k1 k2 k3 k4
  go_loop [98] (fun i => ∃ k : Nat, k ≤ os.length ∧ i = .int .i64 k) (fun i => os.length - (intOf i).toNat)
  case atStart => exact ⟨0, by omega, rfl⟩
  case round =>
    obtain ⟨k, hk, rfl⟩ := hrel
    by_cases hlt : k < os.length
    · obtain ⟨bb, off, rfl, ax, cx, hcell, _⟩ := HL.out k hlt
      have hlen := HOS.out.1 (os.getD k []) (by simp [hlt])
      rw [hlen] at hcell
      clear hlen
      go_wp2_with fail
      go_round
      case rel => exact ⟨k + 1, by omega, by go_num⟩
      case measure => simp [intOf]; omega
    · obtain rfl : k = os.length := by omega
      have hqu := HQU.out
      go_wp2_with fail
      clear hqu
      go_region
      have hi0 : 0 ≤ x % (p.cards.length : Int) ∧ x % (p.cards.length : Int) < p.cards.length := ⟨Int.emod_nonneg _ (by omega), Int.emod_lt_of_pos _ (by omega)⟩
      have hk0 : 0 ≤ y % (p.cards.length : Int) ∧ y % (p.cards.length : Int) < p.cards.length := ⟨Int.emod_nonneg _ (by omega), Int.emod_lt_of_pos _ (by omega)⟩
      obtain ⟨I, hI⟩ := Int.eq_ofNat_of_zero_le hi0.1
      obtain ⟨K, hK⟩ := Int.eq_ofNat_of_zero_le hk0.1
      rw [hI, hK]
      rw [hI] at hi0
      rw [hK] at hk0
      have hI2 : I < p.cards.length := by omega
      have hK2 : K < p.cards.length := by omega
      have HB5 := Lib.hid HB.out.drew
      have HL5 := Lib.hid (HL.out.mono (Below.refl _ b4).drew)
      have HQ5 : Hid (b4.drew.heap[b2.heap.size]? = some (.cells #[.slice av os.length cv] 32 (0, 0))) := HQ.out
      clear hi0 hk0 hI hK HB HL HQ c3
      revert HB5 HL5 HQ5
      generalize b4.drew = b5
      intro HB5 HL5 HQ5
      have HWC : Hid (∀ v, Below b5.heap.size b5 v → ∀ a b : Nat, Calls Try.prog 30 #[.int .i64 a, .int .i64 b, .pointer (some ⟨b2.heap.size, 0, none⟩)] v fun e w' => e = .returned (.int .i64 (worstN os (a, b) : Nat)) ∧ Below v.heap.size v w') := fun v h a b => worst30 (by omega) HOS.out.2 (HL5.out.mono h) ((h.block _ (heap_lt HQ5.out)).trans HQ5.out) a b
      have HCC : Hid (∀ v, Below b5.heap.size b5 v → v.cell? ⟨b2.heap.size, 0, none⟩ = some (.slice av os.length cv)) := fun v h => by rw [cell_of_heap ((h.block _ (heap_lt HQ5.out)).trans HQ5.out)]; rfl
      rcases Nat.lt_trichotomy I K with hik | hik | hik
      · have hb1 := HBS.out I K hik (by omega)
        have HB1 := Lib.hid hb1
        have HC1 := Lib.hid (HWC.out b5 (Below.refl _ _) ka kb)
        have HC2 : Hid (∀ v, Below b5.heap.size b5 v → _) := fun v h => HWC.out v h I K
        have hw1 := HWO.out (ka, kb)
        have hw2 := HWO.out (I, K)
        clear hb1 hwo
        revert HB1 HC1 HC2 hw1 hw2
        generalize worstN os (ka, kb) = W0
        generalize worstN os (I, K) = W1
        intro HB1 HC1 HC2 hw1 hw2
        have hle := HB1.out.1
        go_wp2_with fail
        refine HC1.out.mono ?_
        rintro e d1 ⟨rfl, hd1⟩
        have HD1 := Lib.hid hd1
        clear hd1
        go_wp2_with fail
        refine (HC2.out d1 HD1.out).mono ?_
        rintro e d2 ⟨rfl, hd2⟩
        have HD2 := Lib.hid (HD1.out.trans (hd2.mono HD1.out.size))
        clear hd2
        go_wp2_with fail
        refine (HC2.out d2 HD2.out).mono ?_
        rintro e d3 ⟨rfl, hd3⟩
        have HD3 := Lib.hid (HD2.out.trans (hd3.mono HD2.out.size))
        clear hd3
        by_cases heq : W1 = W0
        · have hlx := HB1.out.2 heq.symm
          subst heq
          have hq : ((W1 : Int) == (W1 : Int)) = true := by simp
          rcases Nat.lt_trichotomy I ka with e1 | e1 | e1
          · exact (hlx (.inl e1)).elim
          · subst e1
            have hkk : kb ≤ K := by
              apply Classical.byContradiction
              intro hh
              exact hlx (.inr ⟨rfl, by omega⟩)
            have hq2 : ((I : Int) == (I : Int)) = true := by simp
            clear hlx
            go_wp2_with fail
            go_loop [21, 193] (fun q i => ∃ j z : Nat, j ≤ m ∧ i = .int .i64 j ∧ q = .int .i64 z ∧ z ≤ 1024 ∧ Hid (z = 2 ^ j)) (fun _ i => m - (intOf i).toNat)
            case atStart => exact ⟨0, 1, by omega, rfl, rfl, by omega, rfl⟩
            case round =>
              obtain ⟨j, z, hj, rfl, rfl, hz, HZ⟩ := hrel
              by_cases hlt : j < m
              · have hz2 : z * 2 ≤ 1024 := by
                  rw [HZ.out, ← Nat.pow_succ]
                  exact Nat.le_trans (Nat.pow_le_pow_right (by decide) (show j.succ ≤ 10 by omega)) (by decide)
                go_wp2_with fail
                go_round
                case rel => exact ⟨j + 1, z * 2, by omega, by go_num, by go_num, hz2, by rw [Hid, Nat.pow_succ, HZ.out]⟩
                case measure => simp [intOf]; omega
              · obtain rfl : j = m := by omega
                have hfin : os.length ≤ z := by rw [HZ.out]; exact HM.out
                have c3 := HCC.out _ HD3.out
                go_wp2_with fail
                refine (alive_any _).mono ?_
                rintro e c9 ⟨rfl, hb⟩
                have HB9 := Lib.hid ((HB5.out.trans (HD3.out.mono HB5.out.size)).trans (hb.mono (HB5.out.trans (HD3.out.mono HB5.out.size)).size))
                clear hb
                go_wp2_with fail
                go_ret
                exact ⟨rfl, (KP.out _ HB9.out).2.2⟩
          · have hq2 : ((I : Int) == (ka : Int)) = false := by simp; omega
            clear hlx
            go_wp2_with fail
            go_loop [21, 193] (fun q i => ∃ j z : Nat, j ≤ m ∧ i = .int .i64 j ∧ q = .int .i64 z ∧ z ≤ 1024 ∧ Hid (z = 2 ^ j)) (fun _ i => m - (intOf i).toNat)
            case atStart => exact ⟨0, 1, by omega, rfl, rfl, by omega, rfl⟩
            case round =>
              obtain ⟨j, z, hj, rfl, rfl, hz, HZ⟩ := hrel
              by_cases hlt : j < m
              · have hz2 : z * 2 ≤ 1024 := by
                  rw [HZ.out, ← Nat.pow_succ]
                  exact Nat.le_trans (Nat.pow_le_pow_right (by decide) (show j.succ ≤ 10 by omega)) (by decide)
                go_wp2_with fail
                go_round
                case rel => exact ⟨j + 1, z * 2, by omega, by go_num, by go_num, hz2, by rw [Hid, Nat.pow_succ, HZ.out]⟩
                case measure => simp [intOf]; omega
              · obtain rfl : j = m := by omega
                have hfin : os.length ≤ z := by rw [HZ.out]; exact HM.out
                have c3 := HCC.out _ HD3.out
                go_wp2_with fail
                refine (alive_any _).mono ?_
                rintro e c9 ⟨rfl, hb⟩
                have HB9 := Lib.hid ((HB5.out.trans (HD3.out.mono HB5.out.size)).trans (hb.mono (HB5.out.trans (HD3.out.mono HB5.out.size)).size))
                clear hb
                go_wp2_with fail
                go_ret
                exact ⟨rfl, (KP.out _ HB9.out).2.2⟩
        · have hq : ((W1 : Int) == (W0 : Int)) = false := by simp; omega
          go_wp2_with fail
          go_loop [21, 193] (fun q i => ∃ j z : Nat, j ≤ m ∧ i = .int .i64 j ∧ q = .int .i64 z ∧ z ≤ 1024 ∧ Hid (z = 2 ^ j)) (fun _ i => m - (intOf i).toNat)
          case atStart => exact ⟨0, 1, by omega, rfl, rfl, by omega, rfl⟩
          case round =>
            obtain ⟨j, z, hj, rfl, rfl, hz, HZ⟩ := hrel
            by_cases hlt : j < m
            · have hz2 : z * 2 ≤ 1024 := by
                rw [HZ.out, ← Nat.pow_succ]
                exact Nat.le_trans (Nat.pow_le_pow_right (by decide) (show j.succ ≤ 10 by omega)) (by decide)
              go_wp2_with fail
              go_round
              case rel => exact ⟨j + 1, z * 2, by omega, by go_num, by go_num, hz2, by rw [Hid, Nat.pow_succ, HZ.out]⟩
              case measure => simp [intOf]; omega
            · obtain rfl : j = m := by omega
              have hfin : os.length ≤ z := by rw [HZ.out]; exact HM.out
              have c3 := HCC.out _ HD3.out
              go_wp2_with fail
              refine (alive_any _).mono ?_
              rintro e c9 ⟨rfl, hb⟩
              have HB9 := Lib.hid ((HB5.out.trans (HD3.out.mono HB5.out.size)).trans (hb.mono (HB5.out.trans (HD3.out.mono HB5.out.size)).size))
              clear hb
              go_wp2_with fail
              go_ret
              exact ⟨rfl, (KP.out _ HB9.out).2.2⟩
      · subst hik
        go_wp2_with fail
        refine (HWC.out b5 (Below.refl _ _) ka kb).mono ?_
        rintro e d1 ⟨rfl, hd1⟩
        have HD3 := Lib.hid hd1
        clear hd1
        have hq : ((worstN os (ka, kb) : Int) == (worstN os (ka, kb) : Int)) = true := by simp
        go_wp2_with fail
        go_loop [21, 193] (fun q i => ∃ j z : Nat, j ≤ m ∧ i = .int .i64 j ∧ q = .int .i64 z ∧ z ≤ 1024 ∧ Hid (z = 2 ^ j)) (fun _ i => m - (intOf i).toNat)
        case atStart => exact ⟨0, 1, by omega, rfl, rfl, by omega, rfl⟩
        case round =>
          obtain ⟨j, z, hj, rfl, rfl, hz, HZ⟩ := hrel
          by_cases hlt : j < m
          · have hz2 : z * 2 ≤ 1024 := by
              rw [HZ.out, ← Nat.pow_succ]
              exact Nat.le_trans (Nat.pow_le_pow_right (by decide) (show j.succ ≤ 10 by omega)) (by decide)
            go_wp2_with fail
            go_round
            case rel => exact ⟨j + 1, z * 2, by omega, by go_num, by go_num, hz2, by rw [Hid, Nat.pow_succ, HZ.out]⟩
            case measure => simp [intOf]; omega
          · obtain rfl : j = m := by omega
            have hfin : os.length ≤ z := by rw [HZ.out]; exact HM.out
            have c3 := HCC.out _ HD3.out
            go_wp2_with fail
            refine (alive_any _).mono ?_
            rintro e c9 ⟨rfl, hb⟩
            have HB9 := Lib.hid ((HB5.out.trans (HD3.out.mono HB5.out.size)).trans (hb.mono (HB5.out.trans (HD3.out.mono HB5.out.size)).size))
            clear hb
            go_wp2_with fail
            go_ret
            exact ⟨rfl, (KP.out _ HB9.out).2.2⟩
      · have hb1 := HBS.out K I hik (by omega)
        have HB1 := Lib.hid hb1
        have HC1 := Lib.hid (HWC.out b5 (Below.refl _ _) ka kb)
        have HC2 : Hid (∀ v, Below b5.heap.size b5 v → _) := fun v h => HWC.out v h K I
        have hw1 := HWO.out (ka, kb)
        have hw2 := HWO.out (K, I)
        clear hb1 hwo
        revert HB1 HC1 HC2 hw1 hw2
        generalize worstN os (ka, kb) = W0
        generalize worstN os (K, I) = W1
        intro HB1 HC1 HC2 hw1 hw2
        have hle := HB1.out.1
        go_wp2_with fail
        refine HC1.out.mono ?_
        rintro e d1 ⟨rfl, hd1⟩
        have HD1 := Lib.hid hd1
        clear hd1
        go_wp2_with fail
        refine (HC2.out d1 HD1.out).mono ?_
        rintro e d2 ⟨rfl, hd2⟩
        have HD2 := Lib.hid (HD1.out.trans (hd2.mono HD1.out.size))
        clear hd2
        go_wp2_with fail
        refine (HC2.out d2 HD2.out).mono ?_
        rintro e d3 ⟨rfl, hd3⟩
        have HD3 := Lib.hid (HD2.out.trans (hd3.mono HD2.out.size))
        clear hd3
        by_cases heq : W1 = W0
        · have hlx := HB1.out.2 heq.symm
          subst heq
          have hq : ((W1 : Int) == (W1 : Int)) = true := by simp
          rcases Nat.lt_trichotomy K ka with e1 | e1 | e1
          · exact (hlx (.inl e1)).elim
          · subst e1
            have hkk : kb ≤ I := by
              apply Classical.byContradiction
              intro hh
              exact hlx (.inr ⟨rfl, by omega⟩)
            have hq2 : ((K : Int) == (K : Int)) = true := by simp
            clear hlx
            go_wp2_with fail
            go_loop [21, 193] (fun q i => ∃ j z : Nat, j ≤ m ∧ i = .int .i64 j ∧ q = .int .i64 z ∧ z ≤ 1024 ∧ Hid (z = 2 ^ j)) (fun _ i => m - (intOf i).toNat)
            case atStart => exact ⟨0, 1, by omega, rfl, rfl, by omega, rfl⟩
            case round =>
              obtain ⟨j, z, hj, rfl, rfl, hz, HZ⟩ := hrel
              by_cases hlt : j < m
              · have hz2 : z * 2 ≤ 1024 := by
                  rw [HZ.out, ← Nat.pow_succ]
                  exact Nat.le_trans (Nat.pow_le_pow_right (by decide) (show j.succ ≤ 10 by omega)) (by decide)
                go_wp2_with fail
                go_round
                case rel => exact ⟨j + 1, z * 2, by omega, by go_num, by go_num, hz2, by rw [Hid, Nat.pow_succ, HZ.out]⟩
                case measure => simp [intOf]; omega
              · obtain rfl : j = m := by omega
                have hfin : os.length ≤ z := by rw [HZ.out]; exact HM.out
                have c3 := HCC.out _ HD3.out
                go_wp2_with fail
                refine (alive_any _).mono ?_
                rintro e c9 ⟨rfl, hb⟩
                have HB9 := Lib.hid ((HB5.out.trans (HD3.out.mono HB5.out.size)).trans (hb.mono (HB5.out.trans (HD3.out.mono HB5.out.size)).size))
                clear hb
                go_wp2_with fail
                go_ret
                exact ⟨rfl, (KP.out _ HB9.out).2.2⟩
          · have hq2 : ((K : Int) == (ka : Int)) = false := by simp; omega
            clear hlx
            go_wp2_with fail
            go_loop [21, 193] (fun q i => ∃ j z : Nat, j ≤ m ∧ i = .int .i64 j ∧ q = .int .i64 z ∧ z ≤ 1024 ∧ Hid (z = 2 ^ j)) (fun _ i => m - (intOf i).toNat)
            case atStart => exact ⟨0, 1, by omega, rfl, rfl, by omega, rfl⟩
            case round =>
              obtain ⟨j, z, hj, rfl, rfl, hz, HZ⟩ := hrel
              by_cases hlt : j < m
              · have hz2 : z * 2 ≤ 1024 := by
                  rw [HZ.out, ← Nat.pow_succ]
                  exact Nat.le_trans (Nat.pow_le_pow_right (by decide) (show j.succ ≤ 10 by omega)) (by decide)
                go_wp2_with fail
                go_round
                case rel => exact ⟨j + 1, z * 2, by omega, by go_num, by go_num, hz2, by rw [Hid, Nat.pow_succ, HZ.out]⟩
                case measure => simp [intOf]; omega
              · obtain rfl : j = m := by omega
                have hfin : os.length ≤ z := by rw [HZ.out]; exact HM.out
                have c3 := HCC.out _ HD3.out
                go_wp2_with fail
                refine (alive_any _).mono ?_
                rintro e c9 ⟨rfl, hb⟩
                have HB9 := Lib.hid ((HB5.out.trans (HD3.out.mono HB5.out.size)).trans (hb.mono (HB5.out.trans (HD3.out.mono HB5.out.size)).size))
                clear hb
                go_wp2_with fail
                go_ret
                exact ⟨rfl, (KP.out _ HB9.out).2.2⟩
        · have hq : ((W1 : Int) == (W0 : Int)) = false := by simp; omega
          go_wp2_with fail
          go_loop [21, 193] (fun q i => ∃ j z : Nat, j ≤ m ∧ i = .int .i64 j ∧ q = .int .i64 z ∧ z ≤ 1024 ∧ Hid (z = 2 ^ j)) (fun _ i => m - (intOf i).toNat)
          case atStart => exact ⟨0, 1, by omega, rfl, rfl, by omega, rfl⟩
          case round =>
            obtain ⟨j, z, hj, rfl, rfl, hz, HZ⟩ := hrel
            by_cases hlt : j < m
            · have hz2 : z * 2 ≤ 1024 := by
                rw [HZ.out, ← Nat.pow_succ]
                exact Nat.le_trans (Nat.pow_le_pow_right (by decide) (show j.succ ≤ 10 by omega)) (by decide)
              go_wp2_with fail
              go_round
              case rel => exact ⟨j + 1, z * 2, by omega, by go_num, by go_num, hz2, by rw [Hid, Nat.pow_succ, HZ.out]⟩
              case measure => simp [intOf]; omega
            · obtain rfl : j = m := by omega
              have hfin : os.length ≤ z := by rw [HZ.out]; exact HM.out
              have c3 := HCC.out _ HD3.out
              go_wp2_with fail
              refine (alive_any _).mono ?_
              rintro e c9 ⟨rfl, hb⟩
              have HB9 := Lib.hid ((HB5.out.trans (HD3.out.mono HB5.out.size)).trans (hb.mono (HB5.out.trans (HD3.out.mono HB5.out.size)).size))
              clear hb
              go_wp2_with fail
              go_ret
              exact ⟨rfl, (KP.out _ HB9.out).2.2⟩
end Go.Proofs.Ytnfhlbmapfoifaa
