/- WalkTours: the walk, but for the plain laws of Shortest and Most. Which plan is better: a strict order. The best sure order is the least one among all sure ones. Sure orders by their time; all orders, sorted. The plain law of Most: the fold over all orders finds the best. The plain law of Shortest: the fold over all tours finds the best, if it is a tour. WalkTours, walked. -/
import Derived.Test.YtphefhpmbahagaaT52
import Derived.Test.YtphefhpmbahagaaT60
import Derived.Test.YtphefhpmbahagaaT42
import Derived.Test.YtphefhpmbahagaaT44
namespace Go.Proofs.Ytphefhpmbahagaa
open Go.RowKit
set_option linter.unusedVariables false
set_option linter.unusedSimpArgs false

theorem best_len30 (t : Tr) : (shortE t).1.length ≤ 30 ∧ (mostE t).1.length ≤ 30 := by
  by_cases h : openE t true = 0
  · have hn := (fit_of_valid (openE_zero h).1).n
    have hb : (bestE t).1.length ≤ 6 := best_len6 hn 0 (-1) t.dawn
    unfold shortE mostE
    rw [if_pos h, if_pos h]
    refine ⟨?_, by simp; omega⟩
    split
    · simp; omega
    · simp
  · unfold shortE mostE
    rw [if_neg h, if_neg h]
    simp
set_option maxRecDepth 100000 in
set_option maxHeartbeats 4000000 in
theorem walkTours_of {t : Tr} (hlaw : rshortE t = shortE t ∧ rmostE t = mostE t) {A : TrA} {w : World} (ht : IsTr w t A) (hw : t.ways.length ≤ 9223372036854775807) (x y : Int) :
    Calls Try.prog 4 #[t.v A, .int .i64 x, .int .i64 y] w fun e w' => e = .returned (.bool true) ∧ Below w.heap.size w w' := by
  have hb0 : Below w.heap.size w (w.alloc (.cells (t.cells A) 25)) := (Below.refl _ w).alloc (Nat.le_refl _) _
  have q0 := World.alloc_heap_new w (.cells (t.cells A) 25)
  have HW := Lib.hid (And.intro hb0 (And.intro q0 (ht.mono hb0)))
  have HG : Hid (∀ v, IsTr v t A → Calls Try.prog 12 #[t.v A, .slice none 0 0, .int .i64 5] v fun e w' => e = .returned (.bool (t.great [] 5)) ∧ Below v.heap.size v w') := fun v h => great12 (o := []) (a := none) (cap := 0) h hw 5
  clear hb0 q0 ht hw
  go_enter Try.func4, Try.ntmps4
  go_upto_region 1 with fail
  revert HW
  generalize w.alloc (.cells (t.cells A) 25) = w1
  intro HW
  have KP : Hid (∀ v, Below w1.heap.size w1 v → v.heap[w.heap.size]? = some (.cells (t.cells A) 25 (0, 0)) ∧ IsTr v t A ∧ Below w.heap.size w v) := fun v h => ⟨(h.block _ (heap_lt HW.out.2.1)).trans HW.out.2.1, HW.out.2.2.mono h, HW.out.1.trans (h.mono HW.out.1.size)⟩
  have HB := Lib.hid (Below.refl w1.heap.size w1)
  obtain ⟨k0, k1, k2, k3, k4⟩ := tr_cells (KP.out w1 HB.out).1
  go_wp2_with fail
  refine (HG.out _ (KP.out w1 HB.out).2.1).mono ?_
  rintro e b0 ⟨rfl, hb⟩
  have HX := Lib.hid hb
  clear hb HB HG k0 k1 k2 k3 k4
  have HB := HX
  clear HX
  cases hg : t.great [] 5
  case true =>
    go_wp2_with fail
    refine (alive13 _).mono ?_
    rintro e c1 ⟨rfl, hb⟩
    have HX := Lib.hid (HB.out.trans (hb.mono HB.out.size))
    clear hb
    go_wp2_with fail
    go_ret
    exact ⟨rfl, (KP.out _ HX.out).2.2⟩
  have HN := Lib.hid (great_no hg)
  clear hg
  have hl30 := best_len30 t
  rcases h1 : toursE t with ⟨p1, p2, p3⟩
  rcases h2 : shortE t with ⟨so, se⟩
  rcases h3 : mostE t with ⟨mo, me⟩
  rcases h4 : beforeE t x y with ⟨r1, r2⟩
  rw [h2, h3] at hl30 hlaw
  have HTL : Hid (so.length ≤ 30 ∧ mo.length ≤ 30) := hl30
  have C23 : Hid (∀ v, Below w1.heap.size w1 v → Calls Try.prog 23 #[t.v A] v fun e w' => e = .returned (.tuple #[.int .i64 p1, .int .i64 p2, .int .i64 p3]) ∧ Below v.heap.size v w') := fun v h => by
    have := tours23 (KP.out v h).2.1 HN.out.1
    rw [h1] at this; exact this
  have C24 : Hid (∀ v, Below w1.heap.size w1 v → Calls Try.prog 24 #[t.v A] v fun e w' => e = .returned (.tuple #[.int .i64 p1, .int .i64 p2, .int .i64 p3]) ∧ Below v.heap.size v w') := fun v h => by
    have := rtours24 (KP.out v h).2.1 HN.out.1
    rw [h1] at this; exact this
  have C25 : Hid (∀ v, Below w1.heap.size w1 v → Calls Try.prog 25 #[t.v A] v fun e w' => ∃ av cv, e = .returned (.tuple #[.slice av so.length cv, .int .i64 se]) ∧ IsInts w' av so ∧ Below v.heap.size v w') := fun v h => by
    refine (shortest25 (KP.out v h).2.1 HN.out.1).mono ?_
    rw [h2]
    rintro e w' ⟨⟨po, ov, pa, pc⟩, rfl, ho, hat, hb⟩
    have ho : po = so := ho
    subst ho
    exact ⟨pa, pc, rfl, hat.ints, hb⟩
  have C26 : Hid (∀ v, Below w1.heap.size w1 v → Calls Try.prog 26 #[t.v A] v fun e w' => ∃ av cv, e = .returned (.tuple #[.slice av so.length cv, .int .i64 se]) ∧ IsInts w' av so ∧ Below v.heap.size v w') := fun v h => by
    refine (rshort26 (KP.out v h).2.1 HN.out.1).mono ?_
    rw [hlaw.1]
    rintro e w' ⟨po, pa, pc, rfl, ho, hat, hb⟩
    have ho : po = so := ho
    subst ho
    exact ⟨pa, pc, rfl, hat, hb⟩
  have C27 : Hid (∀ v, Below w1.heap.size w1 v → Calls Try.prog 27 #[t.v A] v fun e w' => ∃ av cv, e = .returned (.tuple #[.slice av mo.length cv, .int .i64 me]) ∧ IsInts w' av mo ∧ Below v.heap.size v w') := fun v h => by
    refine (most27 (KP.out v h).2.1 HN.out.1).mono ?_
    rw [h3]
    rintro e w' ⟨⟨po, ov, pa, pc⟩, rfl, ho, hat, hb⟩
    have ho : po = mo := ho
    subst ho
    exact ⟨pa, pc, rfl, hat.ints, hb⟩
  have C28 : Hid (∀ v, Below w1.heap.size w1 v → Calls Try.prog 28 #[t.v A] v fun e w' => ∃ av cv, e = .returned (.tuple #[.slice av mo.length cv, .int .i64 me]) ∧ IsInts w' av mo ∧ Below v.heap.size v w') := fun v h => by
    refine (rmost28 (KP.out v h).2.1 HN.out.1).mono ?_
    rw [hlaw.2]
    rintro e w' ⟨po, pa, pc, rfl, ho, hat, hb⟩
    have ho : po = mo := ho
    subst ho
    exact ⟨pa, pc, rfl, hat, hb⟩
  have C29 : Hid (∀ v, Below w1.heap.size w1 v → Calls Try.prog 29 #[t.v A, .int .i64 x, .int .i64 y] v fun e w' => e = .returned (.tuple #[.int .i64 r1, .int .i64 r2]) ∧ Below v.heap.size v w') := fun v h => by
    have := before29 (KP.out v h).2.1 HN.out.1 x y
    rw [h4] at this; exact this
  have C30 : Hid (∀ v, Below w1.heap.size w1 v → Calls Try.prog 30 #[t.v A, .int .i64 x, .int .i64 y] v fun e w' => e = .returned (.tuple #[.int .i64 r1, .int .i64 r2]) ∧ Below v.heap.size v w') := fun v h => by
    have := rbefore30 (KP.out v h).2.1 HN.out.1 x y
    rw [h4] at this; exact this
  clear h1 h2 h3 h4 HN hlaw hl30
  obtain ⟨k0, k1, k2, k3, k4⟩ := tr_cells (KP.out b0 HB.out).1
  go_wp2_with fail
  refine (C23.out _ HB.out).mono ?_
  rintro e b1 ⟨rfl, hb⟩
  have HX := Lib.hid (HB.out.trans (hb.mono HB.out.size))
  clear hb HB C23 k0 k1 k2 k3 k4
  have HB := HX
  clear HX
  obtain ⟨k0, k1, k2, k3, k4⟩ := tr_cells (KP.out b1 HB.out).1
  go_wp2_with fail
  refine (C24.out _ HB.out).mono ?_
  rintro e b2 ⟨rfl, hb⟩
  have HX := Lib.hid (HB.out.trans (hb.mono HB.out.size))
  clear hb HB C24 k0 k1 k2 k3 k4
  have HB := HX
  clear HX
  obtain ⟨k0, k1, k2, k3, k4⟩ := tr_cells (KP.out b2 HB.out).1
  go_wp2_with fail
  refine (C25.out _ HB.out).mono ?_
  rintro e b3 ⟨av1, cv1, rfl, hs1, hb⟩
  have HX := Lib.hid (And.intro (HB.out.trans (hb.mono HB.out.size)) hs1)
  clear hb HB C25 k0 k1 k2 k3 k4 hs1
  have HB := HX
  clear HX
  obtain ⟨k0, k1, k2, k3, k4⟩ := tr_cells (KP.out b3 HB.out.1).1
  go_wp2_with fail
  refine (C26.out _ HB.out.1).mono ?_
  rintro e b4 ⟨av2, cv2, rfl, hs2, hb⟩
  have HX := Lib.hid (And.intro (HB.out.1.trans (hb.mono HB.out.1.size)) (And.intro (HB.out.2.mono hb) hs2))
  clear hb HB C26 k0 k1 k2 k3 k4 hs2
  have HB := HX
  clear HX
  obtain ⟨k0, k1, k2, k3, k4⟩ := tr_cells (KP.out b4 HB.out.1).1
  go_wp2_with fail
  refine (C27.out _ HB.out.1).mono ?_
  rintro e b5 ⟨av3, cv3, rfl, hs3, hb⟩
  have HX := Lib.hid (And.intro (HB.out.1.trans (hb.mono HB.out.1.size)) (And.intro (HB.out.2.1.mono hb) (And.intro (HB.out.2.2.mono hb) hs3)))
  clear hb HB C27 k0 k1 k2 k3 k4 hs3
  have HB := HX
  clear HX
  obtain ⟨k0, k1, k2, k3, k4⟩ := tr_cells (KP.out b5 HB.out.1).1
  go_wp2_with fail
  refine (C28.out _ HB.out.1).mono ?_
  rintro e b6 ⟨av4, cv4, rfl, hs4, hb⟩
  have HX := Lib.hid (And.intro (HB.out.1.trans (hb.mono HB.out.1.size)) (And.intro (HB.out.2.1.mono hb) (And.intro (HB.out.2.2.1.mono hb) (And.intro (HB.out.2.2.2.mono hb) hs4))))
  clear hb HB C28 k0 k1 k2 k3 k4 hs4
  have HB := HX
  clear HX
  obtain ⟨k0, k1, k2, k3, k4⟩ := tr_cells (KP.out b6 HB.out.1).1
  go_wp2_with fail
  refine (C29.out _ HB.out.1).mono ?_
  rintro e b7 ⟨rfl, hb⟩
  have HX := Lib.hid (And.intro (HB.out.1.trans (hb.mono HB.out.1.size)) (And.intro (HB.out.2.1.mono hb) (And.intro (HB.out.2.2.1.mono hb) (And.intro (HB.out.2.2.2.1.mono hb) (HB.out.2.2.2.2.mono hb)))))
  clear hb HB C29 k0 k1 k2 k3 k4
  have HB := HX
  clear HX
  obtain ⟨k0, k1, k2, k3, k4⟩ := tr_cells (KP.out b7 HB.out.1).1
  go_wp2_with fail
  refine (C30.out _ HB.out.1).mono ?_
  rintro e b8 ⟨rfl, hb⟩
  have HX := Lib.hid (And.intro (HB.out.1.trans (hb.mono HB.out.1.size)) (And.intro (HB.out.2.1.mono hb) (And.intro (HB.out.2.2.1.mono hb) (And.intro (HB.out.2.2.2.1.mono hb) (HB.out.2.2.2.2.mono hb)))))
  clear hb HB C30 k0 k1 k2 k3 k4
  have HB := HX
  clear HX
  go_wp2_with fail
  refine (ints31 (ca := cv1) (cb := cv2) HB.out.2.1 HB.out.2.2.1 HTL.out.1 HTL.out.1).mono ?_
  rintro e d1 ⟨rfl, hb⟩
  have HX := Lib.hid (And.intro (HB.out.1.trans (hb.mono HB.out.1.size)) (And.intro (HB.out.2.2.2.1.mono hb) (HB.out.2.2.2.2.mono hb)))
  clear hb HB
  rw [show decide (so = so) = true by simp]
  go_wp2_with fail
  refine (ints31 (ca := cv3) (cb := cv4) HX.out.2.1 HX.out.2.2 HTL.out.2 HTL.out.2).mono ?_
  rintro e d2 ⟨rfl, hb⟩
  have HY := Lib.hid (HX.out.1.trans (hb.mono HX.out.1.size))
  clear hb HX
  rw [show decide (mo = mo) = true by simp]
  go_wp2_with fail
  refine (alive13 _).mono ?_
  rintro e d3 ⟨rfl, hb⟩
  have HZ := Lib.hid (HY.out.trans (hb.mono HY.out.size))
  clear hb HY
  go_wp2_with fail
  go_ret
  exact ⟨rfl, (KP.out _ HZ.out).2.2⟩
end Go.Proofs.Ytphefhpmbahagaa

namespace Go.Proofs.Ytphefhpmbahagaa
set_option linter.unusedVariables false
set_option linter.unusedSimpArgs false

theorem cmpI_lt (a b : Int) : cmpI a b < 0 ↔ a < b := by unfold cmpI; split <;> (try split) <;> simp <;> omega
theorem cmpI_eq (a b : Int) : cmpI a b = 0 ↔ a = b := by unfold cmpI; split <;> (try split) <;> simp <;> omega
theorem cmpL_cons (x y : Int) (r s : List Int) : cmpL (x :: r) (y :: s) = if cmpI x y = 0 then cmpL r s else cmpI x y := by rw [cmpL]
theorem cmpL_lt_cons (x y : Int) (r s : List Int) : cmpL (x :: r) (y :: s) < 0 ↔ x < y ∨ (x = y ∧ cmpL r s < 0) := by
  rw [cmpL_cons]
  have h1 := cmpI_lt x y
  have h2 := cmpI_eq x y
  by_cases e : cmpI x y = 0
  · rw [if_pos e]
    have := h2.1 e
    constructor
    · exact fun h => .inr ⟨this, h⟩
    · rintro (h | h)
      · omega
      · exact h.2
  · rw [if_neg e]
    constructor
    · exact fun h => .inl (h1.1 h)
    · rintro (h | h)
      · exact h1.2 h
      · exact absurd (h2.2 h.1) e
theorem cmpL_refl : ∀ l : List Int, cmpL l l = 0
  | [] => by simp [cmpL]
  | x :: r => by rw [cmpL_cons, if_pos ((cmpI_eq x x).2 rfl)]; exact cmpL_refl r
theorem cmpL_eq : ∀ l m : List Int, cmpL l m = 0 → l = m
  | [], [], _ => rfl
  | [], _ :: _, h => by simp [cmpL] at h
  | _ :: _, [], h => by simp [cmpL] at h
  | x :: r, y :: s, h => by
    rw [cmpL_cons] at h
    by_cases e : cmpI x y = 0
    · rw [if_pos e] at h
      rw [(cmpI_eq x y).1 e, cmpL_eq r s h]
    · rw [if_neg e] at h
      exact absurd h e
theorem cmpL_trans : ∀ l m k : List Int, cmpL l m < 0 → cmpL m k < 0 → cmpL l k < 0
  | [], [], _, h, _ => by simp [cmpL] at h
  | [], _ :: _, [], _, h => by simp [cmpL] at h
  | [], _ :: _, _ :: _, _, _ => by simp [cmpL]
  | _ :: _, [], _, h, _ => by simp [cmpL] at h
  | _ :: _, _ :: _, [], _, h => by simp [cmpL] at h
  | x :: r, y :: s, z :: t, h1, h2 => by
    rw [cmpL_lt_cons] at h1 h2 ⊢
    rcases h1 with h1 | ⟨h1, h1'⟩ <;> rcases h2 with h2 | ⟨h2, h2'⟩
    · exact .inl (by omega)
    · exact .inl (by omega)
    · exact .inl (by omega)
    · exact .inr ⟨h1.trans h2, cmpL_trans r s t h1' h2'⟩
theorem cmpL_total : ∀ l m : List Int, cmpL l m < 0 ∨ l = m ∨ cmpL m l < 0
  | [], [] => .inr (.inl rfl)
  | [], _ :: _ => .inl (by simp [cmpL])
  | _ :: _, [] => .inr (.inr (by simp [cmpL]))
  | x :: r, y :: s => by
    rw [cmpL_lt_cons, cmpL_lt_cons]
    rcases cmpL_total r s with h | h | h
    · by_cases e : x = y
      · exact .inl (.inr ⟨e, h⟩)
      · by_cases e2 : x < y
        · exact .inl (.inl e2)
        · exact .inr (.inr (.inl (by omega)))
    · by_cases e : x = y
      · exact .inr (.inl (by rw [e, h]))
      · by_cases e2 : x < y
        · exact .inl (.inl e2)
        · exact .inr (.inr (.inl (by omega)))
    · by_cases e : x = y
      · exact .inr (.inr (.inr ⟨e.symm, h⟩))
      · by_cases e2 : x < y
        · exact .inl (.inl e2)
        · exact .inr (.inr (.inl (by omega)))
/-- What it is for a plan to be better. -/
theorem betE_lt (x y : List Int × Int) : betE x y < 0 ↔ y.1.length < x.1.length ∨ (x.1.length = y.1.length ∧ (x.2 < y.2 ∨ (x.2 = y.2 ∧ cmpL x.1 y.1 < 0))) := by
  unfold betE
  have h1 := cmpI_lt (-(x.1.length : Int)) (-(y.1.length : Int))
  have h2 := cmpI_eq (-(x.1.length : Int)) (-(y.1.length : Int))
  have h3 := cmpI_lt x.2 y.2
  have h4 := cmpI_eq x.2 y.2
  by_cases e : cmpI (-(x.1.length : Int)) (-(y.1.length : Int)) = 0
  · have e' := h2.1 e
    rw [if_pos e]
    by_cases e2 : cmpI x.2 y.2 = 0
    · have e2' := h4.1 e2
      rw [if_pos e2]
      constructor
      · exact fun h => .inr ⟨by omega, .inr ⟨e2', h⟩⟩
      · rintro (h | ⟨_, h | h⟩)
        · omega
        · omega
        · exact h.2
    · rw [if_neg e2]
      constructor
      · exact fun h => .inr ⟨by omega, .inl (h3.1 h)⟩
      · rintro (h | ⟨_, h | h⟩)
        · omega
        · exact h3.2 h
        · exact absurd (h4.2 h.1) e2
  · rw [if_neg e]
    constructor
    · exact fun h => .inl (by have := h1.1 h; omega)
    · rintro (h | ⟨h, _⟩)
      · exact h1.2 (by omega)
      · exact absurd (h2.2 (by omega)) e
theorem betE_trans {x y z : List Int × Int} (h1 : betE x y < 0) (h2 : betE y z < 0) : betE x z < 0 := by
  rw [betE_lt] at h1 h2 ⊢
  rcases h1 with h1 | ⟨a1, h1 | ⟨b1, h1⟩⟩ <;> rcases h2 with h2 | ⟨a2, h2 | ⟨b2, h2⟩⟩
  · exact .inl (by omega)
  · exact .inl (by omega)
  · exact .inl (by omega)
  · exact .inl (by omega)
  · exact .inr ⟨by omega, .inl (by omega)⟩
  · exact .inr ⟨by omega, .inl (by omega)⟩
  · exact .inl (by omega)
  · exact .inr ⟨by omega, .inl (by omega)⟩
  · exact .inr ⟨by omega, .inr ⟨by omega, cmpL_trans _ _ _ h1 h2⟩⟩
theorem betE_irr (x : List Int × Int) : ¬ betE x x < 0 := by
  rw [betE_lt]
  rintro (h | ⟨_, h | ⟨_, h⟩⟩)
  · omega
  · omega
  · rw [cmpL_refl] at h; omega
theorem betE_total (x y : List Int × Int) : betE x y < 0 ∨ x = y ∨ betE y x < 0 := by
  rw [betE_lt, betE_lt]
  by_cases a : x.1.length = y.1.length
  · by_cases b : x.2 = y.2
    · rcases cmpL_total x.1 y.1 with h | h | h
      · exact .inl (.inr ⟨a, .inr ⟨b, h⟩⟩)
      · exact .inr (.inl (Prod.ext h b))
      · exact .inr (.inr (.inr ⟨a.symm, .inr ⟨b.symm, h⟩⟩))
    · by_cases b2 : x.2 < y.2
      · exact .inl (.inr ⟨a, .inl b2⟩)
      · exact .inr (.inr (.inr ⟨a.symm, .inl (by omega)⟩))
  · by_cases a2 : y.1.length < x.1.length
    · exact .inl (.inl a2)
    · exact .inr (.inr (.inl (by omega)))
/-- The least of a list: it is in it (or the first one), and none is better. -/
theorem leastE_mem : ∀ (l : List (List Int × Int)) (f : List Int × Int), leastE f l = f ∨ leastE f l ∈ l
  | [], f => .inl rfl
  | y :: l, f => by
    have h1 : leastE f (y :: l) = leastE (if betE y f < 0 then y else f) l := rfl
    rw [h1]
    rcases leastE_mem l (if betE y f < 0 then y else f) with h | h
    · rw [h]
      split
      · exact .inr (by simp)
      · exact .inl rfl
    · exact .inr (List.mem_cons_of_mem _ h)
theorem leastE_low : ∀ (l : List (List Int × Int)) (f : List Int × Int), ¬ betE f (leastE f l) < 0 ∧ ∀ x ∈ l, ¬ betE x (leastE f l) < 0
  | [], f => ⟨betE_irr f, fun x hx => by cases hx⟩
  | y :: l, f => by
    have h1 : leastE f (y :: l) = leastE (if betE y f < 0 then y else f) l := rfl
    rw [h1]
    obtain ⟨h2, h3⟩ := leastE_low l (if betE y f < 0 then y else f)
    by_cases e : betE y f < 0
    · rw [if_pos e] at h2 h3 ⊢
      refine ⟨fun h => h2 (betE_trans e h), fun x hx => ?_⟩
      rcases List.mem_cons.1 hx with rfl | hx
      · exact h2
      · exact h3 x hx
    · rw [if_neg e] at h2 h3 ⊢
      refine ⟨h2, fun x hx => ?_⟩
      rcases List.mem_cons.1 hx with rfl | hx
      · intro h
        rcases betE_total x f with h' | h' | h'
        · exact e h'
        · exact h2 (h' ▸ h)
        · exact h2 (betE_trans h' h)
      · exact h3 x hx
end Go.Proofs.Ytphefhpmbahagaa

namespace Go.Proofs.Ytphefhpmbahagaa
set_option linter.unusedVariables false
set_option linter.unusedSimpArgs false

/-- When one is through these views too; none: too late. -/
def Tr.sufT (t : Tr) : Int → Int → List Int → Option Int
  | _, left, [] => some left
  | f, left, v :: r => match t.thru f v.toNat left with
    | none => none
    | some q => t.sufT v q r
structure SufOk (t : Tr) (seen : Nat) (f left : Int) (x : List Int × Int) : Prop where
  nodup : x.1.Nodup
  view : ∀ v ∈ x.1, 0 ≤ v ∧ v < t.frm.length ∧ seen.testBit v.toNat = false
  time : t.sufT f left x.1 = some x.2
theorem or_bit {seen v j : Nat} : (seen ||| 2 ^ v).testBit j = (seen.testBit j || decide (v = j)) := by rw [Nat.testBit_or, Nat.testBit_two_pow]
theorem cand_some {t : Tr} {seen : Nat} {f left : Int} {v : Nat} {x : List Int × Int} (h : t.candV seen f left v = some x) : seen.testBit v = false ∧ ∃ q, t.thru f v left = some q ∧ x = ((v : Int) :: (t.bestV (seen ||| 2 ^ v) v q).1, (t.bestV (seen ||| 2 ^ v) v q).2) := by
  unfold Tr.candV at h
  cases hb : seen.testBit v
  · rw [hb] at h
    simp only [Bool.false_eq_true, if_false, Option.map_eq_some_iff] at h
    obtain ⟨q, hq, rfl⟩ := h
    exact ⟨rfl, q, hq, rfl⟩
  · rw [hb] at h; simp at h
theorem best_ok (t : Tr) : ∀ (d seen : Nat) (f left : Int), t.free seen ≤ d → SufOk t seen f left (t.bestV seen f left) := by
  intro d
  induction d with
  | zero =>
    intro seen f left h
    have h0 : t.free seen = 0 := by omega
    unfold Tr.bestV
    rw [h0]
    exact ⟨by simp [Tr.bestF], by simp [Tr.bestF], by simp [Tr.bestF, Tr.sufT]⟩
  | succ d ih =>
    intro seen f left h
    rw [best_step]
    rcases leastE_mem ((List.range t.frm.length).filterMap (t.candV seen f left)) ([], left) with e | e
    · rw [e]
      exact ⟨by simp, by simp, rfl⟩
    · rw [List.mem_filterMap] at e
      obtain ⟨v, hv, hx⟩ := e
      have hv : v < t.frm.length := by simpa using hv
      obtain ⟨hb, q, hq, e⟩ := cand_some hx
      rw [e]
      have hl := free_less t hv hb
      obtain ⟨i1, i2, i3⟩ := ih (seen ||| 2 ^ v) v q (by omega)
      refine ⟨?_, ?_, ?_⟩
      · refine List.nodup_cons.2 ⟨fun hm => ?_, i1⟩
        have := (i2 _ hm).2.2
        rw [or_bit] at this
        simp at this
      · intro y hy
        rcases List.mem_cons.1 hy with rfl | hy
        · exact ⟨by omega, by omega, by simpa using hb⟩
        · have := i2 y hy
          refine ⟨this.1, this.2.1, ?_⟩
          have h3 := this.2.2
          rw [or_bit] at h3
          simp at h3
          exact h3.1
      · show (match t.thru f ((v : Int)).toNat left with | none => none | some q => t.sufT v q _) = _
        rw [show ((v : Int)).toNat = v by simp, hq]
        exact i3
theorem betE_cons (v : Int) (x y : List Int × Int) : betE (v :: x.1, x.2) (v :: y.1, y.2) < 0 ↔ betE x y < 0 := by
  rw [betE_lt, betE_lt]
  simp only [List.length_cons, cmpL_lt_cons]
  constructor
  · rintro (h | ⟨h, h2 | ⟨h2, h3 | h3⟩⟩)
    · exact .inl (by omega)
    · exact .inr ⟨by omega, .inl h2⟩
    · omega
    · exact .inr ⟨by omega, .inr ⟨h2, h3.2⟩⟩
  · rintro (h | ⟨h, h2 | ⟨h2, h3⟩⟩)
    · exact .inl (by omega)
    · exact .inr ⟨by omega, .inl h2⟩
    · exact .inr ⟨by omega, .inr ⟨h2, .inr ⟨by first | trivial | rfl, h3⟩⟩⟩
theorem best_low (t : Tr) : ∀ (o : List Int) (s : Int) (seen : Nat) (f left : Int), SufOk t seen f left (o, s) → ¬ betE (o, s) (t.bestV seen f left) < 0
  | [], s, seen, f, left, h => by
    have hs : some left = some s := h.time
    cases hs
    rw [best_step]
    exact (leastE_low _ _).1
  | v :: r, s, seen, f, left, h => by
    obtain ⟨h1, h2, h3⟩ := h
    have hv := h2 v (by simp)
    have h3' : (match t.thru f v.toNat left with | none => none | some q => t.sufT v q r) = some s := h3
    cases hq : t.thru f v.toNat left with
    | none => rw [hq] at h3'; cases h3'
    | some q =>
      rw [hq] at h3'
      have hn := List.nodup_cons.1 h1
      have ih := best_low t r s (seen ||| 2 ^ v.toNat) v q ⟨hn.2, fun y hy => by
        have hy' := h2 y (List.mem_cons_of_mem _ hy)
        refine ⟨hy'.1, hy'.2.1, ?_⟩
        rw [or_bit, hy'.2.2]
        have : v.toNat ≠ y.toNat := fun e => hn.1 (by have : v = y := by omega
                                                      rw [this]; exact hy)
        simpa using this, h3'⟩
      have hvn : ((v.toNat : Nat) : Int) = v := by omega
      have hc : (v :: (t.bestV (seen ||| 2 ^ v.toNat) v q).1, (t.bestV (seen ||| 2 ^ v.toNat) v q).2) ∈ (List.range t.frm.length).filterMap (t.candV seen f left) := by
        rw [List.mem_filterMap]
        refine ⟨v.toNat, List.mem_range.2 (by omega), ?_⟩
        unfold Tr.candV
        rw [hv.2.2, hq, hvn]
        rfl
      rw [best_step]
      have hlow := (leastE_low ((List.range t.frm.length).filterMap (t.candV seen f left)) ([], left)).2 _ hc
      intro hx
      rcases betE_total (v :: r, s) (v :: (t.bestV (seen ||| 2 ^ v.toNat) v q).1, (t.bestV (seen ||| 2 ^ v.toNat) v q).2) with e | e | e
      · exact ih ((betE_cons v (r, s) _).1 e)
      · exact hlow (e ▸ hx)
      · exact hlow (betE_trans e hx)
end Go.Proofs.Ytphefhpmbahagaa

namespace Go.Proofs.Ytphefhpmbahagaa
set_option linter.unusedVariables false
set_option linter.unusedSimpArgs false

theorem suf_is (t : Tr) : ∀ (o : List Int) (f : Int) (now : Int × Int), (∀ v ∈ o, 0 ≤ v) →
    t.sufT f now.2 o = if (t.steps f now o).all (t.holds true) then some (t.over f now o).2 else none
  | [], f, now, _ => rfl
  | v :: r, f, now, h => by
    have hv : ((v.toNat : Nat) : Int) = v := by have := h v (by simp); omega
    have ih := suf_is t r v (t.after v (t.begin f v now)) (fun y hy => h y (List.mem_cons_of_mem _ hy))
    have e2 : (t.begin f v (now.2, now.2)).2 = (t.begin f v now).2 := rfl
    have e3 : (t.after v (t.begin f v now)).2 = (t.begin f v now).2 + (gs t.stay v.toNat).hi := rfl
    show (match t.thru f v.toNat now.2 with | none => none | some q => t.sufT v q r) = _
    have e1 : t.thru f v.toNat now.2 = if (t.begin f v now).2 ≤ (gs t.light v.toNat).hi then some ((t.begin f v now).2 + (gs t.stay v.toNat).hi) else none := by
      unfold Tr.thru
      rw [hv, e2]
    rw [e1]
    show _ = if (t.holds true (v, t.begin f v now) && (t.steps v (t.after v (t.begin f v now)) r).all (t.holds true)) = true then some (t.over v (t.after v (t.begin f v now)) r).2 else none
    have e4 : t.holds true (v, t.begin f v now) = decide ((t.begin f v now).2 ≤ (gs t.light v.toNat).hi) := rfl
    rw [e4]
    by_cases hle : (t.begin f v now).2 ≤ (gs t.light v.toNat).hi
    · rw [if_pos hle, decide_eq_true hle, Bool.true_and, ← ih, e3]
    · rw [if_neg hle, decide_eq_false hle, Bool.false_and]
      rfl
theorem is_suf {t : Tr} {o : List Int} (h : ∀ v ∈ o, 0 ≤ v) : t.sufT (-1) t.dawn o = if t.is true o then some (t.takes o) else none := by
  have := suf_is t o (-1) (t.dawn, t.dawn) h
  rw [over_at] at this
  exact this
/-! ### all orders: each is there; in which order -/
theorem preO_all {n : Nat} : ∀ (d : Nat) (pre x : List Int), x.length ≤ d → (pre ++ x).Nodup → (∀ v ∈ x, 0 ≤ v ∧ v < n) → pre ++ x ∈ preO n d pre
  | 0, pre, x, hl, _, _ => by
    have : x = [] := List.length_eq_zero_iff.1 (by omega)
    subst this
    simp [preO]
  | d + 1, pre, [], _, _, _ => by rw [List.append_nil, preO_succ]; simp
  | d + 1, pre, v :: x, hl, hd, hr => by
    rw [preO_succ]
    have hv := hr v (by simp)
    refine List.mem_cons_of_mem _ (List.mem_flatMap.2 ⟨v.toNat, List.mem_range.2 (by omega), ?_⟩)
    have hvn : ((v.toNat : Nat) : Int) = v := by omega
    have hn : v ∉ pre := fun hm => by
      rw [List.nodup_append] at hd
      exact hd.2.2 v hm v (by simp) rfl
    unfold preF
    rw [hvn, if_neg hn]
    have e : pre ++ v :: x = (pre ++ [v]) ++ x := by simp
    rw [e]
    exact preO_all d (pre ++ [v]) x (by simp at hl; omega) (by rw [← e]; exact hd) (fun y hy => hr y (List.mem_cons_of_mem _ hy))
theorem preO_pre {n : Nat} : ∀ (d : Nat) (pre x : List Int), x ∈ preO n d pre → ∃ y, x = pre ++ y
  | 0, pre, x, h => ⟨[], by simpa [preO] using h⟩
  | d + 1, pre, x, h => by
    rw [preO_succ, List.mem_cons, List.mem_flatMap] at h
    rcases h with rfl | ⟨v, _, h⟩
    · exact ⟨[], by simp⟩
    · unfold preF at h
      split at h
      · cases h
      · obtain ⟨y, rfl⟩ := preO_pre d _ x h
        exact ⟨(v : Int) :: y, by simp⟩
theorem cmpL_app : ∀ (p x y : List Int), cmpL (p ++ x) (p ++ y) = cmpL x y
  | [], x, y => rfl
  | a :: p, x, y => by
    show cmpL (a :: (p ++ x)) (a :: (p ++ y)) = _
    rw [cmpL_cons, if_pos ((cmpI_eq a a).2 rfl)]
    exact cmpL_app p x y
theorem preO_sorted {n : Nat} : ∀ (d : Nat) (pre : List Int), (preO n d pre).Pairwise fun a b => cmpL a b < 0
  | 0, pre => by simp [preO]
  | d + 1, pre => by
    rw [preO_succ, List.pairwise_cons]
    have first : ∀ v x, x ∈ preF n d pre v → ∃ y, x = pre ++ (v : Int) :: y := fun v x h => by
      unfold preF at h
      split at h
      · cases h
      · obtain ⟨y, rfl⟩ := preO_pre d _ x h
        exact ⟨y, by simp⟩
    refine ⟨fun x hx => ?_, ?_⟩
    · obtain ⟨v, _, hx⟩ := List.mem_flatMap.1 hx
      obtain ⟨y, rfl⟩ := first v x hx
      have h1 := cmpL_app pre [] ((v : Int) :: y)
      rw [List.append_nil] at h1
      rw [h1]
      simp [cmpL]
    · rw [List.pairwise_flatMap]
      refine ⟨fun v _ => ?_, ?_⟩
      · unfold preF
        split
        · exact List.Pairwise.nil
        · exact preO_sorted d _
      · refine List.Pairwise.imp (fun {v u} (hvu : v < u) x hx y hy => ?_) (List.pairwise_lt_range)
        obtain ⟨x', rfl⟩ := first v x hx
        obtain ⟨y', rfl⟩ := first u y hy
        rw [cmpL_app, cmpL_lt_cons]
        exact .inl (by omega)
end Go.Proofs.Ytphefhpmbahagaa

namespace Go.Proofs.Ytphefhpmbahagaa
set_option linter.unusedVariables false
set_option linter.unusedSimpArgs false

abbrev Tr.key (t : Tr) (x : List Int) : List Int × Int := (x, t.takes x)
theorem cmpL_not {x y : List Int} (h : cmpL x y < 0) : ¬ cmpL y x < 0 := fun h2 => by
  have := cmpL_trans _ _ _ h h2
  rw [cmpL_refl] at this
  omega
theorem moF_eq {t : Tr} {b x : List Int} (h : cmpL b x < 0 ∨ b = x) : moF t b x = if t.is true x = true ∧ betE (t.key x) (t.key b) < 0 then x else b := by
  rcases h with h | rfl
  · have hn := cmpL_not h
    have hb := betE_lt (t.key x) (t.key b)
    simp only [] at hb
    unfold moF
    cases hs : t.is true x
    · simp
    · by_cases h1 : b.length < x.length
      · rw [if_pos rfl, if_pos h1, if_pos ⟨rfl, hb.2 (.inl h1)⟩]
      · rw [if_pos rfl, if_neg h1]
        by_cases h2 : x.length = b.length
        · rw [if_pos h2]
          by_cases h3 : t.takes x < t.takes b
          · rw [if_pos h3, if_pos ⟨rfl, hb.2 (.inr ⟨h2, .inl h3⟩)⟩]
          · rw [if_neg h3, if_neg]
            rintro ⟨_, h4⟩
            rcases hb.1 h4 with h5 | ⟨_, h5 | ⟨_, h5⟩⟩
            · exact h1 h5
            · exact h3 h5
            · exact hn h5
        · rw [if_neg h2, if_neg]
          rintro ⟨_, h4⟩
          rcases hb.1 h4 with h5 | ⟨h5, _⟩
          · exact h1 h5
          · exact h2 h5
  · unfold moF
    simp
theorem moR_inv (t : Tr) : ∀ j, j ≤ (preO t.frm.length t.frm.length []).length →
    (moR t j = [] ∨ moR t j ∈ (preO t.frm.length t.frm.length []).take j) ∧ t.is true (moR t j) = true ∧ ∀ x ∈ (preO t.frm.length t.frm.length []).take j, t.is true x = true → ¬ betE (t.key x) (t.key (moR t j)) < 0
  | 0, _ => ⟨.inl rfl, rfl, fun x hx => by simp at hx⟩
  | j + 1, hj => by
    obtain ⟨i1, i2, i3⟩ := moR_inv t j (by omega)
    have hx : (preO t.frm.length t.frm.length [])[j]? = some ((preO t.frm.length t.frm.length [])[j]'(by omega)) := List.getElem?_eq_getElem _
    have hsort := preO_sorted (n := t.frm.length) t.frm.length []
    generalize hxe : (preO t.frm.length t.frm.length [])[j]'(by omega) = x at hx
    have hst := moR_succ hx
    have hbef : cmpL (moR t j) x < 0 ∨ moR t j = x := by
      rcases i1 with e | e
      · rw [e]
        cases x with
        | nil => exact .inr rfl
        | cons y r => exact .inl (by simp [cmpL])
      · obtain ⟨i, hi, e⟩ := List.getElem_of_mem e
        have hij : i < j := by simp at hi; omega
        rw [List.getElem_take] at e
        have := List.pairwise_iff_getElem.1 hsort i j (by omega) (by omega) hij
        rw [e, hxe] at this
        exact .inl this
    rw [hst, moF_eq hbef]
    have htake : (preO t.frm.length t.frm.length []).take (j + 1) = (preO t.frm.length t.frm.length []).take j ++ [x] := by rw [List.take_add_one, hx]; rfl
    rw [htake]
    by_cases hc : t.is true x = true ∧ betE (t.key x) (t.key (moR t j)) < 0
    · rw [if_pos hc]
      refine ⟨.inr (by simp), hc.1, fun y hy hsy hlt => ?_⟩
      rcases List.mem_append.1 hy with hy | hy
      · exact i3 y hy hsy (betE_trans hlt hc.2)
      · have : y = x := by simpa using hy
        subst this
        exact betE_irr _ hlt
    · rw [if_neg hc]
      refine ⟨?_, i2, fun y hy hsy hlt => ?_⟩
      · rcases i1 with e | e
        · exact .inl e
        · exact .inr (List.mem_append_left _ e)
      · rcases List.mem_append.1 hy with hy | hy
        · exact i3 y hy hsy hlt
        · have : y = x := by simpa using hy
          subst this
          exact hc ⟨hsy, hlt⟩
/-- The best is an order, sure, with its time. -/
theorem best_facts (t : Tr) : (bestE t).1.Nodup ∧ (∀ v ∈ (bestE t).1, 0 ≤ v ∧ v < t.frm.length) ∧ t.is true (bestE t).1 = true ∧ bestE t = t.key (bestE t).1 := by
  obtain ⟨h1, h2, h3⟩ := best_ok t (t.free 0) 0 (-1) t.dawn (Nat.le_refl _)
  have h2' : ∀ v ∈ (bestE t).1, 0 ≤ v ∧ v < t.frm.length := fun v hv => ⟨(h2 v hv).1, (h2 v hv).2.1⟩
  have h3' : t.sufT (-1) t.dawn (bestE t).1 = some (bestE t).2 := h3
  rw [is_suf (fun v hv => (h2' v hv).1)] at h3'
  cases hs : t.is true (bestE t).1
  · rw [hs] at h3'; simp at h3'
  · rw [hs] at h3'
    simp at h3'
    exact ⟨h1, h2', rfl, Prod.ext rfl h3'.symm⟩
theorem sure_low {t : Tr} {x : List Int} (hd : x.Nodup) (hr : ∀ v ∈ x, 0 ≤ v ∧ v < t.frm.length) (hs : t.is true x = true) : ¬ betE (t.key x) (bestE t) < 0 :=
  best_low t x (t.takes x) 0 (-1) t.dawn ⟨hd, fun v hv => ⟨(hr v hv).1, (hr v hv).2, by simp⟩, by show t.sufT (-1) t.dawn x = _; rw [is_suf (fun v hv => (hr v hv).1), hs]; rfl⟩
theorem most_law (t : Tr) : rmostE t = mostE t := by
  obtain ⟨b1, b2, b3, b4⟩ := best_facts t
  obtain ⟨i1, i2, i3⟩ := moR_inv t _ (Nat.le_refl (preO t.frm.length t.frm.length []).length)
  rw [List.take_length] at i1 i3
  have hmem := preO_all (n := t.frm.length) t.frm.length [] (bestE t).1 (all_in _ _ b1 b2).1 (by simpa using b1) b2
  have hlow := i3 _ hmem b3
  have hm : moR t (preO t.frm.length t.frm.length []).length = (bestE t).1 := by
    have hg : (∀ v ∈ moR t (preO t.frm.length t.frm.length []).length, 0 ≤ v ∧ v < t.frm.length) ∧ (moR t (preO t.frm.length t.frm.length []).length).Nodup := by
      rcases i1 with e | e
      · rw [e]; exact ⟨(fun v hv => by cases hv), List.nodup_nil⟩
      · exact preO_mem _ _ _ e (fun v hv => by cases hv) List.nodup_nil
    have h2 := sure_low hg.2 hg.1 i2
    rw [List.nil_append, ← b4] at hlow
    rcases betE_total (t.key (moR t (preO t.frm.length t.frm.length []).length)) (bestE t) with h | h | h
    · exact absurd h h2
    · rw [← h]
    · exact absurd h hlow
  unfold rmostE mostE
  rw [hm]
end Go.Proofs.Ytphefhpmbahagaa

namespace Go.Proofs.Ytphefhpmbahagaa
set_option linter.unusedVariables false
set_option linter.unusedSimpArgs false

theorem tours_filter (n : Nat) : toursL n = (preO n n []).filter (fun x => decide (x.length = n)) := (preO_tour n [] (by simp)).symm
theorem tours_sorted (n : Nat) : (toursL n).Pairwise fun a b => cmpL a b < 0 := by
  rw [tours_filter]
  exact (preO_sorted n []).filter _
theorem tours_all {n : Nat} {x : List Int} (hl : x.length = n) (hd : x.Nodup) (hr : ∀ v ∈ x, 0 ≤ v ∧ v < n) : x ∈ toursL n := by
  rw [tours_filter, List.mem_filter]
  have := preO_all (n := n) n [] x (by omega) (by simpa using hd) hr
  rw [List.nil_append] at this
  exact ⟨this, by simpa using hl⟩
theorem shR_inv (t : Tr) : ∀ j, j ≤ (toursL t.frm.length).length →
    (shR t j = none ∧ ∀ x ∈ (toursL t.frm.length).take j, t.is true x = false) ∨
    ∃ m, shR t j = some m ∧ m ∈ (toursL t.frm.length).take j ∧ t.is true m = true ∧ ∀ x ∈ (toursL t.frm.length).take j, t.is true x = true → ¬ betE (t.key x) (t.key m) < 0
  | 0, _ => .inl ⟨rfl, fun x hx => by simp at hx⟩
  | j + 1, hj => by
    have ih := shR_inv t j (by omega)
    have hx : (toursL t.frm.length)[j]? = some ((toursL t.frm.length)[j]'(by omega)) := List.getElem?_eq_getElem _
    have hsort := tours_sorted t.frm.length
    generalize hxe : (toursL t.frm.length)[j]'(by omega) = x at hx
    have htake : (toursL t.frm.length).take (j + 1) = (toursL t.frm.length).take j ++ [x] := by rw [List.take_add_one, hx]; rfl
    have hxl := (tour_mem (List.mem_of_getElem? hx)).1
    rw [shR_succ hx, htake]
    cases hs : t.is true x
    · rcases ih with ⟨e, h⟩ | ⟨m, e, h1, h2, h3⟩
      · refine .inl ⟨by rw [e]; unfold shF; rw [hs]; rfl, fun y hy => ?_⟩
        rcases List.mem_append.1 hy with hy | hy
        · exact h y hy
        · have : y = x := by simpa using hy
          rw [this, hs]
      · refine .inr ⟨m, by rw [e]; unfold shF; rw [hs]; rfl, List.mem_append_left _ h1, h2, fun y hy hsy => ?_⟩
        rcases List.mem_append.1 hy with hy | hy
        · exact h3 y hy hsy
        · have : y = x := by simpa using hy
          rw [this, hs] at hsy
          cases hsy
    · rcases ih with ⟨e, h⟩ | ⟨m, e, h1, h2, h3⟩
      · refine .inr ⟨x, by rw [e]; unfold shF; rw [hs]; rfl, by simp, hs, fun y hy hsy => ?_⟩
        rcases List.mem_append.1 hy with hy | hy
        · rw [h y hy] at hsy; cases hsy
        · have : y = x := by simpa using hy
          rw [this]; exact betE_irr _
      · have hml := (tour_mem (List.mem_of_mem_take h1)).1
        have hbef : cmpL m x < 0 := by
          obtain ⟨i, hi, e⟩ := List.getElem_of_mem h1
          have hij : i < j := by simp at hi; omega
          rw [List.getElem_take] at e
          have := List.pairwise_iff_getElem.1 hsort i j (by omega) (by omega) hij
          rw [e, hxe] at this
          exact this
        have hb := betE_lt (t.key x) (t.key m)
        simp only [] at hb
        by_cases hlt : t.takes x < t.takes m
        · have hbet : betE (t.key x) (t.key m) < 0 := hb.2 (.inr ⟨by omega, .inl hlt⟩)
          refine .inr ⟨x, by rw [e]; unfold shF; rw [hs]; simp only [if_true]; rw [if_pos hlt], by simp, hs, fun y hy hsy hh => ?_⟩
          rcases List.mem_append.1 hy with hy | hy
          · exact h3 y hy hsy (betE_trans hh hbet)
          · have : y = x := by simpa using hy
            rw [this] at hh; exact betE_irr _ hh
        · refine .inr ⟨m, by rw [e]; unfold shF; rw [hs]; simp only [if_true]; rw [if_neg hlt], List.mem_append_left _ h1, h2, fun y hy hsy hh => ?_⟩
          rcases List.mem_append.1 hy with hy | hy
          · exact h3 y hy hsy hh
          · have : y = x := by simpa using hy
            rw [this] at hh
            rcases hb.1 hh with h5 | ⟨_, h5 | ⟨_, h5⟩⟩
            · omega
            · exact hlt h5
            · exact cmpL_not hbef h5
theorem short_law (t : Tr) : rshortE t = shortE t := by
  obtain ⟨b1, b2, b3, b4⟩ := best_facts t
  have hble := (all_in _ _ b1 b2).1
  have hinv := shR_inv t _ (Nat.le_refl (toursL t.frm.length).length)
  rw [List.take_length] at hinv
  unfold rshortE shortE
  by_cases hE : openE t true = 0
  · rw [if_pos hE, if_pos hE]
    rcases hinv with ⟨e, h⟩ | ⟨m, e, h1, h2, h3⟩
    · rw [e, if_neg]
      intro hl
      have := h _ (tours_all hl b1 b2)
      rw [b3] at this
      cases this
    · obtain ⟨m1, m2, m3⟩ := tour_mem h1
      have hlow := sure_low m3 m2 h2
      have hl : (bestE t).1.length = t.frm.length := by
        by_cases hh : (bestE t).1.length = t.frm.length
        · exact hh
        · exact absurd ((betE_lt (t.key m) (bestE t)).2 (.inl (by show (bestE t).1.length < m.length; omega))) hlow
      have h4 := h3 _ (tours_all hl b1 b2) b3
      rw [← b4] at h4
      rw [e, if_pos hl]
      rcases betE_total (t.key m) (bestE t) with h | h | h
      · exact absurd h hlow
      · rw [← h]
      · exact absurd h h4
  · rw [if_neg hE, if_neg hE]
end Go.Proofs.Ytphefhpmbahagaa

namespace Go.Proofs.Ytphefhpmbahagaa
open Go.RowKit

theorem walkTours_any {t : Tr} {A : TrA} {w : World} (ht : IsTr w t A) (hw : t.ways.length ≤ 9223372036854775807) (x y : Int) :
    Calls Try.prog 4 #[t.v A, .int .i64 x, .int .i64 y] w fun e w' => e = .returned (.bool true) ∧ Below w.heap.size w w' := walkTours_of ⟨short_law t, most_law t⟩ ht hw x y
end Go.Proofs.Ytphefhpmbahagaa

