/- Far too long, or not. WalkOrders: the walk. -/
import Derived.Test.YtphefhpmbahagaaT21
import Derived.Lib.MinMax
import Derived.Test.YtphefhpmbahagaaT50
import Derived.Test.YtphefhpmbahagaaT33
namespace Go.Proofs.Ytphefhpmbahagaa
open Go.RowKit
set_option linter.unusedVariables false
set_option linter.unusedSimpArgs false

def max5 (a b c d e : Nat) : Nat := max (max (max (max a b) c) d) e
@[local go_sem high] theorem run_max5 {P : Program} (w : World) (ts : Array TypeId) (t : TypeId) (a b c d e : Nat) :
    (Builtin.max_ ts t #[.int .i64 (a : Int), .int .i64 (b : Int), .int .i64 (c : Int), .int .i64 (d : Int), .int .i64 (e : Int)]).run P w = .ok (.int .i64 ((max5 a b c d e : Nat) : Int)) w := by
  have h : ∀ x y : Nat, Builtin.max2 (.int .i64 (x : Int)) (.int .i64 (y : Int)) = pure (.int .i64 ((max x y : Nat) : Int)) := fun x y => by
    have e : (if (y : Int) > (x : Int) then (y : Int) else (x : Int)) = ((max x y : Nat) : Int) := by split <;> omega
    simp only [Builtin.max2, e]
  simp only [Builtin.max_, List.foldlM, h, Sem.run_bind, Sem.run_pure, Result.andThen_ok]
  rfl
/-- The longest of the lists. -/
def mostW (l : List (List Spn)) (m : Nat) : Nat := l.foldl (fun m r => max m r.length) m
theorem mostW_step {l : List (List Spn)} {m k : Nat} (hk : k < l.length) : mostW (l.take (k + 1)) m = max (mostW (l.take k) m) (gw l k).length := by
  have e : l.take (k + 1) = l.take k ++ [gw l k] := by rw [List.take_add_one, gw_at hk]; rfl
  rw [mostW, e, List.foldl_append]
  rfl
theorem mostW_le : ∀ (l : List (List Spn)) (m n : Nat), mostW l m ≤ n ↔ m ≤ n ∧ ∀ r ∈ l, r.length ≤ n
  | [], m, n => by simp [mostW]
  | x :: r, m, n => by
    have := mostW_le r (max m x.length) n
    rw [mostW] at this ⊢
    rw [List.foldl_cons, this]
    simp only [List.mem_cons, forall_eq_or_imp, Nat.max_le, and_assoc]
def Tr.most (t : Tr) (o : List Int) : Nat := mostW t.ways (max5 t.frm.length t.ways.length t.stay.length t.light.length o.length)
theorem most_small {t : Tr} {o : List Int} (h : t.most o ≤ 16) : t.Small ∧ o.length ≤ 16 := by
  have h := (mostW_le _ _ _).1 h
  have h1 := h.1
  unfold max5 at h1
  exact ⟨⟨by omega, by omega, by omega, by omega, h.2⟩, by omega⟩
def Tr.great (t : Tr) (o : List Int) (m : Nat) : Bool := decide (16 < t.most o) || (decide (m < t.frm.length) && t.valid)
theorem great_no {t : Tr} {o : List Int} {m : Nat} (h : t.great o m = false) : t.Small ∧ o.length ≤ 16 ∧ ¬(m < t.frm.length ∧ t.valid = true) := by
  unfold Tr.great at h
  simp only [Bool.or_eq_false_iff, decide_eq_false_iff_not, Bool.and_eq_false_iff] at h
  have h2 := most_small (t := t) (o := o) (by omega)
  refine ⟨h2.1, h2.2, fun hh => ?_⟩
  rcases h.2 with h3 | h3
  · exact h3 hh.1
  · rw [hh.2] at h3; cases h3
set_option maxRecDepth 100000 in
set_option maxHeartbeats 4000000 in
theorem great12 {t : Tr} {A : TrA} {w : World} (ht : IsTr w t A) {o : List Int} {a : Option Addr} {cap : Nat} (hw : t.ways.length ≤ 9223372036854775807) (m : Nat) :
    Calls Try.prog 12 #[t.v A, .slice a o.length cap, .int .i64 m] w fun e w' => e = .returned (.bool (t.great o m)) ∧ Below w.heap.size w w' := by
  have hb : Below w.heap.size w (w.alloc (.cells (t.cells A) 25)) := (Below.refl _ w).alloc (Nat.le_refl _) _
  have hq := World.alloc_heap_new w (.cells (t.cells A) 25)
  have HB := Lib.hid (And.intro hb (And.intro hq (ht.mono hb)))
  have HM : Hid (t.most o = mostW t.ways (max5 t.frm.length t.ways.length t.stay.length t.light.length o.length)) := rfl
  clear hb hq ht
  go_enter Try.func12, Try.ntmps12
  go_upto_region 1 with fail
  revert HB
  generalize (w.alloc (.cells (t.cells A) 25)) = w1
  intro HB
  obtain ⟨k0, k1, k2, k3, k4⟩ := tr_cells HB.out.2.1
  go_wp2_with fail
  revert HM
  generalize max5 t.frm.length t.ways.length t.stay.length t.light.length o.length = M0
  intro HM
  go_loopw [7, 9, 28] (fun v7 _ i wr => ∃ k : Nat, k ≤ t.ways.length ∧ i = .int .i64 k ∧ wr = w1 ∧ ∃ M : Nat, v7 = .int .i64 M ∧ Hid (M = mostW (t.ways.take k) M0)) (fun _ _ i _ => t.ways.length - (intOf i).toNat)
  case atStart => exact ⟨0, by omega, rfl, rfl, M0, rfl, rfl⟩
  case round =>
    obtain ⟨k, hk, rfl, rfl, M, rfl, HMk⟩ := hrel
    by_cases hlt : k < t.ways.length
    · obtain ⟨wb, wo, w0, ai, ci, c0, _⟩ := HB.out.2.2.ways k hlt
      rw [w0] at k2
      have HS := Lib.hid (mostW_step (m := M0) hlt)
      go_wp2_with fail
      go_roundw
      case rel => exact ⟨k + 1, by omega, by go_num, (by first | trivial | rfl), max M (gw t.ways k).length, by go_num, by rw [Hid, HMk.out, HS.out]⟩
      case measure => simp [intOf]; omega
    · obtain rfl : k = t.ways.length := by omega
      have HM2 : Hid (t.most o = M) := by rw [Hid, HM.out, HMk.out, List.take_length]
      clear HM HMk
      by_cases h16 : 16 < M
      · go_wp2_with fail
        go_ret
        refine ⟨ret_bool ?_, HB.out.1⟩
        rw [Tr.great, HM2.out]
        simp [h16]
      · have HSM := Lib.hid (most_small (t := t) (o := o) (by rw [HM2.out]; omega)).1
        by_cases hf : m < t.frm.length
        · go_wp2_with fail
          refine (rtour33 HB.out.2.2 HSM.out).mono ?_
          rintro e w3 ⟨rfl, hb3⟩
          have HB3 := Lib.hid (HB.out.1.trans (hb3.mono HB.out.1.size))
          clear hb3
          go_wp2_with fail
          go_ret
          refine ⟨ret_bool ?_, HB3.out⟩
          rw [Tr.great, HM2.out]
          first | (simp [h16, hf]; done) | (simp [h16, hf]; omega)
        · go_wp2_with fail
          go_ret
          refine ⟨ret_bool ?_, HB.out.1⟩
          rw [Tr.great, HM2.out]
          first | (simp [h16, hf]; done) | (simp [h16, hf]; omega)
end Go.Proofs.Ytphefhpmbahagaa

namespace Go.Proofs.Ytphefhpmbahagaa
open Go.RowKit
set_option linter.unusedVariables false
set_option linter.unusedSimpArgs false

theorem timesE_len (t : Tr) (o : List Int) : (timesE t o).1.length ≤ o.length := by
  unfold timesE
  split
  all_goals simp [times_len]
set_option maxRecDepth 100000 in
set_option maxHeartbeats 4000000 in
theorem walkOrders_any {t : Tr} {A : TrA} {w : World} (ht : IsTr w t A) (hw : t.ways.length ≤ 9223372036854775807) {o : List Int} {a : Option Addr} {cap : Nat} (ha : IsInts w a o) :
    Calls Try.prog 3 #[t.v A, .slice a o.length cap] w fun e w' => e = .returned (.bool true) ∧ Below w.heap.size w w' := by
  have hb0 : Below w.heap.size w (w.alloc (.cells (t.cells A) 25)) := (Below.refl _ w).alloc (Nat.le_refl _) _
  have q0 := World.alloc_heap_new w (.cells (t.cells A) 25)
  have HW := Lib.hid (And.intro hb0 (And.intro q0 (And.intro (ht.mono hb0) (ha.mono hb0))))
  have HG : Hid (∀ v, IsTr v t A → Calls Try.prog 12 #[t.v A, .slice a o.length cap, .int .i64 6] v fun e w' => e = .returned (.bool (t.great o 6)) ∧ Below v.heap.size v w') := fun v h => great12 h hw 6
  clear hb0 q0 ha ht hw
  go_enter Try.func3, Try.ntmps3
  go_upto_region 1 with fail
  revert HW
  generalize w.alloc (.cells (t.cells A) 25) = w1
  intro HW
  have KP : Hid (∀ v, Below w1.heap.size w1 v → v.heap[w.heap.size]? = some (.cells (t.cells A) 25 (0, 0)) ∧ IsTr v t A ∧ IsInts v a o ∧ Below w.heap.size w v) := fun v h => ⟨(h.block _ (heap_lt HW.out.2.1)).trans HW.out.2.1, HW.out.2.2.1.mono h, HW.out.2.2.2.mono h, HW.out.1.trans (h.mono HW.out.1.size)⟩
  have HB := Lib.hid (Below.refl w1.heap.size w1)
  obtain ⟨k0, k1, k2, k3, k4⟩ := tr_cells (KP.out w1 HB.out).1
  go_wp2_with fail
  refine (HG.out _ (KP.out w1 HB.out).2.1).mono ?_
  rintro e b0 ⟨rfl, hb⟩
  have HX := Lib.hid hb
  clear hb HB HG k0 k1 k2 k3 k4
  have HB := HX
  clear HX
  cases hg : t.great o 6
  case true =>
    go_wp2_with fail
    refine (alive13 _).mono ?_
    rintro e c1 ⟨rfl, hb⟩
    have HX := Lib.hid (HB.out.trans (hb.mono HB.out.size))
    clear hb
    go_wp2_with fail
    go_ret
    exact ⟨rfl, (KP.out _ HX.out).2.2.2⟩
  have HN := Lib.hid (great_no hg)
  clear hg
  rcases h1 : walkedE t o with ⟨p1, p2⟩
  rcases h2 : timesE t o with ⟨tl, ⟨s1, s2⟩, te⟩
  rcases h3 : lateE t o with ⟨q1, qb, q2⟩
  rcases h4 : laterE t o with ⟨r1, r2⟩
  have HTL : Hid (tl.length ≤ 30) := by
    have := timesE_len t o
    rw [h2] at this
    have h30 := HN.out.2.1
    have this : tl.length ≤ o.length := this
    show tl.length ≤ 30
    omega
  have C14 : Hid (∀ v, Below w1.heap.size w1 v → Calls Try.prog 14 #[t.v A, .slice a o.length cap] v fun e w' => e = .returned (.tuple #[.int .i64 p1, .int .i64 p2]) ∧ Below v.heap.size v w') := fun v h => by
    have := walked14 (cap := cap) (KP.out v h).2.1 HN.out.1 HN.out.2.1 (KP.out v h).2.2.1
    rw [h1] at this; exact this
  have C15 : Hid (∀ v, Below w1.heap.size w1 v → Calls Try.prog 15 #[t.v A, .slice a o.length cap] v fun e w' => e = .returned (.tuple #[.int .i64 p1, .int .i64 p2]) ∧ Below v.heap.size v w') := fun v h => by
    have := rwalked15 (cap := cap) (KP.out v h).2.1 HN.out.1 HN.out.2.1 (KP.out v h).2.2.1
    rw [h1] at this; exact this
  have C16 : Hid (∀ v, Below w1.heap.size w1 v → Calls Try.prog 16 #[t.v A, .slice a o.length cap] v fun e w' => ∃ av cv, e = .returned (.tuple #[.slice av tl.length cv, .agg #[.int .i64 s1, .int .i64 s2], .int .i64 te]) ∧ IsSpns w' av tl ∧ Below v.heap.size v w') := fun v h => by
    have := times16 (cap := cap) (KP.out v h).2.1 HN.out.1 HN.out.2.1 (KP.out v h).2.2.1
    rw [h2] at this; exact this
  have C17 : Hid (∀ v, Below w1.heap.size w1 v → Calls Try.prog 17 #[t.v A, .slice a o.length cap] v fun e w' => ∃ av cv, e = .returned (.tuple #[.slice av tl.length cv, .agg #[.int .i64 s1, .int .i64 s2], .int .i64 te]) ∧ IsSpns w' av tl ∧ Below v.heap.size v w') := fun v h => by
    have := rtimes17 (cap := cap) (KP.out v h).2.1 HN.out.1 HN.out.2.1 (KP.out v h).2.2.1
    rw [h2] at this; exact this
  have C18 : Hid (∀ v, Below w1.heap.size w1 v → Calls Try.prog 18 #[t.v A, .slice a o.length cap] v fun e w' => e = .returned (.tuple #[.int .i64 q1, .bool qb, .int .i64 q2]) ∧ Below v.heap.size v w') := fun v h => by
    have := late18 (cap := cap) (KP.out v h).2.1 HN.out.1 HN.out.2.1 (KP.out v h).2.2.1
    rw [h3] at this; exact this
  have C19 : Hid (∀ v, Below w1.heap.size w1 v → Calls Try.prog 19 #[t.v A, .slice a o.length cap] v fun e w' => e = .returned (.tuple #[.int .i64 q1, .bool qb, .int .i64 q2]) ∧ Below v.heap.size v w') := fun v h => by
    have := rlate19 (cap := cap) (KP.out v h).2.1 HN.out.1 HN.out.2.1 (KP.out v h).2.2.1
    rw [h3] at this; exact this
  have C20 : Hid (∀ v, Below w1.heap.size w1 v → Calls Try.prog 20 #[t.v A, .slice a o.length cap] v fun e w' => e = .returned (.tuple #[.int .i64 r1, .int .i64 r2]) ∧ Below v.heap.size v w') := fun v h => by
    have := later20 (cap := cap) (KP.out v h).2.1 HN.out.1 HN.out.2.1 (KP.out v h).2.2.1
    rw [h4] at this; exact this
  have C21 : Hid (∀ v, Below w1.heap.size w1 v → Calls Try.prog 21 #[t.v A, .slice a o.length cap] v fun e w' => e = .returned (.tuple #[.int .i64 r1, .int .i64 r2]) ∧ Below v.heap.size v w') := fun v h => by
    have := rlater21 (cap := cap) (KP.out v h).2.1 HN.out.1 HN.out.2.1 (KP.out v h).2.2.1
    rw [h4] at this; exact this
  clear h1 h2 h3 h4 HN
  obtain ⟨k0, k1, k2, k3, k4⟩ := tr_cells (KP.out b0 HB.out).1
  go_wp2_with fail
  refine (C14.out _ HB.out).mono ?_
  rintro e b1 ⟨rfl, hb⟩
  have HX := Lib.hid (HB.out.trans (hb.mono HB.out.size))
  clear hb HB C14 k0 k1 k2 k3 k4
  have HB := HX
  clear HX
  obtain ⟨k0, k1, k2, k3, k4⟩ := tr_cells (KP.out b1 HB.out).1
  go_wp2_with fail
  refine (C15.out _ HB.out).mono ?_
  rintro e b2 ⟨rfl, hb⟩
  have HX := Lib.hid (HB.out.trans (hb.mono HB.out.size))
  clear hb HB C15 k0 k1 k2 k3 k4
  have HB := HX
  clear HX
  obtain ⟨k0, k1, k2, k3, k4⟩ := tr_cells (KP.out b2 HB.out).1
  go_wp2_with fail
  refine (C16.out _ HB.out).mono ?_
  rintro e b3 ⟨av1, cv1, rfl, hs1, hb⟩
  have HX := Lib.hid (And.intro (HB.out.trans (hb.mono HB.out.size)) hs1)
  clear hb HB C16 k0 k1 k2 k3 k4 hs1
  have HB := HX
  clear HX
  go_upto_region 6 with fail
  have q7 := World.alloc_heap_new b3 (.cells #[.int .i64 s1, .int .i64 s2] 33)
  have hb7 : Below b3.heap.size b3 (b3.alloc (.cells #[.int .i64 s1, .int .i64 s2] 33)) := (Below.refl _ _).alloc (Nat.le_refl _) _
  have HX := Lib.hid (And.intro (HB.out.1.trans (hb7.mono HB.out.1.size)) (And.intro (HB.out.2.mono hb7) q7))
  clear q7 hb7 HB
  have HB := HX
  clear HX
  revert HB
  generalize (b3.alloc (.cells #[.int .i64 s1, .int .i64 s2] 33)) = c1
  generalize b3.heap.size = pb1
  intro HB
  obtain ⟨k0, k1, k2, k3, k4⟩ := tr_cells (KP.out c1 HB.out.1).1
  go_wp2_with fail
  refine (C17.out _ HB.out.1).mono ?_
  rintro e b4 ⟨av2, cv2, rfl, hs2, hb⟩
  have HX := Lib.hid (And.intro (HB.out.1.trans (hb.mono HB.out.1.size)) (And.intro (HB.out.2.1.mono hb) (And.intro ((hb.block _ (heap_lt HB.out.2.2)).trans HB.out.2.2) hs2)))
  clear hb HB C17 k0 k1 k2 k3 k4 hs2
  have HB := HX
  clear HX
  go_upto_region 7 with fail
  have q7 := World.alloc_heap_new b4 (.cells #[.int .i64 s1, .int .i64 s2] 33)
  have hb7 : Below b4.heap.size b4 (b4.alloc (.cells #[.int .i64 s1, .int .i64 s2] 33)) := (Below.refl _ _).alloc (Nat.le_refl _) _
  have HX := Lib.hid (And.intro (HB.out.1.trans (hb7.mono HB.out.1.size)) (And.intro (HB.out.2.1.mono hb7) (And.intro ((hb7.block _ (heap_lt HB.out.2.2.1)).trans HB.out.2.2.1) (And.intro (HB.out.2.2.2.mono hb7) q7))))
  clear q7 hb7 HB
  have HB := HX
  clear HX
  revert HB
  generalize (b4.alloc (.cells #[.int .i64 s1, .int .i64 s2] 33)) = c2
  generalize b4.heap.size = pb2
  intro HB
  obtain ⟨k0, k1, k2, k3, k4⟩ := tr_cells (KP.out c2 HB.out.1).1
  go_wp2_with fail
  refine (C18.out _ HB.out.1).mono ?_
  rintro e b5 ⟨rfl, hb⟩
  have HX := Lib.hid (And.intro (HB.out.1.trans (hb.mono HB.out.1.size)) (And.intro (HB.out.2.1.mono hb) (And.intro ((hb.block _ (heap_lt HB.out.2.2.1)).trans HB.out.2.2.1) (And.intro (HB.out.2.2.2.1.mono hb) ((hb.block _ (heap_lt HB.out.2.2.2.2)).trans HB.out.2.2.2.2)))))
  clear hb HB C18 k0 k1 k2 k3 k4
  have HB := HX
  clear HX
  obtain ⟨k0, k1, k2, k3, k4⟩ := tr_cells (KP.out b5 HB.out.1).1
  go_wp2_with fail
  refine (C19.out _ HB.out.1).mono ?_
  rintro e b6 ⟨rfl, hb⟩
  have HX := Lib.hid (And.intro (HB.out.1.trans (hb.mono HB.out.1.size)) (And.intro (HB.out.2.1.mono hb) (And.intro ((hb.block _ (heap_lt HB.out.2.2.1)).trans HB.out.2.2.1) (And.intro (HB.out.2.2.2.1.mono hb) ((hb.block _ (heap_lt HB.out.2.2.2.2)).trans HB.out.2.2.2.2)))))
  clear hb HB C19 k0 k1 k2 k3 k4
  have HB := HX
  clear HX
  obtain ⟨k0, k1, k2, k3, k4⟩ := tr_cells (KP.out b6 HB.out.1).1
  go_wp2_with fail
  refine (C20.out _ HB.out.1).mono ?_
  rintro e b7 ⟨rfl, hb⟩
  have HX := Lib.hid (And.intro (HB.out.1.trans (hb.mono HB.out.1.size)) (And.intro (HB.out.2.1.mono hb) (And.intro ((hb.block _ (heap_lt HB.out.2.2.1)).trans HB.out.2.2.1) (And.intro (HB.out.2.2.2.1.mono hb) ((hb.block _ (heap_lt HB.out.2.2.2.2)).trans HB.out.2.2.2.2)))))
  clear hb HB C20 k0 k1 k2 k3 k4
  have HB := HX
  clear HX
  obtain ⟨k0, k1, k2, k3, k4⟩ := tr_cells (KP.out b7 HB.out.1).1
  go_wp2_with fail
  refine (C21.out _ HB.out.1).mono ?_
  rintro e b8 ⟨rfl, hb⟩
  have HX := Lib.hid (And.intro (HB.out.1.trans (hb.mono HB.out.1.size)) (And.intro (HB.out.2.1.mono hb) (And.intro ((hb.block _ (heap_lt HB.out.2.2.1)).trans HB.out.2.2.1) (And.intro (HB.out.2.2.2.1.mono hb) ((hb.block _ (heap_lt HB.out.2.2.2.2)).trans HB.out.2.2.2.2)))))
  clear hb HB C21 k0 k1 k2 k3 k4
  have HB := HX
  clear HX
  go_wp2_with fail
  refine (spans22 (ca := cv1) (cb := cv2) HB.out.2.1 HB.out.2.2.2.1 HTL.out HTL.out).mono ?_
  rintro e d1 ⟨rfl, hb⟩
  have HX := Lib.hid (HB.out.1.trans (hb.mono HB.out.1.size))
  have g1 := ((hb.block _ (heap_lt HB.out.2.2.1)).trans HB.out.2.2.1)
  have g2 := ((hb.block _ (heap_lt HB.out.2.2.2.2)).trans HB.out.2.2.2.2)
  have x0 : d1.cell? ⟨pb1, 0, none⟩ = some (.int .i64 s1) := by rw [cell_of_heap g1]; rfl
  have x1 : d1.cell? ⟨pb1, 1, none⟩ = some (.int .i64 s2) := by rw [cell_of_heap g1]; rfl
  have x2 : d1.cell? ⟨pb2, 0, none⟩ = some (.int .i64 s1) := by rw [cell_of_heap g2]; rfl
  have x3 : d1.cell? ⟨pb2, 1, none⟩ = some (.int .i64 s2) := by rw [cell_of_heap g2]; rfl
  clear hb HB g1 g2
  rw [show decide (tl = tl) = true by simp]
  have heq : ∀ w, (binOp .eql 33 (.agg #[.int .i64 s1, .int .i64 s2]) (.agg #[.int .i64 s1, .int .i64 s2])).run Try.prog w = .ok (.bool true) w := fun w => by rw [eql33 ⟨s1, s2⟩ ⟨s1, s2⟩]; simp
  go_wp2_with fail
  refine (alive13 _).mono ?_
  rintro e d2 ⟨rfl, hb⟩
  have HY := Lib.hid (HX.out.trans (hb.mono HX.out.size))
  clear hb HX
  go_wp2_with fail
  go_ret
  exact ⟨rfl, (KP.out _ HY.out).2.2.2⟩
end Go.Proofs.Ytphefhpmbahagaa

