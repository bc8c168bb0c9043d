/- The reference's small functions: powers, sets, which card lies in a slot, how many were put back wrong. -/
import Derived.Test.YtlhobddaojdnoaaT1
import Derived.Test.YtlhobddaojdnoaaL10
namespace Go.Proofs.Ytlhobddaojdnoaa
open Go.RowKit

set_option maxHeartbeats 400000 in
theorem power_any (n : Nat) (hn : n ≤ 20) (w : World) : Calls Try.prog 85 #[.int .i64 n] w fun e w' => e = .returned (.int .i64 ((2 ^ n : Nat) : Int)) ∧ w = w' := by
  go_enter Try.func85, Try.ntmps85
  go_wp2
  go_loop [3, 4] (fun o i => ∃ (k : Nat) (z : Nat), k ≤ n ∧ i = .int .i64 k ∧ o = .int .i64 z ∧ Hid (z = 2 ^ k) ∧ z ≤ 1048576) (fun _ i => n - (intOf i).toNat)
  case atStart => exact ⟨0, 1, by omega, rfl, rfl, rfl, by omega⟩
  case round =>
    obtain ⟨k, z, hk, rfl, rfl, HZ, hz⟩ := hrel
    by_cases hlt : k < n
    · go_wp2
      go_round
      case rel =>
        refine ⟨k + 1, 2 * z, by omega, by go_num, by go_num, ?_, ?_⟩
        · have := HZ.out
          unfold Hid
          rw [this, Nat.pow_succ]; omega
        · have h1 := HZ.out
          have h2 : 2 ^ (k + 1) ≤ 2 ^ 20 := Nat.pow_le_pow_right (by decide) (by omega)
          rw [Nat.pow_succ] at h2
          omega
      case measure => simp [intOf]; omega
    · obtain rfl : k = n := by omega
      go_wp2
      go_ret
      exact ⟨ret_int (by rw [HZ.out]; first | rfl | simp), rfl⟩
theorem set_with (s k : Nat) : (if s / 2 ^ k % 2 = 1 then s else s + 2 ^ k) = s ||| 2 ^ k := by
  have hb : s.testBit k = decide (s / 2 ^ k % 2 = 1) := Nat.testBit_eq_decide_div_mod_eq
  by_cases h : s / 2 ^ k % 2 = 1
  · rw [if_pos h]
    apply Nat.eq_of_testBit_eq
    intro i
    rw [Nat.testBit_or, Nat.testBit_two_pow]
    by_cases hi : k = i
    · subst hi; rw [hb]; simp [h]
    · simp [hi]
  · rw [if_neg h]
    have h0 : s / 2 ^ k % 2 = 0 := by omega
    apply Nat.eq_of_testBit_eq
    intro i
    rw [Nat.testBit_or, Nat.testBit_two_pow, Nat.testBit_eq_decide_div_mod_eq, Nat.testBit_eq_decide_div_mod_eq]
    have e1 : s = 2 ^ k * (s / 2 ^ k) + s % 2 ^ k := (Nat.div_add_mod s (2 ^ k)).symm
    have hr : s % 2 ^ k < 2 ^ k := Nat.mod_lt _ (Nat.pos_of_ne_zero (by simp))
    by_cases hi : k = i
    · subst hi
      have : (s + 2 ^ k) / 2 ^ k = s / 2 ^ k + 1 := by
        rw [Nat.add_div_right _ (Nat.pos_of_ne_zero (by simp))]
      rw [this]
      simp only [decide_true, Bool.or_true, decide_eq_true_eq]
      omega
    · simp only [hi, decide_false, Bool.or_false]
      congr 1
      rcases Nat.lt_or_gt_of_ne hi with hlt | hgt
      · obtain ⟨d, rfl⟩ : ∃ d, i = k + 1 + d := ⟨i - k - 1, by omega⟩
        have p : 2 ^ (k + 1 + d) = 2 ^ k * 2 * 2 ^ d := by rw [Nat.pow_add, Nat.pow_succ]
        rw [p, ← Nat.div_div_eq_div_mul, ← Nat.div_div_eq_div_mul, ← Nat.div_div_eq_div_mul, ← Nat.div_div_eq_div_mul, Nat.add_div_right _ (Nat.pos_of_ne_zero (by simp))]
        have : (s / 2 ^ k + 1) / 2 = s / 2 ^ k / 2 := by omega
        rw [this]
      · obtain ⟨d, rfl⟩ : ∃ d, k = i + 1 + d := ⟨k - i - 1, by omega⟩
        have p : 2 ^ (i + 1 + d) = 2 ^ i * (2 * 2 ^ d) := by rw [Nat.pow_add, Nat.pow_succ, Nat.mul_assoc]
        rw [p, Nat.add_mul_div_left _ _ (Nat.pos_of_ne_zero (by simp))]
        have : (s / 2 ^ i + 2 * 2 ^ d) % 2 = s / 2 ^ i % 2 := by omega
        rw [this]
/-- 'with': a set with a number. -/
theorem setWith_any (s k : Nat) (hs : s ≤ 1048576) (hk : k ≤ 20) (w : World) : Calls Try.prog 57 #[.int .i64 s, .int .i64 k] w fun e w' => e = .returned (.int .i64 ((s ||| 2 ^ k : Nat) : Int)) ∧ w = w' := by
  have hw := set_with s k
  obtain ⟨z, hz⟩ : ∃ z : Nat, 2 ^ k = z := ⟨_, rfl⟩
  have hp := fun w' => power_any k hk w'
  have hz0 : 0 < z := by rw [← hz]; exact Nat.pos_of_ne_zero (by simp)
  have hz1 : z ≤ 1048576 := by rw [← hz]; exact Nat.pow_le_pow_right (n := 2) (by decide) hk
  rw [hz] at hw hp
  rw [hz]
  have hd : ((s : Int) / (z : Int)) = ((s / z : Nat) : Int) := by simp
  obtain ⟨q, hq⟩ : ∃ q : Nat, s / z = q := ⟨_, rfl⟩
  rw [hq] at hw hd
  have HQ := Lib.hid hq
  have HP := Lib.hid hp
  have HZ := Lib.hid hz
  have hq1 : q ≤ 1048576 := by rw [← hq]; exact Nat.le_trans (Nat.div_le_self _ _) hs
  clear hq hp hz
  by_cases h : q % 2 = 1
  · rw [if_pos h] at hw
    have HW := Lib.hid hw
    have hb : ((q : Int) % 2 == 1) = true := by simp; omega
    clear hw h
    go_enter Try.func57, Try.ntmps57
    go_wp2_with (go_at_call 85; refine (HP.out _).mono ?_; rintro e w' ⟨rfl, rfl⟩)
    go_ret
    exact ⟨ret_int (by rw [← HW.out]), rfl⟩
  · rw [if_neg h] at hw
    have HW := Lib.hid hw
    have hb : ((q : Int) % 2 == 1) = false := by simp; omega
    clear hw h
    go_enter Try.func57, Try.ntmps57
    go_wp2_with (go_at_call 85; refine (HP.out _).mono ?_; rintro e w' ⟨rfl, rfl⟩)
    go_ret
    exact ⟨ret_int (by rw [← HW.out]; simp), rfl⟩

/-- A truth that lies in memory: two slices. -/
structure IsTruth (w : World) (x : List Int × List Bool) (u v : Value) : Prop where
  at_ : ∃ a cap, u = .slice a x.1.length cap ∧ IsInts w a x.1
  wr : ∃ a cap, v = .slice a x.2.length cap ∧ IsBools w a x.2
theorem IsTruth.mono {w w' : World} {x : List Int × List Bool} {u v : Value} (h : IsTruth w x u v) (hb : Below w.heap.size w w') : IsTruth w' x u v := by
  obtain ⟨a, cap, h1, h2⟩ := h.at_
  obtain ⟨a', cap', h3, h4⟩ := h.wr
  exact ⟨⟨a, cap, h1, h2.mono hb⟩, ⟨a', cap', h3, h4.mono hb⟩⟩
set_option maxHeartbeats 400000 in
theorem rlies_any {x : List Int × List Bool} {u v : Value} {w : World} (h : IsTruth w x u v) (hl : x.1.length ≤ 5) (slot : Int) :
    Calls Try.prog 41 #[.agg #[u, v], .int .i64 slot] w fun e w' => e = .returned (.int .i64 (lies x.1 slot)) ∧ Below w.heap.size w w' := by
  obtain ⟨a, cap, rfl, hi⟩ := h.at_
  obtain ⟨a', cap', rfl, _⟩ := h.wr
  clear h
  have hb : Below w.heap.size w (w.alloc (.cells #[.slice a x.1.length cap, .slice a' x.2.length cap'] 56)) := (Below.refl _ w).alloc (Nat.le_refl _) _
  have hi' := Lib.hid (hi.mono hb)
  have HB := Lib.hid hb
  clear hi hb
  go_enter Try.func41, Try.ntmps41
  go_wp2
  go_loop [5] (fun i => ∃ k : Nat, k ≤ x.1.length ∧ i = .int .i64 k ∧ Hid (lies x.1 slot = liesFrom (x.1.drop k) slot k)) (fun i => x.1.length - (intOf i).toNat)
  case atStart => exact ⟨0, by omega, rfl, rfl⟩
  case round =>
    obtain ⟨k, hk, rfl, HL⟩ := hrel
    by_cases hlt : k < x.1.length
    · obtain ⟨b, off, hah, hcell⟩ := hi'.out k hlt
      subst hah
      by_cases he : gi x.1 k = slot
      · have hbt : (gi x.1 k == slot) = true := by simpa using he
        have HE := Lib.hid he
        clear he
        go_wp2
        go_ret
        exact ⟨ret_int (by rw [HL.out, liesFrom_hit hlt HE.out]), HB.out⟩
      · have hbt : (gi x.1 k == slot) = false := by simpa using he
        have HE := Lib.hid he
        clear he
        go_wp2
        go_round
        case rel => exact ⟨k + 1, by omega, by go_num, by rw [Hid, HL.out, liesFrom_miss hlt HE.out]⟩
        case measure => simp [intOf]; omega
    · go_wp2
      go_ret
      exact ⟨ret_int (by rw [HL.out, List.drop_of_length_le (by omega)]; rfl), HB.out⟩
theorem wrongs_take {bs : List Bool} {k : Nat} (hk : k < bs.length) : wrongs (bs.take (k + 1)) = wrongs (bs.take k) + if gb bs k then 1 else 0 := by
  rw [List.take_succ_eq_append_getElem hk, wrongs_snoc]
  have : gb bs k = bs[k] := by simp [gb, hk]
  rw [this]
theorem wrongs_take_le (bs : List Bool) (k : Nat) : wrongs (bs.take k) ≤ bs.length := Nat.le_trans (wrongs_le _) (by rw [List.length_take]; omega)
set_option maxHeartbeats 400000 in
theorem rwrongs_any {x : List Int × List Bool} {u v : Value} {w : World} (h : IsTruth w x u v) (hl : x.2.length ≤ 100) :
    Calls Try.prog 87 #[.agg #[u, v]] w fun e w' => e = .returned (.int .i64 (wrongs x.2)) ∧ Below w.heap.size w w' := by
  obtain ⟨a, cap, rfl, _⟩ := h.at_
  obtain ⟨a', cap', rfl, hi⟩ := h.wr
  clear h
  have hb : Below w.heap.size w (w.alloc (.cells #[.slice a x.1.length cap, .slice a' x.2.length cap'] 56)) := (Below.refl _ w).alloc (Nat.le_refl _) _
  have hi' := Lib.hid (hi.mono hb)
  have HB := Lib.hid hb
  clear hi hb
  go_enter Try.func87, Try.ntmps87
  go_wp2
  go_loop [3, 4] (fun n i => ∃ (k z : Nat), k ≤ x.2.length ∧ i = .int .i64 k ∧ n = .int .i64 z ∧ Hid (z = wrongs (x.2.take k)) ∧ z ≤ 100) (fun _ i => x.2.length - (intOf i).toNat)
  case atStart => exact ⟨0, 0, by omega, rfl, rfl, by simp [Hid, wrongs], by omega⟩
  case round =>
    obtain ⟨k, z, hk, rfl, rfl, HZ, hz⟩ := hrel
    by_cases hlt : k < x.2.length
    · obtain ⟨b, off, hah, hcell⟩ := hi'.out k hlt
      subst hah
      have HT := Lib.hid (wrongs_take hlt)
      have hz1 : wrongs (x.2.take (k + 1)) ≤ 100 := Nat.le_trans (wrongs_take_le _ _) hl
      cases he : gb x.2 k
      · rw [he] at hcell HT
        go_wp2
        go_round
        case rel => exact ⟨k + 1, z, by omega, by go_num, by go_num, by rw [Hid, HT.out, HZ.out]; simp, hz⟩
        case measure => simp [intOf]; omega
      · rw [he] at hcell HT
        go_wp2
        go_round
        case rel => exact ⟨k + 1, z + 1, by omega, by go_num, by go_num, by rw [Hid, HT.out, HZ.out]; simp, by have := HT.out; have := HZ.out; simp at *; omega⟩
        case measure => simp [intOf]; omega
    · obtain rfl : k = x.2.length := by omega
      go_wp2
      go_ret
      exact ⟨ret_int (by rw [HZ.out, List.take_length]), HB.out⟩
end Go.Proofs.Ytlhobddaojdnoaa
