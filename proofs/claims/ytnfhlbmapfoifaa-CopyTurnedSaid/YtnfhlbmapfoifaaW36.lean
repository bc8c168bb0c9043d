/- Which orders are left: one more, whether one is, how many. Which orders are left: one more; how many. -/
import Derived.Test.YtnfhlbmapfoifaaW29
import Derived.Test.YtnfhlbmapfoifaaW34
import Derived.Test.YtnfhlbmapfoifaaW33
namespace Go.Proofs.Ytnfhlbmapfoifaa
open Go.RowKit
set_option linter.unusedVariables false

theorem two64 : (2 : Nat) ^ 64 = 18446744073709551616 := by decide
def loN (S : Nat) : Int := ((S % 18446744073709551616 : Nat) : Int)
def hiN (S : Nat) : Int := ((S / 18446744073709551616 : Nat) : Int)
abbrev leftA (S : Nat) : Array Value := #[.int .u64 (loN S), .int .u64 (hiN S)]
abbrev leftV (S : Nat) : Value := .agg (leftA S)
theorem and_u64 (a b : Nat) (ha : a < 2 ^ 64) (hb : b < 2 ^ 64) : bits .and .u64 (a : Int) (b : Int) = ((a &&& b : Nat) : Int) ∧ bits .or .u64 (a : Int) (b : Int) = ((a ||| b : Nat) : Int) :=
  bits_nat .u64 64 (by decide) (fun n h1 h2 => by rw [IntKind.wrap_u64]; omega) a b ha hb
theorem test_u64 (n k : Nat) (hn : n < 2 ^ 64) : (bits .and .u64 ((n : Int) / 2 ^ k) 1 == 1) = n.testBit k := by
  have h1 : ((n : Int) / 2 ^ k) = ((n / 2 ^ k : Nat) : Int) := by simp
  have h2 : n / 2 ^ k < 2 ^ 64 := Nat.lt_of_le_of_lt (Nat.div_le_self _ _) hn
  rw [h1]
  have := (and_u64 (n / 2 ^ k) 1 h2 (by decide)).1
  rw [show ((1 : Nat) : Int) = 1 from rfl] at this
  rw [this, Nat.and_one_is_mod, Nat.testBit_eq_decide_div_mod_eq]
  rw [Bool.eq_iff_iff]
  simp
  omega
set_option maxHeartbeats 1000000 in
theorem has_any {S n : Nat} (hn : n < 128) (hS : S < 2 ^ 128) (w : World) : Calls Try.prog 106 #[leftV S, .int .i64 n] w fun e w' => e = .returned (.bool (S.testBit n)) ∧ Below w.heap.size w w' := by
  have hlo : S % 2 ^ 64 < 2 ^ 64 := Nat.mod_lt _ (Nat.two_pow_pos _)
  have hhi : S / 2 ^ 64 < 2 ^ 64 := by rw [Nat.div_lt_iff_lt_mul (Nat.two_pow_pos _), ← Nat.pow_add]; exact hS
  by_cases h : n < 64
  · have hd : (n : Int) / 64 = 0 := by omega
    have hd2 : n / 64 = 0 := by omega
    have hm : (n : Int) % 64 = (n : Int) := by omega
    have ht := test_u64 (S % 2 ^ 64) n hlo
    have e1 : (S % 2 ^ 64).testBit n = S.testBit n := by rw [Nat.testBit_mod_two_pow]; simp [h]
    rw [two64] at ht e1
    obtain ⟨lo, hlo'⟩ : ∃ lo, S % 18446744073709551616 = lo := ⟨_, rfl⟩
    obtain ⟨hi, hhi'⟩ : ∃ hi, S / 18446744073709551616 = hi := ⟨_, rfl⟩
    rw [hlo'] at ht e1
    have HE := Lib.hid e1
    show Calls Try.prog 106 #[.agg #[.int .u64 ((S % 18446744073709551616 : Nat) : Int), .int .u64 ((S / 18446744073709551616 : Nat) : Int)], .int .i64 n] w _
    rw [hlo', hhi']
    clear hlo' hhi' e1 hlo hhi hS
    go_enter Try.func106, Try.ntmps106
    go_wp2_with fail
    go_ret
    exact ⟨ret_bool HE.out, (Below.refl _ w).alloc (Nat.le_refl _) _⟩
  · obtain ⟨m, rfl⟩ : ∃ m, n = 64 + m := ⟨n - 64, by omega⟩
    have hd : ((64 + m : Nat) : Int) / 64 = 1 := by omega
    have hd2 : (64 + m) / 64 = 1 := by omega
    have hm : ((64 + m : Nat) : Int) % 64 = (m : Int) := by omega
    have ht := test_u64 (S / 2 ^ 64) m hhi
    have e1 : (S / 2 ^ 64).testBit m = S.testBit (64 + m) := by rw [Nat.testBit_div_two_pow]; congr 1; omega
    rw [two64] at ht e1
    obtain ⟨lo, hlo'⟩ : ∃ lo, S % 18446744073709551616 = lo := ⟨_, rfl⟩
    obtain ⟨hi, hhi'⟩ : ∃ hi, S / 18446744073709551616 = hi := ⟨_, rfl⟩
    rw [hhi'] at ht e1
    have HE := Lib.hid e1
    show Calls Try.prog 106 #[.agg #[.int .u64 ((S % 18446744073709551616 : Nat) : Int), .int .u64 ((S / 18446744073709551616 : Nat) : Int)], .int .i64 _] w _
    rw [hlo', hhi']
    obtain ⟨nn, hnn⟩ : ∃ nn : Nat, 64 + m = nn := ⟨_, rfl⟩
    rw [hnn] at hd hd2 hm hn HE ⊢
    have hm64 : m < 64 := by omega
    clear hlo' hhi' e1 hlo hhi hS hnn h
    go_enter Try.func106, Try.ntmps106
    go_wp2_with fail
    go_ret
    exact ⟨ret_bool HE.out, (Below.refl _ w).alloc (Nat.le_refl _) _⟩
end Go.Proofs.Ytnfhlbmapfoifaa

namespace Go.Proofs.Ytnfhlbmapfoifaa
open Go.RowKit
set_option linter.unusedVariables false

structure wiLoF (bx : Nat) (n : Nat) (m : Nat) (lo : Nat) (z : Nat) (S0 : World → Prop) (S1 : World → Prop) (d : Nat → Bool) (x5 x6 x7 x8 x9 x10 x11 x12 x13 : Value) (w : World) : Prop where
  q1 : d 1 = true → d 0 = true
  q2 : d 2 = true → d 1 = true
  q3 : d 3 = true → d 2 = true
  q5 : d 5 = true → d 4 = true
  q6 : d 6 = true → d 5 = true
  q7 : d 7 = true → d 3 = true ∧ d 6 = true
  q8 : d 8 = true → d 0 = true ∧ d 1 = true ∧ d 2 = true ∧ d 3 = true ∧ d 4 = true ∧ d 5 = true ∧ d 6 = true ∧ d 7 = true
  q9 : d 9 = true → d 0 = true ∧ d 1 = true ∧ d 2 = true ∧ d 3 = true ∧ d 4 = true ∧ d 5 = true ∧ d 6 = true ∧ d 7 = true ∧ d 8 = true
  f0 : d 0 = true → x5 = .int .i64 n
  f1 : d 1 = true → x6 = .int .i64 0
  f2 : d 2 = true → x7 = .pointer (some ⟨bx, 0, none⟩)
  f3 : d 3 = true → x8 = .int .u64 lo
  f4 : d 4 = true → x9 = .int .i64 n
  f5 : d 5 = true → x10 = .int .i64 m
  f6 : d 6 = true → x11 = .int .u64 z
  f7 : d 7 = true → x12 = .int .u64 (lo ||| z : Nat)
  f8 : d 8 = true → x13 = .pointer (some ⟨bx, 0, none⟩)
  st0 : d 9 = false → S0 w
  st1 : d 9 = true → S1 w
noncomputable def wiLoC : Code := (Try.f105.body.bind (regionAt 1)).getD .skip
set_option maxRecDepth 100000 in
set_option maxHeartbeats 4000000 in
theorem wiLo {bx : Nat} {n : Nat} {m : Nat} {lo : Nat} {z : Nat} {S0 : World → Prop} {S1 : World → Prop} {Q : Exit → Act → World → Prop} {W1 : World} (hn : n < 128) (hm64 : m < 64) (hd : (n : Int) / 64 = 0) (hd2 : n / 64 = 0) (hm : (n : Int).tmod 64 = (m : Int)) (hwr : IntKind.u64.wrap (2 ^ m) = (z : Int)) (hor : bits .or .u64 (lo : Int) (z : Int) = ((lo ||| z : Nat) : Int)) (h0 : S0 W1.drew)
    (kl3 : Hid (∀ (w : World), (S0 w) → w.cell? ⟨bx, 0, none⟩ = some (.int .u64 lo)))
    (kc9 : Hid (∀ (w : World), S0 w → (∃ u, w.cell? ⟨bx, 0, none⟩ = some u) ∧ w.frozen? ⟨bx, 0, none⟩ = false ∧ S1 (w.setCell ⟨bx, 0, none⟩ (.int .u64 (lo ||| z : Nat)))))
    {s0 s3 s4 s5 s6 s7 s8 s9 s10 s11 s12 s13 s14 : Value} {dd : List Deferred}
    (hQ : ∀ (w' : World), S1 w' → Q .normal { tmps := #[s0, .int .i64 n, .pointer (some ⟨bx, 0, none⟩), s3, s4, .int .i64 n, .int .i64 0, .pointer (some ⟨bx, 0, none⟩), .int .u64 lo, .int .i64 n, .int .i64 m, .int .u64 z, .int .u64 (lo ||| z : Nat), .pointer (some ⟨bx, 0, none⟩), s14], defers := dd } w') :
    Code.wpIn (wideAt none) 0 Try.prog wiLoC Q { tmps := #[s0, .int .i64 n, .pointer (some ⟨bx, 0, none⟩), s3, s4, s5, s6, s7, s8, s9, s10, s11, s12, s13, s14], defers := dd } W1 := by
  have HQ := Lib.hid hQ
  clear hQ
  conv => arg 4; whnf
  refine wpIn_region_invG mixed (by kernel_rfl) (fun d_ a_ w' => ∃ (x5 : Value) (x6 : Value) (x7 : Value) (x8 : Value) (x9 : Value) (x10 : Value) (x11 : Value) (x12 : Value) (x13 : Value), a_ = { tmps := #[s0, .int .i64 n, .pointer (some ⟨bx, 0, none⟩), s3, s4, x5, x6, x7, x8, x9, x10, x11, x12, x13, s14], defers := dd } ∧ wiLoF bx n m lo z S0 S1 d_ x5 x6 x7 x8 x9 x10 x11 x12 x13 w') ?_ ?_ ?_
  · refine ⟨s5, s6, s7, s8, s9, s10, s11, s12, s13, rfl, ?_⟩
    constructor <;> first | rfl | (intro _; rfl) | (intro h; cases h; done) | (intro _; exact h0) | exact h0
  · refine ⟨?_, ?_, ?_, ?_, ?_, ?_, ?_, ?_, ?_, ?_, trivial⟩
    all_goals
      rintro d_ a_ w1 K hd_ hdep ⟨x5, x6, x7, x8, x9, x10, x11, x12, x13, rfl, F⟩ HK
      simp [Region.binds] at hdep
    · have HF : Hid (wiLoF bx n m lo z S0 S1 (upd d_ 0) (.int .i64 n) x6 x7 x8 x9 x10 x11 x12 x13 w1) := ⟨fun h => rfl, F.q2, F.q3, F.q5, F.q6, F.q7, fun h => ⟨rfl, (F.q8 h).2.1, (F.q8 h).2.2.1, (F.q8 h).2.2.2.1, (F.q8 h).2.2.2.2.1, (F.q8 h).2.2.2.2.2.1, (F.q8 h).2.2.2.2.2.2.1, (F.q8 h).2.2.2.2.2.2.2⟩, fun h => ⟨rfl, (F.q9 h).2.1, (F.q9 h).2.2.1, (F.q9 h).2.2.2.1, (F.q9 h).2.2.2.2.1, (F.q9 h).2.2.2.2.2.1, (F.q9 h).2.2.2.2.2.2.1, (F.q9 h).2.2.2.2.2.2.2.1, (F.q9 h).2.2.2.2.2.2.2.2⟩, fun _ => rfl, F.f1, F.f2, F.f3, F.f4, F.f5, F.f6, F.f7, F.f8, F.st0, F.st1⟩
      clear F
      go_simp
      exact HK.out _ _ ⟨_, _, _, _, _, _, _, _, _, rfl, HF.out⟩
    · obtain rfl := F.f0 (by simp [hdep])
      have HF : Hid (wiLoF bx n m lo z S0 S1 (upd d_ 1) (.int .i64 n) (.int .i64 0) x7 x8 x9 x10 x11 x12 x13 w1) := ⟨fun _ => (show _ from (by simp [hdep] : d_ 0 = true)), fun h => rfl, F.q3, F.q5, F.q6, F.q7, fun h => ⟨(F.q8 h).1, rfl, (F.q8 h).2.2.1, (F.q8 h).2.2.2.1, (F.q8 h).2.2.2.2.1, (F.q8 h).2.2.2.2.2.1, (F.q8 h).2.2.2.2.2.2.1, (F.q8 h).2.2.2.2.2.2.2⟩, fun h => ⟨(F.q9 h).1, rfl, (F.q9 h).2.2.1, (F.q9 h).2.2.2.1, (F.q9 h).2.2.2.2.1, (F.q9 h).2.2.2.2.2.1, (F.q9 h).2.2.2.2.2.2.1, (F.q9 h).2.2.2.2.2.2.2.1, (F.q9 h).2.2.2.2.2.2.2.2⟩, F.f0, fun _ => rfl, F.f2, F.f3, F.f4, F.f5, F.f6, F.f7, F.f8, F.st0, F.st1⟩
      clear F
      go_simp
      exact HK.out _ _ ⟨_, _, _, _, _, _, _, _, _, rfl, HF.out⟩
    · obtain rfl := F.f1 (by simp [hdep])
      have HF : Hid (wiLoF bx n m lo z S0 S1 (upd d_ 2) x5 (.int .i64 0) (.pointer (some ⟨bx, 0, none⟩)) x8 x9 x10 x11 x12 x13 w1) := ⟨F.q1, fun _ => (show _ from (by simp [hdep] : d_ 1 = true)), fun h => rfl, F.q5, F.q6, F.q7, fun h => ⟨(F.q8 h).1, (F.q8 h).2.1, rfl, (F.q8 h).2.2.2.1, (F.q8 h).2.2.2.2.1, (F.q8 h).2.2.2.2.2.1, (F.q8 h).2.2.2.2.2.2.1, (F.q8 h).2.2.2.2.2.2.2⟩, fun h => ⟨(F.q9 h).1, (F.q9 h).2.1, rfl, (F.q9 h).2.2.2.1, (F.q9 h).2.2.2.2.1, (F.q9 h).2.2.2.2.2.1, (F.q9 h).2.2.2.2.2.2.1, (F.q9 h).2.2.2.2.2.2.2.1, (F.q9 h).2.2.2.2.2.2.2.2⟩, F.f0, F.f1, fun _ => rfl, F.f3, F.f4, F.f5, F.f6, F.f7, F.f8, F.st0, F.st1⟩
      clear F
      go_simp
      exact HK.out _ _ ⟨_, _, _, _, _, _, _, _, _, rfl, HF.out⟩
    · have hst : S0 w1 := by
        have n_ : d_ 9 = false := by
          cases e_ : d_ 9 with
          | false => rfl
          | true => have h2 := (F.q9 e_).2.2.2.1; rw [show d_ 3 = false from hd_] at h2; cases h2
        exact (F.st0 n_)
      have kk := kl3.out w1 hst
      clear hst
      obtain rfl := F.f2 (by simp [hdep])
      have HF : Hid (wiLoF bx n m lo z S0 S1 (upd d_ 3) x5 x6 (.pointer (some ⟨bx, 0, none⟩)) (.int .u64 lo) x9 x10 x11 x12 x13 w1) := ⟨F.q1, F.q2, fun _ => (show _ from (by simp [hdep] : d_ 2 = true)), F.q5, F.q6, fun h => ⟨rfl, (F.q7 h).2⟩, fun h => ⟨(F.q8 h).1, (F.q8 h).2.1, (F.q8 h).2.2.1, rfl, (F.q8 h).2.2.2.2.1, (F.q8 h).2.2.2.2.2.1, (F.q8 h).2.2.2.2.2.2.1, (F.q8 h).2.2.2.2.2.2.2⟩, fun h => ⟨(F.q9 h).1, (F.q9 h).2.1, (F.q9 h).2.2.1, rfl, (F.q9 h).2.2.2.2.1, (F.q9 h).2.2.2.2.2.1, (F.q9 h).2.2.2.2.2.2.1, (F.q9 h).2.2.2.2.2.2.2.1, (F.q9 h).2.2.2.2.2.2.2.2⟩, F.f0, F.f1, F.f2, fun _ => rfl, F.f4, F.f5, F.f6, F.f7, F.f8, F.st0, F.st1⟩
      clear F
      go_simp
      exact HK.out _ _ ⟨_, _, _, _, _, _, _, _, _, rfl, HF.out⟩
    · have HF : Hid (wiLoF bx n m lo z S0 S1 (upd d_ 4) x5 x6 x7 x8 (.int .i64 n) x10 x11 x12 x13 w1) := ⟨F.q1, F.q2, F.q3, fun h => rfl, F.q6, F.q7, fun h => ⟨(F.q8 h).1, (F.q8 h).2.1, (F.q8 h).2.2.1, (F.q8 h).2.2.2.1, rfl, (F.q8 h).2.2.2.2.2.1, (F.q8 h).2.2.2.2.2.2.1, (F.q8 h).2.2.2.2.2.2.2⟩, fun h => ⟨(F.q9 h).1, (F.q9 h).2.1, (F.q9 h).2.2.1, (F.q9 h).2.2.2.1, rfl, (F.q9 h).2.2.2.2.2.1, (F.q9 h).2.2.2.2.2.2.1, (F.q9 h).2.2.2.2.2.2.2.1, (F.q9 h).2.2.2.2.2.2.2.2⟩, F.f0, F.f1, F.f2, F.f3, fun _ => rfl, F.f5, F.f6, F.f7, F.f8, F.st0, F.st1⟩
      clear F
      go_simp
      exact HK.out _ _ ⟨_, _, _, _, _, _, _, _, _, rfl, HF.out⟩
    · obtain rfl := F.f4 (by simp [hdep])
      have HF : Hid (wiLoF bx n m lo z S0 S1 (upd d_ 5) x5 x6 x7 x8 (.int .i64 n) (.int .i64 m) x11 x12 x13 w1) := ⟨F.q1, F.q2, F.q3, fun _ => (show _ from (by simp [hdep] : d_ 4 = true)), fun h => rfl, F.q7, fun h => ⟨(F.q8 h).1, (F.q8 h).2.1, (F.q8 h).2.2.1, (F.q8 h).2.2.2.1, (F.q8 h).2.2.2.2.1, rfl, (F.q8 h).2.2.2.2.2.2.1, (F.q8 h).2.2.2.2.2.2.2⟩, fun h => ⟨(F.q9 h).1, (F.q9 h).2.1, (F.q9 h).2.2.1, (F.q9 h).2.2.2.1, (F.q9 h).2.2.2.2.1, rfl, (F.q9 h).2.2.2.2.2.2.1, (F.q9 h).2.2.2.2.2.2.2.1, (F.q9 h).2.2.2.2.2.2.2.2⟩, F.f0, F.f1, F.f2, F.f3, F.f4, fun _ => rfl, F.f6, F.f7, F.f8, F.st0, F.st1⟩
      clear F
      go_simp
      exact HK.out _ _ ⟨_, _, _, _, _, _, _, _, _, rfl, HF.out⟩
    · obtain rfl := F.f5 (by simp [hdep])
      have HF : Hid (wiLoF bx n m lo z S0 S1 (upd d_ 6) x5 x6 x7 x8 x9 (.int .i64 m) (.int .u64 z) x12 x13 w1) := ⟨F.q1, F.q2, F.q3, F.q5, fun _ => (show _ from (by simp [hdep] : d_ 5 = true)), fun h => ⟨(F.q7 h).1, rfl⟩, fun h => ⟨(F.q8 h).1, (F.q8 h).2.1, (F.q8 h).2.2.1, (F.q8 h).2.2.2.1, (F.q8 h).2.2.2.2.1, (F.q8 h).2.2.2.2.2.1, rfl, (F.q8 h).2.2.2.2.2.2.2⟩, fun h => ⟨(F.q9 h).1, (F.q9 h).2.1, (F.q9 h).2.2.1, (F.q9 h).2.2.2.1, (F.q9 h).2.2.2.2.1, (F.q9 h).2.2.2.2.2.1, rfl, (F.q9 h).2.2.2.2.2.2.2.1, (F.q9 h).2.2.2.2.2.2.2.2⟩, F.f0, F.f1, F.f2, F.f3, F.f4, F.f5, fun _ => rfl, F.f7, F.f8, F.st0, F.st1⟩
      clear F
      go_simp
      exact HK.out _ _ ⟨_, _, _, _, _, _, _, _, _, rfl, HF.out⟩
    · obtain rfl := F.f3 (by simp [hdep])
      obtain rfl := F.f6 (by simp [hdep])
      have HF : Hid (wiLoF bx n m lo z S0 S1 (upd d_ 7) x5 x6 x7 (.int .u64 lo) x9 x10 (.int .u64 z) (.int .u64 (lo ||| z : Nat)) x13 w1) := ⟨F.q1, F.q2, F.q3, F.q5, F.q6, fun _ => ⟨(show _ from (by simp [hdep] : d_ 3 = true)), (show _ from (by simp [hdep] : d_ 6 = true))⟩, fun h => ⟨(F.q8 h).1, (F.q8 h).2.1, (F.q8 h).2.2.1, (F.q8 h).2.2.2.1, (F.q8 h).2.2.2.2.1, (F.q8 h).2.2.2.2.2.1, (F.q8 h).2.2.2.2.2.2.1, rfl⟩, fun h => ⟨(F.q9 h).1, (F.q9 h).2.1, (F.q9 h).2.2.1, (F.q9 h).2.2.2.1, (F.q9 h).2.2.2.2.1, (F.q9 h).2.2.2.2.2.1, (F.q9 h).2.2.2.2.2.2.1, rfl, (F.q9 h).2.2.2.2.2.2.2.2⟩, F.f0, F.f1, F.f2, F.f3, F.f4, F.f5, F.f6, fun _ => rfl, F.f8, F.st0, F.st1⟩
      clear F
      go_simp
      exact HK.out _ _ ⟨_, _, _, _, _, _, _, _, _, rfl, HF.out⟩
    · obtain rfl := F.f1 (by simp [hdep])
      have HF : Hid (wiLoF bx n m lo z S0 S1 (upd d_ 8) x5 (.int .i64 0) x7 x8 x9 x10 x11 x12 (.pointer (some ⟨bx, 0, none⟩)) w1) := ⟨F.q1, F.q2, F.q3, F.q5, F.q6, F.q7, fun _ => ⟨(show _ from (by simp [hdep] : d_ 0 = true)), (show _ from (by simp [hdep] : d_ 1 = true)), (show _ from (by simp [hdep] : d_ 2 = true)), (show _ from (by simp [hdep] : d_ 3 = true)), (show _ from (by simp [hdep] : d_ 4 = true)), (show _ from (by simp [hdep] : d_ 5 = true)), (show _ from (by simp [hdep] : d_ 6 = true)), (show _ from (by simp [hdep] : d_ 7 = true))⟩, fun h => ⟨(F.q9 h).1, (F.q9 h).2.1, (F.q9 h).2.2.1, (F.q9 h).2.2.2.1, (F.q9 h).2.2.2.2.1, (F.q9 h).2.2.2.2.2.1, (F.q9 h).2.2.2.2.2.2.1, (F.q9 h).2.2.2.2.2.2.2.1, rfl⟩, F.f0, F.f1, F.f2, F.f3, F.f4, F.f5, F.f6, F.f7, fun _ => rfl, F.st0, F.st1⟩
      clear F
      go_simp
      exact HK.out _ _ ⟨_, _, _, _, _, _, _, _, _, rfl, HF.out⟩
    · have hS := F.st0  hd_
      obtain rfl := F.f7 (by simp [hdep])
      obtain rfl := F.f8 (by simp [hdep])
      obtain ⟨⟨u0, kcell0⟩, kfr0, hres⟩ := kc9.out w1 hS
      have HF : Hid (wiLoF bx n m lo z S0 S1 (upd d_ 9) x5 x6 x7 x8 x9 x10 x11 (.int .u64 (lo ||| z : Nat)) (.pointer (some ⟨bx, 0, none⟩)) (w1.setCell ⟨bx, 0, none⟩ (.int .u64 (lo ||| z : Nat)))) := ⟨F.q1, F.q2, F.q3, F.q5, F.q6, F.q7, F.q8, fun _ => ⟨(show _ from (by simp [hdep] : d_ 0 = true)), (show _ from (by simp [hdep] : d_ 1 = true)), (show _ from (by simp [hdep] : d_ 2 = true)), (show _ from (by simp [hdep] : d_ 3 = true)), (show _ from (by simp [hdep] : d_ 4 = true)), (show _ from (by simp [hdep] : d_ 5 = true)), (show _ from (by simp [hdep] : d_ 6 = true)), (show _ from (by simp [hdep] : d_ 7 = true)), (show _ from (by simp [hdep] : d_ 8 = true))⟩, F.f0, F.f1, F.f2, F.f3, F.f4, F.f5, F.f6, F.f7, F.f8, fun h => (by simp [upd] at h), fun _ => hres⟩
      clear F hS hres
      go_simp
      exact HK.out _ _ ⟨_, _, _, _, _, _, _, _, _, rfl, HF.out⟩
  · rintro d_ a_ w1 hall ⟨x5, x6, x7, x8, x9, x10, x11, x12, x13, rfl, F⟩
    have hall' : ∀ k, k < 10 → d_ k = true := hall
    obtain rfl := F.f0 (hall' 0 (by decide))
    obtain rfl := F.f1 (hall' 1 (by decide))
    obtain rfl := F.f2 (hall' 2 (by decide))
    obtain rfl := F.f3 (hall' 3 (by decide))
    obtain rfl := F.f4 (hall' 4 (by decide))
    obtain rfl := F.f5 (hall' 5 (by decide))
    obtain rfl := F.f6 (hall' 6 (by decide))
    obtain rfl := F.f7 (hall' 7 (by decide))
    obtain rfl := F.f8 (hall' 8 (by decide))
    have hst := F.st1 (hall' 9 (by decide))
    exact HQ.out  w1 hst
structure wiHiF (bx : Nat) (n : Nat) (m : Nat) (lo : Nat) (z : Nat) (S0 : World → Prop) (S1 : World → Prop) (d : Nat → Bool) (x5 x6 x7 x8 x9 x10 x11 x12 x13 : Value) (w : World) : Prop where
  q1 : d 1 = true → d 0 = true
  q2 : d 2 = true → d 1 = true
  q3 : d 3 = true → d 2 = true
  q5 : d 5 = true → d 4 = true
  q6 : d 6 = true → d 5 = true
  q7 : d 7 = true → d 3 = true ∧ d 6 = true
  q8 : d 8 = true → d 0 = true ∧ d 1 = true ∧ d 2 = true ∧ d 3 = true ∧ d 4 = true ∧ d 5 = true ∧ d 6 = true ∧ d 7 = true
  q9 : d 9 = true → d 0 = true ∧ d 1 = true ∧ d 2 = true ∧ d 3 = true ∧ d 4 = true ∧ d 5 = true ∧ d 6 = true ∧ d 7 = true ∧ d 8 = true
  f0 : d 0 = true → x5 = .int .i64 n
  f1 : d 1 = true → x6 = .int .i64 1
  f2 : d 2 = true → x7 = .pointer (some ⟨bx, 1, none⟩)
  f3 : d 3 = true → x8 = .int .u64 lo
  f4 : d 4 = true → x9 = .int .i64 n
  f5 : d 5 = true → x10 = .int .i64 m
  f6 : d 6 = true → x11 = .int .u64 z
  f7 : d 7 = true → x12 = .int .u64 (lo ||| z : Nat)
  f8 : d 8 = true → x13 = .pointer (some ⟨bx, 1, none⟩)
  st0 : d 9 = false → S0 w
  st1 : d 9 = true → S1 w
noncomputable def wiHiC : Code := (Try.f105.body.bind (regionAt 1)).getD .skip
set_option maxRecDepth 100000 in
set_option maxHeartbeats 4000000 in
theorem wiHi {bx : Nat} {n : Nat} {m : Nat} {lo : Nat} {z : Nat} {S0 : World → Prop} {S1 : World → Prop} {Q : Exit → Act → World → Prop} {W1 : World} (hn : n < 128) (hm64 : m < 64) (hd : (n : Int) / 64 = 1) (hd2 : n / 64 = 1) (hm : (n : Int).tmod 64 = (m : Int)) (hwr : IntKind.u64.wrap (2 ^ m) = (z : Int)) (hor : bits .or .u64 (lo : Int) (z : Int) = ((lo ||| z : Nat) : Int)) (h0 : S0 W1.drew)
    (kl3 : Hid (∀ (w : World), (S0 w) → w.cell? ⟨bx, 1, none⟩ = some (.int .u64 lo)))
    (kc9 : Hid (∀ (w : World), S0 w → (∃ u, w.cell? ⟨bx, 1, none⟩ = some u) ∧ w.frozen? ⟨bx, 1, none⟩ = false ∧ S1 (w.setCell ⟨bx, 1, none⟩ (.int .u64 (lo ||| z : Nat)))))
    {s0 s3 s4 s5 s6 s7 s8 s9 s10 s11 s12 s13 s14 : Value} {dd : List Deferred}
    (hQ : ∀ (w' : World), S1 w' → Q .normal { tmps := #[s0, .int .i64 n, .pointer (some ⟨bx, 0, none⟩), s3, s4, .int .i64 n, .int .i64 1, .pointer (some ⟨bx, 1, none⟩), .int .u64 lo, .int .i64 n, .int .i64 m, .int .u64 z, .int .u64 (lo ||| z : Nat), .pointer (some ⟨bx, 1, none⟩), s14], defers := dd } w') :
    Code.wpIn (wideAt none) 0 Try.prog wiHiC Q { tmps := #[s0, .int .i64 n, .pointer (some ⟨bx, 0, none⟩), s3, s4, s5, s6, s7, s8, s9, s10, s11, s12, s13, s14], defers := dd } W1 := by
  have HQ := Lib.hid hQ
  clear hQ
  conv => arg 4; whnf
  refine wpIn_region_invG mixed (by kernel_rfl) (fun d_ a_ w' => ∃ (x5 : Value) (x6 : Value) (x7 : Value) (x8 : Value) (x9 : Value) (x10 : Value) (x11 : Value) (x12 : Value) (x13 : Value), a_ = { tmps := #[s0, .int .i64 n, .pointer (some ⟨bx, 0, none⟩), s3, s4, x5, x6, x7, x8, x9, x10, x11, x12, x13, s14], defers := dd } ∧ wiHiF bx n m lo z S0 S1 d_ x5 x6 x7 x8 x9 x10 x11 x12 x13 w') ?_ ?_ ?_
  · refine ⟨s5, s6, s7, s8, s9, s10, s11, s12, s13, rfl, ?_⟩
    constructor <;> first | rfl | (intro _; rfl) | (intro h; cases h; done) | (intro _; exact h0) | exact h0
  · refine ⟨?_, ?_, ?_, ?_, ?_, ?_, ?_, ?_, ?_, ?_, trivial⟩
    all_goals
      rintro d_ a_ w1 K hd_ hdep ⟨x5, x6, x7, x8, x9, x10, x11, x12, x13, rfl, F⟩ HK
      simp [Region.binds] at hdep
    · have HF : Hid (wiHiF bx n m lo z S0 S1 (upd d_ 0) (.int .i64 n) x6 x7 x8 x9 x10 x11 x12 x13 w1) := ⟨fun h => rfl, F.q2, F.q3, F.q5, F.q6, F.q7, fun h => ⟨rfl, (F.q8 h).2.1, (F.q8 h).2.2.1, (F.q8 h).2.2.2.1, (F.q8 h).2.2.2.2.1, (F.q8 h).2.2.2.2.2.1, (F.q8 h).2.2.2.2.2.2.1, (F.q8 h).2.2.2.2.2.2.2⟩, fun h => ⟨rfl, (F.q9 h).2.1, (F.q9 h).2.2.1, (F.q9 h).2.2.2.1, (F.q9 h).2.2.2.2.1, (F.q9 h).2.2.2.2.2.1, (F.q9 h).2.2.2.2.2.2.1, (F.q9 h).2.2.2.2.2.2.2.1, (F.q9 h).2.2.2.2.2.2.2.2⟩, fun _ => rfl, F.f1, F.f2, F.f3, F.f4, F.f5, F.f6, F.f7, F.f8, F.st0, F.st1⟩
      clear F
      go_simp
      exact HK.out _ _ ⟨_, _, _, _, _, _, _, _, _, rfl, HF.out⟩
    · obtain rfl := F.f0 (by simp [hdep])
      have HF : Hid (wiHiF bx n m lo z S0 S1 (upd d_ 1) (.int .i64 n) (.int .i64 1) x7 x8 x9 x10 x11 x12 x13 w1) := ⟨fun _ => (show _ from (by simp [hdep] : d_ 0 = true)), fun h => rfl, F.q3, F.q5, F.q6, F.q7, fun h => ⟨(F.q8 h).1, rfl, (F.q8 h).2.2.1, (F.q8 h).2.2.2.1, (F.q8 h).2.2.2.2.1, (F.q8 h).2.2.2.2.2.1, (F.q8 h).2.2.2.2.2.2.1, (F.q8 h).2.2.2.2.2.2.2⟩, fun h => ⟨(F.q9 h).1, rfl, (F.q9 h).2.2.1, (F.q9 h).2.2.2.1, (F.q9 h).2.2.2.2.1, (F.q9 h).2.2.2.2.2.1, (F.q9 h).2.2.2.2.2.2.1, (F.q9 h).2.2.2.2.2.2.2.1, (F.q9 h).2.2.2.2.2.2.2.2⟩, F.f0, fun _ => rfl, F.f2, F.f3, F.f4, F.f5, F.f6, F.f7, F.f8, F.st0, F.st1⟩
      clear F
      go_simp
      exact HK.out _ _ ⟨_, _, _, _, _, _, _, _, _, rfl, HF.out⟩
    · obtain rfl := F.f1 (by simp [hdep])
      have HF : Hid (wiHiF bx n m lo z S0 S1 (upd d_ 2) x5 (.int .i64 1) (.pointer (some ⟨bx, 1, none⟩)) x8 x9 x10 x11 x12 x13 w1) := ⟨F.q1, fun _ => (show _ from (by simp [hdep] : d_ 1 = true)), fun h => rfl, F.q5, F.q6, F.q7, fun h => ⟨(F.q8 h).1, (F.q8 h).2.1, rfl, (F.q8 h).2.2.2.1, (F.q8 h).2.2.2.2.1, (F.q8 h).2.2.2.2.2.1, (F.q8 h).2.2.2.2.2.2.1, (F.q8 h).2.2.2.2.2.2.2⟩, fun h => ⟨(F.q9 h).1, (F.q9 h).2.1, rfl, (F.q9 h).2.2.2.1, (F.q9 h).2.2.2.2.1, (F.q9 h).2.2.2.2.2.1, (F.q9 h).2.2.2.2.2.2.1, (F.q9 h).2.2.2.2.2.2.2.1, (F.q9 h).2.2.2.2.2.2.2.2⟩, F.f0, F.f1, fun _ => rfl, F.f3, F.f4, F.f5, F.f6, F.f7, F.f8, F.st0, F.st1⟩
      clear F
      go_simp
      exact HK.out _ _ ⟨_, _, _, _, _, _, _, _, _, rfl, HF.out⟩
    · have hst : S0 w1 := by
        have n_ : d_ 9 = false := by
          cases e_ : d_ 9 with
          | false => rfl
          | true => have h2 := (F.q9 e_).2.2.2.1; rw [show d_ 3 = false from hd_] at h2; cases h2
        exact (F.st0 n_)
      have kk := kl3.out w1 hst
      clear hst
      obtain rfl := F.f2 (by simp [hdep])
      have HF : Hid (wiHiF bx n m lo z S0 S1 (upd d_ 3) x5 x6 (.pointer (some ⟨bx, 1, none⟩)) (.int .u64 lo) x9 x10 x11 x12 x13 w1) := ⟨F.q1, F.q2, fun _ => (show _ from (by simp [hdep] : d_ 2 = true)), F.q5, F.q6, fun h => ⟨rfl, (F.q7 h).2⟩, fun h => ⟨(F.q8 h).1, (F.q8 h).2.1, (F.q8 h).2.2.1, rfl, (F.q8 h).2.2.2.2.1, (F.q8 h).2.2.2.2.2.1, (F.q8 h).2.2.2.2.2.2.1, (F.q8 h).2.2.2.2.2.2.2⟩, fun h => ⟨(F.q9 h).1, (F.q9 h).2.1, (F.q9 h).2.2.1, rfl, (F.q9 h).2.2.2.2.1, (F.q9 h).2.2.2.2.2.1, (F.q9 h).2.2.2.2.2.2.1, (F.q9 h).2.2.2.2.2.2.2.1, (F.q9 h).2.2.2.2.2.2.2.2⟩, F.f0, F.f1, F.f2, fun _ => rfl, F.f4, F.f5, F.f6, F.f7, F.f8, F.st0, F.st1⟩
      clear F
      go_simp
      exact HK.out _ _ ⟨_, _, _, _, _, _, _, _, _, rfl, HF.out⟩
    · have HF : Hid (wiHiF bx n m lo z S0 S1 (upd d_ 4) x5 x6 x7 x8 (.int .i64 n) x10 x11 x12 x13 w1) := ⟨F.q1, F.q2, F.q3, fun h => rfl, F.q6, F.q7, fun h => ⟨(F.q8 h).1, (F.q8 h).2.1, (F.q8 h).2.2.1, (F.q8 h).2.2.2.1, rfl, (F.q8 h).2.2.2.2.2.1, (F.q8 h).2.2.2.2.2.2.1, (F.q8 h).2.2.2.2.2.2.2⟩, fun h => ⟨(F.q9 h).1, (F.q9 h).2.1, (F.q9 h).2.2.1, (F.q9 h).2.2.2.1, rfl, (F.q9 h).2.2.2.2.2.1, (F.q9 h).2.2.2.2.2.2.1, (F.q9 h).2.2.2.2.2.2.2.1, (F.q9 h).2.2.2.2.2.2.2.2⟩, F.f0, F.f1, F.f2, F.f3, fun _ => rfl, F.f5, F.f6, F.f7, F.f8, F.st0, F.st1⟩
      clear F
      go_simp
      exact HK.out _ _ ⟨_, _, _, _, _, _, _, _, _, rfl, HF.out⟩
    · obtain rfl := F.f4 (by simp [hdep])
      have HF : Hid (wiHiF bx n m lo z S0 S1 (upd d_ 5) x5 x6 x7 x8 (.int .i64 n) (.int .i64 m) x11 x12 x13 w1) := ⟨F.q1, F.q2, F.q3, fun _ => (show _ from (by simp [hdep] : d_ 4 = true)), fun h => rfl, F.q7, fun h => ⟨(F.q8 h).1, (F.q8 h).2.1, (F.q8 h).2.2.1, (F.q8 h).2.2.2.1, (F.q8 h).2.2.2.2.1, rfl, (F.q8 h).2.2.2.2.2.2.1, (F.q8 h).2.2.2.2.2.2.2⟩, fun h => ⟨(F.q9 h).1, (F.q9 h).2.1, (F.q9 h).2.2.1, (F.q9 h).2.2.2.1, (F.q9 h).2.2.2.2.1, rfl, (F.q9 h).2.2.2.2.2.2.1, (F.q9 h).2.2.2.2.2.2.2.1, (F.q9 h).2.2.2.2.2.2.2.2⟩, F.f0, F.f1, F.f2, F.f3, F.f4, fun _ => rfl, F.f6, F.f7, F.f8, F.st0, F.st1⟩
      clear F
      go_simp
      exact HK.out _ _ ⟨_, _, _, _, _, _, _, _, _, rfl, HF.out⟩
    · obtain rfl := F.f5 (by simp [hdep])
      have HF : Hid (wiHiF bx n m lo z S0 S1 (upd d_ 6) x5 x6 x7 x8 x9 (.int .i64 m) (.int .u64 z) x12 x13 w1) := ⟨F.q1, F.q2, F.q3, F.q5, fun _ => (show _ from (by simp [hdep] : d_ 5 = true)), fun h => ⟨(F.q7 h).1, rfl⟩, fun h => ⟨(F.q8 h).1, (F.q8 h).2.1, (F.q8 h).2.2.1, (F.q8 h).2.2.2.1, (F.q8 h).2.2.2.2.1, (F.q8 h).2.2.2.2.2.1, rfl, (F.q8 h).2.2.2.2.2.2.2⟩, fun h => ⟨(F.q9 h).1, (F.q9 h).2.1, (F.q9 h).2.2.1, (F.q9 h).2.2.2.1, (F.q9 h).2.2.2.2.1, (F.q9 h).2.2.2.2.2.1, rfl, (F.q9 h).2.2.2.2.2.2.2.1, (F.q9 h).2.2.2.2.2.2.2.2⟩, F.f0, F.f1, F.f2, F.f3, F.f4, F.f5, fun _ => rfl, F.f7, F.f8, F.st0, F.st1⟩
      clear F
      go_simp
      exact HK.out _ _ ⟨_, _, _, _, _, _, _, _, _, rfl, HF.out⟩
    · obtain rfl := F.f3 (by simp [hdep])
      obtain rfl := F.f6 (by simp [hdep])
      have HF : Hid (wiHiF bx n m lo z S0 S1 (upd d_ 7) x5 x6 x7 (.int .u64 lo) x9 x10 (.int .u64 z) (.int .u64 (lo ||| z : Nat)) x13 w1) := ⟨F.q1, F.q2, F.q3, F.q5, F.q6, fun _ => ⟨(show _ from (by simp [hdep] : d_ 3 = true)), (show _ from (by simp [hdep] : d_ 6 = true))⟩, fun h => ⟨(F.q8 h).1, (F.q8 h).2.1, (F.q8 h).2.2.1, (F.q8 h).2.2.2.1, (F.q8 h).2.2.2.2.1, (F.q8 h).2.2.2.2.2.1, (F.q8 h).2.2.2.2.2.2.1, rfl⟩, fun h => ⟨(F.q9 h).1, (F.q9 h).2.1, (F.q9 h).2.2.1, (F.q9 h).2.2.2.1, (F.q9 h).2.2.2.2.1, (F.q9 h).2.2.2.2.2.1, (F.q9 h).2.2.2.2.2.2.1, rfl, (F.q9 h).2.2.2.2.2.2.2.2⟩, F.f0, F.f1, F.f2, F.f3, F.f4, F.f5, F.f6, fun _ => rfl, F.f8, F.st0, F.st1⟩
      clear F
      go_simp
      exact HK.out _ _ ⟨_, _, _, _, _, _, _, _, _, rfl, HF.out⟩
    · obtain rfl := F.f1 (by simp [hdep])
      have HF : Hid (wiHiF bx n m lo z S0 S1 (upd d_ 8) x5 (.int .i64 1) x7 x8 x9 x10 x11 x12 (.pointer (some ⟨bx, 1, none⟩)) w1) := ⟨F.q1, F.q2, F.q3, F.q5, F.q6, F.q7, fun _ => ⟨(show _ from (by simp [hdep] : d_ 0 = true)), (show _ from (by simp [hdep] : d_ 1 = true)), (show _ from (by simp [hdep] : d_ 2 = true)), (show _ from (by simp [hdep] : d_ 3 = true)), (show _ from (by simp [hdep] : d_ 4 = true)), (show _ from (by simp [hdep] : d_ 5 = true)), (show _ from (by simp [hdep] : d_ 6 = true)), (show _ from (by simp [hdep] : d_ 7 = true))⟩, fun h => ⟨(F.q9 h).1, (F.q9 h).2.1, (F.q9 h).2.2.1, (F.q9 h).2.2.2.1, (F.q9 h).2.2.2.2.1, (F.q9 h).2.2.2.2.2.1, (F.q9 h).2.2.2.2.2.2.1, (F.q9 h).2.2.2.2.2.2.2.1, rfl⟩, F.f0, F.f1, F.f2, F.f3, F.f4, F.f5, F.f6, F.f7, fun _ => rfl, F.st0, F.st1⟩
      clear F
      go_simp
      exact HK.out _ _ ⟨_, _, _, _, _, _, _, _, _, rfl, HF.out⟩
    · have hS := F.st0  hd_
      obtain rfl := F.f7 (by simp [hdep])
      obtain rfl := F.f8 (by simp [hdep])
      obtain ⟨⟨u0, kcell0⟩, kfr0, hres⟩ := kc9.out w1 hS
      have HF : Hid (wiHiF bx n m lo z S0 S1 (upd d_ 9) x5 x6 x7 x8 x9 x10 x11 (.int .u64 (lo ||| z : Nat)) (.pointer (some ⟨bx, 1, none⟩)) (w1.setCell ⟨bx, 1, none⟩ (.int .u64 (lo ||| z : Nat)))) := ⟨F.q1, F.q2, F.q3, F.q5, F.q6, F.q7, F.q8, fun _ => ⟨(show _ from (by simp [hdep] : d_ 0 = true)), (show _ from (by simp [hdep] : d_ 1 = true)), (show _ from (by simp [hdep] : d_ 2 = true)), (show _ from (by simp [hdep] : d_ 3 = true)), (show _ from (by simp [hdep] : d_ 4 = true)), (show _ from (by simp [hdep] : d_ 5 = true)), (show _ from (by simp [hdep] : d_ 6 = true)), (show _ from (by simp [hdep] : d_ 7 = true)), (show _ from (by simp [hdep] : d_ 8 = true))⟩, F.f0, F.f1, F.f2, F.f3, F.f4, F.f5, F.f6, F.f7, F.f8, fun h => (by simp [upd] at h), fun _ => hres⟩
      clear F hS hres
      go_simp
      exact HK.out _ _ ⟨_, _, _, _, _, _, _, _, _, rfl, HF.out⟩
  · rintro d_ a_ w1 hall ⟨x5, x6, x7, x8, x9, x10, x11, x12, x13, rfl, F⟩
    have hall' : ∀ k, k < 10 → d_ k = true := hall
    obtain rfl := F.f0 (hall' 0 (by decide))
    obtain rfl := F.f1 (hall' 1 (by decide))
    obtain rfl := F.f2 (hall' 2 (by decide))
    obtain rfl := F.f3 (hall' 3 (by decide))
    obtain rfl := F.f4 (hall' 4 (by decide))
    obtain rfl := F.f5 (hall' 5 (by decide))
    obtain rfl := F.f6 (hall' 6 (by decide))
    obtain rfl := F.f7 (hall' 7 (by decide))
    obtain rfl := F.f8 (hall' 8 (by decide))
    have hst := F.st1 (hall' 9 (by decide))
    exact HQ.out  w1 hst
theorem heap2' (w : World) (a b : Obj) : let W := (w.alloc a).alloc b
    W.heap[w.heap.size]? = some a ∧ W.heap[w.heap.size + 1]? = some b ∧ W.heap.size = w.heap.size + 2 ∧ Below w.heap.size w W := by
  have q0 := World.alloc_heap_new w a
  have q1 := World.alloc_heap_new (w.alloc a) b
  simp only [World.size_alloc] at q1
  exact ⟨(Below.heap_alloc _ _ _ (by simp)).trans q0, q1, by simp, ((Below.refl _ w).alloc (Nat.le_refl _) _).alloc (by simp) _⟩
theorem bit_two (n i : Nat) : (2 ^ n).testBit i = decide (n = i) := Nat.testBit_two_pow
theorem with_lo {S n : Nat} (h : n < 64) : (S ||| 2 ^ n) % 2 ^ 64 = S % 2 ^ 64 ||| 2 ^ n ∧ (S ||| 2 ^ n) / 2 ^ 64 = S / 2 ^ 64 := by
  constructor
  · apply Nat.eq_of_testBit_eq
    intro i
    rw [Nat.testBit_mod_two_pow, Nat.testBit_or, Nat.testBit_or, Nat.testBit_mod_two_pow, bit_two]
    by_cases hi : i < 64
    · simp [hi]
    · have : ¬ n = i := by omega
      simp [hi, this]
  · apply Nat.eq_of_testBit_eq
    intro i
    rw [Nat.testBit_div_two_pow, Nat.testBit_or, Nat.testBit_div_two_pow, bit_two]
    have : ¬ n = i + 64 := by omega
    simp [this]
theorem with_hi {S m : Nat} : (S ||| 2 ^ (64 + m)) % 2 ^ 64 = S % 2 ^ 64 ∧ (S ||| 2 ^ (64 + m)) / 2 ^ 64 = S / 2 ^ 64 ||| 2 ^ m := by
  constructor
  · apply Nat.eq_of_testBit_eq
    intro i
    rw [Nat.testBit_mod_two_pow, Nat.testBit_or, Nat.testBit_mod_two_pow, bit_two]
    by_cases hi : i < 64
    · have : ¬ 64 + m = i := by omega
      simp [this]
    · simp [hi]
  · apply Nat.eq_of_testBit_eq
    intro i
    rw [Nat.testBit_div_two_pow, Nat.testBit_or, Nat.testBit_or, Nat.testBit_div_two_pow, bit_two, bit_two]
    have : (64 + m = i + 64) = (m = i) := by apply propext; omega
    simp only [this]
theorem pow_u64 {m : Nat} (h : m < 64) : IntKind.u64.wrap (2 ^ m) = ((2 ^ m : Nat) : Int) := by
  have h1 : 2 ^ m < 2 ^ 64 := Nat.pow_lt_pow_right (by decide) h
  have h2 : ((2 ^ m : Nat) : Int) < ((2 ^ 64 : Nat) : Int) := by exact_mod_cast h1
  have h4 : ((2 : Int) ^ m) = ((2 ^ m : Nat) : Int) := by simp
  rw [h4]
  have h5 : ((2 ^ 64 : Nat) : Int) = 18446744073709551616 := by decide
  rw [h5] at h2
  revert h2
  generalize 2 ^ m = z
  intro h2
  rw [IntKind.wrap_u64]
  omega
theorem res_c95 {fn : Func} {p : Tmp} (h : fn.results = #[.cell p 95]) (tmps : Array Value) {w : World} {a : Nat} {x y : Value} (hp : tmps.getD p undef = .pointer (some ⟨a, 0, none⟩)) (hx : w.cell? ⟨a, 0, none⟩ = some x) (hy : w.cell? ⟨a, 1, none⟩ = some y) :
    (results fn tmps).run Try.prog w = .ok (.agg #[x, y]) w := by
  have hp' : tmps[p]?.getD undef = .pointer (some ⟨a, 0, none⟩) := by simpa using hp
  simp [results, h, hp', hx, hy, go_sem]
set_option maxRecDepth 100000 in
set_option maxHeartbeats 2000000 in
theorem with_any {S n : Nat} (hn : n < 128) (hS : S < 2 ^ 128) (w : World) : Calls Try.prog 105 #[leftV S, .int .i64 n] w fun e w' => e = .returned (leftV (S ||| 2 ^ n)) ∧ Below w.heap.size w w' := by
  have hlo : S % 2 ^ 64 < 2 ^ 64 := Nat.mod_lt _ (Nat.two_pow_pos _)
  have hhi : S / 2 ^ 64 < 2 ^ 64 := by rw [Nat.div_lt_iff_lt_mul (Nat.two_pow_pos _), ← Nat.pow_add]; exact hS
  by_cases h : n < 64
  · have hd : (n : Int) / 64 = 0 := by omega
    have hd2 : n / 64 = 0 := by omega
    have hm : (n : Int).tmod 64 = (n : Int) := by rw [Int.tmod_eq_emod_of_nonneg (by omega)]; omega
    have hor := (and_u64 (S % 2 ^ 64) (2 ^ n) hlo (Nat.pow_lt_pow_right (by decide) h)).2
    obtain ⟨e1, e2⟩ := with_lo (S := S) h
    have hwr := pow_u64 h
    obtain ⟨z, hz⟩ : ∃ z, 2 ^ n = z := ⟨_, rfl⟩
    rw [hz] at hor hwr e1 e2 ⊢
    rw [two64] at hor e1 e2
    show Calls Try.prog 105 #[.agg #[.int .u64 ((S % 18446744073709551616 : Nat) : Int), .int .u64 ((S / 18446744073709551616 : Nat) : Int)], .int .i64 n] w (fun e w' => e = .returned (.agg #[.int .u64 (((S ||| z) % 18446744073709551616 : Nat) : Int), .int .u64 (((S ||| z) / 18446744073709551616 : Nat) : Int)]) ∧ Below w.heap.size w w')
    rw [e1, e2]
    obtain ⟨lo, hlo'⟩ : ∃ lo, S % 18446744073709551616 = lo := ⟨_, rfl⟩
    obtain ⟨hi, hhi'⟩ : ∃ hi, S / 18446744073709551616 = hi := ⟨_, rfl⟩
    rw [hlo'] at hor ⊢
    rw [hhi']
    have HH := Lib.hid (And.intro hd (And.intro hd2 (And.intro hm (And.intro hor hwr))))
    clear hlo' hhi' e1 e2 hlo hhi hS hd hd2 hm hor hwr hz
    go_enter Try.func105, Try.ntmps105
    go_wp2_with fail
    obtain ⟨q0, q1, hz, hb⟩ := heap2' w (.cells #[.int .u64 lo, .int .u64 hi] 95) (.cells #[.int .u64 0, .int .u64 0] 95)
    revert q0 q1 hz hb
    generalize ((w.alloc (.cells #[.int .u64 lo, .int .u64 hi] 95)).alloc (.cells #[.int .u64 0, .int .u64 0] 95)) = W1
    intro q0 q1 hz hb
    refine wpIn_wide.1 (wiLo (bx := w.heap.size) (n := n) (m := n) (lo := lo) (z := z) (S0 := fun w' => Below W1.heap.size W1 w') (S1 := fun w' => Below w.heap.size w w' ∧ w'.heap[w.heap.size]? = some (.cells #[.int .u64 (lo ||| z : Nat), .int .u64 hi] 95 (0, 0)) ∧ w'.heap[w.heap.size + 1]? = some (.cells #[.int .u64 0, .int .u64 0] 95 (0, 0)))
      hn h HH.out.1 HH.out.2.1 HH.out.2.2.1 HH.out.2.2.2.2 HH.out.2.2.2.1 ?h0 ?l3 ?c9 ?hQ)
    case h0 => exact (Below.refl _ _).drew
    case l3 => exact fun w' h => by rw [cell_of_heap ((h.block _ (heap_lt q0)).trans q0)]; rfl
    case c9 =>
      intro w' h
      have e := (h.block _ (heap_lt q0)).trans q0
      exact ⟨⟨_, by rw [cell_of_heap e]; rfl⟩, frozen_of_heap e, (hb.trans (h.mono hb.size)).setCell (Nat.le_refl _) _, heap_setCell_at (k := 0) e _, (Below.heap_setCell _ _ _ _ (by show w.heap.size + 1 ≠ w.heap.size; omega)).trans ((h.block _ (heap_lt q1)).trans q1)⟩
    case hQ =>
      rintro w3 ⟨hB3, r0, r1⟩
      have c0 : w3.cell? ⟨w.heap.size, 0, none⟩ = some (.int .u64 (lo ||| z : Nat)) := by rw [cell_of_heap r0]; rfl
      have c1 : w3.cell? ⟨w.heap.size, 1, none⟩ = some (.int .u64 hi) := by rw [cell_of_heap r0]; rfl
      have c2 : w3.cell? ⟨w.heap.size + 1, 0, none⟩ = some (.int .u64 0) := by rw [cell_of_heap r1]; rfl
      have c3 : w3.cell? ⟨w.heap.size + 1, 1, none⟩ = some (.int .u64 0) := by rw [cell_of_heap r1]; rfl
      have f2 : ∀ k, w3.frozen? ⟨w.heap.size + 1, k, none⟩ = false := fun k => frozen_of_heap r1
      have HR := Lib.hid (And.intro hB3 r1)
      clear hB3 r0 r1 q0 q1 hz hb
      clear W1
      go_wp2_with fail
      have e1 := heap_setCell_at (k := 1) (heap_setCell_at (k := 0) HR.out.2 (.int .u64 (lo ||| z : Nat))) (.int .u64 hi)
      exact bodyPost_ret (v := .agg #[.int .u64 (lo ||| z : Nat), .int .u64 hi]) (res_c95 rfl _ rfl (by rw [cell_of_heap e1]; rfl) (by rw [cell_of_heap e1]; rfl)) rfl ⟨rfl, (HR.out.1.setCell (by show w.heap.size ≤ w.heap.size + 1; omega) _).setCell (by show w.heap.size ≤ w.heap.size + 1; omega) _⟩
  · obtain ⟨m, rfl⟩ : ∃ m, n = 64 + m := ⟨n - 64, by omega⟩
    have hm64 : m < 64 := by omega
    have hd : ((64 + m : Nat) : Int) / 64 = 1 := by omega
    have hd2 : (64 + m) / 64 = 1 := by omega
    have hm : ((64 + m : Nat) : Int).tmod 64 = (m : Int) := by rw [Int.tmod_eq_emod_of_nonneg (by omega)]; omega
    have hor := (and_u64 (S / 2 ^ 64) (2 ^ m) hhi (Nat.pow_lt_pow_right (by decide) hm64)).2
    obtain ⟨e1, e2⟩ := with_hi (S := S) (m := m)
    have hwr := pow_u64 hm64
    obtain ⟨z, hz⟩ : ∃ z, 2 ^ m = z := ⟨_, rfl⟩
    rw [hz] at hor hwr e2
    rw [two64] at hor e1 e2
    show Calls Try.prog 105 #[.agg #[.int .u64 ((S % 18446744073709551616 : Nat) : Int), .int .u64 ((S / 18446744073709551616 : Nat) : Int)], .int .i64 ((64 + m : Nat) : Int)] w (fun e w' => e = .returned (.agg #[.int .u64 (((S ||| 2 ^ (64 + m)) % 18446744073709551616 : Nat) : Int), .int .u64 (((S ||| 2 ^ (64 + m)) / 18446744073709551616 : Nat) : Int)]) ∧ Below w.heap.size w w')
    rw [e1, e2]
    obtain ⟨lo, hlo'⟩ : ∃ lo, S % 18446744073709551616 = lo := ⟨_, rfl⟩
    obtain ⟨hi, hhi'⟩ : ∃ hi, S / 18446744073709551616 = hi := ⟨_, rfl⟩
    rw [hhi'] at hor ⊢
    rw [hlo']
    obtain ⟨nn, hnn⟩ : ∃ nn : Nat, 64 + m = nn := ⟨_, rfl⟩
    rw [hnn] at hd hd2 hm hn ⊢
    have HH := Lib.hid (And.intro hd (And.intro hd2 (And.intro hm (And.intro hor hwr))))
    clear hlo' hhi' e1 e2 hlo hhi hS hd hd2 hm hor hwr hz hnn h
    go_enter Try.func105, Try.ntmps105
    go_wp2_with fail
    obtain ⟨q0, q1, hz, hb⟩ := heap2' w (.cells #[.int .u64 lo, .int .u64 hi] 95) (.cells #[.int .u64 0, .int .u64 0] 95)
    revert q0 q1 hz hb
    generalize ((w.alloc (.cells #[.int .u64 lo, .int .u64 hi] 95)).alloc (.cells #[.int .u64 0, .int .u64 0] 95)) = W1
    intro q0 q1 hz hb
    refine wpIn_wide.1 (wiHi (bx := w.heap.size) (n := nn) (m := m) (lo := hi) (z := z) (S0 := fun w' => Below W1.heap.size W1 w') (S1 := fun w' => Below w.heap.size w w' ∧ w'.heap[w.heap.size]? = some (.cells #[.int .u64 lo, .int .u64 (hi ||| z : Nat)] 95 (0, 0)) ∧ w'.heap[w.heap.size + 1]? = some (.cells #[.int .u64 0, .int .u64 0] 95 (0, 0)))
      hn hm64 HH.out.1 HH.out.2.1 HH.out.2.2.1 HH.out.2.2.2.2 HH.out.2.2.2.1 ?h0 ?l3 ?c9 ?hQ)
    case h0 => exact (Below.refl _ _).drew
    case l3 => exact fun w' h => by rw [cell_of_heap ((h.block _ (heap_lt q0)).trans q0)]; rfl
    case c9 =>
      intro w' h
      have e := (h.block _ (heap_lt q0)).trans q0
      exact ⟨⟨_, by rw [cell_of_heap e]; rfl⟩, frozen_of_heap e, (hb.trans (h.mono hb.size)).setCell (Nat.le_refl _) _, heap_setCell_at (k := 1) e _, (Below.heap_setCell _ _ _ _ (by show w.heap.size + 1 ≠ w.heap.size; omega)).trans ((h.block _ (heap_lt q1)).trans q1)⟩
    case hQ =>
      rintro w3 ⟨hB3, r0, r1⟩
      have c0 : w3.cell? ⟨w.heap.size, 0, none⟩ = some (.int .u64 lo) := by rw [cell_of_heap r0]; rfl
      have c1 : w3.cell? ⟨w.heap.size, 1, none⟩ = some (.int .u64 (hi ||| z : Nat)) := by rw [cell_of_heap r0]; rfl
      have c2 : w3.cell? ⟨w.heap.size + 1, 0, none⟩ = some (.int .u64 0) := by rw [cell_of_heap r1]; rfl
      have c3 : w3.cell? ⟨w.heap.size + 1, 1, none⟩ = some (.int .u64 0) := by rw [cell_of_heap r1]; rfl
      have f2 : ∀ k, w3.frozen? ⟨w.heap.size + 1, k, none⟩ = false := fun k => frozen_of_heap r1
      have HR := Lib.hid (And.intro hB3 r1)
      clear hB3 r0 r1 q0 q1 hz hb
      clear W1
      go_wp2_with fail
      have e1 := heap_setCell_at (k := 1) (heap_setCell_at (k := 0) HR.out.2 (.int .u64 lo)) (.int .u64 (hi ||| z : Nat))
      exact bodyPost_ret (v := .agg #[.int .u64 lo, .int .u64 (hi ||| z : Nat)]) (res_c95 rfl _ rfl (by rw [cell_of_heap e1]; rfl) (by rw [cell_of_heap e1]; rfl)) rfl ⟨rfl, (HR.out.1.setCell (by show w.heap.size ≤ w.heap.size + 1; omega) _).setCell (by show w.heap.size ≤ w.heap.size + 1; omega) _⟩
theorem many_succ (S k : Nat) : (List.range (k + 1)).countP (fun j => S.testBit j) = (List.range k).countP (fun j => S.testBit j) + if S.testBit k then 1 else 0 := by
  rw [List.range_succ, List.countP_append]; simp
set_option maxRecDepth 100000 in
set_option maxHeartbeats 1000000 in
theorem many_any {S : Nat} (hS : S < 2 ^ 128) (w : World) : Calls Try.prog 68 #[leftV S] w fun e w' => e = .returned (.int .i64 (manyS S)) ∧ Below w.heap.size w w' := by
  have HHS : ∀ (k : Nat), k < 128 → ∀ w, Calls Try.prog 106 #[leftV S, .int .i64 k] w fun e w' => e = .returned (.bool (S.testBit k)) ∧ Below w.heap.size w w' := fun k hk w => has_any hk hS w
  show Calls Try.prog 68 #[.agg #[.int .u64 ((S % 18446744073709551616 : Nat) : Int), .int .u64 ((S / 18446744073709551616 : Nat) : Int)]] w _
  unfold leftV leftA loN hiN at HHS
  revert HHS
  generalize S % 18446744073709551616 = lo
  generalize S / 18446744073709551616 = hi
  intro HHS
  have HS := Lib.hid HHS
  clear hS HHS
  have q0 := World.alloc_heap_new w (.cells #[.int .u64 lo, .int .u64 hi] 95)
  have hb : Below w.heap.size w (w.alloc (.cells #[.int .u64 lo, .int .u64 hi] 95)) := (Below.refl _ w).alloc (Nat.le_refl _) _
  have H0 := Lib.hid (And.intro q0 hb)
  clear q0 hb
  go_enter Try.func68, Try.ntmps68
  go_wp2_with fail
  go_loopw [2, 4] (fun r i wr => ∃ k z : Nat, k ≤ 128 ∧ i = .int .i64 k ∧ r = .int .i64 z ∧ z ≤ k ∧ Hid (z = (List.range k).countP (fun j => S.testBit j)) ∧ Below (w.heap.size + 1) (w.alloc (.cells #[.int .u64 lo, .int .u64 hi] 95)) wr) (fun _ i _ => 128 - (intOf i).toNat)
  case atStart => exact ⟨0, 0, by omega, rfl, rfl, by omega, rfl, Below.refl _ _⟩
  case round =>
    obtain ⟨k, z, hk, rfl, rfl, hz, HZ, hB⟩ := hrel
    have hlw : w.heap.size < wr.heap.size := by have := hB.size; simp at this; omega
    have q1 : wr.heap[w.heap.size]? = some (.cells #[.int .u64 lo, .int .u64 hi] 95 (0, 0)) := (hB.block _ (by omega)).trans H0.out.1
    have c0 : wr.cell? ⟨w.heap.size, 0, none⟩ = some (.int .u64 lo) := by rw [cell_of_heap q1]; rfl
    have c1 : wr.cell? ⟨w.heap.size, 1, none⟩ = some (.int .u64 hi) := by rw [cell_of_heap q1]; rfl
    have HB := Lib.hid hB
    have HC := Lib.hid (many_succ S k)
    clear q1 hB
    by_cases hlt : k < 128
    · go_wp2_with fail
      refine (HS.out k hlt wr).mono ?_
      rintro e w2 ⟨rfl, hb2⟩
      have HB2 := Lib.hid (bst HB.out hb2 (by simp))
      clear hb2 c0 c1
      cases h : S.testBit k
      all_goals
        have H := Lib.hid h
        clear h
        go_wp2_with fail
        go_roundw
        case measure => simp [intOf]; omega
      case rel => exact ⟨k + 1, z, by omega, by go_num, rfl, by omega, by rw [Hid, HC.out, H.out, ← HZ.out]; rfl, HB2.out⟩
      case rel => exact ⟨k + 1, z + 1, by omega, by go_num, by go_num, by omega, by rw [Hid, HC.out, H.out, ← HZ.out]; rfl, HB2.out⟩
    · obtain rfl : k = 128 := by omega
      clear c0 c1
      go_wp2_with fail
      go_ret
      exact ⟨ret_int (by rw [HZ.out]; rfl), H0.out.2.trans (HB.out.mono (by simp))⟩
end Go.Proofs.Ytnfhlbmapfoifaa

