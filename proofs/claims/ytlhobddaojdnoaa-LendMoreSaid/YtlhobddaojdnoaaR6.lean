/- How many bits a set has. -/
import Derived.Test.YtlhobddaojdnoaaR4
import Derived.Test.YtlhobddaojdnoaaR3
import Derived.Test.YtlhobddaojdnoaaL4
namespace Go.Proofs.Ytlhobddaojdnoaa
open Go.RowKit

theorem popc_small (n : Nat) : popc n ≤ n := by
  induction n using Nat.strongRecOn with
  | ind n ih =>
    rw [popc_eq]
    by_cases h : n = 0
    · subst h; simp [popc_zero]
    · have := ih (n / 2) (by omega)
      omega
set_option maxHeartbeats 400000 in
theorem bits_any (n : Nat) (hn : n < 2 ^ 62) (w : World) : Calls Try.prog 37 #[.int .i64 n] w fun e w' => e = .returned (.int .i64 (popc n)) ∧ w = w' := by
  have hp := popc_small n
  have hN : (4611686018427387904 : Nat) = 2 ^ 62 := by decide
  go_enter Try.func37, Try.ntmps37
  go_wp2
  go_loop [0, 3] (fun x y => ∃ a k : Nat, x = .int .i64 a ∧ y = .int .i64 k ∧ Hid (popc a + k = popc n) ∧ a ≤ n ∧ k ≤ n) (fun x _ => (intOf x).toNat)
  case atStart => exact ⟨n, 0, rfl, rfl, rfl, by omega, by omega⟩
  case round =>
    obtain ⟨a, k, rfl, rfl, HP, ha, hk⟩ := hrel
    by_cases h0 : 0 < a
    · obtain ⟨h1, h2⟩ := and_pred a h0
      have H1 := Lib.hid h1
      have hkk : k + 1 ≤ n := by have := HP.out; omega
      have heq : bits .and .i64 (a : Int) ((a : Int) - 1) = ((a &&& (a - 1) : Nat) : Int) := by
        have := and_nat a (a - 1) (by omega) (by omega)
        rw [← this]
        congr 1
        omega
      obtain ⟨z, hz⟩ : ∃ z, z = a &&& (a - 1) := ⟨_, rfl⟩
      rw [← hz] at heq h2
      have HZ := Lib.hid hz
      clear h1 hz
      go_wp2
      go_round
      case rel => exact ⟨z, k + 1, rfl, by go_num, by have := H1.out; have := HP.out; rw [Hid, HZ.out]; omega, by omega, by omega⟩
      case measure => simp [intOf]; omega
    · obtain rfl : a = 0 := by omega
      have hk : Hid (k = popc n) := by have := HP.out; rw [popc_zero] at this; rw [Hid]; omega
      go_wp2
      go_ret
      exact ⟨ret_int (by rw [hk.out]), rfl⟩
end Go.Proofs.Ytlhobddaojdnoaa
