/- Bits of sets as the laws ask for them. -/
import Derived.Test.YtlhobddaojdnoaaW6
namespace Go.Proofs.Ytlhobddaojdnoaa
open Go.RowKit

theorem and_nat (a b : Nat) (ha : a < 2 ^ 62) (hb : b < 2 ^ 62) : bits .and .i64 (a : Int) (b : Int) = ((a &&& b : Nat) : Int) :=
  (bits_nat .i64 62 (by decide) (fun n h1 h2 => by rw [IntKind.wrap_i64]; omega) a b ha hb).1
theorem bit_test (n k : Nat) (hn : n < 2 ^ 62) : (bits .and .i64 ((n : Int) / 2 ^ k) 1 == 1) = n.testBit k := by
  have h1 : ((n : Int) / 2 ^ k) = ((n / 2 ^ k : Nat) : Int) := by simp
  have h2 : n / 2 ^ k < 2 ^ 62 := Nat.lt_of_le_of_lt (Nat.div_le_self _ _) hn
  rw [h1]
  have := and_nat (n / 2 ^ k) 1 h2 (by decide)
  rw [show ((1 : Nat) : Int) = 1 from rfl] at this
  rw [this, Nat.and_one_is_mod, Nat.testBit_eq_decide_div_mod_eq]
  rw [Bool.eq_iff_iff]
  simp
  omega
end Go.Proofs.Ytlhobddaojdnoaa
