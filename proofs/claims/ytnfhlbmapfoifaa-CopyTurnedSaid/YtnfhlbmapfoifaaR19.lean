/- The reference's index; From. -/
import Derived.Test.YtnfhlbmapfoifaaW23
namespace Go.Proofs.Ytnfhlbmapfoifaa
open Go.RowKit
set_option linter.unusedVariables false

set_option maxHeartbeats 1000000 in
theorem index_ref {l : List Int} {v : Int} (hl : l.length ≤ 1000) {a : Option Addr} {cap : Nat} {w : World} (ha : IsInts w a l) :
    Calls Try.prog 78 #[.slice a l.length cap, .int .i64 v] w fun e w' => e = .returned (.int .i64 (indexL l v)) ∧ w = w' := by
  go_enter Try.func78, Try.ntmps78
  go_wp2
  go_loop [5] (fun i => ∃ k : Nat, k ≤ l.length ∧ i = .int .i64 k ∧ Hid (∀ j, j < k → gi l j ≠ v)) (fun i => l.length - (intOf i).toNat)
  case atStart => exact ⟨0, by omega, rfl, fun j hj => by omega⟩
  case round =>
    obtain ⟨k, hk, rfl, HK⟩ := hrel
    by_cases hlt : k < l.length
    · obtain ⟨b, off, rfl, hc⟩ := ha k hlt
      by_cases h1 : gi l k = v
      · have H1 := Lib.hid h1
        have hb : (gi l k == v) = true := by simp [h1]
        have HI := Lib.hid (indexL_hit hlt HK.out h1)
        clear h1
        go_wp2
        go_ret
        exact ⟨ret_int HI.out.symm, rfl⟩
      · have H1 := Lib.hid h1
        have hb : (gi l k == v) = false := by simpa using h1
        clear h1
        go_wp2
        go_round
        case rel => exact ⟨k + 1, by omega, by go_num, fun j hj => by
          by_cases e : j = k
          · subst e; exact H1.out
          · exact HK.out j (by omega)⟩
        case measure => simp [intOf]; omega
    · obtain rfl : k = l.length := by omega
      have HI := Lib.hid (indexL_miss HK.out)
      go_wp2
      go_ret
      exact ⟨ret_int HI.out.symm, rfl⟩
end Go.Proofs.Ytnfhlbmapfoifaa
