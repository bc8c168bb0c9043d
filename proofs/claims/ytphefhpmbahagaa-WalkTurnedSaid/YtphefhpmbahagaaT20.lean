/- The reference: whether spans are valid. -/
import Derived.Test.YtphefhpmbahagaaT19
namespace Go.Proofs.Ytphefhpmbahagaa
open Go.RowKit
set_option linter.unusedVariables false
set_option linter.unusedSimpArgs false

theorem gs_at {l : List Spn} {k : Nat} (h : k < l.length) : l[k]? = some (gs l k) := by simp [gs,h]
set_option maxRecDepth 100000 in
set_option maxHeartbeats 4000000 in
theorem rspans78 {l : List Spn} {a : Option Addr} {cap : Nat} {w : World} (ha : IsSpns w a l) (hn : l.length ≤ 16) (n : Nat) :
    Calls Try.prog 78 #[.slice a l.length cap,.int .i64 n] w fun e w' => e = .returned (.bool (areB l n)) ∧ Below w.heap.size w w' := by
  have HA := Lib.hid ha
  clear ha
  go_enter Try.func78,Try.ntmps78
  go_wp2_with fail
  go_loopw [5] (fun i wr => ∃ k : Nat,k ≤ l.length ∧ i = .int .i64 k ∧ Hid ((l.take k).all Spn.ok = true) ∧ Hid (Below w.heap.size w wr)) (fun i _ => l.length - (intOf i).toNat)
  case atStart => exact ⟨0,by omega,rfl,rfl,Below.refl _ _⟩
  case round =>
    obtain ⟨k,hk,rfl,HL,HB⟩ := hrel
    by_cases hlt : k < l.length
    · obtain ⟨b,off,rfl,l0,l1⟩ := (HA.out.mono HB.out) k hlt
      have HX := Lib.hid (gs_at hlt)
      revert l0 l1 HX
      generalize gs l k = s
      obtain ⟨lo,hi⟩ := s
      intro l0 l1 HX
      go_upto_region 4 with fail
      have y0 := fun y : Aft wr.heap.size wr => cell_stays y.h l0
      have y1 := fun y : Aft wr.heap.size wr => cell_stays y.h l1
      clear l0 l1
      have hok : Spn.ok ⟨lo,hi⟩ = (!decide (lo < 0) && (!decide (hi < lo) && !decide (1440 < hi))) := by
        rw [Bool.eq_iff_iff]; simp [Spn.ok]; omega
      cases h1 : decide (lo < 0) <;> cases h2 : decide (hi < lo) <;> cases h3 : decide (1440 < hi)
      all_goals
        rw [h1,h2,h3] at hok
        have HO := Lib.hid hok
        clear hok
        refine wp_region_aft mixed (by kernel_rfl) ?_
        repeat (go_big_quiet_step (fail))
        refine wpQuiet_nil ?_
        rintro _ ⟨z,rfl⟩
        have HB2 := Lib.hid (HB.out.trans (z.h.mono HB.out.size))
        go_wp2_with fail
        first
          | (go_ret
             refine ⟨ret_bool ?_,HB2.out⟩
             have h := all_stop HX.out HO.out
             simp [areB,h]
             done)
          | (go_roundw
             case rel => exact ⟨k + 1,by omega,by go_num,all_next HX.out HO.out HL.out,HB2.out⟩
             case measure => simp [intOf]; omega)
    · obtain rfl : k = l.length := by omega
      rw [List.take_length] at HL
      go_wp2_with fail
      go_ret
      refine ⟨ret_bool ?_,HB.out⟩
      rw [areB,HL.out,Bool.and_true,Bool.eq_iff_iff]
      simp
      try omega
end Go.Proofs.Ytphefhpmbahagaa
