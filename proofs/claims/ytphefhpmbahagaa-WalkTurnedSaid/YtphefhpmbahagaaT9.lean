/- A walk: its drawn regions. -/
import Derived.Test.YtphefhpmbahagaaT8
import Derived.Test.YtphefhpmbahagaaBaseD
namespace Go.Proofs.Ytphefhpmbahagaa
open Go.RowKit
set_option linter.unusedVariables false

structure wk1F (dw : Int) (tb : Nat) (bx : Nat) (S0 : World → Prop) (S1 : Nat → World → Prop) (S2 : Nat → World → Prop) (d : Nat → Bool) (x7 x8 x9 x10 x11 x12 x13 x14 x15 x16 x17 x6 : Value) (nb : Nat) (w : World) : Prop where
  q1 : d 1 = true → d 0 = true
  q2 : d 2 = true → d 1 = true
  q3 : d 3 = true → d 2 = true
  q4 : d 4 = true → d 3 = true
  q6 : d 6 = true → d 5 = true
  q7 : d 7 = true → d 6 = true
  q8 : d 8 = true → d 7 = true
  q9 : d 9 = true → d 8 = true
  q10 : d 10 = true → d 4 = true ∧ d 9 = true
  q12 : d 12 = true → d 0 = true ∧ d 1 = true ∧ d 2 = true ∧ d 3 = true ∧ d 4 = true ∧ d 5 = true ∧ d 6 = true ∧ d 7 = true ∧ d 8 = true ∧ d 9 = true ∧ d 10 = true ∧ d 11 = true
  f0 : d 0 = true → x7 = .pointer (some ⟨tb,0,none⟩)
  f1 : d 1 = true → x8 = .pointer (some ⟨tb,0,none⟩)
  f2 : d 2 = true → x9 = .pointer (some ⟨tb,0,none⟩)
  f3 : d 3 = true → x10 = .pointer (some ⟨tb,0,none⟩)
  f4 : d 4 = true → x11 = .int .i64 dw
  f5 : d 5 = true → x12 = .pointer (some ⟨tb,0,none⟩)
  f6 : d 6 = true → x13 = .pointer (some ⟨tb,0,none⟩)
  f7 : d 7 = true → x14 = .pointer (some ⟨tb,0,none⟩)
  f8 : d 8 = true → x15 = .pointer (some ⟨tb,0,none⟩)
  f9 : d 9 = true → x16 = .int .i64 dw
  f10 : d 10 = true → x17 = .agg #[.int .i64 dw,.int .i64 dw]
  f11 : d 11 = true → x6 = .pointer (some ⟨nb,0,none⟩)
  st0 : d 11 = false → S0 w
  st1 : d 11 = true → d 12 = false → S1 nb w
  st2 : d 12 = true → S2 nb w
noncomputable def wk1C : Code := (Try.f55.body.bind (regionAt 1)).getD .skip
set_option maxRecDepth 100000 in
set_option maxHeartbeats 4000000 in
theorem wk1 {dw : Int} {tb : Nat} {bx : Nat} {S0 : World → Prop} {S1 : Nat → World → Prop} {S2 : Nat → World → Prop} {Q : Exit → Act → World → Prop} {W1 : World} (h0 : S0 W1.drew)
    (kl0 : Hid (∀ (nb : Nat) (w : World),(S0 w ∨ S1 nb w) → w.cell? ⟨bx,0,none⟩ = some (.pointer (some ⟨tb,0,none⟩))))
    (kl4 : Hid (∀ (nb : Nat) (w : World),(S0 w ∨ S1 nb w) → w.cell? ⟨tb,0,none⟩ = some (.int .i64 dw)))
    (kl5 : Hid (∀ (nb : Nat) (w : World),(S0 w ∨ S1 nb w) → w.cell? ⟨bx,0,none⟩ = some (.pointer (some ⟨tb,0,none⟩))))
    (kl9 : Hid (∀ (nb : Nat) (w : World),(S0 w ∨ S1 nb w) → w.cell? ⟨tb,0,none⟩ = some (.int .i64 dw)))
    (kc11 : Hid (∀ (w : World),S0 w → S1 w.heap.size (w.alloc (.cells #[.int .i64 0,.int .i64 0] 82))))
    (kc12 : Hid (∀ (nb : Nat) (w : World),S1 nb w → (∃ u,w.cell? ⟨nb,0,none⟩ = some u) ∧ w.frozen? ⟨nb,0,none⟩ = false ∧ (∃ u,w.cell? ⟨nb,1,none⟩ = some u) ∧ w.frozen? ⟨nb,1,none⟩ = false ∧ S2 nb ((w.setCell ⟨nb,0,none⟩ (.int .i64 dw)).setCell ⟨nb,1,none⟩ (.int .i64 dw))))
    {s0 s1 s3 s4 s5 s6 s7 s8 s9 s10 s11 s12 s13 s14 s15 s16 s17 s18 s19 s20 : Value} {dd : List Deferred}
    (hQ : ∀ (nb : Nat) (w' : World),S2 nb w' → Q .normal { tmps := #[s0,s1,.pointer (some ⟨bx,0,none⟩),s3,s4,s5,.pointer (some ⟨nb,0,none⟩),.pointer (some ⟨tb,0,none⟩),.pointer (some ⟨tb,0,none⟩),.pointer (some ⟨tb,0,none⟩),.pointer (some ⟨tb,0,none⟩),.int .i64 dw,.pointer (some ⟨tb,0,none⟩),.pointer (some ⟨tb,0,none⟩),.pointer (some ⟨tb,0,none⟩),.pointer (some ⟨tb,0,none⟩),.int .i64 dw,.agg #[.int .i64 dw,.int .i64 dw],s18,s19,s20],defers := dd } w') :
    Code.wpIn (wideAt none) 0 Try.prog wk1C Q { tmps := #[s0,s1,.pointer (some ⟨bx,0,none⟩),s3,s4,s5,s6,s7,s8,s9,s10,s11,s12,s13,s14,s15,s16,s17,s18,s19,s20],defers := dd } W1 := by
  have HQ := Lib.hid hQ
  clear hQ
  conv => arg 4; whnf
  refine wpIn_region_invG mixed (by kernel_rfl) (fun d_ a_ w' => ∃ (x7 : Value) (x8 : Value) (x9 : Value) (x10 : Value) (x11 : Value) (x12 : Value) (x13 : Value) (x14 : Value) (x15 : Value) (x16 : Value) (x17 : Value) (x6 : Value) (nb : Nat),a_ = { tmps := #[s0,s1,.pointer (some ⟨bx,0,none⟩),s3,s4,s5,x6,x7,x8,x9,x10,x11,x12,x13,x14,x15,x16,x17,s18,s19,s20],defers := dd } ∧ wk1F dw tb bx S0 S1 S2 d_ x7 x8 x9 x10 x11 x12 x13 x14 x15 x16 x17 x6 nb w') ?_ ?_ ?_
  · refine ⟨s7,s8,s9,s10,s11,s12,s13,s14,s15,s16,s17,s6,0,rfl,?_⟩
    constructor <;> first | rfl | (intro _; rfl) | (intro h; cases h; done) | (intro _; exact h0) | exact h0
  · refine ⟨?_,?_,?_,?_,?_,?_,?_,?_,?_,?_,?_,?_,?_,trivial⟩
    all_goals
      rintro d_ a_ w1 K hd_ hdep ⟨x7,x8,x9,x10,x11,x12,x13,x14,x15,x16,x17,x6,nb,rfl,F⟩ HK
      simp [Region.binds] at hdep
    · have hst : S0 w1 ∨ S1 nb w1 := by
        cases e1 : d_ 11 with
        | false => exact .inl ((F.st0 e1))
        | true =>
          have n_ : d_ 12 = false := by
            cases e_ : d_ 12 with
            | false => rfl
            | true => have h2 := (F.q12 e_).1; rw [show d_ 0 = false from hd_] at h2; cases h2
          exact .inr ((F.st1 e1 n_))
      have kk := kl0.out nb w1 hst
      clear hst
      have HF : Hid (wk1F dw tb bx S0 S1 S2 (upd d_ 0) (.pointer (some ⟨tb,0,none⟩)) x8 x9 x10 x11 x12 x13 x14 x15 x16 x17 x6 nb w1) := ⟨fun h => rfl,F.q2,F.q3,F.q4,F.q6,F.q7,F.q8,F.q9,F.q10,fun h => ⟨rfl,(F.q12 h).2.1,(F.q12 h).2.2.1,(F.q12 h).2.2.2.1,(F.q12 h).2.2.2.2.1,(F.q12 h).2.2.2.2.2.1,(F.q12 h).2.2.2.2.2.2.1,(F.q12 h).2.2.2.2.2.2.2.1,(F.q12 h).2.2.2.2.2.2.2.2.1,(F.q12 h).2.2.2.2.2.2.2.2.2.1,(F.q12 h).2.2.2.2.2.2.2.2.2.2.1,(F.q12 h).2.2.2.2.2.2.2.2.2.2.2⟩,fun _ => rfl,F.f1,F.f2,F.f3,F.f4,F.f5,F.f6,F.f7,F.f8,F.f9,F.f10,F.f11,F.st0,F.st1,F.st2⟩
      clear F
      go_simp
      exact HK.out _ _ ⟨_,_,_,_,_,_,_,_,_,_,_,_,_,rfl,HF.out⟩
    · obtain rfl := F.f0 (by simp [hdep])
      have HF : Hid (wk1F dw tb bx S0 S1 S2 (upd d_ 1) (.pointer (some ⟨tb,0,none⟩)) (.pointer (some ⟨tb,0,none⟩)) x9 x10 x11 x12 x13 x14 x15 x16 x17 x6 nb w1) := ⟨fun _ => (show _ from (by simp [hdep] : d_ 0 = true)),fun h => rfl,F.q3,F.q4,F.q6,F.q7,F.q8,F.q9,F.q10,fun h => ⟨(F.q12 h).1,rfl,(F.q12 h).2.2.1,(F.q12 h).2.2.2.1,(F.q12 h).2.2.2.2.1,(F.q12 h).2.2.2.2.2.1,(F.q12 h).2.2.2.2.2.2.1,(F.q12 h).2.2.2.2.2.2.2.1,(F.q12 h).2.2.2.2.2.2.2.2.1,(F.q12 h).2.2.2.2.2.2.2.2.2.1,(F.q12 h).2.2.2.2.2.2.2.2.2.2.1,(F.q12 h).2.2.2.2.2.2.2.2.2.2.2⟩,F.f0,fun _ => rfl,F.f2,F.f3,F.f4,F.f5,F.f6,F.f7,F.f8,F.f9,F.f10,F.f11,F.st0,F.st1,F.st2⟩
      clear F
      go_simp
      exact HK.out _ _ ⟨_,_,_,_,_,_,_,_,_,_,_,_,_,rfl,HF.out⟩
    · obtain rfl := F.f1 (by simp [hdep])
      have HF : Hid (wk1F dw tb bx S0 S1 S2 (upd d_ 2) x7 (.pointer (some ⟨tb,0,none⟩)) (.pointer (some ⟨tb,0,none⟩)) x10 x11 x12 x13 x14 x15 x16 x17 x6 nb w1) := ⟨F.q1,fun _ => (show _ from (by simp [hdep] : d_ 1 = true)),fun h => rfl,F.q4,F.q6,F.q7,F.q8,F.q9,F.q10,fun h => ⟨(F.q12 h).1,(F.q12 h).2.1,rfl,(F.q12 h).2.2.2.1,(F.q12 h).2.2.2.2.1,(F.q12 h).2.2.2.2.2.1,(F.q12 h).2.2.2.2.2.2.1,(F.q12 h).2.2.2.2.2.2.2.1,(F.q12 h).2.2.2.2.2.2.2.2.1,(F.q12 h).2.2.2.2.2.2.2.2.2.1,(F.q12 h).2.2.2.2.2.2.2.2.2.2.1,(F.q12 h).2.2.2.2.2.2.2.2.2.2.2⟩,F.f0,F.f1,fun _ => rfl,F.f3,F.f4,F.f5,F.f6,F.f7,F.f8,F.f9,F.f10,F.f11,F.st0,F.st1,F.st2⟩
      clear F
      go_simp
      exact HK.out _ _ ⟨_,_,_,_,_,_,_,_,_,_,_,_,_,rfl,HF.out⟩
    · obtain rfl := F.f2 (by simp [hdep])
      have HF : Hid (wk1F dw tb bx S0 S1 S2 (upd d_ 3) x7 x8 (.pointer (some ⟨tb,0,none⟩)) (.pointer (some ⟨tb,0,none⟩)) x11 x12 x13 x14 x15 x16 x17 x6 nb w1) := ⟨F.q1,F.q2,fun _ => (show _ from (by simp [hdep] : d_ 2 = true)),fun h => rfl,F.q6,F.q7,F.q8,F.q9,F.q10,fun h => ⟨(F.q12 h).1,(F.q12 h).2.1,(F.q12 h).2.2.1,rfl,(F.q12 h).2.2.2.2.1,(F.q12 h).2.2.2.2.2.1,(F.q12 h).2.2.2.2.2.2.1,(F.q12 h).2.2.2.2.2.2.2.1,(F.q12 h).2.2.2.2.2.2.2.2.1,(F.q12 h).2.2.2.2.2.2.2.2.2.1,(F.q12 h).2.2.2.2.2.2.2.2.2.2.1,(F.q12 h).2.2.2.2.2.2.2.2.2.2.2⟩,F.f0,F.f1,F.f2,fun _ => rfl,F.f4,F.f5,F.f6,F.f7,F.f8,F.f9,F.f10,F.f11,F.st0,F.st1,F.st2⟩
      clear F
      go_simp
      exact HK.out _ _ ⟨_,_,_,_,_,_,_,_,_,_,_,_,_,rfl,HF.out⟩
    · have hst : S0 w1 ∨ S1 nb w1 := by
        cases e1 : d_ 11 with
        | false => exact .inl ((F.st0 e1))
        | true =>
          have n_ : d_ 12 = false := by
            cases e_ : d_ 12 with
            | false => rfl
            | true => have h2 := (F.q12 e_).2.2.2.2.1; rw [show d_ 4 = false from hd_] at h2; cases h2
          exact .inr ((F.st1 e1 n_))
      have kk := kl4.out nb w1 hst
      clear hst
      obtain rfl := F.f3 (by simp [hdep])
      have HF : Hid (wk1F dw tb bx S0 S1 S2 (upd d_ 4) x7 x8 x9 (.pointer (some ⟨tb,0,none⟩)) (.int .i64 dw) x12 x13 x14 x15 x16 x17 x6 nb w1) := ⟨F.q1,F.q2,F.q3,fun _ => (show _ from (by simp [hdep] : d_ 3 = true)),F.q6,F.q7,F.q8,F.q9,fun h => ⟨rfl,(F.q10 h).2⟩,fun h => ⟨(F.q12 h).1,(F.q12 h).2.1,(F.q12 h).2.2.1,(F.q12 h).2.2.2.1,rfl,(F.q12 h).2.2.2.2.2.1,(F.q12 h).2.2.2.2.2.2.1,(F.q12 h).2.2.2.2.2.2.2.1,(F.q12 h).2.2.2.2.2.2.2.2.1,(F.q12 h).2.2.2.2.2.2.2.2.2.1,(F.q12 h).2.2.2.2.2.2.2.2.2.2.1,(F.q12 h).2.2.2.2.2.2.2.2.2.2.2⟩,F.f0,F.f1,F.f2,F.f3,fun _ => rfl,F.f5,F.f6,F.f7,F.f8,F.f9,F.f10,F.f11,F.st0,F.st1,F.st2⟩
      clear F
      go_simp
      exact HK.out _ _ ⟨_,_,_,_,_,_,_,_,_,_,_,_,_,rfl,HF.out⟩
    · have hst : S0 w1 ∨ S1 nb w1 := by
        cases e1 : d_ 11 with
        | false => exact .inl ((F.st0 e1))
        | true =>
          have n_ : d_ 12 = false := by
            cases e_ : d_ 12 with
            | false => rfl
            | true => have h2 := (F.q12 e_).2.2.2.2.2.1; rw [show d_ 5 = false from hd_] at h2; cases h2
          exact .inr ((F.st1 e1 n_))
      have kk := kl5.out nb w1 hst
      clear hst
      have HF : Hid (wk1F dw tb bx S0 S1 S2 (upd d_ 5) x7 x8 x9 x10 x11 (.pointer (some ⟨tb,0,none⟩)) x13 x14 x15 x16 x17 x6 nb w1) := ⟨F.q1,F.q2,F.q3,F.q4,fun h => rfl,F.q7,F.q8,F.q9,F.q10,fun h => ⟨(F.q12 h).1,(F.q12 h).2.1,(F.q12 h).2.2.1,(F.q12 h).2.2.2.1,(F.q12 h).2.2.2.2.1,rfl,(F.q12 h).2.2.2.2.2.2.1,(F.q12 h).2.2.2.2.2.2.2.1,(F.q12 h).2.2.2.2.2.2.2.2.1,(F.q12 h).2.2.2.2.2.2.2.2.2.1,(F.q12 h).2.2.2.2.2.2.2.2.2.2.1,(F.q12 h).2.2.2.2.2.2.2.2.2.2.2⟩,F.f0,F.f1,F.f2,F.f3,F.f4,fun _ => rfl,F.f6,F.f7,F.f8,F.f9,F.f10,F.f11,F.st0,F.st1,F.st2⟩
      clear F
      go_simp
      exact HK.out _ _ ⟨_,_,_,_,_,_,_,_,_,_,_,_,_,rfl,HF.out⟩
    · obtain rfl := F.f5 (by simp [hdep])
      have HF : Hid (wk1F dw tb bx S0 S1 S2 (upd d_ 6) x7 x8 x9 x10 x11 (.pointer (some ⟨tb,0,none⟩)) (.pointer (some ⟨tb,0,none⟩)) x14 x15 x16 x17 x6 nb w1) := ⟨F.q1,F.q2,F.q3,F.q4,fun _ => (show _ from (by simp [hdep] : d_ 5 = true)),fun h => rfl,F.q8,F.q9,F.q10,fun h => ⟨(F.q12 h).1,(F.q12 h).2.1,(F.q12 h).2.2.1,(F.q12 h).2.2.2.1,(F.q12 h).2.2.2.2.1,(F.q12 h).2.2.2.2.2.1,rfl,(F.q12 h).2.2.2.2.2.2.2.1,(F.q12 h).2.2.2.2.2.2.2.2.1,(F.q12 h).2.2.2.2.2.2.2.2.2.1,(F.q12 h).2.2.2.2.2.2.2.2.2.2.1,(F.q12 h).2.2.2.2.2.2.2.2.2.2.2⟩,F.f0,F.f1,F.f2,F.f3,F.f4,F.f5,fun _ => rfl,F.f7,F.f8,F.f9,F.f10,F.f11,F.st0,F.st1,F.st2⟩
      clear F
      go_simp
      exact HK.out _ _ ⟨_,_,_,_,_,_,_,_,_,_,_,_,_,rfl,HF.out⟩
    · obtain rfl := F.f6 (by simp [hdep])
      have HF : Hid (wk1F dw tb bx S0 S1 S2 (upd d_ 7) x7 x8 x9 x10 x11 x12 (.pointer (some ⟨tb,0,none⟩)) (.pointer (some ⟨tb,0,none⟩)) x15 x16 x17 x6 nb w1) := ⟨F.q1,F.q2,F.q3,F.q4,F.q6,fun _ => (show _ from (by simp [hdep] : d_ 6 = true)),fun h => rfl,F.q9,F.q10,fun h => ⟨(F.q12 h).1,(F.q12 h).2.1,(F.q12 h).2.2.1,(F.q12 h).2.2.2.1,(F.q12 h).2.2.2.2.1,(F.q12 h).2.2.2.2.2.1,(F.q12 h).2.2.2.2.2.2.1,rfl,(F.q12 h).2.2.2.2.2.2.2.2.1,(F.q12 h).2.2.2.2.2.2.2.2.2.1,(F.q12 h).2.2.2.2.2.2.2.2.2.2.1,(F.q12 h).2.2.2.2.2.2.2.2.2.2.2⟩,F.f0,F.f1,F.f2,F.f3,F.f4,F.f5,F.f6,fun _ => rfl,F.f8,F.f9,F.f10,F.f11,F.st0,F.st1,F.st2⟩
      clear F
      go_simp
      exact HK.out _ _ ⟨_,_,_,_,_,_,_,_,_,_,_,_,_,rfl,HF.out⟩
    · obtain rfl := F.f7 (by simp [hdep])
      have HF : Hid (wk1F dw tb bx S0 S1 S2 (upd d_ 8) x7 x8 x9 x10 x11 x12 x13 (.pointer (some ⟨tb,0,none⟩)) (.pointer (some ⟨tb,0,none⟩)) x16 x17 x6 nb w1) := ⟨F.q1,F.q2,F.q3,F.q4,F.q6,F.q7,fun _ => (show _ from (by simp [hdep] : d_ 7 = true)),fun h => rfl,F.q10,fun h => ⟨(F.q12 h).1,(F.q12 h).2.1,(F.q12 h).2.2.1,(F.q12 h).2.2.2.1,(F.q12 h).2.2.2.2.1,(F.q12 h).2.2.2.2.2.1,(F.q12 h).2.2.2.2.2.2.1,(F.q12 h).2.2.2.2.2.2.2.1,rfl,(F.q12 h).2.2.2.2.2.2.2.2.2.1,(F.q12 h).2.2.2.2.2.2.2.2.2.2.1,(F.q12 h).2.2.2.2.2.2.2.2.2.2.2⟩,F.f0,F.f1,F.f2,F.f3,F.f4,F.f5,F.f6,F.f7,fun _ => rfl,F.f9,F.f10,F.f11,F.st0,F.st1,F.st2⟩
      clear F
      go_simp
      exact HK.out _ _ ⟨_,_,_,_,_,_,_,_,_,_,_,_,_,rfl,HF.out⟩
    · have hst : S0 w1 ∨ S1 nb w1 := by
        cases e1 : d_ 11 with
        | false => exact .inl ((F.st0 e1))
        | true =>
          have n_ : d_ 12 = false := by
            cases e_ : d_ 12 with
            | false => rfl
            | true => have h2 := (F.q12 e_).2.2.2.2.2.2.2.2.2.1; rw [show d_ 9 = false from hd_] at h2; cases h2
          exact .inr ((F.st1 e1 n_))
      have kk := kl9.out nb w1 hst
      clear hst
      obtain rfl := F.f8 (by simp [hdep])
      have HF : Hid (wk1F dw tb bx S0 S1 S2 (upd d_ 9) x7 x8 x9 x10 x11 x12 x13 x14 (.pointer (some ⟨tb,0,none⟩)) (.int .i64 dw) x17 x6 nb w1) := ⟨F.q1,F.q2,F.q3,F.q4,F.q6,F.q7,F.q8,fun _ => (show _ from (by simp [hdep] : d_ 8 = true)),fun h => ⟨(F.q10 h).1,rfl⟩,fun h => ⟨(F.q12 h).1,(F.q12 h).2.1,(F.q12 h).2.2.1,(F.q12 h).2.2.2.1,(F.q12 h).2.2.2.2.1,(F.q12 h).2.2.2.2.2.1,(F.q12 h).2.2.2.2.2.2.1,(F.q12 h).2.2.2.2.2.2.2.1,(F.q12 h).2.2.2.2.2.2.2.2.1,rfl,(F.q12 h).2.2.2.2.2.2.2.2.2.2.1,(F.q12 h).2.2.2.2.2.2.2.2.2.2.2⟩,F.f0,F.f1,F.f2,F.f3,F.f4,F.f5,F.f6,F.f7,F.f8,fun _ => rfl,F.f10,F.f11,F.st0,F.st1,F.st2⟩
      clear F
      go_simp
      exact HK.out _ _ ⟨_,_,_,_,_,_,_,_,_,_,_,_,_,rfl,HF.out⟩
    · obtain rfl := F.f4 (by simp [hdep])
      obtain rfl := F.f9 (by simp [hdep])
      have HF : Hid (wk1F dw tb bx S0 S1 S2 (upd d_ 10) x7 x8 x9 x10 (.int .i64 dw) x12 x13 x14 x15 (.int .i64 dw) (.agg #[.int .i64 dw,.int .i64 dw]) x6 nb w1) := ⟨F.q1,F.q2,F.q3,F.q4,F.q6,F.q7,F.q8,F.q9,fun _ => ⟨(show _ from (by simp [hdep] : d_ 4 = true)),(show _ from (by simp [hdep] : d_ 9 = true))⟩,fun h => ⟨(F.q12 h).1,(F.q12 h).2.1,(F.q12 h).2.2.1,(F.q12 h).2.2.2.1,(F.q12 h).2.2.2.2.1,(F.q12 h).2.2.2.2.2.1,(F.q12 h).2.2.2.2.2.2.1,(F.q12 h).2.2.2.2.2.2.2.1,(F.q12 h).2.2.2.2.2.2.2.2.1,(F.q12 h).2.2.2.2.2.2.2.2.2.1,rfl,(F.q12 h).2.2.2.2.2.2.2.2.2.2.2⟩,F.f0,F.f1,F.f2,F.f3,F.f4,F.f5,F.f6,F.f7,F.f8,F.f9,fun _ => rfl,F.f11,F.st0,F.st1,F.st2⟩
      clear F
      go_simp
      exact HK.out _ _ ⟨_,_,_,_,_,_,_,_,_,_,_,_,_,rfl,HF.out⟩
    · have hS := F.st0  hd_
      have hres := kc11.out w1 hS
      have HF : Hid (wk1F dw tb bx S0 S1 S2 (upd d_ 11) x7 x8 x9 x10 x11 x12 x13 x14 x15 x16 x17 ((.pointer (some ⟨w1.heap.size,0,none⟩))) w1.heap.size (w1.alloc (.cells #[.int .i64 0,.int .i64 0] 82))) := ⟨F.q1,F.q2,F.q3,F.q4,F.q6,F.q7,F.q8,F.q9,F.q10,fun h => ⟨(F.q12 h).1,(F.q12 h).2.1,(F.q12 h).2.2.1,(F.q12 h).2.2.2.1,(F.q12 h).2.2.2.2.1,(F.q12 h).2.2.2.2.2.1,(F.q12 h).2.2.2.2.2.2.1,(F.q12 h).2.2.2.2.2.2.2.1,(F.q12 h).2.2.2.2.2.2.2.2.1,(F.q12 h).2.2.2.2.2.2.2.2.2.1,(F.q12 h).2.2.2.2.2.2.2.2.2.2.1,rfl⟩,F.f0,F.f1,F.f2,F.f3,F.f4,F.f5,F.f6,F.f7,F.f8,F.f9,F.f10,fun _ => rfl,fun h => (by simp [upd] at h),fun _ _ => hres,fun h => (by have h2 : d_ 11 = true := (F.q12 h).2.2.2.2.2.2.2.2.2.2.2; rw [show d_ 11 = false from hd_] at h2; cases h2)⟩
      clear F hS hres
      go_simp
      exact HK.out _ _ ⟨_,_,_,_,_,_,_,_,_,_,_,_,_,rfl,HF.out⟩
    · have hS := F.st1 (by simp [hdep] : d_ 11 = true) hd_
      obtain rfl := F.f10 (by simp [hdep])
      obtain rfl := F.f11 (by simp [hdep])
      obtain ⟨⟨ku0,kcell0⟩,kfr0,⟨ku1,kcell1⟩,kfr1,hres⟩ := kc12.out nb w1 hS
      have HF : Hid (wk1F dw tb bx S0 S1 S2 (upd d_ 12) x7 x8 x9 x10 x11 x12 x13 x14 x15 x16 (.agg #[.int .i64 dw,.int .i64 dw]) (.pointer (some ⟨nb,0,none⟩)) nb ((w1.setCell ⟨nb,0,none⟩ (.int .i64 dw)).setCell ⟨nb,1,none⟩ (.int .i64 dw))) := ⟨F.q1,F.q2,F.q3,F.q4,F.q6,F.q7,F.q8,F.q9,F.q10,fun _ => ⟨(show _ from (by simp [hdep] : d_ 0 = true)),(show _ from (by simp [hdep] : d_ 1 = true)),(show _ from (by simp [hdep] : d_ 2 = true)),(show _ from (by simp [hdep] : d_ 3 = true)),(show _ from (by simp [hdep] : d_ 4 = true)),(show _ from (by simp [hdep] : d_ 5 = true)),(show _ from (by simp [hdep] : d_ 6 = true)),(show _ from (by simp [hdep] : d_ 7 = true)),(show _ from (by simp [hdep] : d_ 8 = true)),(show _ from (by simp [hdep] : d_ 9 = true)),(show _ from (by simp [hdep] : d_ 10 = true)),(show _ from (by simp [hdep] : d_ 11 = true))⟩,F.f0,F.f1,F.f2,F.f3,F.f4,F.f5,F.f6,F.f7,F.f8,F.f9,F.f10,F.f11,fun h => (by have h2 : d_ 11 = false := h; rw [(by simp [hdep] : d_ 11 = true)] at h2; cases h2),fun _ h => (by simp [upd] at h),fun _ => hres⟩
      clear F hS hres
      go_simp
      exact HK.out _ _ ⟨_,_,_,_,_,_,_,_,_,_,_,_,_,rfl,HF.out⟩
  · rintro d_ a_ w1 hall ⟨x7,x8,x9,x10,x11,x12,x13,x14,x15,x16,x17,x6,nb,rfl,F⟩
    have hall' : ∀ k,k < 13 → d_ k = true := hall
    obtain rfl := F.f0 (hall' 0 (by decide))
    obtain rfl := F.f1 (hall' 1 (by decide))
    obtain rfl := F.f2 (hall' 2 (by decide))
    obtain rfl := F.f3 (hall' 3 (by decide))
    obtain rfl := F.f4 (hall' 4 (by decide))
    obtain rfl := F.f5 (hall' 5 (by decide))
    obtain rfl := F.f6 (hall' 6 (by decide))
    obtain rfl := F.f7 (hall' 7 (by decide))
    obtain rfl := F.f8 (hall' 8 (by decide))
    obtain rfl := F.f9 (hall' 9 (by decide))
    obtain rfl := F.f10 (hall' 10 (by decide))
    obtain rfl := F.f11 (hall' 11 (by decide))
    have hst := F.st2 (hall' 12 (by decide))
    exact HQ.out nb w1 hst
structure wi0F (dw : Int) (tb : Nat) (bx : Nat) (nb : Nat) (S0 : World → Prop) (S1 : World → Prop) (S2 : World → Prop) (S3 : World → Prop) (d : Nat → Bool) (x9 x10 x11 x12 x13 x14 x15 x16 x17 x18 x19 x20 : Value) (w : World) : Prop where
  q1 : d 1 = true → d 0 = true
  q2 : d 2 = true → d 1 = true
  q3 : d 3 = true → d 2 = true
  q4 : d 4 = true → d 3 = true
  q6 : d 6 = true → d 5 = true
  q7 : d 7 = true → d 6 = true
  q8 : d 8 = true → d 7 = true
  q9 : d 9 = true → d 8 = true
  q11 : d 11 = true → d 0 = true ∧ d 1 = true ∧ d 2 = true ∧ d 3 = true ∧ d 4 = true ∧ d 10 = true
  q12 : d 12 = true → d 0 = true ∧ d 1 = true ∧ d 2 = true ∧ d 3 = true ∧ d 4 = true ∧ d 10 = true ∧ d 11 = true
  q13 : d 13 = true → d 0 = true ∧ d 1 = true ∧ d 2 = true ∧ d 3 = true ∧ d 4 = true ∧ d 5 = true ∧ d 6 = true ∧ d 7 = true ∧ d 8 = true ∧ d 9 = true ∧ d 10 = true ∧ d 11 = true ∧ d 12 = true
  q14 : d 14 = true → d 0 = true ∧ d 1 = true ∧ d 2 = true ∧ d 3 = true ∧ d 4 = true ∧ d 5 = true ∧ d 6 = true ∧ d 7 = true ∧ d 8 = true ∧ d 9 = true ∧ d 10 = true ∧ d 11 = true ∧ d 12 = true ∧ d 13 = true
  f0 : d 0 = true → x9 = .pointer (some ⟨tb,0,none⟩)
  f1 : d 1 = true → x10 = .pointer (some ⟨tb,0,none⟩)
  f2 : d 2 = true → x11 = .pointer (some ⟨tb,0,none⟩)
  f3 : d 3 = true → x12 = .pointer (some ⟨tb,0,none⟩)
  f4 : d 4 = true → x13 = .int .i64 dw
  f5 : d 5 = true → x14 = .pointer (some ⟨tb,0,none⟩)
  f6 : d 6 = true → x15 = .pointer (some ⟨tb,0,none⟩)
  f7 : d 7 = true → x16 = .pointer (some ⟨tb,0,none⟩)
  f8 : d 8 = true → x17 = .pointer (some ⟨tb,0,none⟩)
  f9 : d 9 = true → x18 = .int .i64 dw
  f11 : d 11 = true → x19 = .pointer (some ⟨nb,0,none⟩)
  f13 : d 13 = true → x20 = .pointer (some ⟨nb,1,none⟩)
  st0 : d 10 = false → S0 w
  st1 : d 10 = true → d 12 = false → S1 w
  st2 : d 12 = true → d 14 = false → S2 w
  st3 : d 14 = true → S3 w
noncomputable def wi0C : Code := (Try.f81.body.bind (regionAt 0)).getD .skip
set_option maxRecDepth 100000 in
set_option maxHeartbeats 4000000 in
theorem wi0 {dw : Int} {tb : Nat} {bx : Nat} {nb : Nat} {S0 : World → Prop} {S1 : World → Prop} {S2 : World → Prop} {S3 : World → Prop} {Q : Exit → Act → World → Prop} {W1 : World} (h0 : S0 W1.drew)
    (kl0 : Hid (∀ (w : World),(S0 w ∨ S1 w) → w.cell? ⟨bx,0,none⟩ = some (.pointer (some ⟨tb,0,none⟩))))
    (kl4 : Hid (∀ (w : World),(S0 w ∨ S1 w) → w.cell? ⟨tb,0,none⟩ = some (.int .i64 dw)))
    (kl5 : Hid (∀ (w : World),(S0 w ∨ S1 w ∨ S2 w) → w.cell? ⟨bx,0,none⟩ = some (.pointer (some ⟨tb,0,none⟩))))
    (kl9 : Hid (∀ (w : World),(S0 w ∨ S1 w ∨ S2 w) → w.cell? ⟨tb,0,none⟩ = some (.int .i64 dw)))
    (kc10 : Hid (∀ (w : World),S0 w → (∃ u,w.cell? ⟨nb,0,none⟩ = some u) ∧ w.frozen? ⟨nb,0,none⟩ = false ∧ (∃ u,w.cell? ⟨nb,1,none⟩ = some u) ∧ w.frozen? ⟨nb,1,none⟩ = false ∧ S1 ((w.setCell ⟨nb,0,none⟩ (.int .i64 0)).setCell ⟨nb,1,none⟩ (.int .i64 0))))
    (kc12 : Hid (∀ (w : World),S1 w → (∃ u,w.cell? ⟨nb,0,none⟩ = some u) ∧ w.frozen? ⟨nb,0,none⟩ = false ∧ S2 (w.setCell ⟨nb,0,none⟩ (.int .i64 dw))))
    (kc14 : Hid (∀ (w : World),S2 w → (∃ u,w.cell? ⟨nb,1,none⟩ = some u) ∧ w.frozen? ⟨nb,1,none⟩ = false ∧ S3 (w.setCell ⟨nb,1,none⟩ (.int .i64 dw))))
    {s0 s3 s4 s5 s6 s7 s8 s9 s10 s11 s12 s13 s14 s15 s16 s17 s18 s19 s20 s21 s22 s23 s24 s25 s26 s27 s28 s29 s30 s31 s32 s33 s34 s35 s36 s37 s38 s39 s40 s41 s42 s43 s44 s45 s46 s47 s48 : Value} {dd : List Deferred}
    (hQ : ∀ (w' : World),S3 w' → Q .normal { tmps := #[s0,.pointer (some ⟨bx,0,none⟩),.pointer (some ⟨nb,0,none⟩),s3,s4,s5,s6,s7,s8,.pointer (some ⟨tb,0,none⟩),.pointer (some ⟨tb,0,none⟩),.pointer (some ⟨tb,0,none⟩),.pointer (some ⟨tb,0,none⟩),.int .i64 dw,.pointer (some ⟨tb,0,none⟩),.pointer (some ⟨tb,0,none⟩),.pointer (some ⟨tb,0,none⟩),.pointer (some ⟨tb,0,none⟩),.int .i64 dw,.pointer (some ⟨nb,0,none⟩),.pointer (some ⟨nb,1,none⟩),s21,s22,s23,s24,s25,s26,s27,s28,s29,s30,s31,s32,s33,s34,s35,s36,s37,s38,s39,s40,s41,s42,s43,s44,s45,s46,s47,s48],defers := dd } w') :
    Code.wpIn (wideAt none) 0 Try.prog wi0C Q { tmps := #[s0,.pointer (some ⟨bx,0,none⟩),.pointer (some ⟨nb,0,none⟩),s3,s4,s5,s6,s7,s8,s9,s10,s11,s12,s13,s14,s15,s16,s17,s18,s19,s20,s21,s22,s23,s24,s25,s26,s27,s28,s29,s30,s31,s32,s33,s34,s35,s36,s37,s38,s39,s40,s41,s42,s43,s44,s45,s46,s47,s48],defers := dd } W1 := by
  have HQ := Lib.hid hQ
  clear hQ
  conv => arg 4; whnf
  refine wpIn_region_invG mixed (by kernel_rfl) (fun d_ a_ w' => ∃ (x9 : Value) (x10 : Value) (x11 : Value) (x12 : Value) (x13 : Value) (x14 : Value) (x15 : Value) (x16 : Value) (x17 : Value) (x18 : Value) (x19 : Value) (x20 : Value),a_ = { tmps := #[s0,.pointer (some ⟨bx,0,none⟩),.pointer (some ⟨nb,0,none⟩),s3,s4,s5,s6,s7,s8,x9,x10,x11,x12,x13,x14,x15,x16,x17,x18,x19,x20,s21,s22,s23,s24,s25,s26,s27,s28,s29,s30,s31,s32,s33,s34,s35,s36,s37,s38,s39,s40,s41,s42,s43,s44,s45,s46,s47,s48],defers := dd } ∧ wi0F dw tb bx nb S0 S1 S2 S3 d_ x9 x10 x11 x12 x13 x14 x15 x16 x17 x18 x19 x20 w') ?_ ?_ ?_
  · refine ⟨s9,s10,s11,s12,s13,s14,s15,s16,s17,s18,s19,s20,rfl,?_⟩
    constructor <;> first | rfl | (intro _; rfl) | (intro h; cases h; done) | (intro _; exact h0) | exact h0
  · refine ⟨?_,?_,?_,?_,?_,?_,?_,?_,?_,?_,?_,?_,?_,?_,?_,trivial⟩
    all_goals
      rintro d_ a_ w1 K hd_ hdep ⟨x9,x10,x11,x12,x13,x14,x15,x16,x17,x18,x19,x20,rfl,F⟩ HK
      simp [Region.binds] at hdep
    · have hst : S0 w1 ∨ S1 w1 := by
        cases e1 : d_ 10 with
        | false => exact .inl ((F.st0 e1))
        | true =>
          have n_ : d_ 12 = false := by
            cases e_ : d_ 12 with
            | false => rfl
            | true => have h2 := (F.q12 e_).1; rw [show d_ 0 = false from hd_] at h2; cases h2
          exact .inr ((F.st1 e1 n_))
      have kk := kl0.out w1 hst
      clear hst
      have HF : Hid (wi0F dw tb bx nb S0 S1 S2 S3 (upd d_ 0) (.pointer (some ⟨tb,0,none⟩)) x10 x11 x12 x13 x14 x15 x16 x17 x18 x19 x20 w1) := ⟨fun h => rfl,F.q2,F.q3,F.q4,F.q6,F.q7,F.q8,F.q9,fun h => ⟨rfl,(F.q11 h).2.1,(F.q11 h).2.2.1,(F.q11 h).2.2.2.1,(F.q11 h).2.2.2.2.1,(F.q11 h).2.2.2.2.2⟩,fun h => ⟨rfl,(F.q12 h).2.1,(F.q12 h).2.2.1,(F.q12 h).2.2.2.1,(F.q12 h).2.2.2.2.1,(F.q12 h).2.2.2.2.2.1,(F.q12 h).2.2.2.2.2.2⟩,fun h => ⟨rfl,(F.q13 h).2.1,(F.q13 h).2.2.1,(F.q13 h).2.2.2.1,(F.q13 h).2.2.2.2.1,(F.q13 h).2.2.2.2.2.1,(F.q13 h).2.2.2.2.2.2.1,(F.q13 h).2.2.2.2.2.2.2.1,(F.q13 h).2.2.2.2.2.2.2.2.1,(F.q13 h).2.2.2.2.2.2.2.2.2.1,(F.q13 h).2.2.2.2.2.2.2.2.2.2.1,(F.q13 h).2.2.2.2.2.2.2.2.2.2.2.1,(F.q13 h).2.2.2.2.2.2.2.2.2.2.2.2⟩,fun h => ⟨rfl,(F.q14 h).2.1,(F.q14 h).2.2.1,(F.q14 h).2.2.2.1,(F.q14 h).2.2.2.2.1,(F.q14 h).2.2.2.2.2.1,(F.q14 h).2.2.2.2.2.2.1,(F.q14 h).2.2.2.2.2.2.2.1,(F.q14 h).2.2.2.2.2.2.2.2.1,(F.q14 h).2.2.2.2.2.2.2.2.2.1,(F.q14 h).2.2.2.2.2.2.2.2.2.2.1,(F.q14 h).2.2.2.2.2.2.2.2.2.2.2.1,(F.q14 h).2.2.2.2.2.2.2.2.2.2.2.2.1,(F.q14 h).2.2.2.2.2.2.2.2.2.2.2.2.2⟩,fun _ => rfl,F.f1,F.f2,F.f3,F.f4,F.f5,F.f6,F.f7,F.f8,F.f9,F.f11,F.f13,F.st0,F.st1,F.st2,F.st3⟩
      clear F
      go_simp
      exact HK.out _ _ ⟨_,_,_,_,_,_,_,_,_,_,_,_,rfl,HF.out⟩
    · obtain rfl := F.f0 (by simp [hdep])
      have HF : Hid (wi0F dw tb bx nb S0 S1 S2 S3 (upd d_ 1) (.pointer (some ⟨tb,0,none⟩)) (.pointer (some ⟨tb,0,none⟩)) x11 x12 x13 x14 x15 x16 x17 x18 x19 x20 w1) := ⟨fun _ => (show _ from (by simp [hdep] : d_ 0 = true)),fun h => rfl,F.q3,F.q4,F.q6,F.q7,F.q8,F.q9,fun h => ⟨(F.q11 h).1,rfl,(F.q11 h).2.2.1,(F.q11 h).2.2.2.1,(F.q11 h).2.2.2.2.1,(F.q11 h).2.2.2.2.2⟩,fun h => ⟨(F.q12 h).1,rfl,(F.q12 h).2.2.1,(F.q12 h).2.2.2.1,(F.q12 h).2.2.2.2.1,(F.q12 h).2.2.2.2.2.1,(F.q12 h).2.2.2.2.2.2⟩,fun h => ⟨(F.q13 h).1,rfl,(F.q13 h).2.2.1,(F.q13 h).2.2.2.1,(F.q13 h).2.2.2.2.1,(F.q13 h).2.2.2.2.2.1,(F.q13 h).2.2.2.2.2.2.1,(F.q13 h).2.2.2.2.2.2.2.1,(F.q13 h).2.2.2.2.2.2.2.2.1,(F.q13 h).2.2.2.2.2.2.2.2.2.1,(F.q13 h).2.2.2.2.2.2.2.2.2.2.1,(F.q13 h).2.2.2.2.2.2.2.2.2.2.2.1,(F.q13 h).2.2.2.2.2.2.2.2.2.2.2.2⟩,fun h => ⟨(F.q14 h).1,rfl,(F.q14 h).2.2.1,(F.q14 h).2.2.2.1,(F.q14 h).2.2.2.2.1,(F.q14 h).2.2.2.2.2.1,(F.q14 h).2.2.2.2.2.2.1,(F.q14 h).2.2.2.2.2.2.2.1,(F.q14 h).2.2.2.2.2.2.2.2.1,(F.q14 h).2.2.2.2.2.2.2.2.2.1,(F.q14 h).2.2.2.2.2.2.2.2.2.2.1,(F.q14 h).2.2.2.2.2.2.2.2.2.2.2.1,(F.q14 h).2.2.2.2.2.2.2.2.2.2.2.2.1,(F.q14 h).2.2.2.2.2.2.2.2.2.2.2.2.2⟩,F.f0,fun _ => rfl,F.f2,F.f3,F.f4,F.f5,F.f6,F.f7,F.f8,F.f9,F.f11,F.f13,F.st0,F.st1,F.st2,F.st3⟩
      clear F
      go_simp
      exact HK.out _ _ ⟨_,_,_,_,_,_,_,_,_,_,_,_,rfl,HF.out⟩
    · obtain rfl := F.f1 (by simp [hdep])
      have HF : Hid (wi0F dw tb bx nb S0 S1 S2 S3 (upd d_ 2) x9 (.pointer (some ⟨tb,0,none⟩)) (.pointer (some ⟨tb,0,none⟩)) x12 x13 x14 x15 x16 x17 x18 x19 x20 w1) := ⟨F.q1,fun _ => (show _ from (by simp [hdep] : d_ 1 = true)),fun h => rfl,F.q4,F.q6,F.q7,F.q8,F.q9,fun h => ⟨(F.q11 h).1,(F.q11 h).2.1,rfl,(F.q11 h).2.2.2.1,(F.q11 h).2.2.2.2.1,(F.q11 h).2.2.2.2.2⟩,fun h => ⟨(F.q12 h).1,(F.q12 h).2.1,rfl,(F.q12 h).2.2.2.1,(F.q12 h).2.2.2.2.1,(F.q12 h).2.2.2.2.2.1,(F.q12 h).2.2.2.2.2.2⟩,fun h => ⟨(F.q13 h).1,(F.q13 h).2.1,rfl,(F.q13 h).2.2.2.1,(F.q13 h).2.2.2.2.1,(F.q13 h).2.2.2.2.2.1,(F.q13 h).2.2.2.2.2.2.1,(F.q13 h).2.2.2.2.2.2.2.1,(F.q13 h).2.2.2.2.2.2.2.2.1,(F.q13 h).2.2.2.2.2.2.2.2.2.1,(F.q13 h).2.2.2.2.2.2.2.2.2.2.1,(F.q13 h).2.2.2.2.2.2.2.2.2.2.2.1,(F.q13 h).2.2.2.2.2.2.2.2.2.2.2.2⟩,fun h => ⟨(F.q14 h).1,(F.q14 h).2.1,rfl,(F.q14 h).2.2.2.1,(F.q14 h).2.2.2.2.1,(F.q14 h).2.2.2.2.2.1,(F.q14 h).2.2.2.2.2.2.1,(F.q14 h).2.2.2.2.2.2.2.1,(F.q14 h).2.2.2.2.2.2.2.2.1,(F.q14 h).2.2.2.2.2.2.2.2.2.1,(F.q14 h).2.2.2.2.2.2.2.2.2.2.1,(F.q14 h).2.2.2.2.2.2.2.2.2.2.2.1,(F.q14 h).2.2.2.2.2.2.2.2.2.2.2.2.1,(F.q14 h).2.2.2.2.2.2.2.2.2.2.2.2.2⟩,F.f0,F.f1,fun _ => rfl,F.f3,F.f4,F.f5,F.f6,F.f7,F.f8,F.f9,F.f11,F.f13,F.st0,F.st1,F.st2,F.st3⟩
      clear F
      go_simp
      exact HK.out _ _ ⟨_,_,_,_,_,_,_,_,_,_,_,_,rfl,HF.out⟩
    · obtain rfl := F.f2 (by simp [hdep])
      have HF : Hid (wi0F dw tb bx nb S0 S1 S2 S3 (upd d_ 3) x9 x10 (.pointer (some ⟨tb,0,none⟩)) (.pointer (some ⟨tb,0,none⟩)) x13 x14 x15 x16 x17 x18 x19 x20 w1) := ⟨F.q1,F.q2,fun _ => (show _ from (by simp [hdep] : d_ 2 = true)),fun h => rfl,F.q6,F.q7,F.q8,F.q9,fun h => ⟨(F.q11 h).1,(F.q11 h).2.1,(F.q11 h).2.2.1,rfl,(F.q11 h).2.2.2.2.1,(F.q11 h).2.2.2.2.2⟩,fun h => ⟨(F.q12 h).1,(F.q12 h).2.1,(F.q12 h).2.2.1,rfl,(F.q12 h).2.2.2.2.1,(F.q12 h).2.2.2.2.2.1,(F.q12 h).2.2.2.2.2.2⟩,fun h => ⟨(F.q13 h).1,(F.q13 h).2.1,(F.q13 h).2.2.1,rfl,(F.q13 h).2.2.2.2.1,(F.q13 h).2.2.2.2.2.1,(F.q13 h).2.2.2.2.2.2.1,(F.q13 h).2.2.2.2.2.2.2.1,(F.q13 h).2.2.2.2.2.2.2.2.1,(F.q13 h).2.2.2.2.2.2.2.2.2.1,(F.q13 h).2.2.2.2.2.2.2.2.2.2.1,(F.q13 h).2.2.2.2.2.2.2.2.2.2.2.1,(F.q13 h).2.2.2.2.2.2.2.2.2.2.2.2⟩,fun h => ⟨(F.q14 h).1,(F.q14 h).2.1,(F.q14 h).2.2.1,rfl,(F.q14 h).2.2.2.2.1,(F.q14 h).2.2.2.2.2.1,(F.q14 h).2.2.2.2.2.2.1,(F.q14 h).2.2.2.2.2.2.2.1,(F.q14 h).2.2.2.2.2.2.2.2.1,(F.q14 h).2.2.2.2.2.2.2.2.2.1,(F.q14 h).2.2.2.2.2.2.2.2.2.2.1,(F.q14 h).2.2.2.2.2.2.2.2.2.2.2.1,(F.q14 h).2.2.2.2.2.2.2.2.2.2.2.2.1,(F.q14 h).2.2.2.2.2.2.2.2.2.2.2.2.2⟩,F.f0,F.f1,F.f2,fun _ => rfl,F.f4,F.f5,F.f6,F.f7,F.f8,F.f9,F.f11,F.f13,F.st0,F.st1,F.st2,F.st3⟩
      clear F
      go_simp
      exact HK.out _ _ ⟨_,_,_,_,_,_,_,_,_,_,_,_,rfl,HF.out⟩
    · have hst : S0 w1 ∨ S1 w1 := by
        cases e1 : d_ 10 with
        | false => exact .inl ((F.st0 e1))
        | true =>
          have n_ : d_ 12 = false := by
            cases e_ : d_ 12 with
            | false => rfl
            | true => have h2 := (F.q12 e_).2.2.2.2.1; rw [show d_ 4 = false from hd_] at h2; cases h2
          exact .inr ((F.st1 e1 n_))
      have kk := kl4.out w1 hst
      clear hst
      obtain rfl := F.f3 (by simp [hdep])
      have HF : Hid (wi0F dw tb bx nb S0 S1 S2 S3 (upd d_ 4) x9 x10 x11 (.pointer (some ⟨tb,0,none⟩)) (.int .i64 dw) x14 x15 x16 x17 x18 x19 x20 w1) := ⟨F.q1,F.q2,F.q3,fun _ => (show _ from (by simp [hdep] : d_ 3 = true)),F.q6,F.q7,F.q8,F.q9,fun h => ⟨(F.q11 h).1,(F.q11 h).2.1,(F.q11 h).2.2.1,(F.q11 h).2.2.2.1,rfl,(F.q11 h).2.2.2.2.2⟩,fun h => ⟨(F.q12 h).1,(F.q12 h).2.1,(F.q12 h).2.2.1,(F.q12 h).2.2.2.1,rfl,(F.q12 h).2.2.2.2.2.1,(F.q12 h).2.2.2.2.2.2⟩,fun h => ⟨(F.q13 h).1,(F.q13 h).2.1,(F.q13 h).2.2.1,(F.q13 h).2.2.2.1,rfl,(F.q13 h).2.2.2.2.2.1,(F.q13 h).2.2.2.2.2.2.1,(F.q13 h).2.2.2.2.2.2.2.1,(F.q13 h).2.2.2.2.2.2.2.2.1,(F.q13 h).2.2.2.2.2.2.2.2.2.1,(F.q13 h).2.2.2.2.2.2.2.2.2.2.1,(F.q13 h).2.2.2.2.2.2.2.2.2.2.2.1,(F.q13 h).2.2.2.2.2.2.2.2.2.2.2.2⟩,fun h => ⟨(F.q14 h).1,(F.q14 h).2.1,(F.q14 h).2.2.1,(F.q14 h).2.2.2.1,rfl,(F.q14 h).2.2.2.2.2.1,(F.q14 h).2.2.2.2.2.2.1,(F.q14 h).2.2.2.2.2.2.2.1,(F.q14 h).2.2.2.2.2.2.2.2.1,(F.q14 h).2.2.2.2.2.2.2.2.2.1,(F.q14 h).2.2.2.2.2.2.2.2.2.2.1,(F.q14 h).2.2.2.2.2.2.2.2.2.2.2.1,(F.q14 h).2.2.2.2.2.2.2.2.2.2.2.2.1,(F.q14 h).2.2.2.2.2.2.2.2.2.2.2.2.2⟩,F.f0,F.f1,F.f2,F.f3,fun _ => rfl,F.f5,F.f6,F.f7,F.f8,F.f9,F.f11,F.f13,F.st0,F.st1,F.st2,F.st3⟩
      clear F
      go_simp
      exact HK.out _ _ ⟨_,_,_,_,_,_,_,_,_,_,_,_,rfl,HF.out⟩
    · have hst : S0 w1 ∨ S1 w1 ∨ S2 w1 := by
        cases e1 : d_ 10 with
        | false => exact .inl ((F.st0 e1))
        | true =>
          cases e2 : d_ 12 with
          | false => exact .inr (.inl ((F.st1 e1 e2)))
          | true =>
            have n_ : d_ 14 = false := by
              cases e_ : d_ 14 with
              | false => rfl
              | true => have h2 := (F.q14 e_).2.2.2.2.2.1; rw [show d_ 5 = false from hd_] at h2; cases h2
            exact .inr (.inr ((F.st2 e2 n_)))
      have kk := kl5.out w1 hst
      clear hst
      have HF : Hid (wi0F dw tb bx nb S0 S1 S2 S3 (upd d_ 5) x9 x10 x11 x12 x13 (.pointer (some ⟨tb,0,none⟩)) x15 x16 x17 x18 x19 x20 w1) := ⟨F.q1,F.q2,F.q3,F.q4,fun h => rfl,F.q7,F.q8,F.q9,F.q11,F.q12,fun h => ⟨(F.q13 h).1,(F.q13 h).2.1,(F.q13 h).2.2.1,(F.q13 h).2.2.2.1,(F.q13 h).2.2.2.2.1,rfl,(F.q13 h).2.2.2.2.2.2.1,(F.q13 h).2.2.2.2.2.2.2.1,(F.q13 h).2.2.2.2.2.2.2.2.1,(F.q13 h).2.2.2.2.2.2.2.2.2.1,(F.q13 h).2.2.2.2.2.2.2.2.2.2.1,(F.q13 h).2.2.2.2.2.2.2.2.2.2.2.1,(F.q13 h).2.2.2.2.2.2.2.2.2.2.2.2⟩,fun h => ⟨(F.q14 h).1,(F.q14 h).2.1,(F.q14 h).2.2.1,(F.q14 h).2.2.2.1,(F.q14 h).2.2.2.2.1,rfl,(F.q14 h).2.2.2.2.2.2.1,(F.q14 h).2.2.2.2.2.2.2.1,(F.q14 h).2.2.2.2.2.2.2.2.1,(F.q14 h).2.2.2.2.2.2.2.2.2.1,(F.q14 h).2.2.2.2.2.2.2.2.2.2.1,(F.q14 h).2.2.2.2.2.2.2.2.2.2.2.1,(F.q14 h).2.2.2.2.2.2.2.2.2.2.2.2.1,(F.q14 h).2.2.2.2.2.2.2.2.2.2.2.2.2⟩,F.f0,F.f1,F.f2,F.f3,F.f4,fun _ => rfl,F.f6,F.f7,F.f8,F.f9,F.f11,F.f13,F.st0,F.st1,F.st2,F.st3⟩
      clear F
      go_simp
      exact HK.out _ _ ⟨_,_,_,_,_,_,_,_,_,_,_,_,rfl,HF.out⟩
    · obtain rfl := F.f5 (by simp [hdep])
      have HF : Hid (wi0F dw tb bx nb S0 S1 S2 S3 (upd d_ 6) x9 x10 x11 x12 x13 (.pointer (some ⟨tb,0,none⟩)) (.pointer (some ⟨tb,0,none⟩)) x16 x17 x18 x19 x20 w1) := ⟨F.q1,F.q2,F.q3,F.q4,fun _ => (show _ from (by simp [hdep] : d_ 5 = true)),fun h => rfl,F.q8,F.q9,F.q11,F.q12,fun h => ⟨(F.q13 h).1,(F.q13 h).2.1,(F.q13 h).2.2.1,(F.q13 h).2.2.2.1,(F.q13 h).2.2.2.2.1,(F.q13 h).2.2.2.2.2.1,rfl,(F.q13 h).2.2.2.2.2.2.2.1,(F.q13 h).2.2.2.2.2.2.2.2.1,(F.q13 h).2.2.2.2.2.2.2.2.2.1,(F.q13 h).2.2.2.2.2.2.2.2.2.2.1,(F.q13 h).2.2.2.2.2.2.2.2.2.2.2.1,(F.q13 h).2.2.2.2.2.2.2.2.2.2.2.2⟩,fun h => ⟨(F.q14 h).1,(F.q14 h).2.1,(F.q14 h).2.2.1,(F.q14 h).2.2.2.1,(F.q14 h).2.2.2.2.1,(F.q14 h).2.2.2.2.2.1,rfl,(F.q14 h).2.2.2.2.2.2.2.1,(F.q14 h).2.2.2.2.2.2.2.2.1,(F.q14 h).2.2.2.2.2.2.2.2.2.1,(F.q14 h).2.2.2.2.2.2.2.2.2.2.1,(F.q14 h).2.2.2.2.2.2.2.2.2.2.2.1,(F.q14 h).2.2.2.2.2.2.2.2.2.2.2.2.1,(F.q14 h).2.2.2.2.2.2.2.2.2.2.2.2.2⟩,F.f0,F.f1,F.f2,F.f3,F.f4,F.f5,fun _ => rfl,F.f7,F.f8,F.f9,F.f11,F.f13,F.st0,F.st1,F.st2,F.st3⟩
      clear F
      go_simp
      exact HK.out _ _ ⟨_,_,_,_,_,_,_,_,_,_,_,_,rfl,HF.out⟩
    · obtain rfl := F.f6 (by simp [hdep])
      have HF : Hid (wi0F dw tb bx nb S0 S1 S2 S3 (upd d_ 7) x9 x10 x11 x12 x13 x14 (.pointer (some ⟨tb,0,none⟩)) (.pointer (some ⟨tb,0,none⟩)) x17 x18 x19 x20 w1) := ⟨F.q1,F.q2,F.q3,F.q4,F.q6,fun _ => (show _ from (by simp [hdep] : d_ 6 = true)),fun h => rfl,F.q9,F.q11,F.q12,fun h => ⟨(F.q13 h).1,(F.q13 h).2.1,(F.q13 h).2.2.1,(F.q13 h).2.2.2.1,(F.q13 h).2.2.2.2.1,(F.q13 h).2.2.2.2.2.1,(F.q13 h).2.2.2.2.2.2.1,rfl,(F.q13 h).2.2.2.2.2.2.2.2.1,(F.q13 h).2.2.2.2.2.2.2.2.2.1,(F.q13 h).2.2.2.2.2.2.2.2.2.2.1,(F.q13 h).2.2.2.2.2.2.2.2.2.2.2.1,(F.q13 h).2.2.2.2.2.2.2.2.2.2.2.2⟩,fun h => ⟨(F.q14 h).1,(F.q14 h).2.1,(F.q14 h).2.2.1,(F.q14 h).2.2.2.1,(F.q14 h).2.2.2.2.1,(F.q14 h).2.2.2.2.2.1,(F.q14 h).2.2.2.2.2.2.1,rfl,(F.q14 h).2.2.2.2.2.2.2.2.1,(F.q14 h).2.2.2.2.2.2.2.2.2.1,(F.q14 h).2.2.2.2.2.2.2.2.2.2.1,(F.q14 h).2.2.2.2.2.2.2.2.2.2.2.1,(F.q14 h).2.2.2.2.2.2.2.2.2.2.2.2.1,(F.q14 h).2.2.2.2.2.2.2.2.2.2.2.2.2⟩,F.f0,F.f1,F.f2,F.f3,F.f4,F.f5,F.f6,fun _ => rfl,F.f8,F.f9,F.f11,F.f13,F.st0,F.st1,F.st2,F.st3⟩
      clear F
      go_simp
      exact HK.out _ _ ⟨_,_,_,_,_,_,_,_,_,_,_,_,rfl,HF.out⟩
    · obtain rfl := F.f7 (by simp [hdep])
      have HF : Hid (wi0F dw tb bx nb S0 S1 S2 S3 (upd d_ 8) x9 x10 x11 x12 x13 x14 x15 (.pointer (some ⟨tb,0,none⟩)) (.pointer (some ⟨tb,0,none⟩)) x18 x19 x20 w1) := ⟨F.q1,F.q2,F.q3,F.q4,F.q6,F.q7,fun _ => (show _ from (by simp [hdep] : d_ 7 = true)),fun h => rfl,F.q11,F.q12,fun h => ⟨(F.q13 h).1,(F.q13 h).2.1,(F.q13 h).2.2.1,(F.q13 h).2.2.2.1,(F.q13 h).2.2.2.2.1,(F.q13 h).2.2.2.2.2.1,(F.q13 h).2.2.2.2.2.2.1,(F.q13 h).2.2.2.2.2.2.2.1,rfl,(F.q13 h).2.2.2.2.2.2.2.2.2.1,(F.q13 h).2.2.2.2.2.2.2.2.2.2.1,(F.q13 h).2.2.2.2.2.2.2.2.2.2.2.1,(F.q13 h).2.2.2.2.2.2.2.2.2.2.2.2⟩,fun h => ⟨(F.q14 h).1,(F.q14 h).2.1,(F.q14 h).2.2.1,(F.q14 h).2.2.2.1,(F.q14 h).2.2.2.2.1,(F.q14 h).2.2.2.2.2.1,(F.q14 h).2.2.2.2.2.2.1,(F.q14 h).2.2.2.2.2.2.2.1,rfl,(F.q14 h).2.2.2.2.2.2.2.2.2.1,(F.q14 h).2.2.2.2.2.2.2.2.2.2.1,(F.q14 h).2.2.2.2.2.2.2.2.2.2.2.1,(F.q14 h).2.2.2.2.2.2.2.2.2.2.2.2.1,(F.q14 h).2.2.2.2.2.2.2.2.2.2.2.2.2⟩,F.f0,F.f1,F.f2,F.f3,F.f4,F.f5,F.f6,F.f7,fun _ => rfl,F.f9,F.f11,F.f13,F.st0,F.st1,F.st2,F.st3⟩
      clear F
      go_simp
      exact HK.out _ _ ⟨_,_,_,_,_,_,_,_,_,_,_,_,rfl,HF.out⟩
    · have hst : S0 w1 ∨ S1 w1 ∨ S2 w1 := by
        cases e1 : d_ 10 with
        | false => exact .inl ((F.st0 e1))
        | true =>
          cases e2 : d_ 12 with
          | false => exact .inr (.inl ((F.st1 e1 e2)))
          | true =>
            have n_ : d_ 14 = false := by
              cases e_ : d_ 14 with
              | false => rfl
              | true => have h2 := (F.q14 e_).2.2.2.2.2.2.2.2.2.1; rw [show d_ 9 = false from hd_] at h2; cases h2
            exact .inr (.inr ((F.st2 e2 n_)))
      have kk := kl9.out w1 hst
      clear hst
      obtain rfl := F.f8 (by simp [hdep])
      have HF : Hid (wi0F dw tb bx nb S0 S1 S2 S3 (upd d_ 9) x9 x10 x11 x12 x13 x14 x15 x16 (.pointer (some ⟨tb,0,none⟩)) (.int .i64 dw) x19 x20 w1) := ⟨F.q1,F.q2,F.q3,F.q4,F.q6,F.q7,F.q8,fun _ => (show _ from (by simp [hdep] : d_ 8 = true)),F.q11,F.q12,fun h => ⟨(F.q13 h).1,(F.q13 h).2.1,(F.q13 h).2.2.1,(F.q13 h).2.2.2.1,(F.q13 h).2.2.2.2.1,(F.q13 h).2.2.2.2.2.1,(F.q13 h).2.2.2.2.2.2.1,(F.q13 h).2.2.2.2.2.2.2.1,(F.q13 h).2.2.2.2.2.2.2.2.1,rfl,(F.q13 h).2.2.2.2.2.2.2.2.2.2.1,(F.q13 h).2.2.2.2.2.2.2.2.2.2.2.1,(F.q13 h).2.2.2.2.2.2.2.2.2.2.2.2⟩,fun h => ⟨(F.q14 h).1,(F.q14 h).2.1,(F.q14 h).2.2.1,(F.q14 h).2.2.2.1,(F.q14 h).2.2.2.2.1,(F.q14 h).2.2.2.2.2.1,(F.q14 h).2.2.2.2.2.2.1,(F.q14 h).2.2.2.2.2.2.2.1,(F.q14 h).2.2.2.2.2.2.2.2.1,rfl,(F.q14 h).2.2.2.2.2.2.2.2.2.2.1,(F.q14 h).2.2.2.2.2.2.2.2.2.2.2.1,(F.q14 h).2.2.2.2.2.2.2.2.2.2.2.2.1,(F.q14 h).2.2.2.2.2.2.2.2.2.2.2.2.2⟩,F.f0,F.f1,F.f2,F.f3,F.f4,F.f5,F.f6,F.f7,F.f8,fun _ => rfl,F.f11,F.f13,F.st0,F.st1,F.st2,F.st3⟩
      clear F
      go_simp
      exact HK.out _ _ ⟨_,_,_,_,_,_,_,_,_,_,_,_,rfl,HF.out⟩
    · have hS := F.st0  hd_
      obtain ⟨⟨ku0,kcell0⟩,kfr0,⟨ku1,kcell1⟩,kfr1,hres⟩ := kc10.out w1 hS
      have HF : Hid (wi0F dw tb bx nb S0 S1 S2 S3 (upd d_ 10) x9 x10 x11 x12 x13 x14 x15 x16 x17 x18 x19 x20 ((w1.setCell ⟨nb,0,none⟩ (.int .i64 0)).setCell ⟨nb,1,none⟩ (.int .i64 0))) := ⟨F.q1,F.q2,F.q3,F.q4,F.q6,F.q7,F.q8,F.q9,fun h => ⟨(F.q11 h).1,(F.q11 h).2.1,(F.q11 h).2.2.1,(F.q11 h).2.2.2.1,(F.q11 h).2.2.2.2.1,rfl⟩,fun h => ⟨(F.q12 h).1,(F.q12 h).2.1,(F.q12 h).2.2.1,(F.q12 h).2.2.2.1,(F.q12 h).2.2.2.2.1,rfl,(F.q12 h).2.2.2.2.2.2⟩,fun h => ⟨(F.q13 h).1,(F.q13 h).2.1,(F.q13 h).2.2.1,(F.q13 h).2.2.2.1,(F.q13 h).2.2.2.2.1,(F.q13 h).2.2.2.2.2.1,(F.q13 h).2.2.2.2.2.2.1,(F.q13 h).2.2.2.2.2.2.2.1,(F.q13 h).2.2.2.2.2.2.2.2.1,(F.q13 h).2.2.2.2.2.2.2.2.2.1,rfl,(F.q13 h).2.2.2.2.2.2.2.2.2.2.2.1,(F.q13 h).2.2.2.2.2.2.2.2.2.2.2.2⟩,fun h => ⟨(F.q14 h).1,(F.q14 h).2.1,(F.q14 h).2.2.1,(F.q14 h).2.2.2.1,(F.q14 h).2.2.2.2.1,(F.q14 h).2.2.2.2.2.1,(F.q14 h).2.2.2.2.2.2.1,(F.q14 h).2.2.2.2.2.2.2.1,(F.q14 h).2.2.2.2.2.2.2.2.1,(F.q14 h).2.2.2.2.2.2.2.2.2.1,rfl,(F.q14 h).2.2.2.2.2.2.2.2.2.2.2.1,(F.q14 h).2.2.2.2.2.2.2.2.2.2.2.2.1,(F.q14 h).2.2.2.2.2.2.2.2.2.2.2.2.2⟩,F.f0,F.f1,F.f2,F.f3,F.f4,F.f5,F.f6,F.f7,F.f8,F.f9,F.f11,F.f13,fun h => (by simp [upd] at h),fun _ _ => hres,fun h _ => (by have h2 : d_ 10 = true := (F.q12 h).2.2.2.2.2.1; rw [show d_ 10 = false from hd_] at h2; cases h2),fun h => (by have h2 : d_ 10 = true := (F.q14 h).2.2.2.2.2.2.2.2.2.2.1; rw [show d_ 10 = false from hd_] at h2; cases h2)⟩
      clear F hS hres
      go_simp
      exact HK.out _ _ ⟨_,_,_,_,_,_,_,_,_,_,_,_,rfl,HF.out⟩
    · have HF : Hid (wi0F dw tb bx nb S0 S1 S2 S3 (upd d_ 11) x9 x10 x11 x12 x13 x14 x15 x16 x17 x18 (.pointer (some ⟨nb,0,none⟩)) x20 w1) := ⟨F.q1,F.q2,F.q3,F.q4,F.q6,F.q7,F.q8,F.q9,fun _ => ⟨(show _ from (by simp [hdep] : d_ 0 = true)),(show _ from (by simp [hdep] : d_ 1 = true)),(show _ from (by simp [hdep] : d_ 2 = true)),(show _ from (by simp [hdep] : d_ 3 = true)),(show _ from (by simp [hdep] : d_ 4 = true)),(show _ from (by simp [hdep] : d_ 10 = true))⟩,fun h => ⟨(F.q12 h).1,(F.q12 h).2.1,(F.q12 h).2.2.1,(F.q12 h).2.2.2.1,(F.q12 h).2.2.2.2.1,(F.q12 h).2.2.2.2.2.1,rfl⟩,fun h => ⟨(F.q13 h).1,(F.q13 h).2.1,(F.q13 h).2.2.1,(F.q13 h).2.2.2.1,(F.q13 h).2.2.2.2.1,(F.q13 h).2.2.2.2.2.1,(F.q13 h).2.2.2.2.2.2.1,(F.q13 h).2.2.2.2.2.2.2.1,(F.q13 h).2.2.2.2.2.2.2.2.1,(F.q13 h).2.2.2.2.2.2.2.2.2.1,(F.q13 h).2.2.2.2.2.2.2.2.2.2.1,rfl,(F.q13 h).2.2.2.2.2.2.2.2.2.2.2.2⟩,fun h => ⟨(F.q14 h).1,(F.q14 h).2.1,(F.q14 h).2.2.1,(F.q14 h).2.2.2.1,(F.q14 h).2.2.2.2.1,(F.q14 h).2.2.2.2.2.1,(F.q14 h).2.2.2.2.2.2.1,(F.q14 h).2.2.2.2.2.2.2.1,(F.q14 h).2.2.2.2.2.2.2.2.1,(F.q14 h).2.2.2.2.2.2.2.2.2.1,(F.q14 h).2.2.2.2.2.2.2.2.2.2.1,rfl,(F.q14 h).2.2.2.2.2.2.2.2.2.2.2.2.1,(F.q14 h).2.2.2.2.2.2.2.2.2.2.2.2.2⟩,F.f0,F.f1,F.f2,F.f3,F.f4,F.f5,F.f6,F.f7,F.f8,F.f9,fun _ => rfl,F.f13,F.st0,F.st1,F.st2,F.st3⟩
      clear F
      go_simp
      exact HK.out _ _ ⟨_,_,_,_,_,_,_,_,_,_,_,_,rfl,HF.out⟩
    · have hS := F.st1 (by simp [hdep] : d_ 10 = true) hd_
      obtain rfl := F.f4 (by simp [hdep])
      obtain rfl := F.f11 (by simp [hdep])
      obtain ⟨⟨ku0,kcell0⟩,kfr0,hres⟩ := kc12.out w1 hS
      have HF : Hid (wi0F dw tb bx nb S0 S1 S2 S3 (upd d_ 12) x9 x10 x11 x12 (.int .i64 dw) x14 x15 x16 x17 x18 (.pointer (some ⟨nb,0,none⟩)) x20 (w1.setCell ⟨nb,0,none⟩ (.int .i64 dw))) := ⟨F.q1,F.q2,F.q3,F.q4,F.q6,F.q7,F.q8,F.q9,F.q11,fun _ => ⟨(show _ from (by simp [hdep] : d_ 0 = true)),(show _ from (by simp [hdep] : d_ 1 = true)),(show _ from (by simp [hdep] : d_ 2 = true)),(show _ from (by simp [hdep] : d_ 3 = true)),(show _ from (by simp [hdep] : d_ 4 = true)),(show _ from (by simp [hdep] : d_ 10 = true)),(show _ from (by simp [hdep] : d_ 11 = true))⟩,fun h => ⟨(F.q13 h).1,(F.q13 h).2.1,(F.q13 h).2.2.1,(F.q13 h).2.2.2.1,(F.q13 h).2.2.2.2.1,(F.q13 h).2.2.2.2.2.1,(F.q13 h).2.2.2.2.2.2.1,(F.q13 h).2.2.2.2.2.2.2.1,(F.q13 h).2.2.2.2.2.2.2.2.1,(F.q13 h).2.2.2.2.2.2.2.2.2.1,(F.q13 h).2.2.2.2.2.2.2.2.2.2.1,(F.q13 h).2.2.2.2.2.2.2.2.2.2.2.1,rfl⟩,fun h => ⟨(F.q14 h).1,(F.q14 h).2.1,(F.q14 h).2.2.1,(F.q14 h).2.2.2.1,(F.q14 h).2.2.2.2.1,(F.q14 h).2.2.2.2.2.1,(F.q14 h).2.2.2.2.2.2.1,(F.q14 h).2.2.2.2.2.2.2.1,(F.q14 h).2.2.2.2.2.2.2.2.1,(F.q14 h).2.2.2.2.2.2.2.2.2.1,(F.q14 h).2.2.2.2.2.2.2.2.2.2.1,(F.q14 h).2.2.2.2.2.2.2.2.2.2.2.1,rfl,(F.q14 h).2.2.2.2.2.2.2.2.2.2.2.2.2⟩,F.f0,F.f1,F.f2,F.f3,F.f4,F.f5,F.f6,F.f7,F.f8,F.f9,F.f11,F.f13,fun h => (by have h2 : d_ 10 = false := h; rw [(by simp [hdep] : d_ 10 = true)] at h2; cases h2),fun _ h => (by simp [upd] at h),fun _ _ => hres,fun h => (by have h2 : d_ 12 = true := (F.q14 h).2.2.2.2.2.2.2.2.2.2.2.2.1; rw [show d_ 12 = false from hd_] at h2; cases h2)⟩
      clear F hS hres
      go_simp
      exact HK.out _ _ ⟨_,_,_,_,_,_,_,_,_,_,_,_,rfl,HF.out⟩
    · have HF : Hid (wi0F dw tb bx nb S0 S1 S2 S3 (upd d_ 13) x9 x10 x11 x12 x13 x14 x15 x16 x17 x18 x19 (.pointer (some ⟨nb,1,none⟩)) w1) := ⟨F.q1,F.q2,F.q3,F.q4,F.q6,F.q7,F.q8,F.q9,F.q11,F.q12,fun _ => ⟨(show _ from (by simp [hdep] : d_ 0 = true)),(show _ from (by simp [hdep] : d_ 1 = true)),(show _ from (by simp [hdep] : d_ 2 = true)),(show _ from (by simp [hdep] : d_ 3 = true)),(show _ from (by simp [hdep] : d_ 4 = true)),(show _ from (by simp [hdep] : d_ 5 = true)),(show _ from (by simp [hdep] : d_ 6 = true)),(show _ from (by simp [hdep] : d_ 7 = true)),(show _ from (by simp [hdep] : d_ 8 = true)),(show _ from (by simp [hdep] : d_ 9 = true)),(show _ from (by simp [hdep] : d_ 10 = true)),(show _ from (by simp [hdep] : d_ 11 = true)),(show _ from (by simp [hdep] : d_ 12 = true))⟩,fun h => ⟨(F.q14 h).1,(F.q14 h).2.1,(F.q14 h).2.2.1,(F.q14 h).2.2.2.1,(F.q14 h).2.2.2.2.1,(F.q14 h).2.2.2.2.2.1,(F.q14 h).2.2.2.2.2.2.1,(F.q14 h).2.2.2.2.2.2.2.1,(F.q14 h).2.2.2.2.2.2.2.2.1,(F.q14 h).2.2.2.2.2.2.2.2.2.1,(F.q14 h).2.2.2.2.2.2.2.2.2.2.1,(F.q14 h).2.2.2.2.2.2.2.2.2.2.2.1,(F.q14 h).2.2.2.2.2.2.2.2.2.2.2.2.1,rfl⟩,F.f0,F.f1,F.f2,F.f3,F.f4,F.f5,F.f6,F.f7,F.f8,F.f9,F.f11,fun _ => rfl,F.st0,F.st1,F.st2,F.st3⟩
      clear F
      go_simp
      exact HK.out _ _ ⟨_,_,_,_,_,_,_,_,_,_,_,_,rfl,HF.out⟩
    · have hS := F.st2 (by simp [hdep] : d_ 12 = true) hd_
      obtain rfl := F.f9 (by simp [hdep])
      obtain rfl := F.f13 (by simp [hdep])
      obtain ⟨⟨ku0,kcell0⟩,kfr0,hres⟩ := kc14.out w1 hS
      have HF : Hid (wi0F dw tb bx nb S0 S1 S2 S3 (upd d_ 14) x9 x10 x11 x12 x13 x14 x15 x16 x17 (.int .i64 dw) x19 (.pointer (some ⟨nb,1,none⟩)) (w1.setCell ⟨nb,1,none⟩ (.int .i64 dw))) := ⟨F.q1,F.q2,F.q3,F.q4,F.q6,F.q7,F.q8,F.q9,F.q11,F.q12,F.q13,fun _ => ⟨(show _ from (by simp [hdep] : d_ 0 = true)),(show _ from (by simp [hdep] : d_ 1 = true)),(show _ from (by simp [hdep] : d_ 2 = true)),(show _ from (by simp [hdep] : d_ 3 = true)),(show _ from (by simp [hdep] : d_ 4 = true)),(show _ from (by simp [hdep] : d_ 5 = true)),(show _ from (by simp [hdep] : d_ 6 = true)),(show _ from (by simp [hdep] : d_ 7 = true)),(show _ from (by simp [hdep] : d_ 8 = true)),(show _ from (by simp [hdep] : d_ 9 = true)),(show _ from (by simp [hdep] : d_ 10 = true)),(show _ from (by simp [hdep] : d_ 11 = true)),(show _ from (by simp [hdep] : d_ 12 = true)),(show _ from (by simp [hdep] : d_ 13 = true))⟩,F.f0,F.f1,F.f2,F.f3,F.f4,F.f5,F.f6,F.f7,F.f8,F.f9,F.f11,F.f13,fun h => (by have h2 : d_ 10 = false := h; rw [(by simp [hdep] : d_ 10 = true)] at h2; cases h2),fun _ h => (by have h2 : d_ 12 = false := h; rw [(by simp [hdep] : d_ 12 = true)] at h2; cases h2),fun _ h => (by simp [upd] at h),fun _ => hres⟩
      clear F hS hres
      go_simp
      exact HK.out _ _ ⟨_,_,_,_,_,_,_,_,_,_,_,_,rfl,HF.out⟩
  · rintro d_ a_ w1 hall ⟨x9,x10,x11,x12,x13,x14,x15,x16,x17,x18,x19,x20,rfl,F⟩
    have hall' : ∀ k,k < 15 → d_ k = true := hall
    obtain rfl := F.f0 (hall' 0 (by decide))
    obtain rfl := F.f1 (hall' 1 (by decide))
    obtain rfl := F.f2 (hall' 2 (by decide))
    obtain rfl := F.f3 (hall' 3 (by decide))
    obtain rfl := F.f4 (hall' 4 (by decide))
    obtain rfl := F.f5 (hall' 5 (by decide))
    obtain rfl := F.f6 (hall' 6 (by decide))
    obtain rfl := F.f7 (hall' 7 (by decide))
    obtain rfl := F.f8 (hall' 8 (by decide))
    obtain rfl := F.f9 (hall' 9 (by decide))
    obtain rfl := F.f11 (hall' 11 (by decide))
    obtain rfl := F.f13 (hall' 13 (by decide))
    have hst := F.st3 (hall' 14 (by decide))
    exact HQ.out  w1 hst
structure wi7F (tb : Nat) (bx : Nat) (nb : Nat) (mb : Nat) (x : Int) (y : Int) (v : Nat) (n : Nat) (ab : Nat) (ao : Nat) (ac : Nat) (s : Spn) (S0 : World → Prop) (S1 : Unit → World → Prop) (S2 : Unit → World → Prop) (d : Nat → Bool) (x37 x38 x39 x40 x41 x42 x43 x44 x45 x46 x47 x5 : Value) (u : Unit) (w : World) : Prop where
  q2 : d 2 = true → d 1 = true
  q3 : d 3 = true → d 2 = true
  q4 : d 4 = true → d 3 = true
  q5 : d 5 = true → d 4 = true
  q7 : d 7 = true → d 5 = true ∧ d 6 = true
  q8 : d 8 = true → d 7 = true
  q9 : d 9 = true → d 0 = true ∧ d 8 = true
  q11 : d 11 = true → d 0 = true ∧ d 1 = true ∧ d 2 = true ∧ d 3 = true ∧ d 4 = true ∧ d 5 = true ∧ d 6 = true ∧ d 7 = true ∧ d 8 = true ∧ d 9 = true
  q12 : d 12 = true → d 0 = true ∧ d 1 = true ∧ d 2 = true ∧ d 3 = true ∧ d 4 = true ∧ d 5 = true ∧ d 6 = true ∧ d 7 = true ∧ d 8 = true ∧ d 9 = true ∧ d 10 = true ∧ d 11 = true
  f0 : d 0 = true → x37 = .agg #[.int .i64 x,.int .i64 y]
  f1 : d 1 = true → x38 = .pointer (some ⟨tb,0,none⟩)
  f2 : d 2 = true → x39 = .pointer (some ⟨tb,0,none⟩)
  f3 : d 3 = true → x40 = .pointer (some ⟨tb,0,none⟩)
  f4 : d 4 = true → x41 = .pointer (some ⟨tb,3,none⟩)
  f5 : d 5 = true → x42 = .slice (some ⟨ab,ao,none⟩) n ac
  f6 : d 6 = true → x43 = .int .i64 v
  f7 : d 7 = true → x44 = .pointer (some ⟨ab,ao + v * 2,none⟩)
  f8 : d 8 = true → x45 = .agg #[.int .i64 s.lo,.int .i64 s.hi]
  f9 : d 9 = true → x46 = .agg #[.int .i64 (x + s.lo),.int .i64 (y + s.hi)]
  f10 : d 10 = true → x47 = .int .i64 v
  f12 : d 12 = true → x5 = .int .i64 v
  st0 : d 9 = false → S0 w
  st1 : d 9 = true → d 11 = false → S1 u w
  st2 : d 11 = true → S2 u w
noncomputable def wi7C : Code := (Try.f81.body.bind (regionAt 7)).getD .skip
set_option maxRecDepth 100000 in
set_option maxHeartbeats 4000000 in
theorem wi7 {tb : Nat} {bx : Nat} {nb : Nat} {mb : Nat} {x : Int} {y : Int} {v : Nat} {n : Nat} {ab : Nat} {ao : Nat} {ac : Nat} {s : Spn} {S0 : World → Prop} {S1 : Unit → World → Prop} {S2 : Unit → World → Prop} {Q : Exit → Act → World → Prop} {W1 : World} (hvn : v < n) (h0 : S0 W1.drew)
    (kl0 : Hid (∀ (w : World),(S0 w) → w.cell? ⟨mb,0,none⟩ = some (.int .i64 x) ∧ w.cell? ⟨mb,1,none⟩ = some (.int .i64 y)))
    (kl1 : Hid (∀ (w : World),(S0 w) → w.cell? ⟨bx,0,none⟩ = some (.pointer (some ⟨tb,0,none⟩))))
    (kl5 : Hid (∀ (w : World),(S0 w) → w.cell? ⟨tb,3,none⟩ = some (.slice (some ⟨ab,ao,none⟩) n ac)))
    (kl8 : Hid (∀ (w : World),(S0 w) → w.cell? ⟨ab,ao + v * 2,none⟩ = some (.int .i64 s.lo) ∧ w.cell? ⟨ab,ao + v * 2 + 1,none⟩ = some (.int .i64 s.hi)))
    (kc9 : Hid (∀ (w : World),S0 w → Calls Try.prog 83 #[.agg #[.int .i64 x,.int .i64 y],.agg #[.int .i64 s.lo,.int .i64 s.hi]] w fun e w' => ∃ u : Unit,e = .returned (.agg #[.int .i64 (x + s.lo),.int .i64 (y + s.hi)]) ∧ S1 u w'))
    (kc11 : Hid (∀ (u : Unit) (w : World),S1 u w → (∃ u,w.cell? ⟨nb,0,none⟩ = some u) ∧ w.frozen? ⟨nb,0,none⟩ = false ∧ (∃ u,w.cell? ⟨nb,1,none⟩ = some u) ∧ w.frozen? ⟨nb,1,none⟩ = false ∧ S2 u ((w.setCell ⟨nb,0,none⟩ (.int .i64 (x + s.lo))).setCell ⟨nb,1,none⟩ (.int .i64 (y + s.hi)))))
    {s0 s3 s4 s5 s6 s9 s10 s11 s12 s13 s14 s15 s16 s17 s18 s19 s20 s21 s22 s23 s24 s25 s26 s27 s28 s29 s30 s31 s32 s33 s34 s35 s36 s37 s38 s39 s40 s41 s42 s43 s44 s45 s46 s47 s48 : Value} {dd : List Deferred}
    (hQ : ∀ (u : Unit) (w' : World),S2 u w' → Q .normal { tmps := #[s0,.pointer (some ⟨bx,0,none⟩),.pointer (some ⟨nb,0,none⟩),s3,s4,.int .i64 v,s6,.int .i64 v,.pointer (some ⟨mb,0,none⟩),s9,s10,s11,s12,s13,s14,s15,s16,s17,s18,s19,s20,s21,s22,s23,s24,s25,s26,s27,s28,s29,s30,s31,s32,s33,s34,s35,s36,.agg #[.int .i64 x,.int .i64 y],.pointer (some ⟨tb,0,none⟩),.pointer (some ⟨tb,0,none⟩),.pointer (some ⟨tb,0,none⟩),.pointer (some ⟨tb,3,none⟩),.slice (some ⟨ab,ao,none⟩) n ac,.int .i64 v,.pointer (some ⟨ab,ao + v * 2,none⟩),.agg #[.int .i64 s.lo,.int .i64 s.hi],.agg #[.int .i64 (x + s.lo),.int .i64 (y + s.hi)],.int .i64 v,s48],defers := dd } w') :
    Code.wpIn (wideAt none) 0 Try.prog wi7C Q { tmps := #[s0,.pointer (some ⟨bx,0,none⟩),.pointer (some ⟨nb,0,none⟩),s3,s4,s5,s6,.int .i64 v,.pointer (some ⟨mb,0,none⟩),s9,s10,s11,s12,s13,s14,s15,s16,s17,s18,s19,s20,s21,s22,s23,s24,s25,s26,s27,s28,s29,s30,s31,s32,s33,s34,s35,s36,s37,s38,s39,s40,s41,s42,s43,s44,s45,s46,s47,s48],defers := dd } W1 := by
  have HQ := Lib.hid hQ
  clear hQ
  conv => arg 4; whnf
  refine wpIn_region_invG mixed (by kernel_rfl) (fun d_ a_ w' => ∃ (x37 : Value) (x38 : Value) (x39 : Value) (x40 : Value) (x41 : Value) (x42 : Value) (x43 : Value) (x44 : Value) (x45 : Value) (x46 : Value) (x47 : Value) (x5 : Value) (u : Unit),a_ = { tmps := #[s0,.pointer (some ⟨bx,0,none⟩),.pointer (some ⟨nb,0,none⟩),s3,s4,x5,s6,.int .i64 v,.pointer (some ⟨mb,0,none⟩),s9,s10,s11,s12,s13,s14,s15,s16,s17,s18,s19,s20,s21,s22,s23,s24,s25,s26,s27,s28,s29,s30,s31,s32,s33,s34,s35,s36,x37,x38,x39,x40,x41,x42,x43,x44,x45,x46,x47,s48],defers := dd } ∧ wi7F tb bx nb mb x y v n ab ao ac s S0 S1 S2 d_ x37 x38 x39 x40 x41 x42 x43 x44 x45 x46 x47 x5 u w') ?_ ?_ ?_
  · refine ⟨s37,s38,s39,s40,s41,s42,s43,s44,s45,s46,s47,s5,default,rfl,?_⟩
    constructor <;> first | rfl | (intro _; rfl) | (intro h; cases h; done) | (intro _; exact h0) | exact h0
  · refine ⟨?_,?_,?_,?_,?_,?_,?_,?_,?_,?_,?_,?_,?_,trivial⟩
    all_goals
      rintro d_ a_ w1 K hd_ hdep ⟨x37,x38,x39,x40,x41,x42,x43,x44,x45,x46,x47,x5,u,rfl,F⟩ HK
      simp [Region.binds] at hdep
    · have hst : S0 w1 := by
        have n_ : d_ 9 = false := by
          cases e_ : d_ 9 with
          | false => rfl
          | true => have h2 := (F.q9 e_).1; rw [show d_ 0 = false from hd_] at h2; cases h2
        exact (F.st0 n_)
      have kk := kl0.out w1 hst
      obtain ⟨kk0,kk1⟩ := kk
      clear hst
      have HF : Hid (wi7F tb bx nb mb x y v n ab ao ac s S0 S1 S2 (upd d_ 0) (.agg #[.int .i64 x,.int .i64 y]) x38 x39 x40 x41 x42 x43 x44 x45 x46 x47 x5 u w1) := ⟨F.q2,F.q3,F.q4,F.q5,F.q7,F.q8,fun h => ⟨rfl,(F.q9 h).2⟩,fun h => ⟨rfl,(F.q11 h).2.1,(F.q11 h).2.2.1,(F.q11 h).2.2.2.1,(F.q11 h).2.2.2.2.1,(F.q11 h).2.2.2.2.2.1,(F.q11 h).2.2.2.2.2.2.1,(F.q11 h).2.2.2.2.2.2.2.1,(F.q11 h).2.2.2.2.2.2.2.2.1,(F.q11 h).2.2.2.2.2.2.2.2.2⟩,fun h => ⟨rfl,(F.q12 h).2.1,(F.q12 h).2.2.1,(F.q12 h).2.2.2.1,(F.q12 h).2.2.2.2.1,(F.q12 h).2.2.2.2.2.1,(F.q12 h).2.2.2.2.2.2.1,(F.q12 h).2.2.2.2.2.2.2.1,(F.q12 h).2.2.2.2.2.2.2.2.1,(F.q12 h).2.2.2.2.2.2.2.2.2.1,(F.q12 h).2.2.2.2.2.2.2.2.2.2.1,(F.q12 h).2.2.2.2.2.2.2.2.2.2.2⟩,fun _ => rfl,F.f1,F.f2,F.f3,F.f4,F.f5,F.f6,F.f7,F.f8,F.f9,F.f10,F.f12,F.st0,F.st1,F.st2⟩
      clear F
      go_simp
      exact HK.out _ _ ⟨_,_,_,_,_,_,_,_,_,_,_,_,_,rfl,HF.out⟩
    · have hst : S0 w1 := by
        have n_ : d_ 9 = false := by
          cases e_ : d_ 9 with
          | false => rfl
          | true => have h2 := (F.q2 (F.q3 (F.q4 (F.q5 (F.q7 (F.q8 (F.q9 e_).2)).1)))); rw [show d_ 1 = false from hd_] at h2; cases h2
        exact (F.st0 n_)
      have kk := kl1.out w1 hst
      clear hst
      have HF : Hid (wi7F tb bx nb mb x y v n ab ao ac s S0 S1 S2 (upd d_ 1) x37 (.pointer (some ⟨tb,0,none⟩)) x39 x40 x41 x42 x43 x44 x45 x46 x47 x5 u w1) := ⟨fun h => rfl,F.q3,F.q4,F.q5,F.q7,F.q8,F.q9,fun h => ⟨(F.q11 h).1,rfl,(F.q11 h).2.2.1,(F.q11 h).2.2.2.1,(F.q11 h).2.2.2.2.1,(F.q11 h).2.2.2.2.2.1,(F.q11 h).2.2.2.2.2.2.1,(F.q11 h).2.2.2.2.2.2.2.1,(F.q11 h).2.2.2.2.2.2.2.2.1,(F.q11 h).2.2.2.2.2.2.2.2.2⟩,fun h => ⟨(F.q12 h).1,rfl,(F.q12 h).2.2.1,(F.q12 h).2.2.2.1,(F.q12 h).2.2.2.2.1,(F.q12 h).2.2.2.2.2.1,(F.q12 h).2.2.2.2.2.2.1,(F.q12 h).2.2.2.2.2.2.2.1,(F.q12 h).2.2.2.2.2.2.2.2.1,(F.q12 h).2.2.2.2.2.2.2.2.2.1,(F.q12 h).2.2.2.2.2.2.2.2.2.2.1,(F.q12 h).2.2.2.2.2.2.2.2.2.2.2⟩,F.f0,fun _ => rfl,F.f2,F.f3,F.f4,F.f5,F.f6,F.f7,F.f8,F.f9,F.f10,F.f12,F.st0,F.st1,F.st2⟩
      clear F
      go_simp
      exact HK.out _ _ ⟨_,_,_,_,_,_,_,_,_,_,_,_,_,rfl,HF.out⟩
    · obtain rfl := F.f1 (by simp [hdep])
      have HF : Hid (wi7F tb bx nb mb x y v n ab ao ac s S0 S1 S2 (upd d_ 2) x37 (.pointer (some ⟨tb,0,none⟩)) (.pointer (some ⟨tb,0,none⟩)) x40 x41 x42 x43 x44 x45 x46 x47 x5 u w1) := ⟨fun _ => (show _ from (by simp [hdep] : d_ 1 = true)),fun h => rfl,F.q4,F.q5,F.q7,F.q8,F.q9,fun h => ⟨(F.q11 h).1,(F.q11 h).2.1,rfl,(F.q11 h).2.2.2.1,(F.q11 h).2.2.2.2.1,(F.q11 h).2.2.2.2.2.1,(F.q11 h).2.2.2.2.2.2.1,(F.q11 h).2.2.2.2.2.2.2.1,(F.q11 h).2.2.2.2.2.2.2.2.1,(F.q11 h).2.2.2.2.2.2.2.2.2⟩,fun h => ⟨(F.q12 h).1,(F.q12 h).2.1,rfl,(F.q12 h).2.2.2.1,(F.q12 h).2.2.2.2.1,(F.q12 h).2.2.2.2.2.1,(F.q12 h).2.2.2.2.2.2.1,(F.q12 h).2.2.2.2.2.2.2.1,(F.q12 h).2.2.2.2.2.2.2.2.1,(F.q12 h).2.2.2.2.2.2.2.2.2.1,(F.q12 h).2.2.2.2.2.2.2.2.2.2.1,(F.q12 h).2.2.2.2.2.2.2.2.2.2.2⟩,F.f0,F.f1,fun _ => rfl,F.f3,F.f4,F.f5,F.f6,F.f7,F.f8,F.f9,F.f10,F.f12,F.st0,F.st1,F.st2⟩
      clear F
      go_simp
      exact HK.out _ _ ⟨_,_,_,_,_,_,_,_,_,_,_,_,_,rfl,HF.out⟩
    · obtain rfl := F.f2 (by simp [hdep])
      have HF : Hid (wi7F tb bx nb mb x y v n ab ao ac s S0 S1 S2 (upd d_ 3) x37 x38 (.pointer (some ⟨tb,0,none⟩)) (.pointer (some ⟨tb,0,none⟩)) x41 x42 x43 x44 x45 x46 x47 x5 u w1) := ⟨F.q2,fun _ => (show _ from (by simp [hdep] : d_ 2 = true)),fun h => rfl,F.q5,F.q7,F.q8,F.q9,fun h => ⟨(F.q11 h).1,(F.q11 h).2.1,(F.q11 h).2.2.1,rfl,(F.q11 h).2.2.2.2.1,(F.q11 h).2.2.2.2.2.1,(F.q11 h).2.2.2.2.2.2.1,(F.q11 h).2.2.2.2.2.2.2.1,(F.q11 h).2.2.2.2.2.2.2.2.1,(F.q11 h).2.2.2.2.2.2.2.2.2⟩,fun h => ⟨(F.q12 h).1,(F.q12 h).2.1,(F.q12 h).2.2.1,rfl,(F.q12 h).2.2.2.2.1,(F.q12 h).2.2.2.2.2.1,(F.q12 h).2.2.2.2.2.2.1,(F.q12 h).2.2.2.2.2.2.2.1,(F.q12 h).2.2.2.2.2.2.2.2.1,(F.q12 h).2.2.2.2.2.2.2.2.2.1,(F.q12 h).2.2.2.2.2.2.2.2.2.2.1,(F.q12 h).2.2.2.2.2.2.2.2.2.2.2⟩,F.f0,F.f1,F.f2,fun _ => rfl,F.f4,F.f5,F.f6,F.f7,F.f8,F.f9,F.f10,F.f12,F.st0,F.st1,F.st2⟩
      clear F
      go_simp
      exact HK.out _ _ ⟨_,_,_,_,_,_,_,_,_,_,_,_,_,rfl,HF.out⟩
    · obtain rfl := F.f3 (by simp [hdep])
      have HF : Hid (wi7F tb bx nb mb x y v n ab ao ac s S0 S1 S2 (upd d_ 4) x37 x38 x39 (.pointer (some ⟨tb,0,none⟩)) (.pointer (some ⟨tb,3,none⟩)) x42 x43 x44 x45 x46 x47 x5 u w1) := ⟨F.q2,F.q3,fun _ => (show _ from (by simp [hdep] : d_ 3 = true)),fun h => rfl,F.q7,F.q8,F.q9,fun h => ⟨(F.q11 h).1,(F.q11 h).2.1,(F.q11 h).2.2.1,(F.q11 h).2.2.2.1,rfl,(F.q11 h).2.2.2.2.2.1,(F.q11 h).2.2.2.2.2.2.1,(F.q11 h).2.2.2.2.2.2.2.1,(F.q11 h).2.2.2.2.2.2.2.2.1,(F.q11 h).2.2.2.2.2.2.2.2.2⟩,fun h => ⟨(F.q12 h).1,(F.q12 h).2.1,(F.q12 h).2.2.1,(F.q12 h).2.2.2.1,rfl,(F.q12 h).2.2.2.2.2.1,(F.q12 h).2.2.2.2.2.2.1,(F.q12 h).2.2.2.2.2.2.2.1,(F.q12 h).2.2.2.2.2.2.2.2.1,(F.q12 h).2.2.2.2.2.2.2.2.2.1,(F.q12 h).2.2.2.2.2.2.2.2.2.2.1,(F.q12 h).2.2.2.2.2.2.2.2.2.2.2⟩,F.f0,F.f1,F.f2,F.f3,fun _ => rfl,F.f5,F.f6,F.f7,F.f8,F.f9,F.f10,F.f12,F.st0,F.st1,F.st2⟩
      clear F
      go_simp
      exact HK.out _ _ ⟨_,_,_,_,_,_,_,_,_,_,_,_,_,rfl,HF.out⟩
    · have hst : S0 w1 := by
        have n_ : d_ 9 = false := by
          cases e_ : d_ 9 with
          | false => rfl
          | true => have h2 := (F.q7 (F.q8 (F.q9 e_).2)).1; rw [show d_ 5 = false from hd_] at h2; cases h2
        exact (F.st0 n_)
      have kk := kl5.out w1 hst
      clear hst
      obtain rfl := F.f4 (by simp [hdep])
      have HF : Hid (wi7F tb bx nb mb x y v n ab ao ac s S0 S1 S2 (upd d_ 5) x37 x38 x39 x40 (.pointer (some ⟨tb,3,none⟩)) (.slice (some ⟨ab,ao,none⟩) n ac) x43 x44 x45 x46 x47 x5 u w1) := ⟨F.q2,F.q3,F.q4,fun _ => (show _ from (by simp [hdep] : d_ 4 = true)),fun h => ⟨rfl,(F.q7 h).2⟩,F.q8,F.q9,fun h => ⟨(F.q11 h).1,(F.q11 h).2.1,(F.q11 h).2.2.1,(F.q11 h).2.2.2.1,(F.q11 h).2.2.2.2.1,rfl,(F.q11 h).2.2.2.2.2.2.1,(F.q11 h).2.2.2.2.2.2.2.1,(F.q11 h).2.2.2.2.2.2.2.2.1,(F.q11 h).2.2.2.2.2.2.2.2.2⟩,fun h => ⟨(F.q12 h).1,(F.q12 h).2.1,(F.q12 h).2.2.1,(F.q12 h).2.2.2.1,(F.q12 h).2.2.2.2.1,rfl,(F.q12 h).2.2.2.2.2.2.1,(F.q12 h).2.2.2.2.2.2.2.1,(F.q12 h).2.2.2.2.2.2.2.2.1,(F.q12 h).2.2.2.2.2.2.2.2.2.1,(F.q12 h).2.2.2.2.2.2.2.2.2.2.1,(F.q12 h).2.2.2.2.2.2.2.2.2.2.2⟩,F.f0,F.f1,F.f2,F.f3,F.f4,fun _ => rfl,F.f6,F.f7,F.f8,F.f9,F.f10,F.f12,F.st0,F.st1,F.st2⟩
      clear F
      go_simp
      exact HK.out _ _ ⟨_,_,_,_,_,_,_,_,_,_,_,_,_,rfl,HF.out⟩
    · have HF : Hid (wi7F tb bx nb mb x y v n ab ao ac s S0 S1 S2 (upd d_ 6) x37 x38 x39 x40 x41 x42 (.int .i64 v) x44 x45 x46 x47 x5 u w1) := ⟨F.q2,F.q3,F.q4,F.q5,fun h => ⟨(F.q7 h).1,rfl⟩,F.q8,F.q9,fun h => ⟨(F.q11 h).1,(F.q11 h).2.1,(F.q11 h).2.2.1,(F.q11 h).2.2.2.1,(F.q11 h).2.2.2.2.1,(F.q11 h).2.2.2.2.2.1,rfl,(F.q11 h).2.2.2.2.2.2.2.1,(F.q11 h).2.2.2.2.2.2.2.2.1,(F.q11 h).2.2.2.2.2.2.2.2.2⟩,fun h => ⟨(F.q12 h).1,(F.q12 h).2.1,(F.q12 h).2.2.1,(F.q12 h).2.2.2.1,(F.q12 h).2.2.2.2.1,(F.q12 h).2.2.2.2.2.1,rfl,(F.q12 h).2.2.2.2.2.2.2.1,(F.q12 h).2.2.2.2.2.2.2.2.1,(F.q12 h).2.2.2.2.2.2.2.2.2.1,(F.q12 h).2.2.2.2.2.2.2.2.2.2.1,(F.q12 h).2.2.2.2.2.2.2.2.2.2.2⟩,F.f0,F.f1,F.f2,F.f3,F.f4,F.f5,fun _ => rfl,F.f7,F.f8,F.f9,F.f10,F.f12,F.st0,F.st1,F.st2⟩
      clear F
      go_simp
      exact HK.out _ _ ⟨_,_,_,_,_,_,_,_,_,_,_,_,_,rfl,HF.out⟩
    · obtain rfl := F.f5 (by simp [hdep])
      obtain rfl := F.f6 (by simp [hdep])
      have HF : Hid (wi7F tb bx nb mb x y v n ab ao ac s S0 S1 S2 (upd d_ 7) x37 x38 x39 x40 x41 (.slice (some ⟨ab,ao,none⟩) n ac) (.int .i64 v) (.pointer (some ⟨ab,ao + v * 2,none⟩)) x45 x46 x47 x5 u w1) := ⟨F.q2,F.q3,F.q4,F.q5,fun _ => ⟨(show _ from (by simp [hdep] : d_ 5 = true)),(show _ from (by simp [hdep] : d_ 6 = true))⟩,fun h => rfl,F.q9,fun h => ⟨(F.q11 h).1,(F.q11 h).2.1,(F.q11 h).2.2.1,(F.q11 h).2.2.2.1,(F.q11 h).2.2.2.2.1,(F.q11 h).2.2.2.2.2.1,(F.q11 h).2.2.2.2.2.2.1,rfl,(F.q11 h).2.2.2.2.2.2.2.2.1,(F.q11 h).2.2.2.2.2.2.2.2.2⟩,fun h => ⟨(F.q12 h).1,(F.q12 h).2.1,(F.q12 h).2.2.1,(F.q12 h).2.2.2.1,(F.q12 h).2.2.2.2.1,(F.q12 h).2.2.2.2.2.1,(F.q12 h).2.2.2.2.2.2.1,rfl,(F.q12 h).2.2.2.2.2.2.2.2.1,(F.q12 h).2.2.2.2.2.2.2.2.2.1,(F.q12 h).2.2.2.2.2.2.2.2.2.2.1,(F.q12 h).2.2.2.2.2.2.2.2.2.2.2⟩,F.f0,F.f1,F.f2,F.f3,F.f4,F.f5,F.f6,fun _ => rfl,F.f8,F.f9,F.f10,F.f12,F.st0,F.st1,F.st2⟩
      clear F
      have hvn2 : v < n := hvn
      go_simp
      exact HK.out _ _ ⟨_,_,_,_,_,_,_,_,_,_,_,_,_,rfl,HF.out⟩
    · have hst : S0 w1 := by
        have n_ : d_ 9 = false := by
          cases e_ : d_ 9 with
          | false => rfl
          | true => have h2 := (F.q9 e_).2; rw [show d_ 8 = false from hd_] at h2; cases h2
        exact (F.st0 n_)
      have kk := kl8.out w1 hst
      obtain ⟨kk0,kk1⟩ := kk
      clear hst
      obtain rfl := F.f7 (by simp [hdep])
      have HF : Hid (wi7F tb bx nb mb x y v n ab ao ac s S0 S1 S2 (upd d_ 8) x37 x38 x39 x40 x41 x42 x43 (.pointer (some ⟨ab,ao + v * 2,none⟩)) (.agg #[.int .i64 s.lo,.int .i64 s.hi]) x46 x47 x5 u w1) := ⟨F.q2,F.q3,F.q4,F.q5,F.q7,fun _ => (show _ from (by simp [hdep] : d_ 7 = true)),fun h => ⟨(F.q9 h).1,rfl⟩,fun h => ⟨(F.q11 h).1,(F.q11 h).2.1,(F.q11 h).2.2.1,(F.q11 h).2.2.2.1,(F.q11 h).2.2.2.2.1,(F.q11 h).2.2.2.2.2.1,(F.q11 h).2.2.2.2.2.2.1,(F.q11 h).2.2.2.2.2.2.2.1,rfl,(F.q11 h).2.2.2.2.2.2.2.2.2⟩,fun h => ⟨(F.q12 h).1,(F.q12 h).2.1,(F.q12 h).2.2.1,(F.q12 h).2.2.2.1,(F.q12 h).2.2.2.2.1,(F.q12 h).2.2.2.2.2.1,(F.q12 h).2.2.2.2.2.2.1,(F.q12 h).2.2.2.2.2.2.2.1,rfl,(F.q12 h).2.2.2.2.2.2.2.2.2.1,(F.q12 h).2.2.2.2.2.2.2.2.2.2.1,(F.q12 h).2.2.2.2.2.2.2.2.2.2.2⟩,F.f0,F.f1,F.f2,F.f3,F.f4,F.f5,F.f6,F.f7,fun _ => rfl,F.f9,F.f10,F.f12,F.st0,F.st1,F.st2⟩
      clear F
      go_simp
      exact HK.out _ _ ⟨_,_,_,_,_,_,_,_,_,_,_,_,_,rfl,HF.out⟩
    · have hS := F.st0  hd_
      obtain rfl := F.f0 (by simp [hdep])
      obtain rfl := F.f8 (by simp [hdep])
      have hc := kc9.out w1 hS
      have HF := Lib.hid F
      clear F
      go_simp
      refine ⟨trivial,rfl,wideAt_calls (hc.mono ?_)⟩
      rintro e w5 ⟨v_,rfl,hres⟩
      exact HK.out _ _ ⟨_,_,_,_,_,_,_,_,_,_,_,_,v_,rfl,⟨HF.out.q2,HF.out.q3,HF.out.q4,HF.out.q5,HF.out.q7,HF.out.q8,fun _ => ⟨(show _ from (by simp [hdep] : d_ 0 = true)),(show _ from (by simp [hdep] : d_ 8 = true))⟩,fun h => ⟨(HF.out.q11 h).1,(HF.out.q11 h).2.1,(HF.out.q11 h).2.2.1,(HF.out.q11 h).2.2.2.1,(HF.out.q11 h).2.2.2.2.1,(HF.out.q11 h).2.2.2.2.2.1,(HF.out.q11 h).2.2.2.2.2.2.1,(HF.out.q11 h).2.2.2.2.2.2.2.1,(HF.out.q11 h).2.2.2.2.2.2.2.2.1,rfl⟩,fun h => ⟨(HF.out.q12 h).1,(HF.out.q12 h).2.1,(HF.out.q12 h).2.2.1,(HF.out.q12 h).2.2.2.1,(HF.out.q12 h).2.2.2.2.1,(HF.out.q12 h).2.2.2.2.2.1,(HF.out.q12 h).2.2.2.2.2.2.1,(HF.out.q12 h).2.2.2.2.2.2.2.1,(HF.out.q12 h).2.2.2.2.2.2.2.2.1,rfl,(HF.out.q12 h).2.2.2.2.2.2.2.2.2.2.1,(HF.out.q12 h).2.2.2.2.2.2.2.2.2.2.2⟩,HF.out.f0,HF.out.f1,HF.out.f2,HF.out.f3,HF.out.f4,HF.out.f5,HF.out.f6,HF.out.f7,HF.out.f8,fun _ => rfl,HF.out.f10,HF.out.f12,fun h => (by simp [upd] at h),fun _ _ => hres,fun h => (by have h2 : d_ 9 = true := (HF.out.q11 h).2.2.2.2.2.2.2.2.2; rw [show d_ 9 = false from hd_] at h2; cases h2)⟩⟩
    · have HF : Hid (wi7F tb bx nb mb x y v n ab ao ac s S0 S1 S2 (upd d_ 10) x37 x38 x39 x40 x41 x42 x43 x44 x45 x46 (.int .i64 v) x5 u w1) := ⟨F.q2,F.q3,F.q4,F.q5,F.q7,F.q8,F.q9,F.q11,fun h => ⟨(F.q12 h).1,(F.q12 h).2.1,(F.q12 h).2.2.1,(F.q12 h).2.2.2.1,(F.q12 h).2.2.2.2.1,(F.q12 h).2.2.2.2.2.1,(F.q12 h).2.2.2.2.2.2.1,(F.q12 h).2.2.2.2.2.2.2.1,(F.q12 h).2.2.2.2.2.2.2.2.1,(F.q12 h).2.2.2.2.2.2.2.2.2.1,rfl,(F.q12 h).2.2.2.2.2.2.2.2.2.2.2⟩,F.f0,F.f1,F.f2,F.f3,F.f4,F.f5,F.f6,F.f7,F.f8,F.f9,fun _ => rfl,F.f12,F.st0,F.st1,F.st2⟩
      clear F
      go_simp
      exact HK.out _ _ ⟨_,_,_,_,_,_,_,_,_,_,_,_,_,rfl,HF.out⟩
    · have hS := F.st1 (by simp [hdep] : d_ 9 = true) hd_
      obtain rfl := F.f9 (by simp [hdep])
      obtain ⟨⟨ku0,kcell0⟩,kfr0,⟨ku1,kcell1⟩,kfr1,hres⟩ := kc11.out u w1 hS
      have HF : Hid (wi7F tb bx nb mb x y v n ab ao ac s S0 S1 S2 (upd d_ 11) x37 x38 x39 x40 x41 x42 x43 x44 x45 (.agg #[.int .i64 (x + s.lo),.int .i64 (y + s.hi)]) x47 x5 u ((w1.setCell ⟨nb,0,none⟩ (.int .i64 (x + s.lo))).setCell ⟨nb,1,none⟩ (.int .i64 (y + s.hi)))) := ⟨F.q2,F.q3,F.q4,F.q5,F.q7,F.q8,F.q9,fun _ => ⟨(show _ from (by simp [hdep] : d_ 0 = true)),(show _ from (by simp [hdep] : d_ 1 = true)),(show _ from (by simp [hdep] : d_ 2 = true)),(show _ from (by simp [hdep] : d_ 3 = true)),(show _ from (by simp [hdep] : d_ 4 = true)),(show _ from (by simp [hdep] : d_ 5 = true)),(show _ from (by simp [hdep] : d_ 6 = true)),(show _ from (by simp [hdep] : d_ 7 = true)),(show _ from (by simp [hdep] : d_ 8 = true)),(show _ from (by simp [hdep] : d_ 9 = true))⟩,fun h => ⟨(F.q12 h).1,(F.q12 h).2.1,(F.q12 h).2.2.1,(F.q12 h).2.2.2.1,(F.q12 h).2.2.2.2.1,(F.q12 h).2.2.2.2.2.1,(F.q12 h).2.2.2.2.2.2.1,(F.q12 h).2.2.2.2.2.2.2.1,(F.q12 h).2.2.2.2.2.2.2.2.1,(F.q12 h).2.2.2.2.2.2.2.2.2.1,(F.q12 h).2.2.2.2.2.2.2.2.2.2.1,rfl⟩,F.f0,F.f1,F.f2,F.f3,F.f4,F.f5,F.f6,F.f7,F.f8,F.f9,F.f10,F.f12,fun h => (by have h2 : d_ 9 = false := h; rw [(by simp [hdep] : d_ 9 = true)] at h2; cases h2),fun _ h => (by simp [upd] at h),fun _ => hres⟩
      clear F hS hres
      go_simp
      exact HK.out _ _ ⟨_,_,_,_,_,_,_,_,_,_,_,_,_,rfl,HF.out⟩
    · obtain rfl := F.f10 (by simp [hdep])
      have HF : Hid (wi7F tb bx nb mb x y v n ab ao ac s S0 S1 S2 (upd d_ 12) x37 x38 x39 x40 x41 x42 x43 x44 x45 x46 (.int .i64 v) (.int .i64 v) u w1) := ⟨F.q2,F.q3,F.q4,F.q5,F.q7,F.q8,F.q9,F.q11,fun _ => ⟨(show _ from (by simp [hdep] : d_ 0 = true)),(show _ from (by simp [hdep] : d_ 1 = true)),(show _ from (by simp [hdep] : d_ 2 = true)),(show _ from (by simp [hdep] : d_ 3 = true)),(show _ from (by simp [hdep] : d_ 4 = true)),(show _ from (by simp [hdep] : d_ 5 = true)),(show _ from (by simp [hdep] : d_ 6 = true)),(show _ from (by simp [hdep] : d_ 7 = true)),(show _ from (by simp [hdep] : d_ 8 = true)),(show _ from (by simp [hdep] : d_ 9 = true)),(show _ from (by simp [hdep] : d_ 10 = true)),(show _ from (by simp [hdep] : d_ 11 = true))⟩,F.f0,F.f1,F.f2,F.f3,F.f4,F.f5,F.f6,F.f7,F.f8,F.f9,F.f10,fun _ => rfl,F.st0,F.st1,F.st2⟩
      clear F
      go_simp
      exact HK.out _ _ ⟨_,_,_,_,_,_,_,_,_,_,_,_,_,rfl,HF.out⟩
  · rintro d_ a_ w1 hall ⟨x37,x38,x39,x40,x41,x42,x43,x44,x45,x46,x47,x5,u,rfl,F⟩
    have hall' : ∀ k,k < 13 → d_ k = true := hall
    obtain rfl := F.f0 (hall' 0 (by decide))
    obtain rfl := F.f1 (hall' 1 (by decide))
    obtain rfl := F.f2 (hall' 2 (by decide))
    obtain rfl := F.f3 (hall' 3 (by decide))
    obtain rfl := F.f4 (hall' 4 (by decide))
    obtain rfl := F.f5 (hall' 5 (by decide))
    obtain rfl := F.f6 (hall' 6 (by decide))
    obtain rfl := F.f7 (hall' 7 (by decide))
    obtain rfl := F.f8 (hall' 8 (by decide))
    obtain rfl := F.f9 (hall' 9 (by decide))
    obtain rfl := F.f10 (hall' 10 (by decide))
    obtain rfl := F.f12 (hall' 12 (by decide))
    have hst := F.st2 (hall' 11 (by decide))
    exact HQ.out u w1 hst

end Go.Proofs.Ytphefhpmbahagaa
