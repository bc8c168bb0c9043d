/- The reference's Walk: a drawn region. -/
import Derived.Test.YtphefhpmbahagaaT24
namespace Go.Proofs.Ytphefhpmbahagaa
open Go.RowKit
set_option linter.unusedVariables false

structure rw9F (bx : Nat) (sb : Nat) (k : Nat) (j : Nat) (v : Nat) (m : Nat) (ab : Nat) (ao : Nat) (n : Nat) (cap : Nat) (wb : Nat) (wo : Nat) (wn : Nat) (wc : Nat) (rb : Nat) (ro : Nat) (rn : Nat) (rc : Nat) (s : Spn) (S0 : World → Prop) (S1 : World → Prop) (d : Nat → Bool) (x32 x33 x34 x35 x36 x37 x38 x39 x40 x41 x42 x43 : Value) (w : World) : Prop where
  q1 : d 1 = true → d 0 = true
  q4 : d 4 = true → d 3 = true
  q5 : d 5 = true → d 2 = true ∧ d 4 = true
  q6 : d 6 = true → d 5 = true
  q7 : d 7 = true → d 1 = true ∧ d 6 = true
  q8 : d 8 = true → d 7 = true
  q10 : d 10 = true → d 8 = true ∧ d 9 = true
  q11 : d 11 = true → d 10 = true
  q12 : d 12 = true → d 0 = true ∧ d 1 = true ∧ d 2 = true ∧ d 3 = true ∧ d 4 = true ∧ d 5 = true ∧ d 6 = true ∧ d 7 = true ∧ d 8 = true ∧ d 9 = true ∧ d 10 = true ∧ d 11 = true
  f0 : d 0 = true → x32 = .pointer (some ⟨bx,2,none⟩)
  f1 : d 1 = true → x33 = .slice (some ⟨wb,wo,none⟩) wn wc
  f2 : d 2 = true → x34 = .slice (some ⟨ab,ao,none⟩) n cap
  f3 : d 3 = true → x35 = .int .i64 k
  f4 : d 4 = true → x36 = .int .i64 j
  f5 : d 5 = true → x37 = .pointer (some ⟨ab,ao + j,none⟩)
  f6 : d 6 = true → x38 = .int .i64 m
  f7 : d 7 = true → x39 = .pointer (some ⟨wb,wo + m,none⟩)
  f8 : d 8 = true → x40 = .slice (some ⟨rb,ro,none⟩) rn rc
  f9 : d 9 = true → x41 = .int .i64 v
  f10 : d 10 = true → x42 = .pointer (some ⟨rb,ro + v * 2,none⟩)
  f11 : d 11 = true → x43 = .agg #[.int .i64 s.lo,.int .i64 s.hi]
  st0 : d 12 = false → S0 w
  st1 : d 12 = true → S1 w
noncomputable def rw9C : Code := (Try.f56.body.bind (regionAt 9)).getD .skip
set_option maxRecDepth 100000 in
set_option maxHeartbeats 4000000 in
theorem rw9 {bx : Nat} {sb : Nat} {k : Nat} {j : Nat} {v : Nat} {m : Nat} {ab : Nat} {ao : Nat} {n : Nat} {cap : Nat} {wb : Nat} {wo : Nat} {wn : Nat} {wc : Nat} {rb : Nat} {ro : Nat} {rn : Nat} {rc : Nat} {s : Spn} {S0 : World → Prop} {S1 : World → Prop} {Q : Exit → Act → World → Prop} {W1 : World} (hkj : IntKind.i64.wrap ((k : Int) - 1) = (j : Int)) (hjn : j < n) (hmn : m < wn) (hvn : v < rn) (h0 : S0 W1.drew)
    (kl1 : Hid (∀ (w : World),(S0 w) → w.cell? ⟨bx,2,none⟩ = some (.slice (some ⟨wb,wo,none⟩) wn wc)))
    (kl6 : Hid (∀ (w : World),(S0 w) → w.cell? ⟨ab,ao + j,none⟩ = some (.int .i64 m)))
    (kl8 : Hid (∀ (w : World),(S0 w) → w.cell? ⟨wb,wo + m,none⟩ = some (.slice (some ⟨rb,ro,none⟩) rn rc)))
    (kl11 : Hid (∀ (w : World),(S0 w) → w.cell? ⟨rb,ro + v * 2,none⟩ = some (.int .i64 s.lo) ∧ w.cell? ⟨rb,ro + v * 2 + 1,none⟩ = some (.int .i64 s.hi)))
    (kc12 : Hid (∀ (w : World),S0 w → (∃ u,w.cell? ⟨sb,0,none⟩ = some u) ∧ w.frozen? ⟨sb,0,none⟩ = false ∧ (∃ u,w.cell? ⟨sb,1,none⟩ = some u) ∧ w.frozen? ⟨sb,1,none⟩ = false ∧ S1 ((w.setCell ⟨sb,0,none⟩ (.int .i64 s.lo)).setCell ⟨sb,1,none⟩ (.int .i64 s.hi))))
    {s0 s2 s4 s5 s6 s7 s8 s9 s13 s14 s15 s16 s17 s18 s19 s20 s21 s22 s23 s24 s25 s26 s27 s28 s29 s30 s31 s32 s33 s34 s35 s36 s37 s38 s39 s40 s41 s42 s43 s44 s45 s46 s47 s48 s49 s50 s51 s52 s53 s54 s55 s56 s57 s58 s59 s60 s61 s62 s63 s64 s65 s66 s67 s68 s69 s70 : Value} {dd : List Deferred}
    (hQ : ∀ (w' : World),S1 w' → Q .normal { tmps := #[s0,.slice (some ⟨ab,ao,none⟩) n cap,s2,.pointer (some ⟨bx,0,none⟩),s4,s5,s6,s7,s8,s9,.int .i64 k,.int .i64 v,.pointer (some ⟨sb,0,none⟩),s13,s14,s15,s16,s17,s18,s19,s20,s21,s22,s23,s24,s25,s26,s27,s28,s29,s30,s31,.pointer (some ⟨bx,2,none⟩),.slice (some ⟨wb,wo,none⟩) wn wc,.slice (some ⟨ab,ao,none⟩) n cap,.int .i64 k,.int .i64 j,.pointer (some ⟨ab,ao + j,none⟩),.int .i64 m,.pointer (some ⟨wb,wo + m,none⟩),.slice (some ⟨rb,ro,none⟩) rn rc,.int .i64 v,.pointer (some ⟨rb,ro + v * 2,none⟩),.agg #[.int .i64 s.lo,.int .i64 s.hi],s44,s45,s46,s47,s48,s49,s50,s51,s52,s53,s54,s55,s56,s57,s58,s59,s60,s61,s62,s63,s64,s65,s66,s67,s68,s69,s70],defers := dd } w') :
    Code.wpIn (wideAt none) 0 Try.prog rw9C Q { tmps := #[s0,.slice (some ⟨ab,ao,none⟩) n cap,s2,.pointer (some ⟨bx,0,none⟩),s4,s5,s6,s7,s8,s9,.int .i64 k,.int .i64 v,.pointer (some ⟨sb,0,none⟩),s13,s14,s15,s16,s17,s18,s19,s20,s21,s22,s23,s24,s25,s26,s27,s28,s29,s30,s31,s32,s33,s34,s35,s36,s37,s38,s39,s40,s41,s42,s43,s44,s45,s46,s47,s48,s49,s50,s51,s52,s53,s54,s55,s56,s57,s58,s59,s60,s61,s62,s63,s64,s65,s66,s67,s68,s69,s70],defers := dd } W1 := by
  have HQ := Lib.hid hQ
  clear hQ
  conv => arg 4; whnf
  refine wpIn_region_invG mixed (by kernel_rfl) (fun d_ a_ w' => ∃ (x32 : Value) (x33 : Value) (x34 : Value) (x35 : Value) (x36 : Value) (x37 : Value) (x38 : Value) (x39 : Value) (x40 : Value) (x41 : Value) (x42 : Value) (x43 : Value),a_ = { tmps := #[s0,.slice (some ⟨ab,ao,none⟩) n cap,s2,.pointer (some ⟨bx,0,none⟩),s4,s5,s6,s7,s8,s9,.int .i64 k,.int .i64 v,.pointer (some ⟨sb,0,none⟩),s13,s14,s15,s16,s17,s18,s19,s20,s21,s22,s23,s24,s25,s26,s27,s28,s29,s30,s31,x32,x33,x34,x35,x36,x37,x38,x39,x40,x41,x42,x43,s44,s45,s46,s47,s48,s49,s50,s51,s52,s53,s54,s55,s56,s57,s58,s59,s60,s61,s62,s63,s64,s65,s66,s67,s68,s69,s70],defers := dd } ∧ rw9F bx sb k j v m ab ao n cap wb wo wn wc rb ro rn rc s S0 S1 d_ x32 x33 x34 x35 x36 x37 x38 x39 x40 x41 x42 x43 w') ?_ ?_ ?_
  · refine ⟨s32,s33,s34,s35,s36,s37,s38,s39,s40,s41,s42,s43,rfl,?_⟩
    constructor <;> first | rfl | (intro _; rfl) | (intro h; cases h; done) | (intro _; exact h0) | exact h0
  · refine ⟨?_,?_,?_,?_,?_,?_,?_,?_,?_,?_,?_,?_,?_,trivial⟩
    all_goals
      rintro d_ a_ w1 K hd_ hdep ⟨x32,x33,x34,x35,x36,x37,x38,x39,x40,x41,x42,x43,rfl,F⟩ HK
      simp [Region.binds] at hdep
    · have HF : Hid (rw9F bx sb k j v m ab ao n cap wb wo wn wc rb ro rn rc s S0 S1 (upd d_ 0) (.pointer (some ⟨bx,2,none⟩)) x33 x34 x35 x36 x37 x38 x39 x40 x41 x42 x43 w1) := ⟨fun h => rfl,F.q4,F.q5,F.q6,F.q7,F.q8,F.q10,F.q11,fun h => ⟨rfl,(F.q12 h).2.1,(F.q12 h).2.2.1,(F.q12 h).2.2.2.1,(F.q12 h).2.2.2.2.1,(F.q12 h).2.2.2.2.2.1,(F.q12 h).2.2.2.2.2.2.1,(F.q12 h).2.2.2.2.2.2.2.1,(F.q12 h).2.2.2.2.2.2.2.2.1,(F.q12 h).2.2.2.2.2.2.2.2.2.1,(F.q12 h).2.2.2.2.2.2.2.2.2.2.1,(F.q12 h).2.2.2.2.2.2.2.2.2.2.2⟩,fun _ => rfl,F.f1,F.f2,F.f3,F.f4,F.f5,F.f6,F.f7,F.f8,F.f9,F.f10,F.f11,F.st0,F.st1⟩
      clear F
      go_simp
      exact HK.out _ _ ⟨_,_,_,_,_,_,_,_,_,_,_,_,rfl,HF.out⟩
    · have hst : S0 w1 := by
        have n_ : d_ 12 = false := by
          cases e_ : d_ 12 with
          | false => rfl
          | true => have h2 := (F.q12 e_).2.1; rw [show d_ 1 = false from hd_] at h2; cases h2
        exact (F.st0 n_)
      have kk := kl1.out w1 hst
      clear hst
      obtain rfl := F.f0 (by simp [hdep])
      have HF : Hid (rw9F bx sb k j v m ab ao n cap wb wo wn wc rb ro rn rc s S0 S1 (upd d_ 1) (.pointer (some ⟨bx,2,none⟩)) (.slice (some ⟨wb,wo,none⟩) wn wc) x34 x35 x36 x37 x38 x39 x40 x41 x42 x43 w1) := ⟨fun _ => (show _ from (by simp [hdep] : d_ 0 = true)),F.q4,F.q5,F.q6,fun h => ⟨rfl,(F.q7 h).2⟩,F.q8,F.q10,F.q11,fun h => ⟨(F.q12 h).1,rfl,(F.q12 h).2.2.1,(F.q12 h).2.2.2.1,(F.q12 h).2.2.2.2.1,(F.q12 h).2.2.2.2.2.1,(F.q12 h).2.2.2.2.2.2.1,(F.q12 h).2.2.2.2.2.2.2.1,(F.q12 h).2.2.2.2.2.2.2.2.1,(F.q12 h).2.2.2.2.2.2.2.2.2.1,(F.q12 h).2.2.2.2.2.2.2.2.2.2.1,(F.q12 h).2.2.2.2.2.2.2.2.2.2.2⟩,F.f0,fun _ => rfl,F.f2,F.f3,F.f4,F.f5,F.f6,F.f7,F.f8,F.f9,F.f10,F.f11,F.st0,F.st1⟩
      clear F
      go_simp
      exact HK.out _ _ ⟨_,_,_,_,_,_,_,_,_,_,_,_,rfl,HF.out⟩
    · have HF : Hid (rw9F bx sb k j v m ab ao n cap wb wo wn wc rb ro rn rc s S0 S1 (upd d_ 2) x32 x33 (.slice (some ⟨ab,ao,none⟩) n cap) x35 x36 x37 x38 x39 x40 x41 x42 x43 w1) := ⟨F.q1,F.q4,fun h => ⟨rfl,(F.q5 h).2⟩,F.q6,F.q7,F.q8,F.q10,F.q11,fun h => ⟨(F.q12 h).1,(F.q12 h).2.1,rfl,(F.q12 h).2.2.2.1,(F.q12 h).2.2.2.2.1,(F.q12 h).2.2.2.2.2.1,(F.q12 h).2.2.2.2.2.2.1,(F.q12 h).2.2.2.2.2.2.2.1,(F.q12 h).2.2.2.2.2.2.2.2.1,(F.q12 h).2.2.2.2.2.2.2.2.2.1,(F.q12 h).2.2.2.2.2.2.2.2.2.2.1,(F.q12 h).2.2.2.2.2.2.2.2.2.2.2⟩,F.f0,F.f1,fun _ => rfl,F.f3,F.f4,F.f5,F.f6,F.f7,F.f8,F.f9,F.f10,F.f11,F.st0,F.st1⟩
      clear F
      go_simp
      exact HK.out _ _ ⟨_,_,_,_,_,_,_,_,_,_,_,_,rfl,HF.out⟩
    · have HF : Hid (rw9F bx sb k j v m ab ao n cap wb wo wn wc rb ro rn rc s S0 S1 (upd d_ 3) x32 x33 x34 (.int .i64 k) x36 x37 x38 x39 x40 x41 x42 x43 w1) := ⟨F.q1,fun h => rfl,F.q5,F.q6,F.q7,F.q8,F.q10,F.q11,fun h => ⟨(F.q12 h).1,(F.q12 h).2.1,(F.q12 h).2.2.1,rfl,(F.q12 h).2.2.2.2.1,(F.q12 h).2.2.2.2.2.1,(F.q12 h).2.2.2.2.2.2.1,(F.q12 h).2.2.2.2.2.2.2.1,(F.q12 h).2.2.2.2.2.2.2.2.1,(F.q12 h).2.2.2.2.2.2.2.2.2.1,(F.q12 h).2.2.2.2.2.2.2.2.2.2.1,(F.q12 h).2.2.2.2.2.2.2.2.2.2.2⟩,F.f0,F.f1,F.f2,fun _ => rfl,F.f4,F.f5,F.f6,F.f7,F.f8,F.f9,F.f10,F.f11,F.st0,F.st1⟩
      clear F
      go_simp
      exact HK.out _ _ ⟨_,_,_,_,_,_,_,_,_,_,_,_,rfl,HF.out⟩
    · obtain rfl := F.f3 (by simp [hdep])
      have HF : Hid (rw9F bx sb k j v m ab ao n cap wb wo wn wc rb ro rn rc s S0 S1 (upd d_ 4) x32 x33 x34 (.int .i64 k) (.int .i64 j) x37 x38 x39 x40 x41 x42 x43 w1) := ⟨F.q1,fun _ => (show _ from (by simp [hdep] : d_ 3 = true)),fun h => ⟨(F.q5 h).1,rfl⟩,F.q6,F.q7,F.q8,F.q10,F.q11,fun h => ⟨(F.q12 h).1,(F.q12 h).2.1,(F.q12 h).2.2.1,(F.q12 h).2.2.2.1,rfl,(F.q12 h).2.2.2.2.2.1,(F.q12 h).2.2.2.2.2.2.1,(F.q12 h).2.2.2.2.2.2.2.1,(F.q12 h).2.2.2.2.2.2.2.2.1,(F.q12 h).2.2.2.2.2.2.2.2.2.1,(F.q12 h).2.2.2.2.2.2.2.2.2.2.1,(F.q12 h).2.2.2.2.2.2.2.2.2.2.2⟩,F.f0,F.f1,F.f2,F.f3,fun _ => rfl,F.f5,F.f6,F.f7,F.f8,F.f9,F.f10,F.f11,F.st0,F.st1⟩
      clear F
      have hkj2 := hkj
      go_simp
      exact HK.out _ _ ⟨_,_,_,_,_,_,_,_,_,_,_,_,rfl,HF.out⟩
    · obtain rfl := F.f2 (by simp [hdep])
      obtain rfl := F.f4 (by simp [hdep])
      have HF : Hid (rw9F bx sb k j v m ab ao n cap wb wo wn wc rb ro rn rc s S0 S1 (upd d_ 5) x32 x33 (.slice (some ⟨ab,ao,none⟩) n cap) x35 (.int .i64 j) (.pointer (some ⟨ab,ao + j,none⟩)) x38 x39 x40 x41 x42 x43 w1) := ⟨F.q1,F.q4,fun _ => ⟨(show _ from (by simp [hdep] : d_ 2 = true)),(show _ from (by simp [hdep] : d_ 4 = true))⟩,fun h => rfl,F.q7,F.q8,F.q10,F.q11,fun h => ⟨(F.q12 h).1,(F.q12 h).2.1,(F.q12 h).2.2.1,(F.q12 h).2.2.2.1,(F.q12 h).2.2.2.2.1,rfl,(F.q12 h).2.2.2.2.2.2.1,(F.q12 h).2.2.2.2.2.2.2.1,(F.q12 h).2.2.2.2.2.2.2.2.1,(F.q12 h).2.2.2.2.2.2.2.2.2.1,(F.q12 h).2.2.2.2.2.2.2.2.2.2.1,(F.q12 h).2.2.2.2.2.2.2.2.2.2.2⟩,F.f0,F.f1,F.f2,F.f3,F.f4,fun _ => rfl,F.f6,F.f7,F.f8,F.f9,F.f10,F.f11,F.st0,F.st1⟩
      clear F
      have hjn2 : j < n := hjn
      go_simp
      exact HK.out _ _ ⟨_,_,_,_,_,_,_,_,_,_,_,_,rfl,HF.out⟩
    · have hst : S0 w1 := by
        have n_ : d_ 12 = false := by
          cases e_ : d_ 12 with
          | false => rfl
          | true => have h2 := (F.q12 e_).2.2.2.2.2.2.1; rw [show d_ 6 = false from hd_] at h2; cases h2
        exact (F.st0 n_)
      have kk := kl6.out w1 hst
      clear hst
      obtain rfl := F.f5 (by simp [hdep])
      have HF : Hid (rw9F bx sb k j v m ab ao n cap wb wo wn wc rb ro rn rc s S0 S1 (upd d_ 6) x32 x33 x34 x35 x36 (.pointer (some ⟨ab,ao + j,none⟩)) (.int .i64 m) x39 x40 x41 x42 x43 w1) := ⟨F.q1,F.q4,F.q5,fun _ => (show _ from (by simp [hdep] : d_ 5 = true)),fun h => ⟨(F.q7 h).1,rfl⟩,F.q8,F.q10,F.q11,fun h => ⟨(F.q12 h).1,(F.q12 h).2.1,(F.q12 h).2.2.1,(F.q12 h).2.2.2.1,(F.q12 h).2.2.2.2.1,(F.q12 h).2.2.2.2.2.1,rfl,(F.q12 h).2.2.2.2.2.2.2.1,(F.q12 h).2.2.2.2.2.2.2.2.1,(F.q12 h).2.2.2.2.2.2.2.2.2.1,(F.q12 h).2.2.2.2.2.2.2.2.2.2.1,(F.q12 h).2.2.2.2.2.2.2.2.2.2.2⟩,F.f0,F.f1,F.f2,F.f3,F.f4,F.f5,fun _ => rfl,F.f7,F.f8,F.f9,F.f10,F.f11,F.st0,F.st1⟩
      clear F
      go_simp
      exact HK.out _ _ ⟨_,_,_,_,_,_,_,_,_,_,_,_,rfl,HF.out⟩
    · obtain rfl := F.f1 (by simp [hdep])
      obtain rfl := F.f6 (by simp [hdep])
      have HF : Hid (rw9F bx sb k j v m ab ao n cap wb wo wn wc rb ro rn rc s S0 S1 (upd d_ 7) x32 (.slice (some ⟨wb,wo,none⟩) wn wc) x34 x35 x36 x37 (.int .i64 m) (.pointer (some ⟨wb,wo + m,none⟩)) x40 x41 x42 x43 w1) := ⟨F.q1,F.q4,F.q5,F.q6,fun _ => ⟨(show _ from (by simp [hdep] : d_ 1 = true)),(show _ from (by simp [hdep] : d_ 6 = true))⟩,fun h => rfl,F.q10,F.q11,fun h => ⟨(F.q12 h).1,(F.q12 h).2.1,(F.q12 h).2.2.1,(F.q12 h).2.2.2.1,(F.q12 h).2.2.2.2.1,(F.q12 h).2.2.2.2.2.1,(F.q12 h).2.2.2.2.2.2.1,rfl,(F.q12 h).2.2.2.2.2.2.2.2.1,(F.q12 h).2.2.2.2.2.2.2.2.2.1,(F.q12 h).2.2.2.2.2.2.2.2.2.2.1,(F.q12 h).2.2.2.2.2.2.2.2.2.2.2⟩,F.f0,F.f1,F.f2,F.f3,F.f4,F.f5,F.f6,fun _ => rfl,F.f8,F.f9,F.f10,F.f11,F.st0,F.st1⟩
      clear F
      have hmn2 : m < wn := hmn
      go_simp
      exact HK.out _ _ ⟨_,_,_,_,_,_,_,_,_,_,_,_,rfl,HF.out⟩
    · have hst : S0 w1 := by
        have n_ : d_ 12 = false := by
          cases e_ : d_ 12 with
          | false => rfl
          | true => have h2 := (F.q12 e_).2.2.2.2.2.2.2.2.1; rw [show d_ 8 = false from hd_] at h2; cases h2
        exact (F.st0 n_)
      have kk := kl8.out w1 hst
      clear hst
      obtain rfl := F.f7 (by simp [hdep])
      have HF : Hid (rw9F bx sb k j v m ab ao n cap wb wo wn wc rb ro rn rc s S0 S1 (upd d_ 8) x32 x33 x34 x35 x36 x37 x38 (.pointer (some ⟨wb,wo + m,none⟩)) (.slice (some ⟨rb,ro,none⟩) rn rc) x41 x42 x43 w1) := ⟨F.q1,F.q4,F.q5,F.q6,F.q7,fun _ => (show _ from (by simp [hdep] : d_ 7 = true)),fun h => ⟨rfl,(F.q10 h).2⟩,F.q11,fun h => ⟨(F.q12 h).1,(F.q12 h).2.1,(F.q12 h).2.2.1,(F.q12 h).2.2.2.1,(F.q12 h).2.2.2.2.1,(F.q12 h).2.2.2.2.2.1,(F.q12 h).2.2.2.2.2.2.1,(F.q12 h).2.2.2.2.2.2.2.1,rfl,(F.q12 h).2.2.2.2.2.2.2.2.2.1,(F.q12 h).2.2.2.2.2.2.2.2.2.2.1,(F.q12 h).2.2.2.2.2.2.2.2.2.2.2⟩,F.f0,F.f1,F.f2,F.f3,F.f4,F.f5,F.f6,F.f7,fun _ => rfl,F.f9,F.f10,F.f11,F.st0,F.st1⟩
      clear F
      go_simp
      exact HK.out _ _ ⟨_,_,_,_,_,_,_,_,_,_,_,_,rfl,HF.out⟩
    · have HF : Hid (rw9F bx sb k j v m ab ao n cap wb wo wn wc rb ro rn rc s S0 S1 (upd d_ 9) x32 x33 x34 x35 x36 x37 x38 x39 x40 (.int .i64 v) x42 x43 w1) := ⟨F.q1,F.q4,F.q5,F.q6,F.q7,F.q8,fun h => ⟨(F.q10 h).1,rfl⟩,F.q11,fun h => ⟨(F.q12 h).1,(F.q12 h).2.1,(F.q12 h).2.2.1,(F.q12 h).2.2.2.1,(F.q12 h).2.2.2.2.1,(F.q12 h).2.2.2.2.2.1,(F.q12 h).2.2.2.2.2.2.1,(F.q12 h).2.2.2.2.2.2.2.1,(F.q12 h).2.2.2.2.2.2.2.2.1,rfl,(F.q12 h).2.2.2.2.2.2.2.2.2.2.1,(F.q12 h).2.2.2.2.2.2.2.2.2.2.2⟩,F.f0,F.f1,F.f2,F.f3,F.f4,F.f5,F.f6,F.f7,F.f8,fun _ => rfl,F.f10,F.f11,F.st0,F.st1⟩
      clear F
      go_simp
      exact HK.out _ _ ⟨_,_,_,_,_,_,_,_,_,_,_,_,rfl,HF.out⟩
    · obtain rfl := F.f8 (by simp [hdep])
      obtain rfl := F.f9 (by simp [hdep])
      have HF : Hid (rw9F bx sb k j v m ab ao n cap wb wo wn wc rb ro rn rc s S0 S1 (upd d_ 10) x32 x33 x34 x35 x36 x37 x38 x39 (.slice (some ⟨rb,ro,none⟩) rn rc) (.int .i64 v) (.pointer (some ⟨rb,ro + v * 2,none⟩)) x43 w1) := ⟨F.q1,F.q4,F.q5,F.q6,F.q7,F.q8,fun _ => ⟨(show _ from (by simp [hdep] : d_ 8 = true)),(show _ from (by simp [hdep] : d_ 9 = true))⟩,fun h => rfl,fun h => ⟨(F.q12 h).1,(F.q12 h).2.1,(F.q12 h).2.2.1,(F.q12 h).2.2.2.1,(F.q12 h).2.2.2.2.1,(F.q12 h).2.2.2.2.2.1,(F.q12 h).2.2.2.2.2.2.1,(F.q12 h).2.2.2.2.2.2.2.1,(F.q12 h).2.2.2.2.2.2.2.2.1,(F.q12 h).2.2.2.2.2.2.2.2.2.1,rfl,(F.q12 h).2.2.2.2.2.2.2.2.2.2.2⟩,F.f0,F.f1,F.f2,F.f3,F.f4,F.f5,F.f6,F.f7,F.f8,F.f9,fun _ => rfl,F.f11,F.st0,F.st1⟩
      clear F
      have hvn2 : v < rn := hvn
      go_simp
      exact HK.out _ _ ⟨_,_,_,_,_,_,_,_,_,_,_,_,rfl,HF.out⟩
    · have hst : S0 w1 := by
        have n_ : d_ 12 = false := by
          cases e_ : d_ 12 with
          | false => rfl
          | true => have h2 := (F.q12 e_).2.2.2.2.2.2.2.2.2.2.2; rw [show d_ 11 = false from hd_] at h2; cases h2
        exact (F.st0 n_)
      have kk := kl11.out w1 hst
      obtain ⟨kk0,kk1⟩ := kk
      clear hst
      obtain rfl := F.f10 (by simp [hdep])
      have HF : Hid (rw9F bx sb k j v m ab ao n cap wb wo wn wc rb ro rn rc s S0 S1 (upd d_ 11) x32 x33 x34 x35 x36 x37 x38 x39 x40 x41 (.pointer (some ⟨rb,ro + v * 2,none⟩)) (.agg #[.int .i64 s.lo,.int .i64 s.hi]) w1) := ⟨F.q1,F.q4,F.q5,F.q6,F.q7,F.q8,F.q10,fun _ => (show _ from (by simp [hdep] : d_ 10 = true)),fun h => ⟨(F.q12 h).1,(F.q12 h).2.1,(F.q12 h).2.2.1,(F.q12 h).2.2.2.1,(F.q12 h).2.2.2.2.1,(F.q12 h).2.2.2.2.2.1,(F.q12 h).2.2.2.2.2.2.1,(F.q12 h).2.2.2.2.2.2.2.1,(F.q12 h).2.2.2.2.2.2.2.2.1,(F.q12 h).2.2.2.2.2.2.2.2.2.1,(F.q12 h).2.2.2.2.2.2.2.2.2.2.1,rfl⟩,F.f0,F.f1,F.f2,F.f3,F.f4,F.f5,F.f6,F.f7,F.f8,F.f9,F.f10,fun _ => rfl,F.st0,F.st1⟩
      clear F
      go_simp
      exact HK.out _ _ ⟨_,_,_,_,_,_,_,_,_,_,_,_,rfl,HF.out⟩
    · have hS := F.st0  hd_
      obtain rfl := F.f11 (by simp [hdep])
      obtain ⟨⟨ku0,kcell0⟩,kfr0,⟨ku1,kcell1⟩,kfr1,hres⟩ := kc12.out w1 hS
      have HF : Hid (rw9F bx sb k j v m ab ao n cap wb wo wn wc rb ro rn rc s S0 S1 (upd d_ 12) x32 x33 x34 x35 x36 x37 x38 x39 x40 x41 x42 (.agg #[.int .i64 s.lo,.int .i64 s.hi]) ((w1.setCell ⟨sb,0,none⟩ (.int .i64 s.lo)).setCell ⟨sb,1,none⟩ (.int .i64 s.hi))) := ⟨F.q1,F.q4,F.q5,F.q6,F.q7,F.q8,F.q10,F.q11,fun _ => ⟨(show _ from (by simp [hdep] : d_ 0 = true)),(show _ from (by simp [hdep] : d_ 1 = true)),(show _ from (by simp [hdep] : d_ 2 = true)),(show _ from (by simp [hdep] : d_ 3 = true)),(show _ from (by simp [hdep] : d_ 4 = true)),(show _ from (by simp [hdep] : d_ 5 = true)),(show _ from (by simp [hdep] : d_ 6 = true)),(show _ from (by simp [hdep] : d_ 7 = true)),(show _ from (by simp [hdep] : d_ 8 = true)),(show _ from (by simp [hdep] : d_ 9 = true)),(show _ from (by simp [hdep] : d_ 10 = true)),(show _ from (by simp [hdep] : d_ 11 = true))⟩,F.f0,F.f1,F.f2,F.f3,F.f4,F.f5,F.f6,F.f7,F.f8,F.f9,F.f10,F.f11,fun h => (by simp [upd] at h),fun _ => hres⟩
      clear F hS hres
      go_simp
      exact HK.out _ _ ⟨_,_,_,_,_,_,_,_,_,_,_,_,rfl,HF.out⟩
  · rintro d_ a_ w1 hall ⟨x32,x33,x34,x35,x36,x37,x38,x39,x40,x41,x42,x43,rfl,F⟩
    have hall' : ∀ k,k < 13 → d_ k = true := hall
    obtain rfl := F.f0 (hall' 0 (by decide))
    obtain rfl := F.f1 (hall' 1 (by decide))
    obtain rfl := F.f2 (hall' 2 (by decide))
    obtain rfl := F.f3 (hall' 3 (by decide))
    obtain rfl := F.f4 (hall' 4 (by decide))
    obtain rfl := F.f5 (hall' 5 (by decide))
    obtain rfl := F.f6 (hall' 6 (by decide))
    obtain rfl := F.f7 (hall' 7 (by decide))
    obtain rfl := F.f8 (hall' 8 (by decide))
    obtain rfl := F.f9 (hall' 9 (by decide))
    obtain rfl := F.f10 (hall' 10 (by decide))
    obtain rfl := F.f11 (hall' 11 (by decide))
    have hst := F.st1 (hall' 12 (by decide))
    exact HQ.out  w1 hst

end Go.Proofs.Ytphefhpmbahagaa
