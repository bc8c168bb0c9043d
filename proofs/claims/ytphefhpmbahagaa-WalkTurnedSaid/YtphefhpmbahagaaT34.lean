/- All tours, one after the other: the closure's drawn regions. -/
import Derived.Test.YtphefhpmbahagaaT31
namespace Go.Proofs.Ytphefhpmbahagaa
open Go.RowKit
set_option linter.unusedVariables false
set_option linter.unusedSimpArgs false

structure leaf88F (av : Option Addr) (k : Nat) (cv : Nat) (yb : Nat) (l : Nat) (S0 : World → Prop) (S1 : Value → World → Prop) (S2 : Value → Bool → World → Prop) (d : Nat → Bool) (x14 x15 x16 x17 x5 : Value) (r : Bool) (w : World) : Prop where
  q2 : d 2 = true → d 1 = true
  q3 : d 3 = true → d 0 = true ∧ d 2 = true
  q4 : d 4 = true → d 0 = true ∧ d 1 = true ∧ d 2 = true ∧ d 3 = true
  f0 : d 0 = true → x14 = .func (.yield l) #[] #[]
  f1 : d 1 = true → x15 = .slice av k cv
  f3 : d 3 = true → x17 = .bool r
  f4 : d 4 = true → x5 = .bool r
  st0 : d 2 = false → S0 w
  st1 : d 2 = true → d 3 = false → S1 x16 w
  st2 : d 3 = true → S2 x16 r w
noncomputable def leaf88C : Code := (Try.f88.body.bind (regionAt 2)).getD .skip
set_option maxRecDepth 100000 in
set_option maxHeartbeats 4000000 in
theorem leaf88 {av : Option Addr} {k : Nat} {cv : Nat} {yb : Nat} {l : Nat} {S0 : World → Prop} {S1 : Value → World → Prop} {S2 : Value → Bool → World → Prop} {Q : Exit → Act → World → Prop} {W1 : World} (h0 : S0 W1.drew)
    (kl0 : Hid (∀ (x16 : Value) (w : World),(S0 w ∨ S1 x16 w) → w.cell? ⟨yb,0,none⟩ = some (.func (.yield l) #[] #[])))
    (kc2 : Hid (∀ (w : World),S0 w → Calls Try.prog 89 #[.slice av k cv] w fun e w' => ∃ x16 : Value,e = .returned (x16) ∧ S1 x16 w'))
    (kc3 : Hid (∀ (x16 : Value) (w : World),S1 x16 w → YieldAt Fence.wide 0 Try.prog l #[x16] w fun e w' => ∃ r : Bool,e = .returned (.bool r) ∧ S2 x16 r w'))
    {s1 s3 s4 s5 s6 s7 s8 s9 s10 s11 s12 s13 s14 s15 s16 s17 s18 s19 s20 s21 s22 s23 s24 s25 s26 s27 s28 s29 s30 s31 s32 s33 s34 s35 s36 s37 s38 : Value} {dd : List Deferred}
    (hQ : ∀ (x16 : Value) (r : Bool) (w' : World),S2 x16 r w' → Q .normal { tmps := #[.slice av k cv,s1,.pointer (some ⟨yb,0,none⟩),s3,s4,.bool r,s6,s7,s8,s9,s10,s11,s12,s13,.func (.yield l) #[] #[],.slice av k cv,x16,.bool r,s18,s19,s20,s21,s22,s23,s24,s25,s26,s27,s28,s29,s30,s31,s32,s33,s34,s35,s36,s37,s38],defers := dd } w') :
    Code.wpIn (wideAt none) 0 Try.prog leaf88C Q { tmps := #[.slice av k cv,s1,.pointer (some ⟨yb,0,none⟩),s3,s4,s5,s6,s7,s8,s9,s10,s11,s12,s13,s14,s15,s16,s17,s18,s19,s20,s21,s22,s23,s24,s25,s26,s27,s28,s29,s30,s31,s32,s33,s34,s35,s36,s37,s38],defers := dd } W1 := by
  have HQ := Lib.hid hQ
  clear hQ
  conv => arg 4; whnf
  refine wpIn_region_invG mixed (by kernel_rfl) (fun d_ a_ w' => ∃ (x14 : Value) (x15 : Value) (x16 : Value) (x17 : Value) (x5 : Value) (r : Bool),a_ = { tmps := #[.slice av k cv,s1,.pointer (some ⟨yb,0,none⟩),s3,s4,x5,s6,s7,s8,s9,s10,s11,s12,s13,x14,x15,x16,x17,s18,s19,s20,s21,s22,s23,s24,s25,s26,s27,s28,s29,s30,s31,s32,s33,s34,s35,s36,s37,s38],defers := dd } ∧ leaf88F av k cv yb l S0 S1 S2 d_ x14 x15 x16 x17 x5 r w') ?_ ?_ ?_
  · refine ⟨s14,s15,s16,s17,s5,false,rfl,?_⟩
    constructor <;> first | rfl | (intro _; rfl) | (intro h; cases h; done) | (intro _; exact h0) | exact h0
  · refine ⟨?_,?_,?_,?_,?_,trivial⟩
    all_goals
      rintro d_ a_ w1 K hd_ hdep ⟨x14,x15,x16,x17,x5,r,rfl,F⟩ HK
      simp [Region.binds] at hdep
    · have hst : S0 w1 ∨ S1 x16 w1 := by
        cases e1 : d_ 2 with
        | false => exact .inl ((F.st0 e1))
        | true =>
          have n_ : d_ 3 = false := by
            cases e_ : d_ 3 with
            | false => rfl
            | true => have h2 := (F.q3 e_).1; rw [show d_ 0 = false from hd_] at h2; cases h2
          exact .inr ((F.st1 e1 n_))
      have kk := kl0.out x16 w1 hst
      clear hst
      have HF : Hid (leaf88F av k cv yb l S0 S1 S2 (upd d_ 0) (.func (.yield l) #[] #[]) x15 x16 x17 x5 r w1) := ⟨F.q2,fun h => ⟨rfl,(F.q3 h).2⟩,fun h => ⟨rfl,(F.q4 h).2.1,(F.q4 h).2.2.1,(F.q4 h).2.2.2⟩,fun _ => rfl,F.f1,F.f3,F.f4,F.st0,F.st1,F.st2⟩
      clear F
      go_simp
      exact HK.out _ _ ⟨_,_,_,_,_,_,rfl,HF.out⟩
    · have HF : Hid (leaf88F av k cv yb l S0 S1 S2 (upd d_ 1) x14 (.slice av k cv) x16 x17 x5 r w1) := ⟨fun h => rfl,F.q3,fun h => ⟨(F.q4 h).1,rfl,(F.q4 h).2.2.1,(F.q4 h).2.2.2⟩,F.f0,fun _ => rfl,F.f3,F.f4,F.st0,F.st1,F.st2⟩
      clear F
      go_simp
      exact HK.out _ _ ⟨_,_,_,_,_,_,rfl,HF.out⟩
    · have hS := F.st0  hd_
      obtain rfl := F.f1 (by simp [hdep])
      have hc := kc2.out w1 hS
      have HF := Lib.hid F
      clear F
      go_simp
      refine ⟨trivial,rfl,wideAt_calls (hc.mono ?_)⟩
      rintro e w5 ⟨v_,rfl,hres⟩
      exact HK.out _ _ ⟨_,_,_,_,_,r,rfl,⟨fun _ => (show _ from (by simp [hdep] : d_ 1 = true)),fun h => ⟨(HF.out.q3 h).1,rfl⟩,fun h => ⟨(HF.out.q4 h).1,(HF.out.q4 h).2.1,rfl,(HF.out.q4 h).2.2.2⟩,HF.out.f0,HF.out.f1,HF.out.f3,HF.out.f4,fun h => (by simp [upd] at h),fun _ _ => hres,fun h => (by have h2 : d_ 2 = true := (HF.out.q3 h).2; rw [show d_ 2 = false from hd_] at h2; cases h2)⟩⟩
    · have hS := F.st1 (by simp [hdep] : d_ 2 = true) hd_
      obtain rfl := F.f0 (by simp [hdep])
      obtain ⟨fn,tmps,assign,body,hy,hR⟩ := kc3.out x16 w1 hS
      have HR := Lib.hid hR
      have HF := Lib.hid F
      clear F hR
      go_simp
      refine ⟨rfl,HR.out.mono ?_⟩
      rintro e w5 ⟨v_,rfl,hres⟩
      exact HK.out _ _ ⟨_,_,_,_,_,v_,rfl,⟨HF.out.q2,fun _ => ⟨(show _ from (by simp [hdep] : d_ 0 = true)),(show _ from (by simp [hdep] : d_ 2 = true))⟩,fun h => ⟨(HF.out.q4 h).1,(HF.out.q4 h).2.1,(HF.out.q4 h).2.2.1,rfl⟩,HF.out.f0,HF.out.f1,fun _ => rfl,fun h => (by have h2 : d_ 3 = true := (HF.out.q4 h).2.2.2; rw [show d_ 3 = false from hd_] at h2; cases h2),fun h => (by have h2 : d_ 2 = false := h; rw [(by simp [hdep] : d_ 2 = true)] at h2; cases h2),fun _ h => (by simp [upd] at h),fun _ => hres⟩⟩
    · obtain rfl := F.f3 (by simp [hdep])
      have HF : Hid (leaf88F av k cv yb l S0 S1 S2 (upd d_ 4) x14 x15 x16 (.bool r) (.bool r) r w1) := ⟨F.q2,F.q3,fun _ => ⟨(show _ from (by simp [hdep] : d_ 0 = true)),(show _ from (by simp [hdep] : d_ 1 = true)),(show _ from (by simp [hdep] : d_ 2 = true)),(show _ from (by simp [hdep] : d_ 3 = true))⟩,F.f0,F.f1,F.f3,fun _ => rfl,F.st0,F.st1,F.st2⟩
      clear F
      go_simp
      exact HK.out _ _ ⟨_,_,_,_,_,_,rfl,HF.out⟩
  · rintro d_ a_ w1 hall ⟨x14,x15,x16,x17,x5,r,rfl,F⟩
    have hall' : ∀ k,k < 5 → d_ k = true := hall
    obtain rfl := F.f0 (hall' 0 (by decide))
    obtain rfl := F.f1 (hall' 1 (by decide))
    obtain rfl := F.f3 (hall' 3 (by decide))
    obtain rfl := F.f4 (hall' 4 (by decide))
    have hst := F.st2 (hall' 3 (by decide))
    exact HQ.out x16 r w1 hst
structure skip88F (av : Option Addr) (k : Nat) (cv : Nat) (pb : Nat) (yb : Nat) (ob : Nat) (f : Int) (S0 : World → Prop) (S1 : Unit → World → Prop) (d : Nat → Bool) (x25 x26 x27 x28 x29 x30 x31 x32 x33 x34 x35 x36 x37 : Value) (u : Unit) (w : World) : Prop where
  q2 : d 2 = true → d 0 = true ∧ d 1 = true
  q3 : d 3 = true → d 2 = true
  q4 : d 4 = true → d 2 = true ∧ d 3 = true
  q5 : d 5 = true → d 4 = true
  q6 : d 6 = true → d 4 = true
  q7 : d 7 = true → d 4 = true
  q8 : d 8 = true → d 4 = true ∧ d 7 = true
  q9 : d 9 = true → d 4 = true ∧ d 6 = true ∧ d 8 = true
  q10 : d 10 = true → d 4 = true ∧ d 5 = true ∧ d 9 = true
  q11 : d 11 = true → d 4 = true ∧ d 10 = true
  q12 : d 12 = true → d 4 = true ∧ d 11 = true
  f0 : d 0 = true → x25 = .slice av k cv
  f1 : d 1 = true → x26 = .int .i64 f
  f2 : d 2 = true → x27 = .bool true
  f3 : d 3 = true → x28 = .bool false
  f4 : d 4 = true → x29 = .bool false
  f5 : d 5 = true → x30 = undef
  f6 : d 6 = true → x31 = undef
  f7 : d 7 = true → x32 = undef
  f8 : d 8 = true → x33 = undef
  f9 : d 9 = true → x34 = undef
  f10 : d 10 = true → x35 = undef
  f11 : d 11 = true → x36 = undef
  f12 : d 12 = true → x37 = .bool false
  st0 : d 2 = false → S0 w
  st1 : d 2 = true → S1 u w
noncomputable def skip88C : Code := (Try.f88.body.bind (regionAt 6)).getD .skip
set_option maxRecDepth 100000 in
set_option maxHeartbeats 4000000 in
theorem skip88 {av : Option Addr} {k : Nat} {cv : Nat} {pb : Nat} {yb : Nat} {ob : Nat} {f : Int} {S0 : World → Prop} {S1 : Unit → World → Prop} {Q : Exit → Act → World → Prop} {W1 : World} (h0 : S0 W1.drew)
    (kc2 : Hid (∀ (w : World),S0 w → Calls Try.prog 90 #[.slice av k cv,.int .i64 f] w fun e w' => ∃ u : Unit,e = .returned (.bool true) ∧ S1 u w'))
    {s1 s2 s4 s5 s7 s8 s9 s10 s11 s12 s13 s14 s15 s16 s17 s18 s19 s20 s21 s22 s23 s24 s25 s26 s27 s28 s29 s30 s31 s32 s33 s34 s35 s36 s37 s38 : Value} {dd : List Deferred}
    (hQ : ∀ (u : Unit) (w' : World),S1 u w' → Q .normal { tmps := #[.slice av k cv,s1,s2,.pointer (some ⟨ob,0,none⟩),s4,s5,.int .i64 f,s7,s8,s9,s10,s11,s12,s13,s14,s15,s16,s17,s18,s19,s20,s21,s22,s23,s24,.slice av k cv,.int .i64 f,.bool true,.bool false,.bool false,undef,undef,undef,undef,undef,undef,undef,.bool false,s38],defers := dd } w') :
    Code.wpIn (wideAt none) 0 Try.prog skip88C Q { tmps := #[.slice av k cv,s1,s2,.pointer (some ⟨ob,0,none⟩),s4,s5,.int .i64 f,s7,s8,s9,s10,s11,s12,s13,s14,s15,s16,s17,s18,s19,s20,s21,s22,s23,s24,s25,s26,s27,s28,s29,s30,s31,s32,s33,s34,s35,s36,s37,s38],defers := dd } W1 := by
  have HQ := Lib.hid hQ
  clear hQ
  conv => arg 4; whnf
  refine wpIn_region_invG mixed (by kernel_rfl) (fun d_ a_ w' => ∃ (x25 : Value) (x26 : Value) (x27 : Value) (x28 : Value) (x29 : Value) (x30 : Value) (x31 : Value) (x32 : Value) (x33 : Value) (x34 : Value) (x35 : Value) (x36 : Value) (x37 : Value) (u : Unit),a_ = { tmps := #[.slice av k cv,s1,s2,.pointer (some ⟨ob,0,none⟩),s4,s5,.int .i64 f,s7,s8,s9,s10,s11,s12,s13,s14,s15,s16,s17,s18,s19,s20,s21,s22,s23,s24,x25,x26,x27,x28,x29,x30,x31,x32,x33,x34,x35,x36,x37,s38],defers := dd } ∧ skip88F av k cv pb yb ob f S0 S1 d_ x25 x26 x27 x28 x29 x30 x31 x32 x33 x34 x35 x36 x37 u w') ?_ ?_ ?_
  · refine ⟨s25,s26,s27,s28,s29,s30,s31,s32,s33,s34,s35,s36,s37,default,rfl,?_⟩
    constructor <;> first | rfl | (intro _; rfl) | (intro h; cases h; done) | (intro _; exact h0) | exact h0
  · refine ⟨?_,?_,?_,?_,?_,?_,?_,?_,?_,?_,?_,?_,?_,trivial⟩
    all_goals
      rintro d_ a_ w1 K hd_ hdep ⟨x25,x26,x27,x28,x29,x30,x31,x32,x33,x34,x35,x36,x37,u,rfl,F⟩ HK
      simp [Region.binds] at hdep
    · have HF : Hid (skip88F av k cv pb yb ob f S0 S1 (upd d_ 0) (.slice av k cv) x26 x27 x28 x29 x30 x31 x32 x33 x34 x35 x36 x37 u w1) := ⟨fun h => ⟨rfl,(F.q2 h).2⟩,F.q3,F.q4,F.q5,F.q6,F.q7,F.q8,F.q9,F.q10,F.q11,F.q12,fun _ => rfl,F.f1,F.f2,F.f3,F.f4,F.f5,F.f6,F.f7,F.f8,F.f9,F.f10,F.f11,F.f12,F.st0,F.st1⟩
      clear F
      go_simp
      exact HK.out _ _ ⟨_,_,_,_,_,_,_,_,_,_,_,_,_,_,rfl,HF.out⟩
    · have HF : Hid (skip88F av k cv pb yb ob f S0 S1 (upd d_ 1) x25 (.int .i64 f) x27 x28 x29 x30 x31 x32 x33 x34 x35 x36 x37 u w1) := ⟨fun h => ⟨(F.q2 h).1,rfl⟩,F.q3,F.q4,F.q5,F.q6,F.q7,F.q8,F.q9,F.q10,F.q11,F.q12,F.f0,fun _ => rfl,F.f2,F.f3,F.f4,F.f5,F.f6,F.f7,F.f8,F.f9,F.f10,F.f11,F.f12,F.st0,F.st1⟩
      clear F
      go_simp
      exact HK.out _ _ ⟨_,_,_,_,_,_,_,_,_,_,_,_,_,_,rfl,HF.out⟩
    · have hS := F.st0  hd_
      obtain rfl := F.f0 (by simp [hdep])
      obtain rfl := F.f1 (by simp [hdep])
      have hc := kc2.out w1 hS
      have HF := Lib.hid F
      clear F
      go_simp
      refine ⟨trivial,rfl,wideAt_calls (hc.mono ?_)⟩
      rintro e w5 ⟨v_,rfl,hres⟩
      exact HK.out _ _ ⟨_,_,_,_,_,_,_,_,_,_,_,_,_,v_,rfl,⟨fun _ => ⟨(show _ from (by simp [hdep] : d_ 0 = true)),(show _ from (by simp [hdep] : d_ 1 = true))⟩,fun h => rfl,fun h => ⟨rfl,(HF.out.q4 h).2⟩,HF.out.q5,HF.out.q6,HF.out.q7,HF.out.q8,HF.out.q9,HF.out.q10,HF.out.q11,HF.out.q12,HF.out.f0,HF.out.f1,fun _ => rfl,HF.out.f3,HF.out.f4,HF.out.f5,HF.out.f6,HF.out.f7,HF.out.f8,HF.out.f9,HF.out.f10,HF.out.f11,HF.out.f12,fun h => (by simp [upd] at h),fun _ => hres⟩⟩
    · obtain rfl := F.f2 (by simp [hdep])
      have HF : Hid (skip88F av k cv pb yb ob f S0 S1 (upd d_ 3) x25 x26 (.bool true) (.bool false) x29 x30 x31 x32 x33 x34 x35 x36 x37 u w1) := ⟨F.q2,fun _ => (show _ from (by simp [hdep] : d_ 2 = true)),fun h => ⟨(F.q4 h).1,rfl⟩,F.q5,F.q6,F.q7,F.q8,F.q9,F.q10,F.q11,F.q12,F.f0,F.f1,F.f2,fun _ => rfl,F.f4,F.f5,F.f6,F.f7,F.f8,F.f9,F.f10,F.f11,F.f12,F.st0,F.st1⟩
      clear F
      go_simp
      exact HK.out _ _ ⟨_,_,_,_,_,_,_,_,_,_,_,_,_,_,rfl,HF.out⟩
    · obtain rfl := F.f3 (by simp [hdep])
      have HF : Hid (skip88F av k cv pb yb ob f S0 S1 (upd d_ 4) x25 x26 x27 (.bool false) (.bool false) x30 x31 x32 x33 x34 x35 x36 x37 u w1) := ⟨F.q2,F.q3,fun _ => ⟨(show _ from (by simp [hdep] : d_ 2 = true)),(show _ from (by simp [hdep] : d_ 3 = true))⟩,fun h => rfl,fun h => rfl,fun h => rfl,fun h => ⟨rfl,(F.q8 h).2⟩,fun h => ⟨rfl,(F.q9 h).2.1,(F.q9 h).2.2⟩,fun h => ⟨rfl,(F.q10 h).2.1,(F.q10 h).2.2⟩,fun h => ⟨rfl,(F.q11 h).2⟩,fun h => ⟨rfl,(F.q12 h).2⟩,F.f0,F.f1,F.f2,F.f3,fun _ => rfl,F.f5,F.f6,F.f7,F.f8,F.f9,F.f10,F.f11,F.f12,F.st0,F.st1⟩
      clear F
      go_simp
      exact HK.out _ _ ⟨_,_,_,_,_,_,_,_,_,_,_,_,_,_,rfl,HF.out⟩
    · obtain rfl := F.f4 (by simp [hdep])
      have HF : Hid (skip88F av k cv pb yb ob f S0 S1 (upd d_ 5) x25 x26 x27 x28 (.bool false) (undef) x31 x32 x33 x34 x35 x36 x37 u w1) := ⟨F.q2,F.q3,F.q4,fun _ => (show _ from (by simp [hdep] : d_ 4 = true)),F.q6,F.q7,F.q8,F.q9,fun h => ⟨(F.q10 h).1,rfl,(F.q10 h).2.2⟩,F.q11,F.q12,F.f0,F.f1,F.f2,F.f3,F.f4,fun _ => rfl,F.f6,F.f7,F.f8,F.f9,F.f10,F.f11,F.f12,F.st0,F.st1⟩
      clear F
      go_simp
      exact HK.out _ _ ⟨_,_,_,_,_,_,_,_,_,_,_,_,_,_,rfl,HF.out⟩
    · obtain rfl := F.f4 (by simp [hdep])
      have HF : Hid (skip88F av k cv pb yb ob f S0 S1 (upd d_ 6) x25 x26 x27 x28 (.bool false) x30 (undef) x32 x33 x34 x35 x36 x37 u w1) := ⟨F.q2,F.q3,F.q4,F.q5,fun _ => (show _ from (by simp [hdep] : d_ 4 = true)),F.q7,F.q8,fun h => ⟨(F.q9 h).1,rfl,(F.q9 h).2.2⟩,F.q10,F.q11,F.q12,F.f0,F.f1,F.f2,F.f3,F.f4,F.f5,fun _ => rfl,F.f7,F.f8,F.f9,F.f10,F.f11,F.f12,F.st0,F.st1⟩
      clear F
      go_simp
      exact HK.out _ _ ⟨_,_,_,_,_,_,_,_,_,_,_,_,_,_,rfl,HF.out⟩
    · obtain rfl := F.f4 (by simp [hdep])
      have HF : Hid (skip88F av k cv pb yb ob f S0 S1 (upd d_ 7) x25 x26 x27 x28 (.bool false) x30 x31 (undef) x33 x34 x35 x36 x37 u w1) := ⟨F.q2,F.q3,F.q4,F.q5,F.q6,fun _ => (show _ from (by simp [hdep] : d_ 4 = true)),fun h => ⟨(F.q8 h).1,rfl⟩,F.q9,F.q10,F.q11,F.q12,F.f0,F.f1,F.f2,F.f3,F.f4,F.f5,F.f6,fun _ => rfl,F.f8,F.f9,F.f10,F.f11,F.f12,F.st0,F.st1⟩
      clear F
      go_simp
      exact HK.out _ _ ⟨_,_,_,_,_,_,_,_,_,_,_,_,_,_,rfl,HF.out⟩
    · obtain rfl := F.f4 (by simp [hdep])
      obtain rfl := F.f7 (by simp [hdep])
      have HF : Hid (skip88F av k cv pb yb ob f S0 S1 (upd d_ 8) x25 x26 x27 x28 (.bool false) x30 x31 (undef) (undef) x34 x35 x36 x37 u w1) := ⟨F.q2,F.q3,F.q4,F.q5,F.q6,F.q7,fun _ => ⟨(show _ from (by simp [hdep] : d_ 4 = true)),(show _ from (by simp [hdep] : d_ 7 = true))⟩,fun h => ⟨(F.q9 h).1,(F.q9 h).2.1,rfl⟩,F.q10,F.q11,F.q12,F.f0,F.f1,F.f2,F.f3,F.f4,F.f5,F.f6,F.f7,fun _ => rfl,F.f9,F.f10,F.f11,F.f12,F.st0,F.st1⟩
      clear F
      go_simp
      exact HK.out _ _ ⟨_,_,_,_,_,_,_,_,_,_,_,_,_,_,rfl,HF.out⟩
    · obtain rfl := F.f4 (by simp [hdep])
      obtain rfl := F.f6 (by simp [hdep])
      obtain rfl := F.f8 (by simp [hdep])
      have HF : Hid (skip88F av k cv pb yb ob f S0 S1 (upd d_ 9) x25 x26 x27 x28 (.bool false) x30 (undef) x32 (undef) (undef) x35 x36 x37 u w1) := ⟨F.q2,F.q3,F.q4,F.q5,F.q6,F.q7,F.q8,fun _ => ⟨(show _ from (by simp [hdep] : d_ 4 = true)),(show _ from (by simp [hdep] : d_ 6 = true)),(show _ from (by simp [hdep] : d_ 8 = true))⟩,fun h => ⟨(F.q10 h).1,(F.q10 h).2.1,rfl⟩,F.q11,F.q12,F.f0,F.f1,F.f2,F.f3,F.f4,F.f5,F.f6,F.f7,F.f8,fun _ => rfl,F.f10,F.f11,F.f12,F.st0,F.st1⟩
      clear F
      go_simp
      exact HK.out _ _ ⟨_,_,_,_,_,_,_,_,_,_,_,_,_,_,rfl,HF.out⟩
    · obtain rfl := F.f4 (by simp [hdep])
      obtain rfl := F.f5 (by simp [hdep])
      obtain rfl := F.f9 (by simp [hdep])
      have HF : Hid (skip88F av k cv pb yb ob f S0 S1 (upd d_ 10) x25 x26 x27 x28 (.bool false) (undef) x31 x32 x33 (undef) (undef) x36 x37 u w1) := ⟨F.q2,F.q3,F.q4,F.q5,F.q6,F.q7,F.q8,F.q9,fun _ => ⟨(show _ from (by simp [hdep] : d_ 4 = true)),(show _ from (by simp [hdep] : d_ 5 = true)),(show _ from (by simp [hdep] : d_ 9 = true))⟩,fun h => ⟨(F.q11 h).1,rfl⟩,F.q12,F.f0,F.f1,F.f2,F.f3,F.f4,F.f5,F.f6,F.f7,F.f8,F.f9,fun _ => rfl,F.f11,F.f12,F.st0,F.st1⟩
      clear F
      go_simp
      exact HK.out _ _ ⟨_,_,_,_,_,_,_,_,_,_,_,_,_,_,rfl,HF.out⟩
    · obtain rfl := F.f4 (by simp [hdep])
      obtain rfl := F.f10 (by simp [hdep])
      have HF : Hid (skip88F av k cv pb yb ob f S0 S1 (upd d_ 11) x25 x26 x27 x28 (.bool false) x30 x31 x32 x33 x34 (undef) (undef) x37 u w1) := ⟨F.q2,F.q3,F.q4,F.q5,F.q6,F.q7,F.q8,F.q9,F.q10,fun _ => ⟨(show _ from (by simp [hdep] : d_ 4 = true)),(show _ from (by simp [hdep] : d_ 10 = true))⟩,fun h => ⟨(F.q12 h).1,rfl⟩,F.f0,F.f1,F.f2,F.f3,F.f4,F.f5,F.f6,F.f7,F.f8,F.f9,F.f10,fun _ => rfl,F.f12,F.st0,F.st1⟩
      clear F
      go_simp
      exact HK.out _ _ ⟨_,_,_,_,_,_,_,_,_,_,_,_,_,_,rfl,HF.out⟩
    · obtain rfl := F.f4 (by simp [hdep])
      obtain rfl := F.f11 (by simp [hdep])
      have HF : Hid (skip88F av k cv pb yb ob f S0 S1 (upd d_ 12) x25 x26 x27 x28 (.bool false) x30 x31 x32 x33 x34 x35 (undef) (.bool false) u w1) := ⟨F.q2,F.q3,F.q4,F.q5,F.q6,F.q7,F.q8,F.q9,F.q10,F.q11,fun _ => ⟨(show _ from (by simp [hdep] : d_ 4 = true)),(show _ from (by simp [hdep] : d_ 11 = true))⟩,F.f0,F.f1,F.f2,F.f3,F.f4,F.f5,F.f6,F.f7,F.f8,F.f9,F.f10,F.f11,fun _ => rfl,F.st0,F.st1⟩
      clear F
      go_simp
      exact HK.out _ _ ⟨_,_,_,_,_,_,_,_,_,_,_,_,_,_,rfl,HF.out⟩
  · rintro d_ a_ w1 hall ⟨x25,x26,x27,x28,x29,x30,x31,x32,x33,x34,x35,x36,x37,u,rfl,F⟩
    have hall' : ∀ k,k < 13 → d_ k = true := hall
    obtain rfl := F.f0 (hall' 0 (by decide))
    obtain rfl := F.f1 (hall' 1 (by decide))
    obtain rfl := F.f2 (hall' 2 (by decide))
    obtain rfl := F.f3 (hall' 3 (by decide))
    obtain rfl := F.f4 (hall' 4 (by decide))
    obtain rfl := F.f5 (hall' 5 (by decide))
    obtain rfl := F.f6 (hall' 6 (by decide))
    obtain rfl := F.f7 (hall' 7 (by decide))
    obtain rfl := F.f8 (hall' 8 (by decide))
    obtain rfl := F.f9 (hall' 9 (by decide))
    obtain rfl := F.f10 (hall' 10 (by decide))
    obtain rfl := F.f11 (hall' 11 (by decide))
    obtain rfl := F.f12 (hall' 12 (by decide))
    have hst := F.st1 (hall' 2 (by decide))
    exact HQ.out u w1 hst
structure more88F (av : Option Addr) (k : Nat) (cv : Nat) (pb : Nat) (yb : Nat) (ob : Nat) (f : Int) (S0 : World → Prop) (S1 : Unit → World → Prop) (S2 : Unit → Value → World → Prop) (S3 : Unit → Value → Value → World → Prop) (S4 : Unit → Value → Value → Bool → World → Prop) (d : Nat → Bool) (x25 x26 x27 x28 x29 x30 x31 x32 x33 x34 x35 x36 x37 : Value) (u : Unit) (r : Bool) (w : World) : Prop where
  q2 : d 2 = true → d 0 = true ∧ d 1 = true
  q3 : d 3 = true → d 2 = true
  q4 : d 4 = true → d 2 = true ∧ d 3 = true
  q5 : d 5 = true → d 4 = true
  q6 : d 6 = true → d 4 = true
  q7 : d 7 = true → d 4 = true
  q8 : d 8 = true → d 4 = true ∧ d 7 = true
  q9 : d 9 = true → d 4 = true ∧ d 6 = true ∧ d 8 = true
  q10 : d 10 = true → d 4 = true ∧ d 5 = true ∧ d 9 = true
  q11 : d 11 = true → d 4 = true ∧ d 10 = true
  q12 : d 12 = true → d 4 = true ∧ d 11 = true
  f0 : d 0 = true → x25 = .slice av k cv
  f1 : d 1 = true → x26 = .int .i64 f
  f2 : d 2 = true → x27 = .bool false
  f3 : d 3 = true → x28 = .bool true
  f4 : d 4 = true → x29 = .bool true
  f5 : d 5 = true → x30 = .func (.func 88) #[] #[.pointer (some ⟨pb,0,none⟩),.pointer (some ⟨yb,0,none⟩),.pointer (some ⟨ob,0,none⟩)]
  f6 : d 6 = true → x31 = .slice av k cv
  f7 : d 7 = true → x32 = .int .i64 f
  f10 : d 10 = true → x35 = .bool r
  f11 : d 11 = true → x36 = .bool (!r)
  f12 : d 12 = true → x37 = .bool (!r)
  st0 : d 2 = false → S0 w
  st1 : d 2 = true → d 8 = false → S1 u w
  st2 : d 8 = true → d 9 = false → S2 u x33 w
  st3 : d 9 = true → d 10 = false → S3 u x33 x34 w
  st4 : d 10 = true → S4 u x33 x34 r w
set_option maxRecDepth 100000 in
set_option maxHeartbeats 4000000 in
theorem more88 {av : Option Addr} {k : Nat} {cv : Nat} {pb : Nat} {yb : Nat} {ob : Nat} {f : Int} {S0 : World → Prop} {S1 : Unit → World → Prop} {S2 : Unit → Value → World → Prop} {S3 : Unit → Value → Value → World → Prop} {S4 : Unit → Value → Value → Bool → World → Prop} {Q : Exit → Act → World → Prop} {W1 : World} (h0 : S0 W1.drew)
    (kc2 : Hid (∀ (w : World),S0 w → Calls Try.prog 90 #[.slice av k cv,.int .i64 f] w fun e w' => ∃ u : Unit,e = .returned (.bool false) ∧ S1 u w'))
    (kl5 : Hid (∀ (u : Unit) (x33 : Value) (x34 : Value) (w : World),(S1 u w ∨ S2 u x33 w ∨ S3 u x33 x34 w) → w.cell? ⟨ob,0,none⟩ = some (.func (.func 88) #[] #[.pointer (some ⟨pb,0,none⟩),.pointer (some ⟨yb,0,none⟩),.pointer (some ⟨ob,0,none⟩)])))
    (kc8 : Hid (∀ (u : Unit) (w : World),S1 u w → S2 u (.slice (some ⟨w.heap.size,0,none⟩) 1 1) (w.alloc (.cells #[.int .i64 f] 3))))
    (kc9 : Hid (∀ (u : Unit) (x33 : Value) (w : World),S2 u x33 w → ∃ (x34 : Value) (w' : World),(Builtin.append_ #[26,26] 26 #[.slice av k cv,x33]).run Try.prog w = .ok (x34) w' ∧ S3 u x33 x34 w'))
    (kc10 : Hid (∀ (u : Unit) (x33 : Value) (x34 : Value) (w : World),S3 u x33 x34 w → CallsIn Fence.wide 0 Try.prog 88 #[x34,.pointer (some ⟨pb,0,none⟩),.pointer (some ⟨yb,0,none⟩),.pointer (some ⟨ob,0,none⟩)] w fun e w' => ∃ r : Bool,e = .returned (.bool r) ∧ S4 u x33 x34 r w'))
    {s1 s2 s4 s5 s7 s8 s9 s10 s11 s12 s13 s14 s15 s16 s17 s18 s19 s20 s21 s22 s23 s24 s25 s26 s27 s28 s29 s30 s31 s32 s33 s34 s35 s36 s37 s38 : Value} {dd : List Deferred}
    (hQ : ∀ (u : Unit) (x33 : Value) (x34 : Value) (r : Bool) (w' : World),S4 u x33 x34 r w' → Q .normal { tmps := #[.slice av k cv,s1,s2,.pointer (some ⟨ob,0,none⟩),s4,s5,.int .i64 f,s7,s8,s9,s10,s11,s12,s13,s14,s15,s16,s17,s18,s19,s20,s21,s22,s23,s24,.slice av k cv,.int .i64 f,.bool false,.bool true,.bool true,.func (.func 88) #[] #[.pointer (some ⟨pb,0,none⟩),.pointer (some ⟨yb,0,none⟩),.pointer (some ⟨ob,0,none⟩)],.slice av k cv,.int .i64 f,x33,x34,.bool r,.bool (!r),.bool (!r),s38],defers := dd } w') :
    Code.wpIn (wideAt none) 0 Try.prog skip88C Q { tmps := #[.slice av k cv,s1,s2,.pointer (some ⟨ob,0,none⟩),s4,s5,.int .i64 f,s7,s8,s9,s10,s11,s12,s13,s14,s15,s16,s17,s18,s19,s20,s21,s22,s23,s24,s25,s26,s27,s28,s29,s30,s31,s32,s33,s34,s35,s36,s37,s38],defers := dd } W1 := by
  have HQ := Lib.hid hQ
  clear hQ
  conv => arg 4; whnf
  refine wpIn_region_invG mixed (by kernel_rfl) (fun d_ a_ w' => ∃ (x25 : Value) (x26 : Value) (x27 : Value) (x28 : Value) (x29 : Value) (x30 : Value) (x31 : Value) (x32 : Value) (x33 : Value) (x34 : Value) (x35 : Value) (x36 : Value) (x37 : Value) (u : Unit) (r : Bool),a_ = { tmps := #[.slice av k cv,s1,s2,.pointer (some ⟨ob,0,none⟩),s4,s5,.int .i64 f,s7,s8,s9,s10,s11,s12,s13,s14,s15,s16,s17,s18,s19,s20,s21,s22,s23,s24,x25,x26,x27,x28,x29,x30,x31,x32,x33,x34,x35,x36,x37,s38],defers := dd } ∧ more88F av k cv pb yb ob f S0 S1 S2 S3 S4 d_ x25 x26 x27 x28 x29 x30 x31 x32 x33 x34 x35 x36 x37 u r w') ?_ ?_ ?_
  · refine ⟨s25,s26,s27,s28,s29,s30,s31,s32,s33,s34,s35,s36,s37,default,false,rfl,?_⟩
    constructor <;> first | rfl | (intro _; rfl) | (intro h; cases h; done) | (intro _; exact h0) | exact h0
  · refine ⟨?_,?_,?_,?_,?_,?_,?_,?_,?_,?_,?_,?_,?_,trivial⟩
    all_goals
      rintro d_ a_ w1 K hd_ hdep ⟨x25,x26,x27,x28,x29,x30,x31,x32,x33,x34,x35,x36,x37,u,r,rfl,F⟩ HK
      simp [Region.binds] at hdep
    · have HF : Hid (more88F av k cv pb yb ob f S0 S1 S2 S3 S4 (upd d_ 0) (.slice av k cv) x26 x27 x28 x29 x30 x31 x32 x33 x34 x35 x36 x37 u r w1) := ⟨fun h => ⟨rfl,(F.q2 h).2⟩,F.q3,F.q4,F.q5,F.q6,F.q7,F.q8,F.q9,F.q10,F.q11,F.q12,fun _ => rfl,F.f1,F.f2,F.f3,F.f4,F.f5,F.f6,F.f7,F.f10,F.f11,F.f12,F.st0,F.st1,F.st2,F.st3,F.st4⟩
      clear F
      go_simp
      exact HK.out _ _ ⟨_,_,_,_,_,_,_,_,_,_,_,_,_,_,_,rfl,HF.out⟩
    · have HF : Hid (more88F av k cv pb yb ob f S0 S1 S2 S3 S4 (upd d_ 1) x25 (.int .i64 f) x27 x28 x29 x30 x31 x32 x33 x34 x35 x36 x37 u r w1) := ⟨fun h => ⟨(F.q2 h).1,rfl⟩,F.q3,F.q4,F.q5,F.q6,F.q7,F.q8,F.q9,F.q10,F.q11,F.q12,F.f0,fun _ => rfl,F.f2,F.f3,F.f4,F.f5,F.f6,F.f7,F.f10,F.f11,F.f12,F.st0,F.st1,F.st2,F.st3,F.st4⟩
      clear F
      go_simp
      exact HK.out _ _ ⟨_,_,_,_,_,_,_,_,_,_,_,_,_,_,_,rfl,HF.out⟩
    · have hS := F.st0  hd_
      obtain rfl := F.f0 (by simp [hdep])
      obtain rfl := F.f1 (by simp [hdep])
      have hc := kc2.out w1 hS
      have HF := Lib.hid F
      clear F
      go_simp
      refine ⟨trivial,rfl,wideAt_calls (hc.mono ?_)⟩
      rintro e w5 ⟨v_,rfl,hres⟩
      exact HK.out _ _ ⟨_,_,_,_,_,_,_,_,_,_,_,_,_,v_,r,rfl,⟨fun _ => ⟨(show _ from (by simp [hdep] : d_ 0 = true)),(show _ from (by simp [hdep] : d_ 1 = true))⟩,fun h => rfl,fun h => ⟨rfl,(HF.out.q4 h).2⟩,HF.out.q5,HF.out.q6,HF.out.q7,HF.out.q8,HF.out.q9,HF.out.q10,HF.out.q11,HF.out.q12,HF.out.f0,HF.out.f1,fun _ => rfl,HF.out.f3,HF.out.f4,HF.out.f5,HF.out.f6,HF.out.f7,HF.out.f10,HF.out.f11,HF.out.f12,fun h => (by simp [upd] at h),fun _ _ => hres,fun h _ => (by have h2 : d_ 2 = true := (HF.out.q4 (HF.out.q8 h).1).1; rw [show d_ 2 = false from hd_] at h2; cases h2),fun h _ => (by have h2 : d_ 2 = true := (HF.out.q4 (HF.out.q9 h).1).1; rw [show d_ 2 = false from hd_] at h2; cases h2),fun h => (by have h2 : d_ 2 = true := (HF.out.q4 (HF.out.q10 h).1).1; rw [show d_ 2 = false from hd_] at h2; cases h2)⟩⟩
    · obtain rfl := F.f2 (by simp [hdep])
      have HF : Hid (more88F av k cv pb yb ob f S0 S1 S2 S3 S4 (upd d_ 3) x25 x26 (.bool false) (.bool true) x29 x30 x31 x32 x33 x34 x35 x36 x37 u r w1) := ⟨F.q2,fun _ => (show _ from (by simp [hdep] : d_ 2 = true)),fun h => ⟨(F.q4 h).1,rfl⟩,F.q5,F.q6,F.q7,F.q8,F.q9,F.q10,F.q11,F.q12,F.f0,F.f1,F.f2,fun _ => rfl,F.f4,F.f5,F.f6,F.f7,F.f10,F.f11,F.f12,F.st0,F.st1,F.st2,F.st3,F.st4⟩
      clear F
      go_simp
      exact HK.out _ _ ⟨_,_,_,_,_,_,_,_,_,_,_,_,_,_,_,rfl,HF.out⟩
    · obtain rfl := F.f3 (by simp [hdep])
      have HF : Hid (more88F av k cv pb yb ob f S0 S1 S2 S3 S4 (upd d_ 4) x25 x26 x27 (.bool true) (.bool true) x30 x31 x32 x33 x34 x35 x36 x37 u r w1) := ⟨F.q2,F.q3,fun _ => ⟨(show _ from (by simp [hdep] : d_ 2 = true)),(show _ from (by simp [hdep] : d_ 3 = true))⟩,fun h => rfl,fun h => rfl,fun h => rfl,fun h => ⟨rfl,(F.q8 h).2⟩,fun h => ⟨rfl,(F.q9 h).2.1,(F.q9 h).2.2⟩,fun h => ⟨rfl,(F.q10 h).2.1,(F.q10 h).2.2⟩,fun h => ⟨rfl,(F.q11 h).2⟩,fun h => ⟨rfl,(F.q12 h).2⟩,F.f0,F.f1,F.f2,F.f3,fun _ => rfl,F.f5,F.f6,F.f7,F.f10,F.f11,F.f12,F.st0,F.st1,F.st2,F.st3,F.st4⟩
      clear F
      go_simp
      exact HK.out _ _ ⟨_,_,_,_,_,_,_,_,_,_,_,_,_,_,_,rfl,HF.out⟩
    · have hst : S1 u w1 ∨ S2 u x33 w1 ∨ S3 u x33 x34 w1 := by
        cases e2 : d_ 8 with
        | false => exact .inl ((F.st1 (F.q4 (by simp [hdep] : d_ 4 = true)).1 e2))
        | true =>
          cases e3 : d_ 9 with
          | false => exact .inr (.inl ((F.st2 e2 e3)))
          | true =>
            have n_ : d_ 10 = false := by
              cases e_ : d_ 10 with
              | false => rfl
              | true => have h2 := (F.q10 e_).2.1; rw [show d_ 5 = false from hd_] at h2; cases h2
            exact .inr (.inr ((F.st3 e3 n_)))
      have kk := kl5.out u x33 x34 w1 hst
      clear hst
      obtain rfl := F.f4 (by simp [hdep])
      have HF : Hid (more88F av k cv pb yb ob f S0 S1 S2 S3 S4 (upd d_ 5) x25 x26 x27 x28 (.bool true) (.func (.func 88) #[] #[.pointer (some ⟨pb,0,none⟩),.pointer (some ⟨yb,0,none⟩),.pointer (some ⟨ob,0,none⟩)]) x31 x32 x33 x34 x35 x36 x37 u r w1) := ⟨F.q2,F.q3,F.q4,fun _ => (show _ from (by simp [hdep] : d_ 4 = true)),F.q6,F.q7,F.q8,F.q9,fun h => ⟨(F.q10 h).1,rfl,(F.q10 h).2.2⟩,F.q11,F.q12,F.f0,F.f1,F.f2,F.f3,F.f4,fun _ => rfl,F.f6,F.f7,F.f10,F.f11,F.f12,F.st0,F.st1,F.st2,F.st3,F.st4⟩
      clear F
      go_simp
      exact HK.out _ _ ⟨_,_,_,_,_,_,_,_,_,_,_,_,_,_,_,rfl,HF.out⟩
    · obtain rfl := F.f4 (by simp [hdep])
      have HF : Hid (more88F av k cv pb yb ob f S0 S1 S2 S3 S4 (upd d_ 6) x25 x26 x27 x28 (.bool true) x30 (.slice av k cv) x32 x33 x34 x35 x36 x37 u r w1) := ⟨F.q2,F.q3,F.q4,F.q5,fun _ => (show _ from (by simp [hdep] : d_ 4 = true)),F.q7,F.q8,fun h => ⟨(F.q9 h).1,rfl,(F.q9 h).2.2⟩,F.q10,F.q11,F.q12,F.f0,F.f1,F.f2,F.f3,F.f4,F.f5,fun _ => rfl,F.f7,F.f10,F.f11,F.f12,F.st0,F.st1,F.st2,F.st3,F.st4⟩
      clear F
      go_simp
      exact HK.out _ _ ⟨_,_,_,_,_,_,_,_,_,_,_,_,_,_,_,rfl,HF.out⟩
    · obtain rfl := F.f4 (by simp [hdep])
      have HF : Hid (more88F av k cv pb yb ob f S0 S1 S2 S3 S4 (upd d_ 7) x25 x26 x27 x28 (.bool true) x30 x31 (.int .i64 f) x33 x34 x35 x36 x37 u r w1) := ⟨F.q2,F.q3,F.q4,F.q5,F.q6,fun _ => (show _ from (by simp [hdep] : d_ 4 = true)),fun h => ⟨(F.q8 h).1,rfl⟩,F.q9,F.q10,F.q11,F.q12,F.f0,F.f1,F.f2,F.f3,F.f4,F.f5,F.f6,fun _ => rfl,F.f10,F.f11,F.f12,F.st0,F.st1,F.st2,F.st3,F.st4⟩
      clear F
      go_simp
      exact HK.out _ _ ⟨_,_,_,_,_,_,_,_,_,_,_,_,_,_,_,rfl,HF.out⟩
    · have hS := F.st1 (F.q4 (by simp [hdep] : d_ 4 = true)).1 hd_
      obtain rfl := F.f4 (by simp [hdep])
      obtain rfl := F.f7 (by simp [hdep])
      have hres := kc8.out u w1 hS
      have HF : Hid (more88F av k cv pb yb ob f S0 S1 S2 S3 S4 (upd d_ 8) x25 x26 x27 x28 (.bool true) x30 x31 (.int .i64 f) ((.slice (some ⟨w1.heap.size,0,none⟩) 1 1)) x34 x35 x36 x37 u r (w1.alloc (.cells #[.int .i64 f] 3))) := ⟨F.q2,F.q3,F.q4,F.q5,F.q6,F.q7,fun _ => ⟨(show _ from (by simp [hdep] : d_ 4 = true)),(show _ from (by simp [hdep] : d_ 7 = true))⟩,fun h => ⟨(F.q9 h).1,(F.q9 h).2.1,rfl⟩,F.q10,F.q11,F.q12,F.f0,F.f1,F.f2,F.f3,F.f4,F.f5,F.f6,F.f7,F.f10,F.f11,F.f12,fun h => (by have h2 : d_ 2 = false := h; rw [(F.q4 (by simp [hdep] : d_ 4 = true)).1] at h2; cases h2),fun _ h => (by simp [upd] at h),fun _ _ => hres,fun h _ => (by have h2 : d_ 8 = true := (F.q9 h).2.2; rw [show d_ 8 = false from hd_] at h2; cases h2),fun h => (by have h2 : d_ 8 = true := (F.q9 (F.q10 h).2.2).2.2; rw [show d_ 8 = false from hd_] at h2; cases h2)⟩
      clear F hS hres
      go_simp
      exact HK.out _ _ ⟨_,_,_,_,_,_,_,_,_,_,_,_,_,_,_,rfl,HF.out⟩
    · have hS := F.st2 (by simp [hdep] : d_ 8 = true) hd_
      obtain rfl := F.f4 (by simp [hdep])
      obtain rfl := F.f6 (by simp [hdep])
      obtain ⟨v_,w_,hr,hres⟩ := kc9.out u x33 w1 hS
      rw [if_pos (by rfl)]
      refine wpIn_append_run (.tmp 31) (.tmp 33) 26 rfl _ _ _ _ rfl rfl hr ?_
      exact HK.out _ _ ⟨_,_,_,_,_,_,_,_,_,_,_,_,_,u,r,rfl,⟨F.q2,F.q3,F.q4,F.q5,F.q6,F.q7,F.q8,fun _ => ⟨(show _ from (by simp [hdep] : d_ 4 = true)),(show _ from (by simp [hdep] : d_ 6 = true)),(show _ from (by simp [hdep] : d_ 8 = true))⟩,fun h => ⟨(F.q10 h).1,(F.q10 h).2.1,rfl⟩,F.q11,F.q12,F.f0,F.f1,F.f2,F.f3,F.f4,F.f5,F.f6,F.f7,F.f10,F.f11,F.f12,fun h => (by have h2 : d_ 2 = false := h; rw [(F.q4 (by simp [hdep] : d_ 4 = true)).1] at h2; cases h2),fun _ h => (by have h2 : d_ 8 = false := h; rw [(by simp [hdep] : d_ 8 = true)] at h2; cases h2),fun _ h => (by simp [upd] at h),fun _ _ => hres,fun h => (by have h2 : d_ 9 = true := (F.q10 h).2.2; rw [show d_ 9 = false from hd_] at h2; cases h2)⟩⟩
    · have hS := F.st3 (by simp [hdep] : d_ 9 = true) hd_
      obtain rfl := F.f4 (by simp [hdep])
      obtain rfl := F.f5 (by simp [hdep])
      have hc := kc10.out u x33 x34 w1 hS
      have HF := Lib.hid F
      clear F
      go_simp
      refine ⟨trivial,rfl,hc.mono ?_⟩
      rintro e w5 ⟨v_,rfl,hres⟩
      exact HK.out _ _ ⟨_,_,_,_,_,_,_,_,_,_,_,_,_,u,v_,rfl,⟨HF.out.q2,HF.out.q3,HF.out.q4,HF.out.q5,HF.out.q6,HF.out.q7,HF.out.q8,HF.out.q9,fun _ => ⟨(show _ from (by simp [hdep] : d_ 4 = true)),(show _ from (by simp [hdep] : d_ 5 = true)),(show _ from (by simp [hdep] : d_ 9 = true))⟩,fun h => ⟨(HF.out.q11 h).1,rfl⟩,HF.out.q12,HF.out.f0,HF.out.f1,HF.out.f2,HF.out.f3,HF.out.f4,HF.out.f5,HF.out.f6,HF.out.f7,fun _ => rfl,fun h => (by have h2 : d_ 10 = true := (HF.out.q11 h).2; rw [show d_ 10 = false from hd_] at h2; cases h2),fun h => (by have h2 : d_ 10 = true := (HF.out.q11 (HF.out.q12 h).2).2; rw [show d_ 10 = false from hd_] at h2; cases h2),fun h => (by have h2 : d_ 2 = false := h; rw [(HF.out.q4 (by simp [hdep] : d_ 4 = true)).1] at h2; cases h2),fun _ h => (by have h2 : d_ 8 = false := h; rw [(HF.out.q9 (by simp [hdep] : d_ 9 = true)).2.2] at h2; cases h2),fun _ h => (by have h2 : d_ 9 = false := h; rw [(by simp [hdep] : d_ 9 = true)] at h2; cases h2),fun _ h => (by simp [upd] at h),fun _ => hres⟩⟩
    · obtain rfl := F.f4 (by simp [hdep])
      obtain rfl := F.f10 (by simp [hdep])
      have HF : Hid (more88F av k cv pb yb ob f S0 S1 S2 S3 S4 (upd d_ 11) x25 x26 x27 x28 (.bool true) x30 x31 x32 x33 x34 (.bool r) (.bool (!r)) x37 u r w1) := ⟨F.q2,F.q3,F.q4,F.q5,F.q6,F.q7,F.q8,F.q9,F.q10,fun _ => ⟨(show _ from (by simp [hdep] : d_ 4 = true)),(show _ from (by simp [hdep] : d_ 10 = true))⟩,fun h => ⟨(F.q12 h).1,rfl⟩,F.f0,F.f1,F.f2,F.f3,F.f4,F.f5,F.f6,F.f7,F.f10,fun _ => rfl,F.f12,F.st0,F.st1,F.st2,F.st3,F.st4⟩
      clear F
      go_simp
      exact HK.out _ _ ⟨_,_,_,_,_,_,_,_,_,_,_,_,_,_,_,rfl,HF.out⟩
    · obtain rfl := F.f4 (by simp [hdep])
      obtain rfl := F.f11 (by simp [hdep])
      have HF : Hid (more88F av k cv pb yb ob f S0 S1 S2 S3 S4 (upd d_ 12) x25 x26 x27 x28 (.bool true) x30 x31 x32 x33 x34 x35 (.bool (!r)) (.bool (!r)) u r w1) := ⟨F.q2,F.q3,F.q4,F.q5,F.q6,F.q7,F.q8,F.q9,F.q10,F.q11,fun _ => ⟨(show _ from (by simp [hdep] : d_ 4 = true)),(show _ from (by simp [hdep] : d_ 11 = true))⟩,F.f0,F.f1,F.f2,F.f3,F.f4,F.f5,F.f6,F.f7,F.f10,F.f11,fun _ => rfl,F.st0,F.st1,F.st2,F.st3,F.st4⟩
      clear F
      go_simp
      exact HK.out _ _ ⟨_,_,_,_,_,_,_,_,_,_,_,_,_,_,_,rfl,HF.out⟩
  · rintro d_ a_ w1 hall ⟨x25,x26,x27,x28,x29,x30,x31,x32,x33,x34,x35,x36,x37,u,r,rfl,F⟩
    have hall' : ∀ k,k < 13 → d_ k = true := hall
    obtain rfl := F.f0 (hall' 0 (by decide))
    obtain rfl := F.f1 (hall' 1 (by decide))
    obtain rfl := F.f2 (hall' 2 (by decide))
    obtain rfl := F.f3 (hall' 3 (by decide))
    obtain rfl := F.f4 (hall' 4 (by decide))
    obtain rfl := F.f5 (hall' 5 (by decide))
    obtain rfl := F.f6 (hall' 6 (by decide))
    obtain rfl := F.f7 (hall' 7 (by decide))
    obtain rfl := F.f10 (hall' 10 (by decide))
    obtain rfl := F.f11 (hall' 11 (by decide))
    obtain rfl := F.f12 (hall' 12 (by decide))
    have hst := F.st4 (hall' 10 (by decide))
    exact HQ.out u x33 x34 r w1 hst

end Go.Proofs.Ytphefhpmbahagaa
