/- Times: its drawn region. -/
import Derived.Test.YtphefhpmbahagaaT14
namespace Go.Proofs.Ytphefhpmbahagaa
open Go.RowKit
set_option linter.unusedVariables false

structure tm7F (tb : Nat) (sb : Nat) (eb : Nat) (nb : Nat) (ra : Option Addr) (rm : Nat) (rc : Nat) (x : Int) (y : Int) (S0 : World → Prop) (S1 : Unit → World → Prop) (S2 : Unit → World → Prop) (S3 : Unit → World → Prop) (S4 : Unit → World → Prop) (d : Nat → Bool) (x29 x30 x31 : Value) (u : Unit) (w : World) : Prop where
  q2 : d 2 = true → d 1 = true
  q3 : d 3 = true → d 0 = true ∧ d 2 = true
  q4 : d 4 = true → d 0 = true ∧ d 1 = true ∧ d 2 = true ∧ d 3 = true
  q5 : d 5 = true → d 0 = true ∧ d 1 = true ∧ d 2 = true ∧ d 3 = true ∧ d 4 = true
  f0 : d 0 = true → x29 = .slice ra rm rc
  f1 : d 1 = true → x30 = .func (.func 84) #[] #[.pointer (some ⟨nb, 0, none⟩)]
  f2 : d 2 = true → x31 = .agg #[.int .i64 x, .int .i64 y]
  st0 : d 2 = false → S0 w
  st1 : d 2 = true → d 3 = false → S1 u w
  st2 : d 3 = true → d 4 = false → S2 u w
  st3 : d 4 = true → d 5 = false → S3 u w
  st4 : d 5 = true → S4 u w
noncomputable def tm7C : Code := (Try.f16.body.bind (regionAt 7)).getD .skip
set_option maxRecDepth 100000 in
set_option maxHeartbeats 4000000 in
theorem tm7 {tb : Nat} {sb : Nat} {eb : Nat} {nb : Nat} {ra : Option Addr} {rm : Nat} {rc : Nat} {x : Int} {y : Int} {S0 : World → Prop} {S1 : Unit → World → Prop} {S2 : Unit → World → Prop} {S3 : Unit → World → Prop} {S4 : Unit → World → Prop} {Q : Exit → Act → World → Prop} {W1 : World} (h0 : S0 W1.drew)
    (kl0 : Hid (∀ (u : Unit) (w : World), (S0 w ∨ S1 u w) → w.cell? ⟨tb, 0, none⟩ = some (.slice ra rm rc)))
    (kc2 : Hid (∀ (w : World), S0 w → Calls Try.prog 84 #[.pointer (some ⟨nb, 0, none⟩)] w fun e w' => ∃ u : Unit, e = .returned (.agg #[.int .i64 x, .int .i64 y]) ∧ S1 u w'))
    (kc3 : Hid (∀ (u : Unit) (w : World), S1 u w → (∃ u, w.cell? ⟨tb, 0, none⟩ = some u) ∧ w.frozen? ⟨tb, 0, none⟩ = false ∧ S2 u (w.setCell ⟨tb, 0, none⟩ (.slice ra rm rc))))
    (kc4 : Hid (∀ (u : Unit) (w : World), S2 u w → (∃ u, w.cell? ⟨sb, 0, none⟩ = some u) ∧ w.frozen? ⟨sb, 0, none⟩ = false ∧ (∃ u, w.cell? ⟨sb, 1, none⟩ = some u) ∧ w.frozen? ⟨sb, 1, none⟩ = false ∧ S3 u ((w.setCell ⟨sb, 0, none⟩ (.int .i64 x)).setCell ⟨sb, 1, none⟩ (.int .i64 y))))
    (kc5 : Hid (∀ (u : Unit) (w : World), S3 u w → (∃ u, w.cell? ⟨eb, 0, none⟩ = some u) ∧ w.frozen? ⟨eb, 0, none⟩ = false ∧ S4 u (w.setCell ⟨eb, 0, none⟩ (.int .i64 0))))
    {s0 s1 s2 s3 s7 s8 s10 s11 s12 s13 s14 s15 s16 s17 s18 s19 s20 s21 s22 s23 s24 s25 s26 s27 s28 s29 s30 s31 : Value} {dd : List Deferred}
    (hQ : ∀ (u : Unit) (w' : World), S4 u w' → Q .normal { tmps := #[s0, s1, s2, s3, .pointer (some ⟨tb, 0, none⟩), .pointer (some ⟨sb, 0, none⟩), .pointer (some ⟨eb, 0, none⟩), s7, s8, .func (.func 84) #[] #[.pointer (some ⟨nb, 0, none⟩)], s10, s11, s12, s13, s14, s15, s16, s17, s18, s19, s20, s21, s22, s23, s24, s25, s26, s27, s28, .slice ra rm rc, .func (.func 84) #[] #[.pointer (some ⟨nb, 0, none⟩)], .agg #[.int .i64 x, .int .i64 y]], defers := dd } w') :
    Code.wpIn (wideAt none) 0 Try.prog tm7C Q { tmps := #[s0, s1, s2, s3, .pointer (some ⟨tb, 0, none⟩), .pointer (some ⟨sb, 0, none⟩), .pointer (some ⟨eb, 0, none⟩), s7, s8, .func (.func 84) #[] #[.pointer (some ⟨nb, 0, none⟩)], s10, s11, s12, s13, s14, s15, s16, s17, s18, s19, s20, s21, s22, s23, s24, s25, s26, s27, s28, s29, s30, s31], defers := dd } W1 := by
  have HQ := Lib.hid hQ
  clear hQ
  conv => arg 4; whnf
  refine wpIn_region_invG mixed (by kernel_rfl) (fun d_ a_ w' => ∃ (x29 : Value) (x30 : Value) (x31 : Value) (u : Unit), a_ = { tmps := #[s0, s1, s2, s3, .pointer (some ⟨tb, 0, none⟩), .pointer (some ⟨sb, 0, none⟩), .pointer (some ⟨eb, 0, none⟩), s7, s8, .func (.func 84) #[] #[.pointer (some ⟨nb, 0, none⟩)], s10, s11, s12, s13, s14, s15, s16, s17, s18, s19, s20, s21, s22, s23, s24, s25, s26, s27, s28, x29, x30, x31], defers := dd } ∧ tm7F tb sb eb nb ra rm rc x y S0 S1 S2 S3 S4 d_ x29 x30 x31 u w') ?_ ?_ ?_
  · refine ⟨s29, s30, s31, default, rfl, ?_⟩
    constructor <;> first | rfl | (intro _; rfl) | (intro h; cases h; done) | (intro _; exact h0) | exact h0
  · refine ⟨?_, ?_, ?_, ?_, ?_, ?_, trivial⟩
    all_goals
      rintro d_ a_ w1 K hd_ hdep ⟨x29, x30, x31, u, rfl, F⟩ HK
      simp [Region.binds] at hdep
    · have hst : S0 w1 ∨ S1 u w1 := by
        cases e1 : d_ 2 with
        | false => exact .inl ((F.st0 e1))
        | true =>
          have n_ : d_ 3 = false := by
            cases e_ : d_ 3 with
            | false => rfl
            | true => have h2 := (F.q3 e_).1; rw [show d_ 0 = false from hd_] at h2; cases h2
          exact .inr ((F.st1 e1 n_))
      have kk := kl0.out u w1 hst
      clear hst
      have HF : Hid (tm7F tb sb eb nb ra rm rc x y S0 S1 S2 S3 S4 (upd d_ 0) (.slice ra rm rc) x30 x31 u w1) := ⟨F.q2, fun h => ⟨rfl, (F.q3 h).2⟩, fun h => ⟨rfl, (F.q4 h).2.1, (F.q4 h).2.2.1, (F.q4 h).2.2.2⟩, fun h => ⟨rfl, (F.q5 h).2.1, (F.q5 h).2.2.1, (F.q5 h).2.2.2.1, (F.q5 h).2.2.2.2⟩, fun _ => rfl, F.f1, F.f2, F.st0, F.st1, F.st2, F.st3, F.st4⟩
      clear F
      go_simp
      exact HK.out _ _ ⟨_, _, _, _, rfl, HF.out⟩
    · have HF : Hid (tm7F tb sb eb nb ra rm rc x y S0 S1 S2 S3 S4 (upd d_ 1) x29 (.func (.func 84) #[] #[.pointer (some ⟨nb, 0, none⟩)]) x31 u w1) := ⟨fun h => rfl, F.q3, fun h => ⟨(F.q4 h).1, rfl, (F.q4 h).2.2.1, (F.q4 h).2.2.2⟩, fun h => ⟨(F.q5 h).1, rfl, (F.q5 h).2.2.1, (F.q5 h).2.2.2.1, (F.q5 h).2.2.2.2⟩, F.f0, fun _ => rfl, F.f2, F.st0, F.st1, F.st2, F.st3, F.st4⟩
      clear F
      go_simp
      exact HK.out _ _ ⟨_, _, _, _, rfl, HF.out⟩
    · have hS := F.st0  hd_
      obtain rfl := F.f1 (by simp [hdep])
      have hc := kc2.out w1 hS
      have HF := Lib.hid F
      clear F
      go_simp
      refine ⟨trivial, rfl, wideAt_calls (hc.mono ?_)⟩
      rintro e w5 ⟨v_, rfl, hres⟩
      exact HK.out _ _ ⟨_, _, _, v_, rfl, ⟨fun _ => (show _ from (by simp [hdep] : d_ 1 = true)), fun h => ⟨(HF.out.q3 h).1, rfl⟩, fun h => ⟨(HF.out.q4 h).1, (HF.out.q4 h).2.1, rfl, (HF.out.q4 h).2.2.2⟩, fun h => ⟨(HF.out.q5 h).1, (HF.out.q5 h).2.1, rfl, (HF.out.q5 h).2.2.2.1, (HF.out.q5 h).2.2.2.2⟩, HF.out.f0, HF.out.f1, fun _ => rfl, fun h => (by simp [upd] at h), fun _ _ => hres, fun h _ => (by have h2 : d_ 2 = true := (HF.out.q3 h).2; rw [show d_ 2 = false from hd_] at h2; cases h2), fun h _ => (by have h2 : d_ 2 = true := (HF.out.q4 h).2.2.1; rw [show d_ 2 = false from hd_] at h2; cases h2), fun h => (by have h2 : d_ 2 = true := (HF.out.q5 h).2.2.1; rw [show d_ 2 = false from hd_] at h2; cases h2)⟩⟩
    · have hS := F.st1 (by simp [hdep] : d_ 2 = true) hd_
      obtain rfl := F.f0 (by simp [hdep])
      obtain ⟨⟨ku0, kcell0⟩, kfr0, hres⟩ := kc3.out u w1 hS
      have HF : Hid (tm7F tb sb eb nb ra rm rc x y S0 S1 S2 S3 S4 (upd d_ 3) (.slice ra rm rc) x30 x31 u (w1.setCell ⟨tb, 0, none⟩ (.slice ra rm rc))) := ⟨F.q2, fun _ => ⟨(show _ from (by simp [hdep] : d_ 0 = true)), (show _ from (by simp [hdep] : d_ 2 = true))⟩, fun h => ⟨(F.q4 h).1, (F.q4 h).2.1, (F.q4 h).2.2.1, rfl⟩, fun h => ⟨(F.q5 h).1, (F.q5 h).2.1, (F.q5 h).2.2.1, rfl, (F.q5 h).2.2.2.2⟩, F.f0, F.f1, F.f2, fun h => (by have h2 : d_ 2 = false := h; rw [(by simp [hdep] : d_ 2 = true)] at h2; cases h2), fun _ h => (by simp [upd] at h), fun _ _ => hres, fun h _ => (by have h2 : d_ 3 = true := (F.q4 h).2.2.2; rw [show d_ 3 = false from hd_] at h2; cases h2), fun h => (by have h2 : d_ 3 = true := (F.q5 h).2.2.2.1; rw [show d_ 3 = false from hd_] at h2; cases h2)⟩
      clear F hS hres
      go_simp
      exact HK.out _ _ ⟨_, _, _, _, rfl, HF.out⟩
    · have hS := F.st2 (by simp [hdep] : d_ 3 = true) hd_
      obtain rfl := F.f2 (by simp [hdep])
      obtain ⟨⟨ku0, kcell0⟩, kfr0, ⟨ku1, kcell1⟩, kfr1, hres⟩ := kc4.out u w1 hS
      have HF : Hid (tm7F tb sb eb nb ra rm rc x y S0 S1 S2 S3 S4 (upd d_ 4) x29 x30 (.agg #[.int .i64 x, .int .i64 y]) u ((w1.setCell ⟨sb, 0, none⟩ (.int .i64 x)).setCell ⟨sb, 1, none⟩ (.int .i64 y))) := ⟨F.q2, F.q3, fun _ => ⟨(show _ from (by simp [hdep] : d_ 0 = true)), (show _ from (by simp [hdep] : d_ 1 = true)), (show _ from (by simp [hdep] : d_ 2 = true)), (show _ from (by simp [hdep] : d_ 3 = true))⟩, fun h => ⟨(F.q5 h).1, (F.q5 h).2.1, (F.q5 h).2.2.1, (F.q5 h).2.2.2.1, rfl⟩, F.f0, F.f1, F.f2, fun h => (by have h2 : d_ 2 = false := h; rw [(by simp [hdep] : d_ 2 = true)] at h2; cases h2), fun _ h => (by have h2 : d_ 3 = false := h; rw [(by simp [hdep] : d_ 3 = true)] at h2; cases h2), fun _ h => (by simp [upd] at h), fun _ _ => hres, fun h => (by have h2 : d_ 4 = true := (F.q5 h).2.2.2.2; rw [show d_ 4 = false from hd_] at h2; cases h2)⟩
      clear F hS hres
      go_simp
      exact HK.out _ _ ⟨_, _, _, _, rfl, HF.out⟩
    · have hS := F.st3 (by simp [hdep] : d_ 4 = true) hd_
      obtain ⟨⟨ku0, kcell0⟩, kfr0, hres⟩ := kc5.out u w1 hS
      have HF : Hid (tm7F tb sb eb nb ra rm rc x y S0 S1 S2 S3 S4 (upd d_ 5) x29 x30 x31 u (w1.setCell ⟨eb, 0, none⟩ (.int .i64 0))) := ⟨F.q2, F.q3, F.q4, fun _ => ⟨(show _ from (by simp [hdep] : d_ 0 = true)), (show _ from (by simp [hdep] : d_ 1 = true)), (show _ from (by simp [hdep] : d_ 2 = true)), (show _ from (by simp [hdep] : d_ 3 = true)), (show _ from (by simp [hdep] : d_ 4 = true))⟩, F.f0, F.f1, F.f2, fun h => (by have h2 : d_ 2 = false := h; rw [(by simp [hdep] : d_ 2 = true)] at h2; cases h2), fun _ h => (by have h2 : d_ 3 = false := h; rw [(by simp [hdep] : d_ 3 = true)] at h2; cases h2), fun _ h => (by have h2 : d_ 4 = false := h; rw [(by simp [hdep] : d_ 4 = true)] at h2; cases h2), fun _ h => (by simp [upd] at h), fun _ => hres⟩
      clear F hS hres
      go_simp
      exact HK.out _ _ ⟨_, _, _, _, rfl, HF.out⟩
  · rintro d_ a_ w1 hall ⟨x29, x30, x31, u, rfl, F⟩
    have hall' : ∀ k, k < 6 → d_ k = true := hall
    obtain rfl := F.f0 (hall' 0 (by decide))
    obtain rfl := F.f1 (hall' 1 (by decide))
    obtain rfl := F.f2 (hall' 2 (by decide))
    have hst := F.st4 (hall' 5 (by decide))
    exact HQ.out u w1 hst

end Go.Proofs.Ytphefhpmbahagaa
