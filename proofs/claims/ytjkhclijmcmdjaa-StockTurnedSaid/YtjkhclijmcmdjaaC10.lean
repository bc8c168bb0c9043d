/- The drawn regions of numbers and of before. The numbers of a plan; which plan is better. A range over a function, by the list of what is still to come. -/
import Derived.Test.YtjkhclijmcmdjaaC9
namespace Go.Proofs.Ytjkhclijmcmdjaa
open Go.RowKit
set_option linter.unusedVariables false
set_option linter.unusedSimpArgs false
structure num4F (r0 : Option Addr × Nat) (n : Nat) (m : Nat) (b4 : Nat) (ai : Option Addr) (ci : Nat) (tm : Int) (S0 : Bool → Nat → World → Prop) (S1 : Bool → Nat → Option Addr × Nat → World → Prop) (S2 : Bool → Nat → Option Addr × Nat → Option Addr × Nat → World → Prop) (d : Nat → Bool) (x12 x13 x14 x15 x16 x17 x18 x19 x2 : Value) (ms : Nat) (r1 : Option Addr × Nat) (r2 : Option Addr × Nat) (w : World) : Prop where
  q2 : d 2 = true → d 1 = true
  q3 : d 3 = true → d 0 = true ∧ d 2 = true
  q5 : d 5 = true → d 4 = true
  q6 : d 6 = true → d 5 = true
  q7 : d 7 = true → d 3 = true ∧ d 6 = true
  q8 : d 8 = true → d 0 = true ∧ d 1 = true ∧ d 2 = true ∧ d 3 = true ∧ d 4 = true ∧ d 5 = true ∧ d 6 = true ∧ d 7 = true
  f0 : d 0 = true → x12 = .slice r0.1 (n) r0.2
  f1 : d 1 = true → x13 = .pointer (some ⟨b4, 0, none⟩)
  f2 : d 2 = true → x14 = .slice ai m ci
  f3 : d 3 = true → x15 = .slice r1.1 (n + m) r1.2
  f4 : d 4 = true → x16 = .pointer (some ⟨b4, 1, none⟩)
  f5 : d 5 = true → x17 = .int .i64 (tm)
  f6 : d 6 = true → x18 = .slice (some ⟨ms, 0, none⟩) 1 1
  f7 : d 7 = true → x19 = .slice r2.1 (n + m + 1) r2.2
  f8 : d 8 = true → x2 = .slice r2.1 (n + m + 1) r2.2
  g8 : d 8 = false → .slice r0.1 (n) r0.2 = x2
  st0 : d 3 = false → S0 (d 6) ms w
  st1 : d 3 = true → d 7 = false → S1 (d 6) ms r1 w
  st2 : d 7 = true → S2 (d 6) ms r1 r2 w
  mz : d 6 = false → ms = 0
noncomputable def num4C : Code := (Try.f87.body.bind (regionAt 4)).getD .skip
set_option maxRecDepth 100000 in
set_option maxHeartbeats 4000000 in
theorem num4 {r0 : Option Addr × Nat} {n : Nat} {m : Nat} {b4 : Nat} {ai : Option Addr} {ci : Nat} {tm : Int} {S0 : Bool → Nat → World → Prop} {S1 : Bool → Nat → Option Addr × Nat → World → Prop} {S2 : Bool → Nat → Option Addr × Nat → Option Addr × Nat → World → Prop} {Q : Exit → Act → World → Prop} {W1 : World} (h0 : S0 false 0 W1.drew)
    (kl2 : Hid (∀ (fs : Bool) (ms : Nat) (w : World), (S0 fs ms w) → w.cell? ⟨b4, 0, none⟩ = some (.slice ai m ci)))
    (kc3 : Hid (∀ (fs : Bool) (ms : Nat) (w : World), S0 fs ms w → ∃ (r1 : Option Addr × Nat) (w' : World), (Builtin.append_ #[24, 24] 24 #[.slice r0.1 (n) r0.2, .slice ai m ci]).run Try.prog w = .ok (.slice r1.1 (n + m) r1.2) w' ∧ S1 fs ms r1 w'))
    (kl5 : Hid (∀ (fs : Bool) (ms : Nat) (r1 : Option Addr × Nat) (w : World), (S0 fs ms w ∨ S1 fs ms r1 w) → w.cell? ⟨b4, 1, none⟩ = some (.int .i64 (tm))))
    (ks0 : Hid (∀ (w : World), S0 false 0 w → S0 true w.heap.size (w.alloc (.cells #[.int .i64 (tm)] 3))))
    (ks1 : Hid (∀ (r1 : Option Addr × Nat) (w : World), S1 false 0 r1 w → S1 true w.heap.size r1 (w.alloc (.cells #[.int .i64 (tm)] 3))))
    (kc7 : Hid (∀ (ms : Nat) (r1 : Option Addr × Nat) (w : World), S1 true ms r1 w → ∃ (r2 : Option Addr × Nat) (w' : World), (Builtin.append_ #[24, 24] 24 #[.slice r1.1 (n + m) r1.2, .slice (some ⟨ms, 0, none⟩) 1 1]).run Try.prog w = .ok (.slice r2.1 (n + m + 1) r2.2) w' ∧ S2 true ms r1 r2 w'))
    {s0 s1 s3 s5 s6 s7 s8 s9 s10 s11 s12 s13 s14 s15 s16 s17 s18 s19 s20 s21 : Value} {dd : List Deferred}
    (hQ : ∀ (ms : Nat) (r1 : Option Addr × Nat) (r2 : Option Addr × Nat) (w' : World), S2 true ms r1 r2 w' → Q .normal { tmps := #[s0, s1, .slice r2.1 (n + m + 1) r2.2, s3, .pointer (some ⟨b4, 0, none⟩), s5, s6, s7, s8, s9, s10, s11, .slice r0.1 (n) r0.2, .pointer (some ⟨b4, 0, none⟩), .slice ai m ci, .slice r1.1 (n + m) r1.2, .pointer (some ⟨b4, 1, none⟩), .int .i64 (tm), .slice (some ⟨ms, 0, none⟩) 1 1, .slice r2.1 (n + m + 1) r2.2, s20, s21], defers := dd } w') :
    Code.wpIn (wideAt none) 0 Try.prog num4C Q { tmps := #[s0, s1, .slice r0.1 (n) r0.2, s3, .pointer (some ⟨b4, 0, none⟩), s5, s6, s7, s8, s9, s10, s11, s12, s13, s14, s15, s16, s17, s18, s19, s20, s21], defers := dd } W1 := by
  have HQ := Lib.hid hQ
  clear hQ
  conv => arg 4; whnf
  refine wpIn_region_invG mixed (by kernel_rfl) (fun d_ a_ w' => ∃ (x12 : Value) (x13 : Value) (x14 : Value) (x15 : Value) (x16 : Value) (x17 : Value) (x18 : Value) (x19 : Value) (x2 : Value) (ms : Nat) (r1 : Option Addr × Nat) (r2 : Option Addr × Nat), a_ = { tmps := #[s0, s1, x2, s3, .pointer (some ⟨b4, 0, none⟩), s5, s6, s7, s8, s9, s10, s11, x12, x13, x14, x15, x16, x17, x18, x19, s20, s21], defers := dd } ∧ num4F r0 n m b4 ai ci tm S0 S1 S2 d_ x12 x13 x14 x15 x16 x17 x18 x19 x2 ms r1 r2 w') ?_ ?_ ?_
  · refine ⟨s12, s13, s14, s15, s16, s17, s18, s19, (.slice r0.1 (n) r0.2), 0, default, default, rfl, ?_⟩
    constructor <;> first | rfl | (intro _; rfl) | (intro h; cases h; done) | (intro _; exact h0) | exact h0
  · refine ⟨?_, ?_, ?_, ?_, ?_, ?_, ?_, ?_, ?_, trivial⟩
    all_goals
      rintro d_ a_ w1 K hd_ hdep ⟨x12, x13, x14, x15, x16, x17, x18, x19, x2, ms, r1, r2, rfl, F⟩ HK
      simp [Region.binds] at hdep
    · have n8_ : d_ 8 = false := by
        cases e_ : d_ 8 with
        | false => rfl
        | true => have h2 := (F.q8 e_).1; rw [show d_ 0 = false from hd_] at h2; cases h2
      have g8_ := F.g8 n8_
      subst g8_
      have HF : Hid (num4F r0 n m b4 ai ci tm S0 S1 S2 (upd d_ 0) (.slice r0.1 (n) r0.2) x13 x14 x15 x16 x17 x18 x19 (.slice r0.1 (n) r0.2) ms r1 r2 w1) := ⟨F.q2, fun h => ⟨rfl, (F.q3 h).2⟩, F.q5, F.q6, F.q7, fun h => ⟨rfl, (F.q8 h).2.1, (F.q8 h).2.2.1, (F.q8 h).2.2.2.1, (F.q8 h).2.2.2.2.1, (F.q8 h).2.2.2.2.2.1, (F.q8 h).2.2.2.2.2.2.1, (F.q8 h).2.2.2.2.2.2.2⟩, fun _ => rfl, F.f1, F.f2, F.f3, F.f4, F.f5, F.f6, F.f7, F.f8, F.g8, F.st0, F.st1, F.st2, F.mz⟩
      clear F
      go_simp
      exact HK.out _ _ ⟨_, _, _, _, _, _, _, _, _, _, _, _, rfl, HF.out⟩
    · have HF : Hid (num4F r0 n m b4 ai ci tm S0 S1 S2 (upd d_ 1) x12 (.pointer (some ⟨b4, 0, none⟩)) x14 x15 x16 x17 x18 x19 x2 ms r1 r2 w1) := ⟨fun h => rfl, F.q3, F.q5, F.q6, F.q7, fun h => ⟨(F.q8 h).1, rfl, (F.q8 h).2.2.1, (F.q8 h).2.2.2.1, (F.q8 h).2.2.2.2.1, (F.q8 h).2.2.2.2.2.1, (F.q8 h).2.2.2.2.2.2.1, (F.q8 h).2.2.2.2.2.2.2⟩, F.f0, fun _ => rfl, F.f2, F.f3, F.f4, F.f5, F.f6, F.f7, F.f8, F.g8, F.st0, F.st1, F.st2, F.mz⟩
      clear F
      go_simp
      exact HK.out _ _ ⟨_, _, _, _, _, _, _, _, _, _, _, _, rfl, HF.out⟩
    · have hst : S0 (d_ 6) ms w1 := by
        have n_ : d_ 3 = false := by
          cases e_ : d_ 3 with
          | false => rfl
          | true => have h2 := (F.q3 e_).2; rw [show d_ 2 = false from hd_] at h2; cases h2
        exact (F.st0 n_)
      have kk := kl2.out (d_ 6) ms w1 hst
      clear hst
      obtain rfl := F.f1 (by simp [hdep])
      have HF : Hid (num4F r0 n m b4 ai ci tm S0 S1 S2 (upd d_ 2) x12 (.pointer (some ⟨b4, 0, none⟩)) (.slice ai m ci) x15 x16 x17 x18 x19 x2 ms r1 r2 w1) := ⟨fun _ => (show _ from (by simp [hdep] : d_ 1 = true)), fun h => ⟨(F.q3 h).1, rfl⟩, F.q5, F.q6, F.q7, fun h => ⟨(F.q8 h).1, (F.q8 h).2.1, rfl, (F.q8 h).2.2.2.1, (F.q8 h).2.2.2.2.1, (F.q8 h).2.2.2.2.2.1, (F.q8 h).2.2.2.2.2.2.1, (F.q8 h).2.2.2.2.2.2.2⟩, F.f0, F.f1, fun _ => rfl, F.f3, F.f4, F.f5, F.f6, F.f7, F.f8, F.g8, F.st0, F.st1, F.st2, F.mz⟩
      clear F
      go_simp
      exact HK.out _ _ ⟨_, _, _, _, _, _, _, _, _, _, _, _, rfl, HF.out⟩
    · have hS := F.st0  hd_
      obtain rfl := F.f0 (by simp [hdep])
      obtain rfl := F.f2 (by simp [hdep])
      obtain ⟨v_, w_, hr, hres⟩ := kc3.out (d_ 6) ms w1 hS
      rw [if_pos (by rfl)]
      refine wpIn_append_run (.tmp 12) (.tmp 14) 24 rfl _ _ _ _ rfl rfl hr ?_
      exact HK.out _ _ ⟨_, _, _, _, _, _, _, _, _, ms, v_, r2, rfl, ⟨F.q2, fun _ => ⟨(show _ from (by simp [hdep] : d_ 0 = true)), (show _ from (by simp [hdep] : d_ 2 = true))⟩, F.q5, F.q6, fun h => ⟨rfl, (F.q7 h).2⟩, fun h => ⟨(F.q8 h).1, (F.q8 h).2.1, (F.q8 h).2.2.1, rfl, (F.q8 h).2.2.2.2.1, (F.q8 h).2.2.2.2.2.1, (F.q8 h).2.2.2.2.2.2.1, (F.q8 h).2.2.2.2.2.2.2⟩, F.f0, F.f1, F.f2, fun _ => rfl, F.f4, F.f5, F.f6, F.f7, F.f8, F.g8, fun h => (by simp [upd] at h), fun _ _ => hres, fun h => (by have h2 : d_ 3 = true := (F.q7 h).1; rw [show d_ 3 = false from hd_] at h2; cases h2), F.mz⟩⟩
    · have HF : Hid (num4F r0 n m b4 ai ci tm S0 S1 S2 (upd d_ 4) x12 x13 x14 x15 (.pointer (some ⟨b4, 1, none⟩)) x17 x18 x19 x2 ms r1 r2 w1) := ⟨F.q2, F.q3, fun h => rfl, F.q6, F.q7, fun h => ⟨(F.q8 h).1, (F.q8 h).2.1, (F.q8 h).2.2.1, (F.q8 h).2.2.2.1, rfl, (F.q8 h).2.2.2.2.2.1, (F.q8 h).2.2.2.2.2.2.1, (F.q8 h).2.2.2.2.2.2.2⟩, F.f0, F.f1, F.f2, F.f3, fun _ => rfl, F.f5, F.f6, F.f7, F.f8, F.g8, F.st0, F.st1, F.st2, F.mz⟩
      clear F
      go_simp
      exact HK.out _ _ ⟨_, _, _, _, _, _, _, _, _, _, _, _, rfl, HF.out⟩
    · have hst : S0 (d_ 6) ms w1 ∨ S1 (d_ 6) ms r1 w1 := by
        cases e1 : d_ 3 with
        | false => exact .inl ((F.st0 e1))
        | true =>
          have n_ : d_ 7 = false := by
            cases e_ : d_ 7 with
            | false => rfl
            | true => have h2 := (F.q6 (F.q7 e_).2); rw [show d_ 5 = false from hd_] at h2; cases h2
          exact .inr ((F.st1 e1 n_))
      have kk := kl5.out (d_ 6) ms r1 w1 hst
      clear hst
      obtain rfl := F.f4 (by simp [hdep])
      have HF : Hid (num4F r0 n m b4 ai ci tm S0 S1 S2 (upd d_ 5) x12 x13 x14 x15 (.pointer (some ⟨b4, 1, none⟩)) (.int .i64 (tm)) x18 x19 x2 ms r1 r2 w1) := ⟨F.q2, F.q3, fun _ => (show _ from (by simp [hdep] : d_ 4 = true)), fun h => rfl, F.q7, fun h => ⟨(F.q8 h).1, (F.q8 h).2.1, (F.q8 h).2.2.1, (F.q8 h).2.2.2.1, (F.q8 h).2.2.2.2.1, rfl, (F.q8 h).2.2.2.2.2.2.1, (F.q8 h).2.2.2.2.2.2.2⟩, F.f0, F.f1, F.f2, F.f3, F.f4, fun _ => rfl, F.f6, F.f7, F.f8, F.g8, F.st0, F.st1, F.st2, F.mz⟩
      clear F
      go_simp
      exact HK.out _ _ ⟨_, _, _, _, _, _, _, _, _, _, _, _, rfl, HF.out⟩
    · obtain rfl := F.f5 (by simp [hdep])
      have HF : Hid (num4F r0 n m b4 ai ci tm S0 S1 S2 (upd d_ 6) x12 x13 x14 x15 x16 (.int .i64 (tm)) (.slice (some ⟨w1.heap.size, 0, none⟩) 1 1) x19 x2 w1.heap.size r1 r2 (w1.alloc (.cells #[.int .i64 (tm)] 3))) := ⟨F.q2, F.q3, F.q5, fun _ => (show _ from (by simp [hdep] : d_ 5 = true)), fun h => ⟨(F.q7 h).1, rfl⟩, fun h => ⟨(F.q8 h).1, (F.q8 h).2.1, (F.q8 h).2.2.1, (F.q8 h).2.2.2.1, (F.q8 h).2.2.2.2.1, (F.q8 h).2.2.2.2.2.1, rfl, (F.q8 h).2.2.2.2.2.2.2⟩, F.f0, F.f1, F.f2, F.f3, F.f4, F.f5, fun _ => rfl, F.f7, F.f8, F.g8, fun b => ks0.out w1 (by have h := F.st0 b; rw [show d_ 6 = false from hd_, F.mz hd_] at h; exact h), fun a b => ks1.out r1 w1 (by have h := F.st1 a b; rw [show d_ 6 = false from hd_, F.mz hd_] at h; exact h), fun a => (by have h2 : d_ 6 = true := (F.q7 a).2; rw [show d_ 6 = false from hd_] at h2; cases h2), fun h => (by simp [upd] at h)⟩
      clear F
      go_simp
      exact HK.out _ _ ⟨_, _, _, _, _, _, _, _, _, _, _, _, rfl, HF.out⟩
    · have hS := F.st1 (by simp [hdep] : d_ 3 = true) hd_
      rw [show d_ 6 = true from (by simp [hdep] : d_ 6 = true)] at hS
      obtain rfl := F.f3 (by simp [hdep])
      obtain rfl := F.f6 (by simp [hdep])
      obtain ⟨v_, w_, hr, hres⟩ := kc7.out ms r1 w1 hS
      rw [if_pos (by rfl)]
      refine wpIn_append_run (.tmp 15) (.tmp 18) 24 rfl _ _ _ _ rfl rfl hr ?_
      exact HK.out _ _ ⟨_, _, _, _, _, _, _, _, _, ms, r1, v_, rfl, ⟨F.q2, F.q3, F.q5, F.q6, fun _ => ⟨(show _ from (by simp [hdep] : d_ 3 = true)), (show _ from (by simp [hdep] : d_ 6 = true))⟩, fun h => ⟨(F.q8 h).1, (F.q8 h).2.1, (F.q8 h).2.2.1, (F.q8 h).2.2.2.1, (F.q8 h).2.2.2.2.1, (F.q8 h).2.2.2.2.2.1, (F.q8 h).2.2.2.2.2.2.1, rfl⟩, F.f0, F.f1, F.f2, F.f3, F.f4, F.f5, F.f6, fun _ => rfl, fun h => (by have h2 : d_ 7 = true := (F.q8 h).2.2.2.2.2.2.2; rw [show d_ 7 = false from hd_] at h2; cases h2), F.g8, fun h => (by have h2 : d_ 3 = false := h; rw [(by simp [hdep] : d_ 3 = true)] at h2; cases h2), fun _ h => (by simp [upd] at h), fun _ => (by rw [show upd d_ 7 6 = true from (by simp [hdep] : d_ 6 = true)]; exact hres), F.mz⟩⟩
    · obtain rfl := F.f7 (by simp [hdep])
      have HF : Hid (num4F r0 n m b4 ai ci tm S0 S1 S2 (upd d_ 8) x12 x13 x14 x15 x16 x17 x18 (.slice r2.1 (n + m + 1) r2.2) (.slice r2.1 (n + m + 1) r2.2) ms r1 r2 w1) := ⟨F.q2, F.q3, F.q5, F.q6, F.q7, fun _ => ⟨(show _ from (by simp [hdep] : d_ 0 = true)), (show _ from (by simp [hdep] : d_ 1 = true)), (show _ from (by simp [hdep] : d_ 2 = true)), (show _ from (by simp [hdep] : d_ 3 = true)), (show _ from (by simp [hdep] : d_ 4 = true)), (show _ from (by simp [hdep] : d_ 5 = true)), (show _ from (by simp [hdep] : d_ 6 = true)), (show _ from (by simp [hdep] : d_ 7 = true))⟩, F.f0, F.f1, F.f2, F.f3, F.f4, F.f5, F.f6, F.f7, fun _ => rfl, fun h => (by simp [upd] at h), F.st0, F.st1, F.st2, F.mz⟩
      clear F
      go_simp
      exact HK.out _ _ ⟨_, _, _, _, _, _, _, _, _, _, _, _, rfl, HF.out⟩
  · rintro d_ a_ w1 hall ⟨x12, x13, x14, x15, x16, x17, x18, x19, x2, ms, r1, r2, rfl, F⟩
    have hall' : ∀ k, k < 9 → d_ k = true := hall
    obtain rfl := F.f0 (hall' 0 (by decide))
    obtain rfl := F.f1 (hall' 1 (by decide))
    obtain rfl := F.f2 (hall' 2 (by decide))
    obtain rfl := F.f3 (hall' 3 (by decide))
    obtain rfl := F.f4 (hall' 4 (by decide))
    obtain rfl := F.f5 (hall' 5 (by decide))
    obtain rfl := F.f6 (hall' 6 (by decide))
    obtain rfl := F.f7 (hall' 7 (by decide))
    obtain rfl := F.f8 (hall' 8 (by decide))
    have hst := F.st2 (hall' 7 (by decide))
    rw [show d_ 6 = true from hall' 6 (by decide)] at hst
    exact HQ.out ms r1 r2 w1 hst
structure bef1F (a : Option Addr) (b : Option Addr) (n : Nat) (m : Nat) (c : Nat) (e : Nat) (x : Int) (y : Int) (bx : Nat) (b_ : Nat) (o1 : Int) (o2 : Int) (o3 : Int) (o4 : Int) (n1 : Nat) (n2 : Nat) (tt : Bool) (S0 : World → Prop) (S1 : Unit → World → Prop) (S2 : Unit → Unit → World → Prop) (S3 : Unit → Unit → Option Addr × Nat → World → Prop) (S4 : Unit → Unit → Option Addr × Nat → Option Addr × Nat → World → Prop) (S5 : Unit → Unit → Option Addr × Nat → Option Addr × Nat → Unit → World → Prop) (S6 : Unit → Unit → Option Addr × Nat → Option Addr × Nat → Unit → Nat → World → Prop) (S7 : Unit → Unit → Option Addr × Nat → Option Addr × Nat → Unit → Nat → Unit → World → Prop) (d : Nat → Bool) (x5 x6 x7 x8 x9 x10 x11 x12 x13 x14 x15 x16 x17 x18 x19 x20 x21 x22 x23 x24 x4 : Value) (r1 : Unit) (r2 : Unit) (r3 : Option Addr × Nat) (r4 : Option Addr × Nat) (r5 : Unit) (r6 : Nat) (r7 : Unit) (w : World) : Prop where
  q1 : d 1 = true → d 0 = true
  q3 : d 3 = true → d 2 = true
  q4 : d 4 = true → d 1 = true ∧ d 3 = true
  q6 : d 6 = true → d 5 = true
  q7 : d 7 = true → d 6 = true
  q9 : d 9 = true → d 8 = true
  q10 : d 10 = true → d 9 = true
  q11 : d 11 = true → d 4 = true ∧ d 7 = true ∧ d 10 = true
  q13 : d 13 = true → d 11 = true ∧ d 12 = true
  q15 : d 15 = true → d 13 = true ∧ d 14 = true
  q16 : d 16 = true → d 13 = true ∧ d 15 = true
  q17 : d 17 = true → d 4 = true ∧ d 11 = true ∧ d 16 = true
  q18 : d 18 = true → d 16 = true ∧ d 17 = true
  q19 : d 19 = true → d 18 = true
  q20 : d 20 = true → d 0 = true ∧ d 1 = true ∧ d 2 = true ∧ d 3 = true ∧ d 4 = true ∧ d 5 = true ∧ d 6 = true ∧ d 7 = true ∧ d 8 = true ∧ d 9 = true ∧ d 10 = true ∧ d 11 = true ∧ d 12 = true ∧ d 13 = true ∧ d 14 = true ∧ d 15 = true ∧ d 16 = true ∧ d 17 = true ∧ d 18 = true ∧ d 19 = true
  f0 : d 0 = true → x5 = .pointer (some ⟨bx, 1, none⟩)
  f1 : d 1 = true → x6 = .int .i64 (x)
  f2 : d 2 = true → x7 = .pointer (some ⟨b_, 1, none⟩)
  f3 : d 3 = true → x8 = .int .i64 (y)
  f4 : d 4 = true → x9 = .int .i64 (o1)
  f5 : d 5 = true → x10 = .pointer (some ⟨bx, 0, none⟩)
  f6 : d 6 = true → x11 = .slice a n c
  f7 : d 7 = true → x12 = .int .i64 ((n : Int))
  f8 : d 8 = true → x13 = .pointer (some ⟨b_, 0, none⟩)
  f9 : d 9 = true → x14 = .slice b m e
  f10 : d 10 = true → x15 = .int .i64 ((m : Int))
  f11 : d 11 = true → x16 = .int .i64 (o2)
  f12 : d 12 = true → x17 = .agg #[.slice a n c, .int .i64 (x)]
  f13 : d 13 = true → x18 = .slice r3.1 n1 r3.2
  f14 : d 14 = true → x19 = .agg #[.slice b m e, .int .i64 (y)]
  f15 : d 15 = true → x20 = .slice r4.1 n2 r4.2
  f16 : d 16 = true → x21 = .int .i64 (o3)
  f17 : d 17 = true → x22 = .slice (some ⟨r6, 0, none⟩) 3 3
  f18 : d 18 = true → x23 = .int .i64 (o4)
  f19 : d 19 = true → x24 = .bool tt
  f20 : d 20 = true → x4 = .bool tt
  st0 : d 4 = false → S0 w
  st1 : d 4 = true → d 11 = false → S1 r1 w
  st2 : d 11 = true → d 13 = false → S2 r1 r2 w
  st3 : d 13 = true → d 15 = false → S3 r1 r2 r3 w
  st4 : d 15 = true → d 16 = false → S4 r1 r2 r3 r4 w
  st5 : d 16 = true → d 17 = false → S5 r1 r2 r3 r4 r5 w
  st6 : d 17 = true → d 18 = false → S6 r1 r2 r3 r4 r5 r6 w
  st7 : d 18 = true → S7 r1 r2 r3 r4 r5 r6 r7 w
noncomputable def bef1C : Code := (Try.f54.body.bind (regionAt 1)).getD .skip
set_option maxRecDepth 100000 in
set_option maxHeartbeats 4000000 in
theorem bef1 {a : Option Addr} {b : Option Addr} {n : Nat} {m : Nat} {c : Nat} {e : Nat} {x : Int} {y : Int} {bx : Nat} {b_ : Nat} {o1 : Int} {o2 : Int} {o3 : Int} {o4 : Int} {n1 : Nat} {n2 : Nat} {tt : Bool} {S0 : World → Prop} {S1 : Unit → World → Prop} {S2 : Unit → Unit → World → Prop} {S3 : Unit → Unit → Option Addr × Nat → World → Prop} {S4 : Unit → Unit → Option Addr × Nat → Option Addr × Nat → World → Prop} {S5 : Unit → Unit → Option Addr × Nat → Option Addr × Nat → Unit → World → Prop} {S6 : Unit → Unit → Option Addr × Nat → Option Addr × Nat → Unit → Nat → World → Prop} {S7 : Unit → Unit → Option Addr × Nat → Option Addr × Nat → Unit → Nat → Unit → World → Prop} {Q : Exit → Act → World → Prop} {W1 : World} (htt : decide (o4 < 0) = tt) (h0 : S0 W1.drew)
    (kl1 : Hid (∀ (w : World), (S0 w) → w.cell? ⟨bx, 1, none⟩ = some (.int .i64 (x))))
    (kl3 : Hid (∀ (w : World), (S0 w) → w.cell? ⟨b_, 1, none⟩ = some (.int .i64 (y))))
    (kc4 : Hid (∀ (w : World), S0 w → Calls Try.prog 85 #[.int .i64 (x), .int .i64 (y)] w fun e w' => ∃ r1 : Unit, e = .returned (.int .i64 (o1)) ∧ S1 r1 w'))
    (kl6 : Hid (∀ (r1 : Unit) (w : World), (S0 w ∨ S1 r1 w) → w.cell? ⟨bx, 0, none⟩ = some (.slice a n c)))
    (kl9 : Hid (∀ (r1 : Unit) (w : World), (S0 w ∨ S1 r1 w) → w.cell? ⟨b_, 0, none⟩ = some (.slice b m e)))
    (kc11 : Hid (∀ (r1 : Unit) (w : World), S1 r1 w → Calls Try.prog 85 #[.int .i64 ((n : Int)), .int .i64 ((m : Int))] w fun e w' => ∃ r2 : Unit, e = .returned (.int .i64 (o2)) ∧ S2 r1 r2 w'))
    (kl12 : Hid (∀ (r1 : Unit) (r2 : Unit) (w : World), (S0 w ∨ S1 r1 w ∨ S2 r1 r2 w) → w.cell? ⟨bx, 0, none⟩ = some (.slice a n c) ∧ w.cell? ⟨bx, 1, none⟩ = some (.int .i64 (x))))
    (kc13 : Hid (∀ (r1 : Unit) (r2 : Unit) (w : World), S2 r1 r2 w → Calls Try.prog 87 #[.agg #[.slice a n c, .int .i64 (x)]] w fun e w' => ∃ r3 : Option Addr × Nat, e = .returned (.slice r3.1 n1 r3.2) ∧ S3 r1 r2 r3 w'))
    (kl14 : Hid (∀ (r1 : Unit) (r2 : Unit) (r3 : Option Addr × Nat) (w : World), (S0 w ∨ S1 r1 w ∨ S2 r1 r2 w ∨ S3 r1 r2 r3 w) → w.cell? ⟨b_, 0, none⟩ = some (.slice b m e) ∧ w.cell? ⟨b_, 1, none⟩ = some (.int .i64 (y))))
    (kc15 : Hid (∀ (r1 : Unit) (r2 : Unit) (r3 : Option Addr × Nat) (w : World), S3 r1 r2 r3 w → Calls Try.prog 87 #[.agg #[.slice b m e, .int .i64 (y)]] w fun e w' => ∃ r4 : Option Addr × Nat, e = .returned (.slice r4.1 n2 r4.2) ∧ S4 r1 r2 r3 r4 w'))
    (kc16 : Hid (∀ (r1 : Unit) (r2 : Unit) (r3 : Option Addr × Nat) (r4 : Option Addr × Nat) (w : World), S4 r1 r2 r3 r4 w → Calls Try.prog 86 #[.slice r3.1 n1 r3.2, .slice r4.1 n2 r4.2] w fun e w' => ∃ r5 : Unit, e = .returned (.int .i64 (o3)) ∧ S5 r1 r2 r3 r4 r5 w'))
    (kc17 : Hid (∀ (r1 : Unit) (r2 : Unit) (r3 : Option Addr × Nat) (r4 : Option Addr × Nat) (r5 : Unit) (w : World), S5 r1 r2 r3 r4 r5 w → S6 r1 r2 r3 r4 r5 w.heap.size (w.alloc (.cells #[.int .i64 (o1), .int .i64 (o2), .int .i64 (o3)] 3))))
    (kc18 : Hid (∀ (r1 : Unit) (r2 : Unit) (r3 : Option Addr × Nat) (r4 : Option Addr × Nat) (r5 : Unit) (r6 : Nat) (w : World), S6 r1 r2 r3 r4 r5 r6 w → Calls Try.prog 84 #[.slice (some ⟨r6, 0, none⟩) 3 3] w fun e w' => ∃ r7 : Unit, e = .returned (.int .i64 (o4)) ∧ S7 r1 r2 r3 r4 r5 r6 r7 w'))
    {s0 s1 s4 s5 s6 s7 s8 s9 s10 s11 s12 s13 s14 s15 s16 s17 s18 s19 s20 s21 s22 s23 s24 : Value} {dd : List Deferred}
    (hQ : ∀ (r1 : Unit) (r2 : Unit) (r3 : Option Addr × Nat) (r4 : Option Addr × Nat) (r5 : Unit) (r6 : Nat) (r7 : Unit) (w' : World), S7 r1 r2 r3 r4 r5 r6 r7 w' → Q .normal { tmps := #[s0, s1, .pointer (some ⟨bx, 0, none⟩), .pointer (some ⟨b_, 0, none⟩), .bool tt, .pointer (some ⟨bx, 1, none⟩), .int .i64 (x), .pointer (some ⟨b_, 1, none⟩), .int .i64 (y), .int .i64 (o1), .pointer (some ⟨bx, 0, none⟩), .slice a n c, .int .i64 ((n : Int)), .pointer (some ⟨b_, 0, none⟩), .slice b m e, .int .i64 ((m : Int)), .int .i64 (o2), .agg #[.slice a n c, .int .i64 (x)], .slice r3.1 n1 r3.2, .agg #[.slice b m e, .int .i64 (y)], .slice r4.1 n2 r4.2, .int .i64 (o3), .slice (some ⟨r6, 0, none⟩) 3 3, .int .i64 (o4), .bool tt], defers := dd } w') :
    Code.wpIn (wideAt none) 0 Try.prog bef1C Q { tmps := #[s0, s1, .pointer (some ⟨bx, 0, none⟩), .pointer (some ⟨b_, 0, none⟩), s4, s5, s6, s7, s8, s9, s10, s11, s12, s13, s14, s15, s16, s17, s18, s19, s20, s21, s22, s23, s24], defers := dd } W1 := by
  have HQ := Lib.hid hQ
  clear hQ
  conv => arg 4; whnf
  refine wpIn_region_invG mixed (by kernel_rfl) (fun d_ a_ w' => ∃ (x5 : Value) (x6 : Value) (x7 : Value) (x8 : Value) (x9 : Value) (x10 : Value) (x11 : Value) (x12 : Value) (x13 : Value) (x14 : Value) (x15 : Value) (x16 : Value) (x17 : Value) (x18 : Value) (x19 : Value) (x20 : Value) (x21 : Value) (x22 : Value) (x23 : Value) (x24 : Value) (x4 : Value) (r1 : Unit) (r2 : Unit) (r3 : Option Addr × Nat) (r4 : Option Addr × Nat) (r5 : Unit) (r6 : Nat) (r7 : Unit), a_ = { tmps := #[s0, s1, .pointer (some ⟨bx, 0, none⟩), .pointer (some ⟨b_, 0, none⟩), x4, x5, x6, x7, x8, x9, x10, x11, x12, x13, x14, x15, x16, x17, x18, x19, x20, x21, x22, x23, x24], defers := dd } ∧ bef1F a b n m c e x y bx b_ o1 o2 o3 o4 n1 n2 tt S0 S1 S2 S3 S4 S5 S6 S7 d_ x5 x6 x7 x8 x9 x10 x11 x12 x13 x14 x15 x16 x17 x18 x19 x20 x21 x22 x23 x24 x4 r1 r2 r3 r4 r5 r6 r7 w') ?_ ?_ ?_
  · refine ⟨s5, s6, s7, s8, s9, s10, s11, s12, s13, s14, s15, s16, s17, s18, s19, s20, s21, s22, s23, s24, s4, default, default, default, default, default, 0, default, rfl, ?_⟩
    constructor <;> first | rfl | (intro _; rfl) | (intro h; cases h; done) | (intro _; exact h0) | exact h0
  · refine ⟨?_, ?_, ?_, ?_, ?_, ?_, ?_, ?_, ?_, ?_, ?_, ?_, ?_, ?_, ?_, ?_, ?_, ?_, ?_, ?_, ?_, trivial⟩
    all_goals
      rintro d_ a_ w1 K hd_ hdep ⟨x5, x6, x7, x8, x9, x10, x11, x12, x13, x14, x15, x16, x17, x18, x19, x20, x21, x22, x23, x24, x4, r1, r2, r3, r4, r5, r6, r7, rfl, F⟩ HK
      simp [Region.binds] at hdep
    · have HF : Hid (bef1F a b n m c e x y bx b_ o1 o2 o3 o4 n1 n2 tt S0 S1 S2 S3 S4 S5 S6 S7 (upd d_ 0) (.pointer (some ⟨bx, 1, none⟩)) x6 x7 x8 x9 x10 x11 x12 x13 x14 x15 x16 x17 x18 x19 x20 x21 x22 x23 x24 x4 r1 r2 r3 r4 r5 r6 r7 w1) := ⟨fun h => rfl, F.q3, F.q4, F.q6, F.q7, F.q9, F.q10, F.q11, F.q13, F.q15, F.q16, F.q17, F.q18, F.q19, fun h => ⟨rfl, (F.q20 h).2.1, (F.q20 h).2.2.1, (F.q20 h).2.2.2.1, (F.q20 h).2.2.2.2.1, (F.q20 h).2.2.2.2.2.1, (F.q20 h).2.2.2.2.2.2.1, (F.q20 h).2.2.2.2.2.2.2.1, (F.q20 h).2.2.2.2.2.2.2.2.1, (F.q20 h).2.2.2.2.2.2.2.2.2.1, (F.q20 h).2.2.2.2.2.2.2.2.2.2.1, (F.q20 h).2.2.2.2.2.2.2.2.2.2.2.1, (F.q20 h).2.2.2.2.2.2.2.2.2.2.2.2.1, (F.q20 h).2.2.2.2.2.2.2.2.2.2.2.2.2.1, (F.q20 h).2.2.2.2.2.2.2.2.2.2.2.2.2.2.1, (F.q20 h).2.2.2.2.2.2.2.2.2.2.2.2.2.2.2.1, (F.q20 h).2.2.2.2.2.2.2.2.2.2.2.2.2.2.2.2.1, (F.q20 h).2.2.2.2.2.2.2.2.2.2.2.2.2.2.2.2.2.1, (F.q20 h).2.2.2.2.2.2.2.2.2.2.2.2.2.2.2.2.2.2.1, (F.q20 h).2.2.2.2.2.2.2.2.2.2.2.2.2.2.2.2.2.2.2⟩, fun _ => rfl, F.f1, F.f2, F.f3, F.f4, F.f5, F.f6, F.f7, F.f8, F.f9, F.f10, F.f11, F.f12, F.f13, F.f14, F.f15, F.f16, F.f17, F.f18, F.f19, F.f20, F.st0, F.st1, F.st2, F.st3, F.st4, F.st5, F.st6, F.st7⟩
      clear F
      go_simp
      exact HK.out _ _ ⟨_, _, _, _, _, _, _, _, _, _, _, _, _, _, _, _, _, _, _, _, _, _, _, _, _, _, _, _, rfl, HF.out⟩
    · have hst : S0 w1 := by
        have n_ : d_ 4 = false := by
          cases e_ : d_ 4 with
          | false => rfl
          | true => have h2 := (F.q4 e_).1; rw [show d_ 1 = false from hd_] at h2; cases h2
        exact (F.st0 n_)
      have kk := kl1.out w1 hst
      clear hst
      obtain rfl := F.f0 (by simp [hdep])
      have HF : Hid (bef1F a b n m c e x y bx b_ o1 o2 o3 o4 n1 n2 tt S0 S1 S2 S3 S4 S5 S6 S7 (upd d_ 1) (.pointer (some ⟨bx, 1, none⟩)) (.int .i64 (x)) x7 x8 x9 x10 x11 x12 x13 x14 x15 x16 x17 x18 x19 x20 x21 x22 x23 x24 x4 r1 r2 r3 r4 r5 r6 r7 w1) := ⟨fun _ => (show _ from (by simp [hdep] : d_ 0 = true)), F.q3, fun h => ⟨rfl, (F.q4 h).2⟩, F.q6, F.q7, F.q9, F.q10, F.q11, F.q13, F.q15, F.q16, F.q17, F.q18, F.q19, fun h => ⟨(F.q20 h).1, rfl, (F.q20 h).2.2.1, (F.q20 h).2.2.2.1, (F.q20 h).2.2.2.2.1, (F.q20 h).2.2.2.2.2.1, (F.q20 h).2.2.2.2.2.2.1, (F.q20 h).2.2.2.2.2.2.2.1, (F.q20 h).2.2.2.2.2.2.2.2.1, (F.q20 h).2.2.2.2.2.2.2.2.2.1, (F.q20 h).2.2.2.2.2.2.2.2.2.2.1, (F.q20 h).2.2.2.2.2.2.2.2.2.2.2.1, (F.q20 h).2.2.2.2.2.2.2.2.2.2.2.2.1, (F.q20 h).2.2.2.2.2.2.2.2.2.2.2.2.2.1, (F.q20 h).2.2.2.2.2.2.2.2.2.2.2.2.2.2.1, (F.q20 h).2.2.2.2.2.2.2.2.2.2.2.2.2.2.2.1, (F.q20 h).2.2.2.2.2.2.2.2.2.2.2.2.2.2.2.2.1, (F.q20 h).2.2.2.2.2.2.2.2.2.2.2.2.2.2.2.2.2.1, (F.q20 h).2.2.2.2.2.2.2.2.2.2.2.2.2.2.2.2.2.2.1, (F.q20 h).2.2.2.2.2.2.2.2.2.2.2.2.2.2.2.2.2.2.2⟩, F.f0, fun _ => rfl, F.f2, F.f3, F.f4, F.f5, F.f6, F.f7, F.f8, F.f9, F.f10, F.f11, F.f12, F.f13, F.f14, F.f15, F.f16, F.f17, F.f18, F.f19, F.f20, F.st0, F.st1, F.st2, F.st3, F.st4, F.st5, F.st6, F.st7⟩
      clear F
      go_simp
      exact HK.out _ _ ⟨_, _, _, _, _, _, _, _, _, _, _, _, _, _, _, _, _, _, _, _, _, _, _, _, _, _, _, _, rfl, HF.out⟩
    · have HF : Hid (bef1F a b n m c e x y bx b_ o1 o2 o3 o4 n1 n2 tt S0 S1 S2 S3 S4 S5 S6 S7 (upd d_ 2) x5 x6 (.pointer (some ⟨b_, 1, none⟩)) x8 x9 x10 x11 x12 x13 x14 x15 x16 x17 x18 x19 x20 x21 x22 x23 x24 x4 r1 r2 r3 r4 r5 r6 r7 w1) := ⟨F.q1, fun h => rfl, F.q4, F.q6, F.q7, F.q9, F.q10, F.q11, F.q13, F.q15, F.q16, F.q17, F.q18, F.q19, fun h => ⟨(F.q20 h).1, (F.q20 h).2.1, rfl, (F.q20 h).2.2.2.1, (F.q20 h).2.2.2.2.1, (F.q20 h).2.2.2.2.2.1, (F.q20 h).2.2.2.2.2.2.1, (F.q20 h).2.2.2.2.2.2.2.1, (F.q20 h).2.2.2.2.2.2.2.2.1, (F.q20 h).2.2.2.2.2.2.2.2.2.1, (F.q20 h).2.2.2.2.2.2.2.2.2.2.1, (F.q20 h).2.2.2.2.2.2.2.2.2.2.2.1, (F.q20 h).2.2.2.2.2.2.2.2.2.2.2.2.1, (F.q20 h).2.2.2.2.2.2.2.2.2.2.2.2.2.1, (F.q20 h).2.2.2.2.2.2.2.2.2.2.2.2.2.2.1, (F.q20 h).2.2.2.2.2.2.2.2.2.2.2.2.2.2.2.1, (F.q20 h).2.2.2.2.2.2.2.2.2.2.2.2.2.2.2.2.1, (F.q20 h).2.2.2.2.2.2.2.2.2.2.2.2.2.2.2.2.2.1, (F.q20 h).2.2.2.2.2.2.2.2.2.2.2.2.2.2.2.2.2.2.1, (F.q20 h).2.2.2.2.2.2.2.2.2.2.2.2.2.2.2.2.2.2.2⟩, F.f0, F.f1, fun _ => rfl, F.f3, F.f4, F.f5, F.f6, F.f7, F.f8, F.f9, F.f10, F.f11, F.f12, F.f13, F.f14, F.f15, F.f16, F.f17, F.f18, F.f19, F.f20, F.st0, F.st1, F.st2, F.st3, F.st4, F.st5, F.st6, F.st7⟩
      clear F
      go_simp
      exact HK.out _ _ ⟨_, _, _, _, _, _, _, _, _, _, _, _, _, _, _, _, _, _, _, _, _, _, _, _, _, _, _, _, rfl, HF.out⟩
    · have hst : S0 w1 := by
        have n_ : d_ 4 = false := by
          cases e_ : d_ 4 with
          | false => rfl
          | true => have h2 := (F.q4 e_).2; rw [show d_ 3 = false from hd_] at h2; cases h2
        exact (F.st0 n_)
      have kk := kl3.out w1 hst
      clear hst
      obtain rfl := F.f2 (by simp [hdep])
      have HF : Hid (bef1F a b n m c e x y bx b_ o1 o2 o3 o4 n1 n2 tt S0 S1 S2 S3 S4 S5 S6 S7 (upd d_ 3) x5 x6 (.pointer (some ⟨b_, 1, none⟩)) (.int .i64 (y)) x9 x10 x11 x12 x13 x14 x15 x16 x17 x18 x19 x20 x21 x22 x23 x24 x4 r1 r2 r3 r4 r5 r6 r7 w1) := ⟨F.q1, fun _ => (show _ from (by simp [hdep] : d_ 2 = true)), fun h => ⟨(F.q4 h).1, rfl⟩, F.q6, F.q7, F.q9, F.q10, F.q11, F.q13, F.q15, F.q16, F.q17, F.q18, F.q19, fun h => ⟨(F.q20 h).1, (F.q20 h).2.1, (F.q20 h).2.2.1, rfl, (F.q20 h).2.2.2.2.1, (F.q20 h).2.2.2.2.2.1, (F.q20 h).2.2.2.2.2.2.1, (F.q20 h).2.2.2.2.2.2.2.1, (F.q20 h).2.2.2.2.2.2.2.2.1, (F.q20 h).2.2.2.2.2.2.2.2.2.1, (F.q20 h).2.2.2.2.2.2.2.2.2.2.1, (F.q20 h).2.2.2.2.2.2.2.2.2.2.2.1, (F.q20 h).2.2.2.2.2.2.2.2.2.2.2.2.1, (F.q20 h).2.2.2.2.2.2.2.2.2.2.2.2.2.1, (F.q20 h).2.2.2.2.2.2.2.2.2.2.2.2.2.2.1, (F.q20 h).2.2.2.2.2.2.2.2.2.2.2.2.2.2.2.1, (F.q20 h).2.2.2.2.2.2.2.2.2.2.2.2.2.2.2.2.1, (F.q20 h).2.2.2.2.2.2.2.2.2.2.2.2.2.2.2.2.2.1, (F.q20 h).2.2.2.2.2.2.2.2.2.2.2.2.2.2.2.2.2.2.1, (F.q20 h).2.2.2.2.2.2.2.2.2.2.2.2.2.2.2.2.2.2.2⟩, F.f0, F.f1, F.f2, fun _ => rfl, F.f4, F.f5, F.f6, F.f7, F.f8, F.f9, F.f10, F.f11, F.f12, F.f13, F.f14, F.f15, F.f16, F.f17, F.f18, F.f19, F.f20, F.st0, F.st1, F.st2, F.st3, F.st4, F.st5, F.st6, F.st7⟩
      clear F
      go_simp
      exact HK.out _ _ ⟨_, _, _, _, _, _, _, _, _, _, _, _, _, _, _, _, _, _, _, _, _, _, _, _, _, _, _, _, rfl, HF.out⟩
    · have hS := F.st0  hd_
      obtain rfl := F.f1 (by simp [hdep])
      obtain rfl := F.f3 (by simp [hdep])
      have hc := kc4.out w1 hS
      have HF := Lib.hid F
      clear F
      go_simp
      refine ⟨trivial, rfl, wideAt_calls (hc.mono ?_)⟩
      rintro e w5 ⟨v_, rfl, hres⟩
      exact HK.out _ _ ⟨_, _, _, _, _, _, _, _, _, _, _, _, _, _, _, _, _, _, _, _, _, v_, r2, r3, r4, r5, r6, r7, rfl, ⟨HF.out.q1, HF.out.q3, fun _ => ⟨(show _ from (by simp [hdep] : d_ 1 = true)), (show _ from (by simp [hdep] : d_ 3 = true))⟩, HF.out.q6, HF.out.q7, HF.out.q9, HF.out.q10, fun h => ⟨rfl, (HF.out.q11 h).2.1, (HF.out.q11 h).2.2⟩, HF.out.q13, HF.out.q15, HF.out.q16, fun h => ⟨rfl, (HF.out.q17 h).2.1, (HF.out.q17 h).2.2⟩, HF.out.q18, HF.out.q19, fun h => ⟨(HF.out.q20 h).1, (HF.out.q20 h).2.1, (HF.out.q20 h).2.2.1, (HF.out.q20 h).2.2.2.1, rfl, (HF.out.q20 h).2.2.2.2.2.1, (HF.out.q20 h).2.2.2.2.2.2.1, (HF.out.q20 h).2.2.2.2.2.2.2.1, (HF.out.q20 h).2.2.2.2.2.2.2.2.1, (HF.out.q20 h).2.2.2.2.2.2.2.2.2.1, (HF.out.q20 h).2.2.2.2.2.2.2.2.2.2.1, (HF.out.q20 h).2.2.2.2.2.2.2.2.2.2.2.1, (HF.out.q20 h).2.2.2.2.2.2.2.2.2.2.2.2.1, (HF.out.q20 h).2.2.2.2.2.2.2.2.2.2.2.2.2.1, (HF.out.q20 h).2.2.2.2.2.2.2.2.2.2.2.2.2.2.1, (HF.out.q20 h).2.2.2.2.2.2.2.2.2.2.2.2.2.2.2.1, (HF.out.q20 h).2.2.2.2.2.2.2.2.2.2.2.2.2.2.2.2.1, (HF.out.q20 h).2.2.2.2.2.2.2.2.2.2.2.2.2.2.2.2.2.1, (HF.out.q20 h).2.2.2.2.2.2.2.2.2.2.2.2.2.2.2.2.2.2.1, (HF.out.q20 h).2.2.2.2.2.2.2.2.2.2.2.2.2.2.2.2.2.2.2⟩, HF.out.f0, HF.out.f1, HF.out.f2, HF.out.f3, fun _ => rfl, HF.out.f5, HF.out.f6, HF.out.f7, HF.out.f8, HF.out.f9, HF.out.f10, HF.out.f11, HF.out.f12, HF.out.f13, HF.out.f14, HF.out.f15, HF.out.f16, HF.out.f17, HF.out.f18, HF.out.f19, HF.out.f20, fun h => (by simp [upd] at h), fun _ _ => hres, fun h _ => (by have h2 : d_ 4 = true := (HF.out.q11 h).1; rw [show d_ 4 = false from hd_] at h2; cases h2), fun h _ => (by have h2 : d_ 4 = true := (HF.out.q11 (HF.out.q13 h).1).1; rw [show d_ 4 = false from hd_] at h2; cases h2), fun h _ => (by have h2 : d_ 4 = true := (HF.out.q11 (HF.out.q13 (HF.out.q15 h).1).1).1; rw [show d_ 4 = false from hd_] at h2; cases h2), fun h _ => (by have h2 : d_ 4 = true := (HF.out.q11 (HF.out.q13 (HF.out.q16 h).1).1).1; rw [show d_ 4 = false from hd_] at h2; cases h2), fun h _ => (by have h2 : d_ 4 = true := (HF.out.q17 h).1; rw [show d_ 4 = false from hd_] at h2; cases h2), fun h => (by have h2 : d_ 4 = true := (HF.out.q11 (HF.out.q13 (HF.out.q16 (HF.out.q18 h).1).1).1).1; rw [show d_ 4 = false from hd_] at h2; cases h2)⟩⟩
    · have HF : Hid (bef1F a b n m c e x y bx b_ o1 o2 o3 o4 n1 n2 tt S0 S1 S2 S3 S4 S5 S6 S7 (upd d_ 5) x5 x6 x7 x8 x9 (.pointer (some ⟨bx, 0, none⟩)) x11 x12 x13 x14 x15 x16 x17 x18 x19 x20 x21 x22 x23 x24 x4 r1 r2 r3 r4 r5 r6 r7 w1) := ⟨F.q1, F.q3, F.q4, fun h => rfl, F.q7, F.q9, F.q10, F.q11, F.q13, F.q15, F.q16, F.q17, F.q18, F.q19, fun h => ⟨(F.q20 h).1, (F.q20 h).2.1, (F.q20 h).2.2.1, (F.q20 h).2.2.2.1, (F.q20 h).2.2.2.2.1, rfl, (F.q20 h).2.2.2.2.2.2.1, (F.q20 h).2.2.2.2.2.2.2.1, (F.q20 h).2.2.2.2.2.2.2.2.1, (F.q20 h).2.2.2.2.2.2.2.2.2.1, (F.q20 h).2.2.2.2.2.2.2.2.2.2.1, (F.q20 h).2.2.2.2.2.2.2.2.2.2.2.1, (F.q20 h).2.2.2.2.2.2.2.2.2.2.2.2.1, (F.q20 h).2.2.2.2.2.2.2.2.2.2.2.2.2.1, (F.q20 h).2.2.2.2.2.2.2.2.2.2.2.2.2.2.1, (F.q20 h).2.2.2.2.2.2.2.2.2.2.2.2.2.2.2.1, (F.q20 h).2.2.2.2.2.2.2.2.2.2.2.2.2.2.2.2.1, (F.q20 h).2.2.2.2.2.2.2.2.2.2.2.2.2.2.2.2.2.1, (F.q20 h).2.2.2.2.2.2.2.2.2.2.2.2.2.2.2.2.2.2.1, (F.q20 h).2.2.2.2.2.2.2.2.2.2.2.2.2.2.2.2.2.2.2⟩, F.f0, F.f1, F.f2, F.f3, F.f4, fun _ => rfl, F.f6, F.f7, F.f8, F.f9, F.f10, F.f11, F.f12, F.f13, F.f14, F.f15, F.f16, F.f17, F.f18, F.f19, F.f20, F.st0, F.st1, F.st2, F.st3, F.st4, F.st5, F.st6, F.st7⟩
      clear F
      go_simp
      exact HK.out _ _ ⟨_, _, _, _, _, _, _, _, _, _, _, _, _, _, _, _, _, _, _, _, _, _, _, _, _, _, _, _, rfl, HF.out⟩
    · have hst : S0 w1 ∨ S1 r1 w1 := by
        cases e1 : d_ 4 with
        | false => exact .inl ((F.st0 e1))
        | true =>
          have n_ : d_ 11 = false := by
            cases e_ : d_ 11 with
            | false => rfl
            | true => have h2 := (F.q7 (F.q11 e_).2.1); rw [show d_ 6 = false from hd_] at h2; cases h2
          exact .inr ((F.st1 e1 n_))
      have kk := kl6.out r1 w1 hst
      clear hst
      obtain rfl := F.f5 (by simp [hdep])
      have HF : Hid (bef1F a b n m c e x y bx b_ o1 o2 o3 o4 n1 n2 tt S0 S1 S2 S3 S4 S5 S6 S7 (upd d_ 6) x5 x6 x7 x8 x9 (.pointer (some ⟨bx, 0, none⟩)) (.slice a n c) x12 x13 x14 x15 x16 x17 x18 x19 x20 x21 x22 x23 x24 x4 r1 r2 r3 r4 r5 r6 r7 w1) := ⟨F.q1, F.q3, F.q4, fun _ => (show _ from (by simp [hdep] : d_ 5 = true)), fun h => rfl, F.q9, F.q10, F.q11, F.q13, F.q15, F.q16, F.q17, F.q18, F.q19, fun h => ⟨(F.q20 h).1, (F.q20 h).2.1, (F.q20 h).2.2.1, (F.q20 h).2.2.2.1, (F.q20 h).2.2.2.2.1, (F.q20 h).2.2.2.2.2.1, rfl, (F.q20 h).2.2.2.2.2.2.2.1, (F.q20 h).2.2.2.2.2.2.2.2.1, (F.q20 h).2.2.2.2.2.2.2.2.2.1, (F.q20 h).2.2.2.2.2.2.2.2.2.2.1, (F.q20 h).2.2.2.2.2.2.2.2.2.2.2.1, (F.q20 h).2.2.2.2.2.2.2.2.2.2.2.2.1, (F.q20 h).2.2.2.2.2.2.2.2.2.2.2.2.2.1, (F.q20 h).2.2.2.2.2.2.2.2.2.2.2.2.2.2.1, (F.q20 h).2.2.2.2.2.2.2.2.2.2.2.2.2.2.2.1, (F.q20 h).2.2.2.2.2.2.2.2.2.2.2.2.2.2.2.2.1, (F.q20 h).2.2.2.2.2.2.2.2.2.2.2.2.2.2.2.2.2.1, (F.q20 h).2.2.2.2.2.2.2.2.2.2.2.2.2.2.2.2.2.2.1, (F.q20 h).2.2.2.2.2.2.2.2.2.2.2.2.2.2.2.2.2.2.2⟩, F.f0, F.f1, F.f2, F.f3, F.f4, F.f5, fun _ => rfl, F.f7, F.f8, F.f9, F.f10, F.f11, F.f12, F.f13, F.f14, F.f15, F.f16, F.f17, F.f18, F.f19, F.f20, F.st0, F.st1, F.st2, F.st3, F.st4, F.st5, F.st6, F.st7⟩
      clear F
      go_simp
      exact HK.out _ _ ⟨_, _, _, _, _, _, _, _, _, _, _, _, _, _, _, _, _, _, _, _, _, _, _, _, _, _, _, _, rfl, HF.out⟩
    · obtain rfl := F.f6 (by simp [hdep])
      have HF : Hid (bef1F a b n m c e x y bx b_ o1 o2 o3 o4 n1 n2 tt S0 S1 S2 S3 S4 S5 S6 S7 (upd d_ 7) x5 x6 x7 x8 x9 x10 (.slice a n c) (.int .i64 ((n : Int))) x13 x14 x15 x16 x17 x18 x19 x20 x21 x22 x23 x24 x4 r1 r2 r3 r4 r5 r6 r7 w1) := ⟨F.q1, F.q3, F.q4, F.q6, fun _ => (show _ from (by simp [hdep] : d_ 6 = true)), F.q9, F.q10, fun h => ⟨(F.q11 h).1, rfl, (F.q11 h).2.2⟩, F.q13, F.q15, F.q16, F.q17, F.q18, F.q19, fun h => ⟨(F.q20 h).1, (F.q20 h).2.1, (F.q20 h).2.2.1, (F.q20 h).2.2.2.1, (F.q20 h).2.2.2.2.1, (F.q20 h).2.2.2.2.2.1, (F.q20 h).2.2.2.2.2.2.1, rfl, (F.q20 h).2.2.2.2.2.2.2.2.1, (F.q20 h).2.2.2.2.2.2.2.2.2.1, (F.q20 h).2.2.2.2.2.2.2.2.2.2.1, (F.q20 h).2.2.2.2.2.2.2.2.2.2.2.1, (F.q20 h).2.2.2.2.2.2.2.2.2.2.2.2.1, (F.q20 h).2.2.2.2.2.2.2.2.2.2.2.2.2.1, (F.q20 h).2.2.2.2.2.2.2.2.2.2.2.2.2.2.1, (F.q20 h).2.2.2.2.2.2.2.2.2.2.2.2.2.2.2.1, (F.q20 h).2.2.2.2.2.2.2.2.2.2.2.2.2.2.2.2.1, (F.q20 h).2.2.2.2.2.2.2.2.2.2.2.2.2.2.2.2.2.1, (F.q20 h).2.2.2.2.2.2.2.2.2.2.2.2.2.2.2.2.2.2.1, (F.q20 h).2.2.2.2.2.2.2.2.2.2.2.2.2.2.2.2.2.2.2⟩, F.f0, F.f1, F.f2, F.f3, F.f4, F.f5, F.f6, fun _ => rfl, F.f8, F.f9, F.f10, F.f11, F.f12, F.f13, F.f14, F.f15, F.f16, F.f17, F.f18, F.f19, F.f20, F.st0, F.st1, F.st2, F.st3, F.st4, F.st5, F.st6, F.st7⟩
      clear F
      go_simp
      exact HK.out _ _ ⟨_, _, _, _, _, _, _, _, _, _, _, _, _, _, _, _, _, _, _, _, _, _, _, _, _, _, _, _, rfl, HF.out⟩
    · have HF : Hid (bef1F a b n m c e x y bx b_ o1 o2 o3 o4 n1 n2 tt S0 S1 S2 S3 S4 S5 S6 S7 (upd d_ 8) x5 x6 x7 x8 x9 x10 x11 x12 (.pointer (some ⟨b_, 0, none⟩)) x14 x15 x16 x17 x18 x19 x20 x21 x22 x23 x24 x4 r1 r2 r3 r4 r5 r6 r7 w1) := ⟨F.q1, F.q3, F.q4, F.q6, F.q7, fun h => rfl, F.q10, F.q11, F.q13, F.q15, F.q16, F.q17, F.q18, F.q19, fun h => ⟨(F.q20 h).1, (F.q20 h).2.1, (F.q20 h).2.2.1, (F.q20 h).2.2.2.1, (F.q20 h).2.2.2.2.1, (F.q20 h).2.2.2.2.2.1, (F.q20 h).2.2.2.2.2.2.1, (F.q20 h).2.2.2.2.2.2.2.1, rfl, (F.q20 h).2.2.2.2.2.2.2.2.2.1, (F.q20 h).2.2.2.2.2.2.2.2.2.2.1, (F.q20 h).2.2.2.2.2.2.2.2.2.2.2.1, (F.q20 h).2.2.2.2.2.2.2.2.2.2.2.2.1, (F.q20 h).2.2.2.2.2.2.2.2.2.2.2.2.2.1, (F.q20 h).2.2.2.2.2.2.2.2.2.2.2.2.2.2.1, (F.q20 h).2.2.2.2.2.2.2.2.2.2.2.2.2.2.2.1, (F.q20 h).2.2.2.2.2.2.2.2.2.2.2.2.2.2.2.2.1, (F.q20 h).2.2.2.2.2.2.2.2.2.2.2.2.2.2.2.2.2.1, (F.q20 h).2.2.2.2.2.2.2.2.2.2.2.2.2.2.2.2.2.2.1, (F.q20 h).2.2.2.2.2.2.2.2.2.2.2.2.2.2.2.2.2.2.2⟩, F.f0, F.f1, F.f2, F.f3, F.f4, F.f5, F.f6, F.f7, fun _ => rfl, F.f9, F.f10, F.f11, F.f12, F.f13, F.f14, F.f15, F.f16, F.f17, F.f18, F.f19, F.f20, F.st0, F.st1, F.st2, F.st3, F.st4, F.st5, F.st6, F.st7⟩
      clear F
      go_simp
      exact HK.out _ _ ⟨_, _, _, _, _, _, _, _, _, _, _, _, _, _, _, _, _, _, _, _, _, _, _, _, _, _, _, _, rfl, HF.out⟩
    · have hst : S0 w1 ∨ S1 r1 w1 := by
        cases e1 : d_ 4 with
        | false => exact .inl ((F.st0 e1))
        | true =>
          have n_ : d_ 11 = false := by
            cases e_ : d_ 11 with
            | false => rfl
            | true => have h2 := (F.q10 (F.q11 e_).2.2); rw [show d_ 9 = false from hd_] at h2; cases h2
          exact .inr ((F.st1 e1 n_))
      have kk := kl9.out r1 w1 hst
      clear hst
      obtain rfl := F.f8 (by simp [hdep])
      have HF : Hid (bef1F a b n m c e x y bx b_ o1 o2 o3 o4 n1 n2 tt S0 S1 S2 S3 S4 S5 S6 S7 (upd d_ 9) x5 x6 x7 x8 x9 x10 x11 x12 (.pointer (some ⟨b_, 0, none⟩)) (.slice b m e) x15 x16 x17 x18 x19 x20 x21 x22 x23 x24 x4 r1 r2 r3 r4 r5 r6 r7 w1) := ⟨F.q1, F.q3, F.q4, F.q6, F.q7, fun _ => (show _ from (by simp [hdep] : d_ 8 = true)), fun h => rfl, F.q11, F.q13, F.q15, F.q16, F.q17, F.q18, F.q19, fun h => ⟨(F.q20 h).1, (F.q20 h).2.1, (F.q20 h).2.2.1, (F.q20 h).2.2.2.1, (F.q20 h).2.2.2.2.1, (F.q20 h).2.2.2.2.2.1, (F.q20 h).2.2.2.2.2.2.1, (F.q20 h).2.2.2.2.2.2.2.1, (F.q20 h).2.2.2.2.2.2.2.2.1, rfl, (F.q20 h).2.2.2.2.2.2.2.2.2.2.1, (F.q20 h).2.2.2.2.2.2.2.2.2.2.2.1, (F.q20 h).2.2.2.2.2.2.2.2.2.2.2.2.1, (F.q20 h).2.2.2.2.2.2.2.2.2.2.2.2.2.1, (F.q20 h).2.2.2.2.2.2.2.2.2.2.2.2.2.2.1, (F.q20 h).2.2.2.2.2.2.2.2.2.2.2.2.2.2.2.1, (F.q20 h).2.2.2.2.2.2.2.2.2.2.2.2.2.2.2.2.1, (F.q20 h).2.2.2.2.2.2.2.2.2.2.2.2.2.2.2.2.2.1, (F.q20 h).2.2.2.2.2.2.2.2.2.2.2.2.2.2.2.2.2.2.1, (F.q20 h).2.2.2.2.2.2.2.2.2.2.2.2.2.2.2.2.2.2.2⟩, F.f0, F.f1, F.f2, F.f3, F.f4, F.f5, F.f6, F.f7, F.f8, fun _ => rfl, F.f10, F.f11, F.f12, F.f13, F.f14, F.f15, F.f16, F.f17, F.f18, F.f19, F.f20, F.st0, F.st1, F.st2, F.st3, F.st4, F.st5, F.st6, F.st7⟩
      clear F
      go_simp
      exact HK.out _ _ ⟨_, _, _, _, _, _, _, _, _, _, _, _, _, _, _, _, _, _, _, _, _, _, _, _, _, _, _, _, rfl, HF.out⟩
    · obtain rfl := F.f9 (by simp [hdep])
      have HF : Hid (bef1F a b n m c e x y bx b_ o1 o2 o3 o4 n1 n2 tt S0 S1 S2 S3 S4 S5 S6 S7 (upd d_ 10) x5 x6 x7 x8 x9 x10 x11 x12 x13 (.slice b m e) (.int .i64 ((m : Int))) x16 x17 x18 x19 x20 x21 x22 x23 x24 x4 r1 r2 r3 r4 r5 r6 r7 w1) := ⟨F.q1, F.q3, F.q4, F.q6, F.q7, F.q9, fun _ => (show _ from (by simp [hdep] : d_ 9 = true)), fun h => ⟨(F.q11 h).1, (F.q11 h).2.1, rfl⟩, F.q13, F.q15, F.q16, F.q17, F.q18, F.q19, fun h => ⟨(F.q20 h).1, (F.q20 h).2.1, (F.q20 h).2.2.1, (F.q20 h).2.2.2.1, (F.q20 h).2.2.2.2.1, (F.q20 h).2.2.2.2.2.1, (F.q20 h).2.2.2.2.2.2.1, (F.q20 h).2.2.2.2.2.2.2.1, (F.q20 h).2.2.2.2.2.2.2.2.1, (F.q20 h).2.2.2.2.2.2.2.2.2.1, rfl, (F.q20 h).2.2.2.2.2.2.2.2.2.2.2.1, (F.q20 h).2.2.2.2.2.2.2.2.2.2.2.2.1, (F.q20 h).2.2.2.2.2.2.2.2.2.2.2.2.2.1, (F.q20 h).2.2.2.2.2.2.2.2.2.2.2.2.2.2.1, (F.q20 h).2.2.2.2.2.2.2.2.2.2.2.2.2.2.2.1, (F.q20 h).2.2.2.2.2.2.2.2.2.2.2.2.2.2.2.2.1, (F.q20 h).2.2.2.2.2.2.2.2.2.2.2.2.2.2.2.2.2.1, (F.q20 h).2.2.2.2.2.2.2.2.2.2.2.2.2.2.2.2.2.2.1, (F.q20 h).2.2.2.2.2.2.2.2.2.2.2.2.2.2.2.2.2.2.2⟩, F.f0, F.f1, F.f2, F.f3, F.f4, F.f5, F.f6, F.f7, F.f8, F.f9, fun _ => rfl, F.f11, F.f12, F.f13, F.f14, F.f15, F.f16, F.f17, F.f18, F.f19, F.f20, F.st0, F.st1, F.st2, F.st3, F.st4, F.st5, F.st6, F.st7⟩
      clear F
      go_simp
      exact HK.out _ _ ⟨_, _, _, _, _, _, _, _, _, _, _, _, _, _, _, _, _, _, _, _, _, _, _, _, _, _, _, _, rfl, HF.out⟩
    · have hS := F.st1 (by simp [hdep] : d_ 4 = true) hd_
      obtain rfl := F.f7 (by simp [hdep])
      obtain rfl := F.f10 (by simp [hdep])
      have hc := kc11.out r1 w1 hS
      have HF := Lib.hid F
      clear F
      go_simp
      refine ⟨trivial, rfl, wideAt_calls (hc.mono ?_)⟩
      rintro e w5 ⟨v_, rfl, hres⟩
      exact HK.out _ _ ⟨_, _, _, _, _, _, _, _, _, _, _, _, _, _, _, _, _, _, _, _, _, r1, v_, r3, r4, r5, r6, r7, rfl, ⟨HF.out.q1, HF.out.q3, HF.out.q4, HF.out.q6, HF.out.q7, HF.out.q9, HF.out.q10, fun _ => ⟨(show _ from (by simp [hdep] : d_ 4 = true)), (show _ from (by simp [hdep] : d_ 7 = true)), (show _ from (by simp [hdep] : d_ 10 = true))⟩, fun h => ⟨rfl, (HF.out.q13 h).2⟩, HF.out.q15, HF.out.q16, fun h => ⟨(HF.out.q17 h).1, rfl, (HF.out.q17 h).2.2⟩, HF.out.q18, HF.out.q19, fun h => ⟨(HF.out.q20 h).1, (HF.out.q20 h).2.1, (HF.out.q20 h).2.2.1, (HF.out.q20 h).2.2.2.1, (HF.out.q20 h).2.2.2.2.1, (HF.out.q20 h).2.2.2.2.2.1, (HF.out.q20 h).2.2.2.2.2.2.1, (HF.out.q20 h).2.2.2.2.2.2.2.1, (HF.out.q20 h).2.2.2.2.2.2.2.2.1, (HF.out.q20 h).2.2.2.2.2.2.2.2.2.1, (HF.out.q20 h).2.2.2.2.2.2.2.2.2.2.1, rfl, (HF.out.q20 h).2.2.2.2.2.2.2.2.2.2.2.2.1, (HF.out.q20 h).2.2.2.2.2.2.2.2.2.2.2.2.2.1, (HF.out.q20 h).2.2.2.2.2.2.2.2.2.2.2.2.2.2.1, (HF.out.q20 h).2.2.2.2.2.2.2.2.2.2.2.2.2.2.2.1, (HF.out.q20 h).2.2.2.2.2.2.2.2.2.2.2.2.2.2.2.2.1, (HF.out.q20 h).2.2.2.2.2.2.2.2.2.2.2.2.2.2.2.2.2.1, (HF.out.q20 h).2.2.2.2.2.2.2.2.2.2.2.2.2.2.2.2.2.2.1, (HF.out.q20 h).2.2.2.2.2.2.2.2.2.2.2.2.2.2.2.2.2.2.2⟩, HF.out.f0, HF.out.f1, HF.out.f2, HF.out.f3, HF.out.f4, HF.out.f5, HF.out.f6, HF.out.f7, HF.out.f8, HF.out.f9, HF.out.f10, fun _ => rfl, HF.out.f12, HF.out.f13, HF.out.f14, HF.out.f15, HF.out.f16, HF.out.f17, HF.out.f18, HF.out.f19, HF.out.f20, fun h => (by have h2 : d_ 4 = false := h; rw [(by simp [hdep] : d_ 4 = true)] at h2; cases h2), fun _ h => (by simp [upd] at h), fun _ _ => hres, fun h _ => (by have h2 : d_ 11 = true := (HF.out.q13 h).1; rw [show d_ 11 = false from hd_] at h2; cases h2), fun h _ => (by have h2 : d_ 11 = true := (HF.out.q13 (HF.out.q15 h).1).1; rw [show d_ 11 = false from hd_] at h2; cases h2), fun h _ => (by have h2 : d_ 11 = true := (HF.out.q13 (HF.out.q16 h).1).1; rw [show d_ 11 = false from hd_] at h2; cases h2), fun h _ => (by have h2 : d_ 11 = true := (HF.out.q17 h).2.1; rw [show d_ 11 = false from hd_] at h2; cases h2), fun h => (by have h2 : d_ 11 = true := (HF.out.q13 (HF.out.q16 (HF.out.q18 h).1).1).1; rw [show d_ 11 = false from hd_] at h2; cases h2)⟩⟩
    · have hst : S0 w1 ∨ S1 r1 w1 ∨ S2 r1 r2 w1 := by
        cases e1 : d_ 4 with
        | false => exact .inl ((F.st0 e1))
        | true =>
          cases e2 : d_ 11 with
          | false => exact .inr (.inl ((F.st1 e1 e2)))
          | true =>
            have n_ : d_ 13 = false := by
              cases e_ : d_ 13 with
              | false => rfl
              | true => have h2 := (F.q13 e_).2; rw [show d_ 12 = false from hd_] at h2; cases h2
            exact .inr (.inr ((F.st2 e2 n_)))
      have kk := kl12.out r1 r2 w1 hst
      obtain ⟨kk0, kk1⟩ := kk
      clear hst
      have HF : Hid (bef1F a b n m c e x y bx b_ o1 o2 o3 o4 n1 n2 tt S0 S1 S2 S3 S4 S5 S6 S7 (upd d_ 12) x5 x6 x7 x8 x9 x10 x11 x12 x13 x14 x15 x16 (.agg #[.slice a n c, .int .i64 (x)]) x18 x19 x20 x21 x22 x23 x24 x4 r1 r2 r3 r4 r5 r6 r7 w1) := ⟨F.q1, F.q3, F.q4, F.q6, F.q7, F.q9, F.q10, F.q11, fun h => ⟨(F.q13 h).1, rfl⟩, F.q15, F.q16, F.q17, F.q18, F.q19, fun h => ⟨(F.q20 h).1, (F.q20 h).2.1, (F.q20 h).2.2.1, (F.q20 h).2.2.2.1, (F.q20 h).2.2.2.2.1, (F.q20 h).2.2.2.2.2.1, (F.q20 h).2.2.2.2.2.2.1, (F.q20 h).2.2.2.2.2.2.2.1, (F.q20 h).2.2.2.2.2.2.2.2.1, (F.q20 h).2.2.2.2.2.2.2.2.2.1, (F.q20 h).2.2.2.2.2.2.2.2.2.2.1, (F.q20 h).2.2.2.2.2.2.2.2.2.2.2.1, rfl, (F.q20 h).2.2.2.2.2.2.2.2.2.2.2.2.2.1, (F.q20 h).2.2.2.2.2.2.2.2.2.2.2.2.2.2.1, (F.q20 h).2.2.2.2.2.2.2.2.2.2.2.2.2.2.2.1, (F.q20 h).2.2.2.2.2.2.2.2.2.2.2.2.2.2.2.2.1, (F.q20 h).2.2.2.2.2.2.2.2.2.2.2.2.2.2.2.2.2.1, (F.q20 h).2.2.2.2.2.2.2.2.2.2.2.2.2.2.2.2.2.2.1, (F.q20 h).2.2.2.2.2.2.2.2.2.2.2.2.2.2.2.2.2.2.2⟩, F.f0, F.f1, F.f2, F.f3, F.f4, F.f5, F.f6, F.f7, F.f8, F.f9, F.f10, F.f11, fun _ => rfl, F.f13, F.f14, F.f15, F.f16, F.f17, F.f18, F.f19, F.f20, F.st0, F.st1, F.st2, F.st3, F.st4, F.st5, F.st6, F.st7⟩
      clear F
      go_simp
      exact HK.out _ _ ⟨_, _, _, _, _, _, _, _, _, _, _, _, _, _, _, _, _, _, _, _, _, _, _, _, _, _, _, _, rfl, HF.out⟩
    · have hS := F.st2 (by simp [hdep] : d_ 11 = true) hd_
      obtain rfl := F.f12 (by simp [hdep])
      have hc := kc13.out r1 r2 w1 hS
      have HF := Lib.hid F
      clear F
      go_simp
      refine ⟨trivial, rfl, wideAt_calls (hc.mono ?_)⟩
      rintro e w5 ⟨v_, rfl, hres⟩
      exact HK.out _ _ ⟨_, _, _, _, _, _, _, _, _, _, _, _, _, _, _, _, _, _, _, _, _, r1, r2, v_, r4, r5, r6, r7, rfl, ⟨HF.out.q1, HF.out.q3, HF.out.q4, HF.out.q6, HF.out.q7, HF.out.q9, HF.out.q10, HF.out.q11, fun _ => ⟨(show _ from (by simp [hdep] : d_ 11 = true)), (show _ from (by simp [hdep] : d_ 12 = true))⟩, fun h => ⟨rfl, (HF.out.q15 h).2⟩, fun h => ⟨rfl, (HF.out.q16 h).2⟩, HF.out.q17, HF.out.q18, HF.out.q19, fun h => ⟨(HF.out.q20 h).1, (HF.out.q20 h).2.1, (HF.out.q20 h).2.2.1, (HF.out.q20 h).2.2.2.1, (HF.out.q20 h).2.2.2.2.1, (HF.out.q20 h).2.2.2.2.2.1, (HF.out.q20 h).2.2.2.2.2.2.1, (HF.out.q20 h).2.2.2.2.2.2.2.1, (HF.out.q20 h).2.2.2.2.2.2.2.2.1, (HF.out.q20 h).2.2.2.2.2.2.2.2.2.1, (HF.out.q20 h).2.2.2.2.2.2.2.2.2.2.1, (HF.out.q20 h).2.2.2.2.2.2.2.2.2.2.2.1, (HF.out.q20 h).2.2.2.2.2.2.2.2.2.2.2.2.1, rfl, (HF.out.q20 h).2.2.2.2.2.2.2.2.2.2.2.2.2.2.1, (HF.out.q20 h).2.2.2.2.2.2.2.2.2.2.2.2.2.2.2.1, (HF.out.q20 h).2.2.2.2.2.2.2.2.2.2.2.2.2.2.2.2.1, (HF.out.q20 h).2.2.2.2.2.2.2.2.2.2.2.2.2.2.2.2.2.1, (HF.out.q20 h).2.2.2.2.2.2.2.2.2.2.2.2.2.2.2.2.2.2.1, (HF.out.q20 h).2.2.2.2.2.2.2.2.2.2.2.2.2.2.2.2.2.2.2⟩, HF.out.f0, HF.out.f1, HF.out.f2, HF.out.f3, HF.out.f4, HF.out.f5, HF.out.f6, HF.out.f7, HF.out.f8, HF.out.f9, HF.out.f10, HF.out.f11, HF.out.f12, fun _ => rfl, HF.out.f14, HF.out.f15, HF.out.f16, HF.out.f17, HF.out.f18, HF.out.f19, HF.out.f20, fun h => (by have h2 : d_ 4 = false := h; rw [(HF.out.q11 (by simp [hdep] : d_ 11 = true)).1] at h2; cases h2), fun _ h => (by have h2 : d_ 11 = false := h; rw [(by simp [hdep] : d_ 11 = true)] at h2; cases h2), fun _ h => (by simp [upd] at h), fun _ _ => hres, fun h _ => (by have h2 : d_ 13 = true := (HF.out.q15 h).1; rw [show d_ 13 = false from hd_] at h2; cases h2), fun h _ => (by have h2 : d_ 13 = true := (HF.out.q16 h).1; rw [show d_ 13 = false from hd_] at h2; cases h2), fun h _ => (by have h2 : d_ 13 = true := (HF.out.q16 (HF.out.q17 h).2.2).1; rw [show d_ 13 = false from hd_] at h2; cases h2), fun h => (by have h2 : d_ 13 = true := (HF.out.q16 (HF.out.q18 h).1).1; rw [show d_ 13 = false from hd_] at h2; cases h2)⟩⟩
    · have hst : S0 w1 ∨ S1 r1 w1 ∨ S2 r1 r2 w1 ∨ S3 r1 r2 r3 w1 := by
        cases e1 : d_ 4 with
        | false => exact .inl ((F.st0 e1))
        | true =>
          cases e2 : d_ 11 with
          | false => exact .inr (.inl ((F.st1 e1 e2)))
          | true =>
            cases e3 : d_ 13 with
            | false => exact .inr (.inr (.inl ((F.st2 e2 e3))))
            | true =>
              have n_ : d_ 15 = false := by
                cases e_ : d_ 15 with
                | false => rfl
                | true => have h2 := (F.q15 e_).2; rw [show d_ 14 = false from hd_] at h2; cases h2
              exact .inr (.inr (.inr ((F.st3 e3 n_))))
      have kk := kl14.out r1 r2 r3 w1 hst
      obtain ⟨kk0, kk1⟩ := kk
      clear hst
      have HF : Hid (bef1F a b n m c e x y bx b_ o1 o2 o3 o4 n1 n2 tt S0 S1 S2 S3 S4 S5 S6 S7 (upd d_ 14) x5 x6 x7 x8 x9 x10 x11 x12 x13 x14 x15 x16 x17 x18 (.agg #[.slice b m e, .int .i64 (y)]) x20 x21 x22 x23 x24 x4 r1 r2 r3 r4 r5 r6 r7 w1) := ⟨F.q1, F.q3, F.q4, F.q6, F.q7, F.q9, F.q10, F.q11, F.q13, fun h => ⟨(F.q15 h).1, rfl⟩, F.q16, F.q17, F.q18, F.q19, fun h => ⟨(F.q20 h).1, (F.q20 h).2.1, (F.q20 h).2.2.1, (F.q20 h).2.2.2.1, (F.q20 h).2.2.2.2.1, (F.q20 h).2.2.2.2.2.1, (F.q20 h).2.2.2.2.2.2.1, (F.q20 h).2.2.2.2.2.2.2.1, (F.q20 h).2.2.2.2.2.2.2.2.1, (F.q20 h).2.2.2.2.2.2.2.2.2.1, (F.q20 h).2.2.2.2.2.2.2.2.2.2.1, (F.q20 h).2.2.2.2.2.2.2.2.2.2.2.1, (F.q20 h).2.2.2.2.2.2.2.2.2.2.2.2.1, (F.q20 h).2.2.2.2.2.2.2.2.2.2.2.2.2.1, rfl, (F.q20 h).2.2.2.2.2.2.2.2.2.2.2.2.2.2.2.1, (F.q20 h).2.2.2.2.2.2.2.2.2.2.2.2.2.2.2.2.1, (F.q20 h).2.2.2.2.2.2.2.2.2.2.2.2.2.2.2.2.2.1, (F.q20 h).2.2.2.2.2.2.2.2.2.2.2.2.2.2.2.2.2.2.1, (F.q20 h).2.2.2.2.2.2.2.2.2.2.2.2.2.2.2.2.2.2.2⟩, F.f0, F.f1, F.f2, F.f3, F.f4, F.f5, F.f6, F.f7, F.f8, F.f9, F.f10, F.f11, F.f12, F.f13, fun _ => rfl, F.f15, F.f16, F.f17, F.f18, F.f19, F.f20, F.st0, F.st1, F.st2, F.st3, F.st4, F.st5, F.st6, F.st7⟩
      clear F
      go_simp
      exact HK.out _ _ ⟨_, _, _, _, _, _, _, _, _, _, _, _, _, _, _, _, _, _, _, _, _, _, _, _, _, _, _, _, rfl, HF.out⟩
    · have hS := F.st3 (by simp [hdep] : d_ 13 = true) hd_
      obtain rfl := F.f14 (by simp [hdep])
      have hc := kc15.out r1 r2 r3 w1 hS
      have HF := Lib.hid F
      clear F
      go_simp
      refine ⟨trivial, rfl, wideAt_calls (hc.mono ?_)⟩
      rintro e w5 ⟨v_, rfl, hres⟩
      exact HK.out _ _ ⟨_, _, _, _, _, _, _, _, _, _, _, _, _, _, _, _, _, _, _, _, _, r1, r2, r3, v_, r5, r6, r7, rfl, ⟨HF.out.q1, HF.out.q3, HF.out.q4, HF.out.q6, HF.out.q7, HF.out.q9, HF.out.q10, HF.out.q11, HF.out.q13, fun _ => ⟨(show _ from (by simp [hdep] : d_ 13 = true)), (show _ from (by simp [hdep] : d_ 14 = true))⟩, fun h => ⟨(HF.out.q16 h).1, rfl⟩, HF.out.q17, HF.out.q18, HF.out.q19, fun h => ⟨(HF.out.q20 h).1, (HF.out.q20 h).2.1, (HF.out.q20 h).2.2.1, (HF.out.q20 h).2.2.2.1, (HF.out.q20 h).2.2.2.2.1, (HF.out.q20 h).2.2.2.2.2.1, (HF.out.q20 h).2.2.2.2.2.2.1, (HF.out.q20 h).2.2.2.2.2.2.2.1, (HF.out.q20 h).2.2.2.2.2.2.2.2.1, (HF.out.q20 h).2.2.2.2.2.2.2.2.2.1, (HF.out.q20 h).2.2.2.2.2.2.2.2.2.2.1, (HF.out.q20 h).2.2.2.2.2.2.2.2.2.2.2.1, (HF.out.q20 h).2.2.2.2.2.2.2.2.2.2.2.2.1, (HF.out.q20 h).2.2.2.2.2.2.2.2.2.2.2.2.2.1, (HF.out.q20 h).2.2.2.2.2.2.2.2.2.2.2.2.2.2.1, rfl, (HF.out.q20 h).2.2.2.2.2.2.2.2.2.2.2.2.2.2.2.2.1, (HF.out.q20 h).2.2.2.2.2.2.2.2.2.2.2.2.2.2.2.2.2.1, (HF.out.q20 h).2.2.2.2.2.2.2.2.2.2.2.2.2.2.2.2.2.2.1, (HF.out.q20 h).2.2.2.2.2.2.2.2.2.2.2.2.2.2.2.2.2.2.2⟩, HF.out.f0, HF.out.f1, HF.out.f2, HF.out.f3, HF.out.f4, HF.out.f5, HF.out.f6, HF.out.f7, HF.out.f8, HF.out.f9, HF.out.f10, HF.out.f11, HF.out.f12, HF.out.f13, HF.out.f14, fun _ => rfl, HF.out.f16, HF.out.f17, HF.out.f18, HF.out.f19, HF.out.f20, fun h => (by have h2 : d_ 4 = false := h; rw [(HF.out.q11 (HF.out.q13 (by simp [hdep] : d_ 13 = true)).1).1] at h2; cases h2), fun _ h => (by have h2 : d_ 11 = false := h; rw [(HF.out.q13 (by simp [hdep] : d_ 13 = true)).1] at h2; cases h2), fun _ h => (by have h2 : d_ 13 = false := h; rw [(by simp [hdep] : d_ 13 = true)] at h2; cases h2), fun _ h => (by simp [upd] at h), fun _ _ => hres, fun h _ => (by have h2 : d_ 15 = true := (HF.out.q16 h).2; rw [show d_ 15 = false from hd_] at h2; cases h2), fun h _ => (by have h2 : d_ 15 = true := (HF.out.q16 (HF.out.q17 h).2.2).2; rw [show d_ 15 = false from hd_] at h2; cases h2), fun h => (by have h2 : d_ 15 = true := (HF.out.q16 (HF.out.q18 h).1).2; rw [show d_ 15 = false from hd_] at h2; cases h2)⟩⟩
    · have hS := F.st4 (by simp [hdep] : d_ 15 = true) hd_
      obtain rfl := F.f13 (by simp [hdep])
      obtain rfl := F.f15 (by simp [hdep])
      have hc := kc16.out r1 r2 r3 r4 w1 hS
      have HF := Lib.hid F
      clear F
      go_simp
      refine ⟨trivial, rfl, wideAt_calls (hc.mono ?_)⟩
      rintro e w5 ⟨v_, rfl, hres⟩
      exact HK.out _ _ ⟨_, _, _, _, _, _, _, _, _, _, _, _, _, _, _, _, _, _, _, _, _, r1, r2, r3, r4, v_, r6, r7, rfl, ⟨HF.out.q1, HF.out.q3, HF.out.q4, HF.out.q6, HF.out.q7, HF.out.q9, HF.out.q10, HF.out.q11, HF.out.q13, HF.out.q15, fun _ => ⟨(show _ from (by simp [hdep] : d_ 13 = true)), (show _ from (by simp [hdep] : d_ 15 = true))⟩, fun h => ⟨(HF.out.q17 h).1, (HF.out.q17 h).2.1, rfl⟩, fun h => ⟨rfl, (HF.out.q18 h).2⟩, HF.out.q19, fun h => ⟨(HF.out.q20 h).1, (HF.out.q20 h).2.1, (HF.out.q20 h).2.2.1, (HF.out.q20 h).2.2.2.1, (HF.out.q20 h).2.2.2.2.1, (HF.out.q20 h).2.2.2.2.2.1, (HF.out.q20 h).2.2.2.2.2.2.1, (HF.out.q20 h).2.2.2.2.2.2.2.1, (HF.out.q20 h).2.2.2.2.2.2.2.2.1, (HF.out.q20 h).2.2.2.2.2.2.2.2.2.1, (HF.out.q20 h).2.2.2.2.2.2.2.2.2.2.1, (HF.out.q20 h).2.2.2.2.2.2.2.2.2.2.2.1, (HF.out.q20 h).2.2.2.2.2.2.2.2.2.2.2.2.1, (HF.out.q20 h).2.2.2.2.2.2.2.2.2.2.2.2.2.1, (HF.out.q20 h).2.2.2.2.2.2.2.2.2.2.2.2.2.2.1, (HF.out.q20 h).2.2.2.2.2.2.2.2.2.2.2.2.2.2.2.1, rfl, (HF.out.q20 h).2.2.2.2.2.2.2.2.2.2.2.2.2.2.2.2.2.1, (HF.out.q20 h).2.2.2.2.2.2.2.2.2.2.2.2.2.2.2.2.2.2.1, (HF.out.q20 h).2.2.2.2.2.2.2.2.2.2.2.2.2.2.2.2.2.2.2⟩, HF.out.f0, HF.out.f1, HF.out.f2, HF.out.f3, HF.out.f4, HF.out.f5, HF.out.f6, HF.out.f7, HF.out.f8, HF.out.f9, HF.out.f10, HF.out.f11, HF.out.f12, HF.out.f13, HF.out.f14, HF.out.f15, fun _ => rfl, HF.out.f17, HF.out.f18, HF.out.f19, HF.out.f20, fun h => (by have h2 : d_ 4 = false := h; rw [(HF.out.q11 (HF.out.q13 (by simp [hdep] : d_ 13 = true)).1).1] at h2; cases h2), fun _ h => (by have h2 : d_ 11 = false := h; rw [(HF.out.q13 (by simp [hdep] : d_ 13 = true)).1] at h2; cases h2), fun _ h => (by have h2 : d_ 13 = false := h; rw [(by simp [hdep] : d_ 13 = true)] at h2; cases h2), fun _ h => (by have h2 : d_ 15 = false := h; rw [(by simp [hdep] : d_ 15 = true)] at h2; cases h2), fun _ h => (by simp [upd] at h), fun _ _ => hres, fun h _ => (by have h2 : d_ 16 = true := (HF.out.q17 h).2.2; rw [show d_ 16 = false from hd_] at h2; cases h2), fun h => (by have h2 : d_ 16 = true := (HF.out.q18 h).1; rw [show d_ 16 = false from hd_] at h2; cases h2)⟩⟩
    · have hS := F.st5 (by simp [hdep] : d_ 16 = true) hd_
      obtain rfl := F.f4 (by simp [hdep])
      obtain rfl := F.f11 (by simp [hdep])
      obtain rfl := F.f16 (by simp [hdep])
      have hres := kc17.out r1 r2 r3 r4 r5 w1 hS
      have HF : Hid (bef1F a b n m c e x y bx b_ o1 o2 o3 o4 n1 n2 tt S0 S1 S2 S3 S4 S5 S6 S7 (upd d_ 17) x5 x6 x7 x8 (.int .i64 (o1)) x10 x11 x12 x13 x14 x15 (.int .i64 (o2)) x17 x18 x19 x20 (.int .i64 (o3)) ((.slice (some ⟨w1.heap.size, 0, none⟩) 3 3)) x23 x24 x4 r1 r2 r3 r4 r5 w1.heap.size r7 (w1.alloc (.cells #[.int .i64 (o1), .int .i64 (o2), .int .i64 (o3)] 3))) := ⟨F.q1, F.q3, F.q4, F.q6, F.q7, F.q9, F.q10, F.q11, F.q13, F.q15, F.q16, fun _ => ⟨(show _ from (by simp [hdep] : d_ 4 = true)), (show _ from (by simp [hdep] : d_ 11 = true)), (show _ from (by simp [hdep] : d_ 16 = true))⟩, fun h => ⟨(F.q18 h).1, rfl⟩, F.q19, fun h => ⟨(F.q20 h).1, (F.q20 h).2.1, (F.q20 h).2.2.1, (F.q20 h).2.2.2.1, (F.q20 h).2.2.2.2.1, (F.q20 h).2.2.2.2.2.1, (F.q20 h).2.2.2.2.2.2.1, (F.q20 h).2.2.2.2.2.2.2.1, (F.q20 h).2.2.2.2.2.2.2.2.1, (F.q20 h).2.2.2.2.2.2.2.2.2.1, (F.q20 h).2.2.2.2.2.2.2.2.2.2.1, (F.q20 h).2.2.2.2.2.2.2.2.2.2.2.1, (F.q20 h).2.2.2.2.2.2.2.2.2.2.2.2.1, (F.q20 h).2.2.2.2.2.2.2.2.2.2.2.2.2.1, (F.q20 h).2.2.2.2.2.2.2.2.2.2.2.2.2.2.1, (F.q20 h).2.2.2.2.2.2.2.2.2.2.2.2.2.2.2.1, (F.q20 h).2.2.2.2.2.2.2.2.2.2.2.2.2.2.2.2.1, rfl, (F.q20 h).2.2.2.2.2.2.2.2.2.2.2.2.2.2.2.2.2.2.1, (F.q20 h).2.2.2.2.2.2.2.2.2.2.2.2.2.2.2.2.2.2.2⟩, F.f0, F.f1, F.f2, F.f3, F.f4, F.f5, F.f6, F.f7, F.f8, F.f9, F.f10, F.f11, F.f12, F.f13, F.f14, F.f15, F.f16, fun _ => rfl, F.f18, F.f19, F.f20, fun h => (by have h2 : d_ 4 = false := h; rw [(by simp [hdep] : d_ 4 = true)] at h2; cases h2), fun _ h => (by have h2 : d_ 11 = false := h; rw [(by simp [hdep] : d_ 11 = true)] at h2; cases h2), fun _ h => (by have h2 : d_ 13 = false := h; rw [(F.q16 (by simp [hdep] : d_ 16 = true)).1] at h2; cases h2), fun _ h => (by have h2 : d_ 15 = false := h; rw [(F.q16 (by simp [hdep] : d_ 16 = true)).2] at h2; cases h2), fun _ h => (by have h2 : d_ 16 = false := h; rw [(by simp [hdep] : d_ 16 = true)] at h2; cases h2), fun _ h => (by simp [upd] at h), fun _ _ => hres, fun h => (by have h2 : d_ 17 = true := (F.q18 h).2; rw [show d_ 17 = false from hd_] at h2; cases h2)⟩
      clear F hS hres
      go_simp
      exact HK.out _ _ ⟨_, _, _, _, _, _, _, _, _, _, _, _, _, _, _, _, _, _, _, _, _, _, _, _, _, _, _, _, rfl, HF.out⟩
    · have hS := F.st6 (by simp [hdep] : d_ 17 = true) hd_
      obtain rfl := F.f17 (by simp [hdep])
      have hc := kc18.out r1 r2 r3 r4 r5 r6 w1 hS
      have HF := Lib.hid F
      clear F
      go_simp
      refine ⟨trivial, rfl, wideAt_calls (hc.mono ?_)⟩
      rintro e w5 ⟨v_, rfl, hres⟩
      exact HK.out _ _ ⟨_, _, _, _, _, _, _, _, _, _, _, _, _, _, _, _, _, _, _, _, _, r1, r2, r3, r4, r5, r6, v_, rfl, ⟨HF.out.q1, HF.out.q3, HF.out.q4, HF.out.q6, HF.out.q7, HF.out.q9, HF.out.q10, HF.out.q11, HF.out.q13, HF.out.q15, HF.out.q16, HF.out.q17, fun _ => ⟨(show _ from (by simp [hdep] : d_ 16 = true)), (show _ from (by simp [hdep] : d_ 17 = true))⟩, fun h => rfl, fun h => ⟨(HF.out.q20 h).1, (HF.out.q20 h).2.1, (HF.out.q20 h).2.2.1, (HF.out.q20 h).2.2.2.1, (HF.out.q20 h).2.2.2.2.1, (HF.out.q20 h).2.2.2.2.2.1, (HF.out.q20 h).2.2.2.2.2.2.1, (HF.out.q20 h).2.2.2.2.2.2.2.1, (HF.out.q20 h).2.2.2.2.2.2.2.2.1, (HF.out.q20 h).2.2.2.2.2.2.2.2.2.1, (HF.out.q20 h).2.2.2.2.2.2.2.2.2.2.1, (HF.out.q20 h).2.2.2.2.2.2.2.2.2.2.2.1, (HF.out.q20 h).2.2.2.2.2.2.2.2.2.2.2.2.1, (HF.out.q20 h).2.2.2.2.2.2.2.2.2.2.2.2.2.1, (HF.out.q20 h).2.2.2.2.2.2.2.2.2.2.2.2.2.2.1, (HF.out.q20 h).2.2.2.2.2.2.2.2.2.2.2.2.2.2.2.1, (HF.out.q20 h).2.2.2.2.2.2.2.2.2.2.2.2.2.2.2.2.1, (HF.out.q20 h).2.2.2.2.2.2.2.2.2.2.2.2.2.2.2.2.2.1, rfl, (HF.out.q20 h).2.2.2.2.2.2.2.2.2.2.2.2.2.2.2.2.2.2.2⟩, HF.out.f0, HF.out.f1, HF.out.f2, HF.out.f3, HF.out.f4, HF.out.f5, HF.out.f6, HF.out.f7, HF.out.f8, HF.out.f9, HF.out.f10, HF.out.f11, HF.out.f12, HF.out.f13, HF.out.f14, HF.out.f15, HF.out.f16, HF.out.f17, fun _ => rfl, HF.out.f19, HF.out.f20, fun h => (by have h2 : d_ 4 = false := h; rw [(HF.out.q11 (HF.out.q13 (HF.out.q16 (by simp [hdep] : d_ 16 = true)).1).1).1] at h2; cases h2), fun _ h => (by have h2 : d_ 11 = false := h; rw [(HF.out.q13 (HF.out.q16 (by simp [hdep] : d_ 16 = true)).1).1] at h2; cases h2), fun _ h => (by have h2 : d_ 13 = false := h; rw [(HF.out.q16 (by simp [hdep] : d_ 16 = true)).1] at h2; cases h2), fun _ h => (by have h2 : d_ 15 = false := h; rw [(HF.out.q16 (by simp [hdep] : d_ 16 = true)).2] at h2; cases h2), fun _ h => (by have h2 : d_ 16 = false := h; rw [(by simp [hdep] : d_ 16 = true)] at h2; cases h2), fun _ h => (by have h2 : d_ 17 = false := h; rw [(by simp [hdep] : d_ 17 = true)] at h2; cases h2), fun _ h => (by simp [upd] at h), fun _ => hres⟩⟩
    · obtain rfl := F.f18 (by simp [hdep])
      have HF : Hid (bef1F a b n m c e x y bx b_ o1 o2 o3 o4 n1 n2 tt S0 S1 S2 S3 S4 S5 S6 S7 (upd d_ 19) x5 x6 x7 x8 x9 x10 x11 x12 x13 x14 x15 x16 x17 x18 x19 x20 x21 x22 (.int .i64 (o4)) (.bool tt) x4 r1 r2 r3 r4 r5 r6 r7 w1) := ⟨F.q1, F.q3, F.q4, F.q6, F.q7, F.q9, F.q10, F.q11, F.q13, F.q15, F.q16, F.q17, F.q18, fun _ => (show _ from (by simp [hdep] : d_ 18 = true)), fun h => ⟨(F.q20 h).1, (F.q20 h).2.1, (F.q20 h).2.2.1, (F.q20 h).2.2.2.1, (F.q20 h).2.2.2.2.1, (F.q20 h).2.2.2.2.2.1, (F.q20 h).2.2.2.2.2.2.1, (F.q20 h).2.2.2.2.2.2.2.1, (F.q20 h).2.2.2.2.2.2.2.2.1, (F.q20 h).2.2.2.2.2.2.2.2.2.1, (F.q20 h).2.2.2.2.2.2.2.2.2.2.1, (F.q20 h).2.2.2.2.2.2.2.2.2.2.2.1, (F.q20 h).2.2.2.2.2.2.2.2.2.2.2.2.1, (F.q20 h).2.2.2.2.2.2.2.2.2.2.2.2.2.1, (F.q20 h).2.2.2.2.2.2.2.2.2.2.2.2.2.2.1, (F.q20 h).2.2.2.2.2.2.2.2.2.2.2.2.2.2.2.1, (F.q20 h).2.2.2.2.2.2.2.2.2.2.2.2.2.2.2.2.1, (F.q20 h).2.2.2.2.2.2.2.2.2.2.2.2.2.2.2.2.2.1, (F.q20 h).2.2.2.2.2.2.2.2.2.2.2.2.2.2.2.2.2.2.1, rfl⟩, F.f0, F.f1, F.f2, F.f3, F.f4, F.f5, F.f6, F.f7, F.f8, F.f9, F.f10, F.f11, F.f12, F.f13, F.f14, F.f15, F.f16, F.f17, F.f18, fun _ => rfl, F.f20, F.st0, F.st1, F.st2, F.st3, F.st4, F.st5, F.st6, F.st7⟩
      clear F
      go_simp
      exact HK.out _ _ ⟨_, _, _, _, _, _, _, _, _, _, _, _, _, _, _, _, _, _, _, _, _, _, _, _, _, _, _, _, rfl, HF.out⟩
    · obtain rfl := F.f19 (by simp [hdep])
      have HF : Hid (bef1F a b n m c e x y bx b_ o1 o2 o3 o4 n1 n2 tt S0 S1 S2 S3 S4 S5 S6 S7 (upd d_ 20) x5 x6 x7 x8 x9 x10 x11 x12 x13 x14 x15 x16 x17 x18 x19 x20 x21 x22 x23 (.bool tt) (.bool tt) r1 r2 r3 r4 r5 r6 r7 w1) := ⟨F.q1, F.q3, F.q4, F.q6, F.q7, F.q9, F.q10, F.q11, F.q13, F.q15, F.q16, F.q17, F.q18, F.q19, fun _ => ⟨(show _ from (by simp [hdep] : d_ 0 = true)), (show _ from (by simp [hdep] : d_ 1 = true)), (show _ from (by simp [hdep] : d_ 2 = true)), (show _ from (by simp [hdep] : d_ 3 = true)), (show _ from (by simp [hdep] : d_ 4 = true)), (show _ from (by simp [hdep] : d_ 5 = true)), (show _ from (by simp [hdep] : d_ 6 = true)), (show _ from (by simp [hdep] : d_ 7 = true)), (show _ from (by simp [hdep] : d_ 8 = true)), (show _ from (by simp [hdep] : d_ 9 = true)), (show _ from (by simp [hdep] : d_ 10 = true)), (show _ from (by simp [hdep] : d_ 11 = true)), (show _ from (by simp [hdep] : d_ 12 = true)), (show _ from (by simp [hdep] : d_ 13 = true)), (show _ from (by simp [hdep] : d_ 14 = true)), (show _ from (by simp [hdep] : d_ 15 = true)), (show _ from (by simp [hdep] : d_ 16 = true)), (show _ from (by simp [hdep] : d_ 17 = true)), (show _ from (by simp [hdep] : d_ 18 = true)), (show _ from (by simp [hdep] : d_ 19 = true))⟩, F.f0, F.f1, F.f2, F.f3, F.f4, F.f5, F.f6, F.f7, F.f8, F.f9, F.f10, F.f11, F.f12, F.f13, F.f14, F.f15, F.f16, F.f17, F.f18, F.f19, fun _ => rfl, F.st0, F.st1, F.st2, F.st3, F.st4, F.st5, F.st6, F.st7⟩
      clear F
      go_simp
      exact HK.out _ _ ⟨_, _, _, _, _, _, _, _, _, _, _, _, _, _, _, _, _, _, _, _, _, _, _, _, _, _, _, _, rfl, HF.out⟩
  · rintro d_ a_ w1 hall ⟨x5, x6, x7, x8, x9, x10, x11, x12, x13, x14, x15, x16, x17, x18, x19, x20, x21, x22, x23, x24, x4, r1, r2, r3, r4, r5, r6, r7, rfl, F⟩
    have hall' : ∀ k, k < 21 → d_ k = true := hall
    obtain rfl := F.f0 (hall' 0 (by decide))
    obtain rfl := F.f1 (hall' 1 (by decide))
    obtain rfl := F.f2 (hall' 2 (by decide))
    obtain rfl := F.f3 (hall' 3 (by decide))
    obtain rfl := F.f4 (hall' 4 (by decide))
    obtain rfl := F.f5 (hall' 5 (by decide))
    obtain rfl := F.f6 (hall' 6 (by decide))
    obtain rfl := F.f7 (hall' 7 (by decide))
    obtain rfl := F.f8 (hall' 8 (by decide))
    obtain rfl := F.f9 (hall' 9 (by decide))
    obtain rfl := F.f10 (hall' 10 (by decide))
    obtain rfl := F.f11 (hall' 11 (by decide))
    obtain rfl := F.f12 (hall' 12 (by decide))
    obtain rfl := F.f13 (hall' 13 (by decide))
    obtain rfl := F.f14 (hall' 14 (by decide))
    obtain rfl := F.f15 (hall' 15 (by decide))
    obtain rfl := F.f16 (hall' 16 (by decide))
    obtain rfl := F.f17 (hall' 17 (by decide))
    obtain rfl := F.f18 (hall' 18 (by decide))
    obtain rfl := F.f19 (hall' 19 (by decide))
    obtain rfl := F.f20 (hall' 20 (by decide))
    have hst := F.st7 (hall' 18 (by decide))
    exact HQ.out r1 r2 r3 r4 r5 r6 r7 w1 hst
end Go.Proofs.Ytjkhclijmcmdjaa
namespace Go.Proofs.Ytjkhclijmcmdjaa
open Go.RowKit
set_option linter.unusedVariables false
set_option linter.unusedSimpArgs false
theorem ints_news {w : World} {a : Option Addr} {l : List Int} (h : IsInts w a l) : l.length ≠ 0 → ∃ ad, a = some ad ∧ ∀ j u, (l.map (Value.int .i64))[j]? = some u → w.cell? (ad.add j) = some u := by
  intro h0
  obtain ⟨b, off, rfl, _⟩ := h 0 (by omega)
  refine ⟨_, rfl, fun j u hj => ?_⟩
  have hj' : j < l.length := by have := (List.getElem?_eq_some_iff.1 hj).1; simpa using this
  obtain ⟨b', off', he, hc⟩ := h j hj'
  cases he
  have e2 : ((⟨b, off, none⟩ : Addr).add j) = ⟨b, off + j, none⟩ := by unfold Addr.add; split <;> simp_all
  rw [e2, hc]
  simp [hj'] at hj
  rw [← hj]
  simp [gi, hj']
theorem app_ints {W w : World} {av : Option Addr} {l m : List Int} {cv n : Nat} {r : Option Addr × Nat} (hn : n = l.length) (hk : l.length + m.length ≤ 1000) (hb : Below W.heap.size W w) (hx : w.ownsRow W.heap.size 3 1 (.slice r.1 n r.2) n (l.map (Value.int .i64))) (hi : IsInts w av m) :
    ∃ (r1 : Option Addr × Nat) (w' : World), (Builtin.append_ #[24, 24] 24 #[.slice r.1 n r.2, .slice av m.length cv]).run Try.prog w = .ok (.slice r1.1 (n + m.length) r1.2) w' ∧ Below W.heap.size W w' ∧ w'.ownsRow W.heap.size 3 1 (.slice r1.1 (n + m.length) r1.2) (n + m.length) ((l ++ m).map (Value.int .i64)) ∧
      ∀ k, k < w.heap.size → (Value.slice r.1 n r.2).ownBlock ≠ some k → w'.heap[k]? = w.heap[k]? := by
  obtain ⟨i0, hi0, hz0, hz1, hz2⟩ := info_parts infoI
  obtain ⟨v', w', hr, hn, hg, hor⟩ := append_rows_at (P := Try.prog) (w := w) W.heap.size 24 24 3 i0 _ 1 8 Try.underlying24 hi0 hz0 hz1 hz2 rfl (by decide) _ n _ hx av m.length cv (m.map (Value.int .i64)) (by simp) (ints_news hi) (by intro u hu; simp at hu; obtain ⟨x, _, rfl⟩ := hu; rfl) (by simp [maxLen]; omega) (by omega) hb.size
  rw [← List.map_append] at hn
  obtain ⟨a', c', rfl, _⟩ := own_slice hn
  exact ⟨(a', c'), w', hr, hb.grown hg hb.size (fun k hk => (hx.lt k hk).1), hn, fun k hk hne => hg.block k hk (fun e => hne e.symm)⟩
theorem numsL_take {l : List Fme} {k : Nat} (h : k < l.length) : numsL (l.take (k + 1)) = numsL (l.take k) ++ (gf l k).slots ++ [(gf l k).times] := by
  unfold numsL
  rw [List.take_succ_eq_append_getElem h, List.flatMap_append]
  simp [gf, h]
theorem numsL_len {l : List Fme} {k : Nat} (hl : l.length ≤ 2) (hs : ∀ f ∈ l, f.slots.length ≤ 20) (hk : k ≤ l.length) : (numsL (l.take k)).length ≤ k * 21 := by
  induction k with
  | zero => simp [numsL]
  | succ k ih =>
    have h1 := ih (by omega)
    have h2 := hs (gf l k) (by simp [gf, show k < l.length by omega])
    rw [numsL_take (by omega)]
    simp only [List.length_append, List.length_cons, List.length_nil]
    omega
/-- While numbers are gathered. -/
structure NumI (W : World) (l : List Int) (r : Option Addr × Nat) (w : World) : Prop where
  le : Below W.heap.size W w
  own : w.ownsRow W.heap.size 3 1 (.slice r.1 l.length r.2) l.length (l.map (Value.int .i64))
theorem NumI.mono {W : World} {l : List Int} {r : Option Addr × Nat} {w w' : World} (h : NumI W l r w) (hb : Below w.heap.size w w') : NumI W l r w' := ⟨h.le.trans (hb.mono h.le.size), own_below h.own hb⟩
set_option maxRecDepth 100000 in
set_option maxHeartbeats 4000000 in
theorem numbers87 {l : List Fme} {a : Option Addr} {c : Nat} {x : Int} {w : World} (ha : IsFmes w a l) (hl : l.length ≤ 2) (hs : ∀ f ∈ l, f.slots.length ≤ 20) :
    Calls Try.prog 87 #[.agg #[.slice a l.length c, .int .i64 x]] w fun e w' => ∃ r : Option Addr × Nat, e = .returned (.slice r.1 (numsL l).length r.2) ∧ IsInts w' r.1 (numsL l) ∧ Below w.heap.size w w' := by
  have hb0 : Below w.heap.size w (w.alloc (.cells #[.slice a l.length c, .int .i64 x] 81)) := (Below.refl _ w).alloc (Nat.le_refl _) _
  have q0 := World.alloc_heap_new w (.cells #[.slice a l.length c, .int .i64 x] 81)
  have HX := Lib.hid (And.intro q0 (And.intro hb0 (ha.mono hb0)))
  have HS := Lib.hid hs
  clear hb0 q0 ha hs
  go_enter Try.func87, Try.ntmps87
  refine wp_seq_hid ?_
  intro K0 HK0
  go_wp2_with fail
  refine HK0.out _ _ ?_
  clear HK0 K0
  revert HX
  generalize w.alloc (.cells #[.slice a l.length c, .int .i64 x] 81) = w1
  generalize hb : w.heap.size = b1
  intro HX
  have HB := Lib.hid hb
  clear hb
  have x0 : w1.cell? ⟨b1, 0, none⟩ = some (.slice a l.length c) := by rw [cell_of_heap HX.out.1]; rfl
  refine wp_seq_hid ?_
  intro K1 HK1
  go_wp2_with fail
  clear x0
  go_loopw [2, 8] (fun v i wr => ∃ (k : Nat) (r : Option Addr × Nat), k ≤ l.length ∧ i = .int .i64 k ∧ v = .slice r.1 (numsL (l.take k)).length r.2 ∧ Hid (NumI w1 (numsL (l.take k)) r wr)) (fun _ i _ => l.length - (intOf i).toNat)
  case atStart => exact ⟨0, (none, 0), by omega, rfl, rfl, ⟨Below.refl _ _, World.ownsRow_nil w1 _ _ _⟩⟩
  case round =>
    obtain ⟨k, r, hk, rfl, rfl, HW⟩ := hrel
    by_cases hlt : k < l.length
    · obtain ⟨bb, off, hab, ai, ci, c0, c1, c2⟩ := (HX.out.2.2.mono HW.out.le) k hlt
      rw [hab]
      have HAB := Lib.hid hab
      have HLN := Lib.hid (numsL_len hl HS.out hk)
      have HRO : Hid (∀ q, (Value.slice r.1 (numsL (l.take k)).length r.2).ownBlock = some q → w1.heap.size ≤ q ∧ q < wr.heap.size) := fun q hq => HW.out.own.lt q hq
      have HZ5 : Hid (wr.heap.size < (wr.alloc (.cells ((gf l k).arr ai ci) 29)).heap.size) := by show _ < _; simp
      have HLS := Lib.hid (HS.out (gf l k) (by simp [gf, hlt]))
      have HT := Lib.hid (numsL_take hlt)
      have hb5 : Below wr.heap.size wr (wr.alloc (.cells ((gf l k).arr ai ci) 29)) := (Below.refl _ wr).alloc (Nat.le_refl _) _
      have q5 := World.alloc_heap_new wr (.cells ((gf l k).arr ai ci) 29)
      have H5 := Lib.hid (And.intro q5 (And.intro (HW.out.mono hb5) (c2.mono hb5)))
      clear hab hb5 q5 c2
      revert HLN HRO HZ5 HLS HT H5 c0 c1
      generalize gf l k = f
      generalize numsL (l.take k) = pre
      intro c0 c1 HLN HRO HZ5 HLS HT H5
      go_upto_region 4 with fail
      clear c0 c1
      revert H5 HZ5 HRO
      generalize wr.alloc (.cells (f.arr ai ci) 29) = w5
      generalize wr.heap.size = b4
      intro HRO HZ5 H5
      refine wpIn_wide.1 (num4 (r0 := r) (n := pre.length) (m := f.slots.length) (b4 := b4) (ai := ai) (ci := ci) (tm := f.times)
        (S0 := fun fs ms v => NumI w1 pre r v ∧ Below w5.heap.size w5 v ∧ (fs = true → v.heap[ms]? = some (.cells #[.int .i64 f.times] 3 (0, 0)) ∧ w5.heap.size ≤ ms))
        (S1 := fun fs ms r1 v => NumI w1 (pre ++ f.slots) r1 v ∧ (v.heap[b4]? = some (.cells (f.arr ai ci) 29 (0, 0))) ∧ (fs = true → v.heap[ms]? = some (.cells #[.int .i64 f.times] 3 (0, 0))))
        (S2 := fun fs ms r1 r2 v => NumI w1 (pre ++ f.slots ++ [f.times]) r2 v) ?h0 ?l2 ?c3 ?l5 ?s0 ?s1 ?c7 ?hQ)
      case h0 => exact ⟨H5.out.2.1.mono (Below.refl _ _).drew, (Below.refl _ _).drew, fun h => by cases h⟩
      case l2 => exact fun fs ms v h => by rw [cell_of_heap ((h.2.1.block _ (heap_lt H5.out.1)).trans H5.out.1)]; rfl
      case c3 =>
        intro fs ms v h
        obtain ⟨r1, w', hr, hb, ho, hk⟩ := app_ints (cv := ci) rfl (by have := HLN.out; have := HLS.out; omega) h.1.le h.1.own (H5.out.2.2.mono h.2.1)
        have hne : ∀ k, w5.heap.size ≤ k ∨ k = b4 → (Value.slice r.1 pre.length r.2).ownBlock ≠ some k := fun k hk e => by
          have := (HRO.out k e).2
          rcases hk with hk | hk
          · have := HZ5.out; omega
          · subst hk; have := HZ5.out; omega
        refine ⟨r1, w', hr, ⟨hb, by rw [List.length_append]; exact ho⟩, (hk _ (Nat.lt_of_lt_of_le (heap_lt H5.out.1) h.2.1.size) (hne _ (.inr rfl))).trans ((h.2.1.block _ (heap_lt H5.out.1)).trans H5.out.1), fun hf => (hk _ (heap_lt (h.2.2 hf).1) (hne _ (.inl (h.2.2 hf).2))).trans (h.2.2 hf).1⟩
      case l5 =>
        intro fs ms r1 v h
        rcases h with h | h
        · rw [cell_of_heap ((h.2.1.block _ (heap_lt H5.out.1)).trans H5.out.1)]; rfl
        · rw [cell_of_heap h.2.1]; rfl
      case s0 =>
        intro v h
        have hba : Below v.heap.size v (v.alloc (.cells #[.int .i64 f.times] 3)) := (Below.refl _ _).alloc (Nat.le_refl _) _
        exact ⟨h.1.mono hba, h.2.1.trans (hba.mono h.2.1.size), fun _ => ⟨World.alloc_heap_new v _, h.2.1.size⟩⟩
      case s1 =>
        intro r1 v h
        have hba : Below v.heap.size v (v.alloc (.cells #[.int .i64 f.times] 3)) := (Below.refl _ _).alloc (Nat.le_refl _) _
        exact ⟨h.1.mono hba, (hba.block _ (heap_lt h.2.1)).trans h.2.1, fun _ => World.alloc_heap_new v _⟩
      case c7 =>
        intro ms r1 v h
        have hi : IsInts v (some ⟨ms, 0, none⟩) [f.times] := fun i hi => by
          have : i = 0 := by simpa using hi
          subst this
          exact ⟨ms, 0, rfl, by rw [cell_of_heap (h.2.2 rfl)]; rfl⟩
        have hl1 : (pre ++ f.slots).length = pre.length + f.slots.length := List.length_append
        obtain ⟨r2, w', hr, hb, ho, hk⟩ := app_ints (m := [f.times]) (cv := 1) hl1.symm (by rw [hl1]; have := HLN.out; have := HLS.out; simp; omega) h.1.le (by have := h.1.own; rw [hl1] at this; exact this) hi
        refine ⟨r2, w', hr, hb, ?_⟩
        have e : (pre ++ f.slots ++ [f.times]).length = pre.length + f.slots.length + [f.times].length := by rw [List.length_append, List.length_append]
        rw [e]; exact ho
      intro ms r1 r2 w' h
      have H6 : Hid (NumI w1 (pre ++ f.slots ++ [f.times]) r2 w') := h
      have hlen : (pre ++ f.slots ++ [f.times]).length = pre.length + f.slots.length + 1 := by rw [List.length_append, List.length_append]; rfl
      have HLE := Lib.hid hlen
      clear h hlen
      go_wp2_with fail
      go_roundw
      case rel => exact ⟨k + 1, r2, by omega, by go_num, by rw [HT.out, HLE.out], by rw [HT.out]; exact H6.out⟩
      case measure => simp [intOf]; omega
    · have hke : l.take k = l := List.take_of_length_le (by omega)
      rw [hke] at HW ⊢
      have HI := Lib.hid (own_ints HW.out.own)
      have HLE := Lib.hid HW.out.le
      clear hke HW
      go_wp2_with fail
      refine HK1.out _ _ ?_
      go_wp2_with fail
      go_ret
      exact ⟨r, rfl, HI.out, HX.out.2.1.trans (HLE.out.mono (Nat.le_of_lt (heap_lt HX.out.1)))⟩
set_option maxRecDepth 100000 in
set_option maxHeartbeats 4000000 in
theorem before54 {l m : List Fme} {a b : Option Addr} {c e : Nat} {x y : Int} {w : World} (ha : IsFmes w a l) (hb : IsFmes w b m) (hl : l.length ≤ 2) (hm : m.length ≤ 2) (hs : ∀ f ∈ l, f.slots.length ≤ 20) (hs' : ∀ f ∈ m, f.slots.length ≤ 20) :
    Calls Try.prog 54 #[.agg #[.slice a l.length c, .int .i64 x], .agg #[.slice b m.length e, .int .i64 y]] w fun en w' => en = .returned (.bool (decide (orL [cmpI x y, cmpI l.length m.length, cmpL (numsL l) (numsL m)] < 0))) ∧ Below w.heap.size w w' := by
  have HX := Lib.hid (alloc2 w #[.slice a l.length c, .int .i64 x] #[.slice b m.length e, .int .i64 y] 81 81)
  have HF := Lib.hid (And.intro (ha.mono (alloc2 w #[.slice a l.length c, .int .i64 x] #[.slice b m.length e, .int .i64 y] 81 81).2.2) (And.intro (hb.mono (alloc2 w #[.slice a l.length c, .int .i64 x] #[.slice b m.length e, .int .i64 y] 81 81).2.2) (And.intro hs hs')))
  have HN : Hid ((numsL l).length ≤ 1000 ∧ (numsL m).length ≤ 1000) := by
    have h1 := numsL_len hl hs (Nat.le_refl _)
    have h2 := numsL_len hm hs' (Nat.le_refl _)
    rw [List.take_length] at h1 h2
    show _ ∧ _; omega
  have HLM := Lib.hid (And.intro hl hm)
  clear ha hb hs hs'
  go_enter Try.func54, Try.ntmps54
  refine wp_seq_hid ?_
  intro K0 HK0
  go_wp2_with fail
  refine HK0.out _ _ ?_
  clear HK0 K0
  revert HX HF
  generalize (w.alloc (.cells #[.slice a l.length c, .int .i64 x] 81)).alloc (.cells #[.slice b m.length e, .int .i64 y] 81) = w1
  generalize hb3 : w.heap.size + 1 = b3
  generalize hb2 : w.heap.size = b2
  intro HX HF
  have HB2 := Lib.hid (And.intro hb2 hb3)
  clear hb2 hb3
  refine wp_seq_hid ?_
  intro K1 HK1
  have cx : ∀ v, Below w1.heap.size w1 v → v.cell? ⟨b2, 0, none⟩ = some (.slice a l.length c) ∧ v.cell? ⟨b2, 1, none⟩ = some (.int .i64 x) ∧ v.cell? ⟨b3, 0, none⟩ = some (.slice b m.length e) ∧ v.cell? ⟨b3, 1, none⟩ = some (.int .i64 y) := fun v hv => by
    have h1 := (hv.block _ (heap_lt HX.out.1)).trans HX.out.1
    have h2 := (hv.block _ (heap_lt HX.out.2.1)).trans HX.out.2.1
    refine ⟨?_, ?_, ?_, ?_⟩
    · rw [cell_of_heap h1]; rfl
    · rw [cell_of_heap h1]; rfl
    · rw [cell_of_heap h2]; rfl
    · rw [cell_of_heap h2]; rfl
  have HCX := Lib.hid cx
  clear cx
  refine wpIn_wide.1 (bef1 (a := a) (b := b) (n := l.length) (m := m.length) (c := c) (e := e) (x := x) (y := y) (bx := b2) (b_ := b3) (o1 := cmpI x y) (o2 := cmpI l.length m.length) (o3 := cmpL (numsL l) (numsL m)) (o4 := orL [cmpI x y, cmpI l.length m.length, cmpL (numsL l) (numsL m)]) (n1 := (numsL l).length) (n2 := (numsL m).length) (tt := decide (orL [cmpI x y, cmpI l.length m.length, cmpL (numsL l) (numsL m)] < 0))
    (S0 := fun v => Below w1.heap.size w1 v) (S1 := fun _ v => Below w1.heap.size w1 v) (S2 := fun _ _ v => Below w1.heap.size w1 v)
    (S3 := fun _ _ r v => Below w1.heap.size w1 v ∧ IsInts v r.1 (numsL l)) (S4 := fun _ _ r q v => Below w1.heap.size w1 v ∧ IsInts v r.1 (numsL l) ∧ IsInts v q.1 (numsL m)) (S5 := fun _ _ r q _ v => Below w1.heap.size w1 v)
    (S6 := fun _ _ r q _ g v => Below w1.heap.size w1 v ∧ IsInts v (some ⟨g, 0, none⟩) [cmpI x y, cmpI l.length m.length, cmpL (numsL l) (numsL m)]) (S7 := fun _ _ _ _ _ _ _ v => Below w1.heap.size w1 v) rfl ?h0 ?l1 ?l3 ?c4 ?l6 ?l9 ?c11 ?l12 ?c13 ?l14 ?c15 ?c16 ?c17 ?c18 ?hQ)
  case h0 => exact (Below.refl _ _).drew
  case l1 => exact fun v h => (HCX.out v h).2.1
  case l3 => exact fun v h => (HCX.out v h).2.2.2
  case c4 => exact fun v h => (cmp85 x y v).mono (by rintro en w' ⟨rfl, rfl⟩; exact ⟨(), rfl, h⟩)
  case l6 => exact fun _ v h => (HCX.out v (h.elim id id)).1
  case l9 => exact fun _ v h => (HCX.out v (h.elim id id)).2.2.1
  case c11 => exact fun _ v h => (cmp85 l.length m.length v).mono (by rintro en w' ⟨rfl, rfl⟩; exact ⟨(), rfl, h⟩)
  case l12 => exact fun _ _ v h => ⟨(HCX.out v (h.elim id (fun h => h.elim id id))).1, (HCX.out v (h.elim id (fun h => h.elim id id))).2.1⟩
  case c13 => exact fun _ _ v h => (numbers87 (HF.out.1.mono h) HLM.out.1 HF.out.2.2.1).mono (by rintro en w' ⟨r, rfl, hi, hb⟩; exact ⟨r, rfl, h.trans (hb.mono h.size), hi⟩)
  case l14 =>
    intro _ _ r v h
    have hv : Below w1.heap.size w1 v := by rcases h with h | h | h | h <;> first | exact h | exact h.1
    exact ⟨(HCX.out v hv).2.2.1, (HCX.out v hv).2.2.2⟩
  case c15 => exact fun _ _ r v h => (numbers87 (HF.out.2.1.mono h.1) HLM.out.2 HF.out.2.2.2).mono (by rintro en w' ⟨q, rfl, hi, hb⟩; exact ⟨q, rfl, h.1.trans (hb.mono h.1.size), h.2.mono hb, hi⟩)
  case c16 => exact fun _ _ r q v h => (cmp86 HN.out.1 HN.out.2 h.2.1 h.2.2).mono (by rintro en w' ⟨rfl, rfl⟩; exact ⟨(), rfl, h.1⟩)
  case c17 =>
    intro _ _ r q _ v h
    have hba : Below v.heap.size v (v.alloc (.cells #[.int .i64 (cmpI x y), .int .i64 (cmpI l.length m.length), .int .i64 (cmpL (numsL l) (numsL m))] 3)) := (Below.refl _ _).alloc (Nat.le_refl _) _
    have hq := World.alloc_heap_new v (.cells #[.int .i64 (cmpI x y), .int .i64 (cmpI l.length m.length), .int .i64 (cmpL (numsL l) (numsL m))] 3)
    refine ⟨h.trans (hba.mono h.size), fun i hi => ⟨v.heap.size, 0, rfl, ?_⟩⟩
    rw [cell_of_heap hq, Nat.zero_add]
    have hi3 : i < 3 := hi
    match i, hi3 with
    | 0, _ => rfl
    | 1, _ => rfl
    | 2, _ => rfl
  case c18 => exact fun _ _ r q _ g v h => (or84 (l := [cmpI x y, cmpI l.length m.length, cmpL (numsL l) (numsL m)]) (c := 3) (by simp) h.2).mono (by rintro en w' ⟨rfl, rfl⟩; exact ⟨(), rfl, h.1⟩)
  intro _ _ r q _ g _ v h
  have H : Hid (Below w1.heap.size w1 v) := h
  refine HK1.out _ _ ?_
  clear h HK1 K1
  generalize decide (orL [cmpI x y, cmpI l.length m.length, cmpL (numsL l) (numsL m)] < 0) = tt
  go_wp2_with fail
  go_ret
  have h1 := HX.out.2.2.trans (H.out.mono (Nat.le_of_lt (heap_lt HX.out.1)))
  exact ⟨rfl, h1⟩
end Go.Proofs.Ytjkhclijmcmdjaa
namespace Go.Proofs.Ytjkhclijmcmdjaa
open Go.RowKit
section
variable {P : Program}
/-- An iterator that hands over the elements of a list, as long as the rounds want more, and else only lays new blocks. C: the consumer's blocks; K: the blocks of an element, which the consumer may keep. -/
def IterL {α : Type} (P : Program) (g : Nat) (lb : Array Value) (L : List α) (Ok : α → Array Value → World → (Nat → Prop) → Prop) (M : Nat → Prop) (W : World) : Prop :=
  ∀ (l : Nat) (J Jx : List α → World → (Nat → Prop) → Prop),
    (∀ i A B C, J i A C → Same (fun _ => False) A B → J i B C) → (∀ i A B C, Jx i A C → Same (fun _ => False) A B → Jx i B C) →
    (∀ x i v A C K, Ok x v A K → (∀ k, K k → ¬ C k) → J (x :: i) A C → YieldAt Fence.wide 0 P l v A fun e B => Same (mayC M W.heap.size C) A B ∧
      ∃ C' : Nat → Prop, (∀ k, k < W.heap.size → C' k) ∧ (∀ k, C' k → k < B.heap.size) ∧ (∀ k, C' k → C k ∨ K k ∨ A.heap.size ≤ k) ∧ ((e = .returned (.bool true) ∧ J i B C') ∨ (e = .returned (.bool false) ∧ Jx i B C'))) →
    J L W (fun k => k < W.heap.size) →
    CallsIn Fence.wide 0 P g (#[.func (.yield l) #[] #[]] ++ lb) W fun e W' => (∃ v, e = .returned v) ∧ ∃ C', J [] W' C' ∨ ∃ i, Jx i W' C'
/-- How a round's body may end. -/
def roundEndL {α : Type} (l B : Nat) (M C K : Nat → Prop) (I : List α → World → (Nat → Prop) → Prop) (Ix : Code → List α → World → (Nat → Prop) → Prop) (i : List α) (W : World) : Exit → Act → World → Prop
  | .normal, _, W' => Same (mayC M B C) W W' ∧ W'.heap[l]? = W.heap[l]? ∧ ∃ C' : Nat → Prop, (∀ k, k < B → C' k) ∧ (∀ k, C' k → k < W'.heap.size) ∧ (∀ k, C' k → C k ∨ K k ∨ W.heap.size ≤ k) ∧ I i W' C'
  | .ret, _, W' => Same (mayC M B C) W W' ∧ W'.heap[l]? = W.heap[l]? ∧ ∃ C' : Nat → Prop, (∀ k, k < B → C' k) ∧ (∀ k, C' k → k < W'.heap.size) ∧ (∀ k, C' k → C k ∨ K k ∨ W.heap.size ≤ k) ∧ Ix .ret i W' C'
  | .exit id, _, W' => Same (mayC M B C) W W' ∧ W'.heap[l]? = W.heap[l]? ∧ ∃ C' : Nat → Prop, (∀ k, k < B → C' k) ∧ (∀ k, C' k → k < W'.heap.size) ∧ (∀ k, C' k → C k ∨ K k ∨ W.heap.size ≤ k) ∧ Ix (.exit id) i W' C'
  | .goto _, _, _ => False
  | .panic _, _, _ => False
  | .outgrown, _, _ => False
theorem wp_rangeFuncL {α : Type} {g : Operand} {ps : Array Tmp} {assign body : Code} {Q : Exit → Act → World → Prop} {a : Act} {w : World}
    {gf : Nat} {lb : Array Value} (hg : a.eval g = .func (.func gf) #[] lb) (eg : ∀ args w, (callFunc gf args).run P w = .ok (.enter gf args) w)
    (L : List α) (Ok : α → Array Value → World → (Nat → Prop) → Prop) (M : Nat → Prop) (hps : ∀ i v A K, Ok i v A K → v.size = ps.size)
    (hMD : ¬ M w.heap.size) (hMl : M (w.heap.size + 1))
    (hit : ∀ W, Below w.heap.size w W → W.heap.size = w.heap.size + 2 → IterL P gf lb L Ok M W)
    (I : List α → World → (Nat → Prop) → Prop) (Ix : Code → List α → World → (Nat → Prop) → Prop)
    (hI : ∀ i A B C, I i A C → Same (fun k => k = w.heap.size + 1) A B → I i B C) (hIx : ∀ c i A B C, Ix c i A C → Same (fun k => k = w.heap.size + 1) A B → Ix c i B C)
    (h0 : ∀ W, Below w.heap.size w W → W.heap.size = w.heap.size + 2 → I L W (fun k => k < w.heap.size + 2))
    (hround : ∀ x i v W C K, Ok x v W K → (∀ k, K k → ¬ C k) → (∀ k, k < w.heap.size + 2 → C k) → I (x :: i) W C → w.heap.size + 1 < W.heap.size →
      assign.wpIn (Fence.wide.inRound (w.heap.size + 1)) 0 P (Exit.then (fun a₁ W₁ => W = W₁ ∧
          ∀ W₂, Same (fun k => k = w.heap.size + 1) W W₂ → W₂.heap.size = W.heap.size → body.wpIn (Fence.wide.inRound (w.heap.size + 1)) 0 P (roundEndL (w.heap.size + 1) (w.heap.size + 2) M C K I Ix i W₂) a₁ W₂) (fun _ _ _ => False))
        { tmps := (ps.zip v).foldl (fun t (p, v) => t.setIfInBounds p v) a.tmps, defers := [] } W)
    (hdone : ∀ W C, I [] W C → W.heap[w.heap.size]? = some (.deferred (some [])) → Q .normal { a with defers := { target := .collected w.heap.size, args := #[] } :: a.defers } W)
    (hstop : ∀ c i W C, Ix c i W C → W.heap[w.heap.size]? = some (.deferred (some [])) → c.wp P Q { a with defers := { target := .collected w.heap.size, args := #[] } :: a.defers } W) :
    (Code.rangeFunc g ps assign body).wp P Q a w := by
  rw [← wpIn_wide (n := 0)]
  refine wpIn_rangeFunc ?_
  intro fn hfn
  obtain ⟨rec, hrec⟩ : ∃ rec : LoopState → Option Code → Loop, rec = fun st pe => { state := st, pending := pe, fn, tmps := a.tmps, params := ps, assign, body, defers := w.heap.size } := ⟨_, rfl⟩
  obtain ⟨W1, hW1⟩ : ∃ W1, (w.alloc (.deferred (some []))).alloc (.loop (rec .ready none)) = W1 := ⟨_, rfl⟩
  have hL1 : W1.heap[w.heap.size + 1]? = some (.loop (rec .ready none)) := by
    rw [← hW1]; have := World.alloc_heap_new (w.alloc (.deferred (some []))) (.loop (rec .ready none)); rwa [World.size_alloc] at this
  have hK1 : W1.heap[w.heap.size]? = some (.deferred (some [])) := by
    rw [← hW1]; exact (Below.heap_alloc _ _ _ (by simp)).trans (World.alloc_heap_new w _)
  have hs1 : W1.heap.size = w.heap.size + 2 := by rw [← hW1]; simp
  have hb1 : Below w.heap.size w W1 := by rw [← hW1]; exact ((Below.refl _ w).alloc (Nat.le_refl _) _).alloc (by simp) _
  refine ⟨w.heap.size + 1, [{ target := .collected w.heap.size, args := #[] }], W1, { target := .fn (.func gf) lb, args := #[.func (.yield (w.heap.size + 1)) #[] #[]] }, W1, gf,
    #[.func (.yield (w.heap.size + 1)) #[] #[]] ++ lb, W1, ?_, ?_, ?_, ?_, fun h => by simp [Fence.wide] at h, ?_⟩
  · rw [← hW1, hrec]; exact run_enterLoop_outer _ _ _ _ _
  · simp only [resolve, hg]
    simp [go_sem]
  · intro f' hf'; trivial
  · simp [invoke, go_sem, eg]
  · have hput : ∀ (W : World) (o : Obj), Same (fun k => k = w.heap.size + 1) W (W.putObj (w.heap.size + 1) o) := fun W o => Same.putObj (M := fun k => k = w.heap.size + 1) (Same.refl _ W) (.inl rfl) o
    have hl2' : w.heap.size + 1 < w.heap.size + 2 := by omega
    have hD2' : w.heap.size < w.heap.size + 2 := by omega
    have liftM : ∀ {A B : World} {C : Nat → Prop}, (∀ k, k < w.heap.size + 2 → C k) → Same (fun k => k = w.heap.size + 1) A B → Same (mayC M W1.heap.size C) A B := fun hC h => h.mono (fun _ _ e => by
      subst e; exact ⟨hC _ hl2', fun _ => hMl⟩)
    have liftI : ∀ {A B : World}, Same (fun k => k = w.heap.size + 1) A B → Same (fun k => k = w.heap.size + 1) A B := fun h => h
    have hnD : ∀ C, ¬ mayC M W1.heap.size C w.heap.size := fun C h => hMD (h.2 (by omega))
    refine (hit W1 hb1 hs1 (w.heap.size + 1)
      (fun i W C => I i W C ∧ (∀ k, k < w.heap.size + 2 → C k) ∧ W.heap[w.heap.size + 1]? = some (.loop (rec .ready none)) ∧ W.heap[w.heap.size]? = some (.deferred (some [])))
      (fun i W C => ∃ c, Ix c i W C ∧ (∀ k, k < w.heap.size + 2 → C k) ∧ W.heap[w.heap.size + 1]? = some (.loop (rec .done (some c))) ∧ W.heap[w.heap.size]? = some (.deferred (some [])))
      (fun i A B C hs hg' => ⟨hI i A B C hs.1 (hg'.mono (fun _ _ e => e.elim)), hs.2.1, (hg'.block _ (Array.getElem?_eq_some_iff.1 hs.2.2.1).1 (fun h => h)).trans hs.2.2.1, (hg'.block _ (Array.getElem?_eq_some_iff.1 hs.2.2.2).1 (fun h => h)).trans hs.2.2.2⟩)
      (fun i A B C hs hg' => by
        obtain ⟨c, hc, hC, hl, hk⟩ := hs
        exact ⟨c, hIx c i A B C hc (hg'.mono (fun _ _ e => e.elim)), hC, (hg'.block _ (Array.getElem?_eq_some_iff.1 hl).1 (fun h => h)).trans hl, (hg'.block _ (Array.getElem?_eq_some_iff.1 hk).1 (fun h => h)).trans hk⟩)
      ?_ ⟨by rw [hs1]; exact h0 W1 hb1 hs1, fun k hk => by omega, hL1, hK1⟩).mono ?_
    · rintro x i v W C K hok hKC ⟨hi, hC, hl, hk⟩
      have hlt : w.heap.size + 1 < W.heap.size := (Array.getElem?_eq_some_iff.1 hl).1
      have hy := run_yield (P := P) (args := v) hl (by rw [hrec]; exact hps x v W K hok)
      rw [hrec] at hy
      refine ⟨fn, _, assign, body, hy, roundIn_of_wpIn hfn (wpIn_mono (hround x i v W C K hok hKC hC hi hlt) ?_)⟩
      rintro e a₁ Wa hp
      cases e with
      | normal =>
        obtain ⟨rfl, hbody⟩ := hp
        refine ⟨_, run_beginRound hl (by rw [hrec]), ?_⟩
        have hl2 : (W.putObj (w.heap.size + 1) (.loop { rec .ready none with state := .busy })).heap[w.heap.size + 1]? = some (.loop { rec .ready none with state := .busy }) := World.putObj_heap_same hlt
        have hk2 : (W.putObj (w.heap.size + 1) (.loop { rec .ready none with state := .busy })).heap[w.heap.size]? = some (.deferred (some [])) := (World.putObj_heap_other (by omega)).trans hk
        have hs2 := hput W (.loop { rec .ready none with state := .busy })
        refine wpIn_mono (hbody _ hs2 (by simp)) ?_
        have fin : ∀ (jump : Option Code) (W3 : World), Same (mayC M (w.heap.size + 2) C) (W.putObj (w.heap.size + 1) (.loop { rec .ready none with state := .busy })) W3 → W3.heap[w.heap.size + 1]? = (W.putObj (w.heap.size + 1) (.loop { rec .ready none with state := .busy })).heap[w.heap.size + 1]? →
            (Instr.endRound (w.heap.size + 1) jump).run P W3 = .ok (.bool jump.isNone) (W3.putObj (w.heap.size + 1) (.loop (rec (if jump.isNone then .ready else .done) jump))) ∧
            (W3.putObj (w.heap.size + 1) (.loop (rec (if jump.isNone then .ready else .done) jump))).heap[w.heap.size + 1]? = some (.loop (rec (if jump.isNone then .ready else .done) jump)) ∧
            (W3.putObj (w.heap.size + 1) (.loop (rec (if jump.isNone then .ready else .done) jump))).heap[w.heap.size]? = some (.deferred (some [])) ∧
            Same (fun k => k = w.heap.size + 1) W3 (W3.putObj (w.heap.size + 1) (.loop (rec (if jump.isNone then .ready else .done) jump))) ∧
            Same (mayC M W1.heap.size C) W (W3.putObj (w.heap.size + 1) (.loop (rec (if jump.isNone then .ready else .done) jump))) := fun jump W3 hk3 hl3 => by
          rw [hl2] at hl3
          rw [← hs1] at hk3
          have hlt3 := (Array.getElem?_eq_some_iff.1 hl3).1
          have hkk := (hk3.block _ (Array.getElem?_eq_some_iff.1 hk2).1 (hnD C)).trans hk2
          have := run_endRound (P := P) jump hl3
          rw [hrec] at this ⊢
          exact ⟨this, World.putObj_heap_same hlt3, (World.putObj_heap_other (by omega)).trans hkk, hput _ _, ((liftM hC hs2).trans hk3).trans (liftM hC (hput _ _))⟩
        have hsz : (W.putObj (w.heap.size + 1) (.loop { rec .ready none with state := .busy })).heap.size = W.heap.size := by simp
        rintro e a3 W3 hp
        cases e with
        | normal =>
          obtain ⟨hk3, hl3, C', hC', hCB, hCK, hi3⟩ := hp
          obtain ⟨hr, hl4, hk4, hs4, hs5⟩ := fin none W3 hk3 hl3
          rw [hsz] at hCK
          exact ⟨_, _, hr, hs5, C', by rw [hs1]; exact hC', fun k hk => by simpa using hCB k hk, hCK, .inl ⟨rfl, hI _ _ _ _ hi3 (liftI hs4), hC', hl4, hk4⟩⟩
        | ret =>
          obtain ⟨hk3, hl3, C', hC', hCB, hCK, hi3⟩ := hp
          obtain ⟨hr, hl4, hk4, hs4, hs5⟩ := fin (some .ret) W3 hk3 hl3
          rw [hsz] at hCK
          exact ⟨_, _, hr, hs5, C', by rw [hs1]; exact hC', fun k hk => by simpa using hCB k hk, hCK, .inr ⟨rfl, .ret, hIx _ _ _ _ _ hi3 (liftI hs4), hC', hl4, hk4⟩⟩
        | exit id =>
          obtain ⟨hk3, hl3, C', hC', hCB, hCK, hi3⟩ := hp
          obtain ⟨hr, hl4, hk4, hs4, hs5⟩ := fin (some (.exit id)) W3 hk3 hl3
          rw [hsz] at hCK
          exact ⟨_, _, hr, hs5, C', by rw [hs1]; exact hC', fun k hk => by simpa using hCB k hk, hCK, .inr ⟨rfl, .exit id, hIx _ _ _ _ _ hi3 (liftI hs4), hC', hl4, hk4⟩⟩
        | goto t => exact hp.elim
        | panic ch => exact hp.elim
        | outgrown => exact hp.elim
      | exit id => exact hp.elim
      | goto t => exact hp.elim
      | ret => exact hp.elim
      | panic chain => exact hp.elim
      | outgrown => exact hp.elim
    · rintro e W2 ⟨⟨v, rfl⟩, C', (⟨hi, hC, hl, hk⟩ | ⟨i, c, hi, hC, hl, hk⟩)⟩
      · have hlt := (Array.getElem?_eq_some_iff.1 hl).1
        exact ⟨none, _, by have := run_endLoop (P := P) hl (by rw [hrec]; simp); rw [hrec] at this; exact this, hdone _ C' (hI _ _ _ _ hi (liftI (hput _ _))) ((World.putObj_heap_other (by omega)).trans hk)⟩
      · have hlt := (Array.getElem?_eq_some_iff.1 hl).1
        exact ⟨some c, _, by have := run_endLoop (P := P) hl (by rw [hrec]; simp); rw [hrec] at this; exact this, wpIn_wide.2 (hstop c i _ C' (hIx c _ _ _ _ hi (liftI (hput _ _))) ((World.putObj_heap_other (by omega)).trans hk))⟩
end
end Go.Proofs.Ytjkhclijmcmdjaa
