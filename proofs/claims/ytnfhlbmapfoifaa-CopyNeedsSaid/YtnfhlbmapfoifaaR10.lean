/- The reference's ways, orders: their drawn regions: one card more. -/
import Derived.Test.YtnfhlbmapfoifaaR8
import Derived.Test.YtnfhlbmapfoifaaW29
namespace Go.Proofs.Ytnfhlbmapfoifaa
open Go.RowKit
set_option linter.unusedVariables false

structure rwa9F (p : Prs) (a : Option Addr) (cap : Nat) (bx : Nat) (av : Option Addr) (k : Nat) (cv : Nat) (vo : Value) (f : Int) (S0 : Bool → Nat → World → Prop) (S1 : Bool → Nat → Value → World → Prop) (S2 : Bool → Nat → Value → Option Addr × Nat → World → Prop) (S3 : Bool → Nat → Value → Option Addr × Nat → Option Addr × Nat → World → Prop) (S4 : Bool → Nat → Value → Option Addr × Nat → Option Addr × Nat → Value → World → Prop) (d : Nat → Bool) (x33 x34 x35 x36 x37 x38 x39 x40 x41 x2 : Value) (ms : Nat) (r1 : Option Addr × Nat) (r2 : Option Addr × Nat) (w : World) : Prop where
  q3 : d 3 = true → d 1 = true ∧ d 2 = true
  q5 : d 5 = true → d 4 = true
  q6 : d 6 = true → d 3 = true ∧ d 5 = true
  q8 : d 8 = true → d 0 = true ∧ d 6 = true ∧ d 7 = true
  q9 : d 9 = true → d 0 = true ∧ d 1 = true ∧ d 2 = true ∧ d 3 = true ∧ d 4 = true ∧ d 5 = true ∧ d 6 = true ∧ d 7 = true ∧ d 8 = true
  f0 : d 0 = true → x33 = p.v a cap
  f2 : d 2 = true → x35 = .slice av k cv
  f3 : d 3 = true → x36 = .slice r1.1 k r1.2
  f4 : d 4 = true → x37 = .int .i64 f
  f5 : d 5 = true → x38 = .slice (some ⟨ms, 0, none⟩) 1 1
  f6 : d 6 = true → x39 = .slice r2.1 (k + 1) r2.2
  f7 : d 7 = true → x40 = vo
  f9 : d 9 = true → x2 = x41
  g9 : d 9 = false → vo = x2
  st0 : d 1 = false → S0 (d 5) ms w
  st1 : d 1 = true → d 3 = false → S1 (d 5) ms x34 w
  st2 : d 3 = true → d 6 = false → S2 (d 5) ms x34 r1 w
  st3 : d 6 = true → d 8 = false → S3 (d 5) ms x34 r1 r2 w
  st4 : d 8 = true → S4 (d 5) ms x34 r1 r2 x41 w
  mz : d 5 = false → ms = 0
noncomputable def rwa9C : Code := (Try.f100.body.bind (regionAt 9)).getD .skip
set_option maxRecDepth 100000 in
set_option maxHeartbeats 4000000 in
theorem rwa9 {p : Prs} {a : Option Addr} {cap : Nat} {bx : Nat} {av : Option Addr} {k : Nat} {cv : Nat} {vo : Value} {f : Int} {S0 : Bool → Nat → World → Prop} {S1 : Bool → Nat → Value → World → Prop} {S2 : Bool → Nat → Value → Option Addr × Nat → World → Prop} {S3 : Bool → Nat → Value → Option Addr × Nat → Option Addr × Nat → World → Prop} {S4 : Bool → Nat → Value → Option Addr × Nat → Option Addr × Nat → Value → World → Prop} {Q : Exit → Act → World → Prop} {W1 : World} (h0 : S0 false 0 W1.drew)
    (kl0 : Hid (∀ (fs : Bool) (ms : Nat) (x34 : Value) (r1 : Option Addr × Nat) (r2 : Option Addr × Nat) (w : World), (S0 fs ms w ∨ S1 fs ms x34 w ∨ S2 fs ms x34 r1 w ∨ S3 fs ms x34 r1 r2 w) → w.cell? ⟨bx, 0, none⟩ = some (.slice a p.cards.length cap) ∧ w.cell? ⟨bx, 1, none⟩ = some (.int .i64 p.llo) ∧ w.cell? ⟨bx, 2, none⟩ = some (.int .i64 p.lhi) ∧ w.cell? ⟨bx, 3, none⟩ = some (.int .i64 p.olo) ∧ w.cell? ⟨bx, 4, none⟩ = some (.int .i64 p.ohi)))
    (kc1 : Hid (∀ (fs : Bool) (ms : Nat) (w : World), S0 fs ms w → S1 fs ms (.slice (some ⟨w.heap.size, 0, none⟩) 0 0) (w.alloc (.cells #[] 3))))
    (kc3 : Hid (∀ (fs : Bool) (ms : Nat) (x34 : Value) (w : World), S1 fs ms x34 w → ∃ (r1 : Option Addr × Nat) (w' : World), (Builtin.append_ #[42, 42] 42 #[x34, .slice av k cv]).run Try.prog w = .ok (.slice r1.1 k r1.2) w' ∧ S2 fs ms x34 r1 w'))
    (ks0 : Hid (∀ (w : World), S0 false 0 w → S0 true w.heap.size (w.alloc (.cells #[.int .i64 f] 3))))
    (ks1 : Hid (∀ (x34 : Value) (w : World), S1 false 0 x34 w → S1 true w.heap.size x34 (w.alloc (.cells #[.int .i64 f] 3))))
    (ks2 : Hid (∀ (x34 : Value) (r1 : Option Addr × Nat) (w : World), S2 false 0 x34 r1 w → S2 true w.heap.size x34 r1 (w.alloc (.cells #[.int .i64 f] 3))))
    (kc6 : Hid (∀ (ms : Nat) (x34 : Value) (r1 : Option Addr × Nat) (w : World), S2 true ms x34 r1 w → ∃ (r2 : Option Addr × Nat) (w' : World), (Builtin.append_ #[42, 42] 42 #[.slice r1.1 k r1.2, .slice (some ⟨ms, 0, none⟩) 1 1]).run Try.prog w = .ok (.slice r2.1 (k + 1) r2.2) w' ∧ S3 true ms x34 r1 r2 w'))
    (kc8 : Hid (∀ (ms : Nat) (x34 : Value) (r1 : Option Addr × Nat) (r2 : Option Addr × Nat) (w : World), S3 true ms x34 r1 r2 w → Calls Try.prog 100 #[p.v a cap, .slice r2.1 (k + 1) r2.2, vo] w fun e w' => ∃ x41 : Value, e = .returned (x41) ∧ S4 true ms x34 r1 r2 x41 w'))
    {s0 s4 s5 s6 s8 s9 s10 s11 s12 s13 s14 s15 s16 s17 s18 s19 s20 s21 s22 s23 s24 s25 s26 s27 s28 s29 s30 s31 s32 s33 s34 s35 s36 s37 s38 s39 s40 s41 s42 : Value} {dd : List Deferred}
    (hQ : ∀ (ms : Nat) (x34 : Value) (r1 : Option Addr × Nat) (r2 : Option Addr × Nat) (x41 : Value) (w' : World), S4 true ms x34 r1 r2 x41 w' → Q .normal { tmps := #[s0, .slice av k cv, x41, .pointer (some ⟨bx, 0, none⟩), s4, s5, s6, .int .i64 f, s8, s9, s10, s11, s12, s13, s14, s15, s16, s17, s18, s19, s20, s21, s22, s23, s24, s25, s26, s27, s28, s29, s30, s31, s32, p.v a cap, x34, .slice av k cv, .slice r1.1 k r1.2, .int .i64 f, .slice (some ⟨ms, 0, none⟩) 1 1, .slice r2.1 (k + 1) r2.2, vo, x41, s42], defers := dd } w') :
    Code.wpIn (wideAt none) 0 Try.prog rwa9C Q { tmps := #[s0, .slice av k cv, vo, .pointer (some ⟨bx, 0, none⟩), s4, s5, s6, .int .i64 f, s8, s9, s10, s11, s12, s13, s14, s15, s16, s17, s18, s19, s20, s21, s22, s23, s24, s25, s26, s27, s28, s29, s30, s31, s32, s33, s34, s35, s36, s37, s38, s39, s40, s41, s42], defers := dd } W1 := by
  have HQ := Lib.hid hQ
  clear hQ
  conv => arg 4; whnf
  refine wpIn_region_invG mixed (by kernel_rfl) (fun d_ a_ w' => ∃ (x33 : Value) (x34 : Value) (x35 : Value) (x36 : Value) (x37 : Value) (x38 : Value) (x39 : Value) (x40 : Value) (x41 : Value) (x2 : Value) (ms : Nat) (r1 : Option Addr × Nat) (r2 : Option Addr × Nat), a_ = { tmps := #[s0, .slice av k cv, x2, .pointer (some ⟨bx, 0, none⟩), s4, s5, s6, .int .i64 f, s8, s9, s10, s11, s12, s13, s14, s15, s16, s17, s18, s19, s20, s21, s22, s23, s24, s25, s26, s27, s28, s29, s30, s31, s32, x33, x34, x35, x36, x37, x38, x39, x40, x41, s42], defers := dd } ∧ rwa9F p a cap bx av k cv vo f S0 S1 S2 S3 S4 d_ x33 x34 x35 x36 x37 x38 x39 x40 x41 x2 ms r1 r2 w') ?_ ?_ ?_
  · refine ⟨s33, s34, s35, s36, s37, s38, s39, s40, s41, (vo), 0, default, default, rfl, ?_⟩
    constructor <;> first | rfl | (intro _; rfl) | (intro h; cases h; done) | (intro _; exact h0) | exact h0
  · refine ⟨?_, ?_, ?_, ?_, ?_, ?_, ?_, ?_, ?_, ?_, trivial⟩
    all_goals
      rintro d_ a_ w1 K hd_ hdep ⟨x33, x34, x35, x36, x37, x38, x39, x40, x41, x2, ms, r1, r2, rfl, F⟩ HK
      simp [Region.binds] at hdep
    · have hst : S0 (d_ 5) ms w1 ∨ S1 (d_ 5) ms x34 w1 ∨ S2 (d_ 5) ms x34 r1 w1 ∨ S3 (d_ 5) ms x34 r1 r2 w1 := by
        cases e1 : d_ 1 with
        | false => exact .inl ((F.st0 e1))
        | true =>
          cases e2 : d_ 3 with
          | false => exact .inr (.inl ((F.st1 e1 e2)))
          | true =>
            cases e3 : d_ 6 with
            | false => exact .inr (.inr (.inl ((F.st2 e2 e3))))
            | true =>
              have n_ : d_ 8 = false := by
                cases e_ : d_ 8 with
                | false => rfl
                | true => have h2 := (F.q8 e_).1; rw [show d_ 0 = false from hd_] at h2; cases h2
              exact .inr (.inr (.inr ((F.st3 e3 n_))))
      have kk := kl0.out (d_ 5) ms x34 r1 r2 w1 hst
      obtain ⟨kk0, kk1, kk2, kk3, kk4⟩ := kk
      clear hst
      have HF : Hid (rwa9F p a cap bx av k cv vo f S0 S1 S2 S3 S4 (upd d_ 0) (p.v a cap) x34 x35 x36 x37 x38 x39 x40 x41 x2 ms r1 r2 w1) := ⟨F.q3, F.q5, F.q6, fun h => ⟨rfl, (F.q8 h).2.1, (F.q8 h).2.2⟩, fun h => ⟨rfl, (F.q9 h).2.1, (F.q9 h).2.2.1, (F.q9 h).2.2.2.1, (F.q9 h).2.2.2.2.1, (F.q9 h).2.2.2.2.2.1, (F.q9 h).2.2.2.2.2.2.1, (F.q9 h).2.2.2.2.2.2.2.1, (F.q9 h).2.2.2.2.2.2.2.2⟩, fun _ => rfl, F.f2, F.f3, F.f4, F.f5, F.f6, F.f7, F.f9, F.g9, F.st0, F.st1, F.st2, F.st3, F.st4, F.mz⟩
      clear F
      go_simp
      exact HK.out _ _ ⟨_, _, _, _, _, _, _, _, _, _, _, _, _, rfl, HF.out⟩
    · have hS := F.st0  hd_
      have hres := kc1.out (d_ 5) ms w1 hS
      have HF : Hid (rwa9F p a cap bx av k cv vo f S0 S1 S2 S3 S4 (upd d_ 1) x33 ((.slice (some ⟨w1.heap.size, 0, none⟩) 0 0)) x35 x36 x37 x38 x39 x40 x41 x2 ms r1 r2 (w1.alloc (.cells #[] 3))) := ⟨fun h => ⟨rfl, (F.q3 h).2⟩, F.q5, F.q6, F.q8, fun h => ⟨(F.q9 h).1, rfl, (F.q9 h).2.2.1, (F.q9 h).2.2.2.1, (F.q9 h).2.2.2.2.1, (F.q9 h).2.2.2.2.2.1, (F.q9 h).2.2.2.2.2.2.1, (F.q9 h).2.2.2.2.2.2.2.1, (F.q9 h).2.2.2.2.2.2.2.2⟩, F.f0, F.f2, F.f3, F.f4, F.f5, F.f6, F.f7, F.f9, F.g9, fun h => (by simp [upd] at h), fun _ _ => hres, fun h _ => (by have h2 : d_ 1 = true := (F.q3 h).1; rw [show d_ 1 = false from hd_] at h2; cases h2), fun h _ => (by have h2 : d_ 1 = true := (F.q3 (F.q6 h).1).1; rw [show d_ 1 = false from hd_] at h2; cases h2), fun h => (by have h2 : d_ 1 = true := (F.q3 (F.q6 (F.q8 h).2.1).1).1; rw [show d_ 1 = false from hd_] at h2; cases h2), F.mz⟩
      clear F hS hres
      go_simp
      exact HK.out _ _ ⟨_, _, _, _, _, _, _, _, _, _, _, _, _, rfl, HF.out⟩
    · have HF : Hid (rwa9F p a cap bx av k cv vo f S0 S1 S2 S3 S4 (upd d_ 2) x33 x34 (.slice av k cv) x36 x37 x38 x39 x40 x41 x2 ms r1 r2 w1) := ⟨fun h => ⟨(F.q3 h).1, rfl⟩, F.q5, F.q6, F.q8, fun h => ⟨(F.q9 h).1, (F.q9 h).2.1, rfl, (F.q9 h).2.2.2.1, (F.q9 h).2.2.2.2.1, (F.q9 h).2.2.2.2.2.1, (F.q9 h).2.2.2.2.2.2.1, (F.q9 h).2.2.2.2.2.2.2.1, (F.q9 h).2.2.2.2.2.2.2.2⟩, F.f0, fun _ => rfl, F.f3, F.f4, F.f5, F.f6, F.f7, F.f9, F.g9, F.st0, F.st1, F.st2, F.st3, F.st4, F.mz⟩
      clear F
      go_simp
      exact HK.out _ _ ⟨_, _, _, _, _, _, _, _, _, _, _, _, _, rfl, HF.out⟩
    · have hS := F.st1 (by simp [hdep] : d_ 1 = true) hd_
      obtain rfl := F.f2 (by simp [hdep])
      obtain ⟨v_, w_, hr, hres⟩ := kc3.out (d_ 5) ms x34 w1 hS
      rw [if_pos (by rfl)]
      refine wpIn_append_run (.tmp 34) (.tmp 35) 42 rfl _ _ _ _ rfl rfl hr ?_
      exact HK.out _ _ ⟨_, _, _, _, _, _, _, _, _, _, ms, v_, r2, rfl, ⟨fun _ => ⟨(show _ from (by simp [hdep] : d_ 1 = true)), (show _ from (by simp [hdep] : d_ 2 = true))⟩, F.q5, fun h => ⟨rfl, (F.q6 h).2⟩, F.q8, fun h => ⟨(F.q9 h).1, (F.q9 h).2.1, (F.q9 h).2.2.1, rfl, (F.q9 h).2.2.2.2.1, (F.q9 h).2.2.2.2.2.1, (F.q9 h).2.2.2.2.2.2.1, (F.q9 h).2.2.2.2.2.2.2.1, (F.q9 h).2.2.2.2.2.2.2.2⟩, F.f0, F.f2, fun _ => rfl, F.f4, F.f5, F.f6, F.f7, F.f9, F.g9, fun h => (by have h2 : d_ 1 = false := h; rw [(by simp [hdep] : d_ 1 = true)] at h2; cases h2), fun _ h => (by simp [upd] at h), fun _ _ => hres, fun h _ => (by have h2 : d_ 3 = true := (F.q6 h).1; rw [show d_ 3 = false from hd_] at h2; cases h2), fun h => (by have h2 : d_ 3 = true := (F.q6 (F.q8 h).2.1).1; rw [show d_ 3 = false from hd_] at h2; cases h2), F.mz⟩⟩
    · have HF : Hid (rwa9F p a cap bx av k cv vo f S0 S1 S2 S3 S4 (upd d_ 4) x33 x34 x35 x36 (.int .i64 f) x38 x39 x40 x41 x2 ms r1 r2 w1) := ⟨F.q3, fun h => rfl, F.q6, F.q8, fun h => ⟨(F.q9 h).1, (F.q9 h).2.1, (F.q9 h).2.2.1, (F.q9 h).2.2.2.1, rfl, (F.q9 h).2.2.2.2.2.1, (F.q9 h).2.2.2.2.2.2.1, (F.q9 h).2.2.2.2.2.2.2.1, (F.q9 h).2.2.2.2.2.2.2.2⟩, F.f0, F.f2, F.f3, fun _ => rfl, F.f5, F.f6, F.f7, F.f9, F.g9, F.st0, F.st1, F.st2, F.st3, F.st4, F.mz⟩
      clear F
      go_simp
      exact HK.out _ _ ⟨_, _, _, _, _, _, _, _, _, _, _, _, _, rfl, HF.out⟩
    · obtain rfl := F.f4 (by simp [hdep])
      have HF : Hid (rwa9F p a cap bx av k cv vo f S0 S1 S2 S3 S4 (upd d_ 5) x33 x34 x35 x36 (.int .i64 f) (.slice (some ⟨w1.heap.size, 0, none⟩) 1 1) x39 x40 x41 x2 w1.heap.size r1 r2 (w1.alloc (.cells #[.int .i64 f] 3))) := ⟨F.q3, fun _ => (show _ from (by simp [hdep] : d_ 4 = true)), fun h => ⟨(F.q6 h).1, rfl⟩, F.q8, fun h => ⟨(F.q9 h).1, (F.q9 h).2.1, (F.q9 h).2.2.1, (F.q9 h).2.2.2.1, (F.q9 h).2.2.2.2.1, rfl, (F.q9 h).2.2.2.2.2.2.1, (F.q9 h).2.2.2.2.2.2.2.1, (F.q9 h).2.2.2.2.2.2.2.2⟩, F.f0, F.f2, F.f3, F.f4, fun _ => rfl, F.f6, F.f7, F.f9, F.g9, fun b => ks0.out w1 (by have h := F.st0 b; rw [show d_ 5 = false from hd_, F.mz hd_] at h; exact h), fun a b => ks1.out x34 w1 (by have h := F.st1 a b; rw [show d_ 5 = false from hd_, F.mz hd_] at h; exact h), fun a b => ks2.out x34 r1 w1 (by have h := F.st2 a b; rw [show d_ 5 = false from hd_, F.mz hd_] at h; exact h), fun a b => (by have h2 : d_ 5 = true := (F.q6 a).2; rw [show d_ 5 = false from hd_] at h2; cases h2), fun a => (by have h2 : d_ 5 = true := (F.q6 (F.q8 a).2.1).2; rw [show d_ 5 = false from hd_] at h2; cases h2), fun h => (by simp [upd] at h)⟩
      clear F
      go_simp
      exact HK.out _ _ ⟨_, _, _, _, _, _, _, _, _, _, _, _, _, rfl, HF.out⟩
    · have hS := F.st2 (by simp [hdep] : d_ 3 = true) hd_
      rw [show d_ 5 = true from (by simp [hdep] : d_ 5 = true)] at hS
      obtain rfl := F.f3 (by simp [hdep])
      obtain rfl := F.f5 (by simp [hdep])
      obtain ⟨v_, w_, hr, hres⟩ := kc6.out ms x34 r1 w1 hS
      rw [if_pos (by rfl)]
      refine wpIn_append_run (.tmp 36) (.tmp 38) 42 rfl _ _ _ _ rfl rfl hr ?_
      exact HK.out _ _ ⟨_, _, _, _, _, _, _, _, _, _, ms, r1, v_, rfl, ⟨F.q3, F.q5, fun _ => ⟨(show _ from (by simp [hdep] : d_ 3 = true)), (show _ from (by simp [hdep] : d_ 5 = true))⟩, fun h => ⟨(F.q8 h).1, rfl, (F.q8 h).2.2⟩, fun h => ⟨(F.q9 h).1, (F.q9 h).2.1, (F.q9 h).2.2.1, (F.q9 h).2.2.2.1, (F.q9 h).2.2.2.2.1, (F.q9 h).2.2.2.2.2.1, rfl, (F.q9 h).2.2.2.2.2.2.2.1, (F.q9 h).2.2.2.2.2.2.2.2⟩, F.f0, F.f2, F.f3, F.f4, F.f5, fun _ => rfl, F.f7, F.f9, F.g9, fun h => (by have h2 : d_ 1 = false := h; rw [(F.q3 (by simp [hdep] : d_ 3 = true)).1] at h2; cases h2), fun _ h => (by have h2 : d_ 3 = false := h; rw [(by simp [hdep] : d_ 3 = true)] at h2; cases h2), fun _ h => (by simp [upd] at h), fun _ _ => (by rw [show upd d_ 6 5 = true from (by simp [hdep] : d_ 5 = true)]; exact hres), fun h => (by have h2 : d_ 6 = true := (F.q8 h).2.1; rw [show d_ 6 = false from hd_] at h2; cases h2), F.mz⟩⟩
    · have n9_ : d_ 9 = false := by
        cases e_ : d_ 9 with
        | false => rfl
        | true => have h2 := (F.q9 e_).2.2.2.2.2.2.2.1; rw [show d_ 7 = false from hd_] at h2; cases h2
      have g9_ := F.g9 n9_
      subst g9_
      have HF : Hid (rwa9F p a cap bx av k cv vo f S0 S1 S2 S3 S4 (upd d_ 7) x33 x34 x35 x36 x37 x38 x39 (vo) x41 (vo) ms r1 r2 w1) := ⟨F.q3, F.q5, F.q6, fun h => ⟨(F.q8 h).1, (F.q8 h).2.1, rfl⟩, fun h => ⟨(F.q9 h).1, (F.q9 h).2.1, (F.q9 h).2.2.1, (F.q9 h).2.2.2.1, (F.q9 h).2.2.2.2.1, (F.q9 h).2.2.2.2.2.1, (F.q9 h).2.2.2.2.2.2.1, rfl, (F.q9 h).2.2.2.2.2.2.2.2⟩, F.f0, F.f2, F.f3, F.f4, F.f5, F.f6, fun _ => rfl, F.f9, F.g9, F.st0, F.st1, F.st2, F.st3, F.st4, F.mz⟩
      clear F
      go_simp
      exact HK.out _ _ ⟨_, _, _, _, _, _, _, _, _, _, _, _, _, rfl, HF.out⟩
    · have hS := F.st3 (by simp [hdep] : d_ 6 = true) hd_
      rw [show d_ 5 = true from (F.q6 (by simp [hdep] : d_ 6 = true)).2] at hS
      obtain rfl := F.f0 (by simp [hdep])
      obtain rfl := F.f6 (by simp [hdep])
      obtain rfl := F.f7 (by simp [hdep])
      have hc := kc8.out ms x34 r1 r2 w1 hS
      have HF := Lib.hid F
      clear F
      go_simp
      refine ⟨trivial, rfl, wideAt_calls (hc.mono ?_)⟩
      rintro e w5 ⟨v_, rfl, hres⟩
      exact HK.out _ _ ⟨_, _, _, _, _, _, _, _, _, _, ms, r1, r2, rfl, ⟨HF.out.q3, HF.out.q5, HF.out.q6, fun _ => ⟨(show _ from (by simp [hdep] : d_ 0 = true)), (show _ from (by simp [hdep] : d_ 6 = true)), (show _ from (by simp [hdep] : d_ 7 = true))⟩, fun h => ⟨(HF.out.q9 h).1, (HF.out.q9 h).2.1, (HF.out.q9 h).2.2.1, (HF.out.q9 h).2.2.2.1, (HF.out.q9 h).2.2.2.2.1, (HF.out.q9 h).2.2.2.2.2.1, (HF.out.q9 h).2.2.2.2.2.2.1, (HF.out.q9 h).2.2.2.2.2.2.2.1, rfl⟩, HF.out.f0, HF.out.f2, HF.out.f3, HF.out.f4, HF.out.f5, HF.out.f6, HF.out.f7, fun h => (by have h2 : d_ 8 = true := (HF.out.q9 h).2.2.2.2.2.2.2.2; rw [show d_ 8 = false from hd_] at h2; cases h2), HF.out.g9, fun h => (by have h2 : d_ 1 = false := h; rw [(HF.out.q3 (HF.out.q6 (by simp [hdep] : d_ 6 = true)).1).1] at h2; cases h2), fun _ h => (by have h2 : d_ 3 = false := h; rw [(HF.out.q6 (by simp [hdep] : d_ 6 = true)).1] at h2; cases h2), fun _ h => (by have h2 : d_ 6 = false := h; rw [(by simp [hdep] : d_ 6 = true)] at h2; cases h2), fun _ h => (by simp [upd] at h), fun _ => (by rw [show upd d_ 8 5 = true from (HF.out.q6 (by simp [hdep] : d_ 6 = true)).2]; exact hres), HF.out.mz⟩⟩
    · have HF : Hid (rwa9F p a cap bx av k cv vo f S0 S1 S2 S3 S4 (upd d_ 9) x33 x34 x35 x36 x37 x38 x39 x40 x41 (x41) ms r1 r2 w1) := ⟨F.q3, F.q5, F.q6, F.q8, fun _ => ⟨(show _ from (by simp [hdep] : d_ 0 = true)), (show _ from (by simp [hdep] : d_ 1 = true)), (show _ from (by simp [hdep] : d_ 2 = true)), (show _ from (by simp [hdep] : d_ 3 = true)), (show _ from (by simp [hdep] : d_ 4 = true)), (show _ from (by simp [hdep] : d_ 5 = true)), (show _ from (by simp [hdep] : d_ 6 = true)), (show _ from (by simp [hdep] : d_ 7 = true)), (show _ from (by simp [hdep] : d_ 8 = true))⟩, F.f0, F.f2, F.f3, F.f4, F.f5, F.f6, F.f7, fun _ => rfl, fun h => (by simp [upd] at h), F.st0, F.st1, F.st2, F.st3, F.st4, F.mz⟩
      clear F
      go_simp
      exact HK.out _ _ ⟨_, _, _, _, _, _, _, _, _, _, _, _, _, rfl, HF.out⟩
  · rintro d_ a_ w1 hall ⟨x33, x34, x35, x36, x37, x38, x39, x40, x41, x2, ms, r1, r2, rfl, F⟩
    have hall' : ∀ k, k < 10 → d_ k = true := hall
    obtain rfl := F.f0 (hall' 0 (by decide))
    obtain rfl := F.f2 (hall' 2 (by decide))
    obtain rfl := F.f3 (hall' 3 (by decide))
    obtain rfl := F.f4 (hall' 4 (by decide))
    obtain rfl := F.f5 (hall' 5 (by decide))
    obtain rfl := F.f6 (hall' 6 (by decide))
    obtain rfl := F.f7 (hall' 7 (by decide))
    have h_ := (F.f9 (hall' 9 (by decide))).symm
    subst h_
    have hst := F.st4 (hall' 8 (by decide))
    rw [show d_ 5 = true from hall' 5 (by decide)] at hst
    exact HQ.out ms x34 r1 r2 x41 w1 hst
structure ror9F (p : Prs) (a : Option Addr) (cap : Nat) (bx : Nat) (av : Option Addr) (k : Nat) (cv : Nat) (vo : Value) (f : Int) (S0 : Bool → Nat → World → Prop) (S1 : Bool → Nat → Value → World → Prop) (S2 : Bool → Nat → Value → Option Addr × Nat → World → Prop) (S3 : Bool → Nat → Value → Option Addr × Nat → Option Addr × Nat → World → Prop) (S4 : Bool → Nat → Value → Option Addr × Nat → Option Addr × Nat → Value → World → Prop) (d : Nat → Bool) (x33 x34 x35 x36 x37 x38 x39 x40 x41 x2 : Value) (ms : Nat) (r1 : Option Addr × Nat) (r2 : Option Addr × Nat) (w : World) : Prop where
  q3 : d 3 = true → d 1 = true ∧ d 2 = true
  q5 : d 5 = true → d 4 = true
  q6 : d 6 = true → d 3 = true ∧ d 5 = true
  q8 : d 8 = true → d 0 = true ∧ d 6 = true ∧ d 7 = true
  q9 : d 9 = true → d 0 = true ∧ d 1 = true ∧ d 2 = true ∧ d 3 = true ∧ d 4 = true ∧ d 5 = true ∧ d 6 = true ∧ d 7 = true ∧ d 8 = true
  f0 : d 0 = true → x33 = p.v a cap
  f2 : d 2 = true → x35 = .slice av k cv
  f3 : d 3 = true → x36 = .slice r1.1 k r1.2
  f4 : d 4 = true → x37 = .int .i64 f
  f5 : d 5 = true → x38 = .slice (some ⟨ms, 0, none⟩) 1 1
  f6 : d 6 = true → x39 = .slice r2.1 (k + 1) r2.2
  f7 : d 7 = true → x40 = vo
  f9 : d 9 = true → x2 = x41
  g9 : d 9 = false → vo = x2
  st0 : d 1 = false → S0 (d 5) ms w
  st1 : d 1 = true → d 3 = false → S1 (d 5) ms x34 w
  st2 : d 3 = true → d 6 = false → S2 (d 5) ms x34 r1 w
  st3 : d 6 = true → d 8 = false → S3 (d 5) ms x34 r1 r2 w
  st4 : d 8 = true → S4 (d 5) ms x34 r1 r2 x41 w
  mz : d 5 = false → ms = 0
noncomputable def ror9C : Code := (Try.f64.body.bind (regionAt 9)).getD .skip
set_option maxRecDepth 100000 in
set_option maxHeartbeats 4000000 in
theorem ror9 {p : Prs} {a : Option Addr} {cap : Nat} {bx : Nat} {av : Option Addr} {k : Nat} {cv : Nat} {vo : Value} {f : Int} {S0 : Bool → Nat → World → Prop} {S1 : Bool → Nat → Value → World → Prop} {S2 : Bool → Nat → Value → Option Addr × Nat → World → Prop} {S3 : Bool → Nat → Value → Option Addr × Nat → Option Addr × Nat → World → Prop} {S4 : Bool → Nat → Value → Option Addr × Nat → Option Addr × Nat → Value → World → Prop} {Q : Exit → Act → World → Prop} {W1 : World} (h0 : S0 false 0 W1.drew)
    (kl0 : Hid (∀ (fs : Bool) (ms : Nat) (x34 : Value) (r1 : Option Addr × Nat) (r2 : Option Addr × Nat) (w : World), (S0 fs ms w ∨ S1 fs ms x34 w ∨ S2 fs ms x34 r1 w ∨ S3 fs ms x34 r1 r2 w) → w.cell? ⟨bx, 0, none⟩ = some (.slice a p.cards.length cap) ∧ w.cell? ⟨bx, 1, none⟩ = some (.int .i64 p.llo) ∧ w.cell? ⟨bx, 2, none⟩ = some (.int .i64 p.lhi) ∧ w.cell? ⟨bx, 3, none⟩ = some (.int .i64 p.olo) ∧ w.cell? ⟨bx, 4, none⟩ = some (.int .i64 p.ohi)))
    (kc1 : Hid (∀ (fs : Bool) (ms : Nat) (w : World), S0 fs ms w → S1 fs ms (.slice (some ⟨w.heap.size, 0, none⟩) 0 0) (w.alloc (.cells #[] 3))))
    (kc3 : Hid (∀ (fs : Bool) (ms : Nat) (x34 : Value) (w : World), S1 fs ms x34 w → ∃ (r1 : Option Addr × Nat) (w' : World), (Builtin.append_ #[42, 42] 42 #[x34, .slice av k cv]).run Try.prog w = .ok (.slice r1.1 k r1.2) w' ∧ S2 fs ms x34 r1 w'))
    (ks0 : Hid (∀ (w : World), S0 false 0 w → S0 true w.heap.size (w.alloc (.cells #[.int .i64 f] 3))))
    (ks1 : Hid (∀ (x34 : Value) (w : World), S1 false 0 x34 w → S1 true w.heap.size x34 (w.alloc (.cells #[.int .i64 f] 3))))
    (ks2 : Hid (∀ (x34 : Value) (r1 : Option Addr × Nat) (w : World), S2 false 0 x34 r1 w → S2 true w.heap.size x34 r1 (w.alloc (.cells #[.int .i64 f] 3))))
    (kc6 : Hid (∀ (ms : Nat) (x34 : Value) (r1 : Option Addr × Nat) (w : World), S2 true ms x34 r1 w → ∃ (r2 : Option Addr × Nat) (w' : World), (Builtin.append_ #[42, 42] 42 #[.slice r1.1 k r1.2, .slice (some ⟨ms, 0, none⟩) 1 1]).run Try.prog w = .ok (.slice r2.1 (k + 1) r2.2) w' ∧ S3 true ms x34 r1 r2 w'))
    (kc8 : Hid (∀ (ms : Nat) (x34 : Value) (r1 : Option Addr × Nat) (r2 : Option Addr × Nat) (w : World), S3 true ms x34 r1 r2 w → Calls Try.prog 64 #[p.v a cap, .slice r2.1 (k + 1) r2.2, vo] w fun e w' => ∃ x41 : Value, e = .returned (x41) ∧ S4 true ms x34 r1 r2 x41 w'))
    {s0 s4 s5 s6 s8 s9 s10 s11 s12 s13 s14 s15 s16 s17 s18 s19 s20 s21 s22 s23 s24 s25 s26 s27 s28 s29 s30 s31 s32 s33 s34 s35 s36 s37 s38 s39 s40 s41 s42 : Value} {dd : List Deferred}
    (hQ : ∀ (ms : Nat) (x34 : Value) (r1 : Option Addr × Nat) (r2 : Option Addr × Nat) (x41 : Value) (w' : World), S4 true ms x34 r1 r2 x41 w' → Q .normal { tmps := #[s0, .slice av k cv, x41, .pointer (some ⟨bx, 0, none⟩), s4, s5, s6, .int .i64 f, s8, s9, s10, s11, s12, s13, s14, s15, s16, s17, s18, s19, s20, s21, s22, s23, s24, s25, s26, s27, s28, s29, s30, s31, s32, p.v a cap, x34, .slice av k cv, .slice r1.1 k r1.2, .int .i64 f, .slice (some ⟨ms, 0, none⟩) 1 1, .slice r2.1 (k + 1) r2.2, vo, x41, s42], defers := dd } w') :
    Code.wpIn (wideAt none) 0 Try.prog ror9C Q { tmps := #[s0, .slice av k cv, vo, .pointer (some ⟨bx, 0, none⟩), s4, s5, s6, .int .i64 f, s8, s9, s10, s11, s12, s13, s14, s15, s16, s17, s18, s19, s20, s21, s22, s23, s24, s25, s26, s27, s28, s29, s30, s31, s32, s33, s34, s35, s36, s37, s38, s39, s40, s41, s42], defers := dd } W1 := by
  have HQ := Lib.hid hQ
  clear hQ
  conv => arg 4; whnf
  refine wpIn_region_invG mixed (by kernel_rfl) (fun d_ a_ w' => ∃ (x33 : Value) (x34 : Value) (x35 : Value) (x36 : Value) (x37 : Value) (x38 : Value) (x39 : Value) (x40 : Value) (x41 : Value) (x2 : Value) (ms : Nat) (r1 : Option Addr × Nat) (r2 : Option Addr × Nat), a_ = { tmps := #[s0, .slice av k cv, x2, .pointer (some ⟨bx, 0, none⟩), s4, s5, s6, .int .i64 f, s8, s9, s10, s11, s12, s13, s14, s15, s16, s17, s18, s19, s20, s21, s22, s23, s24, s25, s26, s27, s28, s29, s30, s31, s32, x33, x34, x35, x36, x37, x38, x39, x40, x41, s42], defers := dd } ∧ ror9F p a cap bx av k cv vo f S0 S1 S2 S3 S4 d_ x33 x34 x35 x36 x37 x38 x39 x40 x41 x2 ms r1 r2 w') ?_ ?_ ?_
  · refine ⟨s33, s34, s35, s36, s37, s38, s39, s40, s41, (vo), 0, default, default, rfl, ?_⟩
    constructor <;> first | rfl | (intro _; rfl) | (intro h; cases h; done) | (intro _; exact h0) | exact h0
  · refine ⟨?_, ?_, ?_, ?_, ?_, ?_, ?_, ?_, ?_, ?_, trivial⟩
    all_goals
      rintro d_ a_ w1 K hd_ hdep ⟨x33, x34, x35, x36, x37, x38, x39, x40, x41, x2, ms, r1, r2, rfl, F⟩ HK
      simp [Region.binds] at hdep
    · have hst : S0 (d_ 5) ms w1 ∨ S1 (d_ 5) ms x34 w1 ∨ S2 (d_ 5) ms x34 r1 w1 ∨ S3 (d_ 5) ms x34 r1 r2 w1 := by
        cases e1 : d_ 1 with
        | false => exact .inl ((F.st0 e1))
        | true =>
          cases e2 : d_ 3 with
          | false => exact .inr (.inl ((F.st1 e1 e2)))
          | true =>
            cases e3 : d_ 6 with
            | false => exact .inr (.inr (.inl ((F.st2 e2 e3))))
            | true =>
              have n_ : d_ 8 = false := by
                cases e_ : d_ 8 with
                | false => rfl
                | true => have h2 := (F.q8 e_).1; rw [show d_ 0 = false from hd_] at h2; cases h2
              exact .inr (.inr (.inr ((F.st3 e3 n_))))
      have kk := kl0.out (d_ 5) ms x34 r1 r2 w1 hst
      obtain ⟨kk0, kk1, kk2, kk3, kk4⟩ := kk
      clear hst
      have HF : Hid (ror9F p a cap bx av k cv vo f S0 S1 S2 S3 S4 (upd d_ 0) (p.v a cap) x34 x35 x36 x37 x38 x39 x40 x41 x2 ms r1 r2 w1) := ⟨F.q3, F.q5, F.q6, fun h => ⟨rfl, (F.q8 h).2.1, (F.q8 h).2.2⟩, fun h => ⟨rfl, (F.q9 h).2.1, (F.q9 h).2.2.1, (F.q9 h).2.2.2.1, (F.q9 h).2.2.2.2.1, (F.q9 h).2.2.2.2.2.1, (F.q9 h).2.2.2.2.2.2.1, (F.q9 h).2.2.2.2.2.2.2.1, (F.q9 h).2.2.2.2.2.2.2.2⟩, fun _ => rfl, F.f2, F.f3, F.f4, F.f5, F.f6, F.f7, F.f9, F.g9, F.st0, F.st1, F.st2, F.st3, F.st4, F.mz⟩
      clear F
      go_simp
      exact HK.out _ _ ⟨_, _, _, _, _, _, _, _, _, _, _, _, _, rfl, HF.out⟩
    · have hS := F.st0  hd_
      have hres := kc1.out (d_ 5) ms w1 hS
      have HF : Hid (ror9F p a cap bx av k cv vo f S0 S1 S2 S3 S4 (upd d_ 1) x33 ((.slice (some ⟨w1.heap.size, 0, none⟩) 0 0)) x35 x36 x37 x38 x39 x40 x41 x2 ms r1 r2 (w1.alloc (.cells #[] 3))) := ⟨fun h => ⟨rfl, (F.q3 h).2⟩, F.q5, F.q6, F.q8, fun h => ⟨(F.q9 h).1, rfl, (F.q9 h).2.2.1, (F.q9 h).2.2.2.1, (F.q9 h).2.2.2.2.1, (F.q9 h).2.2.2.2.2.1, (F.q9 h).2.2.2.2.2.2.1, (F.q9 h).2.2.2.2.2.2.2.1, (F.q9 h).2.2.2.2.2.2.2.2⟩, F.f0, F.f2, F.f3, F.f4, F.f5, F.f6, F.f7, F.f9, F.g9, fun h => (by simp [upd] at h), fun _ _ => hres, fun h _ => (by have h2 : d_ 1 = true := (F.q3 h).1; rw [show d_ 1 = false from hd_] at h2; cases h2), fun h _ => (by have h2 : d_ 1 = true := (F.q3 (F.q6 h).1).1; rw [show d_ 1 = false from hd_] at h2; cases h2), fun h => (by have h2 : d_ 1 = true := (F.q3 (F.q6 (F.q8 h).2.1).1).1; rw [show d_ 1 = false from hd_] at h2; cases h2), F.mz⟩
      clear F hS hres
      go_simp
      exact HK.out _ _ ⟨_, _, _, _, _, _, _, _, _, _, _, _, _, rfl, HF.out⟩
    · have HF : Hid (ror9F p a cap bx av k cv vo f S0 S1 S2 S3 S4 (upd d_ 2) x33 x34 (.slice av k cv) x36 x37 x38 x39 x40 x41 x2 ms r1 r2 w1) := ⟨fun h => ⟨(F.q3 h).1, rfl⟩, F.q5, F.q6, F.q8, fun h => ⟨(F.q9 h).1, (F.q9 h).2.1, rfl, (F.q9 h).2.2.2.1, (F.q9 h).2.2.2.2.1, (F.q9 h).2.2.2.2.2.1, (F.q9 h).2.2.2.2.2.2.1, (F.q9 h).2.2.2.2.2.2.2.1, (F.q9 h).2.2.2.2.2.2.2.2⟩, F.f0, fun _ => rfl, F.f3, F.f4, F.f5, F.f6, F.f7, F.f9, F.g9, F.st0, F.st1, F.st2, F.st3, F.st4, F.mz⟩
      clear F
      go_simp
      exact HK.out _ _ ⟨_, _, _, _, _, _, _, _, _, _, _, _, _, rfl, HF.out⟩
    · have hS := F.st1 (by simp [hdep] : d_ 1 = true) hd_
      obtain rfl := F.f2 (by simp [hdep])
      obtain ⟨v_, w_, hr, hres⟩ := kc3.out (d_ 5) ms x34 w1 hS
      rw [if_pos (by rfl)]
      refine wpIn_append_run (.tmp 34) (.tmp 35) 42 rfl _ _ _ _ rfl rfl hr ?_
      exact HK.out _ _ ⟨_, _, _, _, _, _, _, _, _, _, ms, v_, r2, rfl, ⟨fun _ => ⟨(show _ from (by simp [hdep] : d_ 1 = true)), (show _ from (by simp [hdep] : d_ 2 = true))⟩, F.q5, fun h => ⟨rfl, (F.q6 h).2⟩, F.q8, fun h => ⟨(F.q9 h).1, (F.q9 h).2.1, (F.q9 h).2.2.1, rfl, (F.q9 h).2.2.2.2.1, (F.q9 h).2.2.2.2.2.1, (F.q9 h).2.2.2.2.2.2.1, (F.q9 h).2.2.2.2.2.2.2.1, (F.q9 h).2.2.2.2.2.2.2.2⟩, F.f0, F.f2, fun _ => rfl, F.f4, F.f5, F.f6, F.f7, F.f9, F.g9, fun h => (by have h2 : d_ 1 = false := h; rw [(by simp [hdep] : d_ 1 = true)] at h2; cases h2), fun _ h => (by simp [upd] at h), fun _ _ => hres, fun h _ => (by have h2 : d_ 3 = true := (F.q6 h).1; rw [show d_ 3 = false from hd_] at h2; cases h2), fun h => (by have h2 : d_ 3 = true := (F.q6 (F.q8 h).2.1).1; rw [show d_ 3 = false from hd_] at h2; cases h2), F.mz⟩⟩
    · have HF : Hid (ror9F p a cap bx av k cv vo f S0 S1 S2 S3 S4 (upd d_ 4) x33 x34 x35 x36 (.int .i64 f) x38 x39 x40 x41 x2 ms r1 r2 w1) := ⟨F.q3, fun h => rfl, F.q6, F.q8, fun h => ⟨(F.q9 h).1, (F.q9 h).2.1, (F.q9 h).2.2.1, (F.q9 h).2.2.2.1, rfl, (F.q9 h).2.2.2.2.2.1, (F.q9 h).2.2.2.2.2.2.1, (F.q9 h).2.2.2.2.2.2.2.1, (F.q9 h).2.2.2.2.2.2.2.2⟩, F.f0, F.f2, F.f3, fun _ => rfl, F.f5, F.f6, F.f7, F.f9, F.g9, F.st0, F.st1, F.st2, F.st3, F.st4, F.mz⟩
      clear F
      go_simp
      exact HK.out _ _ ⟨_, _, _, _, _, _, _, _, _, _, _, _, _, rfl, HF.out⟩
    · obtain rfl := F.f4 (by simp [hdep])
      have HF : Hid (ror9F p a cap bx av k cv vo f S0 S1 S2 S3 S4 (upd d_ 5) x33 x34 x35 x36 (.int .i64 f) (.slice (some ⟨w1.heap.size, 0, none⟩) 1 1) x39 x40 x41 x2 w1.heap.size r1 r2 (w1.alloc (.cells #[.int .i64 f] 3))) := ⟨F.q3, fun _ => (show _ from (by simp [hdep] : d_ 4 = true)), fun h => ⟨(F.q6 h).1, rfl⟩, F.q8, fun h => ⟨(F.q9 h).1, (F.q9 h).2.1, (F.q9 h).2.2.1, (F.q9 h).2.2.2.1, (F.q9 h).2.2.2.2.1, rfl, (F.q9 h).2.2.2.2.2.2.1, (F.q9 h).2.2.2.2.2.2.2.1, (F.q9 h).2.2.2.2.2.2.2.2⟩, F.f0, F.f2, F.f3, F.f4, fun _ => rfl, F.f6, F.f7, F.f9, F.g9, fun b => ks0.out w1 (by have h := F.st0 b; rw [show d_ 5 = false from hd_, F.mz hd_] at h; exact h), fun a b => ks1.out x34 w1 (by have h := F.st1 a b; rw [show d_ 5 = false from hd_, F.mz hd_] at h; exact h), fun a b => ks2.out x34 r1 w1 (by have h := F.st2 a b; rw [show d_ 5 = false from hd_, F.mz hd_] at h; exact h), fun a b => (by have h2 : d_ 5 = true := (F.q6 a).2; rw [show d_ 5 = false from hd_] at h2; cases h2), fun a => (by have h2 : d_ 5 = true := (F.q6 (F.q8 a).2.1).2; rw [show d_ 5 = false from hd_] at h2; cases h2), fun h => (by simp [upd] at h)⟩
      clear F
      go_simp
      exact HK.out _ _ ⟨_, _, _, _, _, _, _, _, _, _, _, _, _, rfl, HF.out⟩
    · have hS := F.st2 (by simp [hdep] : d_ 3 = true) hd_
      rw [show d_ 5 = true from (by simp [hdep] : d_ 5 = true)] at hS
      obtain rfl := F.f3 (by simp [hdep])
      obtain rfl := F.f5 (by simp [hdep])
      obtain ⟨v_, w_, hr, hres⟩ := kc6.out ms x34 r1 w1 hS
      rw [if_pos (by rfl)]
      refine wpIn_append_run (.tmp 36) (.tmp 38) 42 rfl _ _ _ _ rfl rfl hr ?_
      exact HK.out _ _ ⟨_, _, _, _, _, _, _, _, _, _, ms, r1, v_, rfl, ⟨F.q3, F.q5, fun _ => ⟨(show _ from (by simp [hdep] : d_ 3 = true)), (show _ from (by simp [hdep] : d_ 5 = true))⟩, fun h => ⟨(F.q8 h).1, rfl, (F.q8 h).2.2⟩, fun h => ⟨(F.q9 h).1, (F.q9 h).2.1, (F.q9 h).2.2.1, (F.q9 h).2.2.2.1, (F.q9 h).2.2.2.2.1, (F.q9 h).2.2.2.2.2.1, rfl, (F.q9 h).2.2.2.2.2.2.2.1, (F.q9 h).2.2.2.2.2.2.2.2⟩, F.f0, F.f2, F.f3, F.f4, F.f5, fun _ => rfl, F.f7, F.f9, F.g9, fun h => (by have h2 : d_ 1 = false := h; rw [(F.q3 (by simp [hdep] : d_ 3 = true)).1] at h2; cases h2), fun _ h => (by have h2 : d_ 3 = false := h; rw [(by simp [hdep] : d_ 3 = true)] at h2; cases h2), fun _ h => (by simp [upd] at h), fun _ _ => (by rw [show upd d_ 6 5 = true from (by simp [hdep] : d_ 5 = true)]; exact hres), fun h => (by have h2 : d_ 6 = true := (F.q8 h).2.1; rw [show d_ 6 = false from hd_] at h2; cases h2), F.mz⟩⟩
    · have n9_ : d_ 9 = false := by
        cases e_ : d_ 9 with
        | false => rfl
        | true => have h2 := (F.q9 e_).2.2.2.2.2.2.2.1; rw [show d_ 7 = false from hd_] at h2; cases h2
      have g9_ := F.g9 n9_
      subst g9_
      have HF : Hid (ror9F p a cap bx av k cv vo f S0 S1 S2 S3 S4 (upd d_ 7) x33 x34 x35 x36 x37 x38 x39 (vo) x41 (vo) ms r1 r2 w1) := ⟨F.q3, F.q5, F.q6, fun h => ⟨(F.q8 h).1, (F.q8 h).2.1, rfl⟩, fun h => ⟨(F.q9 h).1, (F.q9 h).2.1, (F.q9 h).2.2.1, (F.q9 h).2.2.2.1, (F.q9 h).2.2.2.2.1, (F.q9 h).2.2.2.2.2.1, (F.q9 h).2.2.2.2.2.2.1, rfl, (F.q9 h).2.2.2.2.2.2.2.2⟩, F.f0, F.f2, F.f3, F.f4, F.f5, F.f6, fun _ => rfl, F.f9, F.g9, F.st0, F.st1, F.st2, F.st3, F.st4, F.mz⟩
      clear F
      go_simp
      exact HK.out _ _ ⟨_, _, _, _, _, _, _, _, _, _, _, _, _, rfl, HF.out⟩
    · have hS := F.st3 (by simp [hdep] : d_ 6 = true) hd_
      rw [show d_ 5 = true from (F.q6 (by simp [hdep] : d_ 6 = true)).2] at hS
      obtain rfl := F.f0 (by simp [hdep])
      obtain rfl := F.f6 (by simp [hdep])
      obtain rfl := F.f7 (by simp [hdep])
      have hc := kc8.out ms x34 r1 r2 w1 hS
      have HF := Lib.hid F
      clear F
      go_simp
      refine ⟨trivial, rfl, wideAt_calls (hc.mono ?_)⟩
      rintro e w5 ⟨v_, rfl, hres⟩
      exact HK.out _ _ ⟨_, _, _, _, _, _, _, _, _, _, ms, r1, r2, rfl, ⟨HF.out.q3, HF.out.q5, HF.out.q6, fun _ => ⟨(show _ from (by simp [hdep] : d_ 0 = true)), (show _ from (by simp [hdep] : d_ 6 = true)), (show _ from (by simp [hdep] : d_ 7 = true))⟩, fun h => ⟨(HF.out.q9 h).1, (HF.out.q9 h).2.1, (HF.out.q9 h).2.2.1, (HF.out.q9 h).2.2.2.1, (HF.out.q9 h).2.2.2.2.1, (HF.out.q9 h).2.2.2.2.2.1, (HF.out.q9 h).2.2.2.2.2.2.1, (HF.out.q9 h).2.2.2.2.2.2.2.1, rfl⟩, HF.out.f0, HF.out.f2, HF.out.f3, HF.out.f4, HF.out.f5, HF.out.f6, HF.out.f7, fun h => (by have h2 : d_ 8 = true := (HF.out.q9 h).2.2.2.2.2.2.2.2; rw [show d_ 8 = false from hd_] at h2; cases h2), HF.out.g9, fun h => (by have h2 : d_ 1 = false := h; rw [(HF.out.q3 (HF.out.q6 (by simp [hdep] : d_ 6 = true)).1).1] at h2; cases h2), fun _ h => (by have h2 : d_ 3 = false := h; rw [(HF.out.q6 (by simp [hdep] : d_ 6 = true)).1] at h2; cases h2), fun _ h => (by have h2 : d_ 6 = false := h; rw [(by simp [hdep] : d_ 6 = true)] at h2; cases h2), fun _ h => (by simp [upd] at h), fun _ => (by rw [show upd d_ 8 5 = true from (HF.out.q6 (by simp [hdep] : d_ 6 = true)).2]; exact hres), HF.out.mz⟩⟩
    · have HF : Hid (ror9F p a cap bx av k cv vo f S0 S1 S2 S3 S4 (upd d_ 9) x33 x34 x35 x36 x37 x38 x39 x40 x41 (x41) ms r1 r2 w1) := ⟨F.q3, F.q5, F.q6, F.q8, fun _ => ⟨(show _ from (by simp [hdep] : d_ 0 = true)), (show _ from (by simp [hdep] : d_ 1 = true)), (show _ from (by simp [hdep] : d_ 2 = true)), (show _ from (by simp [hdep] : d_ 3 = true)), (show _ from (by simp [hdep] : d_ 4 = true)), (show _ from (by simp [hdep] : d_ 5 = true)), (show _ from (by simp [hdep] : d_ 6 = true)), (show _ from (by simp [hdep] : d_ 7 = true)), (show _ from (by simp [hdep] : d_ 8 = true))⟩, F.f0, F.f2, F.f3, F.f4, F.f5, F.f6, F.f7, fun _ => rfl, fun h => (by simp [upd] at h), F.st0, F.st1, F.st2, F.st3, F.st4, F.mz⟩
      clear F
      go_simp
      exact HK.out _ _ ⟨_, _, _, _, _, _, _, _, _, _, _, _, _, rfl, HF.out⟩
  · rintro d_ a_ w1 hall ⟨x33, x34, x35, x36, x37, x38, x39, x40, x41, x2, ms, r1, r2, rfl, F⟩
    have hall' : ∀ k, k < 10 → d_ k = true := hall
    obtain rfl := F.f0 (hall' 0 (by decide))
    obtain rfl := F.f2 (hall' 2 (by decide))
    obtain rfl := F.f3 (hall' 3 (by decide))
    obtain rfl := F.f4 (hall' 4 (by decide))
    obtain rfl := F.f5 (hall' 5 (by decide))
    obtain rfl := F.f6 (hall' 6 (by decide))
    obtain rfl := F.f7 (hall' 7 (by decide))
    have h_ := (F.f9 (hall' 9 (by decide))).symm
    subst h_
    have hst := F.st4 (hall' 8 (by decide))
    rw [show d_ 5 = true from hall' 5 (by decide)] at hst
    exact HQ.out ms x34 r1 r2 x41 w1 hst
end Go.Proofs.Ytnfhlbmapfoifaa
