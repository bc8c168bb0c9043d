/- The reference's largest: its drawn regions. -/
import Derived.Test.YtnfhlbmapfoifaaR1
import Derived.Test.YtnfhlbmapfoifaaW9
namespace Go.Proofs.Ytnfhlbmapfoifaa
open Go.RowKit
set_option linter.unusedVariables false

structure lar1F (p : Prs) (b : Nat) (off : Nat) (cap : Nat) (bx : Nat) (c : Nat) (S0 : Bool → Nat → World → Prop) (S1 : Bool → Nat → Nat → World → Prop) (S2 : Bool → Nat → Nat → World → Prop) (S3 : Bool → Nat → Nat → World → Prop) (d : Nat → Bool) (x13 x14 x15 x16 x17 x18 x19 x20 x9 x10 : Value) (ms : Nat) (ob : Nat) (w : World) : Prop where
  q1 : d 1 = true → d 0 = true
  q3 : d 3 = true → d 1 = true ∧ d 2 = true
  q4 : d 4 = true → d 3 = true
  q5 : d 5 = true → d 4 = true
  q7 : d 7 = true → d 6 = true
  q10 : d 10 = true → d 0 = true ∧ d 1 = true ∧ d 2 = true ∧ d 3 = true ∧ d 4 = true ∧ d 5 = true ∧ d 8 = true ∧ d 9 = true
  q11 : d 11 = true → d 0 = true ∧ d 1 = true ∧ d 2 = true ∧ d 3 = true ∧ d 4 = true ∧ d 5 = true ∧ d 6 = true ∧ d 7 = true ∧ d 8 = true ∧ d 9 = true ∧ d 10 = true
  f0 : d 0 = true → x13 = .pointer (some ⟨bx, 0, none⟩)
  f1 : d 1 = true → x14 = .slice (some ⟨b, off, none⟩) p.cards.length cap
  f2 : d 2 = true → x15 = .int .i64 c
  f3 : d 3 = true → x16 = .pointer (some ⟨b, off + c * 5, none⟩)
  f4 : d 4 = true → x17 = .pointer (some ⟨b, off + c * 5, none⟩)
  f5 : d 5 = true → x18 = .agg #[.int .i64 (gp p.cards c).slo, .int .i64 (gp p.cards c).shi]
  f6 : d 6 = true → x19 = .pointer (some ⟨bx, 1, none⟩)
  f7 : d 7 = true → x20 = .agg #[.int .i64 p.llo, .int .i64 p.lhi]
  f8 : d 8 = true → x9 = .pointer (some ⟨ob, 0, none⟩)
  f9 : d 9 = true → x10 = .pointer (some ⟨ms, 0, none⟩)
  st0 : d 8 = false → S0 (d 9) ms w
  st1 : d 8 = true → d 10 = false → S1 (d 9) ms ob w
  st2 : d 10 = true → d 11 = false → S2 (d 9) ms ob w
  st3 : d 11 = true → S3 (d 9) ms ob w
  mz : d 9 = false → ms = 0
noncomputable def lar1C : Code := (Try.f89.body.bind (regionAt 1)).getD .skip
set_option maxRecDepth 100000 in
set_option maxHeartbeats 4000000 in
theorem lar1 {p : Prs} {b : Nat} {off : Nat} {cap : Nat} {bx : Nat} {c : Nat} {S0 : Bool → Nat → World → Prop} {S1 : Bool → Nat → Nat → World → Prop} {S2 : Bool → Nat → Nat → World → Prop} {S3 : Bool → Nat → Nat → World → Prop} {Q : Exit → Act → World → Prop} {W1 : World} (hc5 : c < p.cards.length) (hn5 : p.cards.length ≤ 5) (h0 : S0 false 0 W1.drew)
    (kl1 : Hid (∀ (fs : Bool) (ms : Nat) (ob : Nat) (w : World), (S0 fs ms w ∨ S1 fs ms ob w) → w.cell? ⟨bx, 0, none⟩ = some (.slice (some ⟨b, off, none⟩) p.cards.length cap)))
    (kl5 : Hid (∀ (fs : Bool) (ms : Nat) (ob : Nat) (w : World), (S0 fs ms w ∨ S1 fs ms ob w) → w.cell? ⟨b, off + c * 5, none⟩ = some (.int .i64 (gp p.cards c).slo) ∧ w.cell? ⟨b, off + c * 5 + 1, none⟩ = some (.int .i64 (gp p.cards c).shi)))
    (kl7 : Hid (∀ (fs : Bool) (ms : Nat) (ob : Nat) (w : World), (S0 fs ms w ∨ S1 fs ms ob w ∨ S2 fs ms ob w) → w.cell? ⟨bx, 1, none⟩ = some (.int .i64 p.llo) ∧ w.cell? ⟨bx, 2, none⟩ = some (.int .i64 p.lhi)))
    (kc8 : Hid (∀ (fs : Bool) (ms : Nat) (w : World), S0 fs ms w → S1 fs ms w.heap.size (w.alloc (.cells #[.int .i64 0, .int .i64 0] 24))))
    (ks0 : Hid (∀ (w : World), S0 false 0 w → S0 true w.heap.size (w.alloc (.cells #[.int .i64 0, .int .i64 0] 24))))
    (ks1 : Hid (∀ (ob : Nat) (w : World), S1 false 0 ob w → S1 true w.heap.size ob (w.alloc (.cells #[.int .i64 0, .int .i64 0] 24))))
    (kc10 : Hid (∀ (ms : Nat) (ob : Nat) (w : World), S1 true ms ob w → (∃ u, w.cell? ⟨ob, 0, none⟩ = some u) ∧ w.frozen? ⟨ob, 0, none⟩ = false ∧ (∃ u, w.cell? ⟨ob, 1, none⟩ = some u) ∧ w.frozen? ⟨ob, 1, none⟩ = false ∧ S2 true ms ob ((w.setCell ⟨ob, 0, none⟩ (.int .i64 (gp p.cards c).slo)).setCell ⟨ob, 1, none⟩ (.int .i64 (gp p.cards c).shi))))
    (kc11 : Hid (∀ (ms : Nat) (ob : Nat) (w : World), S2 true ms ob w → (∃ u, w.cell? ⟨ms, 0, none⟩ = some u) ∧ w.frozen? ⟨ms, 0, none⟩ = false ∧ (∃ u, w.cell? ⟨ms, 1, none⟩ = some u) ∧ w.frozen? ⟨ms, 1, none⟩ = false ∧ S3 true ms ob ((w.setCell ⟨ms, 0, none⟩ (.int .i64 p.llo)).setCell ⟨ms, 1, none⟩ (.int .i64 p.lhi))))
    {s0 s1 s3 s5 s6 s7 s8 s9 s10 s11 s12 s13 s14 s15 s16 s17 s18 s19 s20 s21 s22 s23 s24 s25 s26 s27 s28 s29 s30 s31 s32 s33 s34 s35 s36 s37 s38 s39 s40 s41 s42 s43 s44 s45 s46 s47 s48 s49 s50 s51 s52 s53 s54 s55 s56 s57 s58 s59 s60 s61 s62 s63 s64 s65 s66 s67 s68 s69 s70 s71 : Value} {dd : List Deferred}
    (hQ : ∀ (ms : Nat) (ob : Nat) (w' : World), S3 true ms ob w' → Q .normal { tmps := #[s0, s1, .int .i64 c, s3, .pointer (some ⟨bx, 0, none⟩), s5, s6, s7, s8, .pointer (some ⟨ob, 0, none⟩), .pointer (some ⟨ms, 0, none⟩), s11, s12, .pointer (some ⟨bx, 0, none⟩), .slice (some ⟨b, off, none⟩) p.cards.length cap, .int .i64 c, .pointer (some ⟨b, off + c * 5, none⟩), .pointer (some ⟨b, off + c * 5, none⟩), .agg #[.int .i64 (gp p.cards c).slo, .int .i64 (gp p.cards c).shi], .pointer (some ⟨bx, 1, none⟩), .agg #[.int .i64 p.llo, .int .i64 p.lhi], s21, s22, s23, s24, s25, s26, s27, s28, s29, s30, s31, s32, s33, s34, s35, s36, s37, s38, s39, s40, s41, s42, s43, s44, s45, s46, s47, s48, s49, s50, s51, s52, s53, s54, s55, s56, s57, s58, s59, s60, s61, s62, s63, s64, s65, s66, s67, s68, s69, s70, s71], defers := dd } w') :
    Code.wpIn (wideAt none) 0 Try.prog lar1C Q { tmps := #[s0, s1, .int .i64 c, s3, .pointer (some ⟨bx, 0, none⟩), s5, s6, s7, s8, s9, s10, s11, s12, s13, s14, s15, s16, s17, s18, s19, s20, s21, s22, s23, s24, s25, s26, s27, s28, s29, s30, s31, s32, s33, s34, s35, s36, s37, s38, s39, s40, s41, s42, s43, s44, s45, s46, s47, s48, s49, s50, s51, s52, s53, s54, s55, s56, s57, s58, s59, s60, s61, s62, s63, s64, s65, s66, s67, s68, s69, s70, s71], defers := dd } W1 := by
  have HQ := Lib.hid hQ
  clear hQ
  conv => arg 4; whnf
  refine wpIn_region_invG mixed (by kernel_rfl) (fun d_ a_ w' => ∃ (x13 : Value) (x14 : Value) (x15 : Value) (x16 : Value) (x17 : Value) (x18 : Value) (x19 : Value) (x20 : Value) (x9 : Value) (x10 : Value) (ms : Nat) (ob : Nat), a_ = { tmps := #[s0, s1, .int .i64 c, s3, .pointer (some ⟨bx, 0, none⟩), s5, s6, s7, s8, x9, x10, s11, s12, x13, x14, x15, x16, x17, x18, x19, x20, s21, s22, s23, s24, s25, s26, s27, s28, s29, s30, s31, s32, s33, s34, s35, s36, s37, s38, s39, s40, s41, s42, s43, s44, s45, s46, s47, s48, s49, s50, s51, s52, s53, s54, s55, s56, s57, s58, s59, s60, s61, s62, s63, s64, s65, s66, s67, s68, s69, s70, s71], defers := dd } ∧ lar1F p b off cap bx c S0 S1 S2 S3 d_ x13 x14 x15 x16 x17 x18 x19 x20 x9 x10 ms ob w') ?_ ?_ ?_
  · refine ⟨s13, s14, s15, s16, s17, s18, s19, s20, s9, s10, 0, 0, rfl, ?_⟩
    constructor <;> first | rfl | (intro _; rfl) | (intro h; cases h; done) | (intro _; exact h0) | exact h0
  · refine ⟨?_, ?_, ?_, ?_, ?_, ?_, ?_, ?_, ?_, ?_, ?_, ?_, trivial⟩
    all_goals
      rintro d_ a_ w1 K hd_ hdep ⟨x13, x14, x15, x16, x17, x18, x19, x20, x9, x10, ms, ob, rfl, F⟩ HK
      simp [Region.binds] at hdep
    · have HF : Hid (lar1F p b off cap bx c S0 S1 S2 S3 (upd d_ 0) (.pointer (some ⟨bx, 0, none⟩)) x14 x15 x16 x17 x18 x19 x20 x9 x10 ms ob w1) := ⟨fun h => rfl, F.q3, F.q4, F.q5, F.q7, fun h => ⟨rfl, (F.q10 h).2.1, (F.q10 h).2.2.1, (F.q10 h).2.2.2.1, (F.q10 h).2.2.2.2.1, (F.q10 h).2.2.2.2.2.1, (F.q10 h).2.2.2.2.2.2.1, (F.q10 h).2.2.2.2.2.2.2⟩, fun h => ⟨rfl, (F.q11 h).2.1, (F.q11 h).2.2.1, (F.q11 h).2.2.2.1, (F.q11 h).2.2.2.2.1, (F.q11 h).2.2.2.2.2.1, (F.q11 h).2.2.2.2.2.2.1, (F.q11 h).2.2.2.2.2.2.2.1, (F.q11 h).2.2.2.2.2.2.2.2.1, (F.q11 h).2.2.2.2.2.2.2.2.2.1, (F.q11 h).2.2.2.2.2.2.2.2.2.2⟩, fun _ => rfl, F.f1, F.f2, F.f3, F.f4, F.f5, F.f6, F.f7, F.f8, F.f9, F.st0, F.st1, F.st2, F.st3, F.mz⟩
      clear F
      go_simp
      exact HK.out _ _ ⟨_, _, _, _, _, _, _, _, _, _, _, _, rfl, HF.out⟩
    · have hst : S0 (d_ 9) ms w1 ∨ S1 (d_ 9) ms ob w1 := by
        cases e1 : d_ 8 with
        | false => exact .inl ((F.st0 e1))
        | true =>
          have n_ : d_ 10 = false := by
            cases e_ : d_ 10 with
            | false => rfl
            | true => have h2 := (F.q10 e_).2.1; rw [show d_ 1 = false from hd_] at h2; cases h2
          exact .inr ((F.st1 e1 n_))
      have kk := kl1.out (d_ 9) ms ob w1 hst
      clear hst
      obtain rfl := F.f0 (by simp [hdep])
      have HF : Hid (lar1F p b off cap bx c S0 S1 S2 S3 (upd d_ 1) (.pointer (some ⟨bx, 0, none⟩)) (.slice (some ⟨b, off, none⟩) p.cards.length cap) x15 x16 x17 x18 x19 x20 x9 x10 ms ob w1) := ⟨fun _ => (show _ from (by simp [hdep] : d_ 0 = true)), fun h => ⟨rfl, (F.q3 h).2⟩, F.q4, F.q5, F.q7, fun h => ⟨(F.q10 h).1, rfl, (F.q10 h).2.2.1, (F.q10 h).2.2.2.1, (F.q10 h).2.2.2.2.1, (F.q10 h).2.2.2.2.2.1, (F.q10 h).2.2.2.2.2.2.1, (F.q10 h).2.2.2.2.2.2.2⟩, fun h => ⟨(F.q11 h).1, rfl, (F.q11 h).2.2.1, (F.q11 h).2.2.2.1, (F.q11 h).2.2.2.2.1, (F.q11 h).2.2.2.2.2.1, (F.q11 h).2.2.2.2.2.2.1, (F.q11 h).2.2.2.2.2.2.2.1, (F.q11 h).2.2.2.2.2.2.2.2.1, (F.q11 h).2.2.2.2.2.2.2.2.2.1, (F.q11 h).2.2.2.2.2.2.2.2.2.2⟩, F.f0, fun _ => rfl, F.f2, F.f3, F.f4, F.f5, F.f6, F.f7, F.f8, F.f9, F.st0, F.st1, F.st2, F.st3, F.mz⟩
      clear F
      go_simp
      exact HK.out _ _ ⟨_, _, _, _, _, _, _, _, _, _, _, _, rfl, HF.out⟩
    · have HF : Hid (lar1F p b off cap bx c S0 S1 S2 S3 (upd d_ 2) x13 x14 (.int .i64 c) x16 x17 x18 x19 x20 x9 x10 ms ob w1) := ⟨F.q1, fun h => ⟨(F.q3 h).1, rfl⟩, F.q4, F.q5, F.q7, fun h => ⟨(F.q10 h).1, (F.q10 h).2.1, rfl, (F.q10 h).2.2.2.1, (F.q10 h).2.2.2.2.1, (F.q10 h).2.2.2.2.2.1, (F.q10 h).2.2.2.2.2.2.1, (F.q10 h).2.2.2.2.2.2.2⟩, fun h => ⟨(F.q11 h).1, (F.q11 h).2.1, rfl, (F.q11 h).2.2.2.1, (F.q11 h).2.2.2.2.1, (F.q11 h).2.2.2.2.2.1, (F.q11 h).2.2.2.2.2.2.1, (F.q11 h).2.2.2.2.2.2.2.1, (F.q11 h).2.2.2.2.2.2.2.2.1, (F.q11 h).2.2.2.2.2.2.2.2.2.1, (F.q11 h).2.2.2.2.2.2.2.2.2.2⟩, F.f0, F.f1, fun _ => rfl, F.f3, F.f4, F.f5, F.f6, F.f7, F.f8, F.f9, F.st0, F.st1, F.st2, F.st3, F.mz⟩
      clear F
      go_simp
      exact HK.out _ _ ⟨_, _, _, _, _, _, _, _, _, _, _, _, rfl, HF.out⟩
    · obtain rfl := F.f1 (by simp [hdep])
      obtain rfl := F.f2 (by simp [hdep])
      have HF : Hid (lar1F p b off cap bx c S0 S1 S2 S3 (upd d_ 3) x13 (.slice (some ⟨b, off, none⟩) p.cards.length cap) (.int .i64 c) (.pointer (some ⟨b, off + c * 5, none⟩)) x17 x18 x19 x20 x9 x10 ms ob w1) := ⟨F.q1, fun _ => ⟨(show _ from (by simp [hdep] : d_ 1 = true)), (show _ from (by simp [hdep] : d_ 2 = true))⟩, fun h => rfl, F.q5, F.q7, fun h => ⟨(F.q10 h).1, (F.q10 h).2.1, (F.q10 h).2.2.1, rfl, (F.q10 h).2.2.2.2.1, (F.q10 h).2.2.2.2.2.1, (F.q10 h).2.2.2.2.2.2.1, (F.q10 h).2.2.2.2.2.2.2⟩, fun h => ⟨(F.q11 h).1, (F.q11 h).2.1, (F.q11 h).2.2.1, rfl, (F.q11 h).2.2.2.2.1, (F.q11 h).2.2.2.2.2.1, (F.q11 h).2.2.2.2.2.2.1, (F.q11 h).2.2.2.2.2.2.2.1, (F.q11 h).2.2.2.2.2.2.2.2.1, (F.q11 h).2.2.2.2.2.2.2.2.2.1, (F.q11 h).2.2.2.2.2.2.2.2.2.2⟩, F.f0, F.f1, F.f2, fun _ => rfl, F.f4, F.f5, F.f6, F.f7, F.f8, F.f9, F.st0, F.st1, F.st2, F.st3, F.mz⟩
      clear F
      go_simp
      exact HK.out _ _ ⟨_, _, _, _, _, _, _, _, _, _, _, _, rfl, HF.out⟩
    · obtain rfl := F.f3 (by simp [hdep])
      have HF : Hid (lar1F p b off cap bx c S0 S1 S2 S3 (upd d_ 4) x13 x14 x15 (.pointer (some ⟨b, off + c * 5, none⟩)) (.pointer (some ⟨b, off + c * 5, none⟩)) x18 x19 x20 x9 x10 ms ob w1) := ⟨F.q1, F.q3, fun _ => (show _ from (by simp [hdep] : d_ 3 = true)), fun h => rfl, F.q7, fun h => ⟨(F.q10 h).1, (F.q10 h).2.1, (F.q10 h).2.2.1, (F.q10 h).2.2.2.1, rfl, (F.q10 h).2.2.2.2.2.1, (F.q10 h).2.2.2.2.2.2.1, (F.q10 h).2.2.2.2.2.2.2⟩, fun h => ⟨(F.q11 h).1, (F.q11 h).2.1, (F.q11 h).2.2.1, (F.q11 h).2.2.2.1, rfl, (F.q11 h).2.2.2.2.2.1, (F.q11 h).2.2.2.2.2.2.1, (F.q11 h).2.2.2.2.2.2.2.1, (F.q11 h).2.2.2.2.2.2.2.2.1, (F.q11 h).2.2.2.2.2.2.2.2.2.1, (F.q11 h).2.2.2.2.2.2.2.2.2.2⟩, F.f0, F.f1, F.f2, F.f3, fun _ => rfl, F.f5, F.f6, F.f7, F.f8, F.f9, F.st0, F.st1, F.st2, F.st3, F.mz⟩
      clear F
      go_simp
      exact HK.out _ _ ⟨_, _, _, _, _, _, _, _, _, _, _, _, rfl, HF.out⟩
    · have hst : S0 (d_ 9) ms w1 ∨ S1 (d_ 9) ms ob w1 := by
        cases e1 : d_ 8 with
        | false => exact .inl ((F.st0 e1))
        | true =>
          have n_ : d_ 10 = false := by
            cases e_ : d_ 10 with
            | false => rfl
            | true => have h2 := (F.q10 e_).2.2.2.2.2.1; rw [show d_ 5 = false from hd_] at h2; cases h2
          exact .inr ((F.st1 e1 n_))
      have kk := kl5.out (d_ 9) ms ob w1 hst
      obtain ⟨kk0, kk1⟩ := kk
      clear hst
      obtain rfl := F.f4 (by simp [hdep])
      have HF : Hid (lar1F p b off cap bx c S0 S1 S2 S3 (upd d_ 5) x13 x14 x15 x16 (.pointer (some ⟨b, off + c * 5, none⟩)) (.agg #[.int .i64 (gp p.cards c).slo, .int .i64 (gp p.cards c).shi]) x19 x20 x9 x10 ms ob w1) := ⟨F.q1, F.q3, F.q4, fun _ => (show _ from (by simp [hdep] : d_ 4 = true)), F.q7, fun h => ⟨(F.q10 h).1, (F.q10 h).2.1, (F.q10 h).2.2.1, (F.q10 h).2.2.2.1, (F.q10 h).2.2.2.2.1, rfl, (F.q10 h).2.2.2.2.2.2.1, (F.q10 h).2.2.2.2.2.2.2⟩, fun h => ⟨(F.q11 h).1, (F.q11 h).2.1, (F.q11 h).2.2.1, (F.q11 h).2.2.2.1, (F.q11 h).2.2.2.2.1, rfl, (F.q11 h).2.2.2.2.2.2.1, (F.q11 h).2.2.2.2.2.2.2.1, (F.q11 h).2.2.2.2.2.2.2.2.1, (F.q11 h).2.2.2.2.2.2.2.2.2.1, (F.q11 h).2.2.2.2.2.2.2.2.2.2⟩, F.f0, F.f1, F.f2, F.f3, F.f4, fun _ => rfl, F.f6, F.f7, F.f8, F.f9, F.st0, F.st1, F.st2, F.st3, F.mz⟩
      clear F
      go_simp
      exact HK.out _ _ ⟨_, _, _, _, _, _, _, _, _, _, _, _, rfl, HF.out⟩
    · have HF : Hid (lar1F p b off cap bx c S0 S1 S2 S3 (upd d_ 6) x13 x14 x15 x16 x17 x18 (.pointer (some ⟨bx, 1, none⟩)) x20 x9 x10 ms ob w1) := ⟨F.q1, F.q3, F.q4, F.q5, fun h => rfl, F.q10, fun h => ⟨(F.q11 h).1, (F.q11 h).2.1, (F.q11 h).2.2.1, (F.q11 h).2.2.2.1, (F.q11 h).2.2.2.2.1, (F.q11 h).2.2.2.2.2.1, rfl, (F.q11 h).2.2.2.2.2.2.2.1, (F.q11 h).2.2.2.2.2.2.2.2.1, (F.q11 h).2.2.2.2.2.2.2.2.2.1, (F.q11 h).2.2.2.2.2.2.2.2.2.2⟩, F.f0, F.f1, F.f2, F.f3, F.f4, F.f5, fun _ => rfl, F.f7, F.f8, F.f9, F.st0, F.st1, F.st2, F.st3, F.mz⟩
      clear F
      go_simp
      exact HK.out _ _ ⟨_, _, _, _, _, _, _, _, _, _, _, _, rfl, HF.out⟩
    · have hst : S0 (d_ 9) ms w1 ∨ S1 (d_ 9) ms ob w1 ∨ S2 (d_ 9) ms ob w1 := by
        cases e1 : d_ 8 with
        | false => exact .inl ((F.st0 e1))
        | true =>
          cases e2 : d_ 10 with
          | false => exact .inr (.inl ((F.st1 e1 e2)))
          | true =>
            have n_ : d_ 11 = false := by
              cases e_ : d_ 11 with
              | false => rfl
              | true => have h2 := (F.q11 e_).2.2.2.2.2.2.2.1; rw [show d_ 7 = false from hd_] at h2; cases h2
            exact .inr (.inr ((F.st2 e2 n_)))
      have kk := kl7.out (d_ 9) ms ob w1 hst
      obtain ⟨kk0, kk1⟩ := kk
      clear hst
      obtain rfl := F.f6 (by simp [hdep])
      have HF : Hid (lar1F p b off cap bx c S0 S1 S2 S3 (upd d_ 7) x13 x14 x15 x16 x17 x18 (.pointer (some ⟨bx, 1, none⟩)) (.agg #[.int .i64 p.llo, .int .i64 p.lhi]) x9 x10 ms ob w1) := ⟨F.q1, F.q3, F.q4, F.q5, fun _ => (show _ from (by simp [hdep] : d_ 6 = true)), F.q10, fun h => ⟨(F.q11 h).1, (F.q11 h).2.1, (F.q11 h).2.2.1, (F.q11 h).2.2.2.1, (F.q11 h).2.2.2.2.1, (F.q11 h).2.2.2.2.2.1, (F.q11 h).2.2.2.2.2.2.1, rfl, (F.q11 h).2.2.2.2.2.2.2.2.1, (F.q11 h).2.2.2.2.2.2.2.2.2.1, (F.q11 h).2.2.2.2.2.2.2.2.2.2⟩, F.f0, F.f1, F.f2, F.f3, F.f4, F.f5, F.f6, fun _ => rfl, F.f8, F.f9, F.st0, F.st1, F.st2, F.st3, F.mz⟩
      clear F
      go_simp
      exact HK.out _ _ ⟨_, _, _, _, _, _, _, _, _, _, _, _, rfl, HF.out⟩
    · have hS := F.st0  hd_
      have hres := kc8.out (d_ 9) ms w1 hS
      have HF : Hid (lar1F p b off cap bx c S0 S1 S2 S3 (upd d_ 8) x13 x14 x15 x16 x17 x18 x19 x20 ((.pointer (some ⟨w1.heap.size, 0, none⟩))) x10 ms w1.heap.size (w1.alloc (.cells #[.int .i64 0, .int .i64 0] 24))) := ⟨F.q1, F.q3, F.q4, F.q5, F.q7, fun h => ⟨(F.q10 h).1, (F.q10 h).2.1, (F.q10 h).2.2.1, (F.q10 h).2.2.2.1, (F.q10 h).2.2.2.2.1, (F.q10 h).2.2.2.2.2.1, rfl, (F.q10 h).2.2.2.2.2.2.2⟩, fun h => ⟨(F.q11 h).1, (F.q11 h).2.1, (F.q11 h).2.2.1, (F.q11 h).2.2.2.1, (F.q11 h).2.2.2.2.1, (F.q11 h).2.2.2.2.2.1, (F.q11 h).2.2.2.2.2.2.1, (F.q11 h).2.2.2.2.2.2.2.1, rfl, (F.q11 h).2.2.2.2.2.2.2.2.2.1, (F.q11 h).2.2.2.2.2.2.2.2.2.2⟩, F.f0, F.f1, F.f2, F.f3, F.f4, F.f5, F.f6, F.f7, fun _ => rfl, F.f9, fun h => (by simp [upd] at h), fun _ _ => hres, fun h _ => (by have h2 : d_ 8 = true := (F.q10 h).2.2.2.2.2.2.1; rw [show d_ 8 = false from hd_] at h2; cases h2), fun h => (by have h2 : d_ 8 = true := (F.q11 h).2.2.2.2.2.2.2.2.1; rw [show d_ 8 = false from hd_] at h2; cases h2), F.mz⟩
      clear F hS hres
      go_simp
      exact HK.out _ _ ⟨_, _, _, _, _, _, _, _, _, _, _, _, rfl, HF.out⟩
    · have HF : Hid (lar1F p b off cap bx c S0 S1 S2 S3 (upd d_ 9) x13 x14 x15 x16 x17 x18 x19 x20 x9 (.pointer (some ⟨w1.heap.size, 0, none⟩)) w1.heap.size ob (w1.alloc (.cells #[.int .i64 0, .int .i64 0] 24))) := ⟨F.q1, F.q3, F.q4, F.q5, F.q7, fun h => ⟨(F.q10 h).1, (F.q10 h).2.1, (F.q10 h).2.2.1, (F.q10 h).2.2.2.1, (F.q10 h).2.2.2.2.1, (F.q10 h).2.2.2.2.2.1, (F.q10 h).2.2.2.2.2.2.1, rfl⟩, fun h => ⟨(F.q11 h).1, (F.q11 h).2.1, (F.q11 h).2.2.1, (F.q11 h).2.2.2.1, (F.q11 h).2.2.2.2.1, (F.q11 h).2.2.2.2.2.1, (F.q11 h).2.2.2.2.2.2.1, (F.q11 h).2.2.2.2.2.2.2.1, (F.q11 h).2.2.2.2.2.2.2.2.1, rfl, (F.q11 h).2.2.2.2.2.2.2.2.2.2⟩, F.f0, F.f1, F.f2, F.f3, F.f4, F.f5, F.f6, F.f7, F.f8, fun _ => rfl, fun b => ks0.out w1 (by have h := F.st0 b; rw [show d_ 9 = false from hd_, F.mz hd_] at h; exact h), fun a b => ks1.out ob w1 (by have h := F.st1 a b; rw [show d_ 9 = false from hd_, F.mz hd_] at h; exact h), fun a b => (by have h2 : d_ 9 = true := (F.q10 a).2.2.2.2.2.2.2; rw [show d_ 9 = false from hd_] at h2; cases h2), fun a => (by have h2 : d_ 9 = true := (F.q11 a).2.2.2.2.2.2.2.2.2.1; rw [show d_ 9 = false from hd_] at h2; cases h2), fun h => (by simp [upd] at h)⟩
      clear F
      go_simp
      exact HK.out _ _ ⟨_, _, _, _, _, _, _, _, _, _, _, _, rfl, HF.out⟩
    · have hS := F.st1 (by simp [hdep] : d_ 8 = true) hd_
      rw [show d_ 9 = true from (by simp [hdep] : d_ 9 = true)] at hS
      obtain rfl := F.f5 (by simp [hdep])
      obtain rfl := F.f8 (by simp [hdep])
      obtain ⟨⟨ku0, kcell0⟩, kfr0, ⟨ku1, kcell1⟩, kfr1, hres⟩ := kc10.out ms ob w1 hS
      have HF : Hid (lar1F p b off cap bx c S0 S1 S2 S3 (upd d_ 10) x13 x14 x15 x16 x17 (.agg #[.int .i64 (gp p.cards c).slo, .int .i64 (gp p.cards c).shi]) x19 x20 (.pointer (some ⟨ob, 0, none⟩)) x10 ms ob ((w1.setCell ⟨ob, 0, none⟩ (.int .i64 (gp p.cards c).slo)).setCell ⟨ob, 1, none⟩ (.int .i64 (gp p.cards c).shi))) := ⟨F.q1, F.q3, F.q4, F.q5, F.q7, fun _ => ⟨(show _ from (by simp [hdep] : d_ 0 = true)), (show _ from (by simp [hdep] : d_ 1 = true)), (show _ from (by simp [hdep] : d_ 2 = true)), (show _ from (by simp [hdep] : d_ 3 = true)), (show _ from (by simp [hdep] : d_ 4 = true)), (show _ from (by simp [hdep] : d_ 5 = true)), (show _ from (by simp [hdep] : d_ 8 = true)), (show _ from (by simp [hdep] : d_ 9 = true))⟩, fun h => ⟨(F.q11 h).1, (F.q11 h).2.1, (F.q11 h).2.2.1, (F.q11 h).2.2.2.1, (F.q11 h).2.2.2.2.1, (F.q11 h).2.2.2.2.2.1, (F.q11 h).2.2.2.2.2.2.1, (F.q11 h).2.2.2.2.2.2.2.1, (F.q11 h).2.2.2.2.2.2.2.2.1, (F.q11 h).2.2.2.2.2.2.2.2.2.1, rfl⟩, F.f0, F.f1, F.f2, F.f3, F.f4, F.f5, F.f6, F.f7, F.f8, F.f9, fun h => (by have h2 : d_ 8 = false := h; rw [(by simp [hdep] : d_ 8 = true)] at h2; cases h2), fun _ h => (by simp [upd] at h), fun _ _ => (by rw [show upd d_ 10 9 = true from (by simp [hdep] : d_ 9 = true)]; exact hres), fun h => (by have h2 : d_ 10 = true := (F.q11 h).2.2.2.2.2.2.2.2.2.2; rw [show d_ 10 = false from hd_] at h2; cases h2), F.mz⟩
      clear F hS hres
      go_simp
      exact HK.out _ _ ⟨_, _, _, _, _, _, _, _, _, _, _, _, rfl, HF.out⟩
    · have hS := F.st2 (by simp [hdep] : d_ 10 = true) hd_
      rw [show d_ 9 = true from (by simp [hdep] : d_ 9 = true)] at hS
      obtain rfl := F.f7 (by simp [hdep])
      obtain rfl := F.f9 (by simp [hdep])
      obtain ⟨⟨ku0, kcell0⟩, kfr0, ⟨ku1, kcell1⟩, kfr1, hres⟩ := kc11.out ms ob w1 hS
      have HF : Hid (lar1F p b off cap bx c S0 S1 S2 S3 (upd d_ 11) x13 x14 x15 x16 x17 x18 x19 (.agg #[.int .i64 p.llo, .int .i64 p.lhi]) x9 (.pointer (some ⟨ms, 0, none⟩)) ms ob ((w1.setCell ⟨ms, 0, none⟩ (.int .i64 p.llo)).setCell ⟨ms, 1, none⟩ (.int .i64 p.lhi))) := ⟨F.q1, F.q3, F.q4, F.q5, F.q7, F.q10, fun _ => ⟨(show _ from (by simp [hdep] : d_ 0 = true)), (show _ from (by simp [hdep] : d_ 1 = true)), (show _ from (by simp [hdep] : d_ 2 = true)), (show _ from (by simp [hdep] : d_ 3 = true)), (show _ from (by simp [hdep] : d_ 4 = true)), (show _ from (by simp [hdep] : d_ 5 = true)), (show _ from (by simp [hdep] : d_ 6 = true)), (show _ from (by simp [hdep] : d_ 7 = true)), (show _ from (by simp [hdep] : d_ 8 = true)), (show _ from (by simp [hdep] : d_ 9 = true)), (show _ from (by simp [hdep] : d_ 10 = true))⟩, F.f0, F.f1, F.f2, F.f3, F.f4, F.f5, F.f6, F.f7, F.f8, F.f9, fun h => (by have h2 : d_ 8 = false := h; rw [(by simp [hdep] : d_ 8 = true)] at h2; cases h2), fun _ h => (by have h2 : d_ 10 = false := h; rw [(by simp [hdep] : d_ 10 = true)] at h2; cases h2), fun _ h => (by simp [upd] at h), fun _ => (by rw [show upd d_ 11 9 = true from (by simp [hdep] : d_ 9 = true)]; exact hres), F.mz⟩
      clear F hS hres
      go_simp
      exact HK.out _ _ ⟨_, _, _, _, _, _, _, _, _, _, _, _, rfl, HF.out⟩
  · rintro d_ a_ w1 hall ⟨x13, x14, x15, x16, x17, x18, x19, x20, x9, x10, ms, ob, rfl, F⟩
    have hall' : ∀ k, k < 12 → d_ k = true := hall
    obtain rfl := F.f0 (hall' 0 (by decide))
    obtain rfl := F.f1 (hall' 1 (by decide))
    obtain rfl := F.f2 (hall' 2 (by decide))
    obtain rfl := F.f3 (hall' 3 (by decide))
    obtain rfl := F.f4 (hall' 4 (by decide))
    obtain rfl := F.f5 (hall' 5 (by decide))
    obtain rfl := F.f6 (hall' 6 (by decide))
    obtain rfl := F.f7 (hall' 7 (by decide))
    obtain rfl := F.f8 (hall' 8 (by decide))
    obtain rfl := F.f9 (hall' 9 (by decide))
    have hst := F.st3 (hall' 11 (by decide))
    rw [show d_ 9 = true from hall' 9 (by decide)] at hst
    exact HQ.out ms ob w1 hst
structure lar3F (p : Prs) (b : Nat) (off : Nat) (cap : Nat) (bx : Nat) (c : Nat) (ob : Nat) (mb : Nat) (S0 : World → Prop) (S1 : World → Prop) (S2 : World → Prop) (d : Nat → Bool) (x23 x24 x25 x26 x27 x28 x29 x30 : Value) (w : World) : Prop where
  q1 : d 1 = true → d 0 = true
  q3 : d 3 = true → d 1 = true ∧ d 2 = true
  q4 : d 4 = true → d 3 = true
  q5 : d 5 = true → d 4 = true
  q7 : d 7 = true → d 6 = true
  q8 : d 8 = true → d 0 = true ∧ d 1 = true ∧ d 2 = true ∧ d 3 = true ∧ d 4 = true ∧ d 5 = true
  q9 : d 9 = true → d 0 = true ∧ d 1 = true ∧ d 2 = true ∧ d 3 = true ∧ d 4 = true ∧ d 5 = true ∧ d 6 = true ∧ d 7 = true ∧ d 8 = true
  f0 : d 0 = true → x23 = .pointer (some ⟨bx, 0, none⟩)
  f1 : d 1 = true → x24 = .slice (some ⟨b, off, none⟩) p.cards.length cap
  f2 : d 2 = true → x25 = .int .i64 c
  f3 : d 3 = true → x26 = .pointer (some ⟨b, off + c * 5, none⟩)
  f4 : d 4 = true → x27 = .pointer (some ⟨b, off + c * 5 + 2, none⟩)
  f5 : d 5 = true → x28 = .agg #[.int .i64 (gp p.cards c).wlo, .int .i64 (gp p.cards c).whi]
  f6 : d 6 = true → x29 = .pointer (some ⟨bx, 3, none⟩)
  f7 : d 7 = true → x30 = .agg #[.int .i64 p.olo, .int .i64 p.ohi]
  st0 : d 8 = false → S0 w
  st1 : d 8 = true → d 9 = false → S1 w
  st2 : d 9 = true → S2 w
noncomputable def lar3C : Code := (Try.f89.body.bind (regionAt 3)).getD .skip
set_option maxRecDepth 100000 in
set_option maxHeartbeats 4000000 in
theorem lar3 {p : Prs} {b : Nat} {off : Nat} {cap : Nat} {bx : Nat} {c : Nat} {ob : Nat} {mb : Nat} {S0 : World → Prop} {S1 : World → Prop} {S2 : World → Prop} {Q : Exit → Act → World → Prop} {W1 : World} (hc5 : c < p.cards.length) (hn5 : p.cards.length ≤ 5) (h0 : S0 W1.drew)
    (kl1 : Hid (∀ (w : World), (S0 w) → w.cell? ⟨bx, 0, none⟩ = some (.slice (some ⟨b, off, none⟩) p.cards.length cap)))
    (kl5 : Hid (∀ (w : World), (S0 w) → w.cell? ⟨b, off + c * 5 + 2, none⟩ = some (.int .i64 (gp p.cards c).wlo) ∧ w.cell? ⟨b, off + c * 5 + 3, none⟩ = some (.int .i64 (gp p.cards c).whi)))
    (kl7 : Hid (∀ (w : World), (S0 w ∨ S1 w) → w.cell? ⟨bx, 3, none⟩ = some (.int .i64 p.olo) ∧ w.cell? ⟨bx, 4, none⟩ = some (.int .i64 p.ohi)))
    (kc8 : Hid (∀ (w : World), S0 w → (∃ u, w.cell? ⟨ob, 0, none⟩ = some u) ∧ w.frozen? ⟨ob, 0, none⟩ = false ∧ (∃ u, w.cell? ⟨ob, 1, none⟩ = some u) ∧ w.frozen? ⟨ob, 1, none⟩ = false ∧ S1 ((w.setCell ⟨ob, 0, none⟩ (.int .i64 (gp p.cards c).wlo)).setCell ⟨ob, 1, none⟩ (.int .i64 (gp p.cards c).whi))))
    (kc9 : Hid (∀ (w : World), S1 w → (∃ u, w.cell? ⟨mb, 0, none⟩ = some u) ∧ w.frozen? ⟨mb, 0, none⟩ = false ∧ (∃ u, w.cell? ⟨mb, 1, none⟩ = some u) ∧ w.frozen? ⟨mb, 1, none⟩ = false ∧ S2 ((w.setCell ⟨mb, 0, none⟩ (.int .i64 p.olo)).setCell ⟨mb, 1, none⟩ (.int .i64 p.ohi))))
    {s0 s1 s3 s5 s6 s7 s8 s11 s12 s13 s14 s15 s16 s17 s18 s19 s20 s21 s22 s23 s24 s25 s26 s27 s28 s29 s30 s31 s32 s33 s34 s35 s36 s37 s38 s39 s40 s41 s42 s43 s44 s45 s46 s47 s48 s49 s50 s51 s52 s53 s54 s55 s56 s57 s58 s59 s60 s61 s62 s63 s64 s65 s66 s67 s68 s69 s70 s71 : Value} {dd : List Deferred}
    (hQ : ∀ (w' : World), S2 w' → Q .normal { tmps := #[s0, s1, .int .i64 c, s3, .pointer (some ⟨bx, 0, none⟩), s5, s6, s7, s8, .pointer (some ⟨ob, 0, none⟩), .pointer (some ⟨mb, 0, none⟩), s11, s12, s13, s14, s15, s16, s17, s18, s19, s20, s21, s22, .pointer (some ⟨bx, 0, none⟩), .slice (some ⟨b, off, none⟩) p.cards.length cap, .int .i64 c, .pointer (some ⟨b, off + c * 5, none⟩), .pointer (some ⟨b, off + c * 5 + 2, none⟩), .agg #[.int .i64 (gp p.cards c).wlo, .int .i64 (gp p.cards c).whi], .pointer (some ⟨bx, 3, none⟩), .agg #[.int .i64 p.olo, .int .i64 p.ohi], s31, s32, s33, s34, s35, s36, s37, s38, s39, s40, s41, s42, s43, s44, s45, s46, s47, s48, s49, s50, s51, s52, s53, s54, s55, s56, s57, s58, s59, s60, s61, s62, s63, s64, s65, s66, s67, s68, s69, s70, s71], defers := dd } w') :
    Code.wpIn (wideAt none) 0 Try.prog lar3C Q { tmps := #[s0, s1, .int .i64 c, s3, .pointer (some ⟨bx, 0, none⟩), s5, s6, s7, s8, .pointer (some ⟨ob, 0, none⟩), .pointer (some ⟨mb, 0, none⟩), s11, s12, s13, s14, s15, s16, s17, s18, s19, s20, s21, s22, s23, s24, s25, s26, s27, s28, s29, s30, s31, s32, s33, s34, s35, s36, s37, s38, s39, s40, s41, s42, s43, s44, s45, s46, s47, s48, s49, s50, s51, s52, s53, s54, s55, s56, s57, s58, s59, s60, s61, s62, s63, s64, s65, s66, s67, s68, s69, s70, s71], defers := dd } W1 := by
  have HQ := Lib.hid hQ
  clear hQ
  conv => arg 4; whnf
  refine wpIn_region_invG mixed (by kernel_rfl) (fun d_ a_ w' => ∃ (x23 : Value) (x24 : Value) (x25 : Value) (x26 : Value) (x27 : Value) (x28 : Value) (x29 : Value) (x30 : Value), a_ = { tmps := #[s0, s1, .int .i64 c, s3, .pointer (some ⟨bx, 0, none⟩), s5, s6, s7, s8, .pointer (some ⟨ob, 0, none⟩), .pointer (some ⟨mb, 0, none⟩), s11, s12, s13, s14, s15, s16, s17, s18, s19, s20, s21, s22, x23, x24, x25, x26, x27, x28, x29, x30, s31, s32, s33, s34, s35, s36, s37, s38, s39, s40, s41, s42, s43, s44, s45, s46, s47, s48, s49, s50, s51, s52, s53, s54, s55, s56, s57, s58, s59, s60, s61, s62, s63, s64, s65, s66, s67, s68, s69, s70, s71], defers := dd } ∧ lar3F p b off cap bx c ob mb S0 S1 S2 d_ x23 x24 x25 x26 x27 x28 x29 x30 w') ?_ ?_ ?_
  · refine ⟨s23, s24, s25, s26, s27, s28, s29, s30, rfl, ?_⟩
    constructor <;> first | rfl | (intro _; rfl) | (intro h; cases h; done) | (intro _; exact h0) | exact h0
  · refine ⟨?_, ?_, ?_, ?_, ?_, ?_, ?_, ?_, ?_, ?_, trivial⟩
    all_goals
      rintro d_ a_ w1 K hd_ hdep ⟨x23, x24, x25, x26, x27, x28, x29, x30, rfl, F⟩ HK
      simp [Region.binds] at hdep
    · have HF : Hid (lar3F p b off cap bx c ob mb S0 S1 S2 (upd d_ 0) (.pointer (some ⟨bx, 0, none⟩)) x24 x25 x26 x27 x28 x29 x30 w1) := ⟨fun h => rfl, F.q3, F.q4, F.q5, F.q7, fun h => ⟨rfl, (F.q8 h).2.1, (F.q8 h).2.2.1, (F.q8 h).2.2.2.1, (F.q8 h).2.2.2.2.1, (F.q8 h).2.2.2.2.2⟩, fun h => ⟨rfl, (F.q9 h).2.1, (F.q9 h).2.2.1, (F.q9 h).2.2.2.1, (F.q9 h).2.2.2.2.1, (F.q9 h).2.2.2.2.2.1, (F.q9 h).2.2.2.2.2.2.1, (F.q9 h).2.2.2.2.2.2.2.1, (F.q9 h).2.2.2.2.2.2.2.2⟩, fun _ => rfl, F.f1, F.f2, F.f3, F.f4, F.f5, F.f6, F.f7, F.st0, F.st1, F.st2⟩
      clear F
      go_simp
      exact HK.out _ _ ⟨_, _, _, _, _, _, _, _, rfl, HF.out⟩
    · have hst : S0 w1 := by
        have n_ : d_ 8 = false := by
          cases e_ : d_ 8 with
          | false => rfl
          | true => have h2 := (F.q8 e_).2.1; rw [show d_ 1 = false from hd_] at h2; cases h2
        exact (F.st0 n_)
      have kk := kl1.out w1 hst
      clear hst
      obtain rfl := F.f0 (by simp [hdep])
      have HF : Hid (lar3F p b off cap bx c ob mb S0 S1 S2 (upd d_ 1) (.pointer (some ⟨bx, 0, none⟩)) (.slice (some ⟨b, off, none⟩) p.cards.length cap) x25 x26 x27 x28 x29 x30 w1) := ⟨fun _ => (show _ from (by simp [hdep] : d_ 0 = true)), fun h => ⟨rfl, (F.q3 h).2⟩, F.q4, F.q5, F.q7, fun h => ⟨(F.q8 h).1, rfl, (F.q8 h).2.2.1, (F.q8 h).2.2.2.1, (F.q8 h).2.2.2.2.1, (F.q8 h).2.2.2.2.2⟩, fun h => ⟨(F.q9 h).1, rfl, (F.q9 h).2.2.1, (F.q9 h).2.2.2.1, (F.q9 h).2.2.2.2.1, (F.q9 h).2.2.2.2.2.1, (F.q9 h).2.2.2.2.2.2.1, (F.q9 h).2.2.2.2.2.2.2.1, (F.q9 h).2.2.2.2.2.2.2.2⟩, F.f0, fun _ => rfl, F.f2, F.f3, F.f4, F.f5, F.f6, F.f7, F.st0, F.st1, F.st2⟩
      clear F
      go_simp
      exact HK.out _ _ ⟨_, _, _, _, _, _, _, _, rfl, HF.out⟩
    · have HF : Hid (lar3F p b off cap bx c ob mb S0 S1 S2 (upd d_ 2) x23 x24 (.int .i64 c) x26 x27 x28 x29 x30 w1) := ⟨F.q1, fun h => ⟨(F.q3 h).1, rfl⟩, F.q4, F.q5, F.q7, fun h => ⟨(F.q8 h).1, (F.q8 h).2.1, rfl, (F.q8 h).2.2.2.1, (F.q8 h).2.2.2.2.1, (F.q8 h).2.2.2.2.2⟩, fun h => ⟨(F.q9 h).1, (F.q9 h).2.1, rfl, (F.q9 h).2.2.2.1, (F.q9 h).2.2.2.2.1, (F.q9 h).2.2.2.2.2.1, (F.q9 h).2.2.2.2.2.2.1, (F.q9 h).2.2.2.2.2.2.2.1, (F.q9 h).2.2.2.2.2.2.2.2⟩, F.f0, F.f1, fun _ => rfl, F.f3, F.f4, F.f5, F.f6, F.f7, F.st0, F.st1, F.st2⟩
      clear F
      go_simp
      exact HK.out _ _ ⟨_, _, _, _, _, _, _, _, rfl, HF.out⟩
    · obtain rfl := F.f1 (by simp [hdep])
      obtain rfl := F.f2 (by simp [hdep])
      have HF : Hid (lar3F p b off cap bx c ob mb S0 S1 S2 (upd d_ 3) x23 (.slice (some ⟨b, off, none⟩) p.cards.length cap) (.int .i64 c) (.pointer (some ⟨b, off + c * 5, none⟩)) x27 x28 x29 x30 w1) := ⟨F.q1, fun _ => ⟨(show _ from (by simp [hdep] : d_ 1 = true)), (show _ from (by simp [hdep] : d_ 2 = true))⟩, fun h => rfl, F.q5, F.q7, fun h => ⟨(F.q8 h).1, (F.q8 h).2.1, (F.q8 h).2.2.1, rfl, (F.q8 h).2.2.2.2.1, (F.q8 h).2.2.2.2.2⟩, fun h => ⟨(F.q9 h).1, (F.q9 h).2.1, (F.q9 h).2.2.1, rfl, (F.q9 h).2.2.2.2.1, (F.q9 h).2.2.2.2.2.1, (F.q9 h).2.2.2.2.2.2.1, (F.q9 h).2.2.2.2.2.2.2.1, (F.q9 h).2.2.2.2.2.2.2.2⟩, F.f0, F.f1, F.f2, fun _ => rfl, F.f4, F.f5, F.f6, F.f7, F.st0, F.st1, F.st2⟩
      clear F
      go_simp
      exact HK.out _ _ ⟨_, _, _, _, _, _, _, _, rfl, HF.out⟩
    · obtain rfl := F.f3 (by simp [hdep])
      have HF : Hid (lar3F p b off cap bx c ob mb S0 S1 S2 (upd d_ 4) x23 x24 x25 (.pointer (some ⟨b, off + c * 5, none⟩)) (.pointer (some ⟨b, off + c * 5 + 2, none⟩)) x28 x29 x30 w1) := ⟨F.q1, F.q3, fun _ => (show _ from (by simp [hdep] : d_ 3 = true)), fun h => rfl, F.q7, fun h => ⟨(F.q8 h).1, (F.q8 h).2.1, (F.q8 h).2.2.1, (F.q8 h).2.2.2.1, rfl, (F.q8 h).2.2.2.2.2⟩, fun h => ⟨(F.q9 h).1, (F.q9 h).2.1, (F.q9 h).2.2.1, (F.q9 h).2.2.2.1, rfl, (F.q9 h).2.2.2.2.2.1, (F.q9 h).2.2.2.2.2.2.1, (F.q9 h).2.2.2.2.2.2.2.1, (F.q9 h).2.2.2.2.2.2.2.2⟩, F.f0, F.f1, F.f2, F.f3, fun _ => rfl, F.f5, F.f6, F.f7, F.st0, F.st1, F.st2⟩
      clear F
      go_simp
      exact HK.out _ _ ⟨_, _, _, _, _, _, _, _, rfl, HF.out⟩
    · have hst : S0 w1 := by
        have n_ : d_ 8 = false := by
          cases e_ : d_ 8 with
          | false => rfl
          | true => have h2 := (F.q8 e_).2.2.2.2.2; rw [show d_ 5 = false from hd_] at h2; cases h2
        exact (F.st0 n_)
      have kk := kl5.out w1 hst
      obtain ⟨kk0, kk1⟩ := kk
      clear hst
      obtain rfl := F.f4 (by simp [hdep])
      have HF : Hid (lar3F p b off cap bx c ob mb S0 S1 S2 (upd d_ 5) x23 x24 x25 x26 (.pointer (some ⟨b, off + c * 5 + 2, none⟩)) (.agg #[.int .i64 (gp p.cards c).wlo, .int .i64 (gp p.cards c).whi]) x29 x30 w1) := ⟨F.q1, F.q3, F.q4, fun _ => (show _ from (by simp [hdep] : d_ 4 = true)), F.q7, fun h => ⟨(F.q8 h).1, (F.q8 h).2.1, (F.q8 h).2.2.1, (F.q8 h).2.2.2.1, (F.q8 h).2.2.2.2.1, rfl⟩, fun h => ⟨(F.q9 h).1, (F.q9 h).2.1, (F.q9 h).2.2.1, (F.q9 h).2.2.2.1, (F.q9 h).2.2.2.2.1, rfl, (F.q9 h).2.2.2.2.2.2.1, (F.q9 h).2.2.2.2.2.2.2.1, (F.q9 h).2.2.2.2.2.2.2.2⟩, F.f0, F.f1, F.f2, F.f3, F.f4, fun _ => rfl, F.f6, F.f7, F.st0, F.st1, F.st2⟩
      clear F
      go_simp
      exact HK.out _ _ ⟨_, _, _, _, _, _, _, _, rfl, HF.out⟩
    · have HF : Hid (lar3F p b off cap bx c ob mb S0 S1 S2 (upd d_ 6) x23 x24 x25 x26 x27 x28 (.pointer (some ⟨bx, 3, none⟩)) x30 w1) := ⟨F.q1, F.q3, F.q4, F.q5, fun h => rfl, F.q8, fun h => ⟨(F.q9 h).1, (F.q9 h).2.1, (F.q9 h).2.2.1, (F.q9 h).2.2.2.1, (F.q9 h).2.2.2.2.1, (F.q9 h).2.2.2.2.2.1, rfl, (F.q9 h).2.2.2.2.2.2.2.1, (F.q9 h).2.2.2.2.2.2.2.2⟩, F.f0, F.f1, F.f2, F.f3, F.f4, F.f5, fun _ => rfl, F.f7, F.st0, F.st1, F.st2⟩
      clear F
      go_simp
      exact HK.out _ _ ⟨_, _, _, _, _, _, _, _, rfl, HF.out⟩
    · have hst : S0 w1 ∨ S1 w1 := by
        cases e1 : d_ 8 with
        | false => exact .inl ((F.st0 e1))
        | true =>
          have n_ : d_ 9 = false := by
            cases e_ : d_ 9 with
            | false => rfl
            | true => have h2 := (F.q9 e_).2.2.2.2.2.2.2.1; rw [show d_ 7 = false from hd_] at h2; cases h2
          exact .inr ((F.st1 e1 n_))
      have kk := kl7.out w1 hst
      obtain ⟨kk0, kk1⟩ := kk
      clear hst
      obtain rfl := F.f6 (by simp [hdep])
      have HF : Hid (lar3F p b off cap bx c ob mb S0 S1 S2 (upd d_ 7) x23 x24 x25 x26 x27 x28 (.pointer (some ⟨bx, 3, none⟩)) (.agg #[.int .i64 p.olo, .int .i64 p.ohi]) w1) := ⟨F.q1, F.q3, F.q4, F.q5, fun _ => (show _ from (by simp [hdep] : d_ 6 = true)), F.q8, fun h => ⟨(F.q9 h).1, (F.q9 h).2.1, (F.q9 h).2.2.1, (F.q9 h).2.2.2.1, (F.q9 h).2.2.2.2.1, (F.q9 h).2.2.2.2.2.1, (F.q9 h).2.2.2.2.2.2.1, rfl, (F.q9 h).2.2.2.2.2.2.2.2⟩, F.f0, F.f1, F.f2, F.f3, F.f4, F.f5, F.f6, fun _ => rfl, F.st0, F.st1, F.st2⟩
      clear F
      go_simp
      exact HK.out _ _ ⟨_, _, _, _, _, _, _, _, rfl, HF.out⟩
    · have hS := F.st0  hd_
      obtain rfl := F.f5 (by simp [hdep])
      obtain ⟨⟨ku0, kcell0⟩, kfr0, ⟨ku1, kcell1⟩, kfr1, hres⟩ := kc8.out w1 hS
      have HF : Hid (lar3F p b off cap bx c ob mb S0 S1 S2 (upd d_ 8) x23 x24 x25 x26 x27 (.agg #[.int .i64 (gp p.cards c).wlo, .int .i64 (gp p.cards c).whi]) x29 x30 ((w1.setCell ⟨ob, 0, none⟩ (.int .i64 (gp p.cards c).wlo)).setCell ⟨ob, 1, none⟩ (.int .i64 (gp p.cards c).whi))) := ⟨F.q1, F.q3, F.q4, F.q5, F.q7, fun _ => ⟨(show _ from (by simp [hdep] : d_ 0 = true)), (show _ from (by simp [hdep] : d_ 1 = true)), (show _ from (by simp [hdep] : d_ 2 = true)), (show _ from (by simp [hdep] : d_ 3 = true)), (show _ from (by simp [hdep] : d_ 4 = true)), (show _ from (by simp [hdep] : d_ 5 = true))⟩, fun h => ⟨(F.q9 h).1, (F.q9 h).2.1, (F.q9 h).2.2.1, (F.q9 h).2.2.2.1, (F.q9 h).2.2.2.2.1, (F.q9 h).2.2.2.2.2.1, (F.q9 h).2.2.2.2.2.2.1, (F.q9 h).2.2.2.2.2.2.2.1, rfl⟩, F.f0, F.f1, F.f2, F.f3, F.f4, F.f5, F.f6, F.f7, fun h => (by simp [upd] at h), fun _ _ => hres, fun h => (by have h2 : d_ 8 = true := (F.q9 h).2.2.2.2.2.2.2.2; rw [show d_ 8 = false from hd_] at h2; cases h2)⟩
      clear F hS hres
      go_simp
      exact HK.out _ _ ⟨_, _, _, _, _, _, _, _, rfl, HF.out⟩
    · have hS := F.st1 (by simp [hdep] : d_ 8 = true) hd_
      obtain rfl := F.f7 (by simp [hdep])
      obtain ⟨⟨ku0, kcell0⟩, kfr0, ⟨ku1, kcell1⟩, kfr1, hres⟩ := kc9.out w1 hS
      have HF : Hid (lar3F p b off cap bx c ob mb S0 S1 S2 (upd d_ 9) x23 x24 x25 x26 x27 x28 x29 (.agg #[.int .i64 p.olo, .int .i64 p.ohi]) ((w1.setCell ⟨mb, 0, none⟩ (.int .i64 p.olo)).setCell ⟨mb, 1, none⟩ (.int .i64 p.ohi))) := ⟨F.q1, F.q3, F.q4, F.q5, F.q7, F.q8, fun _ => ⟨(show _ from (by simp [hdep] : d_ 0 = true)), (show _ from (by simp [hdep] : d_ 1 = true)), (show _ from (by simp [hdep] : d_ 2 = true)), (show _ from (by simp [hdep] : d_ 3 = true)), (show _ from (by simp [hdep] : d_ 4 = true)), (show _ from (by simp [hdep] : d_ 5 = true)), (show _ from (by simp [hdep] : d_ 6 = true)), (show _ from (by simp [hdep] : d_ 7 = true)), (show _ from (by simp [hdep] : d_ 8 = true))⟩, F.f0, F.f1, F.f2, F.f3, F.f4, F.f5, F.f6, F.f7, fun h => (by have h2 : d_ 8 = false := h; rw [(by simp [hdep] : d_ 8 = true)] at h2; cases h2), fun _ h => (by simp [upd] at h), fun _ => hres⟩
      clear F hS hres
      go_simp
      exact HK.out _ _ ⟨_, _, _, _, _, _, _, _, rfl, HF.out⟩
  · rintro d_ a_ w1 hall ⟨x23, x24, x25, x26, x27, x28, x29, x30, rfl, F⟩
    have hall' : ∀ k, k < 10 → d_ k = true := hall
    obtain rfl := F.f0 (hall' 0 (by decide))
    obtain rfl := F.f1 (hall' 1 (by decide))
    obtain rfl := F.f2 (hall' 2 (by decide))
    obtain rfl := F.f3 (hall' 3 (by decide))
    obtain rfl := F.f4 (hall' 4 (by decide))
    obtain rfl := F.f5 (hall' 5 (by decide))
    obtain rfl := F.f6 (hall' 6 (by decide))
    obtain rfl := F.f7 (hall' 7 (by decide))
    have hst := F.st2 (hall' 9 (by decide))
    exact HQ.out  w1 hst
end Go.Proofs.Ytnfhlbmapfoifaa
