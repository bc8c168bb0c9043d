/- The reference's Fits: its drawn region of two prints. The reference's Fits. -/
import Derived.Test.YtnfhlbmapfoifaaR6
import Derived.Test.YtnfhlbmapfoifaaW34
namespace Go.Proofs.Ytnfhlbmapfoifaa
open Go.RowKit
set_option linter.unusedVariables false

structure rfit5F (p : Prs) (b : Nat) (off : Nat) (cap : Nat) (bx : Nat) (by_ : Nat) (kc : Nat) (kf : Nat) (S0 : World → Prop) (S1 : Nat → World → Prop) (S2 : Nat → World → Prop) (d : Nat → Bool) (x29 x30 x31 x32 x33 x34 x35 x36 x37 x38 x39 x40 : Value) (rb : Nat) (w : World) : Prop where
  q1 : d 1 = true → d 0 = true
  q3 : d 3 = true → d 1 = true ∧ d 2 = true
  q4 : d 4 = true → d 3 = true
  q6 : d 6 = true → d 5 = true
  q8 : d 8 = true → d 6 = true ∧ d 7 = true
  q9 : d 9 = true → d 8 = true
  q10 : d 10 = true → d 4 = true ∧ d 9 = true
  q11 : d 11 = true → d 0 = true ∧ d 1 = true ∧ d 2 = true ∧ d 3 = true ∧ d 4 = true ∧ d 5 = true ∧ d 6 = true ∧ d 7 = true ∧ d 8 = true ∧ d 9 = true ∧ d 10 = true
  q12 : d 12 = true → d 0 = true ∧ d 1 = true ∧ d 2 = true ∧ d 3 = true ∧ d 4 = true ∧ d 5 = true ∧ d 6 = true ∧ d 7 = true ∧ d 8 = true ∧ d 9 = true ∧ d 10 = true ∧ d 11 = true
  f0 : d 0 = true → x29 = .pointer (some ⟨bx, 0, none⟩)
  f1 : d 1 = true → x30 = .slice (some ⟨b, off, none⟩) p.cards.length cap
  f2 : d 2 = true → x31 = .int .i64 kf
  f3 : d 3 = true → x32 = .pointer (some ⟨b, off + kf * 5, none⟩)
  f4 : d 4 = true → x33 = (gp p.cards kf).v
  f5 : d 5 = true → x34 = .pointer (some ⟨bx, 0, none⟩)
  f6 : d 6 = true → x35 = .slice (some ⟨b, off, none⟩) p.cards.length cap
  f7 : d 7 = true → x36 = .int .i64 kc
  f8 : d 8 = true → x37 = .pointer (some ⟨b, off + kc * 5, none⟩)
  f9 : d 9 = true → x38 = (gp p.cards kc).v
  f10 : d 10 = true → x39 = .slice (some ⟨rb, 0, none⟩) 2 2
  f11 : d 11 = true → x40 = .pointer (some ⟨by_, 0, none⟩)
  st0 : d 10 = false → S0 w
  st1 : d 10 = true → d 12 = false → S1 rb w
  st2 : d 12 = true → S2 rb w
noncomputable def rfit5C : Code := (Try.f35.body.bind (regionAt 5)).getD .skip
set_option maxRecDepth 100000 in
set_option maxHeartbeats 4000000 in
theorem rfit5 {p : Prs} {b : Nat} {off : Nat} {cap : Nat} {bx : Nat} {by_ : Nat} {kc : Nat} {kf : Nat} {S0 : World → Prop} {S1 : Nat → World → Prop} {S2 : Nat → World → Prop} {Q : Exit → Act → World → Prop} {W1 : World} (hkc : kc < p.cards.length) (hkf : kf < p.cards.length) (hn16 : p.cards.length ≤ 16) (h0 : S0 W1.drew)
    (kl1 : Hid (∀ (w : World), (S0 w) → w.cell? ⟨bx, 0, none⟩ = some (.slice (some ⟨b, off, none⟩) p.cards.length cap)))
    (kl4 : Hid (∀ (w : World), (S0 w) → w.cell? ⟨b, off + kf * 5, none⟩ = some (.int .i64 (gp p.cards kf).slo) ∧ w.cell? ⟨b, off + kf * 5 + 1, none⟩ = some (.int .i64 (gp p.cards kf).shi) ∧ w.cell? ⟨b, off + kf * 5 + 2, none⟩ = some (.int .i64 (gp p.cards kf).wlo) ∧ w.cell? ⟨b, off + kf * 5 + 3, none⟩ = some (.int .i64 (gp p.cards kf).whi) ∧ w.cell? ⟨b, off + kf * 5 + 4, none⟩ = some (.int .i64 (gp p.cards kf).marks)))
    (kl6 : Hid (∀ (w : World), (S0 w) → w.cell? ⟨bx, 0, none⟩ = some (.slice (some ⟨b, off, none⟩) p.cards.length cap)))
    (kl9 : Hid (∀ (w : World), (S0 w) → w.cell? ⟨b, off + kc * 5, none⟩ = some (.int .i64 (gp p.cards kc).slo) ∧ w.cell? ⟨b, off + kc * 5 + 1, none⟩ = some (.int .i64 (gp p.cards kc).shi) ∧ w.cell? ⟨b, off + kc * 5 + 2, none⟩ = some (.int .i64 (gp p.cards kc).wlo) ∧ w.cell? ⟨b, off + kc * 5 + 3, none⟩ = some (.int .i64 (gp p.cards kc).whi) ∧ w.cell? ⟨b, off + kc * 5 + 4, none⟩ = some (.int .i64 (gp p.cards kc).marks)))
    (kc10 : Hid (∀ (w : World), S0 w → S1 w.heap.size (w.alloc (.cells #[.int .i64 (gp p.cards kf).slo, .int .i64 (gp p.cards kf).shi, .int .i64 (gp p.cards kf).wlo, .int .i64 (gp p.cards kf).whi, .int .i64 (gp p.cards kf).marks, .int .i64 (gp p.cards kc).slo, .int .i64 (gp p.cards kc).shi, .int .i64 (gp p.cards kc).wlo, .int .i64 (gp p.cards kc).whi, .int .i64 (gp p.cards kc).marks] 54))))
    (kc12 : Hid (∀ (rb : Nat) (w : World), S1 rb w → (∃ u, w.cell? ⟨by_, 0, none⟩ = some u) ∧ w.frozen? ⟨by_, 0, none⟩ = false ∧ S2 rb (w.setCell ⟨by_, 0, none⟩ (.slice (some ⟨rb, 0, none⟩) 2 2))))
    {s0 s4 s5 s6 s7 s8 s10 s11 s12 s13 s14 s15 s16 s17 s18 s19 s20 s21 s22 s23 s24 s25 s26 s27 s28 s29 s30 s31 s32 s33 s34 s35 s36 s37 s38 s39 s40 s41 s42 s43 : Value} {dd : List Deferred}
    (hQ : ∀ (rb : Nat) (w' : World), S2 rb w' → Q .normal { tmps := #[s0, .int .i64 kc, .int .i64 kf, .pointer (some ⟨bx, 0, none⟩), s4, s5, s6, s7, s8, .pointer (some ⟨by_, 0, none⟩), s10, s11, s12, s13, s14, s15, s16, s17, s18, s19, s20, s21, s22, s23, s24, s25, s26, s27, s28, .pointer (some ⟨bx, 0, none⟩), .slice (some ⟨b, off, none⟩) p.cards.length cap, .int .i64 kf, .pointer (some ⟨b, off + kf * 5, none⟩), (gp p.cards kf).v, .pointer (some ⟨bx, 0, none⟩), .slice (some ⟨b, off, none⟩) p.cards.length cap, .int .i64 kc, .pointer (some ⟨b, off + kc * 5, none⟩), (gp p.cards kc).v, .slice (some ⟨rb, 0, none⟩) 2 2, .pointer (some ⟨by_, 0, none⟩), s41, s42, s43], defers := dd } w') :
    Code.wpIn (wideAt none) 0 Try.prog rfit5C Q { tmps := #[s0, .int .i64 kc, .int .i64 kf, .pointer (some ⟨bx, 0, none⟩), s4, s5, s6, s7, s8, .pointer (some ⟨by_, 0, none⟩), s10, s11, s12, s13, s14, s15, s16, s17, s18, s19, s20, s21, s22, s23, s24, s25, s26, s27, s28, s29, s30, s31, s32, s33, s34, s35, s36, s37, s38, s39, s40, s41, s42, s43], defers := dd } W1 := by
  have HQ := Lib.hid hQ
  clear hQ
  conv => arg 4; whnf
  refine wpIn_region_invG mixed (by kernel_rfl) (fun d_ a_ w' => ∃ (x29 : Value) (x30 : Value) (x31 : Value) (x32 : Value) (x33 : Value) (x34 : Value) (x35 : Value) (x36 : Value) (x37 : Value) (x38 : Value) (x39 : Value) (x40 : Value) (rb : Nat), a_ = { tmps := #[s0, .int .i64 kc, .int .i64 kf, .pointer (some ⟨bx, 0, none⟩), s4, s5, s6, s7, s8, .pointer (some ⟨by_, 0, none⟩), s10, s11, s12, s13, s14, s15, s16, s17, s18, s19, s20, s21, s22, s23, s24, s25, s26, s27, s28, x29, x30, x31, x32, x33, x34, x35, x36, x37, x38, x39, x40, s41, s42, s43], defers := dd } ∧ rfit5F p b off cap bx by_ kc kf S0 S1 S2 d_ x29 x30 x31 x32 x33 x34 x35 x36 x37 x38 x39 x40 rb w') ?_ ?_ ?_
  · refine ⟨s29, s30, s31, s32, s33, s34, s35, s36, s37, s38, s39, s40, 0, rfl, ?_⟩
    constructor <;> first | rfl | (intro _; rfl) | (intro h; cases h; done) | (intro _; exact h0) | exact h0
  · refine ⟨?_, ?_, ?_, ?_, ?_, ?_, ?_, ?_, ?_, ?_, ?_, ?_, ?_, trivial⟩
    all_goals
      rintro d_ a_ w1 K hd_ hdep ⟨x29, x30, x31, x32, x33, x34, x35, x36, x37, x38, x39, x40, rb, rfl, F⟩ HK
      simp [Region.binds] at hdep
    · have HF : Hid (rfit5F p b off cap bx by_ kc kf S0 S1 S2 (upd d_ 0) (.pointer (some ⟨bx, 0, none⟩)) x30 x31 x32 x33 x34 x35 x36 x37 x38 x39 x40 rb w1) := ⟨fun h => rfl, F.q3, F.q4, F.q6, F.q8, F.q9, F.q10, fun h => ⟨rfl, (F.q11 h).2.1, (F.q11 h).2.2.1, (F.q11 h).2.2.2.1, (F.q11 h).2.2.2.2.1, (F.q11 h).2.2.2.2.2.1, (F.q11 h).2.2.2.2.2.2.1, (F.q11 h).2.2.2.2.2.2.2.1, (F.q11 h).2.2.2.2.2.2.2.2.1, (F.q11 h).2.2.2.2.2.2.2.2.2.1, (F.q11 h).2.2.2.2.2.2.2.2.2.2⟩, fun h => ⟨rfl, (F.q12 h).2.1, (F.q12 h).2.2.1, (F.q12 h).2.2.2.1, (F.q12 h).2.2.2.2.1, (F.q12 h).2.2.2.2.2.1, (F.q12 h).2.2.2.2.2.2.1, (F.q12 h).2.2.2.2.2.2.2.1, (F.q12 h).2.2.2.2.2.2.2.2.1, (F.q12 h).2.2.2.2.2.2.2.2.2.1, (F.q12 h).2.2.2.2.2.2.2.2.2.2.1, (F.q12 h).2.2.2.2.2.2.2.2.2.2.2⟩, fun _ => rfl, F.f1, F.f2, F.f3, F.f4, F.f5, F.f6, F.f7, F.f8, F.f9, F.f10, F.f11, F.st0, F.st1, F.st2⟩
      clear F
      go_simp
      exact HK.out _ _ ⟨_, _, _, _, _, _, _, _, _, _, _, _, _, rfl, HF.out⟩
    · have hst : S0 w1 := by
        have n_ : d_ 10 = false := by
          cases e_ : d_ 10 with
          | false => rfl
          | true => have h2 := (F.q3 (F.q4 (F.q10 e_).1)).1; rw [show d_ 1 = false from hd_] at h2; cases h2
        exact (F.st0 n_)
      have kk := kl1.out w1 hst
      clear hst
      obtain rfl := F.f0 (by simp [hdep])
      have HF : Hid (rfit5F p b off cap bx by_ kc kf S0 S1 S2 (upd d_ 1) (.pointer (some ⟨bx, 0, none⟩)) (.slice (some ⟨b, off, none⟩) p.cards.length cap) x31 x32 x33 x34 x35 x36 x37 x38 x39 x40 rb w1) := ⟨fun _ => (show _ from (by simp [hdep] : d_ 0 = true)), fun h => ⟨rfl, (F.q3 h).2⟩, F.q4, F.q6, F.q8, F.q9, F.q10, fun h => ⟨(F.q11 h).1, rfl, (F.q11 h).2.2.1, (F.q11 h).2.2.2.1, (F.q11 h).2.2.2.2.1, (F.q11 h).2.2.2.2.2.1, (F.q11 h).2.2.2.2.2.2.1, (F.q11 h).2.2.2.2.2.2.2.1, (F.q11 h).2.2.2.2.2.2.2.2.1, (F.q11 h).2.2.2.2.2.2.2.2.2.1, (F.q11 h).2.2.2.2.2.2.2.2.2.2⟩, fun h => ⟨(F.q12 h).1, rfl, (F.q12 h).2.2.1, (F.q12 h).2.2.2.1, (F.q12 h).2.2.2.2.1, (F.q12 h).2.2.2.2.2.1, (F.q12 h).2.2.2.2.2.2.1, (F.q12 h).2.2.2.2.2.2.2.1, (F.q12 h).2.2.2.2.2.2.2.2.1, (F.q12 h).2.2.2.2.2.2.2.2.2.1, (F.q12 h).2.2.2.2.2.2.2.2.2.2.1, (F.q12 h).2.2.2.2.2.2.2.2.2.2.2⟩, F.f0, fun _ => rfl, F.f2, F.f3, F.f4, F.f5, F.f6, F.f7, F.f8, F.f9, F.f10, F.f11, F.st0, F.st1, F.st2⟩
      clear F
      go_simp
      exact HK.out _ _ ⟨_, _, _, _, _, _, _, _, _, _, _, _, _, rfl, HF.out⟩
    · have HF : Hid (rfit5F p b off cap bx by_ kc kf S0 S1 S2 (upd d_ 2) x29 x30 (.int .i64 kf) x32 x33 x34 x35 x36 x37 x38 x39 x40 rb w1) := ⟨F.q1, fun h => ⟨(F.q3 h).1, rfl⟩, F.q4, F.q6, F.q8, F.q9, F.q10, fun h => ⟨(F.q11 h).1, (F.q11 h).2.1, rfl, (F.q11 h).2.2.2.1, (F.q11 h).2.2.2.2.1, (F.q11 h).2.2.2.2.2.1, (F.q11 h).2.2.2.2.2.2.1, (F.q11 h).2.2.2.2.2.2.2.1, (F.q11 h).2.2.2.2.2.2.2.2.1, (F.q11 h).2.2.2.2.2.2.2.2.2.1, (F.q11 h).2.2.2.2.2.2.2.2.2.2⟩, fun h => ⟨(F.q12 h).1, (F.q12 h).2.1, rfl, (F.q12 h).2.2.2.1, (F.q12 h).2.2.2.2.1, (F.q12 h).2.2.2.2.2.1, (F.q12 h).2.2.2.2.2.2.1, (F.q12 h).2.2.2.2.2.2.2.1, (F.q12 h).2.2.2.2.2.2.2.2.1, (F.q12 h).2.2.2.2.2.2.2.2.2.1, (F.q12 h).2.2.2.2.2.2.2.2.2.2.1, (F.q12 h).2.2.2.2.2.2.2.2.2.2.2⟩, F.f0, F.f1, fun _ => rfl, F.f3, F.f4, F.f5, F.f6, F.f7, F.f8, F.f9, F.f10, F.f11, F.st0, F.st1, F.st2⟩
      clear F
      go_simp
      exact HK.out _ _ ⟨_, _, _, _, _, _, _, _, _, _, _, _, _, rfl, HF.out⟩
    · obtain rfl := F.f1 (by simp [hdep])
      obtain rfl := F.f2 (by simp [hdep])
      have HF : Hid (rfit5F p b off cap bx by_ kc kf S0 S1 S2 (upd d_ 3) x29 (.slice (some ⟨b, off, none⟩) p.cards.length cap) (.int .i64 kf) (.pointer (some ⟨b, off + kf * 5, none⟩)) x33 x34 x35 x36 x37 x38 x39 x40 rb w1) := ⟨F.q1, fun _ => ⟨(show _ from (by simp [hdep] : d_ 1 = true)), (show _ from (by simp [hdep] : d_ 2 = true))⟩, fun h => rfl, F.q6, F.q8, F.q9, F.q10, fun h => ⟨(F.q11 h).1, (F.q11 h).2.1, (F.q11 h).2.2.1, rfl, (F.q11 h).2.2.2.2.1, (F.q11 h).2.2.2.2.2.1, (F.q11 h).2.2.2.2.2.2.1, (F.q11 h).2.2.2.2.2.2.2.1, (F.q11 h).2.2.2.2.2.2.2.2.1, (F.q11 h).2.2.2.2.2.2.2.2.2.1, (F.q11 h).2.2.2.2.2.2.2.2.2.2⟩, fun h => ⟨(F.q12 h).1, (F.q12 h).2.1, (F.q12 h).2.2.1, rfl, (F.q12 h).2.2.2.2.1, (F.q12 h).2.2.2.2.2.1, (F.q12 h).2.2.2.2.2.2.1, (F.q12 h).2.2.2.2.2.2.2.1, (F.q12 h).2.2.2.2.2.2.2.2.1, (F.q12 h).2.2.2.2.2.2.2.2.2.1, (F.q12 h).2.2.2.2.2.2.2.2.2.2.1, (F.q12 h).2.2.2.2.2.2.2.2.2.2.2⟩, F.f0, F.f1, F.f2, fun _ => rfl, F.f4, F.f5, F.f6, F.f7, F.f8, F.f9, F.f10, F.f11, F.st0, F.st1, F.st2⟩
      clear F
      go_simp
      exact HK.out _ _ ⟨_, _, _, _, _, _, _, _, _, _, _, _, _, rfl, HF.out⟩
    · have hst : S0 w1 := by
        have n_ : d_ 10 = false := by
          cases e_ : d_ 10 with
          | false => rfl
          | true => have h2 := (F.q10 e_).1; rw [show d_ 4 = false from hd_] at h2; cases h2
        exact (F.st0 n_)
      have kk := kl4.out w1 hst
      obtain ⟨kk0, kk1, kk2, kk3, kk4⟩ := kk
      clear hst
      obtain rfl := F.f3 (by simp [hdep])
      have HF : Hid (rfit5F p b off cap bx by_ kc kf S0 S1 S2 (upd d_ 4) x29 x30 x31 (.pointer (some ⟨b, off + kf * 5, none⟩)) ((gp p.cards kf).v) x34 x35 x36 x37 x38 x39 x40 rb w1) := ⟨F.q1, F.q3, fun _ => (show _ from (by simp [hdep] : d_ 3 = true)), F.q6, F.q8, F.q9, fun h => ⟨rfl, (F.q10 h).2⟩, fun h => ⟨(F.q11 h).1, (F.q11 h).2.1, (F.q11 h).2.2.1, (F.q11 h).2.2.2.1, rfl, (F.q11 h).2.2.2.2.2.1, (F.q11 h).2.2.2.2.2.2.1, (F.q11 h).2.2.2.2.2.2.2.1, (F.q11 h).2.2.2.2.2.2.2.2.1, (F.q11 h).2.2.2.2.2.2.2.2.2.1, (F.q11 h).2.2.2.2.2.2.2.2.2.2⟩, fun h => ⟨(F.q12 h).1, (F.q12 h).2.1, (F.q12 h).2.2.1, (F.q12 h).2.2.2.1, rfl, (F.q12 h).2.2.2.2.2.1, (F.q12 h).2.2.2.2.2.2.1, (F.q12 h).2.2.2.2.2.2.2.1, (F.q12 h).2.2.2.2.2.2.2.2.1, (F.q12 h).2.2.2.2.2.2.2.2.2.1, (F.q12 h).2.2.2.2.2.2.2.2.2.2.1, (F.q12 h).2.2.2.2.2.2.2.2.2.2.2⟩, F.f0, F.f1, F.f2, F.f3, fun _ => rfl, F.f5, F.f6, F.f7, F.f8, F.f9, F.f10, F.f11, F.st0, F.st1, F.st2⟩
      clear F
      go_simp
      exact HK.out _ _ ⟨_, _, _, _, _, _, _, _, _, _, _, _, _, rfl, HF.out⟩
    · have HF : Hid (rfit5F p b off cap bx by_ kc kf S0 S1 S2 (upd d_ 5) x29 x30 x31 x32 x33 (.pointer (some ⟨bx, 0, none⟩)) x35 x36 x37 x38 x39 x40 rb w1) := ⟨F.q1, F.q3, F.q4, fun h => rfl, F.q8, F.q9, F.q10, fun h => ⟨(F.q11 h).1, (F.q11 h).2.1, (F.q11 h).2.2.1, (F.q11 h).2.2.2.1, (F.q11 h).2.2.2.2.1, rfl, (F.q11 h).2.2.2.2.2.2.1, (F.q11 h).2.2.2.2.2.2.2.1, (F.q11 h).2.2.2.2.2.2.2.2.1, (F.q11 h).2.2.2.2.2.2.2.2.2.1, (F.q11 h).2.2.2.2.2.2.2.2.2.2⟩, fun h => ⟨(F.q12 h).1, (F.q12 h).2.1, (F.q12 h).2.2.1, (F.q12 h).2.2.2.1, (F.q12 h).2.2.2.2.1, rfl, (F.q12 h).2.2.2.2.2.2.1, (F.q12 h).2.2.2.2.2.2.2.1, (F.q12 h).2.2.2.2.2.2.2.2.1, (F.q12 h).2.2.2.2.2.2.2.2.2.1, (F.q12 h).2.2.2.2.2.2.2.2.2.2.1, (F.q12 h).2.2.2.2.2.2.2.2.2.2.2⟩, F.f0, F.f1, F.f2, F.f3, F.f4, fun _ => rfl, F.f6, F.f7, F.f8, F.f9, F.f10, F.f11, F.st0, F.st1, F.st2⟩
      clear F
      go_simp
      exact HK.out _ _ ⟨_, _, _, _, _, _, _, _, _, _, _, _, _, rfl, HF.out⟩
    · have hst : S0 w1 := by
        have n_ : d_ 10 = false := by
          cases e_ : d_ 10 with
          | false => rfl
          | true => have h2 := (F.q8 (F.q9 (F.q10 e_).2)).1; rw [show d_ 6 = false from hd_] at h2; cases h2
        exact (F.st0 n_)
      have kk := kl6.out w1 hst
      clear hst
      obtain rfl := F.f5 (by simp [hdep])
      have HF : Hid (rfit5F p b off cap bx by_ kc kf S0 S1 S2 (upd d_ 6) x29 x30 x31 x32 x33 (.pointer (some ⟨bx, 0, none⟩)) (.slice (some ⟨b, off, none⟩) p.cards.length cap) x36 x37 x38 x39 x40 rb w1) := ⟨F.q1, F.q3, F.q4, fun _ => (show _ from (by simp [hdep] : d_ 5 = true)), fun h => ⟨rfl, (F.q8 h).2⟩, F.q9, F.q10, fun h => ⟨(F.q11 h).1, (F.q11 h).2.1, (F.q11 h).2.2.1, (F.q11 h).2.2.2.1, (F.q11 h).2.2.2.2.1, (F.q11 h).2.2.2.2.2.1, rfl, (F.q11 h).2.2.2.2.2.2.2.1, (F.q11 h).2.2.2.2.2.2.2.2.1, (F.q11 h).2.2.2.2.2.2.2.2.2.1, (F.q11 h).2.2.2.2.2.2.2.2.2.2⟩, fun h => ⟨(F.q12 h).1, (F.q12 h).2.1, (F.q12 h).2.2.1, (F.q12 h).2.2.2.1, (F.q12 h).2.2.2.2.1, (F.q12 h).2.2.2.2.2.1, rfl, (F.q12 h).2.2.2.2.2.2.2.1, (F.q12 h).2.2.2.2.2.2.2.2.1, (F.q12 h).2.2.2.2.2.2.2.2.2.1, (F.q12 h).2.2.2.2.2.2.2.2.2.2.1, (F.q12 h).2.2.2.2.2.2.2.2.2.2.2⟩, F.f0, F.f1, F.f2, F.f3, F.f4, F.f5, fun _ => rfl, F.f7, F.f8, F.f9, F.f10, F.f11, F.st0, F.st1, F.st2⟩
      clear F
      go_simp
      exact HK.out _ _ ⟨_, _, _, _, _, _, _, _, _, _, _, _, _, rfl, HF.out⟩
    · have HF : Hid (rfit5F p b off cap bx by_ kc kf S0 S1 S2 (upd d_ 7) x29 x30 x31 x32 x33 x34 x35 (.int .i64 kc) x37 x38 x39 x40 rb w1) := ⟨F.q1, F.q3, F.q4, F.q6, fun h => ⟨(F.q8 h).1, rfl⟩, F.q9, F.q10, fun h => ⟨(F.q11 h).1, (F.q11 h).2.1, (F.q11 h).2.2.1, (F.q11 h).2.2.2.1, (F.q11 h).2.2.2.2.1, (F.q11 h).2.2.2.2.2.1, (F.q11 h).2.2.2.2.2.2.1, rfl, (F.q11 h).2.2.2.2.2.2.2.2.1, (F.q11 h).2.2.2.2.2.2.2.2.2.1, (F.q11 h).2.2.2.2.2.2.2.2.2.2⟩, fun h => ⟨(F.q12 h).1, (F.q12 h).2.1, (F.q12 h).2.2.1, (F.q12 h).2.2.2.1, (F.q12 h).2.2.2.2.1, (F.q12 h).2.2.2.2.2.1, (F.q12 h).2.2.2.2.2.2.1, rfl, (F.q12 h).2.2.2.2.2.2.2.2.1, (F.q12 h).2.2.2.2.2.2.2.2.2.1, (F.q12 h).2.2.2.2.2.2.2.2.2.2.1, (F.q12 h).2.2.2.2.2.2.2.2.2.2.2⟩, F.f0, F.f1, F.f2, F.f3, F.f4, F.f5, F.f6, fun _ => rfl, F.f8, F.f9, F.f10, F.f11, F.st0, F.st1, F.st2⟩
      clear F
      go_simp
      exact HK.out _ _ ⟨_, _, _, _, _, _, _, _, _, _, _, _, _, rfl, HF.out⟩
    · obtain rfl := F.f6 (by simp [hdep])
      obtain rfl := F.f7 (by simp [hdep])
      have HF : Hid (rfit5F p b off cap bx by_ kc kf S0 S1 S2 (upd d_ 8) x29 x30 x31 x32 x33 x34 (.slice (some ⟨b, off, none⟩) p.cards.length cap) (.int .i64 kc) (.pointer (some ⟨b, off + kc * 5, none⟩)) x38 x39 x40 rb w1) := ⟨F.q1, F.q3, F.q4, F.q6, fun _ => ⟨(show _ from (by simp [hdep] : d_ 6 = true)), (show _ from (by simp [hdep] : d_ 7 = true))⟩, fun h => rfl, F.q10, fun h => ⟨(F.q11 h).1, (F.q11 h).2.1, (F.q11 h).2.2.1, (F.q11 h).2.2.2.1, (F.q11 h).2.2.2.2.1, (F.q11 h).2.2.2.2.2.1, (F.q11 h).2.2.2.2.2.2.1, (F.q11 h).2.2.2.2.2.2.2.1, rfl, (F.q11 h).2.2.2.2.2.2.2.2.2.1, (F.q11 h).2.2.2.2.2.2.2.2.2.2⟩, fun h => ⟨(F.q12 h).1, (F.q12 h).2.1, (F.q12 h).2.2.1, (F.q12 h).2.2.2.1, (F.q12 h).2.2.2.2.1, (F.q12 h).2.2.2.2.2.1, (F.q12 h).2.2.2.2.2.2.1, (F.q12 h).2.2.2.2.2.2.2.1, rfl, (F.q12 h).2.2.2.2.2.2.2.2.2.1, (F.q12 h).2.2.2.2.2.2.2.2.2.2.1, (F.q12 h).2.2.2.2.2.2.2.2.2.2.2⟩, F.f0, F.f1, F.f2, F.f3, F.f4, F.f5, F.f6, F.f7, fun _ => rfl, F.f9, F.f10, F.f11, F.st0, F.st1, F.st2⟩
      clear F
      go_simp
      exact HK.out _ _ ⟨_, _, _, _, _, _, _, _, _, _, _, _, _, rfl, HF.out⟩
    · have hst : S0 w1 := by
        have n_ : d_ 10 = false := by
          cases e_ : d_ 10 with
          | false => rfl
          | true => have h2 := (F.q10 e_).2; rw [show d_ 9 = false from hd_] at h2; cases h2
        exact (F.st0 n_)
      have kk := kl9.out w1 hst
      obtain ⟨kk0, kk1, kk2, kk3, kk4⟩ := kk
      clear hst
      obtain rfl := F.f8 (by simp [hdep])
      have HF : Hid (rfit5F p b off cap bx by_ kc kf S0 S1 S2 (upd d_ 9) x29 x30 x31 x32 x33 x34 x35 x36 (.pointer (some ⟨b, off + kc * 5, none⟩)) ((gp p.cards kc).v) x39 x40 rb w1) := ⟨F.q1, F.q3, F.q4, F.q6, F.q8, fun _ => (show _ from (by simp [hdep] : d_ 8 = true)), fun h => ⟨(F.q10 h).1, rfl⟩, fun h => ⟨(F.q11 h).1, (F.q11 h).2.1, (F.q11 h).2.2.1, (F.q11 h).2.2.2.1, (F.q11 h).2.2.2.2.1, (F.q11 h).2.2.2.2.2.1, (F.q11 h).2.2.2.2.2.2.1, (F.q11 h).2.2.2.2.2.2.2.1, (F.q11 h).2.2.2.2.2.2.2.2.1, rfl, (F.q11 h).2.2.2.2.2.2.2.2.2.2⟩, fun h => ⟨(F.q12 h).1, (F.q12 h).2.1, (F.q12 h).2.2.1, (F.q12 h).2.2.2.1, (F.q12 h).2.2.2.2.1, (F.q12 h).2.2.2.2.2.1, (F.q12 h).2.2.2.2.2.2.1, (F.q12 h).2.2.2.2.2.2.2.1, (F.q12 h).2.2.2.2.2.2.2.2.1, rfl, (F.q12 h).2.2.2.2.2.2.2.2.2.2.1, (F.q12 h).2.2.2.2.2.2.2.2.2.2.2⟩, F.f0, F.f1, F.f2, F.f3, F.f4, F.f5, F.f6, F.f7, F.f8, fun _ => rfl, F.f10, F.f11, F.st0, F.st1, F.st2⟩
      clear F
      go_simp
      exact HK.out _ _ ⟨_, _, _, _, _, _, _, _, _, _, _, _, _, rfl, HF.out⟩
    · have hS := F.st0  hd_
      obtain rfl := F.f4 (by simp [hdep])
      obtain rfl := F.f9 (by simp [hdep])
      have hres := kc10.out w1 hS
      have HF : Hid (rfit5F p b off cap bx by_ kc kf S0 S1 S2 (upd d_ 10) x29 x30 x31 x32 ((gp p.cards kf).v) x34 x35 x36 x37 ((gp p.cards kc).v) ((.slice (some ⟨w1.heap.size, 0, none⟩) 2 2)) x40 w1.heap.size (w1.alloc (.cells #[.int .i64 (gp p.cards kf).slo, .int .i64 (gp p.cards kf).shi, .int .i64 (gp p.cards kf).wlo, .int .i64 (gp p.cards kf).whi, .int .i64 (gp p.cards kf).marks, .int .i64 (gp p.cards kc).slo, .int .i64 (gp p.cards kc).shi, .int .i64 (gp p.cards kc).wlo, .int .i64 (gp p.cards kc).whi, .int .i64 (gp p.cards kc).marks] 54))) := ⟨F.q1, F.q3, F.q4, F.q6, F.q8, F.q9, fun _ => ⟨(show _ from (by simp [hdep] : d_ 4 = true)), (show _ from (by simp [hdep] : d_ 9 = true))⟩, fun h => ⟨(F.q11 h).1, (F.q11 h).2.1, (F.q11 h).2.2.1, (F.q11 h).2.2.2.1, (F.q11 h).2.2.2.2.1, (F.q11 h).2.2.2.2.2.1, (F.q11 h).2.2.2.2.2.2.1, (F.q11 h).2.2.2.2.2.2.2.1, (F.q11 h).2.2.2.2.2.2.2.2.1, (F.q11 h).2.2.2.2.2.2.2.2.2.1, rfl⟩, fun h => ⟨(F.q12 h).1, (F.q12 h).2.1, (F.q12 h).2.2.1, (F.q12 h).2.2.2.1, (F.q12 h).2.2.2.2.1, (F.q12 h).2.2.2.2.2.1, (F.q12 h).2.2.2.2.2.2.1, (F.q12 h).2.2.2.2.2.2.2.1, (F.q12 h).2.2.2.2.2.2.2.2.1, (F.q12 h).2.2.2.2.2.2.2.2.2.1, rfl, (F.q12 h).2.2.2.2.2.2.2.2.2.2.2⟩, F.f0, F.f1, F.f2, F.f3, F.f4, F.f5, F.f6, F.f7, F.f8, F.f9, fun _ => rfl, F.f11, fun h => (by simp [upd] at h), fun _ _ => hres, fun h => (by have h2 : d_ 10 = true := (F.q12 h).2.2.2.2.2.2.2.2.2.2.1; rw [show d_ 10 = false from hd_] at h2; cases h2)⟩
      clear F hS hres
      go_simp
      exact HK.out _ _ ⟨_, _, _, _, _, _, _, _, _, _, _, _, _, rfl, HF.out⟩
    · have HF : Hid (rfit5F p b off cap bx by_ kc kf S0 S1 S2 (upd d_ 11) x29 x30 x31 x32 x33 x34 x35 x36 x37 x38 x39 (.pointer (some ⟨by_, 0, none⟩)) rb w1) := ⟨F.q1, F.q3, F.q4, F.q6, F.q8, F.q9, F.q10, fun _ => ⟨(show _ from (by simp [hdep] : d_ 0 = true)), (show _ from (by simp [hdep] : d_ 1 = true)), (show _ from (by simp [hdep] : d_ 2 = true)), (show _ from (by simp [hdep] : d_ 3 = true)), (show _ from (by simp [hdep] : d_ 4 = true)), (show _ from (by simp [hdep] : d_ 5 = true)), (show _ from (by simp [hdep] : d_ 6 = true)), (show _ from (by simp [hdep] : d_ 7 = true)), (show _ from (by simp [hdep] : d_ 8 = true)), (show _ from (by simp [hdep] : d_ 9 = true)), (show _ from (by simp [hdep] : d_ 10 = true))⟩, fun h => ⟨(F.q12 h).1, (F.q12 h).2.1, (F.q12 h).2.2.1, (F.q12 h).2.2.2.1, (F.q12 h).2.2.2.2.1, (F.q12 h).2.2.2.2.2.1, (F.q12 h).2.2.2.2.2.2.1, (F.q12 h).2.2.2.2.2.2.2.1, (F.q12 h).2.2.2.2.2.2.2.2.1, (F.q12 h).2.2.2.2.2.2.2.2.2.1, (F.q12 h).2.2.2.2.2.2.2.2.2.2.1, rfl⟩, F.f0, F.f1, F.f2, F.f3, F.f4, F.f5, F.f6, F.f7, F.f8, F.f9, F.f10, fun _ => rfl, F.st0, F.st1, F.st2⟩
      clear F
      go_simp
      exact HK.out _ _ ⟨_, _, _, _, _, _, _, _, _, _, _, _, _, rfl, HF.out⟩
    · have hS := F.st1 (by simp [hdep] : d_ 10 = true) hd_
      obtain rfl := F.f10 (by simp [hdep])
      obtain rfl := F.f11 (by simp [hdep])
      obtain ⟨⟨ku0, kcell0⟩, kfr0, hres⟩ := kc12.out rb w1 hS
      have HF : Hid (rfit5F p b off cap bx by_ kc kf S0 S1 S2 (upd d_ 12) x29 x30 x31 x32 x33 x34 x35 x36 x37 x38 (.slice (some ⟨rb, 0, none⟩) 2 2) (.pointer (some ⟨by_, 0, none⟩)) rb (w1.setCell ⟨by_, 0, none⟩ (.slice (some ⟨rb, 0, none⟩) 2 2))) := ⟨F.q1, F.q3, F.q4, F.q6, F.q8, F.q9, F.q10, F.q11, fun _ => ⟨(show _ from (by simp [hdep] : d_ 0 = true)), (show _ from (by simp [hdep] : d_ 1 = true)), (show _ from (by simp [hdep] : d_ 2 = true)), (show _ from (by simp [hdep] : d_ 3 = true)), (show _ from (by simp [hdep] : d_ 4 = true)), (show _ from (by simp [hdep] : d_ 5 = true)), (show _ from (by simp [hdep] : d_ 6 = true)), (show _ from (by simp [hdep] : d_ 7 = true)), (show _ from (by simp [hdep] : d_ 8 = true)), (show _ from (by simp [hdep] : d_ 9 = true)), (show _ from (by simp [hdep] : d_ 10 = true)), (show _ from (by simp [hdep] : d_ 11 = true))⟩, F.f0, F.f1, F.f2, F.f3, F.f4, F.f5, F.f6, F.f7, F.f8, F.f9, F.f10, F.f11, fun h => (by have h2 : d_ 10 = false := h; rw [(by simp [hdep] : d_ 10 = true)] at h2; cases h2), fun _ h => (by simp [upd] at h), fun _ => hres⟩
      clear F hS hres
      go_simp
      exact HK.out _ _ ⟨_, _, _, _, _, _, _, _, _, _, _, _, _, rfl, HF.out⟩
  · rintro d_ a_ w1 hall ⟨x29, x30, x31, x32, x33, x34, x35, x36, x37, x38, x39, x40, rb, rfl, F⟩
    have hall' : ∀ k, k < 13 → d_ k = true := hall
    obtain rfl := F.f0 (hall' 0 (by decide))
    obtain rfl := F.f1 (hall' 1 (by decide))
    obtain rfl := F.f2 (hall' 2 (by decide))
    obtain rfl := F.f3 (hall' 3 (by decide))
    obtain rfl := F.f4 (hall' 4 (by decide))
    obtain rfl := F.f5 (hall' 5 (by decide))
    obtain rfl := F.f6 (hall' 6 (by decide))
    obtain rfl := F.f7 (hall' 7 (by decide))
    obtain rfl := F.f8 (hall' 8 (by decide))
    obtain rfl := F.f9 (hall' 9 (by decide))
    obtain rfl := F.f10 (hall' 10 (by decide))
    obtain rfl := F.f11 (hall' 11 (by decide))
    have hst := F.st2 (hall' 12 (by decide))
    exact HQ.out rb w1 hst
end Go.Proofs.Ytnfhlbmapfoifaa

namespace Go.Proofs.Ytnfhlbmapfoifaa
open Go.RowKit
set_option linter.unusedVariables false
set_option linter.unusedSimpArgs false

theorem pair_ok {p : Prs} {card frm : Int} : (p.card card && p.card frm && !decide (card = frm)) = (p.card card && p.card frm && (card != frm)) := rfl
set_option maxRecDepth 100000 in
set_option maxHeartbeats 4000000 in
theorem fits_ref_no {p : Prs} {a : Option Addr} {cap : Nat} {w : World} (ha : IsPrts w a p.cards) (hn : p.cards.length ≤ 16) {card frm : Int} (hE : openE p (p.card card && p.card frm && (card != frm)) ≠ 0) :
    Calls Try.prog 35 #[p.v a cap, .int .i64 card, .int .i64 frm] w fun e w' => e = .returned (.tuple #[.bool false, .int .i64 (openE p (p.card card && p.card frm && (card != frm)))]) ∧ Below w.heap.size w w' := by
  have hb0 : Below w.heap.size w (w.alloc (.cells (p.cells a cap) 26)) := (Below.refl _ w).alloc (Nat.le_refl _) _
  have q0 := World.alloc_heap_new w (.cells (p.cells a cap) 26)
  have HW := Lib.hid (And.intro hb0 (And.intro q0 (ha.mono hb0)))
  clear hb0 q0 ha
  cases h1 : p.card card <;> cases h2 : p.card frm <;> cases h3 : (card != frm)
  all_goals
    rw [h1, h2, h3] at hE
    simp only [Bool.true_and, Bool.false_and, Bool.and_true, Bool.and_false, Bool.and_self] at hE ⊢
    have HE := Lib.hid hE
    have H1 := Lib.hid h1
    have H2 := Lib.hid h2
    clear hE h1 h2
    go_enter Try.func35, Try.ntmps35
    go_wp2_with fail
    revert HW
    generalize w.alloc (.cells (p.cells a cap) 26) = w1
    intro HW
    obtain ⟨k0, k1, k2, k3, k4⟩ := prs_cells HW.out.2.1
    have z0 := fun y : Aft w1.heap.size w1 => cell_stays y.h k0
    have z1 := fun y : Aft w1.heap.size w1 => cell_stays y.h k1
    have z2 := fun y : Aft w1.heap.size w1 => cell_stays y.h k2
    have z3 := fun y : Aft w1.heap.size w1 => cell_stays y.h k3
    have z4 := fun y : Aft w1.heap.size w1 => cell_stays y.h k4
    clear k0 k1 k2 k3 k4
    have C1 := Lib.hid (fun z : Aft w1.heap.size w1 => rcard_any (p := p) (a := a) (cap := cap) (w := z.v) hn card)
    have C2 := Lib.hid (fun z : Aft w1.heap.size w1 => rcard_any (p := p) (a := a) (cap := cap) (w := z.v) hn frm)
    have C3 := Lib.hid (fun (ok : Bool) (z : Aft w1.heap.size w1) => rcheck_any (cap := cap) (HW.out.2.2.mono z.h) hn ok)
    rw [H1.out] at C1
    rw [H2.out] at C2
    refine wp_region_aft mixed (by kernel_rfl) ?_
    iterate 4 (go_big_quiet_step ((go_at_call 58; exact calls_aft (C1.out _))))
    repeat (go_big_quiet_step (first | (go_at_call 58; exact calls_aft (C2.out _)) | (go_at_call 57; exact calls_aft (C3.out _ _))))
    refine wpQuiet_nil ?_
    rintro _ ⟨z, rfl⟩
    clear C1 C2 C3 z0 z1 z2 z3 z4
    have hnb := bne_iff_ne.2 HE.out
    go_wp2_with fail
    refine bodyPost_ret (results_tmp2 rfl _ _ _) rfl ?_
    exact ⟨rfl, HW.out.1.trans (z.h.mono HW.out.1.size)⟩
set_option maxRecDepth 100000 in
set_option maxHeartbeats 4000000 in
theorem fits_ref_yes {p : Prs} {a : Option Addr} {cap : Nat} {w : World} (ha : IsPrts w a p.cards) (hn : p.cards.length ≤ 16) (hv : p.valid = true) {kc kf : Nat} (hc : kc < p.cards.length) (hf : kf < p.cards.length) (hne : kc ≠ kf) :
    Calls Try.prog 35 #[p.v a cap, .int .i64 kc, .int .i64 kf] w fun e w' => e = .returned (.tuple #[.bool (isWayB (bothP p kc kf) [-1, 0]), .int .i64 0]) ∧ Below w.heap.size w w' := by
  have hb0 : Below w.heap.size w (w.alloc (.cells (p.cells a cap) 26)) := (Below.refl _ w).alloc (Nat.le_refl _) _
  have q0 := World.alloc_heap_new w (.cells (p.cells a cap) 26)
  have HW := Lib.hid (And.intro hb0 (And.intro q0 (ha.mono hb0)))
  have HV := Lib.hid hv
  have h1 : p.card (kc : Int) = true := by unfold Prs.card inR; simp; omega
  have h2 : p.card (kf : Int) = true := by unfold Prs.card inR; simp; omega
  have h3 : ((kc : Int) != (kf : Int)) = true := by simp; omega
  have h4 : openE p true = 0 := by simp [openE, hv]
  have H1 := Lib.hid h1
  have H2 := Lib.hid h2
  have H4 := Lib.hid h4
  clear hb0 q0 ha hv h1 h2 h4
  go_enter Try.func35, Try.ntmps35
  go_wp2_with fail
  revert HW
  generalize w.alloc (.cells (p.cells a cap) 26) = w1
  intro HW
  obtain ⟨k0, k1, k2, k3, k4⟩ := prs_cells HW.out.2.1
  have z0 := fun y : Aft w1.heap.size w1 => cell_stays y.h k0
  have z1 := fun y : Aft w1.heap.size w1 => cell_stays y.h k1
  have z2 := fun y : Aft w1.heap.size w1 => cell_stays y.h k2
  have z3 := fun y : Aft w1.heap.size w1 => cell_stays y.h k3
  have z4 := fun y : Aft w1.heap.size w1 => cell_stays y.h k4
  clear k0 k1 k2 k3 k4
  have C1 := Lib.hid (fun z : Aft w1.heap.size w1 => rcard_any (p := p) (a := a) (cap := cap) (w := z.v) hn kc)
  have C2 := Lib.hid (fun z : Aft w1.heap.size w1 => rcard_any (p := p) (a := a) (cap := cap) (w := z.v) hn kf)
  have C3 := Lib.hid (fun (z : Aft w1.heap.size w1) => rcheck_any (cap := cap) (HW.out.2.2.mono z.h) hn true)
  rw [H1.out] at C1
  rw [H2.out] at C2
  rw [H4.out] at C3
  refine wp_region_aft mixed (by kernel_rfl) ?_
  iterate 4 (go_big_quiet_step ((go_at_call 58; exact calls_aft (C1.out _))))
  repeat (go_big_quiet_step (first | (go_at_call 58; exact calls_aft (C2.out _)) | (go_at_call 57; exact calls_aft (C3.out _))))
  refine wpQuiet_nil ?_
  rintro _ ⟨z, rfl⟩
  clear C1 C2 C3 z0 z1 z2 z3 z4
  have hb1 := z.h
  revert hb1
  generalize z.v = v1
  intro hb1
  have hB1 := HW.out.1.trans (hb1.mono HW.out.1.size)
  have q1 := (hb1.block _ (heap_lt HW.out.2.1)).trans HW.out.2.1
  have ha1 := HW.out.2.2.mono hb1
  obtain ⟨b, off, rfl, hjunk⟩ := ha1 kc hc
  clear hjunk
  obtain ⟨k0, k1, k2, k3, k4⟩ := prs_cells q1
  have HP := Lib.hid (And.intro hB1 (And.intro q1 ha1))
  clear hB1 q1 ha1 HW hb1
  go_wp2_with fail
  clear k0 k1 k2 k3 k4
  have q5 := World.alloc_heap_new v1 (.cells (p.cells (some ⟨b, off, none⟩) cap) 26)
  have hb5 : Below v1.heap.size v1 (v1.alloc (.cells (p.cells (some ⟨b, off, none⟩) cap) 26)) := (Below.refl _ v1).alloc (Nat.le_refl _) _
  revert q5 hb5
  generalize (v1.alloc (.cells (p.cells (some ⟨b, off, none⟩) cap) 26)) = V1
  intro q5 hb5
  have hB5 := HP.out.1.trans (hb5.mono HP.out.1.size)
  have qx := (hb5.block _ (heap_lt HP.out.2.1)).trans HP.out.2.1
  have ha5 := HP.out.2.2.mono hb5
  have bxc : ∀ w', Below V1.heap.size V1 w' → w'.cell? ⟨w.heap.size, 0, none⟩ = some (.slice (some ⟨b, off, none⟩) p.cards.length cap) := fun w' h' => (prs_cells ((h'.block _ (heap_lt qx)).trans qx)).1
  have cells : ∀ k, k < p.cards.length → ∀ w', Below V1.heap.size V1 w' → _ := fun k hk w' h' => prt_at (ha5.mono h') hk
  have hv1 : w.heap.size ≤ v1.heap.size := HP.out.1.size
  refine wpIn_wide.1 (rfit5 (p := p) (b := b) (off := off) (cap := cap) (bx := w.heap.size) (by_ := v1.heap.size) (kc := kc) (kf := kf) (S0 := fun w' => Below V1.heap.size V1 w')
    (S1 := fun rb w' => ∃ V, Below V1.heap.size V1 V ∧ w' = V.alloc (.cells (twoArr (gp p.cards kf) (gp p.cards kc)) 54) ∧ rb = V.heap.size)
    (S2 := fun rb w' => Below w.heap.size w w' ∧ w'.heap[v1.heap.size]? = some (.cells ((bothP p kc kf).cells (some ⟨rb, 0, none⟩) 2) 26 (0, 0)) ∧ IsPrts w' (some ⟨rb, 0, none⟩) (bothP p kc kf).cards)
    hc hf hn ?d0 ?d1 ?d4 ?d6 ?d9 ?d10 ?d12 ?dQ)
  case d0 => exact (Below.refl _ V1).drew
  case d1 => exact fun w' h => bxc w' h
  case d4 => exact fun w' h => cells kf hf w' h
  case d6 => exact fun w' h => bxc w' h
  case d9 => exact fun w' h => cells kc hc w' h
  case d10 => exact fun w' h => ⟨w', h, rfl, rfl⟩
  case d12 =>
    rintro rb w' ⟨V, h, rfl, rfl⟩
    have hVz := h.size
    have hl5 := heap_lt q5
    have e1 := (Below.heap_alloc V (.cells (twoArr (gp p.cards kf) (gp p.cards kc)) 54) v1.heap.size (by omega)).trans ((h.block _ (by omega)).trans q5)
    have e2 := World.alloc_heap_new V (.cells (twoArr (gp p.cards kf) (gp p.cards kc)) 54)
    have hB := (hB5.trans (h.mono hB5.size)).alloc (by have := hB5.size; omega) (.cells (twoArr (gp p.cards kf) (gp p.cards kc)) 54)
    refine ⟨⟨_, by rw [cell_of_heap e1]; rfl⟩, frozen_of_heap e1, hB.setCell hv1 _, heap_setCell_at (k := 0) e1 _, prts_two _ _ ((Below.heap_setCell _ _ _ _ ?_).trans e2)⟩
    show V.heap.size ≠ v1.heap.size
    omega
  case dQ =>
    rintro rb w6 ⟨hB6, q6, hI6⟩
    obtain ⟨c0, c1, c2, c3, c4⟩ := prs_cells q6
    have HB6 := Lib.hid (And.intro hB6 hI6)
    have HV2 := Lib.hid (both_valid HV.out hc hf)
    clear hB6 hI6 q6 hB5 qx ha5 bxc cells hv1 q5 hb5
    go_wp2_with fail
    have q8 := World.alloc_heap_new w6 (.cells #[.int .i64 (-1), .int .i64 0] 3)
    have hb8 : Below w6.heap.size w6 (w6.alloc (.cells #[.int .i64 (-1), .int .i64 0] 3)) := (Below.refl _ _).alloc (Nat.le_refl _) _
    refine (way_ref (p := bothP p kc kf) (wl := [-1, 0]) (cap := 2) (cw := 2) HV2.out ⟨rfl, by simp [bothP]⟩ (HB6.out.2.mono hb8) (ints_two (-1) 0 q8)).mono ?_
    rintro e w9 ⟨rfl, hb9⟩
    have hB9 := HB6.out.1.trans ((hb8.trans (hb9.mono hb8.size)).mono HB6.out.1.size)
    have HB9 := Lib.hid hB9
    clear q8 hb8 hb9 hB9 c0 c1 c2 c3 c4
    go_wp2_with fail
    refine bodyPost_ret (results_tmp2 rfl _ _ _) rfl ?_
    exact ⟨rfl, HB9.out⟩
theorem fits_ref {p : Prs} {a : Option Addr} {cap : Nat} {w : World} (ha : IsPrts w a p.cards) (hn : p.cards.length ≤ 16) (card frm : Int) :
    Calls Try.prog 35 #[p.v a cap, .int .i64 card, .int .i64 frm] w fun e w' => e = .returned (.tuple #[.bool (fitsE p card frm).1, .int .i64 (fitsE p card frm).2]) ∧ Below w.heap.size w w' := by
  by_cases hE : openE p (p.card card && p.card frm && !decide (card = frm)) = 0
  · obtain ⟨hv, hb⟩ := openE_parts hE
    simp at hb
    obtain ⟨⟨h1, h2⟩, h3⟩ := hb
    obtain ⟨kc, rfl, hkc⟩ := card_nat h1
    obtain ⟨kf, rfl, hkf⟩ := card_nat h2
    have e : fitsE p kc kf = (isWayB (bothP p kc kf) [-1, 0], 0) := by unfold fitsE; rw [if_pos hE]; rfl
    rw [e]
    exact fits_ref_yes ha hn hv hkc hkf (by omega)
  · have e : fitsE p card frm = (false, openE p (p.card card && p.card frm && !decide (card = frm))) := by unfold fitsE; rw [if_neg hE]
    rw [e]
    exact fits_ref_no ha hn hE
end Go.Proofs.Ytnfhlbmapfoifaa

