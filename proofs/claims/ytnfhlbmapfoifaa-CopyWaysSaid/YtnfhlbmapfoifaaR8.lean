/- The reference's Fits: its drawn region of two prints. -/
import Derived.Test.YtnfhlbmapfoifaaR7
import Derived.Test.YtnfhlbmapfoifaaW34
namespace Go.Proofs.Ytnfhlbmapfoifaa
open Go.RowKit
set_option linter.unusedVariables false

structure rfit5F (p : Prs) (b : Nat) (off : Nat) (cap : Nat) (bx : Nat) (by_ : Nat) (kc : Nat) (kf : Nat) (S0 : World → Prop) (S1 : Nat → World → Prop) (S2 : Nat → World → Prop) (d : Nat → Bool) (x29 x30 x31 x32 x33 x34 x35 x36 x37 x38 x39 x40 : Value) (rb : Nat) (w : World) : Prop where
  q1 : d 1 = true → d 0 = true
  q3 : d 3 = true → d 1 = true ∧ d 2 = true
  q4 : d 4 = true → d 3 = true
  q6 : d 6 = true → d 5 = true
  q8 : d 8 = true → d 6 = true ∧ d 7 = true
  q9 : d 9 = true → d 8 = true
  q10 : d 10 = true → d 4 = true ∧ d 9 = true
  q11 : d 11 = true → d 0 = true ∧ d 1 = true ∧ d 2 = true ∧ d 3 = true ∧ d 4 = true ∧ d 5 = true ∧ d 6 = true ∧ d 7 = true ∧ d 8 = true ∧ d 9 = true ∧ d 10 = true
  q12 : d 12 = true → d 0 = true ∧ d 1 = true ∧ d 2 = true ∧ d 3 = true ∧ d 4 = true ∧ d 5 = true ∧ d 6 = true ∧ d 7 = true ∧ d 8 = true ∧ d 9 = true ∧ d 10 = true ∧ d 11 = true
  f0 : d 0 = true → x29 = .pointer (some ⟨bx, 0, none⟩)
  f1 : d 1 = true → x30 = .slice (some ⟨b, off, none⟩) p.cards.length cap
  f2 : d 2 = true → x31 = .int .i64 kf
  f3 : d 3 = true → x32 = .pointer (some ⟨b, off + kf * 5, none⟩)
  f4 : d 4 = true → x33 = (gp p.cards kf).v
  f5 : d 5 = true → x34 = .pointer (some ⟨bx, 0, none⟩)
  f6 : d 6 = true → x35 = .slice (some ⟨b, off, none⟩) p.cards.length cap
  f7 : d 7 = true → x36 = .int .i64 kc
  f8 : d 8 = true → x37 = .pointer (some ⟨b, off + kc * 5, none⟩)
  f9 : d 9 = true → x38 = (gp p.cards kc).v
  f10 : d 10 = true → x39 = .slice (some ⟨rb, 0, none⟩) 2 2
  f11 : d 11 = true → x40 = .pointer (some ⟨by_, 0, none⟩)
  st0 : d 10 = false → S0 w
  st1 : d 10 = true → d 12 = false → S1 rb w
  st2 : d 12 = true → S2 rb w
noncomputable def rfit5C : Code := (Try.f35.body.bind (regionAt 5)).getD .skip
set_option maxRecDepth 100000 in
set_option maxHeartbeats 4000000 in
theorem rfit5 {p : Prs} {b : Nat} {off : Nat} {cap : Nat} {bx : Nat} {by_ : Nat} {kc : Nat} {kf : Nat} {S0 : World → Prop} {S1 : Nat → World → Prop} {S2 : Nat → World → Prop} {Q : Exit → Act → World → Prop} {W1 : World} (hkc : kc < p.cards.length) (hkf : kf < p.cards.length) (hn16 : p.cards.length ≤ 16) (h0 : S0 W1.drew)
    (kl1 : Hid (∀ (w : World), (S0 w) → w.cell? ⟨bx, 0, none⟩ = some (.slice (some ⟨b, off, none⟩) p.cards.length cap)))
    (kl4 : Hid (∀ (w : World), (S0 w) → w.cell? ⟨b, off + kf * 5, none⟩ = some (.int .i64 (gp p.cards kf).slo) ∧ w.cell? ⟨b, off + kf * 5 + 1, none⟩ = some (.int .i64 (gp p.cards kf).shi) ∧ w.cell? ⟨b, off + kf * 5 + 2, none⟩ = some (.int .i64 (gp p.cards kf).wlo) ∧ w.cell? ⟨b, off + kf * 5 + 3, none⟩ = some (.int .i64 (gp p.cards kf).whi) ∧ w.cell? ⟨b, off + kf * 5 + 4, none⟩ = some (.int .i64 (gp p.cards kf).marks)))
    (kl6 : Hid (∀ (w : World), (S0 w) → w.cell? ⟨bx, 0, none⟩ = some (.slice (some ⟨b, off, none⟩) p.cards.length cap)))
    (kl9 : Hid (∀ (w : World), (S0 w) → w.cell? ⟨b, off + kc * 5, none⟩ = some (.int .i64 (gp p.cards kc).slo) ∧ w.cell? ⟨b, off + kc * 5 + 1, none⟩ = some (.int .i64 (gp p.cards kc).shi) ∧ w.cell? ⟨b, off + kc * 5 + 2, none⟩ = some (.int .i64 (gp p.cards kc).wlo) ∧ w.cell? ⟨b, off + kc * 5 + 3, none⟩ = some (.int .i64 (gp p.cards kc).whi) ∧ w.cell? ⟨b, off + kc * 5 + 4, none⟩ = some (.int .i64 (gp p.cards kc).marks)))
    (kc10 : Hid (∀ (w : World), S0 w → S1 w.heap.size (w.alloc (.cells #[.int .i64 (gp p.cards kf).slo, .int .i64 (gp p.cards kf).shi, .int .i64 (gp p.cards kf).wlo, .int .i64 (gp p.cards kf).whi, .int .i64 (gp p.cards kf).marks, .int .i64 (gp p.cards kc).slo, .int .i64 (gp p.cards kc).shi, .int .i64 (gp p.cards kc).wlo, .int .i64 (gp p.cards kc).whi, .int .i64 (gp p.cards kc).marks] 54))))
    (kc12 : Hid (∀ (rb : Nat) (w : World), S1 rb w → (∃ u, w.cell? ⟨by_, 0, none⟩ = some u) ∧ w.frozen? ⟨by_, 0, none⟩ = false ∧ S2 rb (w.setCell ⟨by_, 0, none⟩ (.slice (some ⟨rb, 0, none⟩) 2 2))))
    {s0 s4 s5 s6 s7 s8 s10 s11 s12 s13 s14 s15 s16 s17 s18 s19 s20 s21 s22 s23 s24 s25 s26 s27 s28 s29 s30 s31 s32 s33 s34 s35 s36 s37 s38 s39 s40 s41 s42 s43 : Value} {dd : List Deferred}
    (hQ : ∀ (rb : Nat) (w' : World), S2 rb w' → Q .normal { tmps := #[s0, .int .i64 kc, .int .i64 kf, .pointer (some ⟨bx, 0, none⟩), s4, s5, s6, s7, s8, .pointer (some ⟨by_, 0, none⟩), s10, s11, s12, s13, s14, s15, s16, s17, s18, s19, s20, s21, s22, s23, s24, s25, s26, s27, s28, .pointer (some ⟨bx, 0, none⟩), .slice (some ⟨b, off, none⟩) p.cards.length cap, .int .i64 kf, .pointer (some ⟨b, off + kf * 5, none⟩), (gp p.cards kf).v, .pointer (some ⟨bx, 0, none⟩), .slice (some ⟨b, off, none⟩) p.cards.length cap, .int .i64 kc, .pointer (some ⟨b, off + kc * 5, none⟩), (gp p.cards kc).v, .slice (some ⟨rb, 0, none⟩) 2 2, .pointer (some ⟨by_, 0, none⟩), s41, s42, s43], defers := dd } w') :
    Code.wpIn (wideAt none) 0 Try.prog rfit5C Q { tmps := #[s0, .int .i64 kc, .int .i64 kf, .pointer (some ⟨bx, 0, none⟩), s4, s5, s6, s7, s8, .pointer (some ⟨by_, 0, none⟩), s10, s11, s12, s13, s14, s15, s16, s17, s18, s19, s20, s21, s22, s23, s24, s25, s26, s27, s28, s29, s30, s31, s32, s33, s34, s35, s36, s37, s38, s39, s40, s41, s42, s43], defers := dd } W1 := by
  have HQ := Lib.hid hQ
  clear hQ
  conv => arg 4; whnf
  refine wpIn_region_invG mixed (by kernel_rfl) (fun d_ a_ w' => ∃ (x29 : Value) (x30 : Value) (x31 : Value) (x32 : Value) (x33 : Value) (x34 : Value) (x35 : Value) (x36 : Value) (x37 : Value) (x38 : Value) (x39 : Value) (x40 : Value) (rb : Nat), a_ = { tmps := #[s0, .int .i64 kc, .int .i64 kf, .pointer (some ⟨bx, 0, none⟩), s4, s5, s6, s7, s8, .pointer (some ⟨by_, 0, none⟩), s10, s11, s12, s13, s14, s15, s16, s17, s18, s19, s20, s21, s22, s23, s24, s25, s26, s27, s28, x29, x30, x31, x32, x33, x34, x35, x36, x37, x38, x39, x40, s41, s42, s43], defers := dd } ∧ rfit5F p b off cap bx by_ kc kf S0 S1 S2 d_ x29 x30 x31 x32 x33 x34 x35 x36 x37 x38 x39 x40 rb w') ?_ ?_ ?_
  · refine ⟨s29, s30, s31, s32, s33, s34, s35, s36, s37, s38, s39, s40, 0, rfl, ?_⟩
    constructor <;> first | rfl | (intro _; rfl) | (intro h; cases h; done) | (intro _; exact h0) | exact h0
  · refine ⟨?_, ?_, ?_, ?_, ?_, ?_, ?_, ?_, ?_, ?_, ?_, ?_, ?_, trivial⟩
    all_goals
      rintro d_ a_ w1 K hd_ hdep ⟨x29, x30, x31, x32, x33, x34, x35, x36, x37, x38, x39, x40, rb, rfl, F⟩ HK
      simp [Region.binds] at hdep
    · have HF : Hid (rfit5F p b off cap bx by_ kc kf S0 S1 S2 (upd d_ 0) (.pointer (some ⟨bx, 0, none⟩)) x30 x31 x32 x33 x34 x35 x36 x37 x38 x39 x40 rb w1) := ⟨fun h => rfl, F.q3, F.q4, F.q6, F.q8, F.q9, F.q10, fun h => ⟨rfl, (F.q11 h).2.1, (F.q11 h).2.2.1, (F.q11 h).2.2.2.1, (F.q11 h).2.2.2.2.1, (F.q11 h).2.2.2.2.2.1, (F.q11 h).2.2.2.2.2.2.1, (F.q11 h).2.2.2.2.2.2.2.1, (F.q11 h).2.2.2.2.2.2.2.2.1, (F.q11 h).2.2.2.2.2.2.2.2.2.1, (F.q11 h).2.2.2.2.2.2.2.2.2.2⟩, fun h => ⟨rfl, (F.q12 h).2.1, (F.q12 h).2.2.1, (F.q12 h).2.2.2.1, (F.q12 h).2.2.2.2.1, (F.q12 h).2.2.2.2.2.1, (F.q12 h).2.2.2.2.2.2.1, (F.q12 h).2.2.2.2.2.2.2.1, (F.q12 h).2.2.2.2.2.2.2.2.1, (F.q12 h).2.2.2.2.2.2.2.2.2.1, (F.q12 h).2.2.2.2.2.2.2.2.2.2.1, (F.q12 h).2.2.2.2.2.2.2.2.2.2.2⟩, fun _ => rfl, F.f1, F.f2, F.f3, F.f4, F.f5, F.f6, F.f7, F.f8, F.f9, F.f10, F.f11, F.st0, F.st1, F.st2⟩
      clear F
      go_simp
      exact HK.out _ _ ⟨_, _, _, _, _, _, _, _, _, _, _, _, _, rfl, HF.out⟩
    · have hst : S0 w1 := by
        have n_ : d_ 10 = false := by
          cases e_ : d_ 10 with
          | false => rfl
          | true => have h2 := (F.q3 (F.q4 (F.q10 e_).1)).1; rw [show d_ 1 = false from hd_] at h2; cases h2
        exact (F.st0 n_)
      have kk := kl1.out w1 hst
      clear hst
      obtain rfl := F.f0 (by simp [hdep])
      have HF : Hid (rfit5F p b off cap bx by_ kc kf S0 S1 S2 (upd d_ 1) (.pointer (some ⟨bx, 0, none⟩)) (.slice (some ⟨b, off, none⟩) p.cards.length cap) x31 x32 x33 x34 x35 x36 x37 x38 x39 x40 rb w1) := ⟨fun _ => (show _ from (by simp [hdep] : d_ 0 = true)), fun h => ⟨rfl, (F.q3 h).2⟩, F.q4, F.q6, F.q8, F.q9, F.q10, fun h => ⟨(F.q11 h).1, rfl, (F.q11 h).2.2.1, (F.q11 h).2.2.2.1, (F.q11 h).2.2.2.2.1, (F.q11 h).2.2.2.2.2.1, (F.q11 h).2.2.2.2.2.2.1, (F.q11 h).2.2.2.2.2.2.2.1, (F.q11 h).2.2.2.2.2.2.2.2.1, (F.q11 h).2.2.2.2.2.2.2.2.2.1, (F.q11 h).2.2.2.2.2.2.2.2.2.2⟩, fun h => ⟨(F.q12 h).1, rfl, (F.q12 h).2.2.1, (F.q12 h).2.2.2.1, (F.q12 h).2.2.2.2.1, (F.q12 h).2.2.2.2.2.1, (F.q12 h).2.2.2.2.2.2.1, (F.q12 h).2.2.2.2.2.2.2.1, (F.q12 h).2.2.2.2.2.2.2.2.1, (F.q12 h).2.2.2.2.2.2.2.2.2.1, (F.q12 h).2.2.2.2.2.2.2.2.2.2.1, (F.q12 h).2.2.2.2.2.2.2.2.2.2.2⟩, F.f0, fun _ => rfl, F.f2, F.f3, F.f4, F.f5, F.f6, F.f7, F.f8, F.f9, F.f10, F.f11, F.st0, F.st1, F.st2⟩
      clear F
      go_simp
      exact HK.out _ _ ⟨_, _, _, _, _, _, _, _, _, _, _, _, _, rfl, HF.out⟩
    · have HF : Hid (rfit5F p b off cap bx by_ kc kf S0 S1 S2 (upd d_ 2) x29 x30 (.int .i64 kf) x32 x33 x34 x35 x36 x37 x38 x39 x40 rb w1) := ⟨F.q1, fun h => ⟨(F.q3 h).1, rfl⟩, F.q4, F.q6, F.q8, F.q9, F.q10, fun h => ⟨(F.q11 h).1, (F.q11 h).2.1, rfl, (F.q11 h).2.2.2.1, (F.q11 h).2.2.2.2.1, (F.q11 h).2.2.2.2.2.1, (F.q11 h).2.2.2.2.2.2.1, (F.q11 h).2.2.2.2.2.2.2.1, (F.q11 h).2.2.2.2.2.2.2.2.1, (F.q11 h).2.2.2.2.2.2.2.2.2.1, (F.q11 h).2.2.2.2.2.2.2.2.2.2⟩, fun h => ⟨(F.q12 h).1, (F.q12 h).2.1, rfl, (F.q12 h).2.2.2.1, (F.q12 h).2.2.2.2.1, (F.q12 h).2.2.2.2.2.1, (F.q12 h).2.2.2.2.2.2.1, (F.q12 h).2.2.2.2.2.2.2.1, (F.q12 h).2.2.2.2.2.2.2.2.1, (F.q12 h).2.2.2.2.2.2.2.2.2.1, (F.q12 h).2.2.2.2.2.2.2.2.2.2.1, (F.q12 h).2.2.2.2.2.2.2.2.2.2.2⟩, F.f0, F.f1, fun _ => rfl, F.f3, F.f4, F.f5, F.f6, F.f7, F.f8, F.f9, F.f10, F.f11, F.st0, F.st1, F.st2⟩
      clear F
      go_simp
      exact HK.out _ _ ⟨_, _, _, _, _, _, _, _, _, _, _, _, _, rfl, HF.out⟩
    · obtain rfl := F.f1 (by simp [hdep])
      obtain rfl := F.f2 (by simp [hdep])
      have HF : Hid (rfit5F p b off cap bx by_ kc kf S0 S1 S2 (upd d_ 3) x29 (.slice (some ⟨b, off, none⟩) p.cards.length cap) (.int .i64 kf) (.pointer (some ⟨b, off + kf * 5, none⟩)) x33 x34 x35 x36 x37 x38 x39 x40 rb w1) := ⟨F.q1, fun _ => ⟨(show _ from (by simp [hdep] : d_ 1 = true)), (show _ from (by simp [hdep] : d_ 2 = true))⟩, fun h => rfl, F.q6, F.q8, F.q9, F.q10, fun h => ⟨(F.q11 h).1, (F.q11 h).2.1, (F.q11 h).2.2.1, rfl, (F.q11 h).2.2.2.2.1, (F.q11 h).2.2.2.2.2.1, (F.q11 h).2.2.2.2.2.2.1, (F.q11 h).2.2.2.2.2.2.2.1, (F.q11 h).2.2.2.2.2.2.2.2.1, (F.q11 h).2.2.2.2.2.2.2.2.2.1, (F.q11 h).2.2.2.2.2.2.2.2.2.2⟩, fun h => ⟨(F.q12 h).1, (F.q12 h).2.1, (F.q12 h).2.2.1, rfl, (F.q12 h).2.2.2.2.1, (F.q12 h).2.2.2.2.2.1, (F.q12 h).2.2.2.2.2.2.1, (F.q12 h).2.2.2.2.2.2.2.1, (F.q12 h).2.2.2.2.2.2.2.2.1, (F.q12 h).2.2.2.2.2.2.2.2.2.1, (F.q12 h).2.2.2.2.2.2.2.2.2.2.1, (F.q12 h).2.2.2.2.2.2.2.2.2.2.2⟩, F.f0, F.f1, F.f2, fun _ => rfl, F.f4, F.f5, F.f6, F.f7, F.f8, F.f9, F.f10, F.f11, F.st0, F.st1, F.st2⟩
      clear F
      go_simp
      exact HK.out _ _ ⟨_, _, _, _, _, _, _, _, _, _, _, _, _, rfl, HF.out⟩
    · have hst : S0 w1 := by
        have n_ : d_ 10 = false := by
          cases e_ : d_ 10 with
          | false => rfl
          | true => have h2 := (F.q10 e_).1; rw [show d_ 4 = false from hd_] at h2; cases h2
        exact (F.st0 n_)
      have kk := kl4.out w1 hst
      obtain ⟨kk0, kk1, kk2, kk3, kk4⟩ := kk
      clear hst
      obtain rfl := F.f3 (by simp [hdep])
      have HF : Hid (rfit5F p b off cap bx by_ kc kf S0 S1 S2 (upd d_ 4) x29 x30 x31 (.pointer (some ⟨b, off + kf * 5, none⟩)) ((gp p.cards kf).v) x34 x35 x36 x37 x38 x39 x40 rb w1) := ⟨F.q1, F.q3, fun _ => (show _ from (by simp [hdep] : d_ 3 = true)), F.q6, F.q8, F.q9, fun h => ⟨rfl, (F.q10 h).2⟩, fun h => ⟨(F.q11 h).1, (F.q11 h).2.1, (F.q11 h).2.2.1, (F.q11 h).2.2.2.1, rfl, (F.q11 h).2.2.2.2.2.1, (F.q11 h).2.2.2.2.2.2.1, (F.q11 h).2.2.2.2.2.2.2.1, (F.q11 h).2.2.2.2.2.2.2.2.1, (F.q11 h).2.2.2.2.2.2.2.2.2.1, (F.q11 h).2.2.2.2.2.2.2.2.2.2⟩, fun h => ⟨(F.q12 h).1, (F.q12 h).2.1, (F.q12 h).2.2.1, (F.q12 h).2.2.2.1, rfl, (F.q12 h).2.2.2.2.2.1, (F.q12 h).2.2.2.2.2.2.1, (F.q12 h).2.2.2.2.2.2.2.1, (F.q12 h).2.2.2.2.2.2.2.2.1, (F.q12 h).2.2.2.2.2.2.2.2.2.1, (F.q12 h).2.2.2.2.2.2.2.2.2.2.1, (F.q12 h).2.2.2.2.2.2.2.2.2.2.2⟩, F.f0, F.f1, F.f2, F.f3, fun _ => rfl, F.f5, F.f6, F.f7, F.f8, F.f9, F.f10, F.f11, F.st0, F.st1, F.st2⟩
      clear F
      go_simp
      exact HK.out _ _ ⟨_, _, _, _, _, _, _, _, _, _, _, _, _, rfl, HF.out⟩
    · have HF : Hid (rfit5F p b off cap bx by_ kc kf S0 S1 S2 (upd d_ 5) x29 x30 x31 x32 x33 (.pointer (some ⟨bx, 0, none⟩)) x35 x36 x37 x38 x39 x40 rb w1) := ⟨F.q1, F.q3, F.q4, fun h => rfl, F.q8, F.q9, F.q10, fun h => ⟨(F.q11 h).1, (F.q11 h).2.1, (F.q11 h).2.2.1, (F.q11 h).2.2.2.1, (F.q11 h).2.2.2.2.1, rfl, (F.q11 h).2.2.2.2.2.2.1, (F.q11 h).2.2.2.2.2.2.2.1, (F.q11 h).2.2.2.2.2.2.2.2.1, (F.q11 h).2.2.2.2.2.2.2.2.2.1, (F.q11 h).2.2.2.2.2.2.2.2.2.2⟩, fun h => ⟨(F.q12 h).1, (F.q12 h).2.1, (F.q12 h).2.2.1, (F.q12 h).2.2.2.1, (F.q12 h).2.2.2.2.1, rfl, (F.q12 h).2.2.2.2.2.2.1, (F.q12 h).2.2.2.2.2.2.2.1, (F.q12 h).2.2.2.2.2.2.2.2.1, (F.q12 h).2.2.2.2.2.2.2.2.2.1, (F.q12 h).2.2.2.2.2.2.2.2.2.2.1, (F.q12 h).2.2.2.2.2.2.2.2.2.2.2⟩, F.f0, F.f1, F.f2, F.f3, F.f4, fun _ => rfl, F.f6, F.f7, F.f8, F.f9, F.f10, F.f11, F.st0, F.st1, F.st2⟩
      clear F
      go_simp
      exact HK.out _ _ ⟨_, _, _, _, _, _, _, _, _, _, _, _, _, rfl, HF.out⟩
    · have hst : S0 w1 := by
        have n_ : d_ 10 = false := by
          cases e_ : d_ 10 with
          | false => rfl
          | true => have h2 := (F.q8 (F.q9 (F.q10 e_).2)).1; rw [show d_ 6 = false from hd_] at h2; cases h2
        exact (F.st0 n_)
      have kk := kl6.out w1 hst
      clear hst
      obtain rfl := F.f5 (by simp [hdep])
      have HF : Hid (rfit5F p b off cap bx by_ kc kf S0 S1 S2 (upd d_ 6) x29 x30 x31 x32 x33 (.pointer (some ⟨bx, 0, none⟩)) (.slice (some ⟨b, off, none⟩) p.cards.length cap) x36 x37 x38 x39 x40 rb w1) := ⟨F.q1, F.q3, F.q4, fun _ => (show _ from (by simp [hdep] : d_ 5 = true)), fun h => ⟨rfl, (F.q8 h).2⟩, F.q9, F.q10, fun h => ⟨(F.q11 h).1, (F.q11 h).2.1, (F.q11 h).2.2.1, (F.q11 h).2.2.2.1, (F.q11 h).2.2.2.2.1, (F.q11 h).2.2.2.2.2.1, rfl, (F.q11 h).2.2.2.2.2.2.2.1, (F.q11 h).2.2.2.2.2.2.2.2.1, (F.q11 h).2.2.2.2.2.2.2.2.2.1, (F.q11 h).2.2.2.2.2.2.2.2.2.2⟩, fun h => ⟨(F.q12 h).1, (F.q12 h).2.1, (F.q12 h).2.2.1, (F.q12 h).2.2.2.1, (F.q12 h).2.2.2.2.1, (F.q12 h).2.2.2.2.2.1, rfl, (F.q12 h).2.2.2.2.2.2.2.1, (F.q12 h).2.2.2.2.2.2.2.2.1, (F.q12 h).2.2.2.2.2.2.2.2.2.1, (F.q12 h).2.2.2.2.2.2.2.2.2.2.1, (F.q12 h).2.2.2.2.2.2.2.2.2.2.2⟩, F.f0, F.f1, F.f2, F.f3, F.f4, F.f5, fun _ => rfl, F.f7, F.f8, F.f9, F.f10, F.f11, F.st0, F.st1, F.st2⟩
      clear F
      go_simp
      exact HK.out _ _ ⟨_, _, _, _, _, _, _, _, _, _, _, _, _, rfl, HF.out⟩
    · have HF : Hid (rfit5F p b off cap bx by_ kc kf S0 S1 S2 (upd d_ 7) x29 x30 x31 x32 x33 x34 x35 (.int .i64 kc) x37 x38 x39 x40 rb w1) := ⟨F.q1, F.q3, F.q4, F.q6, fun h => ⟨(F.q8 h).1, rfl⟩, F.q9, F.q10, fun h => ⟨(F.q11 h).1, (F.q11 h).2.1, (F.q11 h).2.2.1, (F.q11 h).2.2.2.1, (F.q11 h).2.2.2.2.1, (F.q11 h).2.2.2.2.2.1, (F.q11 h).2.2.2.2.2.2.1, rfl, (F.q11 h).2.2.2.2.2.2.2.2.1, (F.q11 h).2.2.2.2.2.2.2.2.2.1, (F.q11 h).2.2.2.2.2.2.2.2.2.2⟩, fun h => ⟨(F.q12 h).1, (F.q12 h).2.1, (F.q12 h).2.2.1, (F.q12 h).2.2.2.1, (F.q12 h).2.2.2.2.1, (F.q12 h).2.2.2.2.2.1, (F.q12 h).2.2.2.2.2.2.1, rfl, (F.q12 h).2.2.2.2.2.2.2.2.1, (F.q12 h).2.2.2.2.2.2.2.2.2.1, (F.q12 h).2.2.2.2.2.2.2.2.2.2.1, (F.q12 h).2.2.2.2.2.2.2.2.2.2.2⟩, F.f0, F.f1, F.f2, F.f3, F.f4, F.f5, F.f6, fun _ => rfl, F.f8, F.f9, F.f10, F.f11, F.st0, F.st1, F.st2⟩
      clear F
      go_simp
      exact HK.out _ _ ⟨_, _, _, _, _, _, _, _, _, _, _, _, _, rfl, HF.out⟩
    · obtain rfl := F.f6 (by simp [hdep])
      obtain rfl := F.f7 (by simp [hdep])
      have HF : Hid (rfit5F p b off cap bx by_ kc kf S0 S1 S2 (upd d_ 8) x29 x30 x31 x32 x33 x34 (.slice (some ⟨b, off, none⟩) p.cards.length cap) (.int .i64 kc) (.pointer (some ⟨b, off + kc * 5, none⟩)) x38 x39 x40 rb w1) := ⟨F.q1, F.q3, F.q4, F.q6, fun _ => ⟨(show _ from (by simp [hdep] : d_ 6 = true)), (show _ from (by simp [hdep] : d_ 7 = true))⟩, fun h => rfl, F.q10, fun h => ⟨(F.q11 h).1, (F.q11 h).2.1, (F.q11 h).2.2.1, (F.q11 h).2.2.2.1, (F.q11 h).2.2.2.2.1, (F.q11 h).2.2.2.2.2.1, (F.q11 h).2.2.2.2.2.2.1, (F.q11 h).2.2.2.2.2.2.2.1, rfl, (F.q11 h).2.2.2.2.2.2.2.2.2.1, (F.q11 h).2.2.2.2.2.2.2.2.2.2⟩, fun h => ⟨(F.q12 h).1, (F.q12 h).2.1, (F.q12 h).2.2.1, (F.q12 h).2.2.2.1, (F.q12 h).2.2.2.2.1, (F.q12 h).2.2.2.2.2.1, (F.q12 h).2.2.2.2.2.2.1, (F.q12 h).2.2.2.2.2.2.2.1, rfl, (F.q12 h).2.2.2.2.2.2.2.2.2.1, (F.q12 h).2.2.2.2.2.2.2.2.2.2.1, (F.q12 h).2.2.2.2.2.2.2.2.2.2.2⟩, F.f0, F.f1, F.f2, F.f3, F.f4, F.f5, F.f6, F.f7, fun _ => rfl, F.f9, F.f10, F.f11, F.st0, F.st1, F.st2⟩
      clear F
      go_simp
      exact HK.out _ _ ⟨_, _, _, _, _, _, _, _, _, _, _, _, _, rfl, HF.out⟩
    · have hst : S0 w1 := by
        have n_ : d_ 10 = false := by
          cases e_ : d_ 10 with
          | false => rfl
          | true => have h2 := (F.q10 e_).2; rw [show d_ 9 = false from hd_] at h2; cases h2
        exact (F.st0 n_)
      have kk := kl9.out w1 hst
      obtain ⟨kk0, kk1, kk2, kk3, kk4⟩ := kk
      clear hst
      obtain rfl := F.f8 (by simp [hdep])
      have HF : Hid (rfit5F p b off cap bx by_ kc kf S0 S1 S2 (upd d_ 9) x29 x30 x31 x32 x33 x34 x35 x36 (.pointer (some ⟨b, off + kc * 5, none⟩)) ((gp p.cards kc).v) x39 x40 rb w1) := ⟨F.q1, F.q3, F.q4, F.q6, F.q8, fun _ => (show _ from (by simp [hdep] : d_ 8 = true)), fun h => ⟨(F.q10 h).1, rfl⟩, fun h => ⟨(F.q11 h).1, (F.q11 h).2.1, (F.q11 h).2.2.1, (F.q11 h).2.2.2.1, (F.q11 h).2.2.2.2.1, (F.q11 h).2.2.2.2.2.1, (F.q11 h).2.2.2.2.2.2.1, (F.q11 h).2.2.2.2.2.2.2.1, (F.q11 h).2.2.2.2.2.2.2.2.1, rfl, (F.q11 h).2.2.2.2.2.2.2.2.2.2⟩, fun h => ⟨(F.q12 h).1, (F.q12 h).2.1, (F.q12 h).2.2.1, (F.q12 h).2.2.2.1, (F.q12 h).2.2.2.2.1, (F.q12 h).2.2.2.2.2.1, (F.q12 h).2.2.2.2.2.2.1, (F.q12 h).2.2.2.2.2.2.2.1, (F.q12 h).2.2.2.2.2.2.2.2.1, rfl, (F.q12 h).2.2.2.2.2.2.2.2.2.2.1, (F.q12 h).2.2.2.2.2.2.2.2.2.2.2⟩, F.f0, F.f1, F.f2, F.f3, F.f4, F.f5, F.f6, F.f7, F.f8, fun _ => rfl, F.f10, F.f11, F.st0, F.st1, F.st2⟩
      clear F
      go_simp
      exact HK.out _ _ ⟨_, _, _, _, _, _, _, _, _, _, _, _, _, rfl, HF.out⟩
    · have hS := F.st0  hd_
      obtain rfl := F.f4 (by simp [hdep])
      obtain rfl := F.f9 (by simp [hdep])
      have hres := kc10.out w1 hS
      have HF : Hid (rfit5F p b off cap bx by_ kc kf S0 S1 S2 (upd d_ 10) x29 x30 x31 x32 ((gp p.cards kf).v) x34 x35 x36 x37 ((gp p.cards kc).v) ((.slice (some ⟨w1.heap.size, 0, none⟩) 2 2)) x40 w1.heap.size (w1.alloc (.cells #[.int .i64 (gp p.cards kf).slo, .int .i64 (gp p.cards kf).shi, .int .i64 (gp p.cards kf).wlo, .int .i64 (gp p.cards kf).whi, .int .i64 (gp p.cards kf).marks, .int .i64 (gp p.cards kc).slo, .int .i64 (gp p.cards kc).shi, .int .i64 (gp p.cards kc).wlo, .int .i64 (gp p.cards kc).whi, .int .i64 (gp p.cards kc).marks] 54))) := ⟨F.q1, F.q3, F.q4, F.q6, F.q8, F.q9, fun _ => ⟨(show _ from (by simp [hdep] : d_ 4 = true)), (show _ from (by simp [hdep] : d_ 9 = true))⟩, fun h => ⟨(F.q11 h).1, (F.q11 h).2.1, (F.q11 h).2.2.1, (F.q11 h).2.2.2.1, (F.q11 h).2.2.2.2.1, (F.q11 h).2.2.2.2.2.1, (F.q11 h).2.2.2.2.2.2.1, (F.q11 h).2.2.2.2.2.2.2.1, (F.q11 h).2.2.2.2.2.2.2.2.1, (F.q11 h).2.2.2.2.2.2.2.2.2.1, rfl⟩, fun h => ⟨(F.q12 h).1, (F.q12 h).2.1, (F.q12 h).2.2.1, (F.q12 h).2.2.2.1, (F.q12 h).2.2.2.2.1, (F.q12 h).2.2.2.2.2.1, (F.q12 h).2.2.2.2.2.2.1, (F.q12 h).2.2.2.2.2.2.2.1, (F.q12 h).2.2.2.2.2.2.2.2.1, (F.q12 h).2.2.2.2.2.2.2.2.2.1, rfl, (F.q12 h).2.2.2.2.2.2.2.2.2.2.2⟩, F.f0, F.f1, F.f2, F.f3, F.f4, F.f5, F.f6, F.f7, F.f8, F.f9, fun _ => rfl, F.f11, fun h => (by simp [upd] at h), fun _ _ => hres, fun h => (by have h2 : d_ 10 = true := (F.q12 h).2.2.2.2.2.2.2.2.2.2.1; rw [show d_ 10 = false from hd_] at h2; cases h2)⟩
      clear F hS hres
      go_simp
      exact HK.out _ _ ⟨_, _, _, _, _, _, _, _, _, _, _, _, _, rfl, HF.out⟩
    · have HF : Hid (rfit5F p b off cap bx by_ kc kf S0 S1 S2 (upd d_ 11) x29 x30 x31 x32 x33 x34 x35 x36 x37 x38 x39 (.pointer (some ⟨by_, 0, none⟩)) rb w1) := ⟨F.q1, F.q3, F.q4, F.q6, F.q8, F.q9, F.q10, fun _ => ⟨(show _ from (by simp [hdep] : d_ 0 = true)), (show _ from (by simp [hdep] : d_ 1 = true)), (show _ from (by simp [hdep] : d_ 2 = true)), (show _ from (by simp [hdep] : d_ 3 = true)), (show _ from (by simp [hdep] : d_ 4 = true)), (show _ from (by simp [hdep] : d_ 5 = true)), (show _ from (by simp [hdep] : d_ 6 = true)), (show _ from (by simp [hdep] : d_ 7 = true)), (show _ from (by simp [hdep] : d_ 8 = true)), (show _ from (by simp [hdep] : d_ 9 = true)), (show _ from (by simp [hdep] : d_ 10 = true))⟩, fun h => ⟨(F.q12 h).1, (F.q12 h).2.1, (F.q12 h).2.2.1, (F.q12 h).2.2.2.1, (F.q12 h).2.2.2.2.1, (F.q12 h).2.2.2.2.2.1, (F.q12 h).2.2.2.2.2.2.1, (F.q12 h).2.2.2.2.2.2.2.1, (F.q12 h).2.2.2.2.2.2.2.2.1, (F.q12 h).2.2.2.2.2.2.2.2.2.1, (F.q12 h).2.2.2.2.2.2.2.2.2.2.1, rfl⟩, F.f0, F.f1, F.f2, F.f3, F.f4, F.f5, F.f6, F.f7, F.f8, F.f9, F.f10, fun _ => rfl, F.st0, F.st1, F.st2⟩
      clear F
      go_simp
      exact HK.out _ _ ⟨_, _, _, _, _, _, _, _, _, _, _, _, _, rfl, HF.out⟩
    · have hS := F.st1 (by simp [hdep] : d_ 10 = true) hd_
      obtain rfl := F.f10 (by simp [hdep])
      obtain rfl := F.f11 (by simp [hdep])
      obtain ⟨⟨ku0, kcell0⟩, kfr0, hres⟩ := kc12.out rb w1 hS
      have HF : Hid (rfit5F p b off cap bx by_ kc kf S0 S1 S2 (upd d_ 12) x29 x30 x31 x32 x33 x34 x35 x36 x37 x38 (.slice (some ⟨rb, 0, none⟩) 2 2) (.pointer (some ⟨by_, 0, none⟩)) rb (w1.setCell ⟨by_, 0, none⟩ (.slice (some ⟨rb, 0, none⟩) 2 2))) := ⟨F.q1, F.q3, F.q4, F.q6, F.q8, F.q9, F.q10, F.q11, fun _ => ⟨(show _ from (by simp [hdep] : d_ 0 = true)), (show _ from (by simp [hdep] : d_ 1 = true)), (show _ from (by simp [hdep] : d_ 2 = true)), (show _ from (by simp [hdep] : d_ 3 = true)), (show _ from (by simp [hdep] : d_ 4 = true)), (show _ from (by simp [hdep] : d_ 5 = true)), (show _ from (by simp [hdep] : d_ 6 = true)), (show _ from (by simp [hdep] : d_ 7 = true)), (show _ from (by simp [hdep] : d_ 8 = true)), (show _ from (by simp [hdep] : d_ 9 = true)), (show _ from (by simp [hdep] : d_ 10 = true)), (show _ from (by simp [hdep] : d_ 11 = true))⟩, F.f0, F.f1, F.f2, F.f3, F.f4, F.f5, F.f6, F.f7, F.f8, F.f9, F.f10, F.f11, fun h => (by have h2 : d_ 10 = false := h; rw [(by simp [hdep] : d_ 10 = true)] at h2; cases h2), fun _ h => (by simp [upd] at h), fun _ => hres⟩
      clear F hS hres
      go_simp
      exact HK.out _ _ ⟨_, _, _, _, _, _, _, _, _, _, _, _, _, rfl, HF.out⟩
  · rintro d_ a_ w1 hall ⟨x29, x30, x31, x32, x33, x34, x35, x36, x37, x38, x39, x40, rb, rfl, F⟩
    have hall' : ∀ k, k < 13 → d_ k = true := hall
    obtain rfl := F.f0 (hall' 0 (by decide))
    obtain rfl := F.f1 (hall' 1 (by decide))
    obtain rfl := F.f2 (hall' 2 (by decide))
    obtain rfl := F.f3 (hall' 3 (by decide))
    obtain rfl := F.f4 (hall' 4 (by decide))
    obtain rfl := F.f5 (hall' 5 (by decide))
    obtain rfl := F.f6 (hall' 6 (by decide))
    obtain rfl := F.f7 (hall' 7 (by decide))
    obtain rfl := F.f8 (hall' 8 (by decide))
    obtain rfl := F.f9 (hall' 9 (by decide))
    obtain rfl := F.f10 (hall' 10 (by decide))
    obtain rfl := F.f11 (hall' 11 (by decide))
    have hst := F.st2 (hall' 12 (by decide))
    exact HQ.out rb w1 hst
end Go.Proofs.Ytnfhlbmapfoifaa
