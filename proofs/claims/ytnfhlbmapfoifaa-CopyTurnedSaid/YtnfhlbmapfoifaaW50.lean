/- The document's piles. The document's piles; what it fixes of them. -/
import Derived.Test.YtnfhlbmapfoifaaW48
namespace Go.Proofs.Ytnfhlbmapfoifaa
open Go.RowKit
set_option linter.unusedVariables false

structure pp2F (b2 : Nat) (g : Nat) (n : Nat) (S0 : World → Prop) (S1 : Unit → World → Prop) (S2 : Unit → Unit → World → Prop) (S3 : Unit → Unit → World → Prop) (d : Nat → Bool) (x9 x10 x11 x12 x13 x14 : Value) (u1 : Unit) (u2 : Unit) (w : World) : Prop where
  q2 : d 2 = true → d 0 = true ∧ d 1 = true
  q4 : d 4 = true → d 3 = true
  q5 : d 5 = true → d 2 = true ∧ d 3 = true ∧ d 4 = true
  q6 : d 6 = true → d 0 = true ∧ d 1 = true ∧ d 2 = true ∧ d 3 = true ∧ d 4 = true ∧ d 5 = true
  f0 : d 0 = true → x9 = .slice (some ⟨g, 0, none⟩) 4 4
  f1 : d 1 = true → x10 = .int .i64 n
  f2 : d 2 = true → x11 = .slice (some ⟨g, 0, none⟩) n 4
  f3 : d 3 = true → x12 = .agg #[.int .i64 3, .int .i64 5]
  f4 : d 4 = true → x13 = .agg #[.int .i64 10, .int .i64 20]
  f5 : d 5 = true → x14 = .agg #[.slice (some ⟨g, 0, none⟩) n 4, .int .i64 3, .int .i64 5, .int .i64 10, .int .i64 20]
  st0 : d 3 = false → S0 w
  st1 : d 3 = true → d 4 = false → S1 u1 w
  st2 : d 4 = true → d 6 = false → S2 u1 u2 w
  st3 : d 6 = true → S3 u1 u2 w
noncomputable def pp2C : Code := (Try.f39.body.bind (regionAt 2)).getD .skip
set_option maxRecDepth 100000 in
set_option maxHeartbeats 4000000 in
theorem pp2 {b2 : Nat} {g : Nat} {n : Nat} {S0 : World → Prop} {S1 : Unit → World → Prop} {S2 : Unit → Unit → World → Prop} {S3 : Unit → Unit → World → Prop} {Q : Exit → Act → World → Prop} {W1 : World} (hn : n ≤ 4) (h0 : S0 W1.drew)
    (kc3 : Hid (∀ (w : World), S0 w → Calls Try.prog 31 #[.int .i64 3, .int .i64 5] w fun e w' => ∃ u1 : Unit, e = .returned (.agg #[.int .i64 3, .int .i64 5]) ∧ S1 u1 w'))
    (kc4 : Hid (∀ (u1 : Unit) (w : World), S1 u1 w → Calls Try.prog 31 #[.int .i64 10, .int .i64 20] w fun e w' => ∃ u2 : Unit, e = .returned (.agg #[.int .i64 10, .int .i64 20]) ∧ S2 u1 u2 w'))
    (kc6 : Hid (∀ (u1 : Unit) (u2 : Unit) (w : World), S2 u1 u2 w → (∃ u, w.cell? ⟨b2, 0, none⟩ = some u) ∧ w.frozen? ⟨b2, 0, none⟩ = false ∧ (∃ u, w.cell? ⟨b2, 1, none⟩ = some u) ∧ w.frozen? ⟨b2, 1, none⟩ = false ∧ (∃ u, w.cell? ⟨b2, 2, none⟩ = some u) ∧ w.frozen? ⟨b2, 2, none⟩ = false ∧ (∃ u, w.cell? ⟨b2, 3, none⟩ = some u) ∧ w.frozen? ⟨b2, 3, none⟩ = false ∧ (∃ u, w.cell? ⟨b2, 4, none⟩ = some u) ∧ w.frozen? ⟨b2, 4, none⟩ = false ∧ S3 u1 u2 (((((w.setCell ⟨b2, 0, none⟩ (.slice (some ⟨g, 0, none⟩) n 4)).setCell ⟨b2, 1, none⟩ (.int .i64 3)).setCell ⟨b2, 2, none⟩ (.int .i64 5)).setCell ⟨b2, 3, none⟩ (.int .i64 10)).setCell ⟨b2, 4, none⟩ (.int .i64 20))))
    {s1 s4 s5 s6 s7 s8 s9 s10 s11 s12 s13 s14 : Value} {dd : List Deferred}
    (hQ : ∀ (u1 : Unit) (u2 : Unit) (w' : World), S3 u1 u2 w' → Q .normal { tmps := #[.int .i64 n, s1, .pointer (some ⟨b2, 0, none⟩), .slice (some ⟨g, 0, none⟩) 4 4, s4, s5, s6, s7, s8, .slice (some ⟨g, 0, none⟩) 4 4, .int .i64 n, .slice (some ⟨g, 0, none⟩) n 4, .agg #[.int .i64 3, .int .i64 5], .agg #[.int .i64 10, .int .i64 20], .agg #[.slice (some ⟨g, 0, none⟩) n 4, .int .i64 3, .int .i64 5, .int .i64 10, .int .i64 20]], defers := dd } w') :
    Code.wpIn (wideAt none) 0 Try.prog pp2C Q { tmps := #[.int .i64 n, s1, .pointer (some ⟨b2, 0, none⟩), .slice (some ⟨g, 0, none⟩) 4 4, s4, s5, s6, s7, s8, s9, s10, s11, s12, s13, s14], defers := dd } W1 := by
  have HQ := Lib.hid hQ
  clear hQ
  conv => arg 4; whnf
  refine wpIn_region_invG mixed (by kernel_rfl) (fun d_ a_ w' => ∃ (x9 : Value) (x10 : Value) (x11 : Value) (x12 : Value) (x13 : Value) (x14 : Value) (u1 : Unit) (u2 : Unit), a_ = { tmps := #[.int .i64 n, s1, .pointer (some ⟨b2, 0, none⟩), .slice (some ⟨g, 0, none⟩) 4 4, s4, s5, s6, s7, s8, x9, x10, x11, x12, x13, x14], defers := dd } ∧ pp2F b2 g n S0 S1 S2 S3 d_ x9 x10 x11 x12 x13 x14 u1 u2 w') ?_ ?_ ?_
  · refine ⟨s9, s10, s11, s12, s13, s14, default, default, rfl, ?_⟩
    constructor <;> first | rfl | (intro _; rfl) | (intro h; cases h; done) | (intro _; exact h0) | exact h0
  · refine ⟨?_, ?_, ?_, ?_, ?_, ?_, ?_, trivial⟩
    all_goals
      rintro d_ a_ w1 K hd_ hdep ⟨x9, x10, x11, x12, x13, x14, u1, u2, rfl, F⟩ HK
      simp [Region.binds] at hdep
    · have HF : Hid (pp2F b2 g n S0 S1 S2 S3 (upd d_ 0) (.slice (some ⟨g, 0, none⟩) 4 4) x10 x11 x12 x13 x14 u1 u2 w1) := ⟨fun h => ⟨rfl, (F.q2 h).2⟩, F.q4, F.q5, fun h => ⟨rfl, (F.q6 h).2.1, (F.q6 h).2.2.1, (F.q6 h).2.2.2.1, (F.q6 h).2.2.2.2.1, (F.q6 h).2.2.2.2.2⟩, fun _ => rfl, F.f1, F.f2, F.f3, F.f4, F.f5, F.st0, F.st1, F.st2, F.st3⟩
      clear F
      go_simp
      exact HK.out _ _ ⟨_, _, _, _, _, _, _, _, rfl, HF.out⟩
    · have HF : Hid (pp2F b2 g n S0 S1 S2 S3 (upd d_ 1) x9 (.int .i64 n) x11 x12 x13 x14 u1 u2 w1) := ⟨fun h => ⟨(F.q2 h).1, rfl⟩, F.q4, F.q5, fun h => ⟨(F.q6 h).1, rfl, (F.q6 h).2.2.1, (F.q6 h).2.2.2.1, (F.q6 h).2.2.2.2.1, (F.q6 h).2.2.2.2.2⟩, F.f0, fun _ => rfl, F.f2, F.f3, F.f4, F.f5, F.st0, F.st1, F.st2, F.st3⟩
      clear F
      go_simp
      exact HK.out _ _ ⟨_, _, _, _, _, _, _, _, rfl, HF.out⟩
    · obtain rfl := F.f0 (by simp [hdep])
      obtain rfl := F.f1 (by simp [hdep])
      have HF : Hid (pp2F b2 g n S0 S1 S2 S3 (upd d_ 2) (.slice (some ⟨g, 0, none⟩) 4 4) (.int .i64 n) (.slice (some ⟨g, 0, none⟩) n 4) x12 x13 x14 u1 u2 w1) := ⟨fun _ => ⟨(show _ from (by simp [hdep] : d_ 0 = true)), (show _ from (by simp [hdep] : d_ 1 = true))⟩, F.q4, fun h => ⟨rfl, (F.q5 h).2.1, (F.q5 h).2.2⟩, fun h => ⟨(F.q6 h).1, (F.q6 h).2.1, rfl, (F.q6 h).2.2.2.1, (F.q6 h).2.2.2.2.1, (F.q6 h).2.2.2.2.2⟩, F.f0, F.f1, fun _ => rfl, F.f3, F.f4, F.f5, F.st0, F.st1, F.st2, F.st3⟩
      clear F
      have hn0 : (0 : Int) ≤ (n : Int) := by omega
      have hn4 : (n : Int) ≤ 4 := by omega
      go_simp
      exact HK.out _ _ ⟨_, _, _, _, _, _, _, _, rfl, HF.out⟩
    · have hS := F.st0  hd_
      have hc := kc3.out w1 hS
      have HF := Lib.hid F
      clear F
      go_simp
      refine ⟨trivial, rfl, wideAt_calls (hc.mono ?_)⟩
      rintro e w5 ⟨v_, rfl, hres⟩
      exact HK.out _ _ ⟨_, _, _, _, _, _, v_, u2, rfl, ⟨HF.out.q2, fun h => rfl, fun h => ⟨(HF.out.q5 h).1, rfl, (HF.out.q5 h).2.2⟩, fun h => ⟨(HF.out.q6 h).1, (HF.out.q6 h).2.1, (HF.out.q6 h).2.2.1, rfl, (HF.out.q6 h).2.2.2.2.1, (HF.out.q6 h).2.2.2.2.2⟩, HF.out.f0, HF.out.f1, HF.out.f2, fun _ => rfl, HF.out.f4, HF.out.f5, fun h => (by simp [upd] at h), fun _ _ => hres, fun h _ => (by have h2 : d_ 3 = true := (HF.out.q4 h); rw [show d_ 3 = false from hd_] at h2; cases h2), fun h => (by have h2 : d_ 3 = true := (HF.out.q6 h).2.2.2.1; rw [show d_ 3 = false from hd_] at h2; cases h2)⟩⟩
    · have hS := F.st1 (by simp [hdep] : d_ 3 = true) hd_
      have hc := kc4.out u1 w1 hS
      have HF := Lib.hid F
      clear F
      go_simp
      refine ⟨trivial, rfl, wideAt_calls (hc.mono ?_)⟩
      rintro e w5 ⟨v_, rfl, hres⟩
      exact HK.out _ _ ⟨_, _, _, _, _, _, u1, v_, rfl, ⟨HF.out.q2, fun _ => (show _ from (by simp [hdep] : d_ 3 = true)), fun h => ⟨(HF.out.q5 h).1, (HF.out.q5 h).2.1, rfl⟩, fun h => ⟨(HF.out.q6 h).1, (HF.out.q6 h).2.1, (HF.out.q6 h).2.2.1, (HF.out.q6 h).2.2.2.1, rfl, (HF.out.q6 h).2.2.2.2.2⟩, HF.out.f0, HF.out.f1, HF.out.f2, HF.out.f3, fun _ => rfl, HF.out.f5, fun h => (by have h2 : d_ 3 = false := h; rw [(by simp [hdep] : d_ 3 = true)] at h2; cases h2), fun _ h => (by simp [upd] at h), fun _ _ => hres, fun h => (by have h2 : d_ 4 = true := (HF.out.q6 h).2.2.2.2.1; rw [show d_ 4 = false from hd_] at h2; cases h2)⟩⟩
    · obtain rfl := F.f2 (by simp [hdep])
      obtain rfl := F.f3 (by simp [hdep])
      obtain rfl := F.f4 (by simp [hdep])
      have HF : Hid (pp2F b2 g n S0 S1 S2 S3 (upd d_ 5) x9 x10 (.slice (some ⟨g, 0, none⟩) n 4) (.agg #[.int .i64 3, .int .i64 5]) (.agg #[.int .i64 10, .int .i64 20]) (.agg #[.slice (some ⟨g, 0, none⟩) n 4, .int .i64 3, .int .i64 5, .int .i64 10, .int .i64 20]) u1 u2 w1) := ⟨F.q2, F.q4, fun _ => ⟨(show _ from (by simp [hdep] : d_ 2 = true)), (show _ from (by simp [hdep] : d_ 3 = true)), (show _ from (by simp [hdep] : d_ 4 = true))⟩, fun h => ⟨(F.q6 h).1, (F.q6 h).2.1, (F.q6 h).2.2.1, (F.q6 h).2.2.2.1, (F.q6 h).2.2.2.2.1, rfl⟩, F.f0, F.f1, F.f2, F.f3, F.f4, fun _ => rfl, F.st0, F.st1, F.st2, F.st3⟩
      clear F
      go_simp
      exact HK.out _ _ ⟨_, _, _, _, _, _, _, _, rfl, HF.out⟩
    · have hS := F.st2 (by simp [hdep] : d_ 4 = true) hd_
      obtain rfl := F.f5 (by simp [hdep])
      obtain ⟨⟨ku0, kcell0⟩, kfr0, ⟨ku1, kcell1⟩, kfr1, ⟨ku2, kcell2⟩, kfr2, ⟨ku3, kcell3⟩, kfr3, ⟨ku4, kcell4⟩, kfr4, hres⟩ := kc6.out u1 u2 w1 hS
      have HF : Hid (pp2F b2 g n S0 S1 S2 S3 (upd d_ 6) x9 x10 x11 x12 x13 (.agg #[.slice (some ⟨g, 0, none⟩) n 4, .int .i64 3, .int .i64 5, .int .i64 10, .int .i64 20]) u1 u2 (((((w1.setCell ⟨b2, 0, none⟩ (.slice (some ⟨g, 0, none⟩) n 4)).setCell ⟨b2, 1, none⟩ (.int .i64 3)).setCell ⟨b2, 2, none⟩ (.int .i64 5)).setCell ⟨b2, 3, none⟩ (.int .i64 10)).setCell ⟨b2, 4, none⟩ (.int .i64 20))) := ⟨F.q2, F.q4, F.q5, fun _ => ⟨(show _ from (by simp [hdep] : d_ 0 = true)), (show _ from (by simp [hdep] : d_ 1 = true)), (show _ from (by simp [hdep] : d_ 2 = true)), (show _ from (by simp [hdep] : d_ 3 = true)), (show _ from (by simp [hdep] : d_ 4 = true)), (show _ from (by simp [hdep] : d_ 5 = true))⟩, F.f0, F.f1, F.f2, F.f3, F.f4, F.f5, fun h => (by have h2 : d_ 3 = false := h; rw [(by simp [hdep] : d_ 3 = true)] at h2; cases h2), fun _ h => (by have h2 : d_ 4 = false := h; rw [(by simp [hdep] : d_ 4 = true)] at h2; cases h2), fun _ h => (by simp [upd] at h), fun _ => hres⟩
      clear F hS hres
      go_simp
      exact HK.out _ _ ⟨_, _, _, _, _, _, _, _, rfl, HF.out⟩
  · rintro d_ a_ w1 hall ⟨x9, x10, x11, x12, x13, x14, u1, u2, rfl, F⟩
    have hall' : ∀ k, k < 7 → d_ k = true := hall
    obtain rfl := F.f0 (hall' 0 (by decide))
    obtain rfl := F.f1 (hall' 1 (by decide))
    obtain rfl := F.f2 (hall' 2 (by decide))
    obtain rfl := F.f3 (hall' 3 (by decide))
    obtain rfl := F.f4 (hall' 4 (by decide))
    obtain rfl := F.f5 (hall' 5 (by decide))
    have hst := F.st3 (hall' 6 (by decide))
    exact HQ.out u1 u2 w1 hst
structure pq2F (b0 : Nat) (b1 : Nat) (S0 : Bool → Nat → World → Prop) (S1 : Bool → Nat → Unit → World → Prop) (S2 : Bool → Nat → Unit → Unit → World → Prop) (S3 : Bool → Nat → Unit → Unit → World → Prop) (d : Nat → Bool) (x3 x4 x5 x6 x7 x8 x9 : Value) (ms : Nat) (u1 : Unit) (u2 : Unit) (w : World) : Prop where
  q3 : d 3 = true → d 0 = true ∧ d 1 = true ∧ d 2 = true
  q5 : d 5 = true → d 4 = true
  q6 : d 6 = true → d 3 = true ∧ d 4 = true ∧ d 5 = true
  q7 : d 7 = true → d 0 = true ∧ d 1 = true ∧ d 2 = true ∧ d 3 = true ∧ d 4 = true ∧ d 5 = true ∧ d 6 = true
  f0 : d 0 = true → x3 = .agg #[.int .i64 100, .int .i64 110, .int .i64 500, .int .i64 530, .int .i64 0]
  f1 : d 1 = true → x4 = .agg #[.int .i64 100, .int .i64 110, .int .i64 500, .int .i64 530, .int .i64 0]
  f2 : d 2 = true → x5 = .agg #[.int .i64 100, .int .i64 110, .int .i64 500, .int .i64 530, .int .i64 0]
  f3 : d 3 = true → x6 = .slice (some ⟨ms, 0, none⟩) 3 3
  f4 : d 4 = true → x7 = .agg #[.int .i64 0, .int .i64 5]
  f5 : d 5 = true → x8 = .agg #[.int .i64 0, .int .i64 10]
  f6 : d 6 = true → x9 = .agg #[.slice (some ⟨ms, 0, none⟩) 3 3, .int .i64 0, .int .i64 5, .int .i64 0, .int .i64 10]
  st0 : d 4 = false → S0 (d 3) ms w
  st1 : d 4 = true → d 5 = false → S1 (d 3) ms u1 w
  st2 : d 5 = true → d 7 = false → S2 (d 3) ms u1 u2 w
  st3 : d 7 = true → S3 (d 3) ms u1 u2 w
  mz : d 3 = false → ms = 0
noncomputable def pq2C : Code := (Try.f40.body.bind (regionAt 2)).getD .skip
set_option maxRecDepth 100000 in
set_option maxHeartbeats 4000000 in
theorem pq2 {b0 : Nat} {b1 : Nat} {S0 : Bool → Nat → World → Prop} {S1 : Bool → Nat → Unit → World → Prop} {S2 : Bool → Nat → Unit → Unit → World → Prop} {S3 : Bool → Nat → Unit → Unit → World → Prop} {Q : Exit → Act → World → Prop} {W1 : World} (h0 : S0 false 0 W1.drew)
    (kl0 : Hid (∀ (fs : Bool) (ms : Nat) (u1 : Unit) (u2 : Unit) (w : World), (S0 fs ms w ∨ S1 fs ms u1 w ∨ S2 fs ms u1 u2 w) → w.cell? ⟨b1, 0, none⟩ = some (.int .i64 100) ∧ w.cell? ⟨b1, 1, none⟩ = some (.int .i64 110) ∧ w.cell? ⟨b1, 2, none⟩ = some (.int .i64 500) ∧ w.cell? ⟨b1, 3, none⟩ = some (.int .i64 530) ∧ w.cell? ⟨b1, 4, none⟩ = some (.int .i64 0)))
    (kl1 : Hid (∀ (fs : Bool) (ms : Nat) (u1 : Unit) (u2 : Unit) (w : World), (S0 fs ms w ∨ S1 fs ms u1 w ∨ S2 fs ms u1 u2 w) → w.cell? ⟨b1, 0, none⟩ = some (.int .i64 100) ∧ w.cell? ⟨b1, 1, none⟩ = some (.int .i64 110) ∧ w.cell? ⟨b1, 2, none⟩ = some (.int .i64 500) ∧ w.cell? ⟨b1, 3, none⟩ = some (.int .i64 530) ∧ w.cell? ⟨b1, 4, none⟩ = some (.int .i64 0)))
    (kl2 : Hid (∀ (fs : Bool) (ms : Nat) (u1 : Unit) (u2 : Unit) (w : World), (S0 fs ms w ∨ S1 fs ms u1 w ∨ S2 fs ms u1 u2 w) → w.cell? ⟨b1, 0, none⟩ = some (.int .i64 100) ∧ w.cell? ⟨b1, 1, none⟩ = some (.int .i64 110) ∧ w.cell? ⟨b1, 2, none⟩ = some (.int .i64 500) ∧ w.cell? ⟨b1, 3, none⟩ = some (.int .i64 530) ∧ w.cell? ⟨b1, 4, none⟩ = some (.int .i64 0)))
    (ks0 : Hid (∀ (w : World), S0 false 0 w → S0 true w.heap.size (w.alloc (.cells #[.int .i64 100, .int .i64 110, .int .i64 500, .int .i64 530, .int .i64 0, .int .i64 100, .int .i64 110, .int .i64 500, .int .i64 530, .int .i64 0, .int .i64 100, .int .i64 110, .int .i64 500, .int .i64 530, .int .i64 0] 54))))
    (ks1 : Hid (∀ (u1 : Unit) (w : World), S1 false 0 u1 w → S1 true w.heap.size u1 (w.alloc (.cells #[.int .i64 100, .int .i64 110, .int .i64 500, .int .i64 530, .int .i64 0, .int .i64 100, .int .i64 110, .int .i64 500, .int .i64 530, .int .i64 0, .int .i64 100, .int .i64 110, .int .i64 500, .int .i64 530, .int .i64 0] 54))))
    (ks2 : Hid (∀ (u1 : Unit) (u2 : Unit) (w : World), S2 false 0 u1 u2 w → S2 true w.heap.size u1 u2 (w.alloc (.cells #[.int .i64 100, .int .i64 110, .int .i64 500, .int .i64 530, .int .i64 0, .int .i64 100, .int .i64 110, .int .i64 500, .int .i64 530, .int .i64 0, .int .i64 100, .int .i64 110, .int .i64 500, .int .i64 530, .int .i64 0] 54))))
    (kc4 : Hid (∀ (fs : Bool) (ms : Nat) (w : World), S0 fs ms w → Calls Try.prog 31 #[.int .i64 0, .int .i64 5] w fun e w' => ∃ u1 : Unit, e = .returned (.agg #[.int .i64 0, .int .i64 5]) ∧ S1 fs ms u1 w'))
    (kc5 : Hid (∀ (fs : Bool) (ms : Nat) (u1 : Unit) (w : World), S1 fs ms u1 w → Calls Try.prog 31 #[.int .i64 0, .int .i64 10] w fun e w' => ∃ u2 : Unit, e = .returned (.agg #[.int .i64 0, .int .i64 10]) ∧ S2 fs ms u1 u2 w'))
    (kc7 : Hid (∀ (ms : Nat) (u1 : Unit) (u2 : Unit) (w : World), S2 true ms u1 u2 w → (∃ u, w.cell? ⟨b0, 0, none⟩ = some u) ∧ w.frozen? ⟨b0, 0, none⟩ = false ∧ (∃ u, w.cell? ⟨b0, 1, none⟩ = some u) ∧ w.frozen? ⟨b0, 1, none⟩ = false ∧ (∃ u, w.cell? ⟨b0, 2, none⟩ = some u) ∧ w.frozen? ⟨b0, 2, none⟩ = false ∧ (∃ u, w.cell? ⟨b0, 3, none⟩ = some u) ∧ w.frozen? ⟨b0, 3, none⟩ = false ∧ (∃ u, w.cell? ⟨b0, 4, none⟩ = some u) ∧ w.frozen? ⟨b0, 4, none⟩ = false ∧ S3 true ms u1 u2 (((((w.setCell ⟨b0, 0, none⟩ (.slice (some ⟨ms, 0, none⟩) 3 3)).setCell ⟨b0, 1, none⟩ (.int .i64 0)).setCell ⟨b0, 2, none⟩ (.int .i64 5)).setCell ⟨b0, 3, none⟩ (.int .i64 0)).setCell ⟨b0, 4, none⟩ (.int .i64 10))))
    {s2 s3 s4 s5 s6 s7 s8 s9 : Value} {dd : List Deferred}
    (hQ : ∀ (ms : Nat) (u1 : Unit) (u2 : Unit) (w' : World), S3 true ms u1 u2 w' → Q .normal { tmps := #[.pointer (some ⟨b0, 0, none⟩), .pointer (some ⟨b1, 0, none⟩), s2, .agg #[.int .i64 100, .int .i64 110, .int .i64 500, .int .i64 530, .int .i64 0], .agg #[.int .i64 100, .int .i64 110, .int .i64 500, .int .i64 530, .int .i64 0], .agg #[.int .i64 100, .int .i64 110, .int .i64 500, .int .i64 530, .int .i64 0], .slice (some ⟨ms, 0, none⟩) 3 3, .agg #[.int .i64 0, .int .i64 5], .agg #[.int .i64 0, .int .i64 10], .agg #[.slice (some ⟨ms, 0, none⟩) 3 3, .int .i64 0, .int .i64 5, .int .i64 0, .int .i64 10]], defers := dd } w') :
    Code.wpIn (wideAt none) 0 Try.prog pq2C Q { tmps := #[.pointer (some ⟨b0, 0, none⟩), .pointer (some ⟨b1, 0, none⟩), s2, s3, s4, s5, s6, s7, s8, s9], defers := dd } W1 := by
  have HQ := Lib.hid hQ
  clear hQ
  conv => arg 4; whnf
  refine wpIn_region_invG mixed (by kernel_rfl) (fun d_ a_ w' => ∃ (x3 : Value) (x4 : Value) (x5 : Value) (x6 : Value) (x7 : Value) (x8 : Value) (x9 : Value) (ms : Nat) (u1 : Unit) (u2 : Unit), a_ = { tmps := #[.pointer (some ⟨b0, 0, none⟩), .pointer (some ⟨b1, 0, none⟩), s2, x3, x4, x5, x6, x7, x8, x9], defers := dd } ∧ pq2F b0 b1 S0 S1 S2 S3 d_ x3 x4 x5 x6 x7 x8 x9 ms u1 u2 w') ?_ ?_ ?_
  · refine ⟨s3, s4, s5, s6, s7, s8, s9, 0, default, default, rfl, ?_⟩
    constructor <;> first | rfl | (intro _; rfl) | (intro h; cases h; done) | (intro _; exact h0) | exact h0
  · refine ⟨?_, ?_, ?_, ?_, ?_, ?_, ?_, ?_, trivial⟩
    all_goals
      rintro d_ a_ w1 K hd_ hdep ⟨x3, x4, x5, x6, x7, x8, x9, ms, u1, u2, rfl, F⟩ HK
      simp [Region.binds] at hdep
    · have hst : S0 (d_ 3) ms w1 ∨ S1 (d_ 3) ms u1 w1 ∨ S2 (d_ 3) ms u1 u2 w1 := by
        cases e1 : d_ 4 with
        | false => exact .inl ((F.st0 e1))
        | true =>
          cases e2 : d_ 5 with
          | false => exact .inr (.inl ((F.st1 e1 e2)))
          | true =>
            have n_ : d_ 7 = false := by
              cases e_ : d_ 7 with
              | false => rfl
              | true => have h2 := (F.q7 e_).1; rw [show d_ 0 = false from hd_] at h2; cases h2
            exact .inr (.inr ((F.st2 e2 n_)))
      have kk := kl0.out (d_ 3) ms u1 u2 w1 hst
      obtain ⟨kk0, kk1, kk2, kk3, kk4⟩ := kk
      clear hst
      have HF : Hid (pq2F b0 b1 S0 S1 S2 S3 (upd d_ 0) (.agg #[.int .i64 100, .int .i64 110, .int .i64 500, .int .i64 530, .int .i64 0]) x4 x5 x6 x7 x8 x9 ms u1 u2 w1) := ⟨fun h => ⟨rfl, (F.q3 h).2.1, (F.q3 h).2.2⟩, F.q5, F.q6, fun h => ⟨rfl, (F.q7 h).2.1, (F.q7 h).2.2.1, (F.q7 h).2.2.2.1, (F.q7 h).2.2.2.2.1, (F.q7 h).2.2.2.2.2.1, (F.q7 h).2.2.2.2.2.2⟩, fun _ => rfl, F.f1, F.f2, F.f3, F.f4, F.f5, F.f6, F.st0, F.st1, F.st2, F.st3, F.mz⟩
      clear F
      go_simp
      exact HK.out _ _ ⟨_, _, _, _, _, _, _, _, _, _, rfl, HF.out⟩
    · have hst : S0 (d_ 3) ms w1 ∨ S1 (d_ 3) ms u1 w1 ∨ S2 (d_ 3) ms u1 u2 w1 := by
        cases e1 : d_ 4 with
        | false => exact .inl ((F.st0 e1))
        | true =>
          cases e2 : d_ 5 with
          | false => exact .inr (.inl ((F.st1 e1 e2)))
          | true =>
            have n_ : d_ 7 = false := by
              cases e_ : d_ 7 with
              | false => rfl
              | true => have h2 := (F.q7 e_).2.1; rw [show d_ 1 = false from hd_] at h2; cases h2
            exact .inr (.inr ((F.st2 e2 n_)))
      have kk := kl1.out (d_ 3) ms u1 u2 w1 hst
      obtain ⟨kk0, kk1, kk2, kk3, kk4⟩ := kk
      clear hst
      have HF : Hid (pq2F b0 b1 S0 S1 S2 S3 (upd d_ 1) x3 (.agg #[.int .i64 100, .int .i64 110, .int .i64 500, .int .i64 530, .int .i64 0]) x5 x6 x7 x8 x9 ms u1 u2 w1) := ⟨fun h => ⟨(F.q3 h).1, rfl, (F.q3 h).2.2⟩, F.q5, F.q6, fun h => ⟨(F.q7 h).1, rfl, (F.q7 h).2.2.1, (F.q7 h).2.2.2.1, (F.q7 h).2.2.2.2.1, (F.q7 h).2.2.2.2.2.1, (F.q7 h).2.2.2.2.2.2⟩, F.f0, fun _ => rfl, F.f2, F.f3, F.f4, F.f5, F.f6, F.st0, F.st1, F.st2, F.st3, F.mz⟩
      clear F
      go_simp
      exact HK.out _ _ ⟨_, _, _, _, _, _, _, _, _, _, rfl, HF.out⟩
    · have hst : S0 (d_ 3) ms w1 ∨ S1 (d_ 3) ms u1 w1 ∨ S2 (d_ 3) ms u1 u2 w1 := by
        cases e1 : d_ 4 with
        | false => exact .inl ((F.st0 e1))
        | true =>
          cases e2 : d_ 5 with
          | false => exact .inr (.inl ((F.st1 e1 e2)))
          | true =>
            have n_ : d_ 7 = false := by
              cases e_ : d_ 7 with
              | false => rfl
              | true => have h2 := (F.q7 e_).2.2.1; rw [show d_ 2 = false from hd_] at h2; cases h2
            exact .inr (.inr ((F.st2 e2 n_)))
      have kk := kl2.out (d_ 3) ms u1 u2 w1 hst
      obtain ⟨kk0, kk1, kk2, kk3, kk4⟩ := kk
      clear hst
      have HF : Hid (pq2F b0 b1 S0 S1 S2 S3 (upd d_ 2) x3 x4 (.agg #[.int .i64 100, .int .i64 110, .int .i64 500, .int .i64 530, .int .i64 0]) x6 x7 x8 x9 ms u1 u2 w1) := ⟨fun h => ⟨(F.q3 h).1, (F.q3 h).2.1, rfl⟩, F.q5, F.q6, fun h => ⟨(F.q7 h).1, (F.q7 h).2.1, rfl, (F.q7 h).2.2.2.1, (F.q7 h).2.2.2.2.1, (F.q7 h).2.2.2.2.2.1, (F.q7 h).2.2.2.2.2.2⟩, F.f0, F.f1, fun _ => rfl, F.f3, F.f4, F.f5, F.f6, F.st0, F.st1, F.st2, F.st3, F.mz⟩
      clear F
      go_simp
      exact HK.out _ _ ⟨_, _, _, _, _, _, _, _, _, _, rfl, HF.out⟩
    · obtain rfl := F.f0 (by simp [hdep])
      obtain rfl := F.f1 (by simp [hdep])
      obtain rfl := F.f2 (by simp [hdep])
      have HF : Hid (pq2F b0 b1 S0 S1 S2 S3 (upd d_ 3) (.agg #[.int .i64 100, .int .i64 110, .int .i64 500, .int .i64 530, .int .i64 0]) (.agg #[.int .i64 100, .int .i64 110, .int .i64 500, .int .i64 530, .int .i64 0]) (.agg #[.int .i64 100, .int .i64 110, .int .i64 500, .int .i64 530, .int .i64 0]) (.slice (some ⟨w1.heap.size, 0, none⟩) 3 3) x7 x8 x9 w1.heap.size u1 u2 (w1.alloc (.cells #[.int .i64 100, .int .i64 110, .int .i64 500, .int .i64 530, .int .i64 0, .int .i64 100, .int .i64 110, .int .i64 500, .int .i64 530, .int .i64 0, .int .i64 100, .int .i64 110, .int .i64 500, .int .i64 530, .int .i64 0] 54))) := ⟨fun _ => ⟨(show _ from (by simp [hdep] : d_ 0 = true)), (show _ from (by simp [hdep] : d_ 1 = true)), (show _ from (by simp [hdep] : d_ 2 = true))⟩, F.q5, fun h => ⟨rfl, (F.q6 h).2.1, (F.q6 h).2.2⟩, fun h => ⟨(F.q7 h).1, (F.q7 h).2.1, (F.q7 h).2.2.1, rfl, (F.q7 h).2.2.2.2.1, (F.q7 h).2.2.2.2.2.1, (F.q7 h).2.2.2.2.2.2⟩, F.f0, F.f1, F.f2, fun _ => rfl, F.f4, F.f5, fun h => (by have h2 : d_ 3 = true := (F.q6 h).1; rw [show d_ 3 = false from hd_] at h2; cases h2), fun b => ks0.out w1 (by have h := F.st0 b; rw [show d_ 3 = false from hd_, F.mz hd_] at h; exact h), fun a b => ks1.out u1 w1 (by have h := F.st1 a b; rw [show d_ 3 = false from hd_, F.mz hd_] at h; exact h), fun a b => ks2.out u1 u2 w1 (by have h := F.st2 a b; rw [show d_ 3 = false from hd_, F.mz hd_] at h; exact h), fun a => (by have h2 : d_ 3 = true := (F.q7 a).2.2.2.1; rw [show d_ 3 = false from hd_] at h2; cases h2), fun h => (by simp [upd] at h)⟩
      clear F
      go_simp
      exact HK.out _ _ ⟨_, _, _, _, _, _, _, _, _, _, rfl, HF.out⟩
    · have hS := F.st0  hd_
      have hc := kc4.out (d_ 3) ms w1 hS
      have HF := Lib.hid F
      clear F
      go_simp
      refine ⟨trivial, rfl, wideAt_calls (hc.mono ?_)⟩
      rintro e w5 ⟨v_, rfl, hres⟩
      exact HK.out _ _ ⟨_, _, _, _, _, _, _, ms, v_, u2, rfl, ⟨HF.out.q3, fun h => rfl, fun h => ⟨(HF.out.q6 h).1, rfl, (HF.out.q6 h).2.2⟩, fun h => ⟨(HF.out.q7 h).1, (HF.out.q7 h).2.1, (HF.out.q7 h).2.2.1, (HF.out.q7 h).2.2.2.1, rfl, (HF.out.q7 h).2.2.2.2.2.1, (HF.out.q7 h).2.2.2.2.2.2⟩, HF.out.f0, HF.out.f1, HF.out.f2, HF.out.f3, fun _ => rfl, HF.out.f5, HF.out.f6, fun h => (by simp [upd] at h), fun _ _ => hres, fun h _ => (by have h2 : d_ 4 = true := (HF.out.q5 h); rw [show d_ 4 = false from hd_] at h2; cases h2), fun h => (by have h2 : d_ 4 = true := (HF.out.q7 h).2.2.2.2.1; rw [show d_ 4 = false from hd_] at h2; cases h2), HF.out.mz⟩⟩
    · have hS := F.st1 (by simp [hdep] : d_ 4 = true) hd_
      have hc := kc5.out (d_ 3) ms u1 w1 hS
      have HF := Lib.hid F
      clear F
      go_simp
      refine ⟨trivial, rfl, wideAt_calls (hc.mono ?_)⟩
      rintro e w5 ⟨v_, rfl, hres⟩
      exact HK.out _ _ ⟨_, _, _, _, _, _, _, ms, u1, v_, rfl, ⟨HF.out.q3, fun _ => (show _ from (by simp [hdep] : d_ 4 = true)), fun h => ⟨(HF.out.q6 h).1, (HF.out.q6 h).2.1, rfl⟩, fun h => ⟨(HF.out.q7 h).1, (HF.out.q7 h).2.1, (HF.out.q7 h).2.2.1, (HF.out.q7 h).2.2.2.1, (HF.out.q7 h).2.2.2.2.1, rfl, (HF.out.q7 h).2.2.2.2.2.2⟩, HF.out.f0, HF.out.f1, HF.out.f2, HF.out.f3, HF.out.f4, fun _ => rfl, HF.out.f6, fun h => (by have h2 : d_ 4 = false := h; rw [(by simp [hdep] : d_ 4 = true)] at h2; cases h2), fun _ h => (by simp [upd] at h), fun _ _ => hres, fun h => (by have h2 : d_ 5 = true := (HF.out.q7 h).2.2.2.2.2.1; rw [show d_ 5 = false from hd_] at h2; cases h2), HF.out.mz⟩⟩
    · obtain rfl := F.f3 (by simp [hdep])
      obtain rfl := F.f4 (by simp [hdep])
      obtain rfl := F.f5 (by simp [hdep])
      have HF : Hid (pq2F b0 b1 S0 S1 S2 S3 (upd d_ 6) x3 x4 x5 (.slice (some ⟨ms, 0, none⟩) 3 3) (.agg #[.int .i64 0, .int .i64 5]) (.agg #[.int .i64 0, .int .i64 10]) (.agg #[.slice (some ⟨ms, 0, none⟩) 3 3, .int .i64 0, .int .i64 5, .int .i64 0, .int .i64 10]) ms u1 u2 w1) := ⟨F.q3, F.q5, fun _ => ⟨(show _ from (by simp [hdep] : d_ 3 = true)), (show _ from (by simp [hdep] : d_ 4 = true)), (show _ from (by simp [hdep] : d_ 5 = true))⟩, fun h => ⟨(F.q7 h).1, (F.q7 h).2.1, (F.q7 h).2.2.1, (F.q7 h).2.2.2.1, (F.q7 h).2.2.2.2.1, (F.q7 h).2.2.2.2.2.1, rfl⟩, F.f0, F.f1, F.f2, F.f3, F.f4, F.f5, fun _ => rfl, F.st0, F.st1, F.st2, F.st3, F.mz⟩
      clear F
      go_simp
      exact HK.out _ _ ⟨_, _, _, _, _, _, _, _, _, _, rfl, HF.out⟩
    · have hS := F.st2 (by simp [hdep] : d_ 5 = true) hd_
      rw [show d_ 3 = true from (by simp [hdep] : d_ 3 = true)] at hS
      obtain rfl := F.f6 (by simp [hdep])
      obtain ⟨⟨ku0, kcell0⟩, kfr0, ⟨ku1, kcell1⟩, kfr1, ⟨ku2, kcell2⟩, kfr2, ⟨ku3, kcell3⟩, kfr3, ⟨ku4, kcell4⟩, kfr4, hres⟩ := kc7.out ms u1 u2 w1 hS
      have HF : Hid (pq2F b0 b1 S0 S1 S2 S3 (upd d_ 7) x3 x4 x5 x6 x7 x8 (.agg #[.slice (some ⟨ms, 0, none⟩) 3 3, .int .i64 0, .int .i64 5, .int .i64 0, .int .i64 10]) ms u1 u2 (((((w1.setCell ⟨b0, 0, none⟩ (.slice (some ⟨ms, 0, none⟩) 3 3)).setCell ⟨b0, 1, none⟩ (.int .i64 0)).setCell ⟨b0, 2, none⟩ (.int .i64 5)).setCell ⟨b0, 3, none⟩ (.int .i64 0)).setCell ⟨b0, 4, none⟩ (.int .i64 10))) := ⟨F.q3, F.q5, F.q6, fun _ => ⟨(show _ from (by simp [hdep] : d_ 0 = true)), (show _ from (by simp [hdep] : d_ 1 = true)), (show _ from (by simp [hdep] : d_ 2 = true)), (show _ from (by simp [hdep] : d_ 3 = true)), (show _ from (by simp [hdep] : d_ 4 = true)), (show _ from (by simp [hdep] : d_ 5 = true)), (show _ from (by simp [hdep] : d_ 6 = true))⟩, F.f0, F.f1, F.f2, F.f3, F.f4, F.f5, F.f6, fun h => (by have h2 : d_ 4 = false := h; rw [(by simp [hdep] : d_ 4 = true)] at h2; cases h2), fun _ h => (by have h2 : d_ 5 = false := h; rw [(by simp [hdep] : d_ 5 = true)] at h2; cases h2), fun _ h => (by simp [upd] at h), fun _ => (by rw [show upd d_ 7 3 = true from (by simp [hdep] : d_ 3 = true)]; exact hres), F.mz⟩
      clear F hS hres
      go_simp
      exact HK.out _ _ ⟨_, _, _, _, _, _, _, _, _, _, rfl, HF.out⟩
  · rintro d_ a_ w1 hall ⟨x3, x4, x5, x6, x7, x8, x9, ms, u1, u2, rfl, F⟩
    have hall' : ∀ k, k < 8 → d_ k = true := hall
    obtain rfl := F.f0 (hall' 0 (by decide))
    obtain rfl := F.f1 (hall' 1 (by decide))
    obtain rfl := F.f2 (hall' 2 (by decide))
    obtain rfl := F.f3 (hall' 3 (by decide))
    obtain rfl := F.f4 (hall' 4 (by decide))
    obtain rfl := F.f5 (hall' 5 (by decide))
    obtain rfl := F.f6 (hall' 6 (by decide))
    have hst := F.st3 (hall' 7 (by decide))
    rw [show d_ 3 = true from hall' 3 (by decide)] at hst
    exact HQ.out ms u1 u2 w1 hst
end Go.Proofs.Ytnfhlbmapfoifaa

namespace Go.Proofs.Ytnfhlbmapfoifaa
open Go.RowKit
set_option linter.unusedVariables false

theorem res_c26 {fn : Func} {p : Tmp} (h : fn.results = #[.cell p 26]) (tmps : Array Value) {w : World} {a : Nat} {x y z u v : Value} (hp : tmps.getD p undef = .pointer (some ⟨a, 0, none⟩)) (hx : w.cell? ⟨a, 0, none⟩ = some x) (hy : w.cell? ⟨a, 1, none⟩ = some y) (hz : w.cell? ⟨a, 2, none⟩ = some z) (hu : w.cell? ⟨a, 3, none⟩ = some u) (hv : w.cell? ⟨a, 4, none⟩ = some v) :
    (results fn tmps).run Try.prog w = .ok (.agg #[x, y, z, u, v]) w := by
  have hp' : tmps[p]?.getD undef = .pointer (some ⟨a, 0, none⟩) := by simpa using hp
  simp [results, h, hp', hx, hy, hz, hu, hv, go_sem]
theorem prts_take {w : World} {a : Option Addr} {l : List Prt} (h : IsPrts w a l) (k : Nat) : IsPrts w a (l.take k) := fun i hi => by
  have h1 : i < l.length ∧ i < k := by simp at hi; omega
  obtain ⟨b, off, e, h0⟩ := h i h1.1
  have e2 : gp (l.take k) i = gp l i := by simp [gp, h1.2]
  exact ⟨b, off, e, by rw [e2]; exact h0⟩
abbrev zero5 : Array Value := #[.slice none 0 0, .int .i64 0, .int .i64 0, .int .i64 0, .int .i64 0]
abbrev twenty : Array Value := #[.int .i64 100, .int .i64 101, .int .i64 500, .int .i64 505, .int .i64 0, .int .i64 96, .int .i64 97, .int .i64 485, .int .i64 490, .int .i64 1, .int .i64 92, .int .i64 93, .int .i64 470, .int .i64 476, .int .i64 3, .int .i64 95, .int .i64 98, .int .i64 480, .int .i64 492, .int .i64 4]
theorem prts_twenty {w : World} {g : Nat} (h : w.heap[g]? = some (.cells twenty 54 (0, 0))) : IsPrts w (some ⟨g, 0, none⟩) (pileP 4).cards := fun i hi => by
  have : i = 0 ∨ i = 1 ∨ i = 2 ∨ i = 3 := by simp [pileP] at hi; omega
  rcases this with rfl | rfl | rfl | rfl
  all_goals exact ⟨g, 0, rfl, by rw [cell_of_heap h]; rfl, by rw [cell_of_heap h]; rfl, by rw [cell_of_heap h]; rfl, by rw [cell_of_heap h]; rfl, by rw [cell_of_heap h]; rfl⟩
set_option maxRecDepth 100000 in
set_option maxHeartbeats 2000000 in
theorem pileP_any (n : Nat) (hn : n ≤ 4) (w : World) : Calls Try.prog 39 #[.int .i64 n] w fun e w' => ∃ g, e = .returned (.agg #[.slice (some ⟨g, 0, none⟩) n 4, .int .i64 3, .int .i64 5, .int .i64 10, .int .i64 20]) ∧ IsPrts w' (some ⟨g, 0, none⟩) (pileP n).cards ∧ Below w.heap.size w w' := by
  have q0 := World.alloc_heap_new w (.cells zero5 26)
  have hb0 : Below w.heap.size w (w.alloc (.cells zero5 26)) := (Below.refl _ w).alloc (Nat.le_refl _) _
  have hz0 : (w.alloc (.cells zero5 26)).heap.size = w.heap.size + 1 := by simp
  have H0 := Lib.hid (And.intro q0 (And.intro hb0 hz0))
  clear q0 hb0 hz0
  go_enter Try.func39, Try.ntmps39
  go_wp2_with fail
  refine (card_any _ _ _ _ _ _).mono ?_
  rintro e w1 ⟨rfl, hb1⟩
  have HB1 := Lib.hid hb1
  clear hb1
  go_wp2_with fail
  refine (card_any _ _ _ _ _ _).mono ?_
  rintro e w2 ⟨rfl, hb2⟩
  have HB2 := Lib.hid (HB1.out.trans (hb2.mono HB1.out.size))
  clear hb2
  go_wp2_with fail
  refine (card_any _ _ _ _ _ _).mono ?_
  rintro e w3 ⟨rfl, hb3⟩
  have HB3 := Lib.hid (HB2.out.trans (hb3.mono HB2.out.size))
  clear hb3
  go_wp2_with fail
  refine (card_any _ _ _ _ _ _).mono ?_
  rintro e w4 ⟨rfl, hb4⟩
  have HB4 := Lib.hid (HB3.out.trans (hb4.mono HB3.out.size))
  clear hb4
  go_wp2_with fail
  have q5 := World.alloc_heap_new w4 (.cells twenty 54)
  have hb5 : Below w4.heap.size w4 (w4.alloc (.cells twenty 54)) := (Below.refl _ w4).alloc (Nat.le_refl _) _
  have hb05 := HB4.out.trans (hb5.mono HB4.out.size)
  have z04 : w.heap.size + 1 ≤ w4.heap.size := by have := HB4.out.size; simp at this; omega
  revert q5 hb5 hb05
  generalize (w4.alloc (.cells twenty 54)) = w5
  intro q5 hb5 hb05
  obtain ⟨q0, hb0, hz0⟩ := H0.out
  have q0' := (hb05.block _ (heap_lt q0)).trans q0
  have hbw : Below w.heap.size w w5 := hb0.trans (hb05.mono hb0.size)
  refine wpIn_wide.1 (pp2 (b2 := w.heap.size) (g := w4.heap.size) (n := n) (S0 := fun w' => Below w5.heap.size w5 w') (S1 := fun _ w' => Below w5.heap.size w5 w') (S2 := fun _ _ w' => Below w5.heap.size w5 w')
    (S3 := fun _ _ w' => Below w.heap.size w w' ∧ w'.heap[w.heap.size]? = some (.cells #[.slice (some ⟨w4.heap.size, 0, none⟩) n 4, .int .i64 3, .int .i64 5, .int .i64 10, .int .i64 20] 26 (0, 0)) ∧ w'.heap[w4.heap.size]? = some (.cells twenty 54 (0, 0))) hn ?a0 ?a3 ?a4 ?a6 ?aQ)
  case a0 => exact (Below.refl _ _).drew
  case a3 =>
    intro w' h
    refine (span_any 3 5 w').mono ?_
    rintro e w6 ⟨rfl, hb6⟩
    exact ⟨(), rfl, h.trans (hb6.mono h.size)⟩
  case a4 =>
    intro u w' h
    refine (span_any 10 20 w').mono ?_
    rintro e w6 ⟨rfl, hb6⟩
    exact ⟨(), rfl, h.trans (hb6.mono h.size)⟩
  case a6 =>
    intro u u' w' h
    have e := (h.block _ (heap_lt q0')).trans q0'
    have e5 := (h.block _ (heap_lt q5)).trans q5
    have hne : w4.heap.size ≠ w.heap.size := by omega
    refine ⟨⟨_, by rw [cell_of_heap e]; rfl⟩, frozen_of_heap e, ⟨_, by rw [cell_of_heap e]; rfl⟩, frozen_of_heap e, ⟨_, by rw [cell_of_heap e]; rfl⟩, frozen_of_heap e, ⟨_, by rw [cell_of_heap e]; rfl⟩, frozen_of_heap e, ⟨_, by rw [cell_of_heap e]; rfl⟩, frozen_of_heap e, ?_, ?_, ?_⟩
    · exact (((((hbw.trans (h.mono hbw.size)).setCell (Nat.le_refl _) _).setCell (Nat.le_refl _) _).setCell (Nat.le_refl _) _).setCell (Nat.le_refl _) _).setCell (Nat.le_refl _) _
    · exact heap_setCell_at (k := 4) (heap_setCell_at (k := 3) (heap_setCell_at (k := 2) (heap_setCell_at (k := 1) (heap_setCell_at (k := 0) e _) _) _) _) _
    · rw [Below.heap_setCell _ _ _ _ hne, Below.heap_setCell _ _ _ _ hne, Below.heap_setCell _ _ _ _ hne, Below.heap_setCell _ _ _ _ hne, Below.heap_setCell _ _ _ _ hne]
      exact e5
  case aQ =>
    rintro u u' w6 ⟨hb6, e6, e7⟩
    have H6 := Lib.hid (And.intro hb6 (And.intro e6 e7))
    clear hb6 e6 e7
    go_wp2_with fail
    obtain ⟨hb6, e6, e7⟩ := H6.out
    refine bodyPost_ret (res_c26 (x := .slice (some ⟨w4.heap.size, 0, none⟩) n 4) (y := .int .i64 3) (z := .int .i64 5) (u := .int .i64 10) (v := .int .i64 20) rfl _ rfl (by rw [cell_of_heap e6]; rfl) (by rw [cell_of_heap e6]; rfl) (by rw [cell_of_heap e6]; rfl) (by rw [cell_of_heap e6]; rfl) (by rw [cell_of_heap e6]; rfl)) rfl ⟨w4.heap.size, rfl, ?_, hb6⟩
    exact prts_take (prts_twenty e7) n
abbrev q5A : Array Value := #[.int .i64 100, .int .i64 110, .int .i64 500, .int .i64 530, .int .i64 0]
abbrev q15A : Array Value := #[.int .i64 100, .int .i64 110, .int .i64 500, .int .i64 530, .int .i64 0, .int .i64 100, .int .i64 110, .int .i64 500, .int .i64 530, .int .i64 0, .int .i64 100, .int .i64 110, .int .i64 500, .int .i64 530, .int .i64 0]
theorem prts_fifteen {w : World} {g : Nat} (h : w.heap[g]? = some (.cells q15A 54 (0, 0))) : IsPrts w (some ⟨g, 0, none⟩) pileQ.cards := fun i hi => by
  have : i = 0 ∨ i = 1 ∨ i = 2 := by simp [pileQ] at hi; omega
  rcases this with rfl | rfl | rfl
  all_goals exact ⟨g, 0, rfl, by rw [cell_of_heap h]; rfl, by rw [cell_of_heap h]; rfl, by rw [cell_of_heap h]; rfl, by rw [cell_of_heap h]; rfl, by rw [cell_of_heap h]; rfl⟩
set_option maxRecDepth 100000 in
set_option maxHeartbeats 2000000 in
theorem pileQ_any (w : World) : Calls Try.prog 40 #[] w fun e w' => ∃ g, e = .returned (.agg #[.slice (some ⟨g, 0, none⟩) 3 3, .int .i64 0, .int .i64 5, .int .i64 0, .int .i64 10]) ∧ IsPrts w' (some ⟨g, 0, none⟩) pileQ.cards ∧ Below w.heap.size w w' := by
  have q0 := World.alloc_heap_new w (.cells zero5 26)
  have hb0 : Below w.heap.size w (w.alloc (.cells zero5 26)) := (Below.refl _ w).alloc (Nat.le_refl _) _
  have hz0 : (w.alloc (.cells zero5 26)).heap.size = w.heap.size + 1 := by simp
  have H0 := Lib.hid (And.intro q0 (And.intro hb0 hz0))
  clear q0 hb0 hz0
  go_enter Try.func40, Try.ntmps40
  go_wp2_with fail
  refine (card_any _ _ _ _ _ _).mono ?_
  rintro e w1 ⟨rfl, hb1⟩
  have HB1 := Lib.hid hb1
  clear hb1
  go_wp2_with fail
  have q5 := World.alloc_heap_new w1 (.cells q5A 54)
  have hb5 : Below w1.heap.size w1 (w1.alloc (.cells q5A 54)) := (Below.refl _ w1).alloc (Nat.le_refl _) _
  have hb05 := HB1.out.trans (hb5.mono HB1.out.size)
  have z04 : w.heap.size + 1 ≤ w1.heap.size := by have := HB1.out.size; simp at this; omega
  revert q5 hb5 hb05
  generalize (w1.alloc (.cells q5A 54)) = w5
  intro q5 hb5 hb05
  obtain ⟨q0, hb0, hz0⟩ := H0.out
  have q0' := (hb05.block _ (heap_lt q0)).trans q0
  have hbw : Below w.heap.size w w5 := hb0.trans (hb05.mono hb0.size)
  have z5 : w1.heap.size + 1 ≤ w5.heap.size := heap_lt q5
  refine wpIn_wide.1 (pq2 (b0 := w.heap.size) (b1 := w1.heap.size) (S0 := fun f ms w' => Below w5.heap.size w5 w' ∧ (f = true → w5.heap.size ≤ ms ∧ w'.heap[ms]? = some (.cells q15A 54 (0, 0)))) (S1 := fun f ms _ w' => Below w5.heap.size w5 w' ∧ (f = true → w5.heap.size ≤ ms ∧ w'.heap[ms]? = some (.cells q15A 54 (0, 0)))) (S2 := fun f ms _ _ w' => Below w5.heap.size w5 w' ∧ (f = true → w5.heap.size ≤ ms ∧ w'.heap[ms]? = some (.cells q15A 54 (0, 0))))
    (S3 := fun f ms _ _ w' => Below w.heap.size w w' ∧ w'.heap[w.heap.size]? = some (.cells #[.slice (some ⟨ms, 0, none⟩) 3 3, .int .i64 0, .int .i64 5, .int .i64 0, .int .i64 10] 26 (0, 0)) ∧ w'.heap[ms]? = some (.cells q15A 54 (0, 0))) ?a0 ?l0 ?l1 ?l2 ?s0 ?s1 ?s2 ?a4 ?a5 ?a7 ?aQ)
  case a0 => exact ⟨(Below.refl _ _).drew, fun h => by cases h⟩
  case l0 =>
    intro f ms _ _ w' h
    have hb' : Below w5.heap.size w5 w' := by rcases h with h | h | h <;> exact h.1
    have e := (hb'.block _ (heap_lt q5)).trans q5
    exact ⟨by rw [cell_of_heap e]; rfl, by rw [cell_of_heap e]; rfl, by rw [cell_of_heap e]; rfl, by rw [cell_of_heap e]; rfl, by rw [cell_of_heap e]; rfl⟩
  case l1 =>
    intro f ms _ _ w' h
    have hb' : Below w5.heap.size w5 w' := by rcases h with h | h | h <;> exact h.1
    have e := (hb'.block _ (heap_lt q5)).trans q5
    exact ⟨by rw [cell_of_heap e]; rfl, by rw [cell_of_heap e]; rfl, by rw [cell_of_heap e]; rfl, by rw [cell_of_heap e]; rfl, by rw [cell_of_heap e]; rfl⟩
  case l2 =>
    intro f ms _ _ w' h
    have hb' : Below w5.heap.size w5 w' := by rcases h with h | h | h <;> exact h.1
    have e := (hb'.block _ (heap_lt q5)).trans q5
    exact ⟨by rw [cell_of_heap e]; rfl, by rw [cell_of_heap e]; rfl, by rw [cell_of_heap e]; rfl, by rw [cell_of_heap e]; rfl, by rw [cell_of_heap e]; rfl⟩
  case s0 => exact fun w' h => ⟨h.1.alloc h.1.size _, fun _ => ⟨h.1.size, World.alloc_heap_new _ _⟩⟩
  case s1 => exact fun _ w' h => ⟨h.1.alloc h.1.size _, fun _ => ⟨h.1.size, World.alloc_heap_new _ _⟩⟩
  case s2 => exact fun _ _ w' h => ⟨h.1.alloc h.1.size _, fun _ => ⟨h.1.size, World.alloc_heap_new _ _⟩⟩
  case a4 =>
    intro f ms w' h
    refine (span_any 0 5 w').mono ?_
    rintro e w6 ⟨rfl, hb6⟩
    exact ⟨(), rfl, h.1.trans (hb6.mono h.1.size), fun hf => ⟨(h.2 hf).1, (hb6.block _ (heap_lt (h.2 hf).2)).trans (h.2 hf).2⟩⟩
  case a5 =>
    intro f ms _ w' h
    refine (span_any 0 10 w').mono ?_
    rintro e w6 ⟨rfl, hb6⟩
    exact ⟨(), rfl, h.1.trans (hb6.mono h.1.size), fun hf => ⟨(h.2 hf).1, (hb6.block _ (heap_lt (h.2 hf).2)).trans (h.2 hf).2⟩⟩
  case a7 =>
    intro ms _ _ w' h
    have h1 := h.1
    obtain ⟨hms, e5⟩ := h.2 rfl
    have e := (h1.block _ (heap_lt q0')).trans q0'
    have hne : ms ≠ w.heap.size := by omega
    refine ⟨⟨_, by rw [cell_of_heap e]; rfl⟩, frozen_of_heap e, ⟨_, by rw [cell_of_heap e]; rfl⟩, frozen_of_heap e, ⟨_, by rw [cell_of_heap e]; rfl⟩, frozen_of_heap e, ⟨_, by rw [cell_of_heap e]; rfl⟩, frozen_of_heap e, ⟨_, by rw [cell_of_heap e]; rfl⟩, frozen_of_heap e, ?_, ?_, ?_⟩
    · exact (((((hbw.trans (h1.mono hbw.size)).setCell (Nat.le_refl _) _).setCell (Nat.le_refl _) _).setCell (Nat.le_refl _) _).setCell (Nat.le_refl _) _).setCell (Nat.le_refl _) _
    · exact heap_setCell_at (k := 4) (heap_setCell_at (k := 3) (heap_setCell_at (k := 2) (heap_setCell_at (k := 1) (heap_setCell_at (k := 0) e _) _) _) _) _
    · rw [Below.heap_setCell _ _ _ _ hne, Below.heap_setCell _ _ _ _ hne, Below.heap_setCell _ _ _ _ hne, Below.heap_setCell _ _ _ _ hne, Below.heap_setCell _ _ _ _ hne]
      exact e5
  case aQ =>
    rintro ms _ _ w6 ⟨hb6, e6, e7⟩
    have H6 := Lib.hid (And.intro hb6 (And.intro e6 e7))
    clear hb6 e6 e7
    go_wp2_with fail
    obtain ⟨hb6, e6, e7⟩ := H6.out
    refine bodyPost_ret (res_c26 (x := .slice (some ⟨ms, 0, none⟩) 3 3) (y := .int .i64 0) (z := .int .i64 5) (u := .int .i64 0) (v := .int .i64 10) rfl _ rfl (by rw [cell_of_heap e6]; rfl) (by rw [cell_of_heap e6]; rfl) (by rw [cell_of_heap e6]; rfl) (by rw [cell_of_heap e6]; rfl) (by rw [cell_of_heap e6]; rfl)) rfl ⟨ms, rfl, prts_fifteen e7, hb6⟩
/-! ### what the document fixes -/
theorem ex_comp : compE pileQ = (0, 1, 3, 0) := by decide +kernel
theorem ex_needs : needsE pileQ = (3, 0) := by decide +kernel
theorem ex_ord3 : ordersE (pileP 3) = 0 ∧ ordersL (pileP 3) = [[0, 1, 2]] := by decide +kernel
theorem ex_few2 : fewestW (pileP 4) = [-1, 0, 1, 0] ∧ origN (fewestW (pileP 4)) = 1 ∧ (pileP 4).valid = true := by decide +kernel
end Go.Proofs.Ytnfhlbmapfoifaa

