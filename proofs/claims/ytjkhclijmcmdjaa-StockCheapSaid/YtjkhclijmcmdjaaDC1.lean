/- The numbers by which plans are ordered, from the law. What the laws need to know of the cheapest plan: plain law. StockCheap's walk. The row's last step where the call leaves a world of which only what lay there before is known. Presses and formes that are handed in, opened. -/
import Derived.Test.YtjkhclijmcmdjaaC15
import Derived.Below
import Derived.ChangeSame
import Derived.ProofKit
import Derived.Test.YtjkhclijmcmdjaaProg
import Derived.Deep.Slices
import Derived.Deep.Fields
import Derived.Lib.SmallJoins
import Derived.Carry
import Derived.OpenShut
namespace Go.Proofs.Ytjkhclijmcmdjaa
open Go.RowKit
set_option linter.unusedVariables false
set_option linter.unusedSimpArgs false
structure num36F (r0 : Option Addr × Nat) (n : Nat) (m : Nat) (b4 : Nat) (ai : Option Addr) (ci : Nat) (tm : Int) (S0 : Bool → Nat → World → Prop) (S1 : Bool → Nat → Option Addr × Nat → World → Prop) (S2 : Bool → Nat → Option Addr × Nat → Option Addr × Nat → World → Prop) (d : Nat → Bool) (x11 x12 x13 x14 x15 x16 x17 x18 x2 : Value) (ms : Nat) (r1 : Option Addr × Nat) (r2 : Option Addr × Nat) (w : World) : Prop where
  q2 : d 2 = true → d 1 = true
  q3 : d 3 = true → d 0 = true ∧ d 2 = true
  q5 : d 5 = true → d 4 = true
  q6 : d 6 = true → d 5 = true
  q7 : d 7 = true → d 3 = true ∧ d 6 = true
  q8 : d 8 = true → d 0 = true ∧ d 1 = true ∧ d 2 = true ∧ d 3 = true ∧ d 4 = true ∧ d 5 = true ∧ d 6 = true ∧ d 7 = true
  f0 : d 0 = true → x11 = .slice r0.1 (n) r0.2
  f1 : d 1 = true → x12 = .pointer (some ⟨b4, 0, none⟩)
  f2 : d 2 = true → x13 = .slice ai m ci
  f3 : d 3 = true → x14 = .slice r1.1 (n + m) r1.2
  f4 : d 4 = true → x15 = .pointer (some ⟨b4, 1, none⟩)
  f5 : d 5 = true → x16 = .int .i64 (tm)
  f6 : d 6 = true → x17 = .slice (some ⟨ms, 0, none⟩) 1 1
  f7 : d 7 = true → x18 = .slice r2.1 (n + m + 1) r2.2
  f8 : d 8 = true → x2 = .slice r2.1 (n + m + 1) r2.2
  g8 : d 8 = false → .slice r0.1 (n) r0.2 = x2
  st0 : d 3 = false → S0 (d 6) ms w
  st1 : d 3 = true → d 7 = false → S1 (d 6) ms r1 w
  st2 : d 7 = true → S2 (d 6) ms r1 r2 w
  mz : d 6 = false → ms = 0
noncomputable def num36C : Code := (Try.f36.body.bind (regionAt 4)).getD .skip
set_option maxRecDepth 100000 in
set_option maxHeartbeats 4000000 in
theorem num36 {r0 : Option Addr × Nat} {n : Nat} {m : Nat} {b4 : Nat} {ai : Option Addr} {ci : Nat} {tm : Int} {S0 : Bool → Nat → World → Prop} {S1 : Bool → Nat → Option Addr × Nat → World → Prop} {S2 : Bool → Nat → Option Addr × Nat → Option Addr × Nat → World → Prop} {Q : Exit → Act → World → Prop} {W1 : World} (h0 : S0 false 0 W1.drew)
    (kl2 : Hid (∀ (fs : Bool) (ms : Nat) (w : World), (S0 fs ms w) → w.cell? ⟨b4, 0, none⟩ = some (.slice ai m ci)))
    (kc3 : Hid (∀ (fs : Bool) (ms : Nat) (w : World), S0 fs ms w → ∃ (r1 : Option Addr × Nat) (w' : World), (Builtin.append_ #[24, 24] 24 #[.slice r0.1 (n) r0.2, .slice ai m ci]).run Try.prog w = .ok (.slice r1.1 (n + m) r1.2) w' ∧ S1 fs ms r1 w'))
    (kl5 : Hid (∀ (fs : Bool) (ms : Nat) (r1 : Option Addr × Nat) (w : World), (S0 fs ms w ∨ S1 fs ms r1 w) → w.cell? ⟨b4, 1, none⟩ = some (.int .i64 (tm))))
    (ks0 : Hid (∀ (w : World), S0 false 0 w → S0 true w.heap.size (w.alloc (.cells #[.int .i64 (tm)] 3))))
    (ks1 : Hid (∀ (r1 : Option Addr × Nat) (w : World), S1 false 0 r1 w → S1 true w.heap.size r1 (w.alloc (.cells #[.int .i64 (tm)] 3))))
    (kc7 : Hid (∀ (ms : Nat) (r1 : Option Addr × Nat) (w : World), S1 true ms r1 w → ∃ (r2 : Option Addr × Nat) (w' : World), (Builtin.append_ #[24, 24] 24 #[.slice r1.1 (n + m) r1.2, .slice (some ⟨ms, 0, none⟩) 1 1]).run Try.prog w = .ok (.slice r2.1 (n + m + 1) r2.2) w' ∧ S2 true ms r1 r2 w'))
    {s0 s1 s3 s5 s6 s7 s8 s9 s10 s11 s12 s13 s14 s15 s16 s17 s18 s19 s20 : Value} {dd : List Deferred}
    (hQ : ∀ (ms : Nat) (r1 : Option Addr × Nat) (r2 : Option Addr × Nat) (w' : World), S2 true ms r1 r2 w' → Q .normal { tmps := #[s0, s1, .slice r2.1 (n + m + 1) r2.2, s3, .pointer (some ⟨b4, 0, none⟩), s5, s6, s7, s8, s9, s10, .slice r0.1 (n) r0.2, .pointer (some ⟨b4, 0, none⟩), .slice ai m ci, .slice r1.1 (n + m) r1.2, .pointer (some ⟨b4, 1, none⟩), .int .i64 (tm), .slice (some ⟨ms, 0, none⟩) 1 1, .slice r2.1 (n + m + 1) r2.2, s19, s20], defers := dd } w') :
    Code.wpIn (wideAt none) 0 Try.prog num36C Q { tmps := #[s0, s1, .slice r0.1 (n) r0.2, s3, .pointer (some ⟨b4, 0, none⟩), s5, s6, s7, s8, s9, s10, s11, s12, s13, s14, s15, s16, s17, s18, s19, s20], defers := dd } W1 := by
  have HQ := Lib.hid hQ
  clear hQ
  conv => arg 4; whnf
  refine wpIn_region_invG mixed (by kernel_rfl) (fun d_ a_ w' => ∃ (x11 : Value) (x12 : Value) (x13 : Value) (x14 : Value) (x15 : Value) (x16 : Value) (x17 : Value) (x18 : Value) (x2 : Value) (ms : Nat) (r1 : Option Addr × Nat) (r2 : Option Addr × Nat), a_ = { tmps := #[s0, s1, x2, s3, .pointer (some ⟨b4, 0, none⟩), s5, s6, s7, s8, s9, s10, x11, x12, x13, x14, x15, x16, x17, x18, s19, s20], defers := dd } ∧ num36F r0 n m b4 ai ci tm S0 S1 S2 d_ x11 x12 x13 x14 x15 x16 x17 x18 x2 ms r1 r2 w') ?_ ?_ ?_
  · refine ⟨s11, s12, s13, s14, s15, s16, s17, s18, (.slice r0.1 (n) r0.2), 0, default, default, rfl, ?_⟩
    constructor <;> first | rfl | (intro _; rfl) | (intro h; cases h; done) | (intro _; exact h0) | exact h0
  · refine ⟨?_, ?_, ?_, ?_, ?_, ?_, ?_, ?_, ?_, trivial⟩
    all_goals
      rintro d_ a_ w1 K hd_ hdep ⟨x11, x12, x13, x14, x15, x16, x17, x18, x2, ms, r1, r2, rfl, F⟩ HK
      simp [Region.binds] at hdep
    · have n8_ : d_ 8 = false := by
        cases e_ : d_ 8 with
        | false => rfl
        | true => have h2 := (F.q8 e_).1; rw [show d_ 0 = false from hd_] at h2; cases h2
      have g8_ := F.g8 n8_
      subst g8_
      have HF : Hid (num36F r0 n m b4 ai ci tm S0 S1 S2 (upd d_ 0) (.slice r0.1 (n) r0.2) x12 x13 x14 x15 x16 x17 x18 (.slice r0.1 (n) r0.2) ms r1 r2 w1) := ⟨F.q2, fun h => ⟨rfl, (F.q3 h).2⟩, F.q5, F.q6, F.q7, fun h => ⟨rfl, (F.q8 h).2.1, (F.q8 h).2.2.1, (F.q8 h).2.2.2.1, (F.q8 h).2.2.2.2.1, (F.q8 h).2.2.2.2.2.1, (F.q8 h).2.2.2.2.2.2.1, (F.q8 h).2.2.2.2.2.2.2⟩, fun _ => rfl, F.f1, F.f2, F.f3, F.f4, F.f5, F.f6, F.f7, F.f8, F.g8, F.st0, F.st1, F.st2, F.mz⟩
      clear F
      go_simp
      exact HK.out _ _ ⟨_, _, _, _, _, _, _, _, _, _, _, _, rfl, HF.out⟩
    · have HF : Hid (num36F r0 n m b4 ai ci tm S0 S1 S2 (upd d_ 1) x11 (.pointer (some ⟨b4, 0, none⟩)) x13 x14 x15 x16 x17 x18 x2 ms r1 r2 w1) := ⟨fun h => rfl, F.q3, F.q5, F.q6, F.q7, fun h => ⟨(F.q8 h).1, rfl, (F.q8 h).2.2.1, (F.q8 h).2.2.2.1, (F.q8 h).2.2.2.2.1, (F.q8 h).2.2.2.2.2.1, (F.q8 h).2.2.2.2.2.2.1, (F.q8 h).2.2.2.2.2.2.2⟩, F.f0, fun _ => rfl, F.f2, F.f3, F.f4, F.f5, F.f6, F.f7, F.f8, F.g8, F.st0, F.st1, F.st2, F.mz⟩
      clear F
      go_simp
      exact HK.out _ _ ⟨_, _, _, _, _, _, _, _, _, _, _, _, rfl, HF.out⟩
    · have hst : S0 (d_ 6) ms w1 := by
        have n_ : d_ 3 = false := by
          cases e_ : d_ 3 with
          | false => rfl
          | true => have h2 := (F.q3 e_).2; rw [show d_ 2 = false from hd_] at h2; cases h2
        exact (F.st0 n_)
      have kk := kl2.out (d_ 6) ms w1 hst
      clear hst
      obtain rfl := F.f1 (by simp [hdep])
      have HF : Hid (num36F r0 n m b4 ai ci tm S0 S1 S2 (upd d_ 2) x11 (.pointer (some ⟨b4, 0, none⟩)) (.slice ai m ci) x14 x15 x16 x17 x18 x2 ms r1 r2 w1) := ⟨fun _ => (show _ from (by simp [hdep] : d_ 1 = true)), fun h => ⟨(F.q3 h).1, rfl⟩, F.q5, F.q6, F.q7, fun h => ⟨(F.q8 h).1, (F.q8 h).2.1, rfl, (F.q8 h).2.2.2.1, (F.q8 h).2.2.2.2.1, (F.q8 h).2.2.2.2.2.1, (F.q8 h).2.2.2.2.2.2.1, (F.q8 h).2.2.2.2.2.2.2⟩, F.f0, F.f1, fun _ => rfl, F.f3, F.f4, F.f5, F.f6, F.f7, F.f8, F.g8, F.st0, F.st1, F.st2, F.mz⟩
      clear F
      go_simp
      exact HK.out _ _ ⟨_, _, _, _, _, _, _, _, _, _, _, _, rfl, HF.out⟩
    · have hS := F.st0  hd_
      obtain rfl := F.f0 (by simp [hdep])
      obtain rfl := F.f2 (by simp [hdep])
      obtain ⟨v_, w_, hr, hres⟩ := kc3.out (d_ 6) ms w1 hS
      rw [if_pos (by rfl)]
      refine wpIn_append_run (.tmp 11) (.tmp 13) 24 rfl _ _ _ _ rfl rfl hr ?_
      exact HK.out _ _ ⟨_, _, _, _, _, _, _, _, _, ms, v_, r2, rfl, ⟨F.q2, fun _ => ⟨(show _ from (by simp [hdep] : d_ 0 = true)), (show _ from (by simp [hdep] : d_ 2 = true))⟩, F.q5, F.q6, fun h => ⟨rfl, (F.q7 h).2⟩, fun h => ⟨(F.q8 h).1, (F.q8 h).2.1, (F.q8 h).2.2.1, rfl, (F.q8 h).2.2.2.2.1, (F.q8 h).2.2.2.2.2.1, (F.q8 h).2.2.2.2.2.2.1, (F.q8 h).2.2.2.2.2.2.2⟩, F.f0, F.f1, F.f2, fun _ => rfl, F.f4, F.f5, F.f6, F.f7, F.f8, F.g8, fun h => (by simp [upd] at h), fun _ _ => hres, fun h => (by have h2 : d_ 3 = true := (F.q7 h).1; rw [show d_ 3 = false from hd_] at h2; cases h2), F.mz⟩⟩
    · have HF : Hid (num36F r0 n m b4 ai ci tm S0 S1 S2 (upd d_ 4) x11 x12 x13 x14 (.pointer (some ⟨b4, 1, none⟩)) x16 x17 x18 x2 ms r1 r2 w1) := ⟨F.q2, F.q3, fun h => rfl, F.q6, F.q7, fun h => ⟨(F.q8 h).1, (F.q8 h).2.1, (F.q8 h).2.2.1, (F.q8 h).2.2.2.1, rfl, (F.q8 h).2.2.2.2.2.1, (F.q8 h).2.2.2.2.2.2.1, (F.q8 h).2.2.2.2.2.2.2⟩, F.f0, F.f1, F.f2, F.f3, fun _ => rfl, F.f5, F.f6, F.f7, F.f8, F.g8, F.st0, F.st1, F.st2, F.mz⟩
      clear F
      go_simp
      exact HK.out _ _ ⟨_, _, _, _, _, _, _, _, _, _, _, _, rfl, HF.out⟩
    · have hst : S0 (d_ 6) ms w1 ∨ S1 (d_ 6) ms r1 w1 := by
        cases e1 : d_ 3 with
        | false => exact .inl ((F.st0 e1))
        | true =>
          have n_ : d_ 7 = false := by
            cases e_ : d_ 7 with
            | false => rfl
            | true => have h2 := (F.q6 (F.q7 e_).2); rw [show d_ 5 = false from hd_] at h2; cases h2
          exact .inr ((F.st1 e1 n_))
      have kk := kl5.out (d_ 6) ms r1 w1 hst
      clear hst
      obtain rfl := F.f4 (by simp [hdep])
      have HF : Hid (num36F r0 n m b4 ai ci tm S0 S1 S2 (upd d_ 5) x11 x12 x13 x14 (.pointer (some ⟨b4, 1, none⟩)) (.int .i64 (tm)) x17 x18 x2 ms r1 r2 w1) := ⟨F.q2, F.q3, fun _ => (show _ from (by simp [hdep] : d_ 4 = true)), fun h => rfl, F.q7, fun h => ⟨(F.q8 h).1, (F.q8 h).2.1, (F.q8 h).2.2.1, (F.q8 h).2.2.2.1, (F.q8 h).2.2.2.2.1, rfl, (F.q8 h).2.2.2.2.2.2.1, (F.q8 h).2.2.2.2.2.2.2⟩, F.f0, F.f1, F.f2, F.f3, F.f4, fun _ => rfl, F.f6, F.f7, F.f8, F.g8, F.st0, F.st1, F.st2, F.mz⟩
      clear F
      go_simp
      exact HK.out _ _ ⟨_, _, _, _, _, _, _, _, _, _, _, _, rfl, HF.out⟩
    · obtain rfl := F.f5 (by simp [hdep])
      have HF : Hid (num36F r0 n m b4 ai ci tm S0 S1 S2 (upd d_ 6) x11 x12 x13 x14 x15 (.int .i64 (tm)) (.slice (some ⟨w1.heap.size, 0, none⟩) 1 1) x18 x2 w1.heap.size r1 r2 (w1.alloc (.cells #[.int .i64 (tm)] 3))) := ⟨F.q2, F.q3, F.q5, fun _ => (show _ from (by simp [hdep] : d_ 5 = true)), fun h => ⟨(F.q7 h).1, rfl⟩, fun h => ⟨(F.q8 h).1, (F.q8 h).2.1, (F.q8 h).2.2.1, (F.q8 h).2.2.2.1, (F.q8 h).2.2.2.2.1, (F.q8 h).2.2.2.2.2.1, rfl, (F.q8 h).2.2.2.2.2.2.2⟩, F.f0, F.f1, F.f2, F.f3, F.f4, F.f5, fun _ => rfl, F.f7, F.f8, F.g8, fun b => ks0.out w1 (by have h := F.st0 b; rw [show d_ 6 = false from hd_, F.mz hd_] at h; exact h), fun a b => ks1.out r1 w1 (by have h := F.st1 a b; rw [show d_ 6 = false from hd_, F.mz hd_] at h; exact h), fun a => (by have h2 : d_ 6 = true := (F.q7 a).2; rw [show d_ 6 = false from hd_] at h2; cases h2), fun h => (by simp [upd] at h)⟩
      clear F
      go_simp
      exact HK.out _ _ ⟨_, _, _, _, _, _, _, _, _, _, _, _, rfl, HF.out⟩
    · have hS := F.st1 (by simp [hdep] : d_ 3 = true) hd_
      rw [show d_ 6 = true from (by simp [hdep] : d_ 6 = true)] at hS
      obtain rfl := F.f3 (by simp [hdep])
      obtain rfl := F.f6 (by simp [hdep])
      obtain ⟨v_, w_, hr, hres⟩ := kc7.out ms r1 w1 hS
      rw [if_pos (by rfl)]
      refine wpIn_append_run (.tmp 14) (.tmp 17) 24 rfl _ _ _ _ rfl rfl hr ?_
      exact HK.out _ _ ⟨_, _, _, _, _, _, _, _, _, ms, r1, v_, rfl, ⟨F.q2, F.q3, F.q5, F.q6, fun _ => ⟨(show _ from (by simp [hdep] : d_ 3 = true)), (show _ from (by simp [hdep] : d_ 6 = true))⟩, fun h => ⟨(F.q8 h).1, (F.q8 h).2.1, (F.q8 h).2.2.1, (F.q8 h).2.2.2.1, (F.q8 h).2.2.2.2.1, (F.q8 h).2.2.2.2.2.1, (F.q8 h).2.2.2.2.2.2.1, rfl⟩, F.f0, F.f1, F.f2, F.f3, F.f4, F.f5, F.f6, fun _ => rfl, fun h => (by have h2 : d_ 7 = true := (F.q8 h).2.2.2.2.2.2.2; rw [show d_ 7 = false from hd_] at h2; cases h2), F.g8, fun h => (by have h2 : d_ 3 = false := h; rw [(by simp [hdep] : d_ 3 = true)] at h2; cases h2), fun _ h => (by simp [upd] at h), fun _ => (by rw [show upd d_ 7 6 = true from (by simp [hdep] : d_ 6 = true)]; exact hres), F.mz⟩⟩
    · obtain rfl := F.f7 (by simp [hdep])
      have HF : Hid (num36F r0 n m b4 ai ci tm S0 S1 S2 (upd d_ 8) x11 x12 x13 x14 x15 x16 x17 (.slice r2.1 (n + m + 1) r2.2) (.slice r2.1 (n + m + 1) r2.2) ms r1 r2 w1) := ⟨F.q2, F.q3, F.q5, F.q6, F.q7, fun _ => ⟨(show _ from (by simp [hdep] : d_ 0 = true)), (show _ from (by simp [hdep] : d_ 1 = true)), (show _ from (by simp [hdep] : d_ 2 = true)), (show _ from (by simp [hdep] : d_ 3 = true)), (show _ from (by simp [hdep] : d_ 4 = true)), (show _ from (by simp [hdep] : d_ 5 = true)), (show _ from (by simp [hdep] : d_ 6 = true)), (show _ from (by simp [hdep] : d_ 7 = true))⟩, F.f0, F.f1, F.f2, F.f3, F.f4, F.f5, F.f6, F.f7, fun _ => rfl, fun h => (by simp [upd] at h), F.st0, F.st1, F.st2, F.mz⟩
      clear F
      go_simp
      exact HK.out _ _ ⟨_, _, _, _, _, _, _, _, _, _, _, _, rfl, HF.out⟩
  · rintro d_ a_ w1 hall ⟨x11, x12, x13, x14, x15, x16, x17, x18, x2, ms, r1, r2, rfl, F⟩
    have hall' : ∀ k, k < 9 → d_ k = true := hall
    obtain rfl := F.f0 (hall' 0 (by decide))
    obtain rfl := F.f1 (hall' 1 (by decide))
    obtain rfl := F.f2 (hall' 2 (by decide))
    obtain rfl := F.f3 (hall' 3 (by decide))
    obtain rfl := F.f4 (hall' 4 (by decide))
    obtain rfl := F.f5 (hall' 5 (by decide))
    obtain rfl := F.f6 (hall' 6 (by decide))
    obtain rfl := F.f7 (hall' 7 (by decide))
    obtain rfl := F.f8 (hall' 8 (by decide))
    have hst := F.st2 (hall' 7 (by decide))
    rw [show d_ 6 = true from hall' 6 (by decide)] at hst
    exact HQ.out ms r1 r2 w1 hst
set_option maxRecDepth 100000 in
set_option maxHeartbeats 4000000 in
theorem numbers36 {l : List Fme} {a : Option Addr} {c : Nat} {w : World} (ha : IsFmes w a l) (hl : l.length ≤ 2) (hs : ∀ f ∈ l, f.slots.length ≤ 20) :
    Calls Try.prog 36 #[.slice a l.length c] w fun e w' => ∃ r : Option Addr × Nat, e = .returned (.slice r.1 (numsL l).length r.2) ∧ IsInts w' r.1 (numsL l) ∧ Below w.heap.size w w' := by
  have HX := Lib.hid ha
  have HS := Lib.hid hs
  clear ha hs
  generalize hw1 : w = w1 at *
  clear hw1
  go_enter Try.func36, Try.ntmps36
  refine wp_seq_hid ?_
  intro K0 HK0
  go_wp2_with fail
  refine HK0.out _ _ ?_
  clear HK0 K0
  refine wp_seq_hid ?_
  intro K1 HK1
  go_wp2_with fail
  go_loopw [2, 7] (fun v i wr => ∃ (k : Nat) (r : Option Addr × Nat), k ≤ l.length ∧ i = .int .i64 k ∧ v = .slice r.1 (numsL (l.take k)).length r.2 ∧ Hid (NumI w1 (numsL (l.take k)) r wr)) (fun _ i _ => l.length - (intOf i).toNat)
  case atStart => exact ⟨0, (none, 0), by omega, rfl, rfl, ⟨Below.refl _ _, World.ownsRow_nil w1 _ _ _⟩⟩
  case round =>
    obtain ⟨k, r, hk, rfl, rfl, HW⟩ := hrel
    by_cases hlt : k < l.length
    · obtain ⟨bb, off, hab, ai, ci, c0, c1, c2⟩ := (HX.out.mono HW.out.le) k hlt
      rw [hab]
      have HAB := Lib.hid hab
      have HLN := Lib.hid (numsL_len hl HS.out hk)
      have HRO : Hid (∀ q, (Value.slice r.1 (numsL (l.take k)).length r.2).ownBlock = some q → w1.heap.size ≤ q ∧ q < wr.heap.size) := fun q hq => HW.out.own.lt q hq
      have HZ5 : Hid (wr.heap.size < (wr.alloc (.cells ((gf l k).arr ai ci) 29)).heap.size) := by show _ < _; simp
      have HLS := Lib.hid (HS.out (gf l k) (by simp [gf, hlt]))
      have HT := Lib.hid (numsL_take hlt)
      have hb5 : Below wr.heap.size wr (wr.alloc (.cells ((gf l k).arr ai ci) 29)) := (Below.refl _ wr).alloc (Nat.le_refl _) _
      have q5 := World.alloc_heap_new wr (.cells ((gf l k).arr ai ci) 29)
      have H5 := Lib.hid (And.intro q5 (And.intro (HW.out.mono hb5) (c2.mono hb5)))
      clear hab hb5 q5 c2
      revert HLN HRO HZ5 HLS HT H5 c0 c1
      generalize gf l k = f
      generalize numsL (l.take k) = pre
      intro c0 c1 HLN HRO HZ5 HLS HT H5
      go_upto_region 4 with fail
      clear c0 c1
      revert H5 HZ5 HRO
      generalize wr.alloc (.cells (f.arr ai ci) 29) = w5
      generalize wr.heap.size = b4
      intro HRO HZ5 H5
      refine wpIn_wide.1 (num36 (r0 := r) (n := pre.length) (m := f.slots.length) (b4 := b4) (ai := ai) (ci := ci) (tm := f.times)
        (S0 := fun fs ms v => NumI w1 pre r v ∧ Below w5.heap.size w5 v ∧ (fs = true → v.heap[ms]? = some (.cells #[.int .i64 f.times] 3 (0, 0)) ∧ w5.heap.size ≤ ms))
        (S1 := fun fs ms r1 v => NumI w1 (pre ++ f.slots) r1 v ∧ (v.heap[b4]? = some (.cells (f.arr ai ci) 29 (0, 0))) ∧ (fs = true → v.heap[ms]? = some (.cells #[.int .i64 f.times] 3 (0, 0))))
        (S2 := fun fs ms r1 r2 v => NumI w1 (pre ++ f.slots ++ [f.times]) r2 v) ?h0 ?l2 ?c3 ?l5 ?s0 ?s1 ?c7 ?hQ)
      case h0 => exact ⟨H5.out.2.1.mono (Below.refl _ _).drew, (Below.refl _ _).drew, fun h => by cases h⟩
      case l2 => exact fun fs ms v h => by rw [cell_of_heap ((h.2.1.block _ (heap_lt H5.out.1)).trans H5.out.1)]; rfl
      case c3 =>
        intro fs ms v h
        obtain ⟨r1, w', hr, hb, ho, hk⟩ := app_ints (cv := ci) rfl (by have := HLN.out; have := HLS.out; omega) h.1.le h.1.own (H5.out.2.2.mono h.2.1)
        have hne : ∀ k, w5.heap.size ≤ k ∨ k = b4 → (Value.slice r.1 pre.length r.2).ownBlock ≠ some k := fun k hk e => by
          have := (HRO.out k e).2
          rcases hk with hk | hk
          · have := HZ5.out; omega
          · subst hk; have := HZ5.out; omega
        refine ⟨r1, w', hr, ⟨hb, by rw [List.length_append]; exact ho⟩, (hk _ (Nat.lt_of_lt_of_le (heap_lt H5.out.1) h.2.1.size) (hne _ (.inr rfl))).trans ((h.2.1.block _ (heap_lt H5.out.1)).trans H5.out.1), fun hf => (hk _ (heap_lt (h.2.2 hf).1) (hne _ (.inl (h.2.2 hf).2))).trans (h.2.2 hf).1⟩
      case l5 =>
        intro fs ms r1 v h
        rcases h with h | h
        · rw [cell_of_heap ((h.2.1.block _ (heap_lt H5.out.1)).trans H5.out.1)]; rfl
        · rw [cell_of_heap h.2.1]; rfl
      case s0 =>
        intro v h
        have hba : Below v.heap.size v (v.alloc (.cells #[.int .i64 f.times] 3)) := (Below.refl _ _).alloc (Nat.le_refl _) _
        exact ⟨h.1.mono hba, h.2.1.trans (hba.mono h.2.1.size), fun _ => ⟨World.alloc_heap_new v _, h.2.1.size⟩⟩
      case s1 =>
        intro r1 v h
        have hba : Below v.heap.size v (v.alloc (.cells #[.int .i64 f.times] 3)) := (Below.refl _ _).alloc (Nat.le_refl _) _
        exact ⟨h.1.mono hba, (hba.block _ (heap_lt h.2.1)).trans h.2.1, fun _ => World.alloc_heap_new v _⟩
      case c7 =>
        intro ms r1 v h
        have hi : IsInts v (some ⟨ms, 0, none⟩) [f.times] := fun i hi => by
          have : i = 0 := by simpa using hi
          subst this
          exact ⟨ms, 0, rfl, by rw [cell_of_heap (h.2.2 rfl)]; rfl⟩
        have hl1 : (pre ++ f.slots).length = pre.length + f.slots.length := List.length_append
        obtain ⟨r2, w', hr, hb, ho, hk⟩ := app_ints (m := [f.times]) (cv := 1) hl1.symm (by rw [hl1]; have := HLN.out; have := HLS.out; simp; omega) h.1.le (by have := h.1.own; rw [hl1] at this; exact this) hi
        refine ⟨r2, w', hr, hb, ?_⟩
        have e : (pre ++ f.slots ++ [f.times]).length = pre.length + f.slots.length + [f.times].length := by rw [List.length_append, List.length_append]
        rw [e]; exact ho
      intro ms r1 r2 w' h
      have H6 : Hid (NumI w1 (pre ++ f.slots ++ [f.times]) r2 w') := h
      have hlen : (pre ++ f.slots ++ [f.times]).length = pre.length + f.slots.length + 1 := by rw [List.length_append, List.length_append]; rfl
      have HLE := Lib.hid hlen
      clear h hlen
      go_wp2_with fail
      go_roundw
      case rel => exact ⟨k + 1, r2, by omega, by go_num, by rw [HT.out, HLE.out], by rw [HT.out]; exact H6.out⟩
      case measure => simp [intOf]; omega
    · have hke : l.take k = l := List.take_of_length_le (by omega)
      rw [hke] at HW ⊢
      have HI := Lib.hid (own_ints HW.out.own)
      have HLE := Lib.hid HW.out.le
      clear hke HW
      go_wp2_with fail
      refine HK1.out _ _ ?_
      go_wp2_with fail
      go_ret
      exact ⟨r, rfl, HI.out, HLE.out⟩
end Go.Proofs.Ytjkhclijmcmdjaa
namespace Go.Proofs.Ytjkhclijmcmdjaa
set_option linter.unusedVariables false
set_option linter.unusedSimpArgs false
theorem open_ok {p : Prs} (hV : p.valid = true) {b : Bool} : p.openE b = if b then 0 else 2 := by
  unfold Prs.openE
  cases b <;> simp [hV]
theorem open_bad {p : Prs} (hV : p.valid = false) {b : Bool} : p.openE b = 1 := by
  unfold Prs.openE
  simp [hV]
theorem planOk_of {p : Prs} {l : List Fme} (h : planOk p l = true) : (l.length : Int) ≤ p.formes ∧ ∀ f ∈ l, fmeOk p f = true := by
  unfold planOk at h
  simpa using h
theorem sure_plan {p : Prs} {l : List Fme} (h : p.Sure l) : planOk p l = true := by
  unfold planOk
  simpa using ⟨h.1, h.2.1⟩
theorem check_sure {p : Prs} (hV : p.valid = true) {l : List Fme} (h : p.Sure l) : checkE p l = (0, 0) := by
  unfold checkE
  rw [open_ok hV, sure_plan h]
  simp [h.2.2]
theorem cost_plan {p : Prs} (hV : p.valid = true) {l : List Fme} (h : planOk p l = true) : costE p l = (p.cost l, 0) := by
  unfold costE
  rw [open_ok hV, h]
  simp
theorem check_plan {p : Prs} (hV : p.valid = true) {l : List Fme} (h : planOk p l = true) : checkE p l = (0, 0) ∧ p.few l = none ∨ ∃ v : Nat, checkE p l = ((v : Int), 10) ∧ p.few l = some v := by
  unfold checkE
  rw [open_ok hV, h]
  cases hf : p.few l with
  | none => left; simp
  | some v => right; exact ⟨v, by simp, rfl⟩
/-- What a check says of a list: it is a plan that surely gives what is wanted, or it is not. -/
theorem check_cases {p : Prs} (hV : p.valid = true) (l : List Fme) : (checkE p l = (0, 0) ∧ p.Sure l) ∨ (∃ x : Int, checkE p l = (x, 10) ∧ planOk p l = true ∧ ¬ p.Sure l) ∨ (checkE p l = (0, 2) ∧ planOk p l = false ∧ ¬ p.Sure l) := by
  by_cases h : planOk p l = true
  · rcases check_plan hV h with ⟨h1, h2⟩ | ⟨v, h1, h2⟩
    · exact .inl ⟨h1, (planOk_of h).1, (planOk_of h).2, h2⟩
    · exact .inr (.inl ⟨v, h1, h, fun hs => by rw [hs.2.2] at h2; cases h2⟩)
  · have h' : planOk p l = false := by simpa using h
    refine .inr (.inr ⟨?_, h', fun hs => h (sure_plan hs)⟩)
    unfold checkE
    rw [open_ok hV, h']
    simp
theorem best_cases {p : Prs} (hV : p.valid = true) : (bestE p = ([], 0, 10) ∧ ∀ l, ¬ p.Sure l) ∨ ∃ b, bestE p = (b, p.cost b, 0) ∧ p.Sure b ∧ ∀ l, p.Sure l → cmpL (p.key b) (p.key l) ≤ 0 := by
  rcases best_law hV with ⟨h1, h2⟩ | ⟨b, h1, h2, h3⟩
  · left
    refine ⟨?_, h2⟩
    unfold bestE
    rw [open_ok hV]
    simp [h1]
  · right
    refine ⟨b, ?_, h2, h3⟩
    unfold bestE
    rw [open_ok hV]
    simp [h1]
theorem bad_best {p : Prs} (hV : p.valid = false) : bestE p = ([], 0, 1) := by
  unfold bestE
  rw [open_bad hV]
  simp
theorem bad_check {p : Prs} (hV : p.valid = false) (l : List Fme) : checkE p l = (0, 1) := by
  unfold checkE
  rw [open_bad hV]
  simp
theorem sure_nums {p : Prs} (hV : p.valid = true) {x y : List Fme} (hx : p.Sure x) (hy : p.Sure y) (hl : x.length = y.length) : (numsL x).length = (numsL y).length := by
  have each : ∀ {l : List Fme}, (∀ f ∈ l, fmeOk p f = true) → (numsL l).length = l.length * (p.wanted.length + 1) := fun {l} h => by
    induction l with
    | nil => simp [numsL]
    | cons f r ih =>
      have e : numsL (f :: r) = (f.slots ++ [f.times]) ++ numsL r := rfl
      rw [e, List.length_append, ih (fun g hg => h g (by simp [hg])), List.length_append, (fme_parts (h f (by simp))).1]
      have e2 : (f :: r).length = r.length + 1 := rfl
      have e3 : ([f.times] : List Int).length = 1 := rfl
      rw [e2, e3, Nat.add_mul, Nat.one_mul, Nat.add_comm]
  rw [each hx.2.1, each hy.2.1, hl]
theorem cmp_at : ∀ {a b : List Int} {k : Nat}, cmpL a b ≤ 0 → k < a.length → k < b.length → (∀ j, j < k → gi a j = gi b j) → gi a k ≤ gi b k
  | [], _, _, _, h, _, _ => by simp at h
  | _ :: _, [], _, _, _, h, _ => by simp at h
  | x :: a, y :: b, 0, h, _, _, _ => by
    rw [keyL_cons] at h
    show x ≤ y
    omega
  | x :: a, y :: b, k + 1, h, h1, h2, he => by
    rw [keyL_cons] at h
    have e0 : x = y := he 0 (by omega)
    show gi a k ≤ gi b k
    rcases h with h | ⟨_, h⟩
    · omega
    · exact cmp_at h (by simpa using h1) (by simpa using h2) fun j hj => he (j + 1) (by omega)
end Go.Proofs.Ytjkhclijmcmdjaa
namespace Go.Proofs.Ytjkhclijmcmdjaa
open Go.RowKit
set_option linter.unusedVariables false
set_option linter.unusedSimpArgs false
theorem cf36 (args : Array Value) (w : World) : (callFunc 36 args).run Try.prog w = .ok (.enter 36 args) w := by simp [callFunc, Try.func36, Try.f36, go_sem]
set_option maxRecDepth 100000 in
set_option maxHeartbeats 8000000 in
theorem stockCheap_any {p : Prs} {A : PrsA} {w : World} (hP : IsPrs w p A) {o : List Fme} {av : Option Addr} {cv : Nat} (hl : IsFmes w av o) :
    Calls Try.prog 7 #[p.v A, .slice av o.length cv] w fun e w' => e = .returned (.bool true) ∧ Below w.heap.size w w' := by
  have hb0 : Below w.heap.size w (w.alloc (.cells (p.arr A) 27)) := (Below.refl _ w).alloc (Nat.le_refl _) _
  have q0 := World.alloc_heap_new w (.cells (p.arr A) 27)
  have HW := Lib.hid (And.intro hb0 (And.intro q0 (And.intro (hP.mono hb0) (hl.mono hb0))))
  clear hb0 q0 hP hl
  go_enter Try.func7, Try.ntmps7
  refine wp_seq_hid ?_
  intro K0 HK0
  go_wp2_with fail
  refine HK0.out _ _ ?_
  clear HK0 K0
  refine wp_seq_hid ?_
  intro K1 HK1
  revert HW
  generalize w.alloc (.cells (p.arr A) 27) = w1
  intro HW
  have KP : Hid (∀ v, Below w1.heap.size w1 v → PrsC v w.heap.size p A ∧ IsPrs v p A ∧ IsFmes v av o ∧ Below w.heap.size w v) := fun v h => ⟨prs_cells ((h.block _ (heap_lt HW.out.2.1)).trans HW.out.2.1), HW.out.2.2.1.mono h, HW.out.2.2.2.mono h, HW.out.1.trans (h.mono HW.out.1.size)⟩
  have HB := Lib.hid (Below.refl w1.heap.size w1)
  have hcf := cf36
  obtain ⟨k0, k1, k2, k3, k4, k5, k6, k7, k8, k9⟩ := (KP.out w1 HB.out).1
  go_wp2_with fail
  refine (far13 (c := cv) (KP.out w1 HB.out).2.1 (KP.out w1 HB.out).2.2.1).mono ?_
  rintro e b1 ⟨rfl, hb⟩
  have HX := Lib.hid (HB.out.trans (hb.mono HB.out.size))
  clear hb HB k0 k1 k2 k3 k4 k5 k6 k7 k8 k9
  have HB := HX
  clear HX
  cases hf : farB p o
  case true =>
    go_wp2_with fail
    refine (awake14 (w := _)).mono ?_
    rintro e c1 ⟨rfl, hb⟩
    have HX := Lib.hid (HB.out.trans (hb.mono HB.out.size))
    clear hb
    go_wp2_with fail
    go_ret
    exact ⟨rfl, (KP.out _ HX.out).2.2.2⟩
  have HS := Lib.hid (far_small hf)
  clear hf
  obtain ⟨k0, k1, k2, k3, k4, k5, k6, k7, k8, k9⟩ := (KP.out b1 HB.out).1
  go_wp2_with fail
  refine (heavy22 (r := 4) (n := 20) (KP.out b1 HB.out).2.1 HS.out.1).mono ?_
  rintro e b2 ⟨rfl, hb⟩
  have HX := Lib.hid (HB.out.trans (hb.mono HB.out.size))
  clear hb HB k0 k1 k2 k3 k4 k5 k6 k7 k8 k9
  have HB := HX
  clear HX
  cases hh : heavyB p 4 20
  case true =>
    go_wp2_with fail
    refine (awake14 (w := _)).mono ?_
    rintro e c1 ⟨rfl, hb⟩
    have HX := Lib.hid (HB.out.trans (hb.mono HB.out.size))
    clear hb
    go_wp2_with fail
    go_ret
    exact ⟨rfl, (KP.out _ HX.out).2.2.2⟩
  clear hh
  have HF : Hid (o.length ≤ 1000 ∧ ∀ f ∈ o, f.slots.length ≤ 1000) := ⟨by have := HS.out.2.1; omega, fun f hf => by have := HS.out.2.2 f hf; omega⟩
  have C17 : Hid (∀ (x y : Int), checkE p o = (x, y) → ∀ v, Below w1.heap.size w1 v → Calls Try.prog 17 #[p.v A, .slice av o.length cv] v fun e w' => e = .returned (.tuple #[.int .i64 x, .int .i64 y]) ∧ Below v.heap.size v w') := fun x y he v h => by
    have G := check17 (c := cv) (KP.out v h).2.1 HS.out.1 (KP.out v h).2.2.1 HF.out.1 HF.out.2
    rw [he] at G
    exact G
  have C23 : Hid (∀ (l : List Fme) (n x : Int), bestE p = (l, n, x) → ∀ v, Below w1.heap.size w1 v → Calls Try.prog 23 #[p.v A] v fun e w' => ∃ a c, e = .returned (.tuple #[.slice a l.length c, .int .i64 n, .int .i64 x]) ∧ IsFmes w' a l ∧ Below v.heap.size v w') := fun l n x he v h => by
    have G := best23 (KP.out v h).2.1 HS.out.1
    rw [he] at G
    exact G
  have C33 : Hid (∀ b, p.valid = b → ∀ v, Below w1.heap.size w1 v → Calls Try.prog 33 #[p.v A] v fun e w' => e = .returned (.bool b) ∧ Below v.heap.size v w') := fun b he v h => by
    have G := rpress33 (KP.out v h).2.1 HS.out.1
    rw [he] at G
    exact G
  go_wp2_with fail
  refine HK1.out _ _ ?_
  clear HK1 K1
  refine wp_seq_hid ?_
  intro K2 HK2
  cases hv : p.valid
  case false =>
    have hbb := bad_best hv
    have hbc := bad_check hv o
    obtain ⟨k0, k1, k2, k3, k4, k5, k6, k7, k8, k9⟩ := (KP.out b2 HB.out).1
    go_wp2_with fail
    refine (C23.out _ _ _ hbb _ HB.out).mono ?_
    rintro e b3 ⟨a1, c1, rfl, hf1, hb⟩
    have HX := Lib.hid (And.intro (HB.out.trans (hb.mono HB.out.size)) hf1)
    clear hb HB hbb k0 k1 k2 k3 k4 k5 k6 k7 k8 k9 hf1
    have HB := HX
    clear HX
    go_wp2_with fail
    refine HK2.out _ _ ?_
    clear HK2 K2
    refine wp_seq_hid ?_
    intro K3 HK3
    obtain ⟨k0, k1, k2, k3, k4, k5, k6, k7, k8, k9⟩ := (KP.out b3 HB.out.1).1
    go_wp2_with fail
    refine (C17.out _ _ hbc _ HB.out.1).mono ?_
    rintro e b4 ⟨rfl, hb⟩
    have HX := Lib.hid (And.intro (HB.out.1.trans (hb.mono HB.out.1.size)) (HB.out.2.mono hb))
    clear hb HB hbc k0 k1 k2 k3 k4 k5 k6 k7 k8 k9
    have HB := HX
    clear HX
    obtain ⟨k0, k1, k2, k3, k4, k5, k6, k7, k8, k9⟩ := (KP.out b4 HB.out.1).1
    go_wp2_with fail
    refine (C33.out _ hv _ HB.out.1).mono ?_
    rintro e b5 ⟨rfl, hb⟩
    have HX := Lib.hid (And.intro (HB.out.1.trans (hb.mono HB.out.1.size)) (HB.out.2.mono hb))
    clear hb HB k0 k1 k2 k3 k4 k5 k6 k7 k8 k9
    have HB := HX
    clear HX
    go_wp2_with fail
    refine (awake14 (w := _)).mono ?_
    rintro e c1 ⟨rfl, hb⟩
    have HX := Lib.hid (HB.out.1.trans (hb.mono HB.out.1.size))
    clear hb
    go_wp2_with fail
    go_ret
    exact ⟨rfl, (KP.out _ HX.out).2.2.2⟩
  have HV := Lib.hid hv
  rcases best_cases hv with ⟨hE, hno⟩ | ⟨b, hE, hS, hmin⟩
  · obtain ⟨k0, k1, k2, k3, k4, k5, k6, k7, k8, k9⟩ := (KP.out b2 HB.out).1
    go_wp2_with fail
    refine (C23.out _ _ _ hE _ HB.out).mono ?_
    rintro e b6 ⟨a1, c1, rfl, hf1, hb⟩
    have HX := Lib.hid (And.intro (HB.out.trans (hb.mono HB.out.size)) hf1)
    clear hb HB hE k0 k1 k2 k3 k4 k5 k6 k7 k8 k9 hf1
    have HB := HX
    clear HX
    go_wp2_with fail
    refine HK2.out _ _ ?_
    clear HK2 K2
    refine wp_seq_hid ?_
    intro K3 HK3
    rcases check_cases hv o with ⟨hc, hs⟩ | ⟨y, hc, hp, hs⟩ | ⟨hc, hp, hs⟩
    · exact absurd hs (hno o)
    · obtain ⟨k0, k1, k2, k3, k4, k5, k6, k7, k8, k9⟩ := (KP.out b6 HB.out.1).1
      go_wp2_with fail
      refine (C17.out _ _ hc _ HB.out.1).mono ?_
      rintro e b7 ⟨rfl, hb⟩
      have HX := Lib.hid (And.intro (HB.out.1.trans (hb.mono HB.out.1.size)) (HB.out.2.mono hb))
      clear hb HB hc hp hs hno k0 k1 k2 k3 k4 k5 k6 k7 k8 k9
      have HB := HX
      clear HX
      obtain ⟨k0, k1, k2, k3, k4, k5, k6, k7, k8, k9⟩ := (KP.out b7 HB.out.1).1
      go_wp2_with fail
      refine (C33.out _ HV.out _ HB.out.1).mono ?_
      rintro e b8 ⟨rfl, hb⟩
      have HX := Lib.hid (And.intro (HB.out.1.trans (hb.mono HB.out.1.size)) (HB.out.2.mono hb))
      clear hb HB k0 k1 k2 k3 k4 k5 k6 k7 k8 k9
      have HB := HX
      clear HX
      go_wp2_with fail
      refine (awake14 (w := _)).mono ?_
      rintro e c1 ⟨rfl, hb⟩
      have HX := Lib.hid (HB.out.1.trans (hb.mono HB.out.1.size))
      clear hb
      go_wp2_with fail
      go_ret
      exact ⟨rfl, (KP.out _ HX.out).2.2.2⟩
    · obtain ⟨k0, k1, k2, k3, k4, k5, k6, k7, k8, k9⟩ := (KP.out b6 HB.out.1).1
      go_wp2_with fail
      refine (C17.out _ _ hc _ HB.out.1).mono ?_
      rintro e b9 ⟨rfl, hb⟩
      have HX := Lib.hid (And.intro (HB.out.1.trans (hb.mono HB.out.1.size)) (HB.out.2.mono hb))
      clear hb HB hc hp hs hno k0 k1 k2 k3 k4 k5 k6 k7 k8 k9
      have HB := HX
      clear HX
      obtain ⟨k0, k1, k2, k3, k4, k5, k6, k7, k8, k9⟩ := (KP.out b9 HB.out.1).1
      go_wp2_with fail
      refine (C33.out _ HV.out _ HB.out.1).mono ?_
      rintro e b10 ⟨rfl, hb⟩
      have HX := Lib.hid (And.intro (HB.out.1.trans (hb.mono HB.out.1.size)) (HB.out.2.mono hb))
      clear hb HB k0 k1 k2 k3 k4 k5 k6 k7 k8 k9
      have HB := HX
      clear HX
      go_wp2_with fail
      refine (awake14 (w := _)).mono ?_
      rintro e c1 ⟨rfl, hb⟩
      have HX := Lib.hid (HB.out.1.trans (hb.mono HB.out.1.size))
      clear hb
      go_wp2_with fail
      go_ret
      exact ⟨rfl, (KP.out _ HX.out).2.2.2⟩
  · have HC := Lib.hid (And.intro hS hmin)
    have HPL := Lib.hid (sure_plan hS)
    have HL2 : Hid (b.length ≤ 2 ∧ ∀ f ∈ b, f.slots.length ≤ 4) := ⟨by have h1 := hS.1; have h2 := formes_of hv; omega, fun f hf => by have h1 := (fme_parts (hS.2.1 f hf)).1; have h2 := wanted_of hv; omega⟩
    have HCK := Lib.hid (check_sure hv hS)
    have HCO := Lib.hid (cost_plan hv (sure_plan hS))
    generalize hn : p.cost b = n at hE HCO
    have HN := Lib.hid hn
    clear hS hmin hn
    obtain ⟨k0, k1, k2, k3, k4, k5, k6, k7, k8, k9⟩ := (KP.out b2 HB.out).1
    go_wp2_with fail
    refine (C23.out _ _ _ hE _ HB.out).mono ?_
    rintro e b11 ⟨a1, c1, rfl, hf1, hb⟩
    have HX := Lib.hid (And.intro (HB.out.trans (hb.mono HB.out.size)) hf1)
    clear hb HB hE k0 k1 k2 k3 k4 k5 k6 k7 k8 k9 hf1
    have HB := HX
    clear HX
    go_wp2_with fail
    refine HK2.out _ _ ?_
    clear HK2 K2
    refine wp_seq_hid ?_
    intro K3 HK3
    go_wp2_with fail
    refine HK3.out _ _ ?_
    clear HK3 K3
    refine wp_seq_hid ?_
    intro K4 HK4
    clear hv
    obtain ⟨k0, k1, k2, k3, k4, k5, k6, k7, k8, k9⟩ := (KP.out b11 HB.out.1).1
    go_wp2_with fail
    refine (C33.out _ HV.out _ HB.out.1).mono ?_
    rintro e b12 ⟨rfl, hb⟩
    have HX := Lib.hid (And.intro (HB.out.1.trans (hb.mono HB.out.1.size)) (HB.out.2.mono hb))
    clear hb HB k0 k1 k2 k3 k4 k5 k6 k7 k8 k9
    have HB := HX
    clear HX
    have G := rplan34 (p := p) (A := A) (c := c1) HB.out.2 (by have := HL2.out.1; omega) (fun f hf => by have := HL2.out.2 f hf; omega)
    rw [HPL.out] at G
    obtain ⟨k0, k1, k2, k3, k4, k5, k6, k7, k8, k9⟩ := (KP.out b12 HB.out.1).1
    go_wp2_with fail
    refine (G).mono ?_
    rintro e b13 ⟨rfl, hb⟩
    have HX := Lib.hid (And.intro (HB.out.1.trans (hb.mono HB.out.1.size)) (HB.out.2.mono hb))
    clear hb HB G k0 k1 k2 k3 k4 k5 k6 k7 k8 k9
    have HB := HX
    clear HX
    go_wp2_with fail
    refine HK4.out _ _ ?_
    clear HK4 K4
    refine wp_seq_hid ?_
    intro K5 HK5
    have G := check17 (c := c1) (KP.out b13 HB.out.1).2.1 HS.out.1 HB.out.2 (by have := HL2.out.1; omega) (fun f hf => by have := HL2.out.2 f hf; omega)
    rw [HCK.out] at G
    obtain ⟨k0, k1, k2, k3, k4, k5, k6, k7, k8, k9⟩ := (KP.out b13 HB.out.1).1
    go_wp2_with fail
    refine (G).mono ?_
    rintro e b14 ⟨rfl, hb⟩
    have HX := Lib.hid (And.intro (HB.out.1.trans (hb.mono HB.out.1.size)) (HB.out.2.mono hb))
    clear hb HB G k0 k1 k2 k3 k4 k5 k6 k7 k8 k9
    have HB := HX
    clear HX
    go_wp2_with fail
    refine HK5.out _ _ ?_
    clear HK5 K5
    refine wp_seq_hid ?_
    intro K6 HK6
    have G := cost19 (c := c1) (KP.out b14 HB.out.1).2.1 HS.out.1 HB.out.2 (by have := HL2.out.1; omega) (fun f hf => by have := HL2.out.2 f hf; omega)
    rw [HCO.out] at G
    obtain ⟨k0, k1, k2, k3, k4, k5, k6, k7, k8, k9⟩ := (KP.out b14 HB.out.1).1
    go_wp2_with fail
    refine (G).mono ?_
    rintro e b15 ⟨rfl, hb⟩
    have HX := Lib.hid (And.intro (HB.out.1.trans (hb.mono HB.out.1.size)) (HB.out.2.mono hb))
    clear hb HB G k0 k1 k2 k3 k4 k5 k6 k7 k8 k9
    have HB := HX
    clear HX
    go_wp2_with fail
    refine HK6.out _ _ ?_
    clear HK6 K6
    refine wp_seq_hid ?_
    intro K7 HK7
    go_wp2_with fail
    refine HK7.out _ _ ?_
    clear HK7 K7
    refine wp_seq_hid ?_
    intro K8 HK8
    rcases check_cases HV.out o with ⟨hc, hs⟩ | ⟨y, hc, hp, hs⟩ | ⟨hc, hp, hs⟩
    rotate_left
    · obtain ⟨k0, k1, k2, k3, k4, k5, k6, k7, k8, k9⟩ := (KP.out b15 HB.out.1).1
      go_wp2_with fail
      refine (C17.out _ _ hc _ HB.out.1).mono ?_
      rintro e b16 ⟨rfl, hb⟩
      have HX := Lib.hid (And.intro (HB.out.1.trans (hb.mono HB.out.1.size)) (HB.out.2.mono hb))
      clear hb HB hc hp hs k0 k1 k2 k3 k4 k5 k6 k7 k8 k9
      have HB := HX
      clear HX
      go_wp2_with fail
      refine (awake14 (w := _)).mono ?_
      rintro e c1 ⟨rfl, hb⟩
      have HX := Lib.hid (HB.out.1.trans (hb.mono HB.out.1.size))
      clear hb
      go_wp2_with fail
      go_ret
      exact ⟨rfl, (KP.out _ HX.out).2.2.2⟩
    · obtain ⟨k0, k1, k2, k3, k4, k5, k6, k7, k8, k9⟩ := (KP.out b15 HB.out.1).1
      go_wp2_with fail
      refine (C17.out _ _ hc _ HB.out.1).mono ?_
      rintro e b17 ⟨rfl, hb⟩
      have HX := Lib.hid (And.intro (HB.out.1.trans (hb.mono HB.out.1.size)) (HB.out.2.mono hb))
      clear hb HB hc hp hs k0 k1 k2 k3 k4 k5 k6 k7 k8 k9
      have HB := HX
      clear HX
      go_wp2_with fail
      refine (awake14 (w := _)).mono ?_
      rintro e c1 ⟨rfl, hb⟩
      have HX := Lib.hid (HB.out.1.trans (hb.mono HB.out.1.size))
      clear hb
      go_wp2_with fail
      go_ret
      exact ⟨rfl, (KP.out _ HX.out).2.2.2⟩
    have HO := Lib.hid hs
    have HKL := Lib.hid (HC.out.2 o hs)
    have HCQ := Lib.hid (cost_plan HV.out (sure_plan hs))
    clear hs
    obtain ⟨k0, k1, k2, k3, k4, k5, k6, k7, k8, k9⟩ := (KP.out b15 HB.out.1).1
    go_wp2_with fail
    refine (C17.out _ _ hc _ HB.out.1).mono ?_
    rintro e b18 ⟨rfl, hb⟩
    have HX := Lib.hid (And.intro (HB.out.1.trans (hb.mono HB.out.1.size)) (HB.out.2.mono hb))
    clear hb HB hc k0 k1 k2 k3 k4 k5 k6 k7 k8 k9
    have HB := HX
    clear HX
    go_wp2_with fail
    refine HK8.out _ _ ?_
    clear HK8 K8
    refine wp_seq_hid ?_
    intro K9 HK9
    generalize hm : p.cost o = m at HCQ
    have HM := Lib.hid hm
    clear hm
    have G := cost19 (c := cv) (KP.out b18 HB.out.1).2.1 HS.out.1 (KP.out _ HB.out.1).2.2.1 HF.out.1 HF.out.2
    rw [HCQ.out] at G
    obtain ⟨k0, k1, k2, k3, k4, k5, k6, k7, k8, k9⟩ := (KP.out b18 HB.out.1).1
    go_wp2_with fail
    refine (G).mono ?_
    rintro e b19 ⟨rfl, hb⟩
    have HX := Lib.hid (And.intro (HB.out.1.trans (hb.mono HB.out.1.size)) (HB.out.2.mono hb))
    clear hb HB G k0 k1 k2 k3 k4 k5 k6 k7 k8 k9
    have HB := HX
    clear HX
    go_wp2_with fail
    refine HK9.out _ _ ?_
    clear HK9 K9
    refine wp_seq_hid ?_
    intro K10 HK10
    have hkl := key_le.1 HKL.out
    rw [HN.out, HM.out] at hkl
    by_cases hlt : n < m
    · have h1 : decide (m < n) = false := by simp; omega
      have h2 : (m == n) = false := by simp; omega
      clear hkl
      go_wp2_with fail
      refine HK10.out _ _ ?_
      clear HK10 K10
      clear h1 h2
      refine wp_seq_hid ?_
      intro K11 HK11
      have h3 : decide (m > n) = true := by simpa using hlt
      go_wp2_with fail
      refine (awake14 (w := _)).mono ?_
      rintro e c1 ⟨rfl, hb⟩
      have HX := Lib.hid (HB.out.1.trans (hb.mono HB.out.1.size))
      clear hb
      go_wp2_with fail
      go_ret
      exact ⟨rfl, (KP.out _ HX.out).2.2.2⟩
    obtain rfl : m = n := by rcases hkl with h | ⟨h, _⟩ <;> omega
    have hkl2 : b.length < o.length ∨ b.length = o.length ∧ cmpL (numsL b) (numsL o) ≤ 0 := by
      rcases hkl with h | ⟨_, h⟩
      · exact absurd h hlt
      · exact h
    have h4 : decide (o.length < b.length) = false := by simp; omega
    clear hkl hlt
    go_wp2_with fail
    refine HK10.out _ _ ?_
    clear HK10 K10
    clear h4
    refine wp_seq_hid ?_
    intro K11 HK11
    by_cases hll : b.length < o.length
    · have h5 : decide (o.length > b.length) = true := by simpa using hll
      clear hkl2
      go_wp2_with fail
      refine (awake14 (w := _)).mono ?_
      rintro e c1 ⟨rfl, hb⟩
      have HX := Lib.hid (HB.out.1.trans (hb.mono HB.out.1.size))
      clear hb
      go_wp2_with fail
      go_ret
      exact ⟨rfl, (KP.out _ HX.out).2.2.2⟩
    have h5 : decide (o.length > b.length) = false := by simpa using hll
    obtain ⟨hle, hcm⟩ : b.length = o.length ∧ cmpL (numsL b) (numsL o) ≤ 0 := by
      rcases hkl2 with h | h
      · exact absurd h hll
      · exact h
    have HNL := Lib.hid (sure_nums HV.out HC.out.1 HO.out hle)
    have HCM := Lib.hid hcm
    have HLE := Lib.hid hle
    clear hkl2 hll hle hcm
    go_wp2_with fail
    refine HK11.out _ _ ?_
    clear HK11 K11
    clear h5
    refine wp_seq_hid ?_
    intro K12 HK12
    go_wp2_with fail
    refine HK12.out _ _ ?_
    clear HK12 K12
    refine wp_seq_hid ?_
    intro K13 HK13
    go_wp2_with fail
    refine (numbers36 (c := c1) HB.out.2 HL2.out.1 (fun f hf => by have := HL2.out.2 f hf; omega)).mono ?_
    rintro e b20 ⟨r1, rfl, hi1, hb⟩
    have HX := Lib.hid (And.intro (HB.out.1.trans (hb.mono HB.out.1.size)) (And.intro (HB.out.2.mono hb) hi1))
    clear hb HB hi1
    have HB := HX
    clear HX
    have G := numbers36 (c := cv) (KP.out _ HB.out.1).2.2.1 (by have := HLE.out; have := HL2.out.1; omega) HS.out.2.2
    rw [← HNL.out] at G
    go_wp2_with fail
    refine (G).mono ?_
    rintro e b21 ⟨r2, rfl, hi2, hb⟩
    have HX := Lib.hid (And.intro (HB.out.1.trans (hb.mono HB.out.1.size)) (And.intro (HB.out.2.1.mono hb) (And.intro (HB.out.2.2.mono hb) hi2)))
    clear hb HB G hi2
    have HB := HX
    clear HX
    go_wp2_with fail
    refine HK13.out _ _ ?_
    clear HK13 K13
    have HNN : Hid ((numsL b).length ≤ 1000) := by
      have := numsL_len (l := b) (k := b.length) HL2.out.1 (fun f hf => by have := HL2.out.2 f hf; omega) (Nat.le_refl _)
      rw [List.take_length] at this
      have := HL2.out.1
      exact Nat.le_trans ‹(numsL b).length ≤ b.length * 21› (by omega)
    have HI := Lib.hid (And.intro HB.out.1 (And.intro HB.out.2.2.1 HB.out.2.2.2))
    clear HB
    revert HNL HCM HI HNN
    generalize numsL b = X
    generalize numsL o = Y
    intro HNL HCM HNN HI
    have hnn := HNN.out
    refine wp_seq_hid ?_
    intro K14 HK14
    go_wp2_with fail
    go_loopw [169] (fun i wr => ∃ k : Nat, k ≤ X.length ∧ i = .int .i64 k ∧ Hid (∀ j, j < k → gi X j = gi Y j) ∧ Below b21.heap.size b21 wr) (fun i _ => X.length - (intOf i).toNat)
    case atStart => exact ⟨0, by omega, rfl, fun j hj => by omega, Below.refl _ _⟩
    case round =>
      obtain ⟨k, hk, rfl, HK, hbr⟩ := hrel
      have HBR := Lib.hid hbr
      clear hbr
      by_cases hlt : k < X.length
      · have hY : k < Y.length := by have := HNL.out; omega
        have hle := cmp_at HCM.out hlt hY HK.out
        obtain ⟨b1, o1, hb1, q1⟩ := (HI.out.2.1.mono HBR.out) k hlt
        obtain ⟨b2, o2, hb2, q2⟩ := (HI.out.2.2.mono HBR.out) k hY
        rw [hb1, hb2]
        have x0 := fun y : Aft wr.heap.size wr => cell_stays y.h q1
        have x1 := fun y : Aft wr.heap.size wr => cell_stays y.h q2
        clear hb1 hb2 q1 q2 hY
        have HXY : Hid (gi X k = gi Y k → gi X k = gi Y k) := fun h => h
        revert x0 x1 hle HXY
        generalize hx : gi X k = x
        generalize hy : gi Y k = y
        intro hle x0 x1 HXY
        have HE := Lib.hid (And.intro hx hy)
        clear hx hy HXY
        have g1 : decide (k ≥ X.length) = false := by simp; omega
        have g2 : decide (x > y) = false := by simp; omega
        go_wp2_with fail
        refine wp_region_aft mixed (by kernel_rfl) ?_
        repeat (go_big_quiet_step (fail))
        refine wpQuiet_nil ?_
        rintro _ ⟨y1, rfl⟩
        have HY1 : Hid (Below wr.heap.size wr y1.v) := y1.h
        have z0 := fun y : Aft y1.v.heap.size y1.v => cell_stays y.h (x0 y1)
        have z1 := fun y : Aft y1.v.heap.size y1.v => cell_stays y.h (x1 y1)
        clear x0 x1 g1 g2
        by_cases hxy : x < y
        · have g3 : decide (x < y) = true := by simpa using hxy
          clear hle hxy
          go_wp2_with fail
          refine wp_region_aft mixed (by kernel_rfl) ?_
          repeat (go_big_quiet_step (fail))
          refine wpQuiet_nil ?_
          rintro _ ⟨y2, rfl⟩
          go_wp2_with fail
          have HX := Lib.hid (HI.out.1.trans ((HBR.out.trans ((HY1.out.trans (y2.h.mono HY1.out.size)).mono HBR.out.size)).mono HI.out.1.size))
          refine HK14.out _ _ ?_
          go_wp2_with fail
          refine (awake14 (w := _)).mono ?_
          rintro e c9 ⟨rfl, hb⟩
          have HX2 := Lib.hid (HX.out.trans (hb.mono HX.out.size))
          clear hb
          go_wp2_with fail
          go_ret
          exact ⟨rfl, (KP.out _ HX2.out).2.2.2⟩
        · have g3 : decide (x < y) = false := by simpa using hxy
          have HEQ : Hid (x = y) := by show x = y; omega
          clear hle hxy
          go_wp2_with fail
          refine wp_region_aft mixed (by kernel_rfl) ?_
          repeat (go_big_quiet_step (fail))
          refine wpQuiet_nil ?_
          rintro _ ⟨y2, rfl⟩
          have HY2 : Hid (Below y1.v.heap.size y1.v y2.v) := y2.h
          go_wp2_with fail
          go_roundw
          case rel => exact ⟨k + 1, by omega, by go_num, fun j hj => by
            by_cases e : j = k
            · subst e; rw [HE.out.1, HE.out.2]; exact HEQ.out
            · exact HK.out j (by omega), HBR.out.trans ((HY1.out.trans (HY2.out.mono HY1.out.size)).mono HBR.out.size)⟩
          case measure => simp [intOf]; omega
      · go_wp2_with fail
        have HX := Lib.hid (HI.out.1.trans (HBR.out.mono HI.out.1.size))
        refine HK14.out _ _ ?_
        go_wp2_with fail
        refine (awake14 (w := _)).mono ?_
        rintro e c9 ⟨rfl, hb⟩
        have HX2 := Lib.hid (HX.out.trans (hb.mono HX.out.size))
        clear hb
        go_wp2_with fail
        go_ret
        exact ⟨rfl, (KP.out _ HX2.out).2.2.2⟩
end Go.Proofs.Ytjkhclijmcmdjaa
namespace Go.Proofs.Ytjkhclijmcmdjaa
open Go.RowKit Go.WideShapes Go.ChangeShapes
section
variable {H : Type} {enc : TypeId × Value → H} {P : Program}
end
end Go.Proofs.Ytjkhclijmcmdjaa
namespace Go.Proofs.Ytjkhclijmcmdjaa
open Go.ChangeShapes Go.WideShapes Go.ChangeAt Go.Deep Go.RowKit Go.Joins
set_option linter.unusedVariables false
theorem Try.laidOut : laidOutB Try.prog = true := by kernel_rfl
section
variable {H : Type} {enc : TypeId × Value → H} {w : World} {base : Nat} {spare : Nat → Bool} {held : Bool}
end
end Go.Proofs.Ytjkhclijmcmdjaa
