/- A sorter of all orders: its drawn regions. A sorter of all orders. -/
import Derived.Test.YtnfhlbmapfoifaaW36
namespace Go.Proofs.Ytnfhlbmapfoifaa
open Go.RowKit
set_option linter.unusedVariables false

theorem mkmap131 : ∀ w : World, (Instr.makeMap 131 none).run Try.prog w = .ok (.map (some w.heap.size)) (w.alloc (.map #[] 0)) := fun w => by kernel_rfl
structure nsAF (p : Prs) (a : Option Addr) (cap : Nat) (bx : Nat) (k : Nat) (S0 : Bool → Nat → World → Prop) (S1 : Bool → Nat → Option Addr × Nat → World → Prop) (S2 : Bool → Nat → Option Addr × Nat → Nat → World → Prop) (d : Nat → Bool) (x5 x6 x7 x8 x9 x10 x11 x12 x2 : Value) (ms : Nat) (ro : Option Addr × Nat) (sb : Nat) (w : World) : Prop where
  q1 : d 1 = true → d 0 = true
  q2 : d 2 = true → d 1 = true
  q4 : d 4 = true → d 3 = true
  q6 : d 6 = true → d 2 = true ∧ d 4 = true ∧ d 5 = true
  q7 : d 7 = true → d 6 = true
  q8 : d 8 = true → d 0 = true ∧ d 1 = true ∧ d 2 = true ∧ d 3 = true ∧ d 4 = true ∧ d 5 = true ∧ d 6 = true ∧ d 7 = true
  f0 : d 0 = true → x5 = .pointer (some ⟨bx, 0, none⟩)
  f1 : d 1 = true → x6 = .slice a p.cards.length cap
  f2 : d 2 = true → x7 = .int .i64 p.cards.length
  f3 : d 3 = true → x8 = p.v a cap
  f4 : d 4 = true → x9 = .slice ro.1 k ro.2
  f5 : d 5 = true → x10 = .map (some ms)
  f6 : d 6 = true → x11 = .agg #[.int .i64 p.cards.length, .slice ro.1 k ro.2, .map (some ms)]
  f7 : d 7 = true → x12 = .pointer (some ⟨sb, 0, none⟩)
  f8 : d 8 = true → x2 = .pointer (some ⟨sb, 0, none⟩)
  st0 : d 4 = false → S0 (d 5) ms w
  st1 : d 4 = true → d 7 = false → S1 (d 5) ms ro w
  st2 : d 7 = true → S2 (d 5) ms ro sb w
  mz : d 5 = false → ms = 0
noncomputable def nsAC : Code := (Try.f66.body.bind (regionAt 1)).getD .skip
set_option maxRecDepth 100000 in
set_option maxHeartbeats 4000000 in
theorem nsA {p : Prs} {a : Option Addr} {cap : Nat} {bx : Nat} {k : Nat} {S0 : Bool → Nat → World → Prop} {S1 : Bool → Nat → Option Addr × Nat → World → Prop} {S2 : Bool → Nat → Option Addr × Nat → Nat → World → Prop} {Q : Exit → Act → World → Prop} {W1 : World} (h0 : S0 false 0 W1.drew)
    (kl1 : Hid (∀ (fs : Bool) (ms : Nat) (ro : Option Addr × Nat) (w : World), (S0 fs ms w ∨ S1 fs ms ro w) → w.cell? ⟨bx, 0, none⟩ = some (.slice a p.cards.length cap)))
    (kl3 : Hid (∀ (fs : Bool) (ms : Nat) (w : World), (S0 fs ms w) → w.cell? ⟨bx, 0, none⟩ = some (.slice a p.cards.length cap) ∧ w.cell? ⟨bx, 1, none⟩ = some (.int .i64 p.llo) ∧ w.cell? ⟨bx, 2, none⟩ = some (.int .i64 p.lhi) ∧ w.cell? ⟨bx, 3, none⟩ = some (.int .i64 p.olo) ∧ w.cell? ⟨bx, 4, none⟩ = some (.int .i64 p.ohi)))
    (kc4 : Hid (∀ (fs : Bool) (ms : Nat) (w : World), S0 fs ms w → Calls Try.prog 63 #[p.v a cap] w fun e w' => ∃ ro : Option Addr × Nat, e = .returned (.slice ro.1 k ro.2) ∧ S1 fs ms ro w'))
    (ks0 : Hid (∀ (w : World), S0 false 0 w → S0 true w.heap.size (w.alloc (.map #[] 0))))
    (ks1 : Hid (∀ (ro : Option Addr × Nat) (w : World), S1 false 0 ro w → S1 true w.heap.size ro (w.alloc (.map #[] 0))))
    (kc7 : Hid (∀ (ms : Nat) (ro : Option Addr × Nat) (w : World), S1 true ms ro w → S2 true ms ro w.heap.size (w.alloc (.cells #[.int .i64 p.cards.length, .slice ro.1 k ro.2, .map (some ms)] 133))))
    {s0 s2 s3 s4 s5 s6 s7 s8 s9 s10 s11 s12 s13 s14 s15 s16 s17 s18 s19 s20 s21 s22 s23 s24 s25 s26 : Value} {dd : List Deferred}
    (hQ : ∀ (ms : Nat) (ro : Option Addr × Nat) (sb : Nat) (w' : World), S2 true ms ro sb w' → Q .normal { tmps := #[s0, .pointer (some ⟨bx, 0, none⟩), .pointer (some ⟨sb, 0, none⟩), s3, s4, .pointer (some ⟨bx, 0, none⟩), .slice a p.cards.length cap, .int .i64 p.cards.length, p.v a cap, .slice ro.1 k ro.2, .map (some ms), .agg #[.int .i64 p.cards.length, .slice ro.1 k ro.2, .map (some ms)], .pointer (some ⟨sb, 0, none⟩), s13, s14, s15, s16, s17, s18, s19, s20, s21, s22, s23, s24, s25, s26], defers := dd } w') :
    Code.wpIn (wideAt none) 0 Try.prog nsAC Q { tmps := #[s0, .pointer (some ⟨bx, 0, none⟩), s2, s3, s4, s5, s6, s7, s8, s9, s10, s11, s12, s13, s14, s15, s16, s17, s18, s19, s20, s21, s22, s23, s24, s25, s26], defers := dd } W1 := by
  have HQ := Lib.hid hQ
  clear hQ
  conv => arg 4; whnf
  refine wpIn_region_invG mixed (by kernel_rfl) (fun d_ a_ w' => ∃ (x5 : Value) (x6 : Value) (x7 : Value) (x8 : Value) (x9 : Value) (x10 : Value) (x11 : Value) (x12 : Value) (x2 : Value) (ms : Nat) (ro : Option Addr × Nat) (sb : Nat), a_ = { tmps := #[s0, .pointer (some ⟨bx, 0, none⟩), x2, s3, s4, x5, x6, x7, x8, x9, x10, x11, x12, s13, s14, s15, s16, s17, s18, s19, s20, s21, s22, s23, s24, s25, s26], defers := dd } ∧ nsAF p a cap bx k S0 S1 S2 d_ x5 x6 x7 x8 x9 x10 x11 x12 x2 ms ro sb w') ?_ ?_ ?_
  · refine ⟨s5, s6, s7, s8, s9, s10, s11, s12, s2, 0, default, 0, rfl, ?_⟩
    constructor <;> first | rfl | (intro _; rfl) | (intro h; cases h; done) | (intro _; exact h0) | exact h0
  · refine ⟨?_, ?_, ?_, ?_, ?_, ?_, ?_, ?_, ?_, trivial⟩
    all_goals
      rintro d_ a_ w1 K hd_ hdep ⟨x5, x6, x7, x8, x9, x10, x11, x12, x2, ms, ro, sb, rfl, F⟩ HK
      simp [Region.binds] at hdep
    · have HF : Hid (nsAF p a cap bx k S0 S1 S2 (upd d_ 0) (.pointer (some ⟨bx, 0, none⟩)) x6 x7 x8 x9 x10 x11 x12 x2 ms ro sb w1) := ⟨fun h => rfl, F.q2, F.q4, F.q6, F.q7, fun h => ⟨rfl, (F.q8 h).2.1, (F.q8 h).2.2.1, (F.q8 h).2.2.2.1, (F.q8 h).2.2.2.2.1, (F.q8 h).2.2.2.2.2.1, (F.q8 h).2.2.2.2.2.2.1, (F.q8 h).2.2.2.2.2.2.2⟩, fun _ => rfl, F.f1, F.f2, F.f3, F.f4, F.f5, F.f6, F.f7, F.f8, F.st0, F.st1, F.st2, F.mz⟩
      clear F
      go_simp
      exact HK.out _ _ ⟨_, _, _, _, _, _, _, _, _, _, _, _, rfl, HF.out⟩
    · have hst : S0 (d_ 5) ms w1 ∨ S1 (d_ 5) ms ro w1 := by
        cases e1 : d_ 4 with
        | false => exact .inl ((F.st0 e1))
        | true =>
          have n_ : d_ 7 = false := by
            cases e_ : d_ 7 with
            | false => rfl
            | true => have h2 := (F.q2 (F.q6 (F.q7 e_)).1); rw [show d_ 1 = false from hd_] at h2; cases h2
          exact .inr ((F.st1 e1 n_))
      have kk := kl1.out (d_ 5) ms ro w1 hst
      clear hst
      obtain rfl := F.f0 (by simp [hdep])
      have HF : Hid (nsAF p a cap bx k S0 S1 S2 (upd d_ 1) (.pointer (some ⟨bx, 0, none⟩)) (.slice a p.cards.length cap) x7 x8 x9 x10 x11 x12 x2 ms ro sb w1) := ⟨fun _ => (show _ from (by simp [hdep] : d_ 0 = true)), fun h => rfl, F.q4, F.q6, F.q7, fun h => ⟨(F.q8 h).1, rfl, (F.q8 h).2.2.1, (F.q8 h).2.2.2.1, (F.q8 h).2.2.2.2.1, (F.q8 h).2.2.2.2.2.1, (F.q8 h).2.2.2.2.2.2.1, (F.q8 h).2.2.2.2.2.2.2⟩, F.f0, fun _ => rfl, F.f2, F.f3, F.f4, F.f5, F.f6, F.f7, F.f8, F.st0, F.st1, F.st2, F.mz⟩
      clear F
      go_simp
      exact HK.out _ _ ⟨_, _, _, _, _, _, _, _, _, _, _, _, rfl, HF.out⟩
    · obtain rfl := F.f1 (by simp [hdep])
      have HF : Hid (nsAF p a cap bx k S0 S1 S2 (upd d_ 2) x5 (.slice a p.cards.length cap) (.int .i64 p.cards.length) x8 x9 x10 x11 x12 x2 ms ro sb w1) := ⟨F.q1, fun _ => (show _ from (by simp [hdep] : d_ 1 = true)), F.q4, fun h => ⟨rfl, (F.q6 h).2.1, (F.q6 h).2.2⟩, F.q7, fun h => ⟨(F.q8 h).1, (F.q8 h).2.1, rfl, (F.q8 h).2.2.2.1, (F.q8 h).2.2.2.2.1, (F.q8 h).2.2.2.2.2.1, (F.q8 h).2.2.2.2.2.2.1, (F.q8 h).2.2.2.2.2.2.2⟩, F.f0, F.f1, fun _ => rfl, F.f3, F.f4, F.f5, F.f6, F.f7, F.f8, F.st0, F.st1, F.st2, F.mz⟩
      clear F
      go_simp
      exact HK.out _ _ ⟨_, _, _, _, _, _, _, _, _, _, _, _, rfl, HF.out⟩
    · have hst : S0 (d_ 5) ms w1 := by
        have n_ : d_ 4 = false := by
          cases e_ : d_ 4 with
          | false => rfl
          | true => have h2 := (F.q4 e_); rw [show d_ 3 = false from hd_] at h2; cases h2
        exact (F.st0 n_)
      have kk := kl3.out (d_ 5) ms w1 hst
      obtain ⟨kk0, kk1, kk2, kk3, kk4⟩ := kk
      clear hst
      have HF : Hid (nsAF p a cap bx k S0 S1 S2 (upd d_ 3) x5 x6 x7 (p.v a cap) x9 x10 x11 x12 x2 ms ro sb w1) := ⟨F.q1, F.q2, fun h => rfl, F.q6, F.q7, fun h => ⟨(F.q8 h).1, (F.q8 h).2.1, (F.q8 h).2.2.1, rfl, (F.q8 h).2.2.2.2.1, (F.q8 h).2.2.2.2.2.1, (F.q8 h).2.2.2.2.2.2.1, (F.q8 h).2.2.2.2.2.2.2⟩, F.f0, F.f1, F.f2, fun _ => rfl, F.f4, F.f5, F.f6, F.f7, F.f8, F.st0, F.st1, F.st2, F.mz⟩
      clear F
      go_simp
      exact HK.out _ _ ⟨_, _, _, _, _, _, _, _, _, _, _, _, rfl, HF.out⟩
    · have hS := F.st0  hd_
      obtain rfl := F.f3 (by simp [hdep])
      have hc := kc4.out (d_ 5) ms w1 hS
      have HF := Lib.hid F
      clear F
      go_simp
      refine ⟨trivial, rfl, wideAt_calls (hc.mono ?_)⟩
      rintro e w5 ⟨v_, rfl, hres⟩
      exact HK.out _ _ ⟨_, _, _, _, _, _, _, _, _, ms, v_, sb, rfl, ⟨HF.out.q1, HF.out.q2, fun _ => (show _ from (by simp [hdep] : d_ 3 = true)), fun h => ⟨(HF.out.q6 h).1, rfl, (HF.out.q6 h).2.2⟩, HF.out.q7, fun h => ⟨(HF.out.q8 h).1, (HF.out.q8 h).2.1, (HF.out.q8 h).2.2.1, (HF.out.q8 h).2.2.2.1, rfl, (HF.out.q8 h).2.2.2.2.2.1, (HF.out.q8 h).2.2.2.2.2.2.1, (HF.out.q8 h).2.2.2.2.2.2.2⟩, HF.out.f0, HF.out.f1, HF.out.f2, HF.out.f3, fun _ => rfl, HF.out.f5, fun h => (by have h2 : d_ 4 = true := (HF.out.q6 h).2.1; rw [show d_ 4 = false from hd_] at h2; cases h2), HF.out.f7, HF.out.f8, fun h => (by simp [upd] at h), fun _ _ => hres, fun h => (by have h2 : d_ 4 = true := (HF.out.q6 (HF.out.q7 h)).2.1; rw [show d_ 4 = false from hd_] at h2; cases h2), HF.out.mz⟩⟩
    · have HF : Hid (nsAF p a cap bx k S0 S1 S2 (upd d_ 5) x5 x6 x7 x8 x9 (.map (some w1.heap.size)) x11 x12 x2 w1.heap.size ro sb (w1.alloc (.map #[] 0))) := ⟨F.q1, F.q2, F.q4, fun h => ⟨(F.q6 h).1, (F.q6 h).2.1, rfl⟩, F.q7, fun h => ⟨(F.q8 h).1, (F.q8 h).2.1, (F.q8 h).2.2.1, (F.q8 h).2.2.2.1, (F.q8 h).2.2.2.2.1, rfl, (F.q8 h).2.2.2.2.2.2.1, (F.q8 h).2.2.2.2.2.2.2⟩, F.f0, F.f1, F.f2, F.f3, F.f4, fun _ => rfl, fun h => (by have h2 : d_ 5 = true := (F.q6 h).2.2; rw [show d_ 5 = false from hd_] at h2; cases h2), F.f7, F.f8, fun b => ks0.out w1 (by have h := F.st0 b; rw [show d_ 5 = false from hd_, F.mz hd_] at h; exact h), fun a b => ks1.out ro w1 (by have h := F.st1 a b; rw [show d_ 5 = false from hd_, F.mz hd_] at h; exact h), fun a => (by have h2 : d_ 5 = true := (F.q6 (F.q7 a)).2.2; rw [show d_ 5 = false from hd_] at h2; cases h2), fun h => (by simp [upd] at h)⟩
      clear F
      have hmm := mkmap131
      go_simp
      exact HK.out _ _ ⟨_, _, _, _, _, _, _, _, _, _, _, _, rfl, HF.out⟩
    · obtain rfl := F.f2 (by simp [hdep])
      obtain rfl := F.f4 (by simp [hdep])
      obtain rfl := F.f5 (by simp [hdep])
      have HF : Hid (nsAF p a cap bx k S0 S1 S2 (upd d_ 6) x5 x6 (.int .i64 p.cards.length) x8 (.slice ro.1 k ro.2) (.map (some ms)) (.agg #[.int .i64 p.cards.length, .slice ro.1 k ro.2, .map (some ms)]) x12 x2 ms ro sb w1) := ⟨F.q1, F.q2, F.q4, fun _ => ⟨(show _ from (by simp [hdep] : d_ 2 = true)), (show _ from (by simp [hdep] : d_ 4 = true)), (show _ from (by simp [hdep] : d_ 5 = true))⟩, fun h => rfl, fun h => ⟨(F.q8 h).1, (F.q8 h).2.1, (F.q8 h).2.2.1, (F.q8 h).2.2.2.1, (F.q8 h).2.2.2.2.1, (F.q8 h).2.2.2.2.2.1, rfl, (F.q8 h).2.2.2.2.2.2.2⟩, F.f0, F.f1, F.f2, F.f3, F.f4, F.f5, fun _ => rfl, F.f7, F.f8, F.st0, F.st1, F.st2, F.mz⟩
      clear F
      go_simp
      exact HK.out _ _ ⟨_, _, _, _, _, _, _, _, _, _, _, _, rfl, HF.out⟩
    · have hS := F.st1 (F.q6 (by simp [hdep] : d_ 6 = true)).2.1 hd_
      rw [show d_ 5 = true from (F.q6 (by simp [hdep] : d_ 6 = true)).2.2] at hS
      obtain rfl := F.f6 (by simp [hdep])
      have hres := kc7.out ms ro w1 hS
      have HF : Hid (nsAF p a cap bx k S0 S1 S2 (upd d_ 7) x5 x6 x7 x8 x9 x10 (.agg #[.int .i64 p.cards.length, .slice ro.1 k ro.2, .map (some ms)]) ((.pointer (some ⟨w1.heap.size, 0, none⟩))) x2 ms ro w1.heap.size (w1.alloc (.cells #[.int .i64 p.cards.length, .slice ro.1 k ro.2, .map (some ms)] 133))) := ⟨F.q1, F.q2, F.q4, F.q6, fun _ => (show _ from (by simp [hdep] : d_ 6 = true)), fun h => ⟨(F.q8 h).1, (F.q8 h).2.1, (F.q8 h).2.2.1, (F.q8 h).2.2.2.1, (F.q8 h).2.2.2.2.1, (F.q8 h).2.2.2.2.2.1, (F.q8 h).2.2.2.2.2.2.1, rfl⟩, F.f0, F.f1, F.f2, F.f3, F.f4, F.f5, F.f6, fun _ => rfl, fun h => (by have h2 : d_ 7 = true := (F.q8 h).2.2.2.2.2.2.2; rw [show d_ 7 = false from hd_] at h2; cases h2), fun h => (by have h2 : d_ 4 = false := h; rw [(F.q6 (by simp [hdep] : d_ 6 = true)).2.1] at h2; cases h2), fun _ h => (by simp [upd] at h), fun _ => (by rw [show upd d_ 7 5 = true from (F.q6 (by simp [hdep] : d_ 6 = true)).2.2]; exact hres), F.mz⟩
      clear F hS hres
      go_simp
      exact HK.out _ _ ⟨_, _, _, _, _, _, _, _, _, _, _, _, rfl, HF.out⟩
    · obtain rfl := F.f7 (by simp [hdep])
      have HF : Hid (nsAF p a cap bx k S0 S1 S2 (upd d_ 8) x5 x6 x7 x8 x9 x10 x11 (.pointer (some ⟨sb, 0, none⟩)) (.pointer (some ⟨sb, 0, none⟩)) ms ro sb w1) := ⟨F.q1, F.q2, F.q4, F.q6, F.q7, fun _ => ⟨(show _ from (by simp [hdep] : d_ 0 = true)), (show _ from (by simp [hdep] : d_ 1 = true)), (show _ from (by simp [hdep] : d_ 2 = true)), (show _ from (by simp [hdep] : d_ 3 = true)), (show _ from (by simp [hdep] : d_ 4 = true)), (show _ from (by simp [hdep] : d_ 5 = true)), (show _ from (by simp [hdep] : d_ 6 = true)), (show _ from (by simp [hdep] : d_ 7 = true))⟩, F.f0, F.f1, F.f2, F.f3, F.f4, F.f5, F.f6, F.f7, fun _ => rfl, F.st0, F.st1, F.st2, F.mz⟩
      clear F
      go_simp
      exact HK.out _ _ ⟨_, _, _, _, _, _, _, _, _, _, _, _, rfl, HF.out⟩
  · rintro d_ a_ w1 hall ⟨x5, x6, x7, x8, x9, x10, x11, x12, x2, ms, ro, sb, rfl, F⟩
    have hall' : ∀ k, k < 9 → d_ k = true := hall
    obtain rfl := F.f0 (hall' 0 (by decide))
    obtain rfl := F.f1 (hall' 1 (by decide))
    obtain rfl := F.f2 (hall' 2 (by decide))
    obtain rfl := F.f3 (hall' 3 (by decide))
    obtain rfl := F.f4 (hall' 4 (by decide))
    obtain rfl := F.f5 (hall' 5 (by decide))
    obtain rfl := F.f6 (hall' 6 (by decide))
    obtain rfl := F.f7 (hall' 7 (by decide))
    obtain rfl := F.f8 (hall' 8 (by decide))
    have hst := F.st2 (hall' 7 (by decide))
    rw [show d_ 5 = true from hall' 5 (by decide)] at hst
    exact HQ.out ms ro sb w1 hst
structure nsBF (p : Prs) (a : Option Addr) (cap : Nat) (bx : Nat) (k : Nat) (S0 : Bool → Nat → World → Prop) (S1 : Bool → Nat → World → Prop) (d : Nat → Bool) (x5 x6 x7 x8 x9 x10 x11 x12 x2 : Value) (ms : Nat) (w : World) : Prop where
  q1 : d 1 = true → d 0 = true
  q2 : d 2 = true → d 1 = true
  q4 : d 4 = true → d 3 = true
  q6 : d 6 = true → d 2 = true ∧ d 4 = true ∧ d 5 = true
  q7 : d 7 = true → d 6 = true
  q8 : d 8 = true → d 0 = true ∧ d 1 = true ∧ d 2 = true ∧ d 3 = true ∧ d 4 = true ∧ d 5 = true ∧ d 6 = true ∧ d 7 = true
  f0 : d 0 = true → x5 = .pointer (some ⟨bx, 0, none⟩)
  f1 : d 1 = true → x6 = .slice a p.cards.length cap
  f2 : d 2 = true → x7 = .int .i64 p.cards.length
  f3 : d 3 = true → x8 = p.v a cap
  f5 : d 5 = true → x10 = .map (some ms)
  st0 : d 4 = false → S0 (d 5) ms w
  np : d 4 = false
  mz : d 5 = false → ms = 0
set_option maxRecDepth 100000 in
set_option maxHeartbeats 4000000 in
theorem nsB {p : Prs} {a : Option Addr} {cap : Nat} {bx : Nat} {k : Nat} {S0 : Bool → Nat → World → Prop} {S1 : Bool → Nat → World → Prop} {Q : Exit → Act → World → Prop} {W1 : World} {er : Int} (h0 : S0 false 0 W1.drew)
    (kl1 : Hid (∀ (fs : Bool) (ms : Nat) (w : World), (S0 fs ms w) → w.cell? ⟨bx, 0, none⟩ = some (.slice a p.cards.length cap)))
    (kl3 : Hid (∀ (fs : Bool) (ms : Nat) (w : World), (S0 fs ms w) → w.cell? ⟨bx, 0, none⟩ = some (.slice a p.cards.length cap) ∧ w.cell? ⟨bx, 1, none⟩ = some (.int .i64 p.llo) ∧ w.cell? ⟨bx, 2, none⟩ = some (.int .i64 p.lhi) ∧ w.cell? ⟨bx, 3, none⟩ = some (.int .i64 p.olo) ∧ w.cell? ⟨bx, 4, none⟩ = some (.int .i64 p.ohi)))
    (kc4 : Hid (∀ (fs : Bool) (ms : Nat) (w : World), S0 fs ms w → Calls Try.prog 63 #[p.v a cap] w fun e w' => e = .panicked [{ v := .iface 115 (.agg #[.int .i64 er]), recovered := false }] ∧ S1 fs ms w'))
    (ks0 : Hid (∀ (w : World), S0 false 0 w → S0 true w.heap.size (w.alloc (.map #[] 0))))
    {s0 s2 s3 s4 s5 s6 s7 s8 s9 s10 s11 s12 s13 s14 s15 s16 s17 s18 s19 s20 s21 s22 s23 s24 s25 s26 : Value} {dd : List Deferred}
    (hQ : ∀ (fs : Bool) (ms : Nat) (x5 : Value) (x6 : Value) (x7 : Value) (x8 : Value) (x9 : Value) (x10 : Value) (x11 : Value) (x12 : Value) (x2 : Value) (w' : World), S1 fs ms w' → Q (.panic [{ v := .iface 115 (.agg #[.int .i64 er]), recovered := false }]) { tmps := #[s0, .pointer (some ⟨bx, 0, none⟩), x2, s3, s4, x5, x6, x7, x8, x9, x10, x11, x12, s13, s14, s15, s16, s17, s18, s19, s20, s21, s22, s23, s24, s25, s26], defers := dd } w') :
    Code.wpIn (wideAt none) 0 Try.prog nsAC Q { tmps := #[s0, .pointer (some ⟨bx, 0, none⟩), s2, s3, s4, s5, s6, s7, s8, s9, s10, s11, s12, s13, s14, s15, s16, s17, s18, s19, s20, s21, s22, s23, s24, s25, s26], defers := dd } W1 := by
  have HQ := Lib.hid hQ
  clear hQ
  conv => arg 4; whnf
  refine wpIn_region_invG mixed (by kernel_rfl) (fun d_ a_ w' => ∃ (x5 : Value) (x6 : Value) (x7 : Value) (x8 : Value) (x9 : Value) (x10 : Value) (x11 : Value) (x12 : Value) (x2 : Value) (ms : Nat), a_ = { tmps := #[s0, .pointer (some ⟨bx, 0, none⟩), x2, s3, s4, x5, x6, x7, x8, x9, x10, x11, x12, s13, s14, s15, s16, s17, s18, s19, s20, s21, s22, s23, s24, s25, s26], defers := dd } ∧ nsBF p a cap bx k S0 S1 d_ x5 x6 x7 x8 x9 x10 x11 x12 x2 ms w') ?_ ?_ ?_
  · refine ⟨s5, s6, s7, s8, s9, s10, s11, s12, s2, 0, rfl, ?_⟩
    constructor <;> first | rfl | (intro _; rfl) | (intro h; cases h; done) | (intro _; exact h0) | exact h0
  · refine ⟨?_, ?_, ?_, ?_, ?_, ?_, ?_, ?_, ?_, trivial⟩
    all_goals
      rintro d_ a_ w1 K hd_ hdep ⟨x5, x6, x7, x8, x9, x10, x11, x12, x2, ms, rfl, F⟩ HK
      simp [Region.binds] at hdep
    · have HF : Hid (nsBF p a cap bx k S0 S1 (upd d_ 0) (.pointer (some ⟨bx, 0, none⟩)) x6 x7 x8 x9 x10 x11 x12 x2 ms w1) := ⟨fun h => rfl, F.q2, F.q4, F.q6, F.q7, fun h => ⟨rfl, (F.q8 h).2.1, (F.q8 h).2.2.1, (F.q8 h).2.2.2.1, (F.q8 h).2.2.2.2.1, (F.q8 h).2.2.2.2.2.1, (F.q8 h).2.2.2.2.2.2.1, (F.q8 h).2.2.2.2.2.2.2⟩, fun _ => rfl, F.f1, F.f2, F.f3, F.f5, F.st0, F.np, F.mz⟩
      clear F
      go_simp
      exact HK.out _ _ ⟨_, _, _, _, _, _, _, _, _, _, rfl, HF.out⟩
    · have hst : S0 (d_ 5) ms w1 := by
        have n_ := F.np
        exact (F.st0 n_)
      have kk := kl1.out (d_ 5) ms w1 hst
      clear hst
      obtain rfl := F.f0 (by simp [hdep])
      have HF : Hid (nsBF p a cap bx k S0 S1 (upd d_ 1) (.pointer (some ⟨bx, 0, none⟩)) (.slice a p.cards.length cap) x7 x8 x9 x10 x11 x12 x2 ms w1) := ⟨fun _ => (show _ from (by simp [hdep] : d_ 0 = true)), fun h => rfl, F.q4, F.q6, F.q7, fun h => ⟨(F.q8 h).1, rfl, (F.q8 h).2.2.1, (F.q8 h).2.2.2.1, (F.q8 h).2.2.2.2.1, (F.q8 h).2.2.2.2.2.1, (F.q8 h).2.2.2.2.2.2.1, (F.q8 h).2.2.2.2.2.2.2⟩, F.f0, fun _ => rfl, F.f2, F.f3, F.f5, F.st0, F.np, F.mz⟩
      clear F
      go_simp
      exact HK.out _ _ ⟨_, _, _, _, _, _, _, _, _, _, rfl, HF.out⟩
    · obtain rfl := F.f1 (by simp [hdep])
      have HF : Hid (nsBF p a cap bx k S0 S1 (upd d_ 2) x5 (.slice a p.cards.length cap) (.int .i64 p.cards.length) x8 x9 x10 x11 x12 x2 ms w1) := ⟨F.q1, fun _ => (show _ from (by simp [hdep] : d_ 1 = true)), F.q4, fun h => ⟨rfl, (F.q6 h).2.1, (F.q6 h).2.2⟩, F.q7, fun h => ⟨(F.q8 h).1, (F.q8 h).2.1, rfl, (F.q8 h).2.2.2.1, (F.q8 h).2.2.2.2.1, (F.q8 h).2.2.2.2.2.1, (F.q8 h).2.2.2.2.2.2.1, (F.q8 h).2.2.2.2.2.2.2⟩, F.f0, F.f1, fun _ => rfl, F.f3, F.f5, F.st0, F.np, F.mz⟩
      clear F
      go_simp
      exact HK.out _ _ ⟨_, _, _, _, _, _, _, _, _, _, rfl, HF.out⟩
    · have hst : S0 (d_ 5) ms w1 := by
        have n_ : d_ 4 = false := by
          cases e_ : d_ 4 with
          | false => rfl
          | true => have h2 := (F.q4 e_); rw [show d_ 3 = false from hd_] at h2; cases h2
        exact (F.st0 n_)
      have kk := kl3.out (d_ 5) ms w1 hst
      obtain ⟨kk0, kk1, kk2, kk3, kk4⟩ := kk
      clear hst
      have HF : Hid (nsBF p a cap bx k S0 S1 (upd d_ 3) x5 x6 x7 (p.v a cap) x9 x10 x11 x12 x2 ms w1) := ⟨F.q1, F.q2, fun h => rfl, F.q6, F.q7, fun h => ⟨(F.q8 h).1, (F.q8 h).2.1, (F.q8 h).2.2.1, rfl, (F.q8 h).2.2.2.2.1, (F.q8 h).2.2.2.2.2.1, (F.q8 h).2.2.2.2.2.2.1, (F.q8 h).2.2.2.2.2.2.2⟩, F.f0, F.f1, F.f2, fun _ => rfl, F.f5, F.st0, F.np, F.mz⟩
      clear F
      go_simp
      exact HK.out _ _ ⟨_, _, _, _, _, _, _, _, _, _, rfl, HF.out⟩
    · have hS := F.st0  hd_
      obtain rfl := F.f3 (by simp [hdep])
      have hc := kc4.out (d_ 5) ms w1 hS
      clear F hS
      go_simp
      refine ⟨trivial, rfl, wideAt_calls (hc.mono ?_)⟩
      rintro e w5 ⟨rfl, hres⟩
      exact HQ.out _ _ _ _ _ _ _ _ _ _ _ w5 hres
    · have HF : Hid (nsBF p a cap bx k S0 S1 (upd d_ 5) x5 x6 x7 x8 x9 (.map (some w1.heap.size)) x11 x12 x2 w1.heap.size (w1.alloc (.map #[] 0))) := ⟨F.q1, F.q2, F.q4, fun h => ⟨(F.q6 h).1, (F.q6 h).2.1, rfl⟩, F.q7, fun h => ⟨(F.q8 h).1, (F.q8 h).2.1, (F.q8 h).2.2.1, (F.q8 h).2.2.2.1, (F.q8 h).2.2.2.2.1, rfl, (F.q8 h).2.2.2.2.2.2.1, (F.q8 h).2.2.2.2.2.2.2⟩, F.f0, F.f1, F.f2, F.f3, fun _ => rfl, fun b => ks0.out w1 (by have h := F.st0 b; rw [show d_ 5 = false from hd_, F.mz hd_] at h; exact h), F.np, fun h => (by simp [upd] at h)⟩
      clear F
      have hmm := mkmap131
      go_simp
      exact HK.out _ _ ⟨_, _, _, _, _, _, _, _, _, _, rfl, HF.out⟩
    · have h2 : d_ 4 = true := (by simp [hdep] : d_ 4 = true)
      rw [F.np] at h2
      cases h2
    · have h2 : d_ 4 = true := (F.q6 (by simp [hdep] : d_ 6 = true)).2.1
      rw [F.np] at h2
      cases h2
    · have h2 : d_ 4 = true := (by simp [hdep] : d_ 4 = true)
      rw [F.np] at h2
      cases h2
  · rintro d_ a_ w1 hall ⟨x5, x6, x7, x8, x9, x10, x11, x12, x2, ms, rfl, F⟩
    have hall' : ∀ k, k < 9 → d_ k = true := hall
    have h2 := hall' 4 (by decide)
    rw [F.np] at h2
    cases h2
structure ns7F (sb : Nat) (bl : Nat) (lo : Int) (hi : Int) (S0 : World → Prop) (S1 : World → Prop) (d : Nat → Bool) (x25 x26 : Value) (w : World) : Prop where
  q2 : d 2 = true → d 0 = true
  q3 : d 3 = true → d 0 = true ∧ d 1 = true ∧ d 2 = true
  f0 : d 0 = true → x25 = .pointer (some ⟨sb, 0, none⟩)
  f1 : d 1 = true → x26 = .agg #[.int .u64 lo, .int .u64 hi]
  st0 : d 3 = false → S0 w
  st1 : d 3 = true → S1 w
noncomputable def ns7C : Code := (Try.f66.body.bind (regionAt 7)).getD .skip
set_option maxRecDepth 100000 in
set_option maxHeartbeats 4000000 in
theorem ns7 {sb : Nat} {bl : Nat} {lo : Int} {hi : Int} {S0 : World → Prop} {S1 : World → Prop} {Q : Exit → Act → World → Prop} {W1 : World} (h0 : S0 W1.drew)
    (kl1 : Hid (∀ (w : World), (S0 w) → w.cell? ⟨bl, 0, none⟩ = some (.int .u64 lo) ∧ w.cell? ⟨bl, 1, none⟩ = some (.int .u64 hi)))
    (kc3 : Hid (∀ (w : World), S0 w → (∃ u, w.cell? ⟨bl, 0, none⟩ = some u) ∧ w.frozen? ⟨bl, 0, none⟩ = false ∧ (∃ u, w.cell? ⟨bl, 1, none⟩ = some u) ∧ w.frozen? ⟨bl, 1, none⟩ = false ∧ S1 ((w.setCell ⟨bl, 0, none⟩ (.int .u64 lo)).setCell ⟨bl, 1, none⟩ (.int .u64 hi))))
    {s0 s1 s4 s5 s6 s7 s8 s9 s10 s11 s12 s13 s14 s15 s16 s17 s18 s19 s20 s21 s22 s23 s24 s25 s26 : Value} {dd : List Deferred}
    (hQ : ∀ (w' : World), S1 w' → Q .normal { tmps := #[s0, s1, .pointer (some ⟨sb, 0, none⟩), .pointer (some ⟨bl, 0, none⟩), s4, s5, s6, s7, s8, s9, s10, s11, s12, s13, s14, s15, s16, s17, s18, s19, s20, s21, s22, s23, s24, .pointer (some ⟨sb, 0, none⟩), .agg #[.int .u64 lo, .int .u64 hi]], defers := dd } w') :
    Code.wpIn (wideAt none) 0 Try.prog ns7C Q { tmps := #[s0, s1, .pointer (some ⟨sb, 0, none⟩), .pointer (some ⟨bl, 0, none⟩), s4, s5, s6, s7, s8, s9, s10, s11, s12, s13, s14, s15, s16, s17, s18, s19, s20, s21, s22, s23, s24, s25, s26], defers := dd } W1 := by
  have HQ := Lib.hid hQ
  clear hQ
  conv => arg 4; whnf
  refine wpIn_region_invG mixed (by kernel_rfl) (fun d_ a_ w' => ∃ (x25 : Value) (x26 : Value), a_ = { tmps := #[s0, s1, .pointer (some ⟨sb, 0, none⟩), .pointer (some ⟨bl, 0, none⟩), s4, s5, s6, s7, s8, s9, s10, s11, s12, s13, s14, s15, s16, s17, s18, s19, s20, s21, s22, s23, s24, x25, x26], defers := dd } ∧ ns7F sb bl lo hi S0 S1 d_ x25 x26 w') ?_ ?_ ?_
  · refine ⟨s25, s26, rfl, ?_⟩
    constructor <;> first | rfl | (intro _; rfl) | (intro h; cases h; done) | (intro _; exact h0) | exact h0
  · refine ⟨?_, ?_, ?_, ?_, trivial⟩
    all_goals
      rintro d_ a_ w1 K hd_ hdep ⟨x25, x26, rfl, F⟩ HK
      simp [Region.binds] at hdep
    · have HF : Hid (ns7F sb bl lo hi S0 S1 (upd d_ 0) (.pointer (some ⟨sb, 0, none⟩)) x26 w1) := ⟨fun h => rfl, fun h => ⟨rfl, (F.q3 h).2.1, (F.q3 h).2.2⟩, fun _ => rfl, F.f1, F.st0, F.st1⟩
      clear F
      go_simp
      exact HK.out _ _ ⟨_, _, rfl, HF.out⟩
    · have hst : S0 w1 := by
        have n_ : d_ 3 = false := by
          cases e_ : d_ 3 with
          | false => rfl
          | true => have h2 := (F.q3 e_).2.1; rw [show d_ 1 = false from hd_] at h2; cases h2
        exact (F.st0 n_)
      have kk := kl1.out w1 hst
      obtain ⟨kk0, kk1⟩ := kk
      clear hst
      have HF : Hid (ns7F sb bl lo hi S0 S1 (upd d_ 1) x25 (.agg #[.int .u64 lo, .int .u64 hi]) w1) := ⟨F.q2, fun h => ⟨(F.q3 h).1, rfl, (F.q3 h).2.2⟩, F.f0, fun _ => rfl, F.st0, F.st1⟩
      clear F
      go_simp
      exact HK.out _ _ ⟨_, _, rfl, HF.out⟩
    · obtain rfl := F.f0 (by simp [hdep])
      have HF : Hid (ns7F sb bl lo hi S0 S1 (upd d_ 2) (.pointer (some ⟨sb, 0, none⟩)) x26 w1) := ⟨fun _ => (show _ from (by simp [hdep] : d_ 0 = true)), fun h => ⟨(F.q3 h).1, (F.q3 h).2.1, rfl⟩, F.f0, F.f1, F.st0, F.st1⟩
      clear F
      go_simp
      exact HK.out _ _ ⟨_, _, rfl, HF.out⟩
    · have hS := F.st0  hd_
      obtain rfl := F.f1 (by simp [hdep])
      obtain ⟨⟨u0, kcell0⟩, kfr0, ⟨u1, kcell1⟩, kfr1, hres⟩ := kc3.out w1 hS
      have HF : Hid (ns7F sb bl lo hi S0 S1 (upd d_ 3) x25 (.agg #[.int .u64 lo, .int .u64 hi]) ((w1.setCell ⟨bl, 0, none⟩ (.int .u64 lo)).setCell ⟨bl, 1, none⟩ (.int .u64 hi))) := ⟨F.q2, fun _ => ⟨(show _ from (by simp [hdep] : d_ 0 = true)), (show _ from (by simp [hdep] : d_ 1 = true)), (show _ from (by simp [hdep] : d_ 2 = true))⟩, F.f0, F.f1, fun h => (by simp [upd] at h), fun _ => hres⟩
      clear F hS hres
      go_simp
      exact HK.out _ _ ⟨_, _, rfl, HF.out⟩
  · rintro d_ a_ w1 hall ⟨x25, x26, rfl, F⟩
    have hall' : ∀ k, k < 4 → d_ k = true := hall
    obtain rfl := F.f0 (hall' 0 (by decide))
    obtain rfl := F.f1 (hall' 1 (by decide))
    have hst := F.st1 (hall' 3 (by decide))
    exact HQ.out  w1 hst
end Go.Proofs.Ytnfhlbmapfoifaa

namespace Go.Proofs.Ytnfhlbmapfoifaa
open Go.RowKit
set_option linter.unusedVariables false

/-- The numbers below m that are so, by bits. -/
def cmpS (f : Nat → Bool) (m : Nat) : Nat := ((List.range m).filter f).foldl (fun s k => s ||| 2 ^ k) 0
theorem cmpS_zero (f : Nat → Bool) : cmpS f 0 = 0 := rfl
theorem cmpS_succ (f : Nat → Bool) (m : Nat) : cmpS f (m + 1) = if f m then cmpS f m ||| 2 ^ m else cmpS f m := by
  unfold cmpS
  rw [List.range_succ, List.filter_append]
  cases h : f m <;> simp [h, List.foldl_append]
theorem cmpS_bit (f : Nat → Bool) : ∀ (m i : Nat), (cmpS f m).testBit i = (decide (i < m) && f i)
  | 0, i => by simp [cmpS_zero]
  | m + 1, i => by
    rw [cmpS_succ]
    have ih := cmpS_bit f m i
    cases h : f m with
    | false =>
      simp only [Bool.false_eq_true, if_false]
      rw [ih]
      by_cases e : i = m
      · subst e; simp [h]
      · have : (i < m) ↔ (i < m + 1) := by omega
        simp [this]
    | true =>
      simp only [if_true]
      rw [Nat.testBit_or, ih, Nat.testBit_two_pow]
      by_cases e : i = m
      · subst e; simp [h]
      · have h1 : (i < m) ↔ (i < m + 1) := by omega
        have h2 : ¬ m = i := fun h => e h.symm
        simp [h1, h2]
theorem cmpS_lt (f : Nat → Bool) {m k : Nat} (h : m ≤ k) : cmpS f m < 2 ^ k := by
  apply Nat.lt_pow_two_of_testBit
  intro i hi
  rw [cmpS_bit]
  simp; omega
theorem allS_eq (n : Nat) : allS n = cmpS (fun _ => true) n := by
  unfold allS cmpS
  rw [List.filter_eq_self.2 (fun _ _ => rfl)]
theorem allS_succ (n : Nat) : allS (n + 1) = allS n ||| 2 ^ n := by rw [allS_eq, allS_eq, cmpS_succ]; rfl
theorem allS_lt {n : Nat} (h : n ≤ 128) : allS n < 2 ^ 128 := by rw [allS_eq]; exact cmpS_lt _ h

/-! ### there are not more orders than ways to sort -/
theorem cnt_le {α : Type} {P Q : α → Bool} : ∀ {l : List α}, (∀ x ∈ l, P x = true → Q x = true) → l.countP P ≤ l.countP Q
  | [], _ => by simp
  | y :: r, h => by
    have ih := cnt_le (l := r) (fun x hx => h x (by simp [hx]))
    have h1 := h y (by simp)
    simp only [List.countP_cons]
    cases hp : P y <;> cases hq : Q y <;> simp_all <;> omega
theorem cnt_lt {α : Type} {P Q : α → Bool} : ∀ {l : List α}, (∀ x ∈ l, P x = true → Q x = true) → (∃ x ∈ l, Q x = true ∧ P x = false) → l.countP P < l.countP Q
  | [], _, ⟨x, hx, _⟩ => by simp at hx
  | y :: r, h, ⟨x, hx, hq, hp⟩ => by
    have hle := cnt_le (l := r) (fun x hx => h x (by simp [hx]))
    have h1 := h y (by simp)
    simp only [List.countP_cons]
    rcases List.mem_cons.1 hx with rfl | hx
    · simp only [hq, hp, if_true]
      simp
      omega
    · have ih := cnt_lt (l := r) (fun x hx => h x (by simp [hx])) ⟨x, hx, hq, hp⟩
      cases hp' : P y <;> cases hq' : Q y <;> simp_all <;> omega
def freeN (n : Nat) (pre : List Int) : Nat := (List.range n).countP fun (i : Nat) => !decide ((i : Int) ∈ pre)
theorem free_snoc {n : Nat} {pre : List Int} {i : Nat} (hi : i < n) (h : ¬ (i : Int) ∈ pre) : freeN n (pre ++ [(i : Int)]) < freeN n pre := by
  unfold freeN
  refine cnt_lt (fun x _ hx => ?_) ⟨i, List.mem_range.2 hi, by simpa using h, by simp⟩
  simp at hx ⊢
  exact hx.1
theorem flat_len2 {α β : Type} (f : α → List β) (q : α → Bool) (B : Nat) : ∀ l : List α, (∀ x ∈ l, q x = true → (f x).length ≤ B) → (∀ x ∈ l, q x = false → f x = []) → (l.flatMap f).length ≤ l.countP q * B
  | [], _, _ => by simp
  | x :: l, h1, h2 => by
    have ih := flat_len2 f q B l (fun y hy => h1 y (by simp [hy])) (fun y hy => h2 y (by simp [hy]))
    simp only [List.flatMap_cons, List.length_append, List.countP_cons]
    cases hq : q x with
    | true =>
      have := h1 x (by simp) hq
      simp only [if_true, Nat.add_mul, Nat.one_mul]
      omega
    | false =>
      have := h2 x (by simp) hq
      rw [this]
      simp only [List.length_nil, Bool.false_eq_true, if_false, Nat.add_zero, Nat.zero_add]
      exact ih
def fact : Nat → Nat
  | 0 => 1
  | n + 1 => (n + 1) * fact n
theorem fact_mono {a b : Nat} (h : a ≤ b) : fact a ≤ fact b := by
  induction h with
  | refl => exact Nat.le_refl _
  | @step m _ ih =>
    show _ ≤ (m + 1) * fact m
    exact Nat.le_trans ih (Nat.le_mul_of_pos_left _ (by omega))
theorem onO_fact {p : Prs} : ∀ (d : Nat) (pre : List Int), (onO p d pre).length ≤ fact (freeN p.cards.length pre)
  | 0, pre => by
    rw [onO_zero]
    have : 1 ≤ fact (freeN p.cards.length pre) := fact_mono (Nat.zero_le _)
    split <;> simp <;> omega
  | d + 1, pre => by
    rw [onO_succ]
    have h := flat_len2 (oF p d pre) (fun (i : Nat) => !decide ((i : Int) ∈ pre)) (fact (freeN p.cards.length pre - 1)) (List.range p.cards.length) (fun i hi hq => by
      have hi' := List.mem_range.1 hi
      have hq' : ¬ (i : Int) ∈ pre := by simpa using hq
      unfold oF
      rw [if_neg hq']
      have := free_snoc hi' hq'
      exact Nat.le_trans (onO_fact d _) (fact_mono (by omega))) (fun i hi hq => by
      have hq' : (i : Int) ∈ pre := by simpa using hq
      unfold oF
      rw [if_pos hq'])
    refine Nat.le_trans h ?_
    show freeN p.cards.length pre * _ ≤ _
    cases e : freeN p.cards.length pre with
    | zero => simp
    | succ m => exact Nat.le_refl _
theorem orders_few {p : Prs} (hv : p.valid = true) : (ordersL p).length ≤ 120 := by
  have hn := (valid_parts hv).1
  have h := onO_fact (p := p) p.cards.length []
  have h2 : freeN p.cards.length [] ≤ 5 := by
    unfold freeN
    refine Nat.le_trans (List.countP_le_length) ?_
    simpa using hn
  have h3 := fact_mono h2
  have h4 : fact 5 = 120 := by decide
  unfold ordersL
  omega

/-- A sorter of orders: block sb; its map, block mb. -/
structure Srt (w : World) (sb mb n : Nat) (v : Value) (os : List (List Int)) : Prop where
  s : w.heap[sb]? = some (.cells #[.int .i64 (n : Int), v, .map (some mb)] 133 (0, 0))
  r : RowsAt w 0 v os
theorem Srt.kept {w w' : World} {sb mb n : Nat} {v : Value} {os : List (List Int)} (h : Srt w sb mb n v os) (hm : ∃ es c, w.heap[mb]? = some (.map es c)) (hs : Same (fun k => k = mb) w w') : Srt w' sb mb n v os := by
  obtain ⟨es, c, hm⟩ := hm
  obtain ⟨vs, h1, h2⟩ := h.r
  have hne : ∀ k o t f, w.heap[k]? = some (.cells o t f) → k ≠ mb := fun k o t f hk e => by rw [e, hm] at hk; cases hk
  refine ⟨(hs.block _ (heap_lt h.s) (hne _ _ _ _ h.s)).trans h.s, vs, own_blocks h1 (fun g hg => hs.block g (h1.lt g hg).2 ?_), h2.blocks (fun vc hvc g hg => hs.block g (rows_lt h2 hvc hg).2 ?_)⟩
  · rcases h1.2 with ⟨rfl, _⟩ | ⟨g', cap, cur, rfl, _, hh, _⟩
    · cases hg
    · simp only [Value.ownBlock, Option.some.injEq] at hg
      subst hg
      exact hne _ _ _ _ hh
  · obtain ⟨i, hi, rfl⟩ := List.getElem_of_mem hvc
    have hi' : i < os.length := by rw [← h2.1]; exact hi
    obtain ⟨vc', k1, k2⟩ := h2.2 i _ (List.getElem?_eq_getElem hi')
    rw [List.getElem?_eq_getElem hi] at k1
    cases k1
    rcases k2.2 with ⟨e, _⟩ | ⟨g', cap, cur, e, _, hh, _⟩
    · rw [e] at hg; cases hg
    · rw [e] at hg
      simp only [Value.ownBlock, Option.some.injEq] at hg
      subst hg
      exact hne _ _ _ _ hh
theorem Srt.below {w w' : World} {sb mb n : Nat} {v : Value} {os : List (List Int)} (h : Srt w sb mb n v os) (hb : Below w.heap.size w w') : Srt w' sb mb n v os :=
  ⟨(hb.block _ (heap_lt h.s)).trans h.s, h.r.below hb⟩
end Go.Proofs.Ytnfhlbmapfoifaa

