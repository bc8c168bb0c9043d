/- A sorter of all orders: its drawn regions. A sorter of all orders. A sorter of all orders, made. All pairs of cards, one after the other. Orders that are compared. -/
import Derived.Test.YtnfhlbmapfoifaaC8
namespace Go.Proofs.Ytnfhlbmapfoifaa
open Go.RowKit
set_option linter.unusedVariables false
theorem mkmap131 : ∀ w : World, (Instr.makeMap 131 none).run Try.prog w = .ok (.map (some w.heap.size)) (w.alloc (.map #[] 0)) := fun w => by kernel_rfl
structure nsAF (p : Prs) (a : Option Addr) (cap : Nat) (bx : Nat) (k : Nat) (S0 : Bool → Nat → World → Prop) (S1 : Bool → Nat → Option Addr × Nat → World → Prop) (S2 : Bool → Nat → Option Addr × Nat → Nat → World → Prop) (d : Nat → Bool) (x5 x6 x7 x8 x9 x10 x11 x12 x2 : Value) (ms : Nat) (ro : Option Addr × Nat) (sb : Nat) (w : World) : Prop where
  q1 : d 1 = true → d 0 = true
  q2 : d 2 = true → d 1 = true
  q4 : d 4 = true → d 3 = true
  q6 : d 6 = true → d 2 = true ∧ d 4 = true ∧ d 5 = true
  q7 : d 7 = true → d 6 = true
  q8 : d 8 = true → d 0 = true ∧ d 1 = true ∧ d 2 = true ∧ d 3 = true ∧ d 4 = true ∧ d 5 = true ∧ d 6 = true ∧ d 7 = true
  f0 : d 0 = true → x5 = .pointer (some ⟨bx, 0, none⟩)
  f1 : d 1 = true → x6 = .slice a p.cards.length cap
  f2 : d 2 = true → x7 = .int .i64 p.cards.length
  f3 : d 3 = true → x8 = p.v a cap
  f4 : d 4 = true → x9 = .slice ro.1 k ro.2
  f5 : d 5 = true → x10 = .map (some ms)
  f6 : d 6 = true → x11 = .agg #[.int .i64 p.cards.length, .slice ro.1 k ro.2, .map (some ms)]
  f7 : d 7 = true → x12 = .pointer (some ⟨sb, 0, none⟩)
  f8 : d 8 = true → x2 = .pointer (some ⟨sb, 0, none⟩)
  st0 : d 4 = false → S0 (d 5) ms w
  st1 : d 4 = true → d 7 = false → S1 (d 5) ms ro w
  st2 : d 7 = true → S2 (d 5) ms ro sb w
  mz : d 5 = false → ms = 0
noncomputable def nsAC : Code := (Try.f66.body.bind (regionAt 1)).getD .skip
set_option maxRecDepth 100000 in
set_option maxHeartbeats 4000000 in
theorem nsA {p : Prs} {a : Option Addr} {cap : Nat} {bx : Nat} {k : Nat} {S0 : Bool → Nat → World → Prop} {S1 : Bool → Nat → Option Addr × Nat → World → Prop} {S2 : Bool → Nat → Option Addr × Nat → Nat → World → Prop} {Q : Exit → Act → World → Prop} {W1 : World} (h0 : S0 false 0 W1.drew)
    (kl1 : Hid (∀ (fs : Bool) (ms : Nat) (ro : Option Addr × Nat) (w : World), (S0 fs ms w ∨ S1 fs ms ro w) → w.cell? ⟨bx, 0, none⟩ = some (.slice a p.cards.length cap)))
    (kl3 : Hid (∀ (fs : Bool) (ms : Nat) (w : World), (S0 fs ms w) → w.cell? ⟨bx, 0, none⟩ = some (.slice a p.cards.length cap) ∧ w.cell? ⟨bx, 1, none⟩ = some (.int .i64 p.llo) ∧ w.cell? ⟨bx, 2, none⟩ = some (.int .i64 p.lhi) ∧ w.cell? ⟨bx, 3, none⟩ = some (.int .i64 p.olo) ∧ w.cell? ⟨bx, 4, none⟩ = some (.int .i64 p.ohi)))
    (kc4 : Hid (∀ (fs : Bool) (ms : Nat) (w : World), S0 fs ms w → Calls Try.prog 63 #[p.v a cap] w fun e w' => ∃ ro : Option Addr × Nat, e = .returned (.slice ro.1 k ro.2) ∧ S1 fs ms ro w'))
    (ks0 : Hid (∀ (w : World), S0 false 0 w → S0 true w.heap.size (w.alloc (.map #[] 0))))
    (ks1 : Hid (∀ (ro : Option Addr × Nat) (w : World), S1 false 0 ro w → S1 true w.heap.size ro (w.alloc (.map #[] 0))))
    (kc7 : Hid (∀ (ms : Nat) (ro : Option Addr × Nat) (w : World), S1 true ms ro w → S2 true ms ro w.heap.size (w.alloc (.cells #[.int .i64 p.cards.length, .slice ro.1 k ro.2, .map (some ms)] 133))))
    {s0 s2 s3 s4 s5 s6 s7 s8 s9 s10 s11 s12 s13 s14 s15 s16 s17 s18 s19 s20 s21 s22 s23 s24 s25 s26 : Value} {dd : List Deferred}
    (hQ : ∀ (ms : Nat) (ro : Option Addr × Nat) (sb : Nat) (w' : World), S2 true ms ro sb w' → Q .normal { tmps := #[s0, .pointer (some ⟨bx, 0, none⟩), .pointer (some ⟨sb, 0, none⟩), s3, s4, .pointer (some ⟨bx, 0, none⟩), .slice a p.cards.length cap, .int .i64 p.cards.length, p.v a cap, .slice ro.1 k ro.2, .map (some ms), .agg #[.int .i64 p.cards.length, .slice ro.1 k ro.2, .map (some ms)], .pointer (some ⟨sb, 0, none⟩), s13, s14, s15, s16, s17, s18, s19, s20, s21, s22, s23, s24, s25, s26], defers := dd } w') :
    Code.wpIn (wideAt none) 0 Try.prog nsAC Q { tmps := #[s0, .pointer (some ⟨bx, 0, none⟩), s2, s3, s4, s5, s6, s7, s8, s9, s10, s11, s12, s13, s14, s15, s16, s17, s18, s19, s20, s21, s22, s23, s24, s25, s26], defers := dd } W1 := by
  have HQ := Lib.hid hQ
  clear hQ
  conv => arg 4; whnf
  refine wpIn_region_invG mixed (by kernel_rfl) (fun d_ a_ w' => ∃ (x5 : Value) (x6 : Value) (x7 : Value) (x8 : Value) (x9 : Value) (x10 : Value) (x11 : Value) (x12 : Value) (x2 : Value) (ms : Nat) (ro : Option Addr × Nat) (sb : Nat), a_ = { tmps := #[s0, .pointer (some ⟨bx, 0, none⟩), x2, s3, s4, x5, x6, x7, x8, x9, x10, x11, x12, s13, s14, s15, s16, s17, s18, s19, s20, s21, s22, s23, s24, s25, s26], defers := dd } ∧ nsAF p a cap bx k S0 S1 S2 d_ x5 x6 x7 x8 x9 x10 x11 x12 x2 ms ro sb w') ?_ ?_ ?_
  · refine ⟨s5, s6, s7, s8, s9, s10, s11, s12, s2, 0, default, 0, rfl, ?_⟩
    constructor <;> first | rfl | (intro _; rfl) | (intro h; cases h; done) | (intro _; exact h0) | exact h0
  · refine ⟨?_, ?_, ?_, ?_, ?_, ?_, ?_, ?_, ?_, trivial⟩
    all_goals
      rintro d_ a_ w1 K hd_ hdep ⟨x5, x6, x7, x8, x9, x10, x11, x12, x2, ms, ro, sb, rfl, F⟩ HK
      simp [Region.binds] at hdep
    · have HF : Hid (nsAF p a cap bx k S0 S1 S2 (upd d_ 0) (.pointer (some ⟨bx, 0, none⟩)) x6 x7 x8 x9 x10 x11 x12 x2 ms ro sb w1) := ⟨fun h => rfl, F.q2, F.q4, F.q6, F.q7, fun h => ⟨rfl, (F.q8 h).2.1, (F.q8 h).2.2.1, (F.q8 h).2.2.2.1, (F.q8 h).2.2.2.2.1, (F.q8 h).2.2.2.2.2.1, (F.q8 h).2.2.2.2.2.2.1, (F.q8 h).2.2.2.2.2.2.2⟩, fun _ => rfl, F.f1, F.f2, F.f3, F.f4, F.f5, F.f6, F.f7, F.f8, F.st0, F.st1, F.st2, F.mz⟩
      clear F
      go_simp
      exact HK.out _ _ ⟨_, _, _, _, _, _, _, _, _, _, _, _, rfl, HF.out⟩
    · have hst : S0 (d_ 5) ms w1 ∨ S1 (d_ 5) ms ro w1 := by
        cases e1 : d_ 4 with
        | false => exact .inl ((F.st0 e1))
        | true =>
          have n_ : d_ 7 = false := by
            cases e_ : d_ 7 with
            | false => rfl
            | true => have h2 := (F.q2 (F.q6 (F.q7 e_)).1); rw [show d_ 1 = false from hd_] at h2; cases h2
          exact .inr ((F.st1 e1 n_))
      have kk := kl1.out (d_ 5) ms ro w1 hst
      clear hst
      obtain rfl := F.f0 (by simp [hdep])
      have HF : Hid (nsAF p a cap bx k S0 S1 S2 (upd d_ 1) (.pointer (some ⟨bx, 0, none⟩)) (.slice a p.cards.length cap) x7 x8 x9 x10 x11 x12 x2 ms ro sb w1) := ⟨fun _ => (show _ from (by simp [hdep] : d_ 0 = true)), fun h => rfl, F.q4, F.q6, F.q7, fun h => ⟨(F.q8 h).1, rfl, (F.q8 h).2.2.1, (F.q8 h).2.2.2.1, (F.q8 h).2.2.2.2.1, (F.q8 h).2.2.2.2.2.1, (F.q8 h).2.2.2.2.2.2.1, (F.q8 h).2.2.2.2.2.2.2⟩, F.f0, fun _ => rfl, F.f2, F.f3, F.f4, F.f5, F.f6, F.f7, F.f8, F.st0, F.st1, F.st2, F.mz⟩
      clear F
      go_simp
      exact HK.out _ _ ⟨_, _, _, _, _, _, _, _, _, _, _, _, rfl, HF.out⟩
    · obtain rfl := F.f1 (by simp [hdep])
      have HF : Hid (nsAF p a cap bx k S0 S1 S2 (upd d_ 2) x5 (.slice a p.cards.length cap) (.int .i64 p.cards.length) x8 x9 x10 x11 x12 x2 ms ro sb w1) := ⟨F.q1, fun _ => (show _ from (by simp [hdep] : d_ 1 = true)), F.q4, fun h => ⟨rfl, (F.q6 h).2.1, (F.q6 h).2.2⟩, F.q7, fun h => ⟨(F.q8 h).1, (F.q8 h).2.1, rfl, (F.q8 h).2.2.2.1, (F.q8 h).2.2.2.2.1, (F.q8 h).2.2.2.2.2.1, (F.q8 h).2.2.2.2.2.2.1, (F.q8 h).2.2.2.2.2.2.2⟩, F.f0, F.f1, fun _ => rfl, F.f3, F.f4, F.f5, F.f6, F.f7, F.f8, F.st0, F.st1, F.st2, F.mz⟩
      clear F
      go_simp
      exact HK.out _ _ ⟨_, _, _, _, _, _, _, _, _, _, _, _, rfl, HF.out⟩
    · have hst : S0 (d_ 5) ms w1 := by
        have n_ : d_ 4 = false := by
          cases e_ : d_ 4 with
          | false => rfl
          | true => have h2 := (F.q4 e_); rw [show d_ 3 = false from hd_] at h2; cases h2
        exact (F.st0 n_)
      have kk := kl3.out (d_ 5) ms w1 hst
      obtain ⟨kk0, kk1, kk2, kk3, kk4⟩ := kk
      clear hst
      have HF : Hid (nsAF p a cap bx k S0 S1 S2 (upd d_ 3) x5 x6 x7 (p.v a cap) x9 x10 x11 x12 x2 ms ro sb w1) := ⟨F.q1, F.q2, fun h => rfl, F.q6, F.q7, fun h => ⟨(F.q8 h).1, (F.q8 h).2.1, (F.q8 h).2.2.1, rfl, (F.q8 h).2.2.2.2.1, (F.q8 h).2.2.2.2.2.1, (F.q8 h).2.2.2.2.2.2.1, (F.q8 h).2.2.2.2.2.2.2⟩, F.f0, F.f1, F.f2, fun _ => rfl, F.f4, F.f5, F.f6, F.f7, F.f8, F.st0, F.st1, F.st2, F.mz⟩
      clear F
      go_simp
      exact HK.out _ _ ⟨_, _, _, _, _, _, _, _, _, _, _, _, rfl, HF.out⟩
    · have hS := F.st0  hd_
      obtain rfl := F.f3 (by simp [hdep])
      have hc := kc4.out (d_ 5) ms w1 hS
      have HF := Lib.hid F
      clear F
      go_simp
      refine ⟨trivial, rfl, wideAt_calls (hc.mono ?_)⟩
      rintro e w5 ⟨v_, rfl, hres⟩
      exact HK.out _ _ ⟨_, _, _, _, _, _, _, _, _, ms, v_, sb, rfl, ⟨HF.out.q1, HF.out.q2, fun _ => (show _ from (by simp [hdep] : d_ 3 = true)), fun h => ⟨(HF.out.q6 h).1, rfl, (HF.out.q6 h).2.2⟩, HF.out.q7, fun h => ⟨(HF.out.q8 h).1, (HF.out.q8 h).2.1, (HF.out.q8 h).2.2.1, (HF.out.q8 h).2.2.2.1, rfl, (HF.out.q8 h).2.2.2.2.2.1, (HF.out.q8 h).2.2.2.2.2.2.1, (HF.out.q8 h).2.2.2.2.2.2.2⟩, HF.out.f0, HF.out.f1, HF.out.f2, HF.out.f3, fun _ => rfl, HF.out.f5, fun h => (by have h2 : d_ 4 = true := (HF.out.q6 h).2.1; rw [show d_ 4 = false from hd_] at h2; cases h2), HF.out.f7, HF.out.f8, fun h => (by simp [upd] at h), fun _ _ => hres, fun h => (by have h2 : d_ 4 = true := (HF.out.q6 (HF.out.q7 h)).2.1; rw [show d_ 4 = false from hd_] at h2; cases h2), HF.out.mz⟩⟩
    · have HF : Hid (nsAF p a cap bx k S0 S1 S2 (upd d_ 5) x5 x6 x7 x8 x9 (.map (some w1.heap.size)) x11 x12 x2 w1.heap.size ro sb (w1.alloc (.map #[] 0))) := ⟨F.q1, F.q2, F.q4, fun h => ⟨(F.q6 h).1, (F.q6 h).2.1, rfl⟩, F.q7, fun h => ⟨(F.q8 h).1, (F.q8 h).2.1, (F.q8 h).2.2.1, (F.q8 h).2.2.2.1, (F.q8 h).2.2.2.2.1, rfl, (F.q8 h).2.2.2.2.2.2.1, (F.q8 h).2.2.2.2.2.2.2⟩, F.f0, F.f1, F.f2, F.f3, F.f4, fun _ => rfl, fun h => (by have h2 : d_ 5 = true := (F.q6 h).2.2; rw [show d_ 5 = false from hd_] at h2; cases h2), F.f7, F.f8, fun b => ks0.out w1 (by have h := F.st0 b; rw [show d_ 5 = false from hd_, F.mz hd_] at h; exact h), fun a b => ks1.out ro w1 (by have h := F.st1 a b; rw [show d_ 5 = false from hd_, F.mz hd_] at h; exact h), fun a => (by have h2 : d_ 5 = true := (F.q6 (F.q7 a)).2.2; rw [show d_ 5 = false from hd_] at h2; cases h2), fun h => (by simp [upd] at h)⟩
      clear F
      have hmm := mkmap131
      go_simp
      exact HK.out _ _ ⟨_, _, _, _, _, _, _, _, _, _, _, _, rfl, HF.out⟩
    · obtain rfl := F.f2 (by simp [hdep])
      obtain rfl := F.f4 (by simp [hdep])
      obtain rfl := F.f5 (by simp [hdep])
      have HF : Hid (nsAF p a cap bx k S0 S1 S2 (upd d_ 6) x5 x6 (.int .i64 p.cards.length) x8 (.slice ro.1 k ro.2) (.map (some ms)) (.agg #[.int .i64 p.cards.length, .slice ro.1 k ro.2, .map (some ms)]) x12 x2 ms ro sb w1) := ⟨F.q1, F.q2, F.q4, fun _ => ⟨(show _ from (by simp [hdep] : d_ 2 = true)), (show _ from (by simp [hdep] : d_ 4 = true)), (show _ from (by simp [hdep] : d_ 5 = true))⟩, fun h => rfl, fun h => ⟨(F.q8 h).1, (F.q8 h).2.1, (F.q8 h).2.2.1, (F.q8 h).2.2.2.1, (F.q8 h).2.2.2.2.1, (F.q8 h).2.2.2.2.2.1, rfl, (F.q8 h).2.2.2.2.2.2.2⟩, F.f0, F.f1, F.f2, F.f3, F.f4, F.f5, fun _ => rfl, F.f7, F.f8, F.st0, F.st1, F.st2, F.mz⟩
      clear F
      go_simp
      exact HK.out _ _ ⟨_, _, _, _, _, _, _, _, _, _, _, _, rfl, HF.out⟩
    · have hS := F.st1 (F.q6 (by simp [hdep] : d_ 6 = true)).2.1 hd_
      rw [show d_ 5 = true from (F.q6 (by simp [hdep] : d_ 6 = true)).2.2] at hS
      obtain rfl := F.f6 (by simp [hdep])
      have hres := kc7.out ms ro w1 hS
      have HF : Hid (nsAF p a cap bx k S0 S1 S2 (upd d_ 7) x5 x6 x7 x8 x9 x10 (.agg #[.int .i64 p.cards.length, .slice ro.1 k ro.2, .map (some ms)]) ((.pointer (some ⟨w1.heap.size, 0, none⟩))) x2 ms ro w1.heap.size (w1.alloc (.cells #[.int .i64 p.cards.length, .slice ro.1 k ro.2, .map (some ms)] 133))) := ⟨F.q1, F.q2, F.q4, F.q6, fun _ => (show _ from (by simp [hdep] : d_ 6 = true)), fun h => ⟨(F.q8 h).1, (F.q8 h).2.1, (F.q8 h).2.2.1, (F.q8 h).2.2.2.1, (F.q8 h).2.2.2.2.1, (F.q8 h).2.2.2.2.2.1, (F.q8 h).2.2.2.2.2.2.1, rfl⟩, F.f0, F.f1, F.f2, F.f3, F.f4, F.f5, F.f6, fun _ => rfl, fun h => (by have h2 : d_ 7 = true := (F.q8 h).2.2.2.2.2.2.2; rw [show d_ 7 = false from hd_] at h2; cases h2), fun h => (by have h2 : d_ 4 = false := h; rw [(F.q6 (by simp [hdep] : d_ 6 = true)).2.1] at h2; cases h2), fun _ h => (by simp [upd] at h), fun _ => (by rw [show upd d_ 7 5 = true from (F.q6 (by simp [hdep] : d_ 6 = true)).2.2]; exact hres), F.mz⟩
      clear F hS hres
      go_simp
      exact HK.out _ _ ⟨_, _, _, _, _, _, _, _, _, _, _, _, rfl, HF.out⟩
    · obtain rfl := F.f7 (by simp [hdep])
      have HF : Hid (nsAF p a cap bx k S0 S1 S2 (upd d_ 8) x5 x6 x7 x8 x9 x10 x11 (.pointer (some ⟨sb, 0, none⟩)) (.pointer (some ⟨sb, 0, none⟩)) ms ro sb w1) := ⟨F.q1, F.q2, F.q4, F.q6, F.q7, fun _ => ⟨(show _ from (by simp [hdep] : d_ 0 = true)), (show _ from (by simp [hdep] : d_ 1 = true)), (show _ from (by simp [hdep] : d_ 2 = true)), (show _ from (by simp [hdep] : d_ 3 = true)), (show _ from (by simp [hdep] : d_ 4 = true)), (show _ from (by simp [hdep] : d_ 5 = true)), (show _ from (by simp [hdep] : d_ 6 = true)), (show _ from (by simp [hdep] : d_ 7 = true))⟩, F.f0, F.f1, F.f2, F.f3, F.f4, F.f5, F.f6, F.f7, fun _ => rfl, F.st0, F.st1, F.st2, F.mz⟩
      clear F
      go_simp
      exact HK.out _ _ ⟨_, _, _, _, _, _, _, _, _, _, _, _, rfl, HF.out⟩
  · rintro d_ a_ w1 hall ⟨x5, x6, x7, x8, x9, x10, x11, x12, x2, ms, ro, sb, rfl, F⟩
    have hall' : ∀ k, k < 9 → d_ k = true := hall
    obtain rfl := F.f0 (hall' 0 (by decide))
    obtain rfl := F.f1 (hall' 1 (by decide))
    obtain rfl := F.f2 (hall' 2 (by decide))
    obtain rfl := F.f3 (hall' 3 (by decide))
    obtain rfl := F.f4 (hall' 4 (by decide))
    obtain rfl := F.f5 (hall' 5 (by decide))
    obtain rfl := F.f6 (hall' 6 (by decide))
    obtain rfl := F.f7 (hall' 7 (by decide))
    obtain rfl := F.f8 (hall' 8 (by decide))
    have hst := F.st2 (hall' 7 (by decide))
    rw [show d_ 5 = true from hall' 5 (by decide)] at hst
    exact HQ.out ms ro sb w1 hst
structure nsBF (p : Prs) (a : Option Addr) (cap : Nat) (bx : Nat) (k : Nat) (S0 : Bool → Nat → World → Prop) (S1 : Bool → Nat → World → Prop) (d : Nat → Bool) (x5 x6 x7 x8 x9 x10 x11 x12 x2 : Value) (ms : Nat) (w : World) : Prop where
  q1 : d 1 = true → d 0 = true
  q2 : d 2 = true → d 1 = true
  q4 : d 4 = true → d 3 = true
  q6 : d 6 = true → d 2 = true ∧ d 4 = true ∧ d 5 = true
  q7 : d 7 = true → d 6 = true
  q8 : d 8 = true → d 0 = true ∧ d 1 = true ∧ d 2 = true ∧ d 3 = true ∧ d 4 = true ∧ d 5 = true ∧ d 6 = true ∧ d 7 = true
  f0 : d 0 = true → x5 = .pointer (some ⟨bx, 0, none⟩)
  f1 : d 1 = true → x6 = .slice a p.cards.length cap
  f2 : d 2 = true → x7 = .int .i64 p.cards.length
  f3 : d 3 = true → x8 = p.v a cap
  f5 : d 5 = true → x10 = .map (some ms)
  st0 : d 4 = false → S0 (d 5) ms w
  np : d 4 = false
  mz : d 5 = false → ms = 0
set_option maxRecDepth 100000 in
set_option maxHeartbeats 4000000 in
theorem nsB {p : Prs} {a : Option Addr} {cap : Nat} {bx : Nat} {k : Nat} {S0 : Bool → Nat → World → Prop} {S1 : Bool → Nat → World → Prop} {Q : Exit → Act → World → Prop} {W1 : World} {er : Int} (h0 : S0 false 0 W1.drew)
    (kl1 : Hid (∀ (fs : Bool) (ms : Nat) (w : World), (S0 fs ms w) → w.cell? ⟨bx, 0, none⟩ = some (.slice a p.cards.length cap)))
    (kl3 : Hid (∀ (fs : Bool) (ms : Nat) (w : World), (S0 fs ms w) → w.cell? ⟨bx, 0, none⟩ = some (.slice a p.cards.length cap) ∧ w.cell? ⟨bx, 1, none⟩ = some (.int .i64 p.llo) ∧ w.cell? ⟨bx, 2, none⟩ = some (.int .i64 p.lhi) ∧ w.cell? ⟨bx, 3, none⟩ = some (.int .i64 p.olo) ∧ w.cell? ⟨bx, 4, none⟩ = some (.int .i64 p.ohi)))
    (kc4 : Hid (∀ (fs : Bool) (ms : Nat) (w : World), S0 fs ms w → Calls Try.prog 63 #[p.v a cap] w fun e w' => e = .panicked [{ v := .iface 115 (.agg #[.int .i64 er]), recovered := false }] ∧ S1 fs ms w'))
    (ks0 : Hid (∀ (w : World), S0 false 0 w → S0 true w.heap.size (w.alloc (.map #[] 0))))
    {s0 s2 s3 s4 s5 s6 s7 s8 s9 s10 s11 s12 s13 s14 s15 s16 s17 s18 s19 s20 s21 s22 s23 s24 s25 s26 : Value} {dd : List Deferred}
    (hQ : ∀ (fs : Bool) (ms : Nat) (x5 : Value) (x6 : Value) (x7 : Value) (x8 : Value) (x9 : Value) (x10 : Value) (x11 : Value) (x12 : Value) (x2 : Value) (w' : World), S1 fs ms w' → Q (.panic [{ v := .iface 115 (.agg #[.int .i64 er]), recovered := false }]) { tmps := #[s0, .pointer (some ⟨bx, 0, none⟩), x2, s3, s4, x5, x6, x7, x8, x9, x10, x11, x12, s13, s14, s15, s16, s17, s18, s19, s20, s21, s22, s23, s24, s25, s26], defers := dd } w') :
    Code.wpIn (wideAt none) 0 Try.prog nsAC Q { tmps := #[s0, .pointer (some ⟨bx, 0, none⟩), s2, s3, s4, s5, s6, s7, s8, s9, s10, s11, s12, s13, s14, s15, s16, s17, s18, s19, s20, s21, s22, s23, s24, s25, s26], defers := dd } W1 := by
  have HQ := Lib.hid hQ
  clear hQ
  conv => arg 4; whnf
  refine wpIn_region_invG mixed (by kernel_rfl) (fun d_ a_ w' => ∃ (x5 : Value) (x6 : Value) (x7 : Value) (x8 : Value) (x9 : Value) (x10 : Value) (x11 : Value) (x12 : Value) (x2 : Value) (ms : Nat), a_ = { tmps := #[s0, .pointer (some ⟨bx, 0, none⟩), x2, s3, s4, x5, x6, x7, x8, x9, x10, x11, x12, s13, s14, s15, s16, s17, s18, s19, s20, s21, s22, s23, s24, s25, s26], defers := dd } ∧ nsBF p a cap bx k S0 S1 d_ x5 x6 x7 x8 x9 x10 x11 x12 x2 ms w') ?_ ?_ ?_
  · refine ⟨s5, s6, s7, s8, s9, s10, s11, s12, s2, 0, rfl, ?_⟩
    constructor <;> first | rfl | (intro _; rfl) | (intro h; cases h; done) | (intro _; exact h0) | exact h0
  · refine ⟨?_, ?_, ?_, ?_, ?_, ?_, ?_, ?_, ?_, trivial⟩
    all_goals
      rintro d_ a_ w1 K hd_ hdep ⟨x5, x6, x7, x8, x9, x10, x11, x12, x2, ms, rfl, F⟩ HK
      simp [Region.binds] at hdep
    · have HF : Hid (nsBF p a cap bx k S0 S1 (upd d_ 0) (.pointer (some ⟨bx, 0, none⟩)) x6 x7 x8 x9 x10 x11 x12 x2 ms w1) := ⟨fun h => rfl, F.q2, F.q4, F.q6, F.q7, fun h => ⟨rfl, (F.q8 h).2.1, (F.q8 h).2.2.1, (F.q8 h).2.2.2.1, (F.q8 h).2.2.2.2.1, (F.q8 h).2.2.2.2.2.1, (F.q8 h).2.2.2.2.2.2.1, (F.q8 h).2.2.2.2.2.2.2⟩, fun _ => rfl, F.f1, F.f2, F.f3, F.f5, F.st0, F.np, F.mz⟩
      clear F
      go_simp
      exact HK.out _ _ ⟨_, _, _, _, _, _, _, _, _, _, rfl, HF.out⟩
    · have hst : S0 (d_ 5) ms w1 := by
        have n_ := F.np
        exact (F.st0 n_)
      have kk := kl1.out (d_ 5) ms w1 hst
      clear hst
      obtain rfl := F.f0 (by simp [hdep])
      have HF : Hid (nsBF p a cap bx k S0 S1 (upd d_ 1) (.pointer (some ⟨bx, 0, none⟩)) (.slice a p.cards.length cap) x7 x8 x9 x10 x11 x12 x2 ms w1) := ⟨fun _ => (show _ from (by simp [hdep] : d_ 0 = true)), fun h => rfl, F.q4, F.q6, F.q7, fun h => ⟨(F.q8 h).1, rfl, (F.q8 h).2.2.1, (F.q8 h).2.2.2.1, (F.q8 h).2.2.2.2.1, (F.q8 h).2.2.2.2.2.1, (F.q8 h).2.2.2.2.2.2.1, (F.q8 h).2.2.2.2.2.2.2⟩, F.f0, fun _ => rfl, F.f2, F.f3, F.f5, F.st0, F.np, F.mz⟩
      clear F
      go_simp
      exact HK.out _ _ ⟨_, _, _, _, _, _, _, _, _, _, rfl, HF.out⟩
    · obtain rfl := F.f1 (by simp [hdep])
      have HF : Hid (nsBF p a cap bx k S0 S1 (upd d_ 2) x5 (.slice a p.cards.length cap) (.int .i64 p.cards.length) x8 x9 x10 x11 x12 x2 ms w1) := ⟨F.q1, fun _ => (show _ from (by simp [hdep] : d_ 1 = true)), F.q4, fun h => ⟨rfl, (F.q6 h).2.1, (F.q6 h).2.2⟩, F.q7, fun h => ⟨(F.q8 h).1, (F.q8 h).2.1, rfl, (F.q8 h).2.2.2.1, (F.q8 h).2.2.2.2.1, (F.q8 h).2.2.2.2.2.1, (F.q8 h).2.2.2.2.2.2.1, (F.q8 h).2.2.2.2.2.2.2⟩, F.f0, F.f1, fun _ => rfl, F.f3, F.f5, F.st0, F.np, F.mz⟩
      clear F
      go_simp
      exact HK.out _ _ ⟨_, _, _, _, _, _, _, _, _, _, rfl, HF.out⟩
    · have hst : S0 (d_ 5) ms w1 := by
        have n_ : d_ 4 = false := by
          cases e_ : d_ 4 with
          | false => rfl
          | true => have h2 := (F.q4 e_); rw [show d_ 3 = false from hd_] at h2; cases h2
        exact (F.st0 n_)
      have kk := kl3.out (d_ 5) ms w1 hst
      obtain ⟨kk0, kk1, kk2, kk3, kk4⟩ := kk
      clear hst
      have HF : Hid (nsBF p a cap bx k S0 S1 (upd d_ 3) x5 x6 x7 (p.v a cap) x9 x10 x11 x12 x2 ms w1) := ⟨F.q1, F.q2, fun h => rfl, F.q6, F.q7, fun h => ⟨(F.q8 h).1, (F.q8 h).2.1, (F.q8 h).2.2.1, rfl, (F.q8 h).2.2.2.2.1, (F.q8 h).2.2.2.2.2.1, (F.q8 h).2.2.2.2.2.2.1, (F.q8 h).2.2.2.2.2.2.2⟩, F.f0, F.f1, F.f2, fun _ => rfl, F.f5, F.st0, F.np, F.mz⟩
      clear F
      go_simp
      exact HK.out _ _ ⟨_, _, _, _, _, _, _, _, _, _, rfl, HF.out⟩
    · have hS := F.st0  hd_
      obtain rfl := F.f3 (by simp [hdep])
      have hc := kc4.out (d_ 5) ms w1 hS
      clear F hS
      go_simp
      refine ⟨trivial, rfl, wideAt_calls (hc.mono ?_)⟩
      rintro e w5 ⟨rfl, hres⟩
      exact HQ.out _ _ _ _ _ _ _ _ _ _ _ w5 hres
    · have HF : Hid (nsBF p a cap bx k S0 S1 (upd d_ 5) x5 x6 x7 x8 x9 (.map (some w1.heap.size)) x11 x12 x2 w1.heap.size (w1.alloc (.map #[] 0))) := ⟨F.q1, F.q2, F.q4, fun h => ⟨(F.q6 h).1, (F.q6 h).2.1, rfl⟩, F.q7, fun h => ⟨(F.q8 h).1, (F.q8 h).2.1, (F.q8 h).2.2.1, (F.q8 h).2.2.2.1, (F.q8 h).2.2.2.2.1, rfl, (F.q8 h).2.2.2.2.2.2.1, (F.q8 h).2.2.2.2.2.2.2⟩, F.f0, F.f1, F.f2, F.f3, fun _ => rfl, fun b => ks0.out w1 (by have h := F.st0 b; rw [show d_ 5 = false from hd_, F.mz hd_] at h; exact h), F.np, fun h => (by simp [upd] at h)⟩
      clear F
      have hmm := mkmap131
      go_simp
      exact HK.out _ _ ⟨_, _, _, _, _, _, _, _, _, _, rfl, HF.out⟩
    · have h2 : d_ 4 = true := (by simp [hdep] : d_ 4 = true)
      rw [F.np] at h2
      cases h2
    · have h2 : d_ 4 = true := (F.q6 (by simp [hdep] : d_ 6 = true)).2.1
      rw [F.np] at h2
      cases h2
    · have h2 : d_ 4 = true := (by simp [hdep] : d_ 4 = true)
      rw [F.np] at h2
      cases h2
  · rintro d_ a_ w1 hall ⟨x5, x6, x7, x8, x9, x10, x11, x12, x2, ms, rfl, F⟩
    have hall' : ∀ k, k < 9 → d_ k = true := hall
    have h2 := hall' 4 (by decide)
    rw [F.np] at h2
    cases h2
structure ns7F (sb : Nat) (bl : Nat) (lo : Int) (hi : Int) (S0 : World → Prop) (S1 : World → Prop) (d : Nat → Bool) (x25 x26 : Value) (w : World) : Prop where
  q2 : d 2 = true → d 0 = true
  q3 : d 3 = true → d 0 = true ∧ d 1 = true ∧ d 2 = true
  f0 : d 0 = true → x25 = .pointer (some ⟨sb, 0, none⟩)
  f1 : d 1 = true → x26 = .agg #[.int .u64 lo, .int .u64 hi]
  st0 : d 3 = false → S0 w
  st1 : d 3 = true → S1 w
noncomputable def ns7C : Code := (Try.f66.body.bind (regionAt 7)).getD .skip
set_option maxRecDepth 100000 in
set_option maxHeartbeats 4000000 in
theorem ns7 {sb : Nat} {bl : Nat} {lo : Int} {hi : Int} {S0 : World → Prop} {S1 : World → Prop} {Q : Exit → Act → World → Prop} {W1 : World} (h0 : S0 W1.drew)
    (kl1 : Hid (∀ (w : World), (S0 w) → w.cell? ⟨bl, 0, none⟩ = some (.int .u64 lo) ∧ w.cell? ⟨bl, 1, none⟩ = some (.int .u64 hi)))
    (kc3 : Hid (∀ (w : World), S0 w → (∃ u, w.cell? ⟨bl, 0, none⟩ = some u) ∧ w.frozen? ⟨bl, 0, none⟩ = false ∧ (∃ u, w.cell? ⟨bl, 1, none⟩ = some u) ∧ w.frozen? ⟨bl, 1, none⟩ = false ∧ S1 ((w.setCell ⟨bl, 0, none⟩ (.int .u64 lo)).setCell ⟨bl, 1, none⟩ (.int .u64 hi))))
    {s0 s1 s4 s5 s6 s7 s8 s9 s10 s11 s12 s13 s14 s15 s16 s17 s18 s19 s20 s21 s22 s23 s24 s25 s26 : Value} {dd : List Deferred}
    (hQ : ∀ (w' : World), S1 w' → Q .normal { tmps := #[s0, s1, .pointer (some ⟨sb, 0, none⟩), .pointer (some ⟨bl, 0, none⟩), s4, s5, s6, s7, s8, s9, s10, s11, s12, s13, s14, s15, s16, s17, s18, s19, s20, s21, s22, s23, s24, .pointer (some ⟨sb, 0, none⟩), .agg #[.int .u64 lo, .int .u64 hi]], defers := dd } w') :
    Code.wpIn (wideAt none) 0 Try.prog ns7C Q { tmps := #[s0, s1, .pointer (some ⟨sb, 0, none⟩), .pointer (some ⟨bl, 0, none⟩), s4, s5, s6, s7, s8, s9, s10, s11, s12, s13, s14, s15, s16, s17, s18, s19, s20, s21, s22, s23, s24, s25, s26], defers := dd } W1 := by
  have HQ := Lib.hid hQ
  clear hQ
  conv => arg 4; whnf
  refine wpIn_region_invG mixed (by kernel_rfl) (fun d_ a_ w' => ∃ (x25 : Value) (x26 : Value), a_ = { tmps := #[s0, s1, .pointer (some ⟨sb, 0, none⟩), .pointer (some ⟨bl, 0, none⟩), s4, s5, s6, s7, s8, s9, s10, s11, s12, s13, s14, s15, s16, s17, s18, s19, s20, s21, s22, s23, s24, x25, x26], defers := dd } ∧ ns7F sb bl lo hi S0 S1 d_ x25 x26 w') ?_ ?_ ?_
  · refine ⟨s25, s26, rfl, ?_⟩
    constructor <;> first | rfl | (intro _; rfl) | (intro h; cases h; done) | (intro _; exact h0) | exact h0
  · refine ⟨?_, ?_, ?_, ?_, trivial⟩
    all_goals
      rintro d_ a_ w1 K hd_ hdep ⟨x25, x26, rfl, F⟩ HK
      simp [Region.binds] at hdep
    · have HF : Hid (ns7F sb bl lo hi S0 S1 (upd d_ 0) (.pointer (some ⟨sb, 0, none⟩)) x26 w1) := ⟨fun h => rfl, fun h => ⟨rfl, (F.q3 h).2.1, (F.q3 h).2.2⟩, fun _ => rfl, F.f1, F.st0, F.st1⟩
      clear F
      go_simp
      exact HK.out _ _ ⟨_, _, rfl, HF.out⟩
    · have hst : S0 w1 := by
        have n_ : d_ 3 = false := by
          cases e_ : d_ 3 with
          | false => rfl
          | true => have h2 := (F.q3 e_).2.1; rw [show d_ 1 = false from hd_] at h2; cases h2
        exact (F.st0 n_)
      have kk := kl1.out w1 hst
      obtain ⟨kk0, kk1⟩ := kk
      clear hst
      have HF : Hid (ns7F sb bl lo hi S0 S1 (upd d_ 1) x25 (.agg #[.int .u64 lo, .int .u64 hi]) w1) := ⟨F.q2, fun h => ⟨(F.q3 h).1, rfl, (F.q3 h).2.2⟩, F.f0, fun _ => rfl, F.st0, F.st1⟩
      clear F
      go_simp
      exact HK.out _ _ ⟨_, _, rfl, HF.out⟩
    · obtain rfl := F.f0 (by simp [hdep])
      have HF : Hid (ns7F sb bl lo hi S0 S1 (upd d_ 2) (.pointer (some ⟨sb, 0, none⟩)) x26 w1) := ⟨fun _ => (show _ from (by simp [hdep] : d_ 0 = true)), fun h => ⟨(F.q3 h).1, (F.q3 h).2.1, rfl⟩, F.f0, F.f1, F.st0, F.st1⟩
      clear F
      go_simp
      exact HK.out _ _ ⟨_, _, rfl, HF.out⟩
    · have hS := F.st0  hd_
      obtain rfl := F.f1 (by simp [hdep])
      obtain ⟨⟨u0, kcell0⟩, kfr0, ⟨u1, kcell1⟩, kfr1, hres⟩ := kc3.out w1 hS
      have HF : Hid (ns7F sb bl lo hi S0 S1 (upd d_ 3) x25 (.agg #[.int .u64 lo, .int .u64 hi]) ((w1.setCell ⟨bl, 0, none⟩ (.int .u64 lo)).setCell ⟨bl, 1, none⟩ (.int .u64 hi))) := ⟨F.q2, fun _ => ⟨(show _ from (by simp [hdep] : d_ 0 = true)), (show _ from (by simp [hdep] : d_ 1 = true)), (show _ from (by simp [hdep] : d_ 2 = true))⟩, F.f0, F.f1, fun h => (by simp [upd] at h), fun _ => hres⟩
      clear F hS hres
      go_simp
      exact HK.out _ _ ⟨_, _, rfl, HF.out⟩
  · rintro d_ a_ w1 hall ⟨x25, x26, rfl, F⟩
    have hall' : ∀ k, k < 4 → d_ k = true := hall
    obtain rfl := F.f0 (hall' 0 (by decide))
    obtain rfl := F.f1 (hall' 1 (by decide))
    have hst := F.st1 (hall' 3 (by decide))
    exact HQ.out  w1 hst
end Go.Proofs.Ytnfhlbmapfoifaa
namespace Go.Proofs.Ytnfhlbmapfoifaa
open Go.RowKit
set_option linter.unusedVariables false
/-- The numbers below m that are so, by bits. -/
def cmpS (f : Nat → Bool) (m : Nat) : Nat := ((List.range m).filter f).foldl (fun s k => s ||| 2 ^ k) 0
theorem cmpS_zero (f : Nat → Bool) : cmpS f 0 = 0 := rfl
theorem cmpS_succ (f : Nat → Bool) (m : Nat) : cmpS f (m + 1) = if f m then cmpS f m ||| 2 ^ m else cmpS f m := by
  unfold cmpS
  rw [List.range_succ, List.filter_append]
  cases h : f m <;> simp [h, List.foldl_append]
theorem cmpS_bit (f : Nat → Bool) : ∀ (m i : Nat), (cmpS f m).testBit i = (decide (i < m) && f i)
  | 0, i => by simp [cmpS_zero]
  | m + 1, i => by
    rw [cmpS_succ]
    have ih := cmpS_bit f m i
    cases h : f m with
    | false =>
      simp only [Bool.false_eq_true, if_false]
      rw [ih]
      by_cases e : i = m
      · subst e; simp [h]
      · have : (i < m) ↔ (i < m + 1) := by omega
        simp [this]
    | true =>
      simp only [if_true]
      rw [Nat.testBit_or, ih, Nat.testBit_two_pow]
      by_cases e : i = m
      · subst e; simp [h]
      · have h1 : (i < m) ↔ (i < m + 1) := by omega
        have h2 : ¬ m = i := fun h => e h.symm
        simp [h1, h2]
theorem cmpS_lt (f : Nat → Bool) {m k : Nat} (h : m ≤ k) : cmpS f m < 2 ^ k := by
  apply Nat.lt_pow_two_of_testBit
  intro i hi
  rw [cmpS_bit]
  simp; omega
theorem allS_eq (n : Nat) : allS n = cmpS (fun _ => true) n := by
  unfold allS cmpS
  rw [List.filter_eq_self.2 (fun _ _ => rfl)]
theorem allS_succ (n : Nat) : allS (n + 1) = allS n ||| 2 ^ n := by rw [allS_eq, allS_eq, cmpS_succ]; rfl
theorem allS_lt {n : Nat} (h : n ≤ 128) : allS n < 2 ^ 128 := by rw [allS_eq]; exact cmpS_lt _ h
theorem cnt_le {α : Type} {P Q : α → Bool} : ∀ {l : List α}, (∀ x ∈ l, P x = true → Q x = true) → l.countP P ≤ l.countP Q
  | [], _ => by simp
  | y :: r, h => by
    have ih := cnt_le (l := r) (fun x hx => h x (by simp [hx]))
    have h1 := h y (by simp)
    simp only [List.countP_cons]
    cases hp : P y <;> cases hq : Q y <;> simp_all <;> omega
theorem cnt_lt {α : Type} {P Q : α → Bool} : ∀ {l : List α}, (∀ x ∈ l, P x = true → Q x = true) → (∃ x ∈ l, Q x = true ∧ P x = false) → l.countP P < l.countP Q
  | [], _, ⟨x, hx, _⟩ => by simp at hx
  | y :: r, h, ⟨x, hx, hq, hp⟩ => by
    have hle := cnt_le (l := r) (fun x hx => h x (by simp [hx]))
    have h1 := h y (by simp)
    simp only [List.countP_cons]
    rcases List.mem_cons.1 hx with rfl | hx
    · simp only [hq, hp, if_true]
      simp
      omega
    · have ih := cnt_lt (l := r) (fun x hx => h x (by simp [hx])) ⟨x, hx, hq, hp⟩
      cases hp' : P y <;> cases hq' : Q y <;> simp_all <;> omega
def freeN (n : Nat) (pre : List Int) : Nat := (List.range n).countP fun (i : Nat) => !decide ((i : Int) ∈ pre)
theorem free_snoc {n : Nat} {pre : List Int} {i : Nat} (hi : i < n) (h : ¬ (i : Int) ∈ pre) : freeN n (pre ++ [(i : Int)]) < freeN n pre := by
  unfold freeN
  refine cnt_lt (fun x _ hx => ?_) ⟨i, List.mem_range.2 hi, by simpa using h, by simp⟩
  simp at hx ⊢
  exact hx.1
theorem flat_len2 {α β : Type} (f : α → List β) (q : α → Bool) (B : Nat) : ∀ l : List α, (∀ x ∈ l, q x = true → (f x).length ≤ B) → (∀ x ∈ l, q x = false → f x = []) → (l.flatMap f).length ≤ l.countP q * B
  | [], _, _ => by simp
  | x :: l, h1, h2 => by
    have ih := flat_len2 f q B l (fun y hy => h1 y (by simp [hy])) (fun y hy => h2 y (by simp [hy]))
    simp only [List.flatMap_cons, List.length_append, List.countP_cons]
    cases hq : q x with
    | true =>
      have := h1 x (by simp) hq
      simp only [if_true, Nat.add_mul, Nat.one_mul]
      omega
    | false =>
      have := h2 x (by simp) hq
      rw [this]
      simp only [List.length_nil, Bool.false_eq_true, if_false, Nat.add_zero, Nat.zero_add]
      exact ih
def fact : Nat → Nat
  | 0 => 1
  | n + 1 => (n + 1) * fact n
theorem fact_mono {a b : Nat} (h : a ≤ b) : fact a ≤ fact b := by
  induction h with
  | refl => exact Nat.le_refl _
  | @step m _ ih =>
    show _ ≤ (m + 1) * fact m
    exact Nat.le_trans ih (Nat.le_mul_of_pos_left _ (by omega))
theorem onO_fact {p : Prs} : ∀ (d : Nat) (pre : List Int), (onO p d pre).length ≤ fact (freeN p.cards.length pre)
  | 0, pre => by
    rw [onO_zero]
    have : 1 ≤ fact (freeN p.cards.length pre) := fact_mono (Nat.zero_le _)
    split <;> simp <;> omega
  | d + 1, pre => by
    rw [onO_succ]
    have h := flat_len2 (oF p d pre) (fun (i : Nat) => !decide ((i : Int) ∈ pre)) (fact (freeN p.cards.length pre - 1)) (List.range p.cards.length) (fun i hi hq => by
      have hi' := List.mem_range.1 hi
      have hq' : ¬ (i : Int) ∈ pre := by simpa using hq
      unfold oF
      rw [if_neg hq']
      have := free_snoc hi' hq'
      exact Nat.le_trans (onO_fact d _) (fact_mono (by omega))) (fun i hi hq => by
      have hq' : (i : Int) ∈ pre := by simpa using hq
      unfold oF
      rw [if_pos hq'])
    refine Nat.le_trans h ?_
    show freeN p.cards.length pre * _ ≤ _
    cases e : freeN p.cards.length pre with
    | zero => simp
    | succ m => exact Nat.le_refl _
theorem orders_few {p : Prs} (hv : p.valid = true) : (ordersL p).length ≤ 120 := by
  have hn := (valid_parts hv).1
  have h := onO_fact (p := p) p.cards.length []
  have h2 : freeN p.cards.length [] ≤ 5 := by
    unfold freeN
    refine Nat.le_trans (List.countP_le_length) ?_
    simpa using hn
  have h3 := fact_mono h2
  have h4 : fact 5 = 120 := by decide
  unfold ordersL
  omega
/-- A sorter of orders: block sb; its map, block mb. -/
structure Srt (w : World) (sb mb n : Nat) (v : Value) (os : List (List Int)) : Prop where
  s : w.heap[sb]? = some (.cells #[.int .i64 (n : Int), v, .map (some mb)] 133 (0, 0))
  r : RowsAt w 0 v os
theorem Srt.kept {w w' : World} {sb mb n : Nat} {v : Value} {os : List (List Int)} (h : Srt w sb mb n v os) (hm : ∃ es c, w.heap[mb]? = some (.map es c)) (hs : Same (fun k => k = mb) w w') : Srt w' sb mb n v os := by
  obtain ⟨es, c, hm⟩ := hm
  obtain ⟨vs, h1, h2⟩ := h.r
  have hne : ∀ k o t f, w.heap[k]? = some (.cells o t f) → k ≠ mb := fun k o t f hk e => by rw [e, hm] at hk; cases hk
  refine ⟨(hs.block _ (heap_lt h.s) (hne _ _ _ _ h.s)).trans h.s, vs, own_blocks h1 (fun g hg => hs.block g (h1.lt g hg).2 ?_), h2.blocks (fun vc hvc g hg => hs.block g (rows_lt h2 hvc hg).2 ?_)⟩
  · rcases h1.2 with ⟨rfl, _⟩ | ⟨g', cap, cur, rfl, _, hh, _⟩
    · cases hg
    · simp only [Value.ownBlock, Option.some.injEq] at hg
      subst hg
      exact hne _ _ _ _ hh
  · obtain ⟨i, hi, rfl⟩ := List.getElem_of_mem hvc
    have hi' : i < os.length := by rw [← h2.1]; exact hi
    obtain ⟨vc', k1, k2⟩ := h2.2 i _ (List.getElem?_eq_getElem hi')
    rw [List.getElem?_eq_getElem hi] at k1
    cases k1
    rcases k2.2 with ⟨e, _⟩ | ⟨g', cap, cur, e, _, hh, _⟩
    · rw [e] at hg; cases hg
    · rw [e] at hg
      simp only [Value.ownBlock, Option.some.injEq] at hg
      subst hg
      exact hne _ _ _ _ hh
theorem Srt.below {w w' : World} {sb mb n : Nat} {v : Value} {os : List (List Int)} (h : Srt w sb mb n v os) (hb : Below w.heap.size w w') : Srt w' sb mb n v os :=
  ⟨(hb.block _ (heap_lt h.s)).trans h.s, h.r.below hb⟩
end Go.Proofs.Ytnfhlbmapfoifaa
namespace Go.Proofs.Ytnfhlbmapfoifaa
open Go.RowKit
set_option linter.unusedVariables false
theorem RowsAt.blocks' {w w' : World} {B : Nat} {v : Value} {l : List (List Int)} (h : RowsAt w B v l) (hb : ∀ k, B ≤ k → k < w.heap.size → w'.heap[k]? = w.heap[k]?) : RowsAt w' B v l := by
  obtain ⟨vs, h1, h2⟩ := h
  exact ⟨vs, own_blocks h1 (fun g hg => hb g (h1.lt g hg).1 (h1.lt g hg).2), h2.blocks (fun vc hvc g hg => hb g (rows_lt h2 hvc hg).1 (rows_lt h2 hvc hg).2)⟩
theorem res_tc95 {fn : Func} {q p : Tmp} (h : fn.results = #[.tmp q, .cell p 95]) (tmps : Array Value) {w : World} {a : Nat} {x y : Value} (hp : tmps.getD p undef = .pointer (some ⟨a, 0, none⟩)) (hx : w.cell? ⟨a, 0, none⟩ = some x) (hy : w.cell? ⟨a, 1, none⟩ = some y) :
    (results fn tmps).run Try.prog w = .ok (.tuple #[tmps.getD q undef, .agg #[x, y]]) w := by
  have hp' : tmps[p]?.getD undef = .pointer (some ⟨a, 0, none⟩) := by simpa using hp
  simp [results, h, hp', hx, hy, go_sem]
/-- What a new sorter is. -/
def NewSrt (p : Prs) (B : Nat) (e : Ending) (w' : World) : Prop :=
  (ordersE p = 0 ∧ ∃ sb mb v, e = .returned (.tuple #[.pointer (some ⟨sb, 0, none⟩), leftV (allS (ordersL p).length)]) ∧ Srt w' sb mb p.cards.length v (ordersL p) ∧ w'.heap[mb]? = some (.map #[] 0) ∧ B ≤ sb ∧ B ≤ mb ∧ RowsAt w' B v (ordersL p)) ∨
  (ordersE p ≠ 0 ∧ e = .panicked [{ v := .iface 115 (.agg #[.int .i64 (ordersE p)]), recovered := false }])
theorem ordersE_valid {p : Prs} (h : ordersE p = 0) : p.valid = true := by
  unfold ordersE at h
  cases hv : p.valid
  · rw [hv] at h; simp at h
  · rfl
set_option maxRecDepth 100000 in
set_option maxHeartbeats 4000000 in
theorem sorter66 {p : Prs} {a : Option Addr} {cap : Nat} {w : World} (ha : IsPrts w a p.cards) (hn : p.cards.length ≤ 16) :
    Calls Try.prog 66 #[p.v a cap] w fun e w' => NewSrt p w.heap.size e w' ∧ Below w.heap.size w w' := by
  have HA := Lib.hid ha
  clear ha
  go_enter Try.func66, Try.ntmps66
  go_wp2_with fail
  obtain ⟨q0, q1, hz, hb⟩ := heap2 w (.cells (p.cells a cap) 26) (.cells #[.int .u64 0, .int .u64 0] 95)
  revert q0 q1 hz hb
  generalize ((w.alloc (.cells (p.cells a cap) 26)).alloc (.cells #[.int .u64 0, .int .u64 0] 95)) = W1
  intro q0 q1 hz hb
  have ha1 := HA.out.mono hb
  have kp := prs_cells q0
  have kp' : ∀ w', Below W1.heap.size W1 w' → w'.cell? ⟨w.heap.size, 0, none⟩ = some (.slice a p.cards.length cap) ∧ w'.cell? ⟨w.heap.size, 1, none⟩ = some (.int .i64 p.llo) ∧ w'.cell? ⟨w.heap.size, 2, none⟩ = some (.int .i64 p.lhi) ∧ w'.cell? ⟨w.heap.size, 3, none⟩ = some (.int .i64 p.olo) ∧ w'.cell? ⟨w.heap.size, 4, none⟩ = some (.int .i64 p.ohi) := fun w' hb' => by
    obtain ⟨k0, k1, k2, k3, k4⟩ := kp
    exact ⟨cell_stays hb' k0, cell_stays hb' k1, cell_stays hb' k2, cell_stays hb' k3, cell_stays hb' k4⟩
  by_cases hE : ordersE p = 0
  · have HE := Lib.hid hE
    clear hE
    refine wpIn_wide.1 (nsA (p := p) (a := a) (cap := cap) (k := (ordersL p).length) (S0 := fun f ms w' => Below W1.heap.size W1 w' ∧ (f = true → W1.heap.size ≤ ms ∧ w'.heap[ms]? = some (.map #[] 0)))
      (S1 := fun f ms ro w' => Below W1.heap.size W1 w' ∧ (f = true → W1.heap.size ≤ ms ∧ w'.heap[ms]? = some (.map #[] 0)) ∧ RowsAt w' W1.heap.size (.slice ro.1 (ordersL p).length ro.2) (ordersL p))
      (S2 := fun f ms ro sb w' => Below W1.heap.size W1 w' ∧ W1.heap.size ≤ ms ∧ W1.heap.size ≤ sb ∧ w'.heap[ms]? = some (.map #[] 0) ∧ w'.heap[sb]? = some (.cells #[.int .i64 p.cards.length, .slice ro.1 (ordersL p).length ro.2, .map (some ms)] 133 (0, 0)) ∧ RowsAt w' W1.heap.size (.slice ro.1 (ordersL p).length ro.2) (ordersL p)) ?h0 ?l1 ?l3 ?c4 ?s0 ?s1 ?c7 ?hQ)
    case h0 => exact ⟨(Below.refl _ W1).drew, fun h => by cases h⟩
    case l1 =>
      intro f ms ro w' h
      rcases h with h | h
      · exact (kp' w' h.1).1
      · exact (kp' w' h.1).1
    case l3 => exact fun f ms w' h => kp' w' h.1
    case c4 =>
      intro f ms w' h
      refine (orders63 (ha1.mono h.1) hn).mono ?_
      rintro e w3 ⟨h3, hb3⟩
      rcases h3 with ⟨_, v, rfl, hR⟩ | ⟨hne, _⟩
      · obtain ⟨vs, hr1, hr2⟩ := hR
        obtain ⟨av, cv, rfl, _⟩ := own_slice hr1
        exact ⟨(av, cv), rfl, h.1.trans (hb3.mono h.1.size), fun hf => ⟨(h.2 hf).1, (hb3.block _ (heap_lt (h.2 hf).2)).trans (h.2 hf).2⟩, RowsAt.base ⟨vs, hr1, hr2⟩ h.1.size⟩
      · exact (hne HE.out).elim
    case s0 => exact fun w' h => ⟨h.1.alloc h.1.size _, fun _ => ⟨h.1.size, World.alloc_heap_new _ _⟩⟩
    case s1 => exact fun ro w' h => ⟨h.1.alloc h.1.size _, fun _ => ⟨h.1.size, World.alloc_heap_new _ _⟩, h.2.2.below ((Below.refl _ _).alloc (Nat.le_refl _) _)⟩
    case c7 =>
      intro ms ro w' h
      have hb' : Below w'.heap.size w' (w'.alloc (.cells #[.int .i64 p.cards.length, .slice ro.1 (ordersL p).length ro.2, .map (some ms)] 133)) := (Below.refl _ _).alloc (Nat.le_refl _) _
      have hm := (h.2.1 rfl)
      exact ⟨h.1.trans (hb'.mono h.1.size), hm.1, h.1.size, (hb'.block _ (heap_lt hm.2)).trans hm.2, World.alloc_heap_new _ _, h.2.2.below hb'⟩
    case hQ =>
      rintro ms ⟨ao, co⟩ sb w3 ⟨hB3, hms, hsb, hm3, hSs, hSr⟩
      simp only at hSs hSr ⊢
      have hlen := orders_few (ordersE_valid HE.out)
      have hB3w := hB3.size
      have c0 : w3.cell? ⟨sb, 0, none⟩ = some (.int .i64 p.cards.length) := by rw [cell_of_heap hSs]; rfl
      have c1 : w3.cell? ⟨sb, 1, none⟩ = some (.slice ao (ordersL p).length co) := by rw [cell_of_heap hSs]; rfl
      have q1' := (hB3.block (w.heap.size + 1) (by omega)).trans q1
      have HS := Lib.hid (And.intro (And.intro hSs hSr) (And.intro hm3 (And.intro hms (And.intro hsb (And.intro hB3 (And.intro q1' (And.intro hz hb)))))))
      have hln : ((ordersL p).length : Int) ≤ 120 := by omega
      clear hSs hSr hm3 hms hsb hB3 hB3w q1' q0 q1 hz hb ha1 kp kp'
      go_wp2_with fail
      clear c0 c1
      go_loopw [18] (fun i wr => ∃ k : Nat, k ≤ (ordersL p).length ∧ i = .int .i64 k ∧ Hid (Same (fun k => k = w.heap.size + 1) w3 wr ∧ wr.heap[w.heap.size + 1]? = some (.cells (leftA (allS k)) 95 (0, 0)))) (fun i _ => (ordersL p).length - (intOf i).toNat)
      case atStart => exact ⟨0, by omega, rfl, Same.refl _ _, HS.out.2.2.2.2.2.1⟩
      case round =>
        obtain ⟨k, hk, rfl, HR⟩ := hrel
        obtain ⟨hs, hc⟩ := HR.out
        have c2 : wr.cell? ⟨w.heap.size + 1, 0, none⟩ = some (.int .u64 (loN (allS k))) := by rw [cell_of_heap hc]; rfl
        have c3 : wr.cell? ⟨w.heap.size + 1, 1, none⟩ = some (.int .u64 (hiN (allS k))) := by rw [cell_of_heap hc]; rfl
        clear hs hc
        by_cases hlt : k < (ordersL p).length
        · go_wp2_with fail
          refine (with_any (S := allS k) (n := k) (by omega) (allS_lt (by omega)) wr).mono ?_
          rintro e w4 ⟨rfl, hb4⟩
          rw [← allS_succ]
          obtain ⟨hs, hc⟩ := HR.out
          have hc4 := (hb4.block _ (heap_lt hc)).trans hc
          have d2 : ∃ u, w4.cell? ⟨w.heap.size + 1, 0, none⟩ = some u := ⟨_, by rw [cell_of_heap hc4]; rfl⟩
          have d3 : ∃ u, w4.cell? ⟨w.heap.size + 1, 1, none⟩ = some u := ⟨_, by rw [cell_of_heap hc4]; rfl⟩
          obtain ⟨u2, d2⟩ := d2
          obtain ⟨u3, d3⟩ := d3
          have f2 : ∀ k, w4.frozen? ⟨w.heap.size + 1, k, none⟩ = false := fun k => frozen_of_heap hc4
          have H4 := Lib.hid (And.intro (hs.trans (Same.of_below _ hb4)) hc4)
          clear hs hc hc4 hb4 c2 c3
          go_wp2_with fail
          go_roundw
          case rel => exact ⟨k + 1, by omega, by go_num, (H4.out.1.setCell (.inl rfl) _).setCell (.inl rfl) _, by simpa using heap_setCell_at (k := 1) (heap_setCell_at (k := 0) H4.out.2 (.int .u64 (loN (allS (k + 1))))) (.int .u64 (hiN (allS (k + 1))))⟩
          case measure => simp [intOf]; omega
        · obtain rfl : k = (ordersL p).length := by omega
          clear c2 c3
          go_wp2_with fail
          refine wpIn_wide.1 (ns7 (sb := sb) (bl := w.heap.size + 1) (lo := loN (allS (ordersL p).length)) (hi := hiN (allS (ordersL p).length)) (S0 := fun w' => Below wr.heap.size wr w') (S1 := fun w' => Same (fun k => k = w.heap.size + 1) wr w' ∧ w'.heap[w.heap.size + 1]? = some (.cells (leftA (allS (ordersL p).length)) 95 (0, 0))) ?d0 ?d1 ?d3 ?dQ)
          case d0 => exact (Below.refl _ _).drew
          case d1 =>
            intro w' h
            have e := (h.block _ (heap_lt HR.out.2)).trans HR.out.2
            exact ⟨by rw [cell_of_heap e]; rfl, by rw [cell_of_heap e]; rfl⟩
          case d3 =>
            intro w' h
            have e := (h.block _ (heap_lt HR.out.2)).trans HR.out.2
            exact ⟨⟨_, by rw [cell_of_heap e]; rfl⟩, frozen_of_heap e, ⟨_, by rw [cell_of_heap e]; rfl⟩, frozen_of_heap e, ((Same.of_below (fun k => k = w.heap.size + 1) h).setCell (p := ⟨w.heap.size + 1, 0, none⟩) (.inl rfl) _).setCell (p := ⟨w.heap.size + 1, 1, none⟩) (.inl rfl) _, by simpa using heap_setCell_at (k := 1) (heap_setCell_at (k := 0) e _) _⟩
          case dQ =>
            rintro w5 ⟨hs5, hc5⟩
            have H5 := Lib.hid (And.intro hs5 hc5)
            clear hs5 hc5
            go_wp2_with fail
            obtain ⟨hs5, hc5⟩ := H5.out
            obtain ⟨hS, hm3, hms, hsb, hB3, q1', hz, hb⟩ := HS.out
            have hs35 := HR.out.1.trans hs5
            have hne : ∀ k, W1.heap.size ≤ k → k ≠ w.heap.size + 1 := fun k hk => by omega
            refine bodyPost_ret (res_tc95 (x := .int .u64 (loN (allS (ordersL p).length))) (y := .int .u64 (hiN (allS (ordersL p).length))) rfl _ rfl (by rw [cell_of_heap hc5]; rfl) (by rw [cell_of_heap hc5]; rfl)) rfl ⟨.inl ⟨HE.out, sb, ms, .slice ao (ordersL p).length co, rfl, ⟨?_, ?_⟩, ?_, by omega, by omega, ?_⟩, ?_⟩
            · exact (hs35.block _ (heap_lt hS.1) (hne _ hsb)).trans hS.1
            · exact (hS.2.blocks' (fun k hk hk2 => hs35.block k hk2 (hne k hk))).base (Nat.zero_le _)
            · exact (hs35.block _ (heap_lt hm3) (hne _ hms)).trans hm3
            · exact (hS.2.blocks' (fun k hk hk2 => hs35.block k hk2 (hne k hk))).base hb.size
            · exact (hb.trans (hB3.mono hb.size)).trans (hs35.below (by have := hB3.size; omega) (fun k hk e => by omega))
  · have HE := Lib.hid hE
    clear hE
    refine wpIn_wide.1 (nsB (p := p) (a := a) (cap := cap) (k := 0) (er := ordersE p) (S0 := fun f ms w' => Below W1.heap.size W1 w') (S1 := fun f ms w' => Below W1.heap.size W1 w') ?h0 ?l1 ?l3 ?c4 ?s0 ?hQ)
    case h0 => exact (Below.refl _ W1).drew
    case l1 => exact fun f ms w' h => (kp' w' h).1
    case l3 => exact fun f ms w' h => kp' w' h
    case c4 =>
      intro f ms w' h
      refine (orders63 (ha1.mono h) hn).mono ?_
      rintro e w3 ⟨h3, hb3⟩
      rcases h3 with ⟨h0, _⟩ | ⟨hne, rfl⟩
      · exact (HE.out h0).elim
      · exact ⟨rfl, h.trans (hb3.mono h.size)⟩
    case s0 => exact fun w' h => h.alloc h.size _
    case hQ =>
      intros
      exact ⟨rfl, .inr ⟨HE.out, rfl⟩, hb.trans (Below.mono (by assumption) hb.size)⟩
end Go.Proofs.Ytnfhlbmapfoifaa
namespace Go.Proofs.Ytnfhlbmapfoifaa
open Go.RowKit
set_option linter.unusedVariables false
theorem flat_at {α β : Type} (f : α → List β) {l : List α} {a : Nat} {x : α} {i : Nat} {y : β} (hx : l[a]? = some x) (hy : (f x)[i]? = some y) : (l.flatMap f)[((l.take a).flatMap f).length + i]? = some y := by
  obtain ⟨ha, hxa⟩ := List.getElem?_eq_some_iff.1 hx
  have e : l = l.take a ++ x :: l.drop (a + 1) := by
    have h1 := (List.take_append_drop a l).symm
    rw [List.drop_eq_getElem_cons ha, hxa] at h1
    exact h1
  conv => lhs; arg 1; rw [e]
  rw [List.flatMap_append, List.flatMap_cons, List.getElem?_append_right (by omega), Nat.add_sub_cancel_left, List.getElem?_append_left (List.getElem?_eq_some_iff.1 hy).1]
  exact hy
def rowP (n a : Nat) : List (Nat × Nat) := ((List.range n).filter fun b => decide (a < b)).map fun b => (a, b)
theorem pairsL_eq (n : Nat) : pairsL n = (List.range n).flatMap (rowP n) := rfl
theorem above_eq (a : Nat) : ∀ n, (List.range n).filter (fun b => decide (a < b)) = (List.range (n - (a + 1))).map (fun k => a + 1 + k)
  | 0 => by simp
  | n + 1 => by
    rw [List.range_succ, List.filter_append, above_eq a n]
    by_cases h : a < n
    · have e : n + 1 - (a + 1) = (n - (a + 1)) + 1 := by omega
      rw [e, List.range_succ, List.map_append]
      simp [h]
      omega
    · have e : n + 1 - (a + 1) = 0 := by omega
      have e2 : n - (a + 1) = 0 := by omega
      simp [h, e, e2]
theorem rowP_len (n a : Nat) : (rowP n a).length = n - (a + 1) := by unfold rowP; rw [above_eq]; simp
theorem rowP_at {n a b : Nat} (h1 : a < b) (h2 : b < n) : (rowP n a)[b - (a + 1)]? = some (a, b) := by
  unfold rowP
  rw [above_eq]
  have : b - (a + 1) < n - (a + 1) := by omega
  simp [this]
  omega
def cntP (n a : Nat) : Nat := ((List.range a).flatMap (rowP n)).length
theorem cntP_succ (n a : Nat) : cntP n (a + 1) = cntP n a + (n - (a + 1)) := by
  unfold cntP
  rw [List.range_succ, List.flatMap_append, List.length_append]
  simp [rowP_len]
theorem cntP_all (n : Nat) : cntP n n = (pairsL n).length := rfl
theorem pairs_at {n a b : Nat} (h1 : a < b) (h2 : b < n) : (pairsL n)[cntP n a + (b - (a + 1))]? = some (a, b) := by
  have ha : a < n := by omega
  have := flat_at (rowP n) (l := List.range n) (a := a) (x := a) (by simp [ha]) (rowP_at h1 h2)
  rw [List.take_range, Nat.min_eq_left (by omega)] at this
  exact this
theorem pairs_mem {n : Nat} {x : Nat × Nat} (h : x ∈ pairsL n) : x.1 < x.2 ∧ x.2 < n := by
  rw [pairsL_eq, List.mem_flatMap] at h
  obtain ⟨a, ha, h⟩ := h
  unfold rowP at h
  rw [List.mem_map] at h
  obtain ⟨b, hb, rfl⟩ := h
  simp at hb
  exact ⟨hb.2, hb.1⟩
theorem pairs_any {w : World} {sb : Nat} : Calls Try.prog 70 #[.pointer (some ⟨sb, 0, none⟩)] w fun e w' => e = .returned (.func (.func 108) #[] #[.pointer (some ⟨w.heap.size, 0, none⟩)]) ∧ w' = w.alloc (.cells #[.pointer (some ⟨sb, 0, none⟩)] 92) := by
  have hmf : ∀ (fn : Fn) (first cap : Array Value) (w : World), (Instr.makeFunc fn first cap).run Try.prog w = .ok (.func fn first cap) w := fun _ _ _ _ => rfl
  go_enter Try.func70, Try.ntmps70
  go_wp2
  go_ret
  exact ⟨rfl, rfl⟩
/-- What is handed over: the i-th pair. -/
def PairOk (n : Nat) (i : Nat) (v : Array Value) (A : World) (K : Nat → Prop) : Prop :=
  ∃ a b : Nat, (pairsL n)[i]? = some (a, b) ∧ v = #[.int .i64 (a : Int), .int .i64 (b : Int)] ∧ K = fun _ => False
set_option maxRecDepth 100000 in
set_option maxHeartbeats 2000000 in
theorem pairs_iter {n sb pb : Nat} {W : World} {M : Nat → Prop} (hn : n ≤ 16)
    (hs : ∀ A, Same M W A → A.cell? ⟨pb, 0, none⟩ = some (.pointer (some ⟨sb, 0, none⟩)) ∧ A.cell? ⟨sb, 0, none⟩ = some (.int .i64 (n : Int))) :
    IterC Try.prog 108 #[.pointer (some ⟨pb, 0, none⟩)] (pairsL n).length (PairOk n) M W := by
  intro l J Jx hJ hJx hY h0
  obtain ⟨c0, c1⟩ := hs W (Same.refl _ W)
  have HS := Lib.hid hs
  have HY := Lib.hid hY
  have H0 := Lib.hid h0
  clear hs hY h0 hJ hJx
  refine callsIn_wide.2 ?_
  go_enter Try.func108, Try.ntmps108
  go_wp2_with fail
  clear c0 c1
  go_loopw [9] (fun i wr => ∃ (a : Nat) (C : Nat → Prop), a ≤ n ∧ i = .int .i64 a ∧ Hid (Same M W wr ∧ J (cntP n a) wr C)) (fun i _ => n - (intOf i).toNat)
  case atStart => exact ⟨0, _, by omega, rfl, Same.refl _ W, H0.out⟩
  case round =>
    obtain ⟨a, C, ha, rfl, HR⟩ := hrel
    by_cases hlt : a < n
    · obtain ⟨c0, c1⟩ := HS.out wr HR.out.1
      obtain ⟨wo, hwo⟩ : ∃ wo : World, wo = wr := ⟨_, rfl⟩
      subst hwo
      go_wp2_with fail
      clear c0 c1
      go_loopw [4] (fun i wr => ∃ (b : Nat) (C : Nat → Prop), a < b ∧ b ≤ n ∧ i = .int .i64 b ∧ Hid (Same M W wr ∧ J (cntP n a + (b - (a + 1))) wr C)) (fun i _ => n - (intOf i).toNat)
      case atStart => exact ⟨a + 1, C, by omega, by omega, by go_num, HR.out.1, by have := HR.out.2; simpa using this⟩
      case round =>
        obtain ⟨b, C2, hab, hb, rfl, HR2⟩ := hrel
        obtain ⟨c0, c1⟩ := HS.out wr HR2.out.1
        by_cases hlt2 : b < n
        · have hidx := pairs_at hab hlt2
          obtain ⟨fn, tmps, assign, body, hy, hRd⟩ := HY.out (cntP n a + (b - (a + 1))) #[.int .i64 (a : Int), .int .i64 (b : Int)] wr C2 (fun _ => False) (List.getElem?_eq_some_iff.1 hidx).1 ⟨a, b, hidx, rfl, rfl⟩ (fun _ h => h.elim) HR2.out.2
          have HRd := Lib.hid hRd
          clear hidx hRd
          refine (wpIn_wide (n := 0)).1 ?_
          gi_wp2_with fail
          refine ⟨rfl, HRd.out.mono ?_⟩
          rintro e W3 ⟨hs3, C3, h1, h2, h3, h4⟩
          have hS3 : Same M W W3 := same_later HR2.out.1 hs3 (fun k hm => by
            by_cases hk : k < W.heap.size
            · exact .inl (hm.2 hk)
            · exact .inr (by omega))
          rcases h4 with ⟨rfl, hj⟩ | ⟨rfl, hj⟩
          · have H3 := Lib.hid (And.intro hS3 hj)
            clear hS3 hj hs3 h1 h2 h3 c0 c1 hy
            gi_wp2_with fail
            go_roundw
            case rel => exact ⟨b + 1, C3, by omega, by omega, by go_num, H3.out.1, by have := H3.out.2; rw [show b + 1 - (a + 1) = b - (a + 1) + 1 by omega, ← Nat.add_assoc]; exact this⟩
            case measure => simp [intOf]; omega
          · have H3 := Lib.hid hj
            have hidx := pairs_at hab hlt2
            have hi := (List.getElem?_eq_some_iff.1 hidx).1
            clear hS3 hj hs3 h1 h2 h3 c0 c1 hy hidx
            gi_wp2_with fail
            refine bodyPost_ret (results_none rfl _ _ _) rfl ?_
            exact ⟨⟨_, rfl⟩, C3, .inr ⟨_, hi, H3.out⟩⟩
        · obtain rfl : b = n := by omega
          go_wp2_with fail
          go_roundw
          case rel => exact ⟨a + 1, C2, by omega, by go_num, HR2.out.1, by rw [cntP_succ]; exact HR2.out.2⟩
          case measure => simp [intOf]; omega
    · obtain rfl : a = n := by omega
      go_wp2_with fail
      refine bodyPost_end (results_none rfl _ _ _) rfl ?_
      exact ⟨⟨_, rfl⟩, C, .inl (by have := HR.out.2; rw [cntP_all] at this; exact this)⟩
end Go.Proofs.Ytnfhlbmapfoifaa
namespace Go.Proofs.Ytnfhlbmapfoifaa
open Go.RowKit
set_option linter.unusedVariables false
structure cm9F (b8 : Nat) (b9 : Nat) (al : Int) (ah : Int) (bl : Int) (bh : Int) (S0 : World → Prop) (S1 : World → Prop) (S2 : World → Prop) (d : Nat → Bool) (x40 x41 : Value) (w : World) : Prop where
  q2 : d 2 = true → d 0 = true
  q3 : d 3 = true → d 0 = true ∧ d 1 = true ∧ d 2 = true
  f0 : d 0 = true → x40 = .agg #[.int .u64 al, .int .u64 ah]
  f1 : d 1 = true → x41 = .agg #[.int .u64 bl, .int .u64 bh]
  st0 : d 2 = false → S0 w
  st1 : d 2 = true → d 3 = false → S1 w
  st2 : d 3 = true → S2 w
noncomputable def cm9C : Code := (Try.f69.body.bind (regionAt 9)).getD .skip
set_option maxRecDepth 100000 in
set_option maxHeartbeats 4000000 in
theorem cm9 {b8 : Nat} {b9 : Nat} {al : Int} {ah : Int} {bl : Int} {bh : Int} {S0 : World → Prop} {S1 : World → Prop} {S2 : World → Prop} {Q : Exit → Act → World → Prop} {W1 : World} (h0 : S0 W1.drew)
    (kl0 : Hid (∀ (w : World), (S0 w) → w.cell? ⟨b8, 0, none⟩ = some (.int .u64 al) ∧ w.cell? ⟨b8, 1, none⟩ = some (.int .u64 ah)))
    (kl1 : Hid (∀ (w : World), (S0 w ∨ S1 w) → w.cell? ⟨b9, 0, none⟩ = some (.int .u64 bl) ∧ w.cell? ⟨b9, 1, none⟩ = some (.int .u64 bh)))
    (kc2 : Hid (∀ (w : World), S0 w → (∃ u, w.cell? ⟨b8, 0, none⟩ = some u) ∧ w.frozen? ⟨b8, 0, none⟩ = false ∧ (∃ u, w.cell? ⟨b8, 1, none⟩ = some u) ∧ w.frozen? ⟨b8, 1, none⟩ = false ∧ S1 ((w.setCell ⟨b8, 0, none⟩ (.int .u64 al)).setCell ⟨b8, 1, none⟩ (.int .u64 ah))))
    (kc3 : Hid (∀ (w : World), S1 w → (∃ u, w.cell? ⟨b9, 0, none⟩ = some u) ∧ w.frozen? ⟨b9, 0, none⟩ = false ∧ (∃ u, w.cell? ⟨b9, 1, none⟩ = some u) ∧ w.frozen? ⟨b9, 1, none⟩ = false ∧ S2 ((w.setCell ⟨b9, 0, none⟩ (.int .u64 bl)).setCell ⟨b9, 1, none⟩ (.int .u64 bh))))
    {s0 s1 s2 s3 s4 s5 s6 s7 s10 s11 s12 s13 s14 s15 s16 s17 s18 s19 s20 s21 s22 s23 s24 s25 s26 s27 s28 s29 s30 s31 s32 s33 s34 s35 s36 s37 s38 s39 s40 s41 : Value} {dd : List Deferred}
    (hQ : ∀ (w' : World), S2 w' → Q .normal { tmps := #[s0, s1, s2, s3, s4, s5, s6, s7, .pointer (some ⟨b8, 0, none⟩), .pointer (some ⟨b9, 0, none⟩), s10, s11, s12, s13, s14, s15, s16, s17, s18, s19, s20, s21, s22, s23, s24, s25, s26, s27, s28, s29, s30, s31, s32, s33, s34, s35, s36, s37, s38, s39, .agg #[.int .u64 al, .int .u64 ah], .agg #[.int .u64 bl, .int .u64 bh]], defers := dd } w') :
    Code.wpIn (wideAt none) 0 Try.prog cm9C Q { tmps := #[s0, s1, s2, s3, s4, s5, s6, s7, .pointer (some ⟨b8, 0, none⟩), .pointer (some ⟨b9, 0, none⟩), s10, s11, s12, s13, s14, s15, s16, s17, s18, s19, s20, s21, s22, s23, s24, s25, s26, s27, s28, s29, s30, s31, s32, s33, s34, s35, s36, s37, s38, s39, s40, s41], defers := dd } W1 := by
  have HQ := Lib.hid hQ
  clear hQ
  conv => arg 4; whnf
  refine wpIn_region_invG mixed (by kernel_rfl) (fun d_ a_ w' => ∃ (x40 : Value) (x41 : Value), a_ = { tmps := #[s0, s1, s2, s3, s4, s5, s6, s7, .pointer (some ⟨b8, 0, none⟩), .pointer (some ⟨b9, 0, none⟩), s10, s11, s12, s13, s14, s15, s16, s17, s18, s19, s20, s21, s22, s23, s24, s25, s26, s27, s28, s29, s30, s31, s32, s33, s34, s35, s36, s37, s38, s39, x40, x41], defers := dd } ∧ cm9F b8 b9 al ah bl bh S0 S1 S2 d_ x40 x41 w') ?_ ?_ ?_
  · refine ⟨s40, s41, rfl, ?_⟩
    constructor <;> first | rfl | (intro _; rfl) | (intro h; cases h; done) | (intro _; exact h0) | exact h0
  · refine ⟨?_, ?_, ?_, ?_, trivial⟩
    all_goals
      rintro d_ a_ w1 K hd_ hdep ⟨x40, x41, rfl, F⟩ HK
      simp [Region.binds] at hdep
    · have hst : S0 w1 := by
        have n_ : d_ 2 = false := by
          cases e_ : d_ 2 with
          | false => rfl
          | true => have h2 := (F.q2 e_); rw [show d_ 0 = false from hd_] at h2; cases h2
        exact (F.st0 n_)
      have kk := kl0.out w1 hst
      obtain ⟨kk0, kk1⟩ := kk
      clear hst
      have HF : Hid (cm9F b8 b9 al ah bl bh S0 S1 S2 (upd d_ 0) (.agg #[.int .u64 al, .int .u64 ah]) x41 w1) := ⟨fun h => rfl, fun h => ⟨rfl, (F.q3 h).2.1, (F.q3 h).2.2⟩, fun _ => rfl, F.f1, F.st0, F.st1, F.st2⟩
      clear F
      go_simp
      exact HK.out _ _ ⟨_, _, rfl, HF.out⟩
    · have hst : S0 w1 ∨ S1 w1 := by
        cases e1 : d_ 2 with
        | false => exact .inl ((F.st0 e1))
        | true =>
          have n_ : d_ 3 = false := by
            cases e_ : d_ 3 with
            | false => rfl
            | true => have h2 := (F.q3 e_).2.1; rw [show d_ 1 = false from hd_] at h2; cases h2
          exact .inr ((F.st1 e1 n_))
      have kk := kl1.out w1 hst
      obtain ⟨kk0, kk1⟩ := kk
      clear hst
      have HF : Hid (cm9F b8 b9 al ah bl bh S0 S1 S2 (upd d_ 1) x40 (.agg #[.int .u64 bl, .int .u64 bh]) w1) := ⟨F.q2, fun h => ⟨(F.q3 h).1, rfl, (F.q3 h).2.2⟩, F.f0, fun _ => rfl, F.st0, F.st1, F.st2⟩
      clear F
      go_simp
      exact HK.out _ _ ⟨_, _, rfl, HF.out⟩
    · have hS := F.st0  hd_
      obtain rfl := F.f0 (by simp [hdep])
      obtain ⟨⟨u0, kcell0⟩, kfr0, ⟨u1, kcell1⟩, kfr1, hres⟩ := kc2.out w1 hS
      have HF : Hid (cm9F b8 b9 al ah bl bh S0 S1 S2 (upd d_ 2) (.agg #[.int .u64 al, .int .u64 ah]) x41 ((w1.setCell ⟨b8, 0, none⟩ (.int .u64 al)).setCell ⟨b8, 1, none⟩ (.int .u64 ah))) := ⟨fun _ => (show _ from (by simp [hdep] : d_ 0 = true)), fun h => ⟨(F.q3 h).1, (F.q3 h).2.1, rfl⟩, F.f0, F.f1, fun h => (by simp [upd] at h), fun _ _ => hres, fun h => (by have h2 : d_ 2 = true := (F.q3 h).2.2; rw [show d_ 2 = false from hd_] at h2; cases h2)⟩
      clear F hS hres
      go_simp
      exact HK.out _ _ ⟨_, _, rfl, HF.out⟩
    · have hS := F.st1 (by simp [hdep] : d_ 2 = true) hd_
      obtain rfl := F.f1 (by simp [hdep])
      obtain ⟨⟨u0, kcell0⟩, kfr0, ⟨u1, kcell1⟩, kfr1, hres⟩ := kc3.out w1 hS
      have HF : Hid (cm9F b8 b9 al ah bl bh S0 S1 S2 (upd d_ 3) x40 (.agg #[.int .u64 bl, .int .u64 bh]) ((w1.setCell ⟨b9, 0, none⟩ (.int .u64 bl)).setCell ⟨b9, 1, none⟩ (.int .u64 bh))) := ⟨F.q2, fun _ => ⟨(show _ from (by simp [hdep] : d_ 0 = true)), (show _ from (by simp [hdep] : d_ 1 = true)), (show _ from (by simp [hdep] : d_ 2 = true))⟩, F.f0, F.f1, fun h => (by have h2 : d_ 2 = false := h; rw [(by simp [hdep] : d_ 2 = true)] at h2; cases h2), fun _ h => (by simp [upd] at h), fun _ => hres⟩
      clear F hS hres
      go_simp
      exact HK.out _ _ ⟨_, _, rfl, HF.out⟩
  · rintro d_ a_ w1 hall ⟨x40, x41, rfl, F⟩
    have hall' : ∀ k, k < 4 → d_ k = true := hall
    obtain rfl := F.f0 (hall' 0 (by decide))
    obtain rfl := F.f1 (hall' 1 (by decide))
    have hst := F.st2 (hall' 3 (by decide))
    exact HQ.out  w1 hst
theorem heap3' (w : World) (a b c : Obj) : let W := ((w.alloc a).alloc b).alloc c
    W.heap[w.heap.size]? = some a ∧ W.heap[w.heap.size + 1]? = some b ∧ W.heap[w.heap.size + 1 + 1]? = some c ∧ W.heap.size = w.heap.size + 3 ∧ Below w.heap.size w W := by
  have q0 := World.alloc_heap_new w a
  have q1 := World.alloc_heap_new (w.alloc a) b
  have q2 := World.alloc_heap_new ((w.alloc a).alloc b) c
  simp only [World.size_alloc] at q1 q2
  refine ⟨?_, ?_, q2, by simp, (((Below.refl _ w).alloc (Nat.le_refl _) _).alloc (by simp) _).alloc (by simp; omega) _⟩
  · rw [Below.heap_alloc _ _ _ (by simp <;> omega), Below.heap_alloc _ _ _ (by simp)]; exact q0
  · rw [Below.heap_alloc _ _ _ (by simp)]; exact q1
theorem leftA_zero : leftA 0 = #[.int .u64 0, .int .u64 0] := by simp [loN, hiN]
def fBef (os : List (List Int)) (S a b k : Nat) : Bool := S.testBit k && decide (indexL (os.getD k []) a < indexL (os.getD k []) b)
def fAft (os : List (List Int)) (S a b k : Nat) : Bool := S.testBit k && !decide (indexL (os.getD k []) a < indexL (os.getD k []) b)
theorem befS_eq (os : List (List Int)) (S a b : Nat) : befS os S a b = cmpS (fBef os S a b) os.length := rfl
theorem aftS_eq (os : List (List Int)) (S a b : Nat) : aftS os S a b = cmpS (fAft os S a b) os.length := rfl
theorem res_cc95 {fn : Func} {q p : Tmp} (h : fn.results = #[.cell q 95, .cell p 95]) (tmps : Array Value) {w : World} {a b : Nat} {x y x' y' : Value} (hq : tmps.getD q undef = .pointer (some ⟨a, 0, none⟩)) (hp : tmps.getD p undef = .pointer (some ⟨b, 0, none⟩)) (hx : w.cell? ⟨a, 0, none⟩ = some x) (hy : w.cell? ⟨a, 1, none⟩ = some y) (hx' : w.cell? ⟨b, 0, none⟩ = some x') (hy' : w.cell? ⟨b, 1, none⟩ = some y') :
    (results fn tmps).run Try.prog w = .ok (.tuple #[.agg #[x, y], .agg #[x', y']]) w := by
  have hp' : tmps[p]?.getD undef = .pointer (some ⟨b, 0, none⟩) := by simpa using hp
  have hq' : tmps[q]?.getD undef = .pointer (some ⟨a, 0, none⟩) := by simpa using hq
  simp [results, h, hp', hq', hx, hy, hx', hy', go_sem]
set_option maxRecDepth 100000 in
set_option maxHeartbeats 4000000 in
theorem compared_any {w : World} {sb mb n : Nat} {v : Value} {os : List (List Int)} {S a b : Nat} (hS : Srt w sb mb n v os) (hos : os.length ≤ 128) (hl : ∀ o ∈ os, o.length ≤ 16) (hSl : S < 2 ^ 128) :
    Calls Try.prog 69 #[.pointer (some ⟨sb, 0, none⟩), leftV S, .int .i64 a, .int .i64 b] w fun e w' => e = .returned (.tuple #[leftV (befS os S a b), leftV (aftS os S a b)]) ∧ Below w.heap.size w w' := by
  obtain ⟨vs, hr1, hr2⟩ := hS.r
  obtain ⟨av, cv, rfl, hcv, _⟩ := own_slice hr1
  have HR : Hid (∀ w', Below w.heap.size w w' → ∀ k, k < os.length → ∃ g vc, av = some ⟨g, 0, none⟩ ∧ w'.cell? ⟨g, k, none⟩ = some vc ∧ ∃ ax cx, vc = .slice ax (os.getD k []).length cx ∧ IsInts w' ax (os.getD k [])) := by
    intro w' hb k hk
    obtain ⟨g, cp, e, _, _, _, _, hc⟩ := own_cell hr1 (by omega)
    cases e
    have hk' : os[k]? = some (os.getD k []) := by simp [hk]
    obtain ⟨vc, h1, h2⟩ := hr2.2 k _ hk'
    obtain ⟨ax, cx, rfl, _⟩ := own_slice h2
    exact ⟨g, _, rfl, cell_stays hb (hc k _ h1), ax, cx, rfl, (own_ints h2).mono hb⟩
  have HL : Hid (∀ k, k < os.length → (os.getD k []).length ≤ 16) := fun k hk => by
    have e : os.getD k [] = os[k] := by simp [hk]
    rw [e]; exact hl _ (List.getElem_mem hk)
  have HS := Lib.hid hS
  have hq0 := hS.s
  have HSl := Lib.hid hSl
  clear hS hr1 hr2 hSl hl
  go_enter Try.func69, Try.ntmps69
  go_wp2_with fail
  obtain ⟨q0, q1, q2, hz, hb⟩ := heap3' w (.cells (leftA S) 95) (.cells #[.int .u64 0, .int .u64 0] 95) (.cells #[.int .u64 0, .int .u64 0] 95)
  revert q0 q1 q2 hz hb
  generalize (((w.alloc (.cells (leftA S) 95)).alloc (.cells #[.int .u64 0, .int .u64 0] 95)).alloc (.cells #[.int .u64 0, .int .u64 0] 95)) = W1
  intro q0 q1 q2 hz hb
  have s1 := (hb.block _ (heap_lt hq0)).trans hq0
  have c0 : W1.cell? ⟨sb, 0, none⟩ = some (.int .i64 n) := by rw [cell_of_heap s1]; rfl
  have c1 : W1.cell? ⟨sb, 1, none⟩ = some (.slice av os.length cv) := by rw [cell_of_heap s1]; rfl
  have HW := Lib.hid (And.intro q0 (And.intro q1 (And.intro q2 (And.intro hz hb))))
  clear q0 q1 q2 hz hb s1 hq0
  have HC := Lib.hid (And.intro c0 c1)
  clear c0 c1
  go_step3
  go_wp2_with fail
  go_step3
  obtain ⟨c0, c1⟩ := HC.out
  have hlen : (os.length : Int) ≤ 128 := by omega
  go_wp2_with fail
  clear c0 c1
  go_loopw [17] (fun i wr => ∃ k : Nat, k ≤ os.length ∧ i = .int .i64 k ∧ Hid (Same (fun k => k = w.heap.size + 1 ∨ k = w.heap.size + 1 + 1) W1 wr ∧ wr.heap[w.heap.size + 1]? = some (.cells (leftA (cmpS (fBef os S a b) k)) 95 (0, 0)) ∧ wr.heap[w.heap.size + 1 + 1]? = some (.cells (leftA (cmpS (fAft os S a b) k)) 95 (0, 0)))) (fun i _ => os.length - (intOf i).toNat)
  case atStart => exact ⟨0, by omega, rfl, Same.refl _ _, by rw [cmpS_zero, leftA_zero]; exact HW.out.2.1, by rw [cmpS_zero, leftA_zero]; exact HW.out.2.2.1⟩
  case round =>
    obtain ⟨k, hk, rfl, HK⟩ := hrel
    obtain ⟨hs, h8, h9⟩ := HK.out
    obtain ⟨q0, q1, q2, hz, hb⟩ := HW.out
    have hbw : Below w.heap.size w wr := hb.trans (hs.below (by omega) (fun k hk e => by omega))
    have e5 := (hs.block _ (heap_lt q0) (by omega)).trans q0
    have d0 : wr.cell? ⟨w.heap.size, 0, none⟩ = some (.int .u64 (loN S)) := by rw [cell_of_heap e5]; rfl
    have d1 : wr.cell? ⟨w.heap.size, 1, none⟩ = some (.int .u64 (hiN S)) := by rw [cell_of_heap e5]; rfl
    have HBW := Lib.hid (And.intro hbw e5)
    clear hs h8 h9 q0 q1 q2 hz hb hbw e5
    by_cases hlt : k < os.length
    · obtain ⟨g, vc, rfl, hrc, ax, cx, rfl, hi⟩ := HR.out wr HBW.out.1 k hlt
      have hll := HL.out k hlt
      have HS8 := Lib.hid (cmpS_succ (fBef os S a b) k)
      have HS9 := Lib.hid (cmpS_succ (fAft os S a b) k)
      have HFB : Hid (fBef os S a b k = (S.testBit k && decide (indexL (os.getD k []) a < indexL (os.getD k []) b))) := rfl
      have HFA : Hid (fAft os S a b k = (S.testBit k && !decide (indexL (os.getD k []) a < indexL (os.getD k []) b))) := rfl
      obtain ⟨o, ho⟩ : ∃ o, os.getD k [] = o := ⟨_, rfl⟩
      rw [ho] at hrc hi hll HFB HFA
      clear ho
      have HI := Lib.hid hi
      clear hi
      go_wp2_with fail
      refine (has_any (S := S) (n := k) (by omega) HSl.out wr).mono ?_
      rintro e w4 ⟨rfl, hb4⟩
      clear d0 d1 hrc
      have H4 := Lib.hid hb4
      clear hb4
      cases ht : S.testBit k
      · have HT := Lib.hid ht
        clear ht
        go_wp2_with fail
        go_roundw
        case rel =>
          obtain ⟨hs, h8, h9⟩ := HK.out
          refine ⟨k + 1, by omega, by go_num, hs.trans (Same.of_below _ H4.out), ?_, ?_⟩
          · rw [HS8.out, HFB.out, HT.out]; exact (H4.out.block _ (heap_lt h8)).trans h8
          · rw [HS9.out, HFA.out, HT.out]; exact (H4.out.block _ (heap_lt h9)).trans h9
        case measure => simp [intOf]; omega
      · have HT := Lib.hid ht
        clear ht
        go_wp2_with fail
        refine (index_any (l := o) (v := (a : Int)) (by omega) (HI.out.mono H4.out)).mono ?_
        rintro e w' ⟨rfl, rfl⟩
        go_wp2_with fail
        refine (index_any (l := o) (v := (b : Int)) (by omega) (HI.out.mono H4.out)).mono ?_
        rintro e w' ⟨rfl, rfl⟩
        obtain ⟨hs, h8, h9⟩ := HK.out
        have h8' := (H4.out.block _ (heap_lt h8)).trans h8
        have h9' := (H4.out.block _ (heap_lt h9)).trans h9
        have f0 : w4.cell? ⟨w.heap.size + 1, 0, none⟩ = some (.int .u64 (loN (cmpS (fBef os S a b) k))) := by rw [cell_of_heap h8']; rfl
        have f1 : w4.cell? ⟨w.heap.size + 1, 1, none⟩ = some (.int .u64 (hiN (cmpS (fBef os S a b) k))) := by rw [cell_of_heap h8']; rfl
        have g0 : w4.cell? ⟨w.heap.size + 1 + 1, 0, none⟩ = some (.int .u64 (loN (cmpS (fAft os S a b) k))) := by rw [cell_of_heap h9']; rfl
        have g1 : w4.cell? ⟨w.heap.size + 1 + 1, 1, none⟩ = some (.int .u64 (hiN (cmpS (fAft os S a b) k))) := by rw [cell_of_heap h9']; rfl
        have HH8 := Lib.hid (And.intro h8' (And.intro h9' (hs.trans (Same.of_below _ H4.out))))
        clear hs h8 h9 h8' h9'
        by_cases hx : indexL o a < indexL o b
        · have hd : decide (indexL o a < indexL o b) = true := by simpa using hx
          have HX := Lib.hid (And.intro hx hd)
          clear hd
          go_wp2_with fail
          refine (with_any (S := cmpS (fBef os S a b) k) (n := k) (by omega) (cmpS_lt _ (by omega)) w4).mono ?_
          rintro e w6 ⟨rfl, hb6⟩
          have e1 : cmpS (fBef os S a b) k ||| 2 ^ k = cmpS (fBef os S a b) (k + 1) := by rw [HS8.out, HFB.out, HT.out, HX.out.2]; rfl
          rw [e1]
          obtain ⟨h8', h9', hs'⟩ := HH8.out
          have h86 := (hb6.block _ (heap_lt h8')).trans h8'
          obtain ⟨u0, m0⟩ : ∃ u, w6.cell? ⟨w.heap.size + 1, 0, none⟩ = some u := ⟨_, by rw [cell_of_heap h86]; rfl⟩
          obtain ⟨u1, m1⟩ : ∃ u, w6.cell? ⟨w.heap.size + 1, 1, none⟩ = some u := ⟨_, by rw [cell_of_heap h86]; rfl⟩
          have fz : ∀ k, w6.frozen? ⟨w.heap.size + 1, k, none⟩ = false := fun k => frozen_of_heap h86
          have H6 := Lib.hid (And.intro h86 (And.intro ((hb6.block _ (heap_lt h9')).trans h9') (hs'.trans (Same.of_below _ hb6))))
          clear h8' h9' hs' h86 hb6 f0 f1 g0 g1 e1 hx
          go_wp2_with fail
          go_roundw
          case rel =>
            obtain ⟨h86, h96, hs6⟩ := H6.out
            refine ⟨k + 1, by omega, by go_num, (hs6.setCell (.inl (.inl rfl)) _).setCell (.inl (.inl rfl)) _, ?_, ?_⟩
            · simpa using heap_setCell_at (k := 1) (heap_setCell_at (k := 0) h86 (.int .u64 (loN (cmpS (fBef os S a b) (k + 1))))) (.int .u64 (hiN (cmpS (fBef os S a b) (k + 1))))
            · have e2 : cmpS (fAft os S a b) (k + 1) = cmpS (fAft os S a b) k := by rw [HS9.out, HFA.out, HT.out, HX.out.2]; rfl
              rw [e2]
              exact (Below.heap_setCell _ _ _ _ (by show w.heap.size + 1 + 1 ≠ w.heap.size + 1; omega)).trans ((Below.heap_setCell _ _ _ _ (by show w.heap.size + 1 + 1 ≠ w.heap.size + 1; omega)).trans h96)
          case measure => simp [intOf]; omega
        · have hd : decide (indexL o a < indexL o b) = false := by simpa using hx
          have HX := Lib.hid (And.intro hx hd)
          clear hd
          go_wp2_with fail
          refine (with_any (S := cmpS (fAft os S a b) k) (n := k) (by omega) (cmpS_lt _ (by omega)) w4).mono ?_
          rintro e w6 ⟨rfl, hb6⟩
          have e1 : cmpS (fAft os S a b) k ||| 2 ^ k = cmpS (fAft os S a b) (k + 1) := by rw [HS9.out, HFA.out, HT.out, HX.out.2]; rfl
          rw [e1]
          obtain ⟨h8', h9', hs'⟩ := HH8.out
          have h96 := (hb6.block _ (heap_lt h9')).trans h9'
          obtain ⟨u0, m0⟩ : ∃ u, w6.cell? ⟨w.heap.size + 1 + 1, 0, none⟩ = some u := ⟨_, by rw [cell_of_heap h96]; rfl⟩
          obtain ⟨u1, m1⟩ : ∃ u, w6.cell? ⟨w.heap.size + 1 + 1, 1, none⟩ = some u := ⟨_, by rw [cell_of_heap h96]; rfl⟩
          have fz : ∀ k, w6.frozen? ⟨w.heap.size + 1 + 1, k, none⟩ = false := fun k => frozen_of_heap h96
          have H6 := Lib.hid (And.intro h96 (And.intro ((hb6.block _ (heap_lt h8')).trans h8') (hs'.trans (Same.of_below _ hb6))))
          clear h8' h9' hs' h96 hb6 f0 f1 g0 g1 e1 hx
          go_wp2_with fail
          go_roundw
          case rel =>
            obtain ⟨h96, h86, hs6⟩ := H6.out
            refine ⟨k + 1, by omega, by go_num, (hs6.setCell (.inl (.inr rfl)) _).setCell (.inl (.inr rfl)) _, ?_, ?_⟩
            · have e2 : cmpS (fBef os S a b) (k + 1) = cmpS (fBef os S a b) k := by rw [HS8.out, HFB.out, HT.out, HX.out.2]; rfl
              rw [e2]
              exact (Below.heap_setCell _ _ _ _ (by show w.heap.size + 1 ≠ w.heap.size + 1 + 1; omega)).trans ((Below.heap_setCell _ _ _ _ (by show w.heap.size + 1 ≠ w.heap.size + 1 + 1; omega)).trans h86)
            · simpa using heap_setCell_at (k := 1) (heap_setCell_at (k := 0) h96 (.int .u64 (loN (cmpS (fAft os S a b) (k + 1))))) (.int .u64 (hiN (cmpS (fAft os S a b) (k + 1))))
          case measure => simp [intOf]; omega
    · obtain rfl : k = os.length := by omega
      clear d0 d1
      go_wp2_with fail
      have E8 := Lib.hid (befS_eq os S a b)
      have E9 := Lib.hid (aftS_eq os S a b)
      refine wpIn_wide.1 (cm9 (b8 := w.heap.size + 1) (b9 := w.heap.size + 1 + 1) (al := loN (befS os S a b)) (ah := hiN (befS os S a b)) (bl := loN (aftS os S a b)) (bh := hiN (aftS os S a b)) (S0 := fun w' => Below wr.heap.size wr w') (S1 := fun w' => Same (fun k => k = w.heap.size + 1 ∨ k = w.heap.size + 1 + 1) wr w' ∧ w'.heap[w.heap.size + 1]? = some (.cells (leftA (befS os S a b)) 95 (0, 0)) ∧ w'.heap[w.heap.size + 1 + 1]? = some (.cells (leftA (aftS os S a b)) 95 (0, 0)))
        (S2 := fun w' => Same (fun k => k = w.heap.size + 1 ∨ k = w.heap.size + 1 + 1) wr w' ∧ w'.heap[w.heap.size + 1]? = some (.cells (leftA (befS os S a b)) 95 (0, 0)) ∧ w'.heap[w.heap.size + 1 + 1]? = some (.cells (leftA (aftS os S a b)) 95 (0, 0))) ?r0 ?r1 ?r2 ?r3 ?r4 ?rQ)
      case r0 => exact (Below.refl _ _).drew
      case r1 =>
        intro w' h
        have e := (h.block _ (heap_lt HK.out.2.1)).trans HK.out.2.1
        rw [E8.out]
        exact ⟨by rw [cell_of_heap e]; rfl, by rw [cell_of_heap e]; rfl⟩
      case r2 =>
        intro w' h
        have e : w'.heap[w.heap.size + 1 + 1]? = some (.cells (leftA (aftS os S a b)) 95 (0, 0)) := by
          rcases h with h | h
          · rw [E9.out]; exact (h.block _ (heap_lt HK.out.2.2)).trans HK.out.2.2
          · exact h.2.2
        exact ⟨by rw [cell_of_heap e]; rfl, by rw [cell_of_heap e]; rfl⟩
      case r3 =>
        intro w' h
        have e := (h.block _ (heap_lt HK.out.2.1)).trans HK.out.2.1
        have e' := (h.block _ (heap_lt HK.out.2.2)).trans HK.out.2.2
        rw [← E8.out] at e
        rw [← E9.out] at e'
        refine ⟨⟨_, by rw [cell_of_heap e]; rfl⟩, frozen_of_heap e, ⟨_, by rw [cell_of_heap e]; rfl⟩, frozen_of_heap e, ((Same.of_below (fun k => k = w.heap.size + 1 ∨ k = w.heap.size + 1 + 1) h).setCell (p := ⟨w.heap.size + 1, 0, none⟩) (.inl (.inl rfl)) _).setCell (p := ⟨w.heap.size + 1, 1, none⟩) (.inl (.inl rfl)) _, by simpa using heap_setCell_at (k := 1) (heap_setCell_at (k := 0) e _) _, ?_⟩
        exact (Below.heap_setCell _ _ _ _ (by show w.heap.size + 1 + 1 ≠ w.heap.size + 1; omega)).trans ((Below.heap_setCell _ _ _ _ (by show w.heap.size + 1 + 1 ≠ w.heap.size + 1; omega)).trans e')
      case r4 =>
        intro w' h
        obtain ⟨hs, e, e'⟩ := h
        refine ⟨⟨_, by rw [cell_of_heap e']; rfl⟩, frozen_of_heap e', ⟨_, by rw [cell_of_heap e']; rfl⟩, frozen_of_heap e', (hs.setCell (p := ⟨w.heap.size + 1 + 1, 0, none⟩) (.inl (.inr rfl)) _).setCell (p := ⟨w.heap.size + 1 + 1, 1, none⟩) (.inl (.inr rfl)) _, ?_, by simpa using heap_setCell_at (k := 1) (heap_setCell_at (k := 0) e' _) _⟩
        exact (Below.heap_setCell _ _ _ _ (by show w.heap.size + 1 ≠ w.heap.size + 1 + 1; omega)).trans ((Below.heap_setCell _ _ _ _ (by show w.heap.size + 1 ≠ w.heap.size + 1 + 1; omega)).trans e)
      case rQ =>
        rintro w5 ⟨hs5, e8, e9⟩
        have H5 := Lib.hid (And.intro hs5 (And.intro e8 e9))
        clear hs5 e8 e9
        go_wp2_with fail
        try rw [Exit.noGoto_ret]
        obtain ⟨hs5, e8, e9⟩ := H5.out
        obtain ⟨q0, q1, q2, hz, hb⟩ := HW.out
        exact bodyPost_ret (res_cc95 (x := .int .u64 (loN (befS os S a b))) (y := .int .u64 (hiN (befS os S a b))) (x' := .int .u64 (loN (aftS os S a b))) (y' := .int .u64 (hiN (aftS os S a b))) rfl _ rfl rfl (by rw [cell_of_heap e8]; rfl) (by rw [cell_of_heap e8]; rfl) (by rw [cell_of_heap e9]; rfl) (by rw [cell_of_heap e9]; rfl)) rfl ⟨rfl, (HBW.out.1.trans (hs5.below (by have := HK.out.1.size; omega) (fun k hk e => by omega)))⟩
end Go.Proofs.Ytnfhlbmapfoifaa
