/- Parents: its drawn regions. Parents: what is gathered. -/
import Derived.Test.YtnfhlbmapfoifaaW18
import Derived.Test.YtnfhlbmapfoifaaW23
import Derived.Test.YtnfhlbmapfoifaaW12
import Derived.Test.YtnfhlbmapfoifaaW20
namespace Go.Proofs.Ytnfhlbmapfoifaa
open Go.RowKit
set_option linter.unusedVariables false

def regionR (n : Nat) : Code → Option Code
  | .region id ops b => if id = n then some (.region id ops b) else none
  | .seq a b => match regionR n a with
    | some c => some c
    | none => regionR n b
  | .block _ c => regionR n c
  | .scope c => regionR n c
  | .loop c => regionR n c
  | .cond _ a b => match regionR n a with
    | some c => some c
    | none => regionR n b
  | .rangeFunc _ _ a b => match regionR n a with
    | some c => some c
    | none => regionR n b
  | _ => none
structure par2F (p : Prs) (a : Option Addr) (cap : Nat) (bx : Nat) (bc : Nat) (card : Int) (S0 : World → Prop) (S1 : Value → World → Prop) (S2 : Value → Bool → World → Prop) (S3 : Value → Bool → Nat → World → Prop) (S4 : Value → Bool → Nat → Nat → World → Prop) (d : Nat → Bool) (x10 x11 x12 x13 x14 x15 x16 : Value) (b : Bool) (bp : Nat) (pb : Nat) (w : World) : Prop where
  q3 : d 3 = true → d 2 = true
  q4 : d 4 = true → d 1 = true ∧ d 3 = true
  q5 : d 5 = true → d 0 = true ∧ d 4 = true
  q6 : d 6 = true → d 5 = true
  f0 : d 0 = true → x10 = p.v a cap
  f1 : d 1 = true → x11 = p.v a cap
  f2 : d 2 = true → x12 = .int .i64 card
  f4 : d 4 = true → x14 = .bool b
  f5 : d 5 = true → x15 = .pointer (some ⟨bp, 0, none⟩)
  f6 : d 6 = true → x16 = .func (.func 97) #[] #[.pointer (some ⟨pb, 0, none⟩)]
  st0 : d 3 = false → S0 w
  st1 : d 3 = true → d 4 = false → S1 x13 w
  st2 : d 4 = true → d 5 = false → S2 x13 b w
  st3 : d 5 = true → d 6 = false → S3 x13 b bp w
  st4 : d 6 = true → S4 x13 b bp pb w
noncomputable def par2C : Code := (Try.f33.body.bind (regionAt 2)).getD .skip
set_option maxRecDepth 100000 in
set_option maxHeartbeats 4000000 in
theorem par2 {p : Prs} {a : Option Addr} {cap : Nat} {bx : Nat} {bc : Nat} {card : Int} {S0 : World → Prop} {S1 : Value → World → Prop} {S2 : Value → Bool → World → Prop} {S3 : Value → Bool → Nat → World → Prop} {S4 : Value → Bool → Nat → Nat → World → Prop} {Q : Exit → Act → World → Prop} {W1 : World} (h0 : S0 W1.drew)
    (kl0 : Hid (∀ (x13 : Value) (b : Bool) (w : World), (S0 w ∨ S1 x13 w ∨ S2 x13 b w) → w.cell? ⟨bx, 0, none⟩ = some (.slice a p.cards.length cap) ∧ w.cell? ⟨bx, 1, none⟩ = some (.int .i64 p.llo) ∧ w.cell? ⟨bx, 2, none⟩ = some (.int .i64 p.lhi) ∧ w.cell? ⟨bx, 3, none⟩ = some (.int .i64 p.olo) ∧ w.cell? ⟨bx, 4, none⟩ = some (.int .i64 p.ohi)))
    (kl1 : Hid (∀ (x13 : Value) (w : World), (S0 w ∨ S1 x13 w) → w.cell? ⟨bx, 0, none⟩ = some (.slice a p.cards.length cap) ∧ w.cell? ⟨bx, 1, none⟩ = some (.int .i64 p.llo) ∧ w.cell? ⟨bx, 2, none⟩ = some (.int .i64 p.lhi) ∧ w.cell? ⟨bx, 3, none⟩ = some (.int .i64 p.olo) ∧ w.cell? ⟨bx, 4, none⟩ = some (.int .i64 p.ohi)))
    (kl2 : Hid (∀ (w : World), (S0 w) → w.cell? ⟨bc, 0, none⟩ = some (.int .i64 card)))
    (kc3 : Hid (∀ (w : World), S0 w → S1 (.slice (some ⟨w.heap.size, 0, none⟩) 1 1) (w.alloc (.cells #[.int .i64 card] 3))))
    (kc4 : Hid (∀ (x13 : Value) (w : World), S1 x13 w → Calls Try.prog 52 #[p.v a cap, x13] w fun e w' => ∃ b : Bool, e = .returned (.bool b) ∧ S2 x13 b w'))
    (kc5 : Hid (∀ (x13 : Value) (b : Bool) (w : World), S2 x13 b w → Calls Try.prog 51 #[p.v a cap, .bool b] w fun e w' => ∃ bp : Nat, e = .returned (.pointer (some ⟨bp, 0, none⟩)) ∧ S3 x13 b bp w'))
    (kc6 : Hid (∀ (x13 : Value) (b : Bool) (bp : Nat) (w : World), S3 x13 b bp w → Calls Try.prog 53 #[.pointer (some ⟨bp, 0, none⟩)] w fun e w' => ∃ pb : Nat, e = .returned (.func (.func 97) #[] #[.pointer (some ⟨pb, 0, none⟩)]) ∧ S4 x13 b bp pb w'))
    {s0 s1 s4 s5 s6 s7 s8 s9 s10 s11 s12 s13 s14 s15 s16 s17 s18 s19 s20 s21 s22 s23 s24 s25 s26 s27 s28 s29 : Value} {dd : List Deferred}
    (hQ : ∀ (x13 : Value) (b : Bool) (bp : Nat) (pb : Nat) (w' : World), S4 x13 b bp pb w' → Q .normal { tmps := #[s0, s1, .pointer (some ⟨bx, 0, none⟩), .pointer (some ⟨bc, 0, none⟩), s4, s5, s6, s7, s8, s9, p.v a cap, p.v a cap, .int .i64 card, x13, .bool b, .pointer (some ⟨bp, 0, none⟩), .func (.func 97) #[] #[.pointer (some ⟨pb, 0, none⟩)], s17, s18, s19, s20, s21, s22, s23, s24, s25, s26, s27, s28, s29], defers := dd } w') :
    Code.wpIn (wideAt none) 0 Try.prog par2C Q { tmps := #[s0, s1, .pointer (some ⟨bx, 0, none⟩), .pointer (some ⟨bc, 0, none⟩), s4, s5, s6, s7, s8, s9, s10, s11, s12, s13, s14, s15, s16, s17, s18, s19, s20, s21, s22, s23, s24, s25, s26, s27, s28, s29], defers := dd } W1 := by
  have HQ := Lib.hid hQ
  clear hQ
  conv => arg 4; whnf
  refine wpIn_region_invG mixed (by kernel_rfl) (fun d_ a_ w' => ∃ (x10 : Value) (x11 : Value) (x12 : Value) (x13 : Value) (x14 : Value) (x15 : Value) (x16 : Value) (b : Bool) (bp : Nat) (pb : Nat), a_ = { tmps := #[s0, s1, .pointer (some ⟨bx, 0, none⟩), .pointer (some ⟨bc, 0, none⟩), s4, s5, s6, s7, s8, s9, x10, x11, x12, x13, x14, x15, x16, s17, s18, s19, s20, s21, s22, s23, s24, s25, s26, s27, s28, s29], defers := dd } ∧ par2F p a cap bx bc card S0 S1 S2 S3 S4 d_ x10 x11 x12 x13 x14 x15 x16 b bp pb w') ?_ ?_ ?_
  · refine ⟨s10, s11, s12, s13, s14, s15, s16, false, 0, 0, rfl, ?_⟩
    constructor <;> first | rfl | (intro h; cases h; done) | (intro _; exact h0) | exact h0
  · refine ⟨?_, ?_, ?_, ?_, ?_, ?_, ?_, trivial⟩
    all_goals
      rintro d_ a_ w1 K hd_ hdep ⟨x10, x11, x12, x13, x14, x15, x16, b, bp, pb, rfl, F⟩ HK
      simp [Region.binds] at hdep
    · have hst : S0 w1 ∨ S1 x13 w1 ∨ S2 x13 b w1 := by
        cases e1 : d_ 3 with
        | false => exact .inl ((F.st0 e1))
        | true =>
          cases e2 : d_ 4 with
          | false => exact .inr (.inl ((F.st1 e1 e2)))
          | true =>
            have n_ : d_ 5 = false := by
              cases e_ : d_ 5 with
              | false => rfl
              | true => have h2 := (F.q5 e_).1; rw [show d_ 0 = false from hd_] at h2; cases h2
            exact .inr (.inr ((F.st2 e2 n_)))
      have kk := kl0.out x13 b w1 hst
      obtain ⟨kk0, kk1, kk2, kk3, kk4⟩ := kk
      clear hst
      have HF : Hid (par2F p a cap bx bc card S0 S1 S2 S3 S4 (upd d_ 0) (p.v a cap) x11 x12 x13 x14 x15 x16 b bp pb w1) := ⟨F.q3, F.q4, fun h => ⟨rfl, (F.q5 h).2⟩, F.q6, fun _ => rfl, F.f1, F.f2, F.f4, F.f5, F.f6, F.st0, F.st1, F.st2, F.st3, F.st4⟩
      clear F
      go_simp
      exact HK.out _ _ ⟨_, _, _, _, _, _, _, _, _, _, rfl, HF.out⟩
    · have hst : S0 w1 ∨ S1 x13 w1 := by
        cases e1 : d_ 3 with
        | false => exact .inl ((F.st0 e1))
        | true =>
          have n_ : d_ 4 = false := by
            cases e_ : d_ 4 with
            | false => rfl
            | true => have h2 := (F.q4 e_).1; rw [show d_ 1 = false from hd_] at h2; cases h2
          exact .inr ((F.st1 e1 n_))
      have kk := kl1.out x13 w1 hst
      obtain ⟨kk0, kk1, kk2, kk3, kk4⟩ := kk
      clear hst
      have HF : Hid (par2F p a cap bx bc card S0 S1 S2 S3 S4 (upd d_ 1) x10 (p.v a cap) x12 x13 x14 x15 x16 b bp pb w1) := ⟨F.q3, fun h => ⟨rfl, (F.q4 h).2⟩, F.q5, F.q6, F.f0, fun _ => rfl, F.f2, F.f4, F.f5, F.f6, F.st0, F.st1, F.st2, F.st3, F.st4⟩
      clear F
      go_simp
      exact HK.out _ _ ⟨_, _, _, _, _, _, _, _, _, _, rfl, HF.out⟩
    · have hst : S0 w1 := by
        have n_ : d_ 3 = false := by
          cases e_ : d_ 3 with
          | false => rfl
          | true => have h2 := (F.q3 e_); rw [show d_ 2 = false from hd_] at h2; cases h2
        exact (F.st0 n_)
      have kk := kl2.out w1 hst
      clear hst
      have HF : Hid (par2F p a cap bx bc card S0 S1 S2 S3 S4 (upd d_ 2) x10 x11 (.int .i64 card) x13 x14 x15 x16 b bp pb w1) := ⟨fun h => rfl, F.q4, F.q5, F.q6, F.f0, F.f1, fun _ => rfl, F.f4, F.f5, F.f6, F.st0, F.st1, F.st2, F.st3, F.st4⟩
      clear F
      go_simp
      exact HK.out _ _ ⟨_, _, _, _, _, _, _, _, _, _, rfl, HF.out⟩
    · have hS := F.st0  hd_
      obtain rfl := F.f2 (by simp [hdep])
      have hres := kc3.out w1 hS
      have HF : Hid (par2F p a cap bx bc card S0 S1 S2 S3 S4 (upd d_ 3) x10 x11 (.int .i64 card) ((.slice (some ⟨w1.heap.size, 0, none⟩) 1 1)) x14 x15 x16 b bp pb (w1.alloc (.cells #[.int .i64 card] 3))) := ⟨fun _ => (show _ from (by simp [hdep] : d_ 2 = true)), fun h => ⟨(F.q4 h).1, rfl⟩, F.q5, F.q6, F.f0, F.f1, F.f2, F.f4, F.f5, F.f6, fun h => (by simp [upd] at h), fun _ _ => hres, fun h _ => (by have h2 : d_ 3 = true := (F.q4 h).2; rw [show d_ 3 = false from hd_] at h2; cases h2), fun h _ => (by have h2 : d_ 3 = true := (F.q4 (F.q5 h).2).2; rw [show d_ 3 = false from hd_] at h2; cases h2), fun h => (by have h2 : d_ 3 = true := (F.q4 (F.q5 (F.q6 h)).2).2; rw [show d_ 3 = false from hd_] at h2; cases h2)⟩
      clear F hS hres
      go_simp
      exact HK.out _ _ ⟨_, _, _, _, _, _, _, _, _, _, rfl, HF.out⟩
    · have hS := F.st1 (by simp [hdep] : d_ 3 = true) hd_
      obtain rfl := F.f1 (by simp [hdep])
      have hc := kc4.out x13 w1 hS
      have HF := Lib.hid F
      clear F
      go_simp
      refine ⟨trivial, rfl, wideAt_calls (hc.mono ?_)⟩
      rintro e w5 ⟨v_, rfl, hres⟩
      exact HK.out _ _ ⟨_, _, _, _, _, _, _, _, _, _, rfl, ⟨HF.out.q3, fun _ => ⟨(show _ from (by simp [hdep] : d_ 1 = true)), (show _ from (by simp [hdep] : d_ 3 = true))⟩, fun h => ⟨(HF.out.q5 h).1, rfl⟩, HF.out.q6, HF.out.f0, HF.out.f1, HF.out.f2, fun _ => rfl, HF.out.f5, HF.out.f6, fun h => (by have h2 : d_ 3 = false := h; rw [(by simp [hdep] : d_ 3 = true)] at h2; cases h2), fun _ h => (by simp [upd] at h), fun _ _ => hres, fun h _ => (by have h2 : d_ 4 = true := (HF.out.q5 h).2; rw [show d_ 4 = false from hd_] at h2; cases h2), fun h => (by have h2 : d_ 4 = true := (HF.out.q5 (HF.out.q6 h)).2; rw [show d_ 4 = false from hd_] at h2; cases h2)⟩⟩
    · have hS := F.st2 (by simp [hdep] : d_ 4 = true) hd_
      obtain rfl := F.f0 (by simp [hdep])
      obtain rfl := F.f4 (by simp [hdep])
      have hc := kc5.out x13 b w1 hS
      have HF := Lib.hid F
      clear F
      go_simp
      refine ⟨trivial, rfl, wideAt_calls (hc.mono ?_)⟩
      rintro e w5 ⟨v_, rfl, hres⟩
      exact HK.out _ _ ⟨_, _, _, _, _, _, _, _, _, _, rfl, ⟨HF.out.q3, HF.out.q4, fun _ => ⟨(show _ from (by simp [hdep] : d_ 0 = true)), (show _ from (by simp [hdep] : d_ 4 = true))⟩, fun h => rfl, HF.out.f0, HF.out.f1, HF.out.f2, HF.out.f4, fun _ => rfl, HF.out.f6, fun h => (by have h2 : d_ 3 = false := h; rw [(HF.out.q4 (by simp [hdep] : d_ 4 = true)).2] at h2; cases h2), fun _ h => (by have h2 : d_ 4 = false := h; rw [(by simp [hdep] : d_ 4 = true)] at h2; cases h2), fun _ h => (by simp [upd] at h), fun _ _ => hres, fun h => (by have h2 : d_ 5 = true := (HF.out.q6 h); rw [show d_ 5 = false from hd_] at h2; cases h2)⟩⟩
    · have hS := F.st3 (by simp [hdep] : d_ 5 = true) hd_
      obtain rfl := F.f5 (by simp [hdep])
      have hc := kc6.out x13 b bp w1 hS
      have HF := Lib.hid F
      clear F
      go_simp
      refine ⟨trivial, rfl, wideAt_calls (hc.mono ?_)⟩
      rintro e w5 ⟨v_, rfl, hres⟩
      exact HK.out _ _ ⟨_, _, _, _, _, _, _, _, _, _, rfl, ⟨HF.out.q3, HF.out.q4, HF.out.q5, fun _ => (show _ from (by simp [hdep] : d_ 5 = true)), HF.out.f0, HF.out.f1, HF.out.f2, HF.out.f4, HF.out.f5, fun _ => rfl, fun h => (by have h2 : d_ 3 = false := h; rw [(HF.out.q4 (HF.out.q5 (by simp [hdep] : d_ 5 = true)).2).2] at h2; cases h2), fun _ h => (by have h2 : d_ 4 = false := h; rw [(HF.out.q5 (by simp [hdep] : d_ 5 = true)).2] at h2; cases h2), fun _ h => (by have h2 : d_ 5 = false := h; rw [(by simp [hdep] : d_ 5 = true)] at h2; cases h2), fun _ h => (by simp [upd] at h), fun _ => hres⟩⟩
  · rintro d_ a_ w1 hall ⟨x10, x11, x12, x13, x14, x15, x16, b, bp, pb, rfl, F⟩
    have hall' : ∀ k, k < 7 → d_ k = true := hall
    obtain rfl := F.f0 (hall' 0 (by decide))
    obtain rfl := F.f1 (hall' 1 (by decide))
    obtain rfl := F.f2 (hall' 2 (by decide))
    obtain rfl := F.f4 (hall' 4 (by decide))
    obtain rfl := F.f5 (hall' 5 (by decide))
    obtain rfl := F.f6 (hall' 6 (by decide))
    exact HQ.out x13 b bp pb w1 (F.st4 (hall' 6 (by decide)))
structure par2nF (p : Prs) (a : Option Addr) (cap : Nat) (bx : Nat) (bc : Nat) (card : Int) (S0 : World → Prop) (S1 : Value → World → Prop) (S2 : Value → Bool → World → Prop) (S3 : Value → Bool → World → Prop) (d : Nat → Bool) (x10 x11 x12 x13 x14 x15 x16 : Value) (b : Bool) (w : World) : Prop where
  q3 : d 3 = true → d 2 = true
  q4 : d 4 = true → d 1 = true ∧ d 3 = true
  q5 : d 5 = true → d 0 = true ∧ d 4 = true
  q6 : d 6 = true → d 5 = true
  f0 : d 0 = true → x10 = p.v a cap
  f1 : d 1 = true → x11 = p.v a cap
  f2 : d 2 = true → x12 = .int .i64 card
  f4 : d 4 = true → x14 = .bool b
  st0 : d 3 = false → S0 w
  st1 : d 3 = true → d 4 = false → S1 x13 w
  st2 : d 4 = true → d 5 = false → S2 x13 b w
  np : d 5 = false
set_option maxRecDepth 100000 in
set_option maxHeartbeats 4000000 in
theorem par2n {p : Prs} {a : Option Addr} {cap : Nat} {bx : Nat} {bc : Nat} {card : Int} {S0 : World → Prop} {S1 : Value → World → Prop} {S2 : Value → Bool → World → Prop} {S3 : Value → Bool → World → Prop} {Q : Exit → Act → World → Prop} {W1 : World} {er : Int} (h0 : S0 W1.drew)
    (kl0 : Hid (∀ (x13 : Value) (b : Bool) (w : World), (S0 w ∨ S1 x13 w ∨ S2 x13 b w) → w.cell? ⟨bx, 0, none⟩ = some (.slice a p.cards.length cap) ∧ w.cell? ⟨bx, 1, none⟩ = some (.int .i64 p.llo) ∧ w.cell? ⟨bx, 2, none⟩ = some (.int .i64 p.lhi) ∧ w.cell? ⟨bx, 3, none⟩ = some (.int .i64 p.olo) ∧ w.cell? ⟨bx, 4, none⟩ = some (.int .i64 p.ohi)))
    (kl1 : Hid (∀ (x13 : Value) (w : World), (S0 w ∨ S1 x13 w) → w.cell? ⟨bx, 0, none⟩ = some (.slice a p.cards.length cap) ∧ w.cell? ⟨bx, 1, none⟩ = some (.int .i64 p.llo) ∧ w.cell? ⟨bx, 2, none⟩ = some (.int .i64 p.lhi) ∧ w.cell? ⟨bx, 3, none⟩ = some (.int .i64 p.olo) ∧ w.cell? ⟨bx, 4, none⟩ = some (.int .i64 p.ohi)))
    (kl2 : Hid (∀ (w : World), (S0 w) → w.cell? ⟨bc, 0, none⟩ = some (.int .i64 card)))
    (kc3 : Hid (∀ (w : World), S0 w → S1 (.slice (some ⟨w.heap.size, 0, none⟩) 1 1) (w.alloc (.cells #[.int .i64 card] 3))))
    (kc4 : Hid (∀ (x13 : Value) (w : World), S1 x13 w → Calls Try.prog 52 #[p.v a cap, x13] w fun e w' => ∃ b : Bool, e = .returned (.bool b) ∧ S2 x13 b w'))
    (kc5 : Hid (∀ (x13 : Value) (b : Bool) (w : World), S2 x13 b w → Calls Try.prog 51 #[p.v a cap, .bool b] w fun e w' => e = .panicked [{ v := .iface 115 (.agg #[.int .i64 er]), recovered := false }] ∧ S3 x13 b w'))
    {s0 s1 s4 s5 s6 s7 s8 s9 s10 s11 s12 s13 s14 s15 s16 s17 s18 s19 s20 s21 s22 s23 s24 s25 s26 s27 s28 s29 : Value} {dd : List Deferred}
    (hQ : ∀ (x10 : Value) (x11 : Value) (x12 : Value) (x14 : Value) (x15 : Value) (x16 : Value) (x13 : Value) (b : Bool) (w' : World), S3 x13 b w' → Q (.panic [{ v := .iface 115 (.agg #[.int .i64 er]), recovered := false }]) { tmps := #[s0, s1, .pointer (some ⟨bx, 0, none⟩), .pointer (some ⟨bc, 0, none⟩), s4, s5, s6, s7, s8, s9, x10, x11, x12, x13, x14, x15, x16, s17, s18, s19, s20, s21, s22, s23, s24, s25, s26, s27, s28, s29], defers := dd } w') :
    Code.wpIn (wideAt none) 0 Try.prog par2C Q { tmps := #[s0, s1, .pointer (some ⟨bx, 0, none⟩), .pointer (some ⟨bc, 0, none⟩), s4, s5, s6, s7, s8, s9, s10, s11, s12, s13, s14, s15, s16, s17, s18, s19, s20, s21, s22, s23, s24, s25, s26, s27, s28, s29], defers := dd } W1 := by
  have HQ := Lib.hid hQ
  clear hQ
  conv => arg 4; whnf
  refine wpIn_region_invG mixed (by kernel_rfl) (fun d_ a_ w' => ∃ (x10 : Value) (x11 : Value) (x12 : Value) (x13 : Value) (x14 : Value) (x15 : Value) (x16 : Value) (b : Bool), a_ = { tmps := #[s0, s1, .pointer (some ⟨bx, 0, none⟩), .pointer (some ⟨bc, 0, none⟩), s4, s5, s6, s7, s8, s9, x10, x11, x12, x13, x14, x15, x16, s17, s18, s19, s20, s21, s22, s23, s24, s25, s26, s27, s28, s29], defers := dd } ∧ par2nF p a cap bx bc card S0 S1 S2 S3 d_ x10 x11 x12 x13 x14 x15 x16 b w') ?_ ?_ ?_
  · refine ⟨s10, s11, s12, s13, s14, s15, s16, false, rfl, ?_⟩
    constructor <;> first | rfl | (intro h; cases h; done) | (intro _; exact h0) | exact h0
  · refine ⟨?_, ?_, ?_, ?_, ?_, ?_, ?_, trivial⟩
    all_goals
      rintro d_ a_ w1 K hd_ hdep ⟨x10, x11, x12, x13, x14, x15, x16, b, rfl, F⟩ HK
      simp [Region.binds] at hdep
    · have hst : S0 w1 ∨ S1 x13 w1 ∨ S2 x13 b w1 := by
        cases e1 : d_ 3 with
        | false => exact .inl ((F.st0 e1))
        | true =>
          cases e2 : d_ 4 with
          | false => exact .inr (.inl ((F.st1 e1 e2)))
          | true =>
            have n_ : d_ 5 = false := by
              cases e_ : d_ 5 with
              | false => rfl
              | true => have h2 := (F.q5 e_).1; rw [show d_ 0 = false from hd_] at h2; cases h2
            exact .inr (.inr ((F.st2 e2 n_)))
      have kk := kl0.out x13 b w1 hst
      obtain ⟨kk0, kk1, kk2, kk3, kk4⟩ := kk
      clear hst
      have HF : Hid (par2nF p a cap bx bc card S0 S1 S2 S3 (upd d_ 0) (p.v a cap) x11 x12 x13 x14 x15 x16 b w1) := ⟨F.q3, F.q4, fun h => ⟨rfl, (F.q5 h).2⟩, F.q6, fun _ => rfl, F.f1, F.f2, F.f4, F.st0, F.st1, F.st2, F.np⟩
      clear F
      go_simp
      exact HK.out _ _ ⟨_, _, _, _, _, _, _, _, rfl, HF.out⟩
    · have hst : S0 w1 ∨ S1 x13 w1 := by
        cases e1 : d_ 3 with
        | false => exact .inl ((F.st0 e1))
        | true =>
          have n_ : d_ 4 = false := by
            cases e_ : d_ 4 with
            | false => rfl
            | true => have h2 := (F.q4 e_).1; rw [show d_ 1 = false from hd_] at h2; cases h2
          exact .inr ((F.st1 e1 n_))
      have kk := kl1.out x13 w1 hst
      obtain ⟨kk0, kk1, kk2, kk3, kk4⟩ := kk
      clear hst
      have HF : Hid (par2nF p a cap bx bc card S0 S1 S2 S3 (upd d_ 1) x10 (p.v a cap) x12 x13 x14 x15 x16 b w1) := ⟨F.q3, fun h => ⟨rfl, (F.q4 h).2⟩, F.q5, F.q6, F.f0, fun _ => rfl, F.f2, F.f4, F.st0, F.st1, F.st2, F.np⟩
      clear F
      go_simp
      exact HK.out _ _ ⟨_, _, _, _, _, _, _, _, rfl, HF.out⟩
    · have hst : S0 w1 := by
        have n_ : d_ 3 = false := by
          cases e_ : d_ 3 with
          | false => rfl
          | true => have h2 := (F.q3 e_); rw [show d_ 2 = false from hd_] at h2; cases h2
        exact (F.st0 n_)
      have kk := kl2.out w1 hst
      clear hst
      have HF : Hid (par2nF p a cap bx bc card S0 S1 S2 S3 (upd d_ 2) x10 x11 (.int .i64 card) x13 x14 x15 x16 b w1) := ⟨fun h => rfl, F.q4, F.q5, F.q6, F.f0, F.f1, fun _ => rfl, F.f4, F.st0, F.st1, F.st2, F.np⟩
      clear F
      go_simp
      exact HK.out _ _ ⟨_, _, _, _, _, _, _, _, rfl, HF.out⟩
    · have hS := F.st0  hd_
      obtain rfl := F.f2 (by simp [hdep])
      have hres := kc3.out w1 hS
      have HF : Hid (par2nF p a cap bx bc card S0 S1 S2 S3 (upd d_ 3) x10 x11 (.int .i64 card) ((.slice (some ⟨w1.heap.size, 0, none⟩) 1 1)) x14 x15 x16 b (w1.alloc (.cells #[.int .i64 card] 3))) := ⟨fun _ => (show _ from (by simp [hdep] : d_ 2 = true)), fun h => ⟨(F.q4 h).1, rfl⟩, F.q5, F.q6, F.f0, F.f1, F.f2, F.f4, fun h => (by simp [upd] at h), fun _ _ => hres, fun h _ => (by have h2 : d_ 3 = true := (F.q4 h).2; rw [show d_ 3 = false from hd_] at h2; cases h2), F.np⟩
      clear F hS hres
      go_simp
      exact HK.out _ _ ⟨_, _, _, _, _, _, _, _, rfl, HF.out⟩
    · have hS := F.st1 (by simp [hdep] : d_ 3 = true) hd_
      obtain rfl := F.f1 (by simp [hdep])
      have hc := kc4.out x13 w1 hS
      have HF := Lib.hid F
      clear F
      go_simp
      refine ⟨trivial, rfl, wideAt_calls (hc.mono ?_)⟩
      rintro e w5 ⟨v_, rfl, hres⟩
      exact HK.out _ _ ⟨_, _, _, _, _, _, _, _, rfl, ⟨HF.out.q3, fun _ => ⟨(show _ from (by simp [hdep] : d_ 1 = true)), (show _ from (by simp [hdep] : d_ 3 = true))⟩, fun h => ⟨(HF.out.q5 h).1, rfl⟩, HF.out.q6, HF.out.f0, HF.out.f1, HF.out.f2, fun _ => rfl, fun h => (by have h2 : d_ 3 = false := h; rw [(by simp [hdep] : d_ 3 = true)] at h2; cases h2), fun _ h => (by simp [upd] at h), fun _ _ => hres, HF.out.np⟩⟩
    · have hS := F.st2 (by simp [hdep] : d_ 4 = true) hd_
      obtain rfl := F.f0 (by simp [hdep])
      obtain rfl := F.f4 (by simp [hdep])
      have hc := kc5.out x13 b w1 hS
      clear F hS
      go_simp
      refine ⟨trivial, rfl, wideAt_calls (hc.mono ?_)⟩
      rintro e w5 ⟨rfl, hres⟩
      exact HQ.out _ _ _ _ _ _ _ _ w5 hres
    · have h2 : d_ 5 = true := (by simp [hdep] : d_ 5 = true)
      rw [F.np] at h2
      cases h2
  · rintro d_ a_ w1 hall ⟨x10, x11, x12, x13, x14, x15, x16, b, rfl, F⟩
    have hall' : ∀ k, k < 7 → d_ k = true := hall
    have h2 := hall' 5 (by decide)
    rw [F.np] at h2
    cases h2
attribute [local go_sem] Oper.semAt_some
structure par7F (bs : Nat) (f : Nat) (z : Nat) (s : Nat) (rl : Nat) (S0 : World → Prop) (S1 : World → Prop) (d : Nat → Bool) (x24 x25 x26 x27 : Value) (w : World) : Prop where
  q2 : d 2 = true → d 1 = true
  q3 : d 3 = true → d 0 = true ∧ d 2 = true
  q4 : d 4 = true → d 0 = true ∧ d 1 = true ∧ d 2 = true ∧ d 3 = true
  f0 : d 0 = true → x24 = .int .i64 s
  f1 : d 1 = true → x25 = .int .i64 f
  f2 : d 2 = true → x26 = .int .i64 z
  f3 : d 3 = true → x27 = .int .i64 (s ||| z : Nat)
  st0 : d 4 = false → S0 w
  st1 : d 4 = true → S1 w
noncomputable def par7C : Code := (Try.f33.body.bind (regionR 7)).getD .skip
set_option maxRecDepth 100000 in
set_option maxHeartbeats 4000000 in
theorem par7 {bs : Nat} {f : Nat} {z : Nat} {s : Nat} {rl : Nat} {S0 : World → Prop} {S1 : World → Prop} {Q : Exit → Act → World → Prop} {W1 : World} (hf : f ≤ 5) (hwr : IntKind.i64.wrap (2 ^ f) = (z : Int)) (hor : bits .or .i64 (s : Int) (z : Int) = ((s ||| z : Nat) : Int)) (h0 : S0 W1.drew)
    (kl0 : Hid (∀ (w : World), (S0 w) → w.cell? ⟨bs, 0, none⟩ = some (.int .i64 s)))
    (kc4 : Hid (∀ (w : World), S0 w → (∃ u, w.cell? ⟨bs, 0, none⟩ = some u) ∧ w.frozen? ⟨bs, 0, none⟩ = false ∧ S1 (w.setCell ⟨bs, 0, none⟩ (.int .i64 (s ||| z : Nat)))))
    {s0 s1 s2 s3 s5 s6 s7 s9 s10 s11 s12 s13 s14 s15 s16 s17 s18 s19 s20 s21 s22 s23 s24 s25 s26 s27 s28 s29 : Value} {dd : List Deferred}
    (hQ : ∀ (w' : World), S1 w' → Q .normal { tmps := #[s0, s1, s2, s3, .pointer (some ⟨bs, 0, none⟩), s5, s6, s7, .int .i64 f, s9, s10, s11, s12, s13, s14, s15, s16, s17, s18, s19, s20, s21, s22, s23, .int .i64 s, .int .i64 f, .int .i64 z, .int .i64 (s ||| z : Nat), s28, s29], defers := dd } w') :
    Code.wpIn (wideAt (some rl)) 0 Try.prog par7C Q { tmps := #[s0, s1, s2, s3, .pointer (some ⟨bs, 0, none⟩), s5, s6, s7, .int .i64 f, s9, s10, s11, s12, s13, s14, s15, s16, s17, s18, s19, s20, s21, s22, s23, s24, s25, s26, s27, s28, s29], defers := dd } W1 := by
  have HQ := Lib.hid hQ
  clear hQ
  conv => arg 4; whnf
  refine wpIn_region_invG mixed (by kernel_rfl) (fun d_ a_ w' => ∃ (x24 : Value) (x25 : Value) (x26 : Value) (x27 : Value), a_ = { tmps := #[s0, s1, s2, s3, .pointer (some ⟨bs, 0, none⟩), s5, s6, s7, .int .i64 f, s9, s10, s11, s12, s13, s14, s15, s16, s17, s18, s19, s20, s21, s22, s23, x24, x25, x26, x27, s28, s29], defers := dd } ∧ par7F bs f z s rl S0 S1 d_ x24 x25 x26 x27 w') ?_ ?_ ?_
  · refine ⟨s24, s25, s26, s27, rfl, ?_⟩
    constructor <;> first | rfl | (intro h; cases h; done) | (intro _; exact h0) | exact h0
  · refine ⟨?_, ?_, ?_, ?_, ?_, trivial⟩
    all_goals
      rintro d_ a_ w1 K hd_ hdep ⟨x24, x25, x26, x27, rfl, F⟩ HK
      simp [Region.binds] at hdep
    · have hst : S0 w1 := by
        have n_ : d_ 4 = false := by
          cases e_ : d_ 4 with
          | false => rfl
          | true => have h2 := (F.q4 e_).1; rw [show d_ 0 = false from hd_] at h2; cases h2
        exact (F.st0 n_)
      have kk := kl0.out w1 hst
      clear hst
      have HF : Hid (par7F bs f z s rl S0 S1 (upd d_ 0) (.int .i64 s) x25 x26 x27 w1) := ⟨F.q2, fun h => ⟨rfl, (F.q3 h).2⟩, fun h => ⟨rfl, (F.q4 h).2.1, (F.q4 h).2.2.1, (F.q4 h).2.2.2⟩, fun _ => rfl, F.f1, F.f2, F.f3, F.st0, F.st1⟩
      clear F
      go_simp
      exact HK.out _ _ ⟨_, _, _, _, rfl, HF.out⟩
    · have HF : Hid (par7F bs f z s rl S0 S1 (upd d_ 1) x24 (.int .i64 f) x26 x27 w1) := ⟨fun h => rfl, F.q3, fun h => ⟨(F.q4 h).1, rfl, (F.q4 h).2.2.1, (F.q4 h).2.2.2⟩, F.f0, fun _ => rfl, F.f2, F.f3, F.st0, F.st1⟩
      clear F
      go_simp
      exact HK.out _ _ ⟨_, _, _, _, rfl, HF.out⟩
    · obtain rfl := F.f1 (by simp [hdep])
      have HF : Hid (par7F bs f z s rl S0 S1 (upd d_ 2) x24 (.int .i64 f) (.int .i64 z) x27 w1) := ⟨fun _ => (show _ from (by simp [hdep] : d_ 1 = true)), fun h => ⟨(F.q3 h).1, rfl⟩, fun h => ⟨(F.q4 h).1, (F.q4 h).2.1, rfl, (F.q4 h).2.2.2⟩, F.f0, F.f1, fun _ => rfl, F.f3, F.st0, F.st1⟩
      clear F
      go_simp
      exact HK.out _ _ ⟨_, _, _, _, rfl, HF.out⟩
    · obtain rfl := F.f0 (by simp [hdep])
      obtain rfl := F.f2 (by simp [hdep])
      have HF : Hid (par7F bs f z s rl S0 S1 (upd d_ 3) (.int .i64 s) x25 (.int .i64 z) (.int .i64 (s ||| z : Nat)) w1) := ⟨F.q2, fun _ => ⟨(show _ from (by simp [hdep] : d_ 0 = true)), (show _ from (by simp [hdep] : d_ 2 = true))⟩, fun h => ⟨(F.q4 h).1, (F.q4 h).2.1, (F.q4 h).2.2.1, rfl⟩, F.f0, F.f1, F.f2, fun _ => rfl, F.st0, F.st1⟩
      clear F
      go_simp
      exact HK.out _ _ ⟨_, _, _, _, rfl, HF.out⟩
    · have hS := F.st0  hd_
      obtain rfl := F.f3 (by simp [hdep])
      obtain ⟨⟨u0, kcell0⟩, kfr0, hres⟩ := kc4.out w1 hS
      have HF : Hid (par7F bs f z s rl S0 S1 (upd d_ 4) x24 x25 x26 (.int .i64 (s ||| z : Nat)) (w1.setCell ⟨bs, 0, none⟩ (.int .i64 (s ||| z : Nat)))) := ⟨F.q2, F.q3, fun _ => ⟨(show _ from (by simp [hdep] : d_ 0 = true)), (show _ from (by simp [hdep] : d_ 1 = true)), (show _ from (by simp [hdep] : d_ 2 = true)), (show _ from (by simp [hdep] : d_ 3 = true))⟩, F.f0, F.f1, F.f2, F.f3, fun h => (by simp [upd] at h), fun _ => hres⟩
      clear F hS hres
      go_simp
      exact HK.out _ _ ⟨_, _, _, _, rfl, HF.out⟩
  · rintro d_ a_ w1 hall ⟨x24, x25, x26, x27, rfl, F⟩
    have hall' : ∀ k, k < 5 → d_ k = true := hall
    obtain rfl := F.f0 (hall' 0 (by decide))
    obtain rfl := F.f1 (hall' 1 (by decide))
    obtain rfl := F.f2 (hall' 2 (by decide))
    obtain rfl := F.f3 (hall' 3 (by decide))
    exact HQ.out  w1 (F.st1 (hall' 4 (by decide)))
structure par8F (bs : Nat) (bo : Nat) (be : Nat) (s : Nat) (o : Bool) (S0 : World → Prop) (S1 : World → Prop) (S2 : World → Prop) (S3 : World → Prop) (d : Nat → Bool) (x28 x29 : Value) (w : World) : Prop where
  q2 : d 2 = true → d 0 = true
  q3 : d 3 = true → d 0 = true ∧ d 1 = true ∧ d 2 = true
  q4 : d 4 = true → d 0 = true ∧ d 1 = true ∧ d 2 = true ∧ d 3 = true
  f0 : d 0 = true → x28 = .int .i64 s
  f1 : d 1 = true → x29 = .bool o
  st0 : d 2 = false → S0 w
  st1 : d 2 = true → d 3 = false → S1 w
  st2 : d 3 = true → d 4 = false → S2 w
  st3 : d 4 = true → S3 w
noncomputable def par8C : Code := (Try.f33.body.bind (regionAt 8)).getD .skip
set_option maxRecDepth 100000 in
set_option maxHeartbeats 4000000 in
theorem par8 {bs : Nat} {bo : Nat} {be : Nat} {s : Nat} {o : Bool} {S0 : World → Prop} {S1 : World → Prop} {S2 : World → Prop} {S3 : World → Prop} {Q : Exit → Act → World → Prop} {W1 : World} (h0 : S0 W1.drew)
    (kl0 : Hid (∀ (w : World), (S0 w) → w.cell? ⟨bs, 0, none⟩ = some (.int .i64 s)))
    (kl1 : Hid (∀ (w : World), (S0 w ∨ S1 w) → w.cell? ⟨bo, 0, none⟩ = some (.bool o)))
    (kc2 : Hid (∀ (w : World), S0 w → (∃ u, w.cell? ⟨bs, 0, none⟩ = some u) ∧ w.frozen? ⟨bs, 0, none⟩ = false ∧ S1 (w.setCell ⟨bs, 0, none⟩ (.int .i64 s))))
    (kc3 : Hid (∀ (w : World), S1 w → (∃ u, w.cell? ⟨bo, 0, none⟩ = some u) ∧ w.frozen? ⟨bo, 0, none⟩ = false ∧ S2 (w.setCell ⟨bo, 0, none⟩ (.bool o))))
    (kc4 : Hid (∀ (w : World), S2 w → (∃ u, w.cell? ⟨be, 0, none⟩ = some u) ∧ w.frozen? ⟨be, 0, none⟩ = false ∧ S3 (w.setCell ⟨be, 0, none⟩ (.int .i64 0))))
    {s0 s1 s2 s3 s7 s8 s9 s10 s11 s12 s13 s14 s15 s16 s17 s18 s19 s20 s21 s22 s23 s24 s25 s26 s27 s28 s29 : Value} {dd : List Deferred}
    (hQ : ∀ (w' : World), S3 w' → Q .normal { tmps := #[s0, s1, s2, s3, .pointer (some ⟨bs, 0, none⟩), .pointer (some ⟨bo, 0, none⟩), .pointer (some ⟨be, 0, none⟩), s7, s8, s9, s10, s11, s12, s13, s14, s15, s16, s17, s18, s19, s20, s21, s22, s23, s24, s25, s26, s27, .int .i64 s, .bool o], defers := dd } w') :
    Code.wpIn (wideAt none) 0 Try.prog par8C Q { tmps := #[s0, s1, s2, s3, .pointer (some ⟨bs, 0, none⟩), .pointer (some ⟨bo, 0, none⟩), .pointer (some ⟨be, 0, none⟩), s7, s8, s9, s10, s11, s12, s13, s14, s15, s16, s17, s18, s19, s20, s21, s22, s23, s24, s25, s26, s27, s28, s29], defers := dd } W1 := by
  have HQ := Lib.hid hQ
  clear hQ
  conv => arg 4; whnf
  refine wpIn_region_invG mixed (by kernel_rfl) (fun d_ a_ w' => ∃ (x28 : Value) (x29 : Value), a_ = { tmps := #[s0, s1, s2, s3, .pointer (some ⟨bs, 0, none⟩), .pointer (some ⟨bo, 0, none⟩), .pointer (some ⟨be, 0, none⟩), s7, s8, s9, s10, s11, s12, s13, s14, s15, s16, s17, s18, s19, s20, s21, s22, s23, s24, s25, s26, s27, x28, x29], defers := dd } ∧ par8F bs bo be s o S0 S1 S2 S3 d_ x28 x29 w') ?_ ?_ ?_
  · refine ⟨s28, s29, rfl, ?_⟩
    constructor <;> first | rfl | (intro h; cases h; done) | (intro _; exact h0) | exact h0
  · refine ⟨?_, ?_, ?_, ?_, ?_, trivial⟩
    all_goals
      rintro d_ a_ w1 K hd_ hdep ⟨x28, x29, rfl, F⟩ HK
      simp [Region.binds] at hdep
    · have hst : S0 w1 := by
        have n_ : d_ 2 = false := by
          cases e_ : d_ 2 with
          | false => rfl
          | true => have h2 := (F.q2 e_); rw [show d_ 0 = false from hd_] at h2; cases h2
        exact (F.st0 n_)
      have kk := kl0.out w1 hst
      clear hst
      have HF : Hid (par8F bs bo be s o S0 S1 S2 S3 (upd d_ 0) (.int .i64 s) x29 w1) := ⟨fun h => rfl, fun h => ⟨rfl, (F.q3 h).2.1, (F.q3 h).2.2⟩, fun h => ⟨rfl, (F.q4 h).2.1, (F.q4 h).2.2.1, (F.q4 h).2.2.2⟩, fun _ => rfl, F.f1, F.st0, F.st1, F.st2, F.st3⟩
      clear F
      go_simp
      exact HK.out _ _ ⟨_, _, rfl, HF.out⟩
    · have hst : S0 w1 ∨ S1 w1 := by
        cases e1 : d_ 2 with
        | false => exact .inl ((F.st0 e1))
        | true =>
          have n_ : d_ 3 = false := by
            cases e_ : d_ 3 with
            | false => rfl
            | true => have h2 := (F.q3 e_).2.1; rw [show d_ 1 = false from hd_] at h2; cases h2
          exact .inr ((F.st1 e1 n_))
      have kk := kl1.out w1 hst
      clear hst
      have HF : Hid (par8F bs bo be s o S0 S1 S2 S3 (upd d_ 1) x28 (.bool o) w1) := ⟨F.q2, fun h => ⟨(F.q3 h).1, rfl, (F.q3 h).2.2⟩, fun h => ⟨(F.q4 h).1, rfl, (F.q4 h).2.2.1, (F.q4 h).2.2.2⟩, F.f0, fun _ => rfl, F.st0, F.st1, F.st2, F.st3⟩
      clear F
      go_simp
      exact HK.out _ _ ⟨_, _, rfl, HF.out⟩
    · have hS := F.st0  hd_
      obtain rfl := F.f0 (by simp [hdep])
      obtain ⟨⟨u0, kcell0⟩, kfr0, hres⟩ := kc2.out w1 hS
      have HF : Hid (par8F bs bo be s o S0 S1 S2 S3 (upd d_ 2) (.int .i64 s) x29 (w1.setCell ⟨bs, 0, none⟩ (.int .i64 s))) := ⟨fun _ => (show _ from (by simp [hdep] : d_ 0 = true)), fun h => ⟨(F.q3 h).1, (F.q3 h).2.1, rfl⟩, fun h => ⟨(F.q4 h).1, (F.q4 h).2.1, rfl, (F.q4 h).2.2.2⟩, F.f0, F.f1, fun h => (by simp [upd] at h), fun _ _ => hres, fun h _ => (by have h2 : d_ 2 = true := (F.q3 h).2.2; rw [show d_ 2 = false from hd_] at h2; cases h2), fun h => (by have h2 : d_ 2 = true := (F.q4 h).2.2.1; rw [show d_ 2 = false from hd_] at h2; cases h2)⟩
      clear F hS hres
      go_simp
      exact HK.out _ _ ⟨_, _, rfl, HF.out⟩
    · have hS := F.st1 (by simp [hdep] : d_ 2 = true) hd_
      obtain rfl := F.f1 (by simp [hdep])
      obtain ⟨⟨u0, kcell0⟩, kfr0, hres⟩ := kc3.out w1 hS
      have HF : Hid (par8F bs bo be s o S0 S1 S2 S3 (upd d_ 3) x28 (.bool o) (w1.setCell ⟨bo, 0, none⟩ (.bool o))) := ⟨F.q2, fun _ => ⟨(show _ from (by simp [hdep] : d_ 0 = true)), (show _ from (by simp [hdep] : d_ 1 = true)), (show _ from (by simp [hdep] : d_ 2 = true))⟩, fun h => ⟨(F.q4 h).1, (F.q4 h).2.1, (F.q4 h).2.2.1, rfl⟩, F.f0, F.f1, fun h => (by have h2 : d_ 2 = false := h; rw [(by simp [hdep] : d_ 2 = true)] at h2; cases h2), fun _ h => (by simp [upd] at h), fun _ _ => hres, fun h => (by have h2 : d_ 3 = true := (F.q4 h).2.2.2; rw [show d_ 3 = false from hd_] at h2; cases h2)⟩
      clear F hS hres
      go_simp
      exact HK.out _ _ ⟨_, _, rfl, HF.out⟩
    · have hS := F.st2 (by simp [hdep] : d_ 3 = true) hd_
      obtain ⟨⟨u0, kcell0⟩, kfr0, hres⟩ := kc4.out w1 hS
      have HF : Hid (par8F bs bo be s o S0 S1 S2 S3 (upd d_ 4) x28 x29 (w1.setCell ⟨be, 0, none⟩ (.int .i64 0))) := ⟨F.q2, F.q3, fun _ => ⟨(show _ from (by simp [hdep] : d_ 0 = true)), (show _ from (by simp [hdep] : d_ 1 = true)), (show _ from (by simp [hdep] : d_ 2 = true)), (show _ from (by simp [hdep] : d_ 3 = true))⟩, F.f0, F.f1, fun h => (by have h2 : d_ 2 = false := h; rw [(by simp [hdep] : d_ 2 = true)] at h2; cases h2), fun _ h => (by have h2 : d_ 3 = false := h; rw [(by simp [hdep] : d_ 3 = true)] at h2; cases h2), fun _ h => (by simp [upd] at h), fun _ => hres⟩
      clear F hS hres
      go_simp
      exact HK.out _ _ ⟨_, _, rfl, HF.out⟩
  · rintro d_ a_ w1 hall ⟨x28, x29, rfl, F⟩
    have hall' : ∀ k, k < 5 → d_ k = true := hall
    obtain rfl := F.f0 (hall' 0 (by decide))
    obtain rfl := F.f1 (hall' 1 (by decide))
    exact HQ.out  w1 (F.st3 (hall' 4 (by decide)))
end Go.Proofs.Ytnfhlbmapfoifaa

namespace Go.Proofs.Ytnfhlbmapfoifaa
open Go.RowKit
set_option linter.unusedVariables false

theorem onW_rng {p : Prs} : ∀ (d : Nat) (pre : List Int), (∀ y ∈ pre, -1 ≤ y ∧ y < p.cards.length) → ∀ x ∈ onW p d pre, ∀ y ∈ x, -1 ≤ y ∧ y < p.cards.length
  | 0, pre, h, x, hx => by
    rw [onW_zero] at hx
    split at hx
    · simp at hx; subst hx; exact h
    · simp at hx
  | d + 1, pre, h, x, hx => by
    rw [onW_succ, List.mem_flatMap] at hx
    obtain ⟨f, hf, hx⟩ := hx
    unfold onF at hx
    split at hx
    · simp at hx
    · refine onW_rng d _ (fun y hy => ?_) x hx
      rcases List.mem_append.1 hy with hy | hy
      · exact h y hy
      · rw [List.mem_singleton.1 hy]
        simp [froms] at hf
        obtain ⟨k, hk, rfl⟩ := hf
        omega
theorem ways_rng {p : Prs} {x : List Int} (hx : x ∈ waysL p) : ∀ y ∈ x, -1 ≤ y ∧ y < p.cards.length := onW_rng _ [] (fun y hy => by simp at hy) x hx
def parS (l : List Int) : Nat := bitsOf ((l.filter fun k => !decide (k = -1)).map Int.toNat)
def parO (l : List Int) : Bool := l.any fun k => decide (k = -1)
theorem bitsOf_snoc (l : List Nat) (x : Nat) : bitsOf (l ++ [x]) = bitsOf l ||| 2 ^ x := by unfold bitsOf; rw [List.foldl_append]; rfl
theorem foldl_or_lt {n : Nat} : ∀ (l : List Nat) (s : Nat), s < 2 ^ n → (∀ x ∈ l, x < n) → l.foldl (fun s n => s ||| 2 ^ n) s < 2 ^ n
  | [], s, h, _ => h
  | x :: r, s, h, hl => foldl_or_lt r _ (Nat.or_lt_two_pow h (Nat.pow_lt_pow_right (by decide) (hl x (by simp)))) (fun y hy => hl y (by simp [hy]))
theorem bitsOf_lt {n : Nat} {l : List Nat} (h : ∀ x ∈ l, x < n) : bitsOf l < 2 ^ n := foldl_or_lt l 0 (Nat.two_pow_pos n) h
theorem parS_snoc (l : List Int) (x : Int) : parS (l ++ [x]) = if x = -1 then parS l else parS l ||| 2 ^ x.toNat := by
  unfold parS
  rw [List.filter_append]
  by_cases h : x = -1
  · simp [h]
  · simp [h, bitsOf_snoc]
theorem parO_snoc (l : List Int) (x : Int) : parO (l ++ [x]) = (parO l || decide (x = -1)) := by unfold parO; simp [List.any_append]
theorem parS_lt {l : List Int} (h : ∀ x ∈ l, x < 5) : parS l < 2 ^ 5 := bitsOf_lt (fun y hy => by
  simp at hy
  obtain ⟨x, ⟨hx, _⟩, rfl⟩ := hy
  have := h x hx
  omega)
/-- What has been gathered of the first ways. -/
def parL (p : Prs) (card i : Nat) : List Int := ((waysL p).take i).map fun w => gi w card
theorem parL_succ {p : Prs} {card i : Nat} {x : List Int} (hx : (waysL p)[i]? = some x) : parL p card (i + 1) = parL p card i ++ [gi x card] := by
  unfold parL
  rw [List.take_succ_eq_append_getElem (List.getElem?_eq_some_iff.1 hx).1, (List.getElem?_eq_some_iff.1 hx).2]
  simp
theorem parL_lt {p : Prs} (hv : p.valid = true) {card i : Nat} (hc : card < p.cards.length) : ∀ y ∈ parL p card i, y < 5 := fun y hy => by
  unfold parL at hy
  obtain ⟨x, hx, rfl⟩ := List.mem_map.1 hy
  have hx' := List.mem_of_mem_take hx
  have hl := (ways_all hx').1
  have hn := (valid_parts hv).1
  have hlt : card < x.length := by omega
  have e : gi x card = x[card] := by simp [gi, hlt]
  have := ways_rng hx' _ (List.getElem_mem hlt)
  rw [e]; omega
theorem two_wrap {f : Nat} (h : f ≤ 5) : IntKind.i64.wrap (2 ^ f) = ((2 ^ f : Nat) : Int) := by
  have : f = 0 ∨ f = 1 ∨ f = 2 ∨ f = 3 ∨ f = 4 ∨ f = 5 := by omega
  rcases this with rfl | rfl | rfl | rfl | rfl | rfl <;> decide +kernel
theorem or_i64 (a b : Nat) (ha : a < 2 ^ 62) (hb : b < 2 ^ 62) : bits .or .i64 (a : Int) (b : Int) = ((a ||| b : Nat) : Int) :=
  (bits_nat .i64 62 (by decide) (fun n h1 h2 => by rw [IntKind.wrap_i64]; omega) a b ha hb).2
structure ParI (w3 : World) (bs bo s : Nat) (o : Bool) (A : World) : Prop where
  same : Same (fun k => k = bs ∨ k = bo) w3 A
  cs : A.heap[bs]? = some (.cells #[.int .i64 (s : Int)] 3 (0, 0))
  co : A.heap[bo]? = some (.cells #[.bool o] 4 (0, 0))
theorem ParI.stable {w3 : World} {bs bo s : Nat} {o : Bool} {lb : Nat} {A B : World} {C : Nat → Prop} (h : ParI w3 bs bo s o A) (hs : Same (fun k => ¬ C k ∨ k = lb) A B) (h1 : w3.heap.size ≤ lb) (h2 : bs < w3.heap.size) (h3 : bo < w3.heap.size) (hC : ∀ k, k < w3.heap.size → C k) : ParI w3 bs bo s o B := by
  have hk : ∀ k, k < w3.heap.size → B.heap[k]? = A.heap[k]? := fun k hk => hs.block k (by have := h.same.size; omega) (fun e => by
    rcases e with e | e
    · exact e (hC k hk)
    · omega)
  exact ⟨same_later h.same hs (fun k e => by
    by_cases hk' : k < w3.heap.size
    · rcases e with e | e
      · exact (e (hC k hk')).elim
      · omega
    · exact .inr (by omega)), (hk _ h2).trans h.cs, (hk _ h3).trans h.co⟩
end Go.Proofs.Ytnfhlbmapfoifaa

