/- All slots, one after the other: the closure that goes on from some. All slots, one after the other: the closure, by how many views are still to come. All slots, one after the other: the iterator. Slots, collected: what is kept. Slots, collected. All plans: what lies in memory, what is still to come. All plans: the drawn regions. -/
import Derived.Test.YtjkhclijmcmdjaaC10
import Derived.BigRegionIn
import Derived.BigGuardIn
namespace Go.Proofs.Ytjkhclijmcmdjaa
open Go.RowKit
set_option linter.unusedVariables false
set_option linter.unusedSimpArgs false
structure slo6F (av : Option Addr) (k : Nat) (cv : Nat) (pb : Nat) (yb : Nat) (ob : Nat) (j : Nat) (left : Nat) (rm : Nat) (S0 : Bool → Nat → World → Prop) (S1 : Bool → Nat → Value → World → Prop) (S2 : Bool → Nat → Value → Value → World → Prop) (S3 : Bool → Nat → Value → Value → Bool → World → Prop) (d : Nat → Bool) (x35 x36 x37 x38 x39 x40 x41 x42 x43 x44 x45 : Value) (ms : Nat) (r : Bool) (w : World) : Prop where
  q2 : d 2 = true → d 1 = true
  q4 : d 4 = true → d 3 = true
  q5 : d 5 = true → d 2 = true ∧ d 4 = true
  q8 : d 8 = true → d 6 = true ∧ d 7 = true
  q9 : d 9 = true → d 0 = true ∧ d 5 = true ∧ d 8 = true
  q10 : d 10 = true → d 9 = true
  f0 : d 0 = true → x35 = .func (.func 99) #[] #[.pointer (some ⟨pb, 0, none⟩), .pointer (some ⟨yb, 0, none⟩), .pointer (some ⟨ob, 0, none⟩)]
  f1 : d 1 = true → x36 = .slice av k cv
  f3 : d 3 = true → x38 = .int .i64 (j : Int)
  f4 : d 4 = true → x39 = .slice (some ⟨ms, 0, none⟩) 1 1
  f6 : d 6 = true → x41 = .int .i64 (left : Int)
  f7 : d 7 = true → x42 = .int .i64 (j : Int)
  f8 : d 8 = true → x43 = .int .i64 (rm : Int)
  f9 : d 9 = true → x44 = .bool r
  f10 : d 10 = true → x45 = .bool (!r)
  st0 : d 2 = false → S0 (d 4) ms w
  st1 : d 2 = true → d 5 = false → S1 (d 4) ms x37 w
  st2 : d 5 = true → d 9 = false → S2 (d 4) ms x37 x40 w
  st3 : d 9 = true → S3 (d 4) ms x37 x40 r w
  mz : d 4 = false → ms = 0
noncomputable def slo6C : Code := (Try.f99.body.bind (regionAt 6)).getD .skip
set_option maxRecDepth 100000 in
set_option maxHeartbeats 4000000 in
theorem slo6 {av : Option Addr} {k : Nat} {cv : Nat} {pb : Nat} {yb : Nat} {ob : Nat} {j : Nat} {left : Nat} {rm : Nat} {S0 : Bool → Nat → World → Prop} {S1 : Bool → Nat → Value → World → Prop} {S2 : Bool → Nat → Value → Value → World → Prop} {S3 : Bool → Nat → Value → Value → Bool → World → Prop} {Q : Exit → Act → World → Prop} {W1 : World} (hrm : IntKind.i64.wrap ((left : Int) - (j : Int)) = (rm : Int)) (h0 : S0 false 0 W1.drew)
    (kl0 : Hid (∀ (fs : Bool) (ms : Nat) (x37 : Value) (x40 : Value) (w : World), (S0 fs ms w ∨ S1 fs ms x37 w ∨ S2 fs ms x37 x40 w) → w.cell? ⟨ob, 0, none⟩ = some (.func (.func 99) #[] #[.pointer (some ⟨pb, 0, none⟩), .pointer (some ⟨yb, 0, none⟩), .pointer (some ⟨ob, 0, none⟩)])))
    (kc2 : Hid (∀ (fs : Bool) (ms : Nat) (w : World), S0 fs ms w → Calls Try.prog 55 #[.slice av k cv] w fun e w' => ∃ x37 : Value, e = .returned (x37) ∧ S1 fs ms x37 w'))
    (ks0 : Hid (∀ (w : World), S0 false 0 w → S0 true w.heap.size (w.alloc (.cells #[.int .i64 (j : Int)] 3))))
    (ks1 : Hid (∀ (x37 : Value) (w : World), S1 false 0 x37 w → S1 true w.heap.size x37 (w.alloc (.cells #[.int .i64 (j : Int)] 3))))
    (kc5 : Hid (∀ (ms : Nat) (x37 : Value) (w : World), S1 true ms x37 w → ∃ (x40 : Value) (w' : World), (Builtin.append_ #[24, 24] 24 #[x37, .slice (some ⟨ms, 0, none⟩) 1 1]).run Try.prog w = .ok (x40) w' ∧ S2 true ms x37 x40 w'))
    (kc9 : Hid (∀ (ms : Nat) (x37 : Value) (x40 : Value) (w : World), S2 true ms x37 x40 w → CallsIn Fence.wide 0 Try.prog 99 #[x40, .int .i64 (rm : Int), .pointer (some ⟨pb, 0, none⟩), .pointer (some ⟨yb, 0, none⟩), .pointer (some ⟨ob, 0, none⟩)] w fun e w' => ∃ r : Bool, e = .returned (.bool r) ∧ S3 true ms x37 x40 r w'))
    {s2 s3 s5 s6 s7 s9 s10 s11 s12 s13 s14 s15 s16 s17 s18 s19 s20 s21 s22 s23 s24 s25 s26 s27 s28 s29 s30 s31 s32 s33 s34 s35 s36 s37 s38 s39 s40 s41 s42 s43 s44 s45 s46 : Value} {dd : List Deferred}
    (hQ : ∀ (ms : Nat) (x37 : Value) (x40 : Value) (r : Bool) (w' : World), S3 true ms x37 x40 r w' → Q .normal { tmps := #[.slice av k cv, .int .i64 (left : Int), s2, s3, .pointer (some ⟨ob, 0, none⟩), s5, s6, s7, .int .i64 (j : Int), s9, s10, s11, s12, s13, s14, s15, s16, s17, s18, s19, s20, s21, s22, s23, s24, s25, s26, s27, s28, s29, s30, s31, s32, s33, s34, .func (.func 99) #[] #[.pointer (some ⟨pb, 0, none⟩), .pointer (some ⟨yb, 0, none⟩), .pointer (some ⟨ob, 0, none⟩)], .slice av k cv, x37, .int .i64 (j : Int), .slice (some ⟨ms, 0, none⟩) 1 1, x40, .int .i64 (left : Int), .int .i64 (j : Int), .int .i64 (rm : Int), .bool r, .bool (!r), s46], defers := dd } w') :
    Code.wpIn (wideAt none) 0 Try.prog slo6C Q { tmps := #[.slice av k cv, .int .i64 (left : Int), s2, s3, .pointer (some ⟨ob, 0, none⟩), s5, s6, s7, .int .i64 (j : Int), s9, s10, s11, s12, s13, s14, s15, s16, s17, s18, s19, s20, s21, s22, s23, s24, s25, s26, s27, s28, s29, s30, s31, s32, s33, s34, s35, s36, s37, s38, s39, s40, s41, s42, s43, s44, s45, s46], defers := dd } W1 := by
  have HQ := Lib.hid hQ
  clear hQ
  conv => arg 4; whnf
  refine wpIn_region_invG mixed (by kernel_rfl) (fun d_ a_ w' => ∃ (x35 : Value) (x36 : Value) (x37 : Value) (x38 : Value) (x39 : Value) (x40 : Value) (x41 : Value) (x42 : Value) (x43 : Value) (x44 : Value) (x45 : Value) (ms : Nat) (r : Bool), a_ = { tmps := #[.slice av k cv, .int .i64 (left : Int), s2, s3, .pointer (some ⟨ob, 0, none⟩), s5, s6, s7, .int .i64 (j : Int), s9, s10, s11, s12, s13, s14, s15, s16, s17, s18, s19, s20, s21, s22, s23, s24, s25, s26, s27, s28, s29, s30, s31, s32, s33, s34, x35, x36, x37, x38, x39, x40, x41, x42, x43, x44, x45, s46], defers := dd } ∧ slo6F av k cv pb yb ob j left rm S0 S1 S2 S3 d_ x35 x36 x37 x38 x39 x40 x41 x42 x43 x44 x45 ms r w') ?_ ?_ ?_
  · refine ⟨s35, s36, s37, s38, s39, s40, s41, s42, s43, s44, s45, 0, false, rfl, ?_⟩
    constructor <;> first | rfl | (intro _; rfl) | (intro h; cases h; done) | (intro _; exact h0) | exact h0
  · refine ⟨?_, ?_, ?_, ?_, ?_, ?_, ?_, ?_, ?_, ?_, ?_, trivial⟩
    all_goals
      rintro d_ a_ w1 K hd_ hdep ⟨x35, x36, x37, x38, x39, x40, x41, x42, x43, x44, x45, ms, r, rfl, F⟩ HK
      simp [Region.binds] at hdep
    · have hst : S0 (d_ 4) ms w1 ∨ S1 (d_ 4) ms x37 w1 ∨ S2 (d_ 4) ms x37 x40 w1 := by
        cases e1 : d_ 2 with
        | false => exact .inl ((F.st0 e1))
        | true =>
          cases e2 : d_ 5 with
          | false => exact .inr (.inl ((F.st1 e1 e2)))
          | true =>
            have n_ : d_ 9 = false := by
              cases e_ : d_ 9 with
              | false => rfl
              | true => have h2 := (F.q9 e_).1; rw [show d_ 0 = false from hd_] at h2; cases h2
            exact .inr (.inr ((F.st2 e2 n_)))
      have kk := kl0.out (d_ 4) ms x37 x40 w1 hst
      clear hst
      have HF : Hid (slo6F av k cv pb yb ob j left rm S0 S1 S2 S3 (upd d_ 0) (.func (.func 99) #[] #[.pointer (some ⟨pb, 0, none⟩), .pointer (some ⟨yb, 0, none⟩), .pointer (some ⟨ob, 0, none⟩)]) x36 x37 x38 x39 x40 x41 x42 x43 x44 x45 ms r w1) := ⟨F.q2, F.q4, F.q5, F.q8, fun h => ⟨rfl, (F.q9 h).2.1, (F.q9 h).2.2⟩, F.q10, fun _ => rfl, F.f1, F.f3, F.f4, F.f6, F.f7, F.f8, F.f9, F.f10, F.st0, F.st1, F.st2, F.st3, F.mz⟩
      clear F
      go_simp
      exact HK.out _ _ ⟨_, _, _, _, _, _, _, _, _, _, _, _, _, rfl, HF.out⟩
    · have HF : Hid (slo6F av k cv pb yb ob j left rm S0 S1 S2 S3 (upd d_ 1) x35 (.slice av k cv) x37 x38 x39 x40 x41 x42 x43 x44 x45 ms r w1) := ⟨fun h => rfl, F.q4, F.q5, F.q8, F.q9, F.q10, F.f0, fun _ => rfl, F.f3, F.f4, F.f6, F.f7, F.f8, F.f9, F.f10, F.st0, F.st1, F.st2, F.st3, F.mz⟩
      clear F
      go_simp
      exact HK.out _ _ ⟨_, _, _, _, _, _, _, _, _, _, _, _, _, rfl, HF.out⟩
    · have hS := F.st0  hd_
      obtain rfl := F.f1 (by simp [hdep])
      have hc := kc2.out (d_ 4) ms w1 hS
      have HF := Lib.hid F
      clear F
      go_simp
      refine ⟨trivial, rfl, wideAt_calls (hc.mono ?_)⟩
      rintro e w5 ⟨v_, rfl, hres⟩
      exact HK.out _ _ ⟨_, _, _, _, _, _, _, _, _, _, _, ms, r, rfl, ⟨fun _ => (show _ from (by simp [hdep] : d_ 1 = true)), HF.out.q4, fun h => ⟨rfl, (HF.out.q5 h).2⟩, HF.out.q8, HF.out.q9, HF.out.q10, HF.out.f0, HF.out.f1, HF.out.f3, HF.out.f4, HF.out.f6, HF.out.f7, HF.out.f8, HF.out.f9, HF.out.f10, fun h => (by simp [upd] at h), fun _ _ => hres, fun h _ => (by have h2 : d_ 2 = true := (HF.out.q5 h).1; rw [show d_ 2 = false from hd_] at h2; cases h2), fun h => (by have h2 : d_ 2 = true := (HF.out.q5 (HF.out.q9 h).2.1).1; rw [show d_ 2 = false from hd_] at h2; cases h2), HF.out.mz⟩⟩
    · have HF : Hid (slo6F av k cv pb yb ob j left rm S0 S1 S2 S3 (upd d_ 3) x35 x36 x37 (.int .i64 (j : Int)) x39 x40 x41 x42 x43 x44 x45 ms r w1) := ⟨F.q2, fun h => rfl, F.q5, F.q8, F.q9, F.q10, F.f0, F.f1, fun _ => rfl, F.f4, F.f6, F.f7, F.f8, F.f9, F.f10, F.st0, F.st1, F.st2, F.st3, F.mz⟩
      clear F
      go_simp
      exact HK.out _ _ ⟨_, _, _, _, _, _, _, _, _, _, _, _, _, rfl, HF.out⟩
    · obtain rfl := F.f3 (by simp [hdep])
      have HF : Hid (slo6F av k cv pb yb ob j left rm S0 S1 S2 S3 (upd d_ 4) x35 x36 x37 (.int .i64 (j : Int)) (.slice (some ⟨w1.heap.size, 0, none⟩) 1 1) x40 x41 x42 x43 x44 x45 w1.heap.size r (w1.alloc (.cells #[.int .i64 (j : Int)] 3))) := ⟨F.q2, fun _ => (show _ from (by simp [hdep] : d_ 3 = true)), fun h => ⟨(F.q5 h).1, rfl⟩, F.q8, F.q9, F.q10, F.f0, F.f1, F.f3, fun _ => rfl, F.f6, F.f7, F.f8, F.f9, F.f10, fun b => ks0.out w1 (by have h := F.st0 b; rw [show d_ 4 = false from hd_, F.mz hd_] at h; exact h), fun a b => ks1.out x37 w1 (by have h := F.st1 a b; rw [show d_ 4 = false from hd_, F.mz hd_] at h; exact h), fun a b => (by have h2 : d_ 4 = true := (F.q5 a).2; rw [show d_ 4 = false from hd_] at h2; cases h2), fun a => (by have h2 : d_ 4 = true := (F.q5 (F.q9 a).2.1).2; rw [show d_ 4 = false from hd_] at h2; cases h2), fun h => (by simp [upd] at h)⟩
      clear F
      go_simp
      exact HK.out _ _ ⟨_, _, _, _, _, _, _, _, _, _, _, _, _, rfl, HF.out⟩
    · have hS := F.st1 (by simp [hdep] : d_ 2 = true) hd_
      rw [show d_ 4 = true from (by simp [hdep] : d_ 4 = true)] at hS
      obtain rfl := F.f4 (by simp [hdep])
      obtain ⟨v_, w_, hr, hres⟩ := kc5.out ms x37 w1 hS
      rw [if_pos (by rfl)]
      refine wpIn_append_run (.tmp 37) (.tmp 39) 24 rfl _ _ _ _ rfl rfl hr ?_
      exact HK.out _ _ ⟨_, _, _, _, _, _, _, _, _, _, _, ms, r, rfl, ⟨F.q2, F.q4, fun _ => ⟨(show _ from (by simp [hdep] : d_ 2 = true)), (show _ from (by simp [hdep] : d_ 4 = true))⟩, F.q8, fun h => ⟨(F.q9 h).1, rfl, (F.q9 h).2.2⟩, F.q10, F.f0, F.f1, F.f3, F.f4, F.f6, F.f7, F.f8, F.f9, F.f10, fun h => (by have h2 : d_ 2 = false := h; rw [(by simp [hdep] : d_ 2 = true)] at h2; cases h2), fun _ h => (by simp [upd] at h), fun _ _ => (by rw [show upd d_ 5 4 = true from (by simp [hdep] : d_ 4 = true)]; exact hres), fun h => (by have h2 : d_ 5 = true := (F.q9 h).2.1; rw [show d_ 5 = false from hd_] at h2; cases h2), F.mz⟩⟩
    · have HF : Hid (slo6F av k cv pb yb ob j left rm S0 S1 S2 S3 (upd d_ 6) x35 x36 x37 x38 x39 x40 (.int .i64 (left : Int)) x42 x43 x44 x45 ms r w1) := ⟨F.q2, F.q4, F.q5, fun h => ⟨rfl, (F.q8 h).2⟩, F.q9, F.q10, F.f0, F.f1, F.f3, F.f4, fun _ => rfl, F.f7, F.f8, F.f9, F.f10, F.st0, F.st1, F.st2, F.st3, F.mz⟩
      clear F
      go_simp
      exact HK.out _ _ ⟨_, _, _, _, _, _, _, _, _, _, _, _, _, rfl, HF.out⟩
    · have HF : Hid (slo6F av k cv pb yb ob j left rm S0 S1 S2 S3 (upd d_ 7) x35 x36 x37 x38 x39 x40 x41 (.int .i64 (j : Int)) x43 x44 x45 ms r w1) := ⟨F.q2, F.q4, F.q5, fun h => ⟨(F.q8 h).1, rfl⟩, F.q9, F.q10, F.f0, F.f1, F.f3, F.f4, F.f6, fun _ => rfl, F.f8, F.f9, F.f10, F.st0, F.st1, F.st2, F.st3, F.mz⟩
      clear F
      go_simp
      exact HK.out _ _ ⟨_, _, _, _, _, _, _, _, _, _, _, _, _, rfl, HF.out⟩
    · obtain rfl := F.f6 (by simp [hdep])
      obtain rfl := F.f7 (by simp [hdep])
      have HF : Hid (slo6F av k cv pb yb ob j left rm S0 S1 S2 S3 (upd d_ 8) x35 x36 x37 x38 x39 x40 (.int .i64 (left : Int)) (.int .i64 (j : Int)) (.int .i64 (rm : Int)) x44 x45 ms r w1) := ⟨F.q2, F.q4, F.q5, fun _ => ⟨(show _ from (by simp [hdep] : d_ 6 = true)), (show _ from (by simp [hdep] : d_ 7 = true))⟩, fun h => ⟨(F.q9 h).1, (F.q9 h).2.1, rfl⟩, F.q10, F.f0, F.f1, F.f3, F.f4, F.f6, F.f7, fun _ => rfl, F.f9, F.f10, F.st0, F.st1, F.st2, F.st3, F.mz⟩
      clear F
      go_simp
      exact HK.out _ _ ⟨_, _, _, _, _, _, _, _, _, _, _, _, _, rfl, HF.out⟩
    · have hS := F.st2 (by simp [hdep] : d_ 5 = true) hd_
      rw [show d_ 4 = true from (F.q5 (by simp [hdep] : d_ 5 = true)).2] at hS
      obtain rfl := F.f0 (by simp [hdep])
      obtain rfl := F.f8 (by simp [hdep])
      have hc := kc9.out ms x37 x40 w1 hS
      have HF := Lib.hid F
      clear F
      go_simp
      refine ⟨trivial, rfl, hc.mono ?_⟩
      rintro e w5 ⟨v_, rfl, hres⟩
      exact HK.out _ _ ⟨_, _, _, _, _, _, _, _, _, _, _, ms, v_, rfl, ⟨HF.out.q2, HF.out.q4, HF.out.q5, HF.out.q8, fun _ => ⟨(show _ from (by simp [hdep] : d_ 0 = true)), (show _ from (by simp [hdep] : d_ 5 = true)), (show _ from (by simp [hdep] : d_ 8 = true))⟩, fun h => rfl, HF.out.f0, HF.out.f1, HF.out.f3, HF.out.f4, HF.out.f6, HF.out.f7, HF.out.f8, fun _ => rfl, fun h => (by have h2 : d_ 9 = true := (HF.out.q10 h); rw [show d_ 9 = false from hd_] at h2; cases h2), fun h => (by have h2 : d_ 2 = false := h; rw [(HF.out.q5 (by simp [hdep] : d_ 5 = true)).1] at h2; cases h2), fun _ h => (by have h2 : d_ 5 = false := h; rw [(by simp [hdep] : d_ 5 = true)] at h2; cases h2), fun _ h => (by simp [upd] at h), fun _ => (by rw [show upd d_ 9 4 = true from (HF.out.q5 (by simp [hdep] : d_ 5 = true)).2]; exact hres), HF.out.mz⟩⟩
    · obtain rfl := F.f9 (by simp [hdep])
      have HF : Hid (slo6F av k cv pb yb ob j left rm S0 S1 S2 S3 (upd d_ 10) x35 x36 x37 x38 x39 x40 x41 x42 x43 (.bool r) (.bool (!r)) ms r w1) := ⟨F.q2, F.q4, F.q5, F.q8, F.q9, fun _ => (show _ from (by simp [hdep] : d_ 9 = true)), F.f0, F.f1, F.f3, F.f4, F.f6, F.f7, F.f8, F.f9, fun _ => rfl, F.st0, F.st1, F.st2, F.st3, F.mz⟩
      clear F
      go_simp
      exact HK.out _ _ ⟨_, _, _, _, _, _, _, _, _, _, _, _, _, rfl, HF.out⟩
  · rintro d_ a_ w1 hall ⟨x35, x36, x37, x38, x39, x40, x41, x42, x43, x44, x45, ms, r, rfl, F⟩
    have hall' : ∀ k, k < 11 → d_ k = true := hall
    obtain rfl := F.f0 (hall' 0 (by decide))
    obtain rfl := F.f1 (hall' 1 (by decide))
    obtain rfl := F.f3 (hall' 3 (by decide))
    obtain rfl := F.f4 (hall' 4 (by decide))
    obtain rfl := F.f6 (hall' 6 (by decide))
    obtain rfl := F.f7 (hall' 7 (by decide))
    obtain rfl := F.f8 (hall' 8 (by decide))
    obtain rfl := F.f9 (hall' 9 (by decide))
    obtain rfl := F.f10 (hall' 10 (by decide))
    have hst := F.st3 (hall' 9 (by decide))
    rw [show d_ 4 = true from hall' 4 (by decide)] at hst
    exact HQ.out ms x37 x40 r w1 hst
/-- All slots that go on from some. -/
def slF (room : Int) (d : Nat) (pre : List Int) (left n : Nat) : List (List Int) := slotsF room d (pre ++ [(n : Int)]) (left - n)
theorem slotsF_succ (room : Int) (d : Nat) (pre : List Int) (left : Nat) : slotsF room (d + 1) pre left = (List.range (left + 1)).flatMap (slF room d pre left) := rfl
theorem slF_drop (room : Int) (d : Nat) (pre : List Int) {left j : Nat} (h : j < left + 1) : ((List.range (left + 1)).drop j).flatMap (slF room d pre left) = slF room d pre left j ++ ((List.range (left + 1)).drop (j + 1)).flatMap (slF room d pre left) := by
  rw [List.drop_eq_getElem_cons (by simpa using h)]
  simp
abbrev selfV (pb yb ob : Nat) : Value := .func (.func 99) #[] #[.pointer (some ⟨pb, 0, none⟩), .pointer (some ⟨yb, 0, none⟩), .pointer (some ⟨ob, 0, none⟩)]
/-- What holds throughout. -/
structure OnC (W : World) (M : Nat → Prop) (l pb : Nat) (A : World) (C : Nat → Prop) : Prop where
  same : Same M W A
  y : A.heap[W.heap.size]? = some (.cells #[.func (.yield l) #[] #[]] 139 (0, 0))
  o : A.heap[W.heap.size + 1]? = some (.cells #[selfV pb W.heap.size (W.heap.size + 1)] 140 (0, 0))
  cy : ¬ C W.heap.size
  co : ¬ C (W.heap.size + 1)
  old : ∀ k, k < W.heap.size → C k
  bd : ∀ k, C k → k < A.heap.size
theorem OnC.below {W : World} {M : Nat → Prop} {l pb : Nat} {A B : World} {C : Nat → Prop} (h : OnC W M l pb A C) (hb : Below A.heap.size A B) : OnC W M l pb B C :=
  ⟨h.same.trans (Same.of_below _ hb), (hb.block _ (heap_lt h.y)).trans h.y, (hb.block _ (heap_lt h.o)).trans h.o, h.cy, h.co, h.old, fun k hk => Nat.lt_of_lt_of_le (h.bd k hk) hb.size⟩
/-- What is handed over: some slots, in memory of their own. -/
def SlOk (B0 : Nat) (x : List Int) (v : Array Value) (A : World) (K : Nat → Prop) : Prop :=
  ∃ vc, v = #[vc] ∧ A.ownsRow B0 3 1 vc x.length (x.map (Value.int .i64)) ∧ K = fun k => vc.ownBlock = some k
/-- How a call that goes on from some slots may end. -/
def OnPost (W : World) (M : Nat → Prop) (l pb : Nat) (J Jx : List (List Int) → World → (Nat → Prop) → Prop) (A : World) (C : Nat → Prop) (v : Value) (rem : List (List Int)) (r : Bool) (A' : World) : Prop :=
  (r = true → ∃ C' : Nat → Prop, OnC W M l pb A' C' ∧ J rem A' C' ∧ A.heap.size ≤ A'.heap.size ∧ ∀ b, b < A.heap.size → ¬ C b → v.ownBlock ≠ some b → ¬ C' b ∧ A'.heap[b]? = A.heap[b]?) ∧
  (r = false → ∃ (C' : Nat → Prop) (rem' : List (List Int)), Jx rem' A' C')
section
variable {p : Prs} {A0 : PrsA} {bp pb l : Nat} {W : World} {M : Nat → Prop} {J Jx : List (List Int) → World → (Nat → Prop) → Prop}
/-- What the walk is given. -/
structure OnH (p : Prs) (A0 : PrsA) (bp pb l : Nat) (W : World) (M : Nat → Prop) (J Jx : List (List Int) → World → (Nat → Prop) → Prop) : Prop where
  hV : p.valid = true
  press : ∀ A, Same M W A → A.heap[pb]? = some (.cells #[.pointer (some ⟨bp, 0, none⟩)] 71 (0, 0)) ∧ A.heap[bp]? = some (.cells (p.arr A0) 91 (0, 0))
  hJ : ∀ i A B C, J i A C → Same (fun _ => False) A B → J i B C
  hY : ∀ x i v A C K, SlOk W.heap.size x v A K → (∀ k, K k → ¬ C k) → J (x :: i) A C → YieldAt Fence.wide 0 Try.prog l v A fun e B => Same (mayC M W.heap.size C) A B ∧
      ∃ C' : Nat → Prop, (∀ k, k < W.heap.size → C' k) ∧ (∀ k, C' k → k < B.heap.size) ∧ (∀ k, C' k → C k ∨ K k ∨ A.heap.size ≤ k) ∧ ((e = .returned (.bool true) ∧ J i B C') ∨ (e = .returned (.bool false) ∧ Jx i B C'))
theorem OnH.jb (H : OnH p A0 bp pb l W M J Jx) {i : List (List Int)} {A B : World} {C : Nat → Prop} (h : J i A C) (hb : Below A.heap.size A B) : J i B C := H.hJ _ _ _ _ h (Same.of_below _ hb)
theorem same_later {M M' : Nat → Prop} {A B C : World} (h : Same M A B) (k : Same M' B C) (hm : ∀ i, M' i → M i ∨ A.heap.size ≤ i) : Same M A C :=
  ⟨k.os.trans h.os, k.tape.trans h.tape, k.output.trans h.output, Nat.le_trans h.size k.size, fun i hi hn => (k.block i (by have := h.size; omega) (fun e => by rcases hm i e with e | e; exact hn e; omega)).trans (h.block i hi hn)⟩
/-- Some slots are handed over. -/
theorem yield_leaf (H : OnH p A0 bp pb l W M J Jx) {pre : List Int} {rem : List (List Int)} {A : World} {C : Nat → Prop} {vc : Value} (hC : OnC W M l pb A C) (hj : J (pre :: rem) A C)
    (hown : A.ownsRow (W.heap.size + 2) 3 1 vc pre.length (pre.map (Value.int .i64))) (hnc : ∀ g, vc.ownBlock = some g → ¬ C g) :
    YieldAt Fence.wide 0 Try.prog l #[vc] A fun e w' => ∃ r, e = .returned (.bool r) ∧ OnPost W M l pb J Jx A C vc rem r w' := by
  obtain ⟨fn, tmps, assign, body, hy, hR⟩ := H.hY pre rem #[vc] A C (fun k => vc.ownBlock = some k) ⟨vc, rfl, own_base hown (by omega), rfl⟩ (fun k hk => hnc k hk) hj
  refine ⟨fn, tmps, assign, body, hy, hR.mono ?_⟩
  rintro e B ⟨hs, C', h1, h2, h3, h4⟩
  have hyA := heap_lt hC.y
  have hoA := heap_lt hC.o
  have hyo : vc.ownBlock ≠ some W.heap.size := fun e => by have := (hown.lt _ e).1; omega
  have hoo : vc.ownBlock ≠ some (W.heap.size + 1) := fun e => by have := (hown.lt _ e).1; omega
  have hout : ∀ b, b < A.heap.size → ¬ C b → vc.ownBlock ≠ some b → ¬ C' b := fun b hb' hn hv hc => by
    rcases h3 b hc with h | h | h
    · exact hn h
    · exact hv h
    · omega
  have hblk : ∀ b, b < A.heap.size → ¬ C b → B.heap[b]? = A.heap[b]? := fun b hb' hn => hs.block b hb' (fun hm => hn hm.1)
  rcases h4 with ⟨rfl, hj'⟩ | ⟨rfl, hj'⟩
  · refine ⟨true, rfl, fun _ => ⟨C', ⟨?_, (hblk _ hyA hC.cy).trans hC.y, (hblk _ hoA hC.co).trans hC.o, hout _ hyA hC.cy hyo, hout _ hoA hC.co hoo, h1, h2⟩, hj', hs.size, fun b hb' hn hv => ⟨hout b hb' hn hv, hblk b hb' hn⟩⟩, fun h => by cases h⟩
    exact same_later hC.same hs (fun i hm => by
      by_cases hi' : i < W.heap.size
      · exact .inl (hm.2 hi')
      · exact .inr (by omega))
  · exact ⟨false, rfl, (fun h => by cases h), fun _ => ⟨C', rem, hj'⟩⟩
attribute [local go_sem] Oper.semAt_some
set_option maxRecDepth 100000 in
set_option maxHeartbeats 2000000 in
theorem on_leaf (H : OnH p A0 bp pb l W M J Jx) {pre : List Int} {left : Nat} {rem : List (List Int)} {A : World} {C : Nat → Prop} {v : Value} (hl : pre.length = p.wanted.length) (hlr : (left : Int) ≤ p.room)
    (hC : OnC W M l pb A C) (hown : A.ownsRow (W.heap.size + 2) 3 1 v pre.length (pre.map (Value.int .i64))) (hnc : ∀ g, v.ownBlock = some g → ¬ C g) (hj : J (slotsF p.room 0 pre left ++ rem) A C) :
    CallsIn Fence.wide 0 Try.prog 99 #[v, .int .i64 (left : Int), .pointer (some ⟨pb, 0, none⟩), .pointer (some ⟨W.heap.size, 0, none⟩), .pointer (some ⟨W.heap.size + 1, 0, none⟩)] A fun e A' => ∃ r, e = .returned (.bool r) ∧ OnPost W M l pb J Jx A C v rem r A' := by
  obtain ⟨av, cv, rfl, hcv, _⟩ := own_slice hown
  have hpl := H.press A hC.same
  have k1 : A.cell? ⟨pb, 0, none⟩ = some (.pointer (some ⟨bp, 0, none⟩)) := by rw [cell_of_heap hpl.1]; rfl
  obtain ⟨m0, m1, m2, m3, m4, m5, m6, m7, m8, m9⟩ := prs_cells hpl.2
  have k2 : A.cell? ⟨W.heap.size, 0, none⟩ = some (.func (.yield l) #[] #[]) := by rw [cell_of_heap hC.y]; rfl
  have hw4 := wanted_of H.hV
  rw [hl]
  by_cases hlt : (left : Int) < p.room
  · have hb : ((left : Int) == p.room) = false := by simp; omega
    have hj2 : J (pre :: rem) A C := by
      have e : slotsF p.room 0 pre left = [pre] := by unfold slotsF; rw [if_pos hlt]
      rw [e] at hj; exact hj
    rw [hl] at hown hnc
    have HY := Lib.hid (yield_leaf H hC hj2 (by rw [hl]; exact hown) hnc)
    clear hpl hC hown hj hj2 H hl hlt hnc
    refine callsIn_wide.2 ?_
    go_enter Try.func99, Try.ntmps99
    refine (wpIn_wide (n := 0)).1 ?_
    obtain ⟨fn, tmps, assign, body, hy, hRd⟩ := HY.out
    have HRd := Lib.hid hRd
    clear hRd
    gi_wp2_with fail
    refine ⟨rfl, HRd.out.mono ?_⟩
    rintro e W3 ⟨r, rfl, hres⟩
    have HR := Lib.hid hres
    clear hres hy k1 k2 m0 m1 m2 m3 m4 m5 m6 m7 m8 m9
    gi_wp2_with fail
    exact bodyPost_ret (results_tmp rfl _ _ _) rfl ⟨r, rfl, HR.out⟩
  · have hb : ((left : Int) == p.room) = true := by simp; omega
    have hj2 : J rem A C := by
      have e : slotsF p.room 0 pre left = [] := by unfold slotsF; rw [if_neg hlt]
      rw [e] at hj; exact hj
    have HR : Hid (OnPost W M l pb J Jx A C (.slice av p.wanted.length cv) rem true A) := ⟨fun _ => ⟨C, hC, hj2, Nat.le_refl _, fun b _ hn _ => ⟨hn, rfl⟩⟩, fun h => by cases h⟩
    clear hpl hC hown hj hj2 H hl hlt hnc
    refine callsIn_wide.2 ?_
    go_enter Try.func99, Try.ntmps99
    go_wp2_with fail
    go_ret
    exact ⟨true, rfl, HR.out⟩
end
end Go.Proofs.Ytjkhclijmcmdjaa
namespace Go.Proofs.Ytjkhclijmcmdjaa
open Go.RowKit
set_option linter.unusedVariables false
set_option linter.unusedSimpArgs false
section
variable {p : Prs} {A0 : PrsA} {bp pb l : Nat} {W : World} {M : Nat → Prop} {J Jx : List (List Int) → World → (Nat → Prop) → Prop}
theorem app_one {W w : World} {l : List Int} {v : Value} {f : Int} {ms : Nat} (hk : l.length ≤ 100) (hb : Below W.heap.size W w) (hx : w.ownsRow W.heap.size 3 1 v l.length (l.map (Value.int .i64))) (hm : w.heap[ms]? = some (.cells #[.int .i64 f] 3 (0, 0))) :
    ∃ (v' : Value) (w' : World), (Builtin.append_ #[24, 24] 24 #[v, .slice (some ⟨ms, 0, none⟩) 1 1]).run Try.prog w = .ok v' w' ∧ Below W.heap.size W w' ∧ w'.ownsRow W.heap.size 3 1 v' (l ++ [f]).length ((l ++ [f]).map (Value.int .i64)) := by
  obtain ⟨i0, hi0, hz0, hz1, hz2⟩ := info_parts infoI
  obtain ⟨v', w', hr, hn, hg, _⟩ := append_keep (P := Try.prog) (w := w) W.heap.size 24 24 3 i0 _ 8 Try.underlying24 hi0 hz0 hz1 hz2 rfl _ _ _ hx ⟨ms, 0, none⟩ (.int .i64 f) (by rw [cell_of_heap hm]; rfl) rfl (by simp [maxLen]; omega) (by omega) hb.size
  refine ⟨v', w', hr, hb.grown hg hb.size (fun k hk => (hx.lt k hk).1), ?_⟩
  have e : (l ++ [f]).length = l.length + 1 := by simp
  have e2 : (l ++ [f]).map (Value.int .i64) = l.map (Value.int .i64) ++ [.int .i64 f] := by simp
  rw [e, e2]
  exact hn
set_option maxRecDepth 100000 in
set_option maxHeartbeats 4000000 in
theorem on_any (H : OnH p A0 bp pb l W M J Jx) : ∀ (d : Nat) (pre : List Int) (left : Nat) (rem : List (List Int)) (A : World) (C : Nat → Prop) (v : Value), pre.length + d = p.wanted.length → (left : Int) ≤ p.room →
    OnC W M l pb A C → A.ownsRow (W.heap.size + 2) 3 1 v pre.length (pre.map (Value.int .i64)) → (∀ g, v.ownBlock = some g → ¬ C g) → J (slotsF p.room d pre left ++ rem) A C →
    CallsIn Fence.wide 0 Try.prog 99 #[v, .int .i64 (left : Int), .pointer (some ⟨pb, 0, none⟩), .pointer (some ⟨W.heap.size, 0, none⟩), .pointer (some ⟨W.heap.size + 1, 0, none⟩)] A fun e A' => ∃ r, e = .returned (.bool r) ∧ OnPost W M l pb J Jx A C v rem r A' := by
  intro d
  induction d with
  | zero => exact fun pre left rem A C v hl hlr hC hown hnc hj => on_leaf H (by omega) hlr hC hown hnc hj
  | succ d ih =>
    intro pre left rem A C v hl hlr hC hown hnc hj
    obtain ⟨av, cv, rfl, hcv, _⟩ := own_slice hown
    have HIH := Lib.hid ih
    have hw4 := wanted_of H.hV
    have hrm := room_of H.hV
    have hkn : ((pre.length : Int) == (p.wanted.length : Int)) = false := by simp; omega
    have hpl := H.press A hC.same
    have k1 : A.cell? ⟨pb, 0, none⟩ = some (.pointer (some ⟨bp, 0, none⟩)) := by rw [cell_of_heap hpl.1]; rfl
    obtain ⟨m0, m1, m2, m3, m4, m5, m6, m7, m8, m9⟩ := prs_cells hpl.2
    have HLD := Lib.hid (And.intro hl hlr)
    have hp4 : pre.length ≤ 4 := by omega
    have hl6 : left ≤ 6 := by omega
    have HH := Lib.hid (And.intro H (And.intro hC (And.intro hown (And.intro hnc hj))))
    clear hpl hC hown hnc hj H hl ih hlr m0 m1 m2 m3 m4 m5 m7 m8 m9
    refine callsIn_wide.2 ?_
    go_enter Try.func99, Try.ntmps99
    refine wp_seq_hid ?_
    intro K0 HK0
    go_wp2_with fail
    refine HK0.out _ _ ?_
    clear HK0 K0
    refine wp_seq_hid ?_
    intro K1 HK1
    go_wp2_with fail
    refine HK1.out _ _ ?_
    clear HK1 K1
    refine wp_seq_hid ?_
    intro K2 HK2
    clear k1 m6 hkn
    go_wp2_with fail
    go_loopw [32] (fun q wr => ∃ (j : Nat) (C' : Nat → Prop), j ≤ left + 1 ∧ q = .int .i64 (j : Int) ∧ Hid (OnC W M l pb wr C' ∧ J (((List.range (left + 1)).drop j).flatMap (slF p.room d pre left) ++ rem) wr C' ∧ A.heap.size ≤ wr.heap.size ∧ ∀ b, b < A.heap.size → ¬ C b → ¬ C' b ∧ wr.heap[b]? = A.heap[b]?)) (fun q _ => left + 1 - (intOf q).toNat)
    case atStart => exact ⟨0, C, by omega, rfl, HH.out.2.1, by rw [List.drop_zero, ← slotsF_succ]; exact HH.out.2.2.2.2, Nat.le_refl _, fun b _ hn => ⟨hn, rfl⟩⟩
    case round =>
      obtain ⟨j, C', hjn, rfl, HR⟩ := hrel
      obtain ⟨H, hC0, hown0, hnc0, _⟩ := HH.out
      obtain ⟨hC, hj, hsz, hkp⟩ := HR.out
      by_cases hlt : j < left + 1
      · rw [slF_drop p.room d pre hlt, List.append_assoc] at hj
        have hown : wr.ownsRow (W.heap.size + 2) 3 1 (.slice av pre.length cv) pre.length (pre.map (Value.int .i64)) := own_blocks hown0 (fun b hb => (hkp b (hown0.lt b hb).2 (hnc0 b hb)).2)
        have hWz := heap_lt hC.o
        have HO : Hid (∀ w, Below wr.heap.size wr w → w.cell? ⟨W.heap.size + 1, 0, none⟩ = some (selfV pb W.heap.size (W.heap.size + 1))) := fun w hbw => by
          have := (hC.below hbw).o
          rw [cell_of_heap this]; rfl
        have HON : Hid (∀ v w, Below wr.heap.size wr w → w.ownsRow wr.heap.size 3 1 v (pre ++ [(j : Int)]).length ((pre ++ [(j : Int)]).map (Value.int .i64)) → CallsIn Fence.wide 0 Try.prog 99 #[v, .int .i64 ((left - j : Nat) : Int), .pointer (some ⟨pb, 0, none⟩), .pointer (some ⟨W.heap.size, 0, none⟩), .pointer (some ⟨W.heap.size + 1, 0, none⟩)] w fun e w' => ∃ r, e = .returned (.bool r) ∧ OnPost W M l pb J Jx wr C' (.slice none 0 0) (((List.range (left + 1)).drop (j + 1)).flatMap (slF p.room d pre left) ++ rem) r w') := fun v w hbw hov => by
          have hnv : ∀ g, v.ownBlock = some g → wr.heap.size ≤ g := fun g hg => (hov.lt g hg).1
          refine (HIH.out (pre ++ [(j : Int)]) (left - j) _ w C' v (by have := HLD.out.1; simp; omega) (by have := HLD.out.2; omega) (hC.below hbw) (own_base hov (by omega)) (fun g hg hc => by have := hnv g hg; have := hC.bd g hc; omega) (H.jb hj hbw)).mono ?_
          rintro e w' ⟨r, rfl, h1, h2⟩
          refine ⟨r, rfl, fun hr' => ?_, h2⟩
          obtain ⟨C2, k1, k2, k3, k4⟩ := h1 hr'
          refine ⟨C2, k1, k2, Nat.le_trans hbw.size k3, fun b hb' hn _ => ?_⟩
          have := k4 b (Nat.lt_of_lt_of_le hb' hbw.size) hn (fun e => by have := hnv b e; omega)
          exact ⟨this.1, this.2.trans (hbw.block b hb')⟩
        have hrm2 : IntKind.i64.wrap ((left : Int) - (j : Int)) = ((left - j : Nat) : Int) := by
          have e : ((left - j : Nat) : Int) = (left : Int) - j := by omega
          rw [e]; exact IntWalk.i64_in _ (by omega)
        have HCL : Hid (∀ w, Below wr.heap.size wr w → Calls Try.prog 55 #[.slice av pre.length cv] w fun e w' => ∃ v', e = .returned v' ∧ w'.ownsRow wr.heap.size 3 1 v' pre.length (pre.map (Value.int .i64)) ∧ (∀ g, v'.ownBlock = some g → w.heap.size ≤ g) ∧ Below wr.heap.size wr w' ∧ Below w.heap.size w w') := fun w hbw =>
          (clone55 (own_below hown hbw) (by omega)).mono fun e w' ⟨v', h1, h2, h3⟩ => ⟨v', h1, own_base h2 hbw.size, fun g hg => (h2.lt g hg).1, hbw.trans (h3.mono hbw.size), h3⟩
        clear hown hC hj hkp hown0 hnc0 hC0 H hWz
        go_upto_region 6 with fail
        refine wpIn_wide.1 (slo6 (av := av) (k := pre.length) (cv := cv) (pb := pb) (yb := W.heap.size) (ob := W.heap.size + 1) (j := j) (left := left) (rm := left - j)
          (S0 := fun fs ms w => Below wr.heap.size wr w ∧ (fs = true → w.heap[ms]? = some (.cells #[.int .i64 (j : Int)] 3 (0, 0))))
          (S1 := fun fs ms x37 w => Below wr.heap.size wr w ∧ w.ownsRow wr.heap.size 3 1 x37 pre.length (pre.map (Value.int .i64)) ∧ (fs = true → w.heap[ms]? = some (.cells #[.int .i64 (j : Int)] 3 (0, 0))))
          (S2 := fun fs ms x37 x40 w => Below wr.heap.size wr w ∧ w.ownsRow wr.heap.size 3 1 x40 (pre ++ [(j : Int)]).length ((pre ++ [(j : Int)]).map (Value.int .i64)))
          (S3 := fun fs ms x37 x40 r w => OnPost W M l pb J Jx wr C' (.slice none 0 0) (((List.range (left + 1)).drop (j + 1)).flatMap (slF p.room d pre left) ++ rem) r w) hrm2 ?h0 ?l0 ?c2 ?s0 ?s1 ?c5 ?c9 ?hQ)
        case h0 => exact ⟨(Below.refl _ _).drew, fun h => by cases h⟩
        case l0 =>
          intro fs ms x37 x40 w h
          refine HO.out w ?_
          rcases h with h | h | h <;> exact h.1
        case c2 =>
          intro fs ms w h
          refine (HCL.out w h.1).mono ?_
          rintro e w' ⟨v', rfl, h1, h2, h3, h4⟩
          exact ⟨v', rfl, h3, h1, fun hf => (h4.block _ (heap_lt (h.2 hf))).trans (h.2 hf)⟩
        case s0 =>
          intro w h
          have hba : Below w.heap.size w (w.alloc (.cells #[.int .i64 (j : Int)] 3)) := (Below.refl _ _).alloc (Nat.le_refl _) _
          exact ⟨h.1.trans (hba.mono h.1.size), fun _ => World.alloc_heap_new w _⟩
        case s1 =>
          intro x37 w h
          have hba : Below w.heap.size w (w.alloc (.cells #[.int .i64 (j : Int)] 3)) := (Below.refl _ _).alloc (Nat.le_refl _) _
          exact ⟨h.1.trans (hba.mono h.1.size), own_below h.2.1 hba, fun _ => World.alloc_heap_new w _⟩
        case c5 => exact fun ms x37 w h => app_one (by omega) h.1 h.2.1 (h.2.2 rfl)
        case c9 => exact fun ms x37 x40 w h => HON.out x40 w h.1 h.2
        intro ms x37 x40 r w' hres
        have HRS : Hid (OnPost W M l pb J Jx wr C' (.slice none 0 0) (((List.range (left + 1)).drop (j + 1)).flatMap (slF p.room d pre left) ++ rem) r w') := hres
        clear hres HON HCL HO hrm2
        cases r with
        | true =>
          go_wp2_with fail
          go_roundw
          case rel =>
            obtain ⟨_, _, hsz, hkp⟩ := HR.out
            obtain ⟨C2, k1, k2, k3, k4⟩ := HRS.out.1 rfl
            refine ⟨j + 1, C2, by omega, by go_num, k1, k2, Nat.le_trans hsz k3, fun b hb hn => ?_⟩
            have h1 := hkp b hb hn
            have h2 := k4 b (by omega) h1.1 (fun e => by cases e)
            exact ⟨h2.1, h2.2.trans h1.2⟩
          case measure => simp [intOf]; omega
        | false =>
          go_wp2_with fail
          go_ret
          exact ⟨false, rfl, (fun h => by cases h), fun _ => HRS.out.2 rfl⟩
      · have hke : (List.range (left + 1)).drop j = [] := List.drop_eq_nil_of_le (by simp; omega)
        rw [hke, List.flatMap_nil, List.nil_append] at hj
        have HX : Hid (OnPost W M l pb J Jx A C (.slice av pre.length cv) rem true wr) := ⟨fun _ => ⟨C', hC, hj, hsz, fun b hb hn _ => hkp b hb hn⟩, fun h => by cases h⟩
        clear hC hj hkp hown0 hnc0 hC0 H hke
        go_wp2_with fail
        refine HK2.out _ _ ?_
        go_wp2_with fail
        go_ret
        exact ⟨true, rfl, HX.out⟩
end
end Go.Proofs.Ytjkhclijmcmdjaa
namespace Go.Proofs.Ytjkhclijmcmdjaa
open Go.RowKit
set_option linter.unusedVariables false
set_option linter.unusedSimpArgs false
theorem slots79 {w : World} {bp : Nat} : Calls Try.prog 79 #[.pointer (some ⟨bp, 0, none⟩)] w fun e w' => e = .returned (.func (.func 98) #[] #[.pointer (some ⟨w.heap.size, 0, none⟩)]) ∧ w' = w.alloc (.cells #[.pointer (some ⟨bp, 0, none⟩)] 71) := by
  have hmf : ∀ (fn : Fn) (first cap : Array Value) (w : World), (Instr.makeFunc fn first cap).run Try.prog w = .ok (.func fn first cap) w := fun _ _ _ _ => rfl
  go_enter Try.func79, Try.ntmps79
  go_wp2
  go_ret
  exact ⟨rfl, rfl⟩
set_option maxRecDepth 100000 in
set_option maxHeartbeats 2000000 in
theorem slots_iter {p : Prs} {A0 : PrsA} {bp pb : Nat} {W : World} {M : Nat → Prop} (hV : p.valid = true)
    (hpress : ∀ A, Same M W A → A.heap[pb]? = some (.cells #[.pointer (some ⟨bp, 0, none⟩)] 71 (0, 0)) ∧ A.heap[bp]? = some (.cells (p.arr A0) 91 (0, 0))) :
    IterL Try.prog 98 #[.pointer (some ⟨pb, 0, none⟩)] p.slots (SlOk W.heap.size) M W := by
  intro l J Jx hJ hJx hY h0
  have hmf : ∀ (fn : Fn) (first cap : Array Value) (w : World), (Instr.makeFunc fn first cap).run Try.prog w = .ok (.func fn first cap) w := fun _ _ _ _ => rfl
  have H : OnH p A0 bp pb l W M J Jx := ⟨hV, hpress, hJ, hY⟩
  obtain ⟨W1, hW1⟩ : ∃ W1 : World, W1 = (W.alloc (.cells #[.func (.yield l) #[] #[]] 139)).alloc (.cells #[selfV pb W.heap.size (W.heap.size + 1)] 140) := ⟨_, rfl⟩
  have hb1 : Below W.heap.size W W1 := by rw [hW1]; exact ((Below.refl _ W).alloc (Nat.le_refl _) _).alloc (by simp) _
  have q0 : W1.heap[W.heap.size]? = some (.cells #[.func (.yield l) #[] #[]] 139 (0, 0)) := by rw [hW1]; exact (Below.heap_alloc _ _ _ (by simp)).trans (World.alloc_heap_new W _)
  have q1 : W1.heap[W.heap.size + 1]? = some (.cells #[selfV pb W.heap.size (W.heap.size + 1)] 140 (0, 0)) := by
    rw [hW1]
    have := World.alloc_heap_new (W.alloc (.cells #[.func (.yield l) #[] #[]] 139)) (.cells #[selfV pb W.heap.size (W.heap.size + 1)] 140)
    rwa [World.size_alloc] at this
  have hz1 := hb1.size
  have hrm := room_of hV
  have hroom : ((p.room.toNat : Nat) : Int) = p.room := by omega
  have hC : OnC W M l pb W1 (fun k => k < W.heap.size) := ⟨Same.of_below _ hb1, q0, q1, fun h => by omega, fun h => by omega, fun k hk => hk, fun k hk => by omega⟩
  have hj : J p.slots W1 (fun k => k < W.heap.size) := hJ _ _ _ _ h0 (Same.of_below _ hb1)
  have HCL : Hid (∀ w2, Below W1.heap.size W1 w2 → Calls Try.prog 99 #[.slice none 0 0, .int .i64 p.room, .pointer (some ⟨pb, 0, none⟩), .pointer (some ⟨W.heap.size, 0, none⟩), .pointer (some ⟨W.heap.size + 1, 0, none⟩)] w2 fun e A' => ∃ r, e = .returned (.bool r) ∧ OnPost W M l pb J Jx w2 (fun k => k < W.heap.size) (.slice none 0 0) [] r A') := fun w2 hb2 => by
    have h := callsIn_wide.1 (on_any H p.wanted.length [] p.room.toNat [] w2 (fun k => k < W.heap.size) (.slice none 0 0) (by simp) (by omega) (hC.below hb2) (World.ownsRow_nil w2 _ _ _) (fun g hg => by cases hg) (by rw [List.append_nil]; exact H.jb hj hb2))
    rw [hroom] at h
    exact h
  have HP : Hid (∀ v, Below W1.heap.size W1 v → v.cell? ⟨pb, 0, none⟩ = some (.pointer (some ⟨bp, 0, none⟩)) ∧ v.cell? ⟨bp, 0, none⟩ = some (.int .i64 p.room) ∧ v.cell? ⟨W.heap.size + 1, 0, none⟩ = some (selfV pb W.heap.size (W.heap.size + 1))) := fun v hb => by
    have h := hpress v (Same.of_below _ (hb1.trans (hb.mono hz1)))
    exact ⟨by rw [cell_of_heap h.1]; rfl, (prs_cells h.2).c0, by rw [cell_of_heap ((hb.block _ (heap_lt q1)).trans q1)]; rfl⟩
  have HW1 := Lib.hid hW1
  clear hj hC q0 q1 hb1 hW1 H hY h0 hJ hJx hz1 hpress hroom
  refine callsIn_wide.2 ?_
  go_enter Try.func98, Try.ntmps98
  refine wp_seq_hid ?_
  intro K0 HK0
  go_wp2_with fail
  refine HK0.out _ _ ?_
  clear HK0 K0
  refine wp_seq_hid ?_
  intro K1 HK1
  go_wp2_with fail
  refine HK1.out _ _ ?_
  clear HK1 K1
  refine wp_seq_hid ?_
  intro K2 HK2
  go_wp2_with fail
  refine HK2.out _ _ ?_
  clear HK2 K2
  have hW1 := HW1.out
  rw [← hW1]
  clear hW1
  have Y1 := fun y : Aft W1.heap.size W1 => (HP.out y.v y.h).1
  have Y2 := fun y : Aft W1.heap.size W1 => (HP.out y.v y.h).2.1
  have Y3 := fun y : Aft W1.heap.size W1 => (HP.out y.v y.h).2.2
  refine wp_region_aft_tail 6 mixed (by kernel_rfl) ?_
  simp only [List.take_succ_cons, List.take_zero, List.drop_succ_cons, List.drop_zero]
  repeat (go_big_quiet_step (fail))
  refine wpQuiet_nil ?_
  rintro _ ⟨y, rfl⟩
  have HC := Lib.hid (HCL.out y.v y.h)
  clear Y1 Y2 Y3 HCL HP
  go_wp2_with fail
  refine HC.out.mono ?_
  rintro e W' ⟨r, rfl, h1, h2⟩
  have HR := Lib.hid (And.intro h1 h2)
  clear h1 h2
  go_wp2_with fail
  go_end0
  refine ⟨⟨_, rfl⟩, ?_⟩
  cases r with
  | true =>
    obtain ⟨C', _, h, _⟩ := HR.out.1 rfl
    exact ⟨C', .inl h⟩
  | false =>
    obtain ⟨C', i, h⟩ := HR.out.2 rfl
    exact ⟨C', .inr ⟨i, h⟩⟩
end Go.Proofs.Ytjkhclijmcmdjaa
namespace Go.Proofs.Ytjkhclijmcmdjaa
open Go.RowKit
set_option linter.unusedVariables false
set_option linter.unusedSimpArgs false
theorem wpListIn_append_run {P : Program} {l n : Nat} {w : World} {ops : Array Oper} {rest : List Oper} {o : Oper} {a : Act} {Q : Exit → Act → World → Prop} (hgd : o.guard = none) (s x : Operand) (t : TypeId)
    (ho : o.op = .call { callee := .builtin .append, args := #[s, x], argTypes := #[t, t] }) (v xv v' : Value) (w' : World) (hs : a.eval s = v) (hx : a.eval x = xv)
    (hr : (Builtin.append_ #[t, t] o.type #[v, xv]).run P w = .ok v' w') (h : wpListIn (Fence.wide.inRound l) n P ops Q rest (a.put o.dst v') w') : wpListIn (Fence.wide.inRound l) n P ops Q (o :: rest) a w := by
  unfold wpListIn
  rw [if_pos (by simp [Region.wanted, hgd])]
  refine ⟨fun _ _ => trivial, ?_⟩
  have e : o.semAt (Fence.wide.inRound l).round a.eval = execOp a.eval o := Oper.semAt_some _ _ _ (fun c hc => by rw [ho] at hc; cases hc)
  rw [e]
  unfold execOp
  simp only [ho, resolve, invoke, builtin, Sem.run_bind, Sem.run_pure, Result.andThen_ok, List.map_toArray, List.map_cons, List.map_nil, hs, hx, hr]
  exact h
theorem infoR : (Try.prog.info? 24).map (fun i => (i.zero, i.size, i.bytes)) = some (some (.slice none 0 0), 1, 24) := by kernel_rfl
/-- Slices that each own a list. -/
def RowsOf (w : World) (B : Nat) (vs : List Value) (l : List (List Int)) : Prop := vs.length = l.length ∧ ∀ (i : Nat) (x : List Int), l[i]? = some x → ∃ vc, vs[i]? = some vc ∧ w.ownsRow B 3 1 vc x.length (x.map (Value.int .i64))
/-- What has been collected. -/
structure ColI (w0 : World) (B1 tb : Nat) (dn : List (List Int)) (A : World) (C : Nat → Prop) : Prop where
  below : Below w0.heap.size w0 A
  ctb : C tb
  ex : ∃ (v : Value) (vs : List Value), A.heap[tb]? = some (.cells #[v] 115 (0, 0)) ∧ A.ownsRow B1 24 1 v dn.length vs ∧ RowsOf A B1 vs dn ∧ (∀ g, v.ownBlock = some g → C g) ∧ ∀ vc ∈ vs, ∀ g, vc.ownBlock = some g → C g
/-- Marks that are taken lie elsewhere. -/
theorem own_still {w w' : World} {B n0 : Nat} {e : TypeId} {s n : Nat} {v : Value} {xs : List Value} (h : w.ownsRow B e s v n xs) (hs : Same (fun k => n0 ≤ k ∧ w.heap[k]? = some (.deferred (some []))) w w') : w'.ownsRow B e s v n xs := by
  refine own_blocks h (fun g hg => hs.block g (h.lt g hg).2 (fun hd => ?_))
  rcases h.2 with ⟨rfl, _⟩ | ⟨g', cap, cur, rfl, _, hh, _⟩
  · cases hg
  · simp only [Value.ownBlock, Option.some.injEq] at hg
    subst hg
    rw [hh] at hd
    cases hd.2
theorem RowsOf.blocks {w w' : World} {B : Nat} {vs : List Value} {l : List (List Int)} (h : RowsOf w B vs l) (hk : ∀ vc ∈ vs, ∀ g, vc.ownBlock = some g → w'.heap[g]? = w.heap[g]?) : RowsOf w' B vs l :=
  ⟨h.1, fun i x hx => by
    obtain ⟨vc, h1, h2⟩ := h.2 i x hx
    exact ⟨vc, h1, own_blocks h2 (hk vc (List.mem_of_getElem? h1))⟩⟩
theorem rows_lt {w : World} {B : Nat} {vs : List Value} {l : List (List Int)} (h : RowsOf w B vs l) {vc : Value} (hv : vc ∈ vs) {g : Nat} (hg : vc.ownBlock = some g) : B ≤ g ∧ g < w.heap.size := by
  obtain ⟨i, hi, rfl⟩ := List.getElem_of_mem hv
  have hi' : i < l.length := by rw [← h.1]; exact hi
  obtain ⟨vc', h1, h2⟩ := h.2 i _ (List.getElem?_eq_getElem hi')
  rw [List.getElem?_eq_getElem hi] at h1
  cases h1
  exact h2.lt g hg
/-- Stays while others' blocks are written, and the loop's own. -/
theorem ColI.stable {w0 : World} {B1 tb lb : Nat} {dn : List (List Int)} {A B : World} {C : Nat → Prop} (h : ColI w0 B1 tb dn A C) (hs : Same (fun k => k = lb) A B) (hl1 : lb < B1) (hl2 : lb ≠ tb) (hl3 : w0.heap.size ≤ lb) (hC : ∀ k, k < B1 → C k) (hB : w0.heap.size ≤ B1) : ColI w0 B1 tb dn B C := by
  obtain ⟨h1, h2, v, vs, h3, h4, h5, h6, h7⟩ := h
  refine ⟨h1.trans (hs.below h1.size (fun k hk e => ?_)), h2, v, vs, (hs.block tb (heap_lt h3) (fun e => ?_)).trans h3, own_blocks h4 (fun g hg => hs.block g (h4.lt g hg).2 (fun e => ?_)), h5.blocks (fun vc hvc g hg => hs.block g (rows_lt h5 hvc hg).2 (fun e => ?_)), h6, h7⟩
  · omega
  · exact hl2 e.symm
  · have := (h4.lt g hg).1; omega
  · have := (rows_lt h5 hvc hg).1; omega
/-- One way more is collected. -/
theorem ColI.more {w0 : World} {B1 tb lb : Nat} {dn : List (List Int)} {V : World} {C : Nat → Prop} {x : List Int} {vc : Value} (h : ColI w0 B1 tb dn V C) (hvc : V.ownsRow B1 3 1 vc x.length (x.map (Value.int .i64))) (hi : dn.length ≤ 1000000) (htb : tb < B1) (hl1 : lb < B1) (hl2 : lb ≠ tb) (hw0 : w0.heap.size ≤ tb) (hB1 : B1 ≤ V.heap.size) (hlbV : lb < V.heap.size) :
    ∃ v v' w', V.cell? ⟨tb, 0, none⟩ = some v ∧ (∃ a c, v = .slice a dn.length c) ∧ (Builtin.append_ #[115, 115] 115 #[v, .slice (some ⟨V.heap.size, 0, none⟩) 1 1]).run Try.prog (V.alloc (.cells #[vc] 24)) = .ok v' w' ∧ (∃ a c, v' = .slice a (dn.length + 1) c) ∧ (∃ u, w'.cell? ⟨tb, 0, none⟩ = some u) ∧ w'.frozen? ⟨tb, 0, none⟩ = false ∧
      Same (fun k => C k ∧ (k < B1 → k = tb)) V (w'.setCell ⟨tb, 0, none⟩ v') ∧ (w'.setCell ⟨tb, 0, none⟩ v').heap[lb]? = V.heap[lb]? ∧
      ColI w0 B1 tb (dn ++ [x]) (w'.setCell ⟨tb, 0, none⟩ v') (fun k => (C k ∨ vc.ownBlock = some k ∨ V.heap.size ≤ k) ∧ k < (w'.setCell ⟨tb, 0, none⟩ v').heap.size) := by
  obtain ⟨i0, hi0, hz0, hz1, hz2⟩ := info_parts infoR
  obtain ⟨h1, h2, v, vs, h3, h4, h5, h6, h7⟩ := h
  have hone : vc.oneCell' = true := by
    rcases hvc.2 with ⟨rfl, _⟩ | ⟨g, cap, cur, rfl, _⟩ <;> rfl
  have hV1 := World.alloc_heap_new V (.cells #[vc] 24)
  obtain ⟨v', w', hr, hn, hg, hor, _⟩ := append_keep (P := Try.prog) (w := V.alloc (.cells #[vc] 24)) B1 115 115 24 i0 _ 24 Try.underlying115 hi0 hz0 hz1 hz2 rfl v dn.length vs (own_blocks h4 (fun g hg => Below.heap_alloc _ _ _ (h4.lt g hg).2)) ⟨V.heap.size, 0, none⟩ vc (by rw [cell_of_heap hV1]; rfl) hone (by simp [maxLen]; omega) (by omega) (by simp; omega)
  have hrow : ∀ k, v.ownBlock = some k → B1 ≤ k ∧ k < V.heap.size := fun k hk => h4.lt k hk
  have hVw : V.heap.size < w'.heap.size := by have := hg.size; simp at this; omega
  have htbV := heap_lt h3
  have hk1 : ∀ k, k < V.heap.size → v.ownBlock ≠ some k → w'.heap[k]? = V.heap[k]? := fun k hk hne => (hg.block k (by simp; omega) (fun e => hne e.symm)).trans (Below.heap_alloc _ _ _ hk)
  have htbn : v.ownBlock ≠ some tb := fun e => by have := (hrow _ e).1; omega
  have hlbn : v.ownBlock ≠ some lb := fun e => by have := (hrow _ e).1; omega
  have htb' := (hk1 tb htbV htbn).trans h3
  have hk2 : ∀ k, k < V.heap.size → v.ownBlock ≠ some k → k ≠ tb → (w'.setCell ⟨tb, 0, none⟩ v').heap[k]? = V.heap[k]? := fun k hk hne hkt => (Below.heap_setCell _ _ _ _ hkt).trans (hk1 k hk hne)
  have hrow' : ∀ k, v'.ownBlock = some k → B1 ≤ k ∧ k < w'.heap.size := fun k hk => hn.lt k hk
  refine ⟨v, v', w', by rw [cell_of_heap h3]; rfl, ?_, hr, ?_, ⟨_, by rw [cell_of_heap htb']; rfl⟩, frozen_of_heap htb', ?_, hk2 lb hlbV hlbn hl2, ?_⟩
  · obtain ⟨a, c, e, _⟩ := own_slice h4; exact ⟨a, c, e⟩
  · obtain ⟨a, c, e, _⟩ := own_slice hn; exact ⟨a, c, e⟩
  · have hs : Same (fun k => C k ∧ (k < B1 → k = tb)) V w' := by
      have hg' : Same (fun k => C k ∧ (k < B1 → k = tb)) V (V.alloc (.cells #[vc] 24)) := (Same.refl _ V).alloc _
      exact hg'.grown hg (fun k hk => .inl ⟨h6 k hk, fun h => by have := (hrow k hk).1; omega⟩)
    exact hs.setCell (.inl ⟨h2, fun _ => rfl⟩) _
  · have hb0 : Below w0.heap.size w0 (w'.setCell ⟨tb, 0, none⟩ v') := by
      have hb : Below w0.heap.size w0 w' := ((h1.alloc (by omega) (.cells #[vc] 24))).grown hg (by simp; omega) (fun k hk => by have := (hrow k hk).1; omega)
      exact hb.setCell (by show w0.heap.size ≤ tb; omega) _
    refine ⟨hb0, ⟨.inl h2, by simp; omega⟩, v', vs ++ [vc], heap_setCell_at htb' _, ?_, ?_, ?_, ?_⟩
    · have e1 : (dn ++ [x]).length = dn.length + 1 := by simp
      rw [e1]
      exact own_blocks hn (fun g hg' => Below.heap_setCell _ _ _ _ (fun e => by have e' : g = tb := e; have := (hrow' g hg').1; omega))
    · have hl5 : vs.length = dn.length := h5.1
      refine ⟨by simp [h5.1], fun j y hy => ?_⟩
      rcases Nat.lt_trichotomy j vs.length with hj | hj | hj
      · rw [List.getElem?_append_left (by rw [← h5.1]; exact hj)] at hy
        obtain ⟨c', hc1, hc2⟩ := h5.2 j y hy
        refine ⟨c', by rw [List.getElem?_append_left hj]; exact hc1, own_blocks hc2 (fun g hg' => hk2 g (hc2.lt g hg').2 (own_apart hc2 h4 (by decide) g hg') (fun e => by have := (hc2.lt g hg').1; omega))⟩
      · have hj2 : j = dn.length := by rw [← h5.1]; exact hj
        rw [hj2, List.getElem?_append_right (Nat.le_refl _)] at hy
        simp at hy
        subst hy
        refine ⟨vc, by rw [hj]; simp, own_blocks hvc (fun g hg' => hk2 g (hvc.lt g hg').2 (own_apart hvc h4 (by decide) g hg') (fun e => by have := (hvc.lt g hg').1; omega))⟩
      · rw [List.getElem?_eq_none (by simp [← h5.1]; omega)] at hy
        cases hy
    · intro g hg'
      have hsz : (w'.setCell ⟨tb, 0, none⟩ v').heap.size = w'.heap.size := by simp
      refine ⟨?_, by have := (hrow' g hg').2; omega⟩
      rcases hor with e | e
      · rw [e] at hg'
        exact .inl (h6 g hg')
      · rw [e] at hg'
        cases hg'
        exact .inr (.inr (by simp))
    · intro c' hc' g hg'
      rcases List.mem_append.1 hc' with hc' | hc'
      · refine ⟨.inl (h7 c' hc' g hg'), by have := (rows_lt h5 hc' hg').2; simp; omega⟩
      · rw [List.mem_singleton.1 hc'] at hg'
        exact ⟨.inr (.inl hg'), by have := (hvc.lt g hg').2; simp; omega⟩
end Go.Proofs.Ytjkhclijmcmdjaa
namespace Go.Proofs.Ytjkhclijmcmdjaa
open Go.RowKit
set_option linter.unusedVariables false
set_option linter.unusedSimpArgs false
theorem flatMap_le {α β : Type} (f : α → List β) (b : Nat) : ∀ (l : List α), (∀ x ∈ l, (f x).length ≤ b) → (l.flatMap f).length ≤ l.length * b
  | [], _ => by simp
  | x :: l, h => by
    have h1 := h x (by simp)
    have h2 := flatMap_le f b l (fun y hy => h y (by simp [hy]))
    rw [List.flatMap_cons, List.length_append, List.length_cons, Nat.add_mul]
    omega
theorem slotsF_le (room : Int) : ∀ (d : Nat) (pre : List Int) (left : Nat), left ≤ 6 → (slotsF room d pre left).length ≤ 7 ^ d
  | 0, pre, left, _ => by unfold slotsF; split <;> simp
  | d + 1, pre, left, h => by
    rw [slotsF_succ]
    have h1 := flatMap_le (slF room d pre left) (7 ^ d) (List.range (left + 1)) (fun n _ => slotsF_le room d _ _ (by omega))
    rw [List.length_range] at h1
    rw [Nat.pow_succ]
    have h2 : (left + 1) * 7 ^ d ≤ 7 * 7 ^ d := Nat.mul_le_mul_right _ (by omega)
    rw [Nat.mul_comm (7 ^ d) 7]
    omega
theorem slots_len {p : Prs} (hV : p.valid = true) : p.slots.length ≤ 2401 := by
  have h1 := room_of hV
  have h2 := wanted_of hV
  have h3 := slotsF_le p.room p.wanted.length [] p.room.toNat (by omega)
  have h4 : 7 ^ p.wanted.length ≤ 7 ^ 4 := Nat.pow_le_pow_right (by omega) h2.2
  show (slotsF p.room p.wanted.length [] p.room.toNat).length ≤ 2401
  omega
attribute [local go_sem] Oper.semAt_some
set_option maxRecDepth 100000 in
set_option maxHeartbeats 4000000 in
theorem appendSeq97 {p : Prs} {A0 : PrsA} {bp pb : Nat} {w : World} (hV : p.valid = true) (hpb : w.heap[pb]? = some (.cells #[.pointer (some ⟨bp, 0, none⟩)] 71 (0, 0))) (hP : w.heap[bp]? = some (.cells (p.arr A0) 91 (0, 0))) :
    Calls Try.prog 97 #[.slice none 0 0, .func (.func 98) #[] #[.pointer (some ⟨pb, 0, none⟩)]] w fun e w' => ∃ v vs, e = .returned v ∧ w'.ownsRow w.heap.size 24 1 v p.slots.length vs ∧ RowsOf w' w.heap.size vs p.slots ∧ Below w.heap.size w w' := by
  have hN := slots_len hV
  obtain ⟨W1, hW1⟩ : ∃ W1 : World, W1 = w.alloc (.cells #[.slice none 0 0] 115) := ⟨_, rfl⟩
  have hb1 : Below w.heap.size w W1 := by rw [hW1]; exact (Below.refl _ w).alloc (Nat.le_refl _) _
  have q0 : W1.heap[w.heap.size]? = some (.cells #[.slice none 0 0] 115 (0, 0)) := by rw [hW1]; exact World.alloc_heap_new w _
  have hz1 : W1.heap.size = w.heap.size + 1 := by rw [hW1]; simp
  have HPP : Hid (∀ V, Below w.heap.size w V → V.heap[pb]? = some (.cells #[.pointer (some ⟨bp, 0, none⟩)] 71 (0, 0)) ∧ V.heap[bp]? = some (.cells (p.arr A0) 91 (0, 0))) := fun V hb => ⟨(hb.block _ (heap_lt hpb)).trans hpb, (hb.block _ (heap_lt hP)).trans hP⟩
  have HV := Lib.hid (And.intro hV (And.intro hb1 (And.intro q0 hN)))
  have HW1 := Lib.hid hW1
  have HZ1 := Lib.hid hz1
  clear hW1 hb1 q0 hpb hP hV hz1 hN
  refine calls_of_wp_marks Try.func97 rfl ?_
  simp only [Try.ntmps97, List.size_toArray, List.length_cons, List.length_nil, Nat.reduceAdd, Nat.reduceSub, Array.replicate_succ, Array.replicate_zero, List.push_toArray, List.append_toArray, List.nil_append, List.cons_append]
  go_wp2_with fail
  have hW1 := HW1.out
  rw [← hW1]
  clear hW1
  have hz1 := HZ1.out
  refine wp_rangeFuncL (gf := 98) (lb := #[.pointer (some ⟨pb, 0, none⟩)]) rfl (fun args w => by simp [callFunc, Try.func98, Try.f98, go_sem]) p.slots (SlOk (W1.heap.size + 2)) (fun q => q = w.heap.size ∨ q = W1.heap.size + 1) ?hps (by omega) (by omega) ?hit
    (fun rem A C => ∃ dn, p.slots = dn ++ rem ∧ ColI w (W1.heap.size + 2) w.heap.size dn A C ∧ ∀ k, k < W1.heap.size + 2 → C k) (fun _ _ _ _ => False) ?hI ?hIx ?h0 ?hround ?hdone ?hstop
  case hps =>
    rintro x v A K ⟨vc, rfl, _⟩
    rfl
  case hit =>
    intro W hb hsz
    rw [← hsz]
    refine slots_iter (A0 := A0) HV.out.1 (fun A hA => HPP.out A ?_)
    have hbW : Below w.heap.size w W := HV.out.2.1.trans (hb.mono (by omega))
    refine hbW.trans (hA.below (by have := hbW.size; omega) (fun k hk e => ?_))
    rcases e with e | e <;> omega
  case hI =>
    rintro i A B C ⟨dn, h1, h2, h3⟩ hs
    exact ⟨dn, h1, h2.stable hs (by omega) (by omega) (by omega) h3 (by omega), h3⟩
  case hIx =>
    intro c i A B C h _
    exact h
  case h0 =>
    intro W hb hsz
    exact ⟨[], rfl, ⟨HV.out.2.1.trans (hb.mono (by omega)), by omega, _, [], (hb.block _ (by omega)).trans HV.out.2.2.1, World.ownsRow_nil W _ _ _, ⟨rfl, fun i x hx => by simp at hx⟩, (fun g hg => by cases hg), (fun c hc => by cases hc)⟩, fun k hk => hk⟩
  case hround =>
    rintro x i v W C K ⟨vc, rfl, hvc, rfl⟩ hKC hC ⟨dn, hdn, hcol, hC0⟩ hlt
    obtain ⟨av, cv, rfl, _⟩ := own_slice hvc
    clear hC0
    have HH := Lib.hid (And.intro hdn (And.intro hvc (And.intro hKC (And.intro hC (And.intro hcol hlt)))))
    clear hdn hvc hKC hC hcol hlt
    clear hz1
    gi_wp2_with fail
    refine fun V2 hS2 hsz2 => ?_
    have hz1 := HZ1.out
    obtain ⟨hdn, hvc, hKC, hC, hcol, hlt⟩ := HH.out
    have hN := HV.out.2.2.2
    have hdl : dn.length ≤ 1000000 := by have := congrArg List.length hdn; rw [List.length_append] at this; omega
    have hcol2 := hcol.stable hS2 (by omega) (by omega) (by omega) hC (by omega)
    have hvc2 : V2.ownsRow (W1.heap.size + 2) 3 1 (.slice av x.length cv) x.length (x.map (Value.int .i64)) := own_blocks hvc (fun g hg => hS2.block g (hvc.lt g hg).2 (by have := (hvc.lt g hg).1; omega))
    obtain ⟨v, v', w', m1, ⟨a1, c1, rfl⟩, m3, ⟨a2, c2, rfl⟩, ⟨u, m4⟩, m5, m6, m7, m8⟩ := hcol2.more hvc2 hdl (by omega) (by omega : W1.heap.size + 1 < W1.heap.size + 2) (by omega) (Nat.le_refl _) (by omega) (by omega)
    have HM := Lib.hid (And.intro m3 (And.intro m6 (And.intro m7 m8)))
    have HH3 : Hid (W1.heap.size + 2 ≤ V2.heap.size) := Lib.hid (by omega)
    have HH2 := Lib.hid (And.intro hS2 (And.intro hsz2 (And.intro hC (And.intro hKC hdn))))
    clear hdn hvc hKC hC hcol hlt hN hcol2 hvc2 m3 m6 m7 m8 hS2 hsz2 HH hz1 hdl
    gi_wp2_with (guard_target =~ wpListIn _ _ _ _ _ (List.cons (Oper.mk (some 11) _ _ _ _ _) _) _ _; refine wpListIn_append_run rfl (.tmp 8) (.tmp 10) 115 rfl _ _ _ _ rfl rfl HM.out.1 ?_)
    obtain ⟨hS2, hsz2, hC, hKC, hdn⟩ := HH2.out
    refine ⟨HM.out.2.1.mono (fun k _ e => ⟨e.1, fun h => .inl (e.2 h)⟩), HM.out.2.2.1, _, fun k hk => ⟨.inl (hC k hk), ?_⟩, fun k hk => hk.2, fun k hk => hk.1, dn ++ [x], by rw [hdn]; simp, HM.out.2.2.2, fun k hk => ⟨.inl (hC k hk), ?_⟩⟩ <;>
    · have := HM.out.2.1.size
      have := HH3.out
      omega
  case hdone =>
    rintro W C ⟨dn, hdn, ⟨h1, h2, v, vs, h3, h4, h5, h6, h7⟩, hC⟩ hdef
    rw [List.append_nil] at hdn
    rw [← hdn] at h4 h5
    have hc : W.cell? ⟨w.heap.size, 0, none⟩ = some v := by rw [cell_of_heap h3]; rfl
    have HF := Lib.hid (And.intro h1 (And.intro h3 (And.intro h4 (And.intro h5 hdef))))
    clear h1 h2 h3 h4 h5 h6 h7 hdef hz1 hdn
    go_wp2_with fail
    obtain ⟨h1, h3, h4, h5, hdef⟩ := HF.out
    have hz1 := HZ1.out
    refine leaves_marks (n := w.heap.size) [W1.heap.size] W (by simp) (fun k hk => ?_) (fun W' hs hsz => ⟨results_tmp rfl _ _ _, v, vs, rfl, ?_, ?_, ?_⟩)
    · rw [List.mem_singleton] at hk
      subst hk
      exact ⟨by omega, hdef⟩
    · exact own_base (own_still h4 hs) (by omega)
    · exact ⟨h5.1, fun i x hx => by
        obtain ⟨vc, e1, e2⟩ := h5.2 i x hx
        exact ⟨vc, e1, own_base (own_still e2 hs) (by omega)⟩⟩
    · exact h1.trans (hs.below h1.size (fun k hk e => by have := e.1; omega))
  case hstop =>
    intro c i W C h
    exact h.elim
theorem collect78 {p : Prs} {A0 : PrsA} {bp pb : Nat} {w : World} (hV : p.valid = true) (hpb : w.heap[pb]? = some (.cells #[.pointer (some ⟨bp, 0, none⟩)] 71 (0, 0))) (hP : w.heap[bp]? = some (.cells (p.arr A0) 91 (0, 0))) :
    Calls Try.prog 78 #[.func (.func 98) #[] #[.pointer (some ⟨pb, 0, none⟩)]] w fun e w' => ∃ v vs, e = .returned v ∧ w'.ownsRow w.heap.size 24 1 v p.slots.length vs ∧ RowsOf w' w.heap.size vs p.slots ∧ Below w.heap.size w w' := by
  have HC := Lib.hid (appendSeq97 hV hpb hP)
  clear hpb hP
  go_enter Try.func78, Try.ntmps78
  go_wp2_with fail
  refine HC.out.mono ?_
  rintro e w' ⟨v, vs, rfl, h1, h2, h3⟩
  have HR := Lib.hid (And.intro h1 (And.intro h2 h3))
  clear h1 h2 h3
  go_wp2_with fail
  go_ret
  exact ⟨v, vs, rfl, HR.out⟩
end Go.Proofs.Ytjkhclijmcmdjaa
namespace Go.Proofs.Ytjkhclijmcmdjaa
open Go.RowKit
set_option linter.unusedVariables false
set_option linter.unusedSimpArgs false
/-- Where the slots of formes lie, and how much room there is. -/
abbrev Row := Option Addr × Nat
/-- A plan's formes, cell by cell. -/
def fmC : List Fme → List Row → List Value
  | f :: x, r :: rs => .slice r.1 f.slots.length r.2 :: .int .i64 f.times :: fmC x rs
  | _, _ => []
theorem fmC_at : ∀ {x : List Fme} {rs : List Row} {i : Nat}, rs.length = x.length → i < x.length → ∃ r, rs[i]? = some r ∧ (fmC x rs)[i * 2]? = some (.slice r.1 (gf x i).slots.length r.2) ∧ (fmC x rs)[i * 2 + 1]? = some (.int .i64 (gf x i).times)
  | f :: x, r :: rs, 0, _, _ => ⟨r, rfl, rfl, rfl⟩
  | f :: x, r :: rs, i + 1, h, hi => by
    obtain ⟨q, h1, h2, h3⟩ := fmC_at (x := x) (rs := rs) (i := i) (by simpa using h) (by simpa using hi)
    have e1 : (i + 1) * 2 = i * 2 + 1 + 1 := by omega
    have e2 : gf (f :: x) (i + 1) = gf x i := by simp [gf]
    refine ⟨q, by simpa using h1, ?_, ?_⟩
    · rw [e1, e2]; simpa [fmC] using h2
    · rw [e1, e2]; simpa [fmC] using h3
  | [], _, _, _, hi => by simp at hi
  | f :: x, [], _, h, _ => by simp at h
/-- A plan in memory: its block, and where its formes' slots lie. -/
structure PlM (A : World) (g : Nat) (x : List Fme) (rs : List Row) : Prop where
  h : A.heap[g]? = some (.cells (fmC x rs).toArray 29 (0, 0))
  len : rs.length = x.length
  slots : ∀ i r, rs[i]? = some r → IsInts A r.1 (gf x i).slots
theorem PlM.fmes {A : World} {g : Nat} {x : List Fme} {rs : List Row} (h : PlM A g x rs) : IsFmes A (some ⟨g, 0, none⟩) x := fun i hi => by
  obtain ⟨r, h1, h2, h3⟩ := fmC_at h.len hi
  refine ⟨g, 0, rfl, r.1, r.2, ?_, ?_, h.slots i r h1⟩
  · rw [Nat.zero_add, cell_of_heap h.h, List.getElem?_toArray]; exact h2
  · rw [Nat.zero_add, cell_of_heap h.h, List.getElem?_toArray]; exact h3
theorem PlM.mono {A B : World} {g : Nat} {x : List Fme} {rs : List Row} (h : PlM A g x rs) (hb : Below A.heap.size A B) : PlM B g x rs :=
  ⟨(hb.block _ (heap_lt h.h)).trans h.h, h.len, fun i r hr => (h.slots i r hr).mono hb⟩
/-- Numbers in a block that is not an elder one. -/
def IsIntsB (B : Nat) (A : World) (a : Option Addr) (s : List Int) : Prop := IsInts A a s ∧ ∀ b o, a = some ⟨b, o, none⟩ → B ≤ b
theorem IsIntsB.mono {B : Nat} {A A' : World} {a : Option Addr} {s : List Int} (h : IsIntsB B A a s) (hb : Below A.heap.size A A') : IsIntsB B A' a s := ⟨h.1.mono hb, h.2⟩
theorem IsIntsB.le {B B' : Nat} {A : World} {a : Option Addr} {s : List Int} (h : IsIntsB B A a s) (hB : B' ≤ B) : IsIntsB B' A a s := ⟨h.1, fun b o e => Nat.le_trans hB (h.2 b o e)⟩
theorem ints_lt {w : World} {b o : Nat} {l : List Int} (h : IsInts w (some ⟨b, o, none⟩) l) (hl : 0 < l.length) : b < w.heap.size := by
  obtain ⟨b', o', he, h0⟩ := h 0 hl
  cases he
  exact lt_of_cell h0
/-- Blocks that stay as they are. -/
def FixF (F : Nat → Option Obj) (A : World) : Prop := ∀ k o, F k = some o → A.heap[k]? = some o
/-- What is handed over: a plan, its list in a block of its own. -/
def PlOk (p : Prs) (B0 : Nat) (x : List Fme) (v : Array Value) (A : World) (K : Nat → Prop) : Prop :=
  (x = [] ∧ v = #[.agg #[.slice none 0 0, .int .i64 0]] ∧ K = fun _ => False) ∨
  ∃ g rs, v = #[.agg #[.slice (some ⟨g, 0, none⟩) x.length x.length, .int .i64 (p.cost x)]] ∧ PlM A g x rs ∧ B0 ≤ g ∧ (∀ r ∈ rs, ∀ b o, r.1 = some ⟨b, o, none⟩ → B0 ≤ b ∧ b ≠ g) ∧ K = fun k => k = g
structure PlC (W : World) (M : Nat → Prop) (F : Nat → Option Obj) (A : World) (C : Nat → Prop) : Prop where
  same : Same M W A
  fix : ∀ k o, F k = some o → A.heap[k]? = some o ∧ ¬ C k
  old : ∀ k, k < W.heap.size → C k
  bd : ∀ k, C k → k < A.heap.size
theorem PlC.below {W : World} {M : Nat → Prop} {F : Nat → Option Obj} {A B : World} {C : Nat → Prop} (h : PlC W M F A C) (hb : Below A.heap.size A B) : PlC W M F B C :=
  ⟨h.same.trans (Same.of_below _ hb), fun k o hk => ⟨(hb.block _ (heap_lt (h.fix k o hk).1)).trans (h.fix k o hk).1, (h.fix k o hk).2⟩, h.old, fun k hk => Nat.lt_of_lt_of_le (h.bd k hk) hb.size⟩
theorem PlC.fixF {W : World} {M : Nat → Prop} {F : Nat → Option Obj} {A : World} {C : Nat → Prop} (h : PlC W M F A C) : FixF F A := fun k o hk => (h.fix k o hk).1
/-- One block more stays as it is. -/
theorem PlC.add {W : World} {M : Nat → Prop} {F : Nat → Option Obj} {A : World} {C : Nat → Prop} (h : PlC W M F A C) {b : Nat} {o : Obj} (hb : A.heap[b]? = some o) (hc : ¬ C b) : PlC W M (fun k => if k = b then some o else F k) A C :=
  ⟨h.same, fun k o' hk => by
    split at hk
    · next e => subst e; cases hk; exact ⟨hb, hc⟩
    · exact h.fix k o' hk, h.old, h.bd⟩
theorem PlC.drop {W : World} {M : Nat → Prop} {F : Nat → Option Obj} {A : World} {C : Nat → Prop} {b : Nat} {o : Obj} (h : PlC W M (fun k => if k = b then some o else F k) A C) (hF : F b = none) : PlC W M F A C :=
  ⟨h.same, fun k o' hk => by
    refine h.fix k o' ?_
    show (if k = b then some o else F k) = some o'
    split
    · next e => subst e; rw [hF] at hk; cases hk
    · exact hk, h.old, h.bd⟩
section
variable {p : Prs} {A0 : PrsA} {bp b1 l : Nat} {W : World} {M : Nat → Prop} {J Jx : List (List Fme) → World → (Nat → Prop) → Prop}
/-- What the walk over all plans is given. -/
structure PlH (p : Prs) (A0 : PrsA) (bp b1 l : Nat) (W : World) (M : Nat → Prop) (J Jx : List (List Fme) → World → (Nat → Prop) → Prop) : Prop where
  hV : p.valid = true
  press : ∀ A, Same M W A → A.cell? ⟨b1, 0, none⟩ = some (.pointer (some ⟨bp, 0, none⟩)) ∧ IsPress A p A0 bp
  hJ : ∀ i A B C, J i A C → Same (fun _ => False) A B → J i B C
  hY : ∀ x i v A C K, PlOk p W.heap.size x v A K → (∀ k, K k → ¬ C k) → J (x :: i) A C → YieldAt Fence.wide 0 Try.prog l v A fun e B => Same (mayC M W.heap.size C) A B ∧
      ∃ C' : Nat → Prop, (∀ k, k < W.heap.size → C' k) ∧ (∀ k, C' k → k < B.heap.size) ∧ (∀ k, C' k → C k ∨ K k ∨ A.heap.size ≤ k) ∧ ((e = .returned (.bool true) ∧ J i B C') ∨ (e = .returned (.bool false) ∧ Jx i B C'))
theorem PlH.jb (H : PlH p A0 bp b1 l W M J Jx) {i : List (List Fme)} {A B : World} {C : Nat → Prop} (h : J i A C) (hb : Below A.heap.size A B) : J i B C := H.hJ _ _ _ _ h (Same.of_below _ hb)
/-- How a plan that is handed over is taken. -/
def PlPost (W : World) (M : Nat → Prop) (F : Nat → Option Obj) (J Jx : List (List Fme) → World → (Nat → Prop) → Prop) (rem : List (List Fme)) (r : Bool) (B : World) : Prop :=
  (r = true → ∃ C' : Nat → Prop, PlC W M F B C' ∧ J rem B C') ∧ (r = false → ∃ (C' : Nat → Prop) (i : List (List Fme)), Jx i B C')
theorem yield_plan (H : PlH p A0 bp b1 l W M J Jx) {x : List Fme} {rem : List (List Fme)} {v : Value} {F : Nat → Option Obj} {A : World} {C K : Nat → Prop} (hC : PlC W M F A C) (hok : PlOk p W.heap.size x #[v] A K) (hKC : ∀ k, K k → ¬ C k) (hKF : ∀ k, K k → F k = none) (hj : J (x :: rem) A C) :
    YieldAt Fence.wide 0 Try.prog l #[v] A fun e w' => ∃ r, e = .returned (.bool r) ∧ PlPost W M F J Jx rem r w' := by
  obtain ⟨fn, tmps, assign, body, hy, hR⟩ := H.hY x rem #[v] A C K hok hKC hj
  refine ⟨fn, tmps, assign, body, hy, hR.mono ?_⟩
  rintro e B ⟨hs, C', h1, h2, h3, h4⟩
  rcases h4 with ⟨rfl, hj'⟩ | ⟨rfl, hj'⟩
  · refine ⟨true, rfl, fun _ => ⟨C', ⟨?_, fun k o hk => ?_, h1, h2⟩, hj'⟩, fun h => by cases h⟩
    · exact same_later hC.same hs (fun i hm => by
        by_cases hi' : i < W.heap.size
        · exact .inl (hm.2 hi')
        · exact .inr (by omega))
    · have hf := hC.fix k o hk
      refine ⟨(hs.block k (heap_lt hf.1) (fun hm => hf.2 hm.1)).trans hf.1, fun hc => ?_⟩
      rcases h3 k hc with h | h | h
      · exact hf.2 h
      · have := hKF k h; rw [hk] at this; cases this
      · have := heap_lt hf.1; omega
  · exact ⟨false, rfl, (fun h => by cases h), fun _ => ⟨C', rem, hj'⟩⟩
end
def Prs.one (p : Prs) (s : List Int) : List (List Fme) := match p.rest s (fun _ => 0) with
  | some n => [[⟨s, max 1 (p.enough n)⟩]]
  | none => []
def Prs.two (p : Prs) (f : Fme) (t : List Int) : List (List Fme) := match p.rest t (fun v => (p.gives f v).lo) with
  | some m => [[f, ⟨t, max 1 (p.enough m)⟩]]
  | none => []
theorem plans1_eq (p : Prs) : p.plans1 = p.slots.flatMap p.one := rfl
theorem others_eq (p : Prs) (f : Fme) (l : List (List Int)) : p.others f l = l.flatMap (p.two f) := rfl
theorem flat_drop {α β : Type} (f : α → List β) {l : List α} {k : Nat} (h : k < l.length) : (l.drop k).flatMap f = f l[k] ++ (l.drop (k + 1)).flatMap f := by
  rw [List.drop_eq_getElem_cons h, List.flatMap_cons]
def Prs.twos (p : Prs) (s : List Int) (l : List (List Int)) (n : Nat) : List (List Fme) := p.others ⟨s, (n : Int) + 1⟩ l
theorem plans2_drop (p : Prs) {l : List (List Int)} {k : Nat} (h : k < l.length) : p.plans2F (l.drop k) = (if p.formes > 1 then (List.range p.most.toNat).flatMap (p.twos l[k] (l.drop k)) else []) ++ p.plans2F (l.drop (k + 1)) := by
  conv => lhs; rw [List.drop_eq_getElem_cons h]
  have e : l.drop k = l[k] :: l.drop (k + 1) := List.drop_eq_getElem_cons h
  simp only [Prs.plans2F]
  rw [← e]
  rfl
/-- Rows of slots in memory. -/
def AllI (B : Nat) (A : World) (a : Option Addr) (L : List (List Int)) : Prop :=
  ∀ i (h : i < L.length), ∃ b off, a = some ⟨b, off, none⟩ ∧ ∃ ai ci, A.cell? ⟨b, off + i, none⟩ = some (.slice ai L[i].length ci) ∧ IsIntsB B A ai L[i]
theorem AllI.mono {q : Nat} {A B : World} {a : Option Addr} {L : List (List Int)} (h : AllI q A a L) (hb : Below A.heap.size A B) : AllI q B a L := fun i hi => by
  obtain ⟨b, off, ha, ai, ci, h1, h2⟩ := h i hi
  exact ⟨b, off, ha, ai, ci, cell_stays hb h1, h2.mono hb⟩
theorem own_ints' {w : World} {base : Nat} {v : Value} {x : List Int} (h : w.ownsRow base 3 1 v x.length (x.map (Value.int .i64))) : ∃ a c, v = .slice a x.length c ∧ IsIntsB base w a x := by
  obtain ⟨a, c, rfl, _⟩ := own_slice h
  refine ⟨a, c, rfl, own_ints h, fun b o e => ?_⟩
  rcases h.2 with ⟨e2, _⟩ | ⟨g, cap, cur, e2, hg, _⟩
  · injection e2 with e3 _ _; rw [e3] at e; cases e
  · injection e2 with e3 _ _; rw [e3] at e; cases e; exact hg
theorem rows_all {A : World} {B : Nat} {v : Value} {vs : List Value} {L : List (List Int)} (h : A.ownsRow B 24 1 v L.length vs) (hr : RowsOf A B vs L) : ∃ a c, v = .slice a L.length c ∧ L.length ≤ c ∧ c ≤ maxLen ∧ AllI B A a L := by
  obtain ⟨a, c, rfl, hc, hm⟩ := own_slice h
  refine ⟨a, c, rfl, hc, hm, fun i hi => ?_⟩
  obtain ⟨g, cap, e, _, _, _, _, hcell⟩ := own_cell h (by omega)
  cases e
  obtain ⟨vc, h1, h2⟩ := hr.2 i L[i] (List.getElem?_eq_getElem hi)
  obtain ⟨ai, ci, rfl, hi2⟩ := own_ints' h2
  exact ⟨g, 0, rfl, ai, ci, by rw [Nat.zero_add]; exact hcell i _ h1, hi2⟩
/-- They stay where the blocks from B on, below a world's end, stay. -/
theorem rows_fix {A : World} {B : Nat} {v : Value} {vs : List Value} {L : List (List Int)} (h : A.ownsRow B 24 1 v L.length vs) (hr : RowsOf A B vs L) : ∃ a c, v = .slice a L.length c ∧ L.length ≤ c ∧ c ≤ maxLen ∧ ∀ A', (∀ k, B ≤ k → k < A.heap.size → A'.heap[k]? = A.heap[k]?) → AllI B A' a L := by
  obtain ⟨a, c, rfl, hc, hm⟩ := own_slice h
  refine ⟨a, c, rfl, hc, hm, fun A' hA => ?_⟩
  have h2 : A'.ownsRow B 24 1 (.slice a L.length c) L.length vs := own_blocks h fun g hg => hA g (h.lt g hg).1 (h.lt g hg).2
  have hr2 : RowsOf A' B vs L := hr.blocks fun vc hvc g hg => hA g (rows_lt hr hvc hg).1 (rows_lt hr hvc hg).2
  obtain ⟨a', c', e, _, _, h3⟩ := rows_all h2 hr2
  cases e
  exact h3
end Go.Proofs.Ytjkhclijmcmdjaa
namespace Go.Proofs.Ytjkhclijmcmdjaa
open Go.RowKit
set_option linter.unusedVariables false
set_option linter.unusedSimpArgs false
structure pln25F (l : Nat) (b1 : Nat) (bp : Nat) (b16 : Nat) (as_ : Option Addr) (ns : Nat) (cs : Nat) (nn : Int) (at_ : Option Addr) (nt : Nat) (ct : Nat) (m : Int) (e1 : Int) (pc : Int) (S0 : World → Prop) (S1 : Unit → World → Prop) (S2 : Unit → Nat → World → Prop) (S3 : Unit → Nat → Unit → World → Prop) (S4 : Unit → Nat → Unit → Bool → World → Prop) (d : Nat → Bool) (x129 x130 x131 x132 x133 x134 x135 x136 x137 x138 x139 x140 x141 : Value) (r1 : Unit) (r2 : Nat) (r3 : Unit) (r : Bool) (w : World) : Prop where
  q6 : d 6 = true → d 4 = true ∧ d 5 = true
  q7 : d 7 = true → d 6 = true
  q8 : d 8 = true → d 3 = true ∧ d 7 = true
  q9 : d 9 = true → d 2 = true ∧ d 8 = true
  q10 : d 10 = true → d 1 = true ∧ d 6 = true ∧ d 9 = true
  q11 : d 11 = true → d 0 = true ∧ d 10 = true
  q12 : d 12 = true → d 11 = true
  f0 : d 0 = true → x129 = .func (.yield l) #[] #[]
  f1 : d 1 = true → x130 = .func (.func 76) #[] #[.pointer (some ⟨b1, 0, none⟩)]
  f2 : d 2 = true → x131 = .agg #[.slice as_ ns cs, .int .i64 (nn)]
  f3 : d 3 = true → x132 = .slice at_ nt ct
  f4 : d 4 = true → x133 = .pointer (some ⟨bp, 0, none⟩)
  f5 : d 5 = true → x134 = .int .i64 (m)
  f6 : d 6 = true → x135 = .int .i64 (e1)
  f7 : d 7 = true → x136 = .int .i64 (max 1 e1)
  f8 : d 8 = true → x137 = .agg #[.slice at_ nt ct, .int .i64 (max 1 e1)]
  f9 : d 9 = true → x138 = .slice (some ⟨r2, 0, none⟩) 2 2
  f10 : d 10 = true → x139 = .agg #[.slice (some ⟨r2, 0, none⟩) 2 2, .int .i64 (pc)]
  f11 : d 11 = true → x140 = .bool r
  f12 : d 12 = true → x141 = .bool (!r)
  st0 : d 6 = false → S0 w
  st1 : d 6 = true → d 9 = false → S1 r1 w
  st2 : d 9 = true → d 10 = false → S2 r1 r2 w
  st3 : d 10 = true → d 11 = false → S3 r1 r2 r3 w
  st4 : d 11 = true → S4 r1 r2 r3 r w
noncomputable def pln25C : Code := (Try.f75.body.bind (regionAt 25)).getD .skip
set_option maxRecDepth 100000 in
set_option maxHeartbeats 4000000 in
theorem pln25 {l : Nat} {b1 : Nat} {bp : Nat} {b16 : Nat} {as_ : Option Addr} {ns : Nat} {cs : Nat} {nn : Int} {at_ : Option Addr} {nt : Nat} {ct : Nat} {m : Int} {e1 : Int} {pc : Int} {S0 : World → Prop} {S1 : Unit → World → Prop} {S2 : Unit → Nat → World → Prop} {S3 : Unit → Nat → Unit → World → Prop} {S4 : Unit → Nat → Unit → Bool → World → Prop} {Q : Exit → Act → World → Prop} {W1 : World} (h0 : S0 W1.drew)
    (kl2 : Hid (∀ (r1 : Unit) (w : World), (S0 w ∨ S1 r1 w) → w.cell? ⟨b16, 0, none⟩ = some (.slice as_ ns cs) ∧ w.cell? ⟨b16, 1, none⟩ = some (.int .i64 (nn))))
    (kl4 : Hid (∀ (w : World), (S0 w) → w.cell? ⟨b1, 0, none⟩ = some (.pointer (some ⟨bp, 0, none⟩))))
    (kc6 : Hid (∀ (w : World), S0 w → Calls Try.prog 81 #[.pointer (some ⟨bp, 0, none⟩), .int .i64 (m)] w fun e w' => ∃ r1 : Unit, e = .returned (.int .i64 (e1)) ∧ S1 r1 w'))
    (kc9 : Hid (∀ (r1 : Unit) (w : World), S1 r1 w → S2 r1 w.heap.size (w.alloc (.cells #[.slice as_ ns cs, .int .i64 (nn), .slice at_ nt ct, .int .i64 (max 1 e1)] 29))))
    (kc10 : Hid (∀ (r1 : Unit) (r2 : Nat) (w : World), S2 r1 r2 w → Calls Try.prog 76 #[.slice (some ⟨r2, 0, none⟩) 2 2, .pointer (some ⟨b1, 0, none⟩)] w fun e w' => ∃ r3 : Unit, e = .returned (.agg #[.slice (some ⟨r2, 0, none⟩) 2 2, .int .i64 (pc)]) ∧ S3 r1 r2 r3 w'))
    (kc11 : Hid (∀ (r1 : Unit) (r2 : Nat) (r3 : Unit) (w : World), S3 r1 r2 r3 w → YieldAt Fence.wide 0 Try.prog l #[.agg #[.slice (some ⟨r2, 0, none⟩) 2 2, .int .i64 (pc)]] w fun e w' => ∃ r : Bool, e = .returned (.bool r) ∧ S4 r1 r2 r3 r w'))
    {s2 s4 s5 s6 s7 s8 s9 s10 s11 s12 s13 s14 s15 s17 s18 s21 s22 s23 s24 s25 s26 s27 s28 s29 s30 s31 s32 s33 s34 s35 s36 s37 s38 s39 s40 s41 s42 s43 s44 s45 s46 s47 s48 s49 s50 s51 s52 s53 s54 s55 s56 s57 s58 s59 s60 s61 s62 s63 s64 s65 s66 s67 s68 s69 s70 s71 s72 s73 s74 s75 s76 s77 s78 s79 s80 s81 s82 s83 s84 s85 s86 s87 s88 s89 s90 s91 s92 s93 s94 s95 s96 s97 s98 s99 s100 s101 s102 s103 s104 s105 s106 s107 s108 s109 s110 s111 s112 s113 s114 s115 s116 s117 s118 s119 s120 s121 s122 s123 s124 s125 s126 s127 s128 s129 s130 s131 s132 s133 s134 s135 s136 s137 s138 s139 s140 s141 s142 s143 : Value} {dd : List Deferred}
    (hQ : ∀ (r1 : Unit) (r2 : Nat) (r3 : Unit) (r : Bool) (w' : World), S4 r1 r2 r3 r w' → Q .normal { tmps := #[.func (.yield l) #[] #[], .pointer (some ⟨b1, 0, none⟩), s2, .func (.func 76) #[] #[.pointer (some ⟨b1, 0, none⟩)], s4, s5, s6, s7, s8, s9, s10, s11, s12, s13, s14, s15, .pointer (some ⟨b16, 0, none⟩), s17, s18, .slice at_ nt ct, .int .i64 (m), s21, s22, s23, s24, s25, s26, s27, s28, s29, s30, s31, s32, s33, s34, s35, s36, s37, s38, s39, s40, s41, s42, s43, s44, s45, s46, s47, s48, s49, s50, s51, s52, s53, s54, s55, s56, s57, s58, s59, s60, s61, s62, s63, s64, s65, s66, s67, s68, s69, s70, s71, s72, s73, s74, s75, s76, s77, s78, s79, s80, s81, s82, s83, s84, s85, s86, s87, s88, s89, s90, s91, s92, s93, s94, s95, s96, s97, s98, s99, s100, s101, s102, s103, s104, s105, s106, s107, s108, s109, s110, s111, s112, s113, s114, s115, s116, s117, s118, s119, s120, s121, s122, s123, s124, s125, s126, s127, s128, .func (.yield l) #[] #[], .func (.func 76) #[] #[.pointer (some ⟨b1, 0, none⟩)], .agg #[.slice as_ ns cs, .int .i64 (nn)], .slice at_ nt ct, .pointer (some ⟨bp, 0, none⟩), .int .i64 (m), .int .i64 (e1), .int .i64 (max 1 e1), .agg #[.slice at_ nt ct, .int .i64 (max 1 e1)], .slice (some ⟨r2, 0, none⟩) 2 2, .agg #[.slice (some ⟨r2, 0, none⟩) 2 2, .int .i64 (pc)], .bool r, .bool (!r), s142, s143], defers := dd } w') :
    Code.wpIn (wideAt none) 0 Try.prog pln25C Q { tmps := #[.func (.yield l) #[] #[], .pointer (some ⟨b1, 0, none⟩), s2, .func (.func 76) #[] #[.pointer (some ⟨b1, 0, none⟩)], s4, s5, s6, s7, s8, s9, s10, s11, s12, s13, s14, s15, .pointer (some ⟨b16, 0, none⟩), s17, s18, .slice at_ nt ct, .int .i64 (m), s21, s22, s23, s24, s25, s26, s27, s28, s29, s30, s31, s32, s33, s34, s35, s36, s37, s38, s39, s40, s41, s42, s43, s44, s45, s46, s47, s48, s49, s50, s51, s52, s53, s54, s55, s56, s57, s58, s59, s60, s61, s62, s63, s64, s65, s66, s67, s68, s69, s70, s71, s72, s73, s74, s75, s76, s77, s78, s79, s80, s81, s82, s83, s84, s85, s86, s87, s88, s89, s90, s91, s92, s93, s94, s95, s96, s97, s98, s99, s100, s101, s102, s103, s104, s105, s106, s107, s108, s109, s110, s111, s112, s113, s114, s115, s116, s117, s118, s119, s120, s121, s122, s123, s124, s125, s126, s127, s128, s129, s130, s131, s132, s133, s134, s135, s136, s137, s138, s139, s140, s141, s142, s143], defers := dd } W1 := by
  have HQ := Lib.hid hQ
  clear hQ
  conv => arg 4; whnf
  refine wpIn_region_invG mixed (by kernel_rfl) (fun d_ a_ w' => ∃ (x129 : Value) (x130 : Value) (x131 : Value) (x132 : Value) (x133 : Value) (x134 : Value) (x135 : Value) (x136 : Value) (x137 : Value) (x138 : Value) (x139 : Value) (x140 : Value) (x141 : Value) (r1 : Unit) (r2 : Nat) (r3 : Unit) (r : Bool), a_ = { tmps := #[.func (.yield l) #[] #[], .pointer (some ⟨b1, 0, none⟩), s2, .func (.func 76) #[] #[.pointer (some ⟨b1, 0, none⟩)], s4, s5, s6, s7, s8, s9, s10, s11, s12, s13, s14, s15, .pointer (some ⟨b16, 0, none⟩), s17, s18, .slice at_ nt ct, .int .i64 (m), s21, s22, s23, s24, s25, s26, s27, s28, s29, s30, s31, s32, s33, s34, s35, s36, s37, s38, s39, s40, s41, s42, s43, s44, s45, s46, s47, s48, s49, s50, s51, s52, s53, s54, s55, s56, s57, s58, s59, s60, s61, s62, s63, s64, s65, s66, s67, s68, s69, s70, s71, s72, s73, s74, s75, s76, s77, s78, s79, s80, s81, s82, s83, s84, s85, s86, s87, s88, s89, s90, s91, s92, s93, s94, s95, s96, s97, s98, s99, s100, s101, s102, s103, s104, s105, s106, s107, s108, s109, s110, s111, s112, s113, s114, s115, s116, s117, s118, s119, s120, s121, s122, s123, s124, s125, s126, s127, s128, x129, x130, x131, x132, x133, x134, x135, x136, x137, x138, x139, x140, x141, s142, s143], defers := dd } ∧ pln25F l b1 bp b16 as_ ns cs nn at_ nt ct m e1 pc S0 S1 S2 S3 S4 d_ x129 x130 x131 x132 x133 x134 x135 x136 x137 x138 x139 x140 x141 r1 r2 r3 r w') ?_ ?_ ?_
  · refine ⟨s129, s130, s131, s132, s133, s134, s135, s136, s137, s138, s139, s140, s141, default, 0, default, false, rfl, ?_⟩
    constructor <;> first | rfl | (intro _; rfl) | (intro h; cases h; done) | (intro _; exact h0) | exact h0
  · refine ⟨?_, ?_, ?_, ?_, ?_, ?_, ?_, ?_, ?_, ?_, ?_, ?_, ?_, trivial⟩
    all_goals
      rintro d_ a_ w1 K hd_ hdep ⟨x129, x130, x131, x132, x133, x134, x135, x136, x137, x138, x139, x140, x141, r1, r2, r3, r, rfl, F⟩ HK
      simp [Region.binds] at hdep
    · have HF : Hid (pln25F l b1 bp b16 as_ ns cs nn at_ nt ct m e1 pc S0 S1 S2 S3 S4 (upd d_ 0) (.func (.yield l) #[] #[]) x130 x131 x132 x133 x134 x135 x136 x137 x138 x139 x140 x141 r1 r2 r3 r w1) := ⟨F.q6, F.q7, F.q8, F.q9, F.q10, fun h => ⟨rfl, (F.q11 h).2⟩, F.q12, fun _ => rfl, F.f1, F.f2, F.f3, F.f4, F.f5, F.f6, F.f7, F.f8, F.f9, F.f10, F.f11, F.f12, F.st0, F.st1, F.st2, F.st3, F.st4⟩
      clear F
      go_simp
      exact HK.out _ _ ⟨_, _, _, _, _, _, _, _, _, _, _, _, _, _, _, _, _, rfl, HF.out⟩
    · have HF : Hid (pln25F l b1 bp b16 as_ ns cs nn at_ nt ct m e1 pc S0 S1 S2 S3 S4 (upd d_ 1) x129 (.func (.func 76) #[] #[.pointer (some ⟨b1, 0, none⟩)]) x131 x132 x133 x134 x135 x136 x137 x138 x139 x140 x141 r1 r2 r3 r w1) := ⟨F.q6, F.q7, F.q8, F.q9, fun h => ⟨rfl, (F.q10 h).2.1, (F.q10 h).2.2⟩, F.q11, F.q12, F.f0, fun _ => rfl, F.f2, F.f3, F.f4, F.f5, F.f6, F.f7, F.f8, F.f9, F.f10, F.f11, F.f12, F.st0, F.st1, F.st2, F.st3, F.st4⟩
      clear F
      go_simp
      exact HK.out _ _ ⟨_, _, _, _, _, _, _, _, _, _, _, _, _, _, _, _, _, rfl, HF.out⟩
    · have hst : S0 w1 ∨ S1 r1 w1 := by
        cases e1 : d_ 6 with
        | false => exact .inl ((F.st0 e1))
        | true =>
          have n_ : d_ 9 = false := by
            cases e_ : d_ 9 with
            | false => rfl
            | true => have h2 := (F.q9 e_).1; rw [show d_ 2 = false from hd_] at h2; cases h2
          exact .inr ((F.st1 e1 n_))
      have kk := kl2.out r1 w1 hst
      obtain ⟨kk0, kk1⟩ := kk
      clear hst
      have HF : Hid (pln25F l b1 bp b16 as_ ns cs nn at_ nt ct m e1 pc S0 S1 S2 S3 S4 (upd d_ 2) x129 x130 (.agg #[.slice as_ ns cs, .int .i64 (nn)]) x132 x133 x134 x135 x136 x137 x138 x139 x140 x141 r1 r2 r3 r w1) := ⟨F.q6, F.q7, F.q8, fun h => ⟨rfl, (F.q9 h).2⟩, F.q10, F.q11, F.q12, F.f0, F.f1, fun _ => rfl, F.f3, F.f4, F.f5, F.f6, F.f7, F.f8, F.f9, F.f10, F.f11, F.f12, F.st0, F.st1, F.st2, F.st3, F.st4⟩
      clear F
      go_simp
      exact HK.out _ _ ⟨_, _, _, _, _, _, _, _, _, _, _, _, _, _, _, _, _, rfl, HF.out⟩
    · have HF : Hid (pln25F l b1 bp b16 as_ ns cs nn at_ nt ct m e1 pc S0 S1 S2 S3 S4 (upd d_ 3) x129 x130 x131 (.slice at_ nt ct) x133 x134 x135 x136 x137 x138 x139 x140 x141 r1 r2 r3 r w1) := ⟨F.q6, F.q7, fun h => ⟨rfl, (F.q8 h).2⟩, F.q9, F.q10, F.q11, F.q12, F.f0, F.f1, F.f2, fun _ => rfl, F.f4, F.f5, F.f6, F.f7, F.f8, F.f9, F.f10, F.f11, F.f12, F.st0, F.st1, F.st2, F.st3, F.st4⟩
      clear F
      go_simp
      exact HK.out _ _ ⟨_, _, _, _, _, _, _, _, _, _, _, _, _, _, _, _, _, rfl, HF.out⟩
    · have hst : S0 w1 := by
        have n_ : d_ 6 = false := by
          cases e_ : d_ 6 with
          | false => rfl
          | true => have h2 := (F.q6 e_).1; rw [show d_ 4 = false from hd_] at h2; cases h2
        exact (F.st0 n_)
      have kk := kl4.out w1 hst
      clear hst
      have HF : Hid (pln25F l b1 bp b16 as_ ns cs nn at_ nt ct m e1 pc S0 S1 S2 S3 S4 (upd d_ 4) x129 x130 x131 x132 (.pointer (some ⟨bp, 0, none⟩)) x134 x135 x136 x137 x138 x139 x140 x141 r1 r2 r3 r w1) := ⟨fun h => ⟨rfl, (F.q6 h).2⟩, F.q7, F.q8, F.q9, F.q10, F.q11, F.q12, F.f0, F.f1, F.f2, F.f3, fun _ => rfl, F.f5, F.f6, F.f7, F.f8, F.f9, F.f10, F.f11, F.f12, F.st0, F.st1, F.st2, F.st3, F.st4⟩
      clear F
      go_simp
      exact HK.out _ _ ⟨_, _, _, _, _, _, _, _, _, _, _, _, _, _, _, _, _, rfl, HF.out⟩
    · have HF : Hid (pln25F l b1 bp b16 as_ ns cs nn at_ nt ct m e1 pc S0 S1 S2 S3 S4 (upd d_ 5) x129 x130 x131 x132 x133 (.int .i64 (m)) x135 x136 x137 x138 x139 x140 x141 r1 r2 r3 r w1) := ⟨fun h => ⟨(F.q6 h).1, rfl⟩, F.q7, F.q8, F.q9, F.q10, F.q11, F.q12, F.f0, F.f1, F.f2, F.f3, F.f4, fun _ => rfl, F.f6, F.f7, F.f8, F.f9, F.f10, F.f11, F.f12, F.st0, F.st1, F.st2, F.st3, F.st4⟩
      clear F
      go_simp
      exact HK.out _ _ ⟨_, _, _, _, _, _, _, _, _, _, _, _, _, _, _, _, _, rfl, HF.out⟩
    · have hS := F.st0  hd_
      obtain rfl := F.f4 (by simp [hdep])
      obtain rfl := F.f5 (by simp [hdep])
      have hc := kc6.out w1 hS
      have HF := Lib.hid F
      clear F
      go_simp
      refine ⟨trivial, rfl, wideAt_calls (hc.mono ?_)⟩
      rintro e w5 ⟨v_, rfl, hres⟩
      exact HK.out _ _ ⟨_, _, _, _, _, _, _, _, _, _, _, _, _, v_, r2, r3, r, rfl, ⟨fun _ => ⟨(show _ from (by simp [hdep] : d_ 4 = true)), (show _ from (by simp [hdep] : d_ 5 = true))⟩, fun h => rfl, HF.out.q8, HF.out.q9, fun h => ⟨(HF.out.q10 h).1, rfl, (HF.out.q10 h).2.2⟩, HF.out.q11, HF.out.q12, HF.out.f0, HF.out.f1, HF.out.f2, HF.out.f3, HF.out.f4, HF.out.f5, fun _ => rfl, HF.out.f7, HF.out.f8, HF.out.f9, HF.out.f10, HF.out.f11, HF.out.f12, fun h => (by simp [upd] at h), fun _ _ => hres, fun h _ => (by have h2 : d_ 6 = true := (HF.out.q7 (HF.out.q8 (HF.out.q9 h).2).2); rw [show d_ 6 = false from hd_] at h2; cases h2), fun h _ => (by have h2 : d_ 6 = true := (HF.out.q10 h).2.1; rw [show d_ 6 = false from hd_] at h2; cases h2), fun h => (by have h2 : d_ 6 = true := (HF.out.q10 (HF.out.q11 h).2).2.1; rw [show d_ 6 = false from hd_] at h2; cases h2)⟩⟩
    · obtain rfl := F.f6 (by simp [hdep])
      have HF : Hid (pln25F l b1 bp b16 as_ ns cs nn at_ nt ct m e1 pc S0 S1 S2 S3 S4 (upd d_ 7) x129 x130 x131 x132 x133 x134 (.int .i64 (e1)) (.int .i64 (max 1 e1)) x137 x138 x139 x140 x141 r1 r2 r3 r w1) := ⟨F.q6, fun _ => (show _ from (by simp [hdep] : d_ 6 = true)), fun h => ⟨(F.q8 h).1, rfl⟩, F.q9, F.q10, F.q11, F.q12, F.f0, F.f1, F.f2, F.f3, F.f4, F.f5, F.f6, fun _ => rfl, F.f8, F.f9, F.f10, F.f11, F.f12, F.st0, F.st1, F.st2, F.st3, F.st4⟩
      clear F
      go_simp
      exact HK.out _ _ ⟨_, _, _, _, _, _, _, _, _, _, _, _, _, _, _, _, _, rfl, HF.out⟩
    · obtain rfl := F.f3 (by simp [hdep])
      obtain rfl := F.f7 (by simp [hdep])
      have HF : Hid (pln25F l b1 bp b16 as_ ns cs nn at_ nt ct m e1 pc S0 S1 S2 S3 S4 (upd d_ 8) x129 x130 x131 (.slice at_ nt ct) x133 x134 x135 (.int .i64 (max 1 e1)) (.agg #[.slice at_ nt ct, .int .i64 (max 1 e1)]) x138 x139 x140 x141 r1 r2 r3 r w1) := ⟨F.q6, F.q7, fun _ => ⟨(show _ from (by simp [hdep] : d_ 3 = true)), (show _ from (by simp [hdep] : d_ 7 = true))⟩, fun h => ⟨(F.q9 h).1, rfl⟩, F.q10, F.q11, F.q12, F.f0, F.f1, F.f2, F.f3, F.f4, F.f5, F.f6, F.f7, fun _ => rfl, F.f9, F.f10, F.f11, F.f12, F.st0, F.st1, F.st2, F.st3, F.st4⟩
      clear F
      go_simp
      exact HK.out _ _ ⟨_, _, _, _, _, _, _, _, _, _, _, _, _, _, _, _, _, rfl, HF.out⟩
    · have hS := F.st1 (F.q7 (F.q8 (by simp [hdep] : d_ 8 = true)).2) hd_
      obtain rfl := F.f2 (by simp [hdep])
      obtain rfl := F.f8 (by simp [hdep])
      have hres := kc9.out r1 w1 hS
      have HF : Hid (pln25F l b1 bp b16 as_ ns cs nn at_ nt ct m e1 pc S0 S1 S2 S3 S4 (upd d_ 9) x129 x130 (.agg #[.slice as_ ns cs, .int .i64 (nn)]) x132 x133 x134 x135 x136 (.agg #[.slice at_ nt ct, .int .i64 (max 1 e1)]) ((.slice (some ⟨w1.heap.size, 0, none⟩) 2 2)) x139 x140 x141 r1 w1.heap.size r3 r (w1.alloc (.cells #[.slice as_ ns cs, .int .i64 (nn), .slice at_ nt ct, .int .i64 (max 1 e1)] 29))) := ⟨F.q6, F.q7, F.q8, fun _ => ⟨(show _ from (by simp [hdep] : d_ 2 = true)), (show _ from (by simp [hdep] : d_ 8 = true))⟩, fun h => ⟨(F.q10 h).1, (F.q10 h).2.1, rfl⟩, F.q11, F.q12, F.f0, F.f1, F.f2, F.f3, F.f4, F.f5, F.f6, F.f7, F.f8, fun _ => rfl, fun h => (by have h2 : d_ 9 = true := (F.q10 h).2.2; rw [show d_ 9 = false from hd_] at h2; cases h2), F.f11, F.f12, fun h => (by have h2 : d_ 6 = false := h; rw [(F.q7 (F.q8 (by simp [hdep] : d_ 8 = true)).2)] at h2; cases h2), fun _ h => (by simp [upd] at h), fun _ _ => hres, fun h _ => (by have h2 : d_ 9 = true := (F.q10 h).2.2; rw [show d_ 9 = false from hd_] at h2; cases h2), fun h => (by have h2 : d_ 9 = true := (F.q10 (F.q11 h).2).2.2; rw [show d_ 9 = false from hd_] at h2; cases h2)⟩
      clear F hS hres
      go_simp
      exact HK.out _ _ ⟨_, _, _, _, _, _, _, _, _, _, _, _, _, _, _, _, _, rfl, HF.out⟩
    · have hS := F.st2 (by simp [hdep] : d_ 9 = true) hd_
      obtain rfl := F.f1 (by simp [hdep])
      obtain rfl := F.f9 (by simp [hdep])
      have hc := kc10.out r1 r2 w1 hS
      have HF := Lib.hid F
      clear F
      go_simp
      refine ⟨trivial, rfl, wideAt_calls (hc.mono ?_)⟩
      rintro e w5 ⟨v_, rfl, hres⟩
      exact HK.out _ _ ⟨_, _, _, _, _, _, _, _, _, _, _, _, _, r1, r2, v_, r, rfl, ⟨HF.out.q6, HF.out.q7, HF.out.q8, HF.out.q9, fun _ => ⟨(show _ from (by simp [hdep] : d_ 1 = true)), (show _ from (by simp [hdep] : d_ 6 = true)), (show _ from (by simp [hdep] : d_ 9 = true))⟩, fun h => ⟨(HF.out.q11 h).1, rfl⟩, HF.out.q12, HF.out.f0, HF.out.f1, HF.out.f2, HF.out.f3, HF.out.f4, HF.out.f5, HF.out.f6, HF.out.f7, HF.out.f8, HF.out.f9, fun _ => rfl, HF.out.f11, HF.out.f12, fun h => (by have h2 : d_ 6 = false := h; rw [(by simp [hdep] : d_ 6 = true)] at h2; cases h2), fun _ h => (by have h2 : d_ 9 = false := h; rw [(by simp [hdep] : d_ 9 = true)] at h2; cases h2), fun _ h => (by simp [upd] at h), fun _ _ => hres, fun h => (by have h2 : d_ 10 = true := (HF.out.q11 h).2; rw [show d_ 10 = false from hd_] at h2; cases h2)⟩⟩
    · have hS := F.st3 (by simp [hdep] : d_ 10 = true) hd_
      obtain rfl := F.f0 (by simp [hdep])
      obtain rfl := F.f10 (by simp [hdep])
      obtain ⟨fn, tmps, assign, body, hy, hR⟩ := kc11.out r1 r2 r3 w1 hS
      have HR := Lib.hid hR
      have HF := Lib.hid F
      clear F hR
      go_simp
      refine ⟨rfl, HR.out.mono ?_⟩
      rintro e w5 ⟨v_, rfl, hres⟩
      exact HK.out _ _ ⟨_, _, _, _, _, _, _, _, _, _, _, _, _, r1, r2, r3, v_, rfl, ⟨HF.out.q6, HF.out.q7, HF.out.q8, HF.out.q9, HF.out.q10, fun _ => ⟨(show _ from (by simp [hdep] : d_ 0 = true)), (show _ from (by simp [hdep] : d_ 10 = true))⟩, fun h => rfl, HF.out.f0, HF.out.f1, HF.out.f2, HF.out.f3, HF.out.f4, HF.out.f5, HF.out.f6, HF.out.f7, HF.out.f8, HF.out.f9, HF.out.f10, fun _ => rfl, fun h => (by have h2 : d_ 11 = true := (HF.out.q12 h); rw [show d_ 11 = false from hd_] at h2; cases h2), fun h => (by have h2 : d_ 6 = false := h; rw [(HF.out.q10 (by simp [hdep] : d_ 10 = true)).2.1] at h2; cases h2), fun _ h => (by have h2 : d_ 9 = false := h; rw [(HF.out.q10 (by simp [hdep] : d_ 10 = true)).2.2] at h2; cases h2), fun _ h => (by have h2 : d_ 10 = false := h; rw [(by simp [hdep] : d_ 10 = true)] at h2; cases h2), fun _ h => (by simp [upd] at h), fun _ => hres⟩⟩
    · obtain rfl := F.f11 (by simp [hdep])
      have HF : Hid (pln25F l b1 bp b16 as_ ns cs nn at_ nt ct m e1 pc S0 S1 S2 S3 S4 (upd d_ 12) x129 x130 x131 x132 x133 x134 x135 x136 x137 x138 x139 (.bool r) (.bool (!r)) r1 r2 r3 r w1) := ⟨F.q6, F.q7, F.q8, F.q9, F.q10, F.q11, fun _ => (show _ from (by simp [hdep] : d_ 11 = true)), F.f0, F.f1, F.f2, F.f3, F.f4, F.f5, F.f6, F.f7, F.f8, F.f9, F.f10, F.f11, fun _ => rfl, F.st0, F.st1, F.st2, F.st3, F.st4⟩
      clear F
      go_simp
      exact HK.out _ _ ⟨_, _, _, _, _, _, _, _, _, _, _, _, _, _, _, _, _, rfl, HF.out⟩
  · rintro d_ a_ w1 hall ⟨x129, x130, x131, x132, x133, x134, x135, x136, x137, x138, x139, x140, x141, r1, r2, r3, r, rfl, F⟩
    have hall' : ∀ k, k < 13 → d_ k = true := hall
    obtain rfl := F.f0 (hall' 0 (by decide))
    obtain rfl := F.f1 (hall' 1 (by decide))
    obtain rfl := F.f2 (hall' 2 (by decide))
    obtain rfl := F.f3 (hall' 3 (by decide))
    obtain rfl := F.f4 (hall' 4 (by decide))
    obtain rfl := F.f5 (hall' 5 (by decide))
    obtain rfl := F.f6 (hall' 6 (by decide))
    obtain rfl := F.f7 (hall' 7 (by decide))
    obtain rfl := F.f8 (hall' 8 (by decide))
    obtain rfl := F.f9 (hall' 9 (by decide))
    obtain rfl := F.f10 (hall' 10 (by decide))
    obtain rfl := F.f11 (hall' 11 (by decide))
    obtain rfl := F.f12 (hall' 12 (by decide))
    have hst := F.st4 (hall' 11 (by decide))
    exact HQ.out r1 r2 r3 r w1 hst
noncomputable def pln3C : Code := (Try.f75.body.bind (regionAt 3)).getD .skip
set_option maxRecDepth 100000 in
set_option maxHeartbeats 8000000 in
theorem pln3 {b1 bp N n cw : Nat} {aw : Option Addr} {q : Int} {bb : Bool} {P0 P1 P2 : World → Prop} {Q : Exit → Act → World → Prop} {W1 : World}  (h0 : P0 W1.drew)
    (kl0 : Hid (∀ w : World, (P0 w ∨ P1 w ∨ P2 w) → w.cell? ⟨b1, 0, none⟩ = some (.pointer (some ⟨bp, 0, none⟩))))
    (kl1 : Hid (∀ w : World, (P0 w ∨ P1 w ∨ P2 w) → w.cell? ⟨b1, 0, none⟩ = some (.pointer (some ⟨bp, 0, none⟩))))
    (kl5 : Hid (∀ w : World, (P0 w ∨ P1 w ∨ P2 w) → w.cell? ⟨bp, 6, none⟩ = some (.slice aw n cw)))
    (kr7 : Hid (∀ w : World, P0 w → ∃ w', (Instr.makeSlice 24 (.int .i64 (n : Int)) (.int .i64 (n : Int))).run Try.prog w = .ok (.slice (some ⟨N, 0, none⟩) n n) w' ∧ P1 w'))
    (kc9 : Hid (∀ w : World, P1 w → Calls Try.prog 80 #[.pointer (some ⟨bp, 0, none⟩), .slice (some ⟨N, 0, none⟩) n n, .func (.func 77) #[] #[]] w fun e w' => e = .returned (.tuple #[.int .i64 (q), .bool bb]) ∧ P2 w'))
    {s0 s2 s3 s5 s6 s7 s8 s9 s10 s11 s12 s13 s14 s15 s16 s17 s18 s19 s20 s21 s22 s23 s24 s25 s26 s27 s28 s29 s30 s31 s32 s33 s34 s35 s36 s37 s38 s39 s40 s41 s42 s43 s44 s45 s46 s47 s48 s49 s50 s51 s52 s53 s54 s55 s56 s57 s58 s59 s60 s61 s62 s63 s64 s65 s66 s67 s68 s69 s70 s71 s72 s73 s74 s75 s76 s77 s78 s79 s80 s81 s82 s83 s84 s85 s86 s87 s88 s89 s90 s91 s92 s93 s94 s95 s96 s97 s98 s99 s100 s101 s102 s103 s104 s105 s106 s107 s108 s109 s110 s111 s112 s113 s114 s115 s116 s117 s118 s119 s120 s121 s122 s123 s124 s125 s126 s127 s128 s129 s130 s131 s132 s133 s134 s135 s136 s137 s138 s139 s140 s141 s142 s143 : Value} {dd : List Deferred}
    (hQ : ∀ w' : World, P2 w' → Q .normal { tmps := #[s0,.pointer (some ⟨b1, 0, none⟩),s2,s3,.func (.func 77) #[] #[],s5,.int .i64 (q),.bool bb,s8,s9,s10,s11,s12,s13,s14,s15,s16,s17,s18,s19,s20,s21,s22,s23,s24,s25,.tuple #[.int .i64 (q), .bool bb],.pointer (some ⟨bp, 0, none⟩),.pointer (some ⟨bp, 0, none⟩),.pointer (some ⟨bp, 0, none⟩),.pointer (some ⟨bp, 0, none⟩),.pointer (some ⟨bp, 6, none⟩),.slice aw n cw,.int .i64 ((n : Int)),.slice (some ⟨N, 0, none⟩) n n,.func (.func 77) #[] #[],.tuple #[.int .i64 (q), .bool bb],.int .i64 (q),.bool bb,s39,s40,s41,s42,s43,s44,s45,s46,s47,s48,s49,s50,s51,s52,s53,s54,s55,s56,s57,s58,s59,s60,s61,s62,s63,s64,s65,s66,s67,s68,s69,s70,s71,s72,s73,s74,s75,s76,s77,s78,s79,s80,s81,s82,s83,s84,s85,s86,s87,s88,s89,s90,s91,s92,s93,s94,s95,s96,s97,s98,s99,s100,s101,s102,s103,s104,s105,s106,s107,s108,s109,s110,s111,s112,s113,s114,s115,s116,s117,s118,s119,s120,s121,s122,s123,s124,s125,s126,s127,s128,s129,s130,s131,s132,s133,s134,s135,s136,s137,s138,s139,s140,s141,s142,s143],defers := dd } w') :
    Code.wpIn (wideAt none) 0 Try.prog pln3C Q { tmps := #[s0,.pointer (some ⟨b1, 0, none⟩),s2,s3,.func (.func 77) #[] #[],s5,s6,s7,s8,s9,s10,s11,s12,s13,s14,s15,s16,s17,s18,s19,s20,s21,s22,s23,s24,s25,s26,s27,s28,s29,s30,s31,s32,s33,s34,s35,s36,s37,s38,s39,s40,s41,s42,s43,s44,s45,s46,s47,s48,s49,s50,s51,s52,s53,s54,s55,s56,s57,s58,s59,s60,s61,s62,s63,s64,s65,s66,s67,s68,s69,s70,s71,s72,s73,s74,s75,s76,s77,s78,s79,s80,s81,s82,s83,s84,s85,s86,s87,s88,s89,s90,s91,s92,s93,s94,s95,s96,s97,s98,s99,s100,s101,s102,s103,s104,s105,s106,s107,s108,s109,s110,s111,s112,s113,s114,s115,s116,s117,s118,s119,s120,s121,s122,s123,s124,s125,s126,s127,s128,s129,s130,s131,s132,s133,s134,s135,s136,s137,s138,s139,s140,s141,s142,s143],defers := dd } W1 := by
  have HQ := Lib.hid hQ
  clear hQ
  conv => arg 4; whnf
  refine wpIn_region_invG mixed (by kernel_rfl) (fun d_ a_ w' => a_ = { tmps := #[s0,.pointer (some ⟨b1, 0, none⟩),s2,s3,.func (.func 77) #[] #[],s5,pk (d_ 13) (.int .i64 (q)) s6,pk (d_ 14) (.bool bb) s7,s8,s9,s10,s11,s12,s13,s14,s15,s16,s17,s18,s19,s20,s21,s22,s23,s24,s25,pk (d_ 10) (.tuple #[.int .i64 (q), .bool bb]) s26,pk (d_ 0) (.pointer (some ⟨bp, 0, none⟩)) s27,pk (d_ 1) (.pointer (some ⟨bp, 0, none⟩)) s28,pk (d_ 2) (.pointer (some ⟨bp, 0, none⟩)) s29,pk (d_ 3) (.pointer (some ⟨bp, 0, none⟩)) s30,pk (d_ 4) (.pointer (some ⟨bp, 6, none⟩)) s31,pk (d_ 5) (.slice aw n cw) s32,pk (d_ 6) (.int .i64 ((n : Int))) s33,pk (d_ 7) (.slice (some ⟨N, 0, none⟩) n n) s34,pk (d_ 8) (.func (.func 77) #[] #[]) s35,pk (d_ 9) (.tuple #[.int .i64 (q), .bool bb]) s36,pk (d_ 11) (.int .i64 (q)) s37,pk (d_ 12) (.bool bb) s38,s39,s40,s41,s42,s43,s44,s45,s46,s47,s48,s49,s50,s51,s52,s53,s54,s55,s56,s57,s58,s59,s60,s61,s62,s63,s64,s65,s66,s67,s68,s69,s70,s71,s72,s73,s74,s75,s76,s77,s78,s79,s80,s81,s82,s83,s84,s85,s86,s87,s88,s89,s90,s91,s92,s93,s94,s95,s96,s97,s98,s99,s100,s101,s102,s103,s104,s105,s106,s107,s108,s109,s110,s111,s112,s113,s114,s115,s116,s117,s118,s119,s120,s121,s122,s123,s124,s125,s126,s127,s128,s129,s130,s131,s132,s133,s134,s135,s136,s137,s138,s139,s140,s141,s142,s143],defers := dd } ∧ ch2 P0 P1 P2 (d_ 7) (d_ 9) w') ?_ ?_ ?_
  · exact ⟨rfl, h0⟩
  · refine ⟨?_,?_,?_,?_,?_,?_,?_,?_,?_,?_,?_,?_,?_,?_,?_, trivial⟩
    all_goals
      rintro d_ a_ w1 K hd_ hdep ⟨rfl, F⟩ HK
      simp [Region.binds] at hdep
    · have kk := kl0.out w1 (ch2_or F)
      have HF := Lib.hid F
      clear F hdep
      go_simp
      refine HK.out _ _ ⟨?_, HF.out⟩
      all_goals rfl
    · have kk := kl1.out w1 (ch2_or F)
      have HF := Lib.hid F
      clear F hdep
      go_simp
      refine HK.out _ _ ⟨?_, HF.out⟩
      all_goals rfl
    · have q1 : d_ 1 = true := by simp [hdep]
      rw [pk_of q1]
      have HF := Lib.hid F
      clear F hdep
      go_simp
      refine HK.out _ _ ⟨?_, HF.out⟩
      rw [pk_of (show upd d_ 2 1 = true from q1)]
      all_goals rfl
    · have q2 : d_ 2 = true := by simp [hdep]
      rw [pk_of q2]
      have HF := Lib.hid F
      clear F hdep
      go_simp
      refine HK.out _ _ ⟨?_, HF.out⟩
      rw [pk_of (show upd d_ 3 2 = true from q2)]
      all_goals rfl
    · have q3 : d_ 3 = true := by simp [hdep]
      rw [pk_of q3]
      have HF := Lib.hid F
      clear F hdep
      go_simp
      refine HK.out _ _ ⟨?_, HF.out⟩
      rw [pk_of (show upd d_ 4 3 = true from q3)]
      all_goals rfl
    · have q4 : d_ 4 = true := by simp [hdep]
      have kk := kl5.out w1 (ch2_or F)
      rw [pk_of q4]
      have HF := Lib.hid F
      clear F hdep
      go_simp
      refine HK.out _ _ ⟨?_, HF.out⟩
      rw [pk_of (show upd d_ 5 4 = true from q4)]
      all_goals rfl
    · have q5 : d_ 5 = true := by simp [hdep]
      rw [pk_of q5]
      have HF := Lib.hid F
      clear F hdep
      go_simp
      refine HK.out _ _ ⟨?_, HF.out⟩
      rw [pk_of (show upd d_ 6 5 = true from q5)]
      all_goals rfl
    · have q6 : d_ 6 = true := by simp [hdep]
      rw [pk_of q6]
      obtain ⟨hP, hN⟩ := ch2_s1 F hd_
      obtain ⟨w5, kk, hR⟩ := kr7.out w1 hP
      have HF := Lib.hid (hN _ hR)
      clear F hP hR hN hdep
      go_simp
      have HG := HF.out
      refine HK.out _ _ ⟨?_, HG⟩
      rw [pk_of (show upd d_ 7 6 = true from q6)]
      all_goals rfl
    · have HF := Lib.hid F
      clear F hdep
      go_simp
      refine HK.out _ _ ⟨?_, HF.out⟩
      all_goals rfl
    · have q0 : d_ 0 = true := by simp [hdep]
      have q7 : d_ 7 = true := by simp [hdep]
      have q8 : d_ 8 = true := by simp [hdep]
      rw [pk_of q0, pk_of q7, pk_of q8]
      obtain ⟨hP, hN⟩ := ch2_s2 F (show d_ 7 = true by simp [hdep]) hd_
      have hc := kc9.out w1 hP
      have HN := Lib.hid hN
      clear F hP hN hdep
      go_simp
      refine ⟨trivial, rfl, wideAt_calls (hc.mono ?_)⟩
      rintro e w5 ⟨rfl, hR⟩
      have HG := HN.out w5 hR
      refine HK.out _ _ ⟨?_, HG⟩
      rw [pk_of (show upd d_ 9 0 = true from q0), pk_of (show upd d_ 9 7 = true from q7), pk_of (show upd d_ 9 8 = true from q8)]
      all_goals rfl
    · have q9 : d_ 9 = true := by simp [hdep]
      rw [pk_of q9]
      have HF := Lib.hid F
      clear F hdep
      go_simp
      refine HK.out _ _ ⟨?_, HF.out⟩
      rw [pk_of (show upd d_ 10 9 = true from q9)]
      all_goals rfl
    · have q10 : d_ 10 = true := by simp [hdep]
      rw [pk_of q10]
      have HF := Lib.hid F
      clear F hdep
      go_simp
      refine HK.out _ _ ⟨?_, HF.out⟩
      rw [pk_of (show upd d_ 11 10 = true from q10)]
      all_goals rfl
    · have q10 : d_ 10 = true := by simp [hdep]
      rw [pk_of q10]
      have HF := Lib.hid F
      clear F hdep
      go_simp
      refine HK.out _ _ ⟨?_, HF.out⟩
      rw [pk_of (show upd d_ 12 10 = true from q10)]
      all_goals rfl
    · have q11 : d_ 11 = true := by simp [hdep]
      rw [pk_of q11]
      have HF := Lib.hid F
      clear F hdep
      go_simp
      refine HK.out _ _ ⟨?_, HF.out⟩
      rw [pk_of (show upd d_ 13 11 = true from q11)]
      all_goals rfl
    · have q12 : d_ 12 = true := by simp [hdep]
      rw [pk_of q12]
      have HF := Lib.hid F
      clear F hdep
      go_simp
      refine HK.out _ _ ⟨?_, HF.out⟩
      rw [pk_of (show upd d_ 14 12 = true from q12)]
      all_goals rfl
  · rintro d_ a_ w1 hall ⟨rfl, F⟩
    have hall' : ∀ k, k < 15 → d_ k = true := hall
    rw [hall' 7 (by decide), hall' 9 (by decide)] at F
    have HF := Lib.hid F
    clear F
    rw [pk_of (hall' 0 (by decide)), pk_of (hall' 1 (by decide)), pk_of (hall' 2 (by decide)), pk_of (hall' 3 (by decide)), pk_of (hall' 4 (by decide)), pk_of (hall' 5 (by decide)), pk_of (hall' 6 (by decide)), pk_of (hall' 7 (by decide)), pk_of (hall' 8 (by decide)), pk_of (hall' 9 (by decide)), pk_of (hall' 10 (by decide)), pk_of (hall' 11 (by decide)), pk_of (hall' 12 (by decide)), pk_of (hall' 13 (by decide)), pk_of (hall' 14 (by decide))]
    exact HQ.out w1 HF.out
end Go.Proofs.Ytjkhclijmcmdjaa
