/- How many comparisons are needed: the drawn regions. How many comparisons are needed: what is known of it. How many comparisons are needed: walked. -/
import Derived.Test.YtnfhlbmapfoifaaC9
namespace Go.Proofs.Ytnfhlbmapfoifaa
open Go.RowKit
set_option linter.unusedVariables false
def mxN (a b : Nat) : Nat := max a b
def mnN (a b : Nat) : Nat := min a b
theorem mx_eq (a b : Nat) : (if a < b then (b : Int) else (a : Int)) = ((mxN a b : Nat) : Int) := by unfold mxN; split <;> omega
theorem mn_eq (z m : Nat) : (if 1 + (m : Int) < (z : Int) then 1 + (m : Int) else (z : Int)) = ((mnN z (1 + m) : Nat) : Int) := by unfold mnN; split <;> omega
theorem mx_wrap (a b : Fin 1001) : IntKind.i64.wrap (1 + ((mxN a.val b.val : Nat) : Int)) = 1 + ((mxN a.val b.val : Nat) : Int) := by
  have := a.isLt; have := b.isLt
  have h : mxN a.val b.val ≤ 1000 := by unfold mxN; omega
  rw [IntKind.wrap_i64]; omega
structure ne3F (b2 : Nat) (b3 : Nat) (sb : Nat) (mb : Nat) (sl : Int) (sh : Int) (r : Int) (ok : Bool) (S0 : World → Prop) (d : Nat → Bool) (x16 x17 x18 x19 x20 x21 x15 x22 x23 x5 x6 : Value) (w : World) : Prop where
  q1 : d 1 = true → d 0 = true
  q2 : d 2 = true → d 1 = true
  q3 : d 3 = true → d 2 = true
  q5 : d 5 = true → d 3 = true ∧ d 4 = true
  q6 : d 6 = true → d 5 = true
  q7 : d 7 = true → d 6 = true
  q8 : d 8 = true → d 6 = true
  q9 : d 9 = true → d 0 = true ∧ d 1 = true ∧ d 2 = true ∧ d 3 = true ∧ d 4 = true ∧ d 5 = true ∧ d 6 = true ∧ d 7 = true
  q10 : d 10 = true → d 0 = true ∧ d 1 = true ∧ d 2 = true ∧ d 3 = true ∧ d 4 = true ∧ d 5 = true ∧ d 6 = true ∧ d 7 = true ∧ d 8 = true ∧ d 9 = true
  f0 : d 0 = true → x16 = .pointer (some ⟨sb, 0, none⟩)
  f1 : d 1 = true → x17 = .pointer (some ⟨sb, 0, none⟩)
  f2 : d 2 = true → x18 = .pointer (some ⟨sb, 2, none⟩)
  f3 : d 3 = true → x19 = .map (some mb)
  f4 : d 4 = true → x20 = .agg #[.int .u64 sl, .int .u64 sh]
  f5 : d 5 = true → x21 = .tuple #[.int .i64 r, .bool ok]
  f6 : d 6 = true → x15 = .tuple #[.int .i64 r, .bool ok]
  f7 : d 7 = true → x22 = .int .i64 r
  f8 : d 8 = true → x23 = .bool ok
  f9 : d 9 = true → x5 = .int .i64 r
  f10 : d 10 = true → x6 = .bool ok
  st0 : S0 w
noncomputable def ne3C : Code := (Try.f72.body.bind (regionAt 3)).getD .skip
set_option maxRecDepth 100000 in
set_option maxHeartbeats 4000000 in
theorem ne3 {b2 : Nat} {b3 : Nat} {sb : Nat} {mb : Nat} {sl : Int} {sh : Int} {r : Int} {ok : Bool} {S0 : World → Prop} {Q : Exit → Act → World → Prop} {W1 : World} (h0 : S0 W1.drew)
    (kl0 : Hid (∀ (w : World), (S0 w) → w.cell? ⟨b2, 0, none⟩ = some (.pointer (some ⟨sb, 0, none⟩))))
    (kl3 : Hid (∀ (w : World), (S0 w) → w.cell? ⟨sb, 2, none⟩ = some (.map (some mb))))
    (kl4 : Hid (∀ (w : World), (S0 w) → w.cell? ⟨b3, 0, none⟩ = some (.int .u64 sl) ∧ w.cell? ⟨b3, 1, none⟩ = some (.int .u64 sh)))
    (kl5 : Hid (∀ (w : World), (S0 w) → (Instr.lookup 131 (.map (some mb)) (.agg #[.int .u64 sl, .int .u64 sh]) true).run Try.prog w = .ok (.tuple #[.int .i64 r, .bool ok]) w))
    {s0 s1 s4 s5 s6 s7 s8 s9 s10 s11 s12 s13 s14 s15 s16 s17 s18 s19 s20 s21 s22 s23 s24 s25 s26 s27 s28 s29 s30 s31 s32 s33 s34 s35 s36 s37 s38 s39 s40 s41 s42 s43 s44 s45 s46 s47 s48 s49 s50 s51 s52 s53 s54 s55 s56 s57 s58 s59 s60 s61 s62 s63 s64 s65 s66 s67 s68 s69 s70 s71 : Value} {dd : List Deferred}
    (hQ : ∀ (w' : World), S0 w' → Q .normal { tmps := #[s0, s1, .pointer (some ⟨b2, 0, none⟩), .pointer (some ⟨b3, 0, none⟩), s4, .int .i64 r, .bool ok, s7, s8, s9, s10, s11, s12, s13, s14, .tuple #[.int .i64 r, .bool ok], .pointer (some ⟨sb, 0, none⟩), .pointer (some ⟨sb, 0, none⟩), .pointer (some ⟨sb, 2, none⟩), .map (some mb), .agg #[.int .u64 sl, .int .u64 sh], .tuple #[.int .i64 r, .bool ok], .int .i64 r, .bool ok, s24, s25, s26, s27, s28, s29, s30, s31, s32, s33, s34, s35, s36, s37, s38, s39, s40, s41, s42, s43, s44, s45, s46, s47, s48, s49, s50, s51, s52, s53, s54, s55, s56, s57, s58, s59, s60, s61, s62, s63, s64, s65, s66, s67, s68, s69, s70, s71], defers := dd } w') :
    Code.wpIn (wideAt none) 0 Try.prog ne3C Q { tmps := #[s0, s1, .pointer (some ⟨b2, 0, none⟩), .pointer (some ⟨b3, 0, none⟩), s4, s5, s6, s7, s8, s9, s10, s11, s12, s13, s14, s15, s16, s17, s18, s19, s20, s21, s22, s23, s24, s25, s26, s27, s28, s29, s30, s31, s32, s33, s34, s35, s36, s37, s38, s39, s40, s41, s42, s43, s44, s45, s46, s47, s48, s49, s50, s51, s52, s53, s54, s55, s56, s57, s58, s59, s60, s61, s62, s63, s64, s65, s66, s67, s68, s69, s70, s71], defers := dd } W1 := by
  have HQ := Lib.hid hQ
  clear hQ
  conv => arg 4; whnf
  refine wpIn_region_invG mixed (by kernel_rfl) (fun d_ a_ w' => ∃ (x16 : Value) (x17 : Value) (x18 : Value) (x19 : Value) (x20 : Value) (x21 : Value) (x15 : Value) (x22 : Value) (x23 : Value) (x5 : Value) (x6 : Value), a_ = { tmps := #[s0, s1, .pointer (some ⟨b2, 0, none⟩), .pointer (some ⟨b3, 0, none⟩), s4, x5, x6, s7, s8, s9, s10, s11, s12, s13, s14, x15, x16, x17, x18, x19, x20, x21, x22, x23, s24, s25, s26, s27, s28, s29, s30, s31, s32, s33, s34, s35, s36, s37, s38, s39, s40, s41, s42, s43, s44, s45, s46, s47, s48, s49, s50, s51, s52, s53, s54, s55, s56, s57, s58, s59, s60, s61, s62, s63, s64, s65, s66, s67, s68, s69, s70, s71], defers := dd } ∧ ne3F b2 b3 sb mb sl sh r ok S0 d_ x16 x17 x18 x19 x20 x21 x15 x22 x23 x5 x6 w') ?_ ?_ ?_
  · refine ⟨s16, s17, s18, s19, s20, s21, s15, s22, s23, s5, s6, rfl, ?_⟩
    constructor <;> first | rfl | (intro _; rfl) | (intro h; cases h; done) | (intro _; exact h0) | exact h0
  · refine ⟨?_, ?_, ?_, ?_, ?_, ?_, ?_, ?_, ?_, ?_, ?_, trivial⟩
    all_goals
      rintro d_ a_ w1 K hd_ hdep ⟨x16, x17, x18, x19, x20, x21, x15, x22, x23, x5, x6, rfl, F⟩ HK
      simp [Region.binds] at hdep
    · have hst : S0 w1 := by
        exact F.st0
      have kk := kl0.out w1 hst
      clear hst
      have HF : Hid (ne3F b2 b3 sb mb sl sh r ok S0 (upd d_ 0) (.pointer (some ⟨sb, 0, none⟩)) x17 x18 x19 x20 x21 x15 x22 x23 x5 x6 w1) := ⟨fun h => rfl, F.q2, F.q3, F.q5, F.q6, F.q7, F.q8, fun h => ⟨rfl, (F.q9 h).2.1, (F.q9 h).2.2.1, (F.q9 h).2.2.2.1, (F.q9 h).2.2.2.2.1, (F.q9 h).2.2.2.2.2.1, (F.q9 h).2.2.2.2.2.2.1, (F.q9 h).2.2.2.2.2.2.2⟩, fun h => ⟨rfl, (F.q10 h).2.1, (F.q10 h).2.2.1, (F.q10 h).2.2.2.1, (F.q10 h).2.2.2.2.1, (F.q10 h).2.2.2.2.2.1, (F.q10 h).2.2.2.2.2.2.1, (F.q10 h).2.2.2.2.2.2.2.1, (F.q10 h).2.2.2.2.2.2.2.2.1, (F.q10 h).2.2.2.2.2.2.2.2.2⟩, fun _ => rfl, F.f1, F.f2, F.f3, F.f4, F.f5, F.f6, F.f7, F.f8, F.f9, F.f10, F.st0⟩
      clear F
      go_simp
      exact HK.out _ _ ⟨_, _, _, _, _, _, _, _, _, _, _, rfl, HF.out⟩
    · obtain rfl := F.f0 (by simp [hdep])
      have HF : Hid (ne3F b2 b3 sb mb sl sh r ok S0 (upd d_ 1) (.pointer (some ⟨sb, 0, none⟩)) (.pointer (some ⟨sb, 0, none⟩)) x18 x19 x20 x21 x15 x22 x23 x5 x6 w1) := ⟨fun _ => (show _ from (by simp [hdep] : d_ 0 = true)), fun h => rfl, F.q3, F.q5, F.q6, F.q7, F.q8, fun h => ⟨(F.q9 h).1, rfl, (F.q9 h).2.2.1, (F.q9 h).2.2.2.1, (F.q9 h).2.2.2.2.1, (F.q9 h).2.2.2.2.2.1, (F.q9 h).2.2.2.2.2.2.1, (F.q9 h).2.2.2.2.2.2.2⟩, fun h => ⟨(F.q10 h).1, rfl, (F.q10 h).2.2.1, (F.q10 h).2.2.2.1, (F.q10 h).2.2.2.2.1, (F.q10 h).2.2.2.2.2.1, (F.q10 h).2.2.2.2.2.2.1, (F.q10 h).2.2.2.2.2.2.2.1, (F.q10 h).2.2.2.2.2.2.2.2.1, (F.q10 h).2.2.2.2.2.2.2.2.2⟩, F.f0, fun _ => rfl, F.f2, F.f3, F.f4, F.f5, F.f6, F.f7, F.f8, F.f9, F.f10, F.st0⟩
      clear F
      go_simp
      exact HK.out _ _ ⟨_, _, _, _, _, _, _, _, _, _, _, rfl, HF.out⟩
    · obtain rfl := F.f1 (by simp [hdep])
      have HF : Hid (ne3F b2 b3 sb mb sl sh r ok S0 (upd d_ 2) x16 (.pointer (some ⟨sb, 0, none⟩)) (.pointer (some ⟨sb, 2, none⟩)) x19 x20 x21 x15 x22 x23 x5 x6 w1) := ⟨F.q1, fun _ => (show _ from (by simp [hdep] : d_ 1 = true)), fun h => rfl, F.q5, F.q6, F.q7, F.q8, fun h => ⟨(F.q9 h).1, (F.q9 h).2.1, rfl, (F.q9 h).2.2.2.1, (F.q9 h).2.2.2.2.1, (F.q9 h).2.2.2.2.2.1, (F.q9 h).2.2.2.2.2.2.1, (F.q9 h).2.2.2.2.2.2.2⟩, fun h => ⟨(F.q10 h).1, (F.q10 h).2.1, rfl, (F.q10 h).2.2.2.1, (F.q10 h).2.2.2.2.1, (F.q10 h).2.2.2.2.2.1, (F.q10 h).2.2.2.2.2.2.1, (F.q10 h).2.2.2.2.2.2.2.1, (F.q10 h).2.2.2.2.2.2.2.2.1, (F.q10 h).2.2.2.2.2.2.2.2.2⟩, F.f0, F.f1, fun _ => rfl, F.f3, F.f4, F.f5, F.f6, F.f7, F.f8, F.f9, F.f10, F.st0⟩
      clear F
      go_simp
      exact HK.out _ _ ⟨_, _, _, _, _, _, _, _, _, _, _, rfl, HF.out⟩
    · have hst : S0 w1 := by
        exact F.st0
      have kk := kl3.out w1 hst
      clear hst
      obtain rfl := F.f2 (by simp [hdep])
      have HF : Hid (ne3F b2 b3 sb mb sl sh r ok S0 (upd d_ 3) x16 x17 (.pointer (some ⟨sb, 2, none⟩)) (.map (some mb)) x20 x21 x15 x22 x23 x5 x6 w1) := ⟨F.q1, F.q2, fun _ => (show _ from (by simp [hdep] : d_ 2 = true)), fun h => ⟨rfl, (F.q5 h).2⟩, F.q6, F.q7, F.q8, fun h => ⟨(F.q9 h).1, (F.q9 h).2.1, (F.q9 h).2.2.1, rfl, (F.q9 h).2.2.2.2.1, (F.q9 h).2.2.2.2.2.1, (F.q9 h).2.2.2.2.2.2.1, (F.q9 h).2.2.2.2.2.2.2⟩, fun h => ⟨(F.q10 h).1, (F.q10 h).2.1, (F.q10 h).2.2.1, rfl, (F.q10 h).2.2.2.2.1, (F.q10 h).2.2.2.2.2.1, (F.q10 h).2.2.2.2.2.2.1, (F.q10 h).2.2.2.2.2.2.2.1, (F.q10 h).2.2.2.2.2.2.2.2.1, (F.q10 h).2.2.2.2.2.2.2.2.2⟩, F.f0, F.f1, F.f2, fun _ => rfl, F.f4, F.f5, F.f6, F.f7, F.f8, F.f9, F.f10, F.st0⟩
      clear F
      go_simp
      exact HK.out _ _ ⟨_, _, _, _, _, _, _, _, _, _, _, rfl, HF.out⟩
    · have hst : S0 w1 := by
        exact F.st0
      have kk := kl4.out w1 hst
      obtain ⟨kk0, kk1⟩ := kk
      clear hst
      have HF : Hid (ne3F b2 b3 sb mb sl sh r ok S0 (upd d_ 4) x16 x17 x18 x19 (.agg #[.int .u64 sl, .int .u64 sh]) x21 x15 x22 x23 x5 x6 w1) := ⟨F.q1, F.q2, F.q3, fun h => ⟨(F.q5 h).1, rfl⟩, F.q6, F.q7, F.q8, fun h => ⟨(F.q9 h).1, (F.q9 h).2.1, (F.q9 h).2.2.1, (F.q9 h).2.2.2.1, rfl, (F.q9 h).2.2.2.2.2.1, (F.q9 h).2.2.2.2.2.2.1, (F.q9 h).2.2.2.2.2.2.2⟩, fun h => ⟨(F.q10 h).1, (F.q10 h).2.1, (F.q10 h).2.2.1, (F.q10 h).2.2.2.1, rfl, (F.q10 h).2.2.2.2.2.1, (F.q10 h).2.2.2.2.2.2.1, (F.q10 h).2.2.2.2.2.2.2.1, (F.q10 h).2.2.2.2.2.2.2.2.1, (F.q10 h).2.2.2.2.2.2.2.2.2⟩, F.f0, F.f1, F.f2, F.f3, fun _ => rfl, F.f5, F.f6, F.f7, F.f8, F.f9, F.f10, F.st0⟩
      clear F
      go_simp
      exact HK.out _ _ ⟨_, _, _, _, _, _, _, _, _, _, _, rfl, HF.out⟩
    · have hst : S0 w1 := by
        exact F.st0
      have kk := kl5.out w1 hst
      clear hst
      obtain rfl := F.f3 (by simp [hdep])
      obtain rfl := F.f4 (by simp [hdep])
      have HF : Hid (ne3F b2 b3 sb mb sl sh r ok S0 (upd d_ 5) x16 x17 x18 (.map (some mb)) (.agg #[.int .u64 sl, .int .u64 sh]) (.tuple #[.int .i64 r, .bool ok]) x15 x22 x23 x5 x6 w1) := ⟨F.q1, F.q2, F.q3, fun _ => ⟨(show _ from (by simp [hdep] : d_ 3 = true)), (show _ from (by simp [hdep] : d_ 4 = true))⟩, fun h => rfl, F.q7, F.q8, fun h => ⟨(F.q9 h).1, (F.q9 h).2.1, (F.q9 h).2.2.1, (F.q9 h).2.2.2.1, (F.q9 h).2.2.2.2.1, rfl, (F.q9 h).2.2.2.2.2.2.1, (F.q9 h).2.2.2.2.2.2.2⟩, fun h => ⟨(F.q10 h).1, (F.q10 h).2.1, (F.q10 h).2.2.1, (F.q10 h).2.2.2.1, (F.q10 h).2.2.2.2.1, rfl, (F.q10 h).2.2.2.2.2.2.1, (F.q10 h).2.2.2.2.2.2.2.1, (F.q10 h).2.2.2.2.2.2.2.2.1, (F.q10 h).2.2.2.2.2.2.2.2.2⟩, F.f0, F.f1, F.f2, F.f3, F.f4, fun _ => rfl, F.f6, F.f7, F.f8, F.f9, F.f10, F.st0⟩
      clear F
      go_simp
      exact HK.out _ _ ⟨_, _, _, _, _, _, _, _, _, _, _, rfl, HF.out⟩
    · obtain rfl := F.f5 (by simp [hdep])
      have HF : Hid (ne3F b2 b3 sb mb sl sh r ok S0 (upd d_ 6) x16 x17 x18 x19 x20 (.tuple #[.int .i64 r, .bool ok]) (.tuple #[.int .i64 r, .bool ok]) x22 x23 x5 x6 w1) := ⟨F.q1, F.q2, F.q3, F.q5, fun _ => (show _ from (by simp [hdep] : d_ 5 = true)), fun h => rfl, fun h => rfl, fun h => ⟨(F.q9 h).1, (F.q9 h).2.1, (F.q9 h).2.2.1, (F.q9 h).2.2.2.1, (F.q9 h).2.2.2.2.1, (F.q9 h).2.2.2.2.2.1, rfl, (F.q9 h).2.2.2.2.2.2.2⟩, fun h => ⟨(F.q10 h).1, (F.q10 h).2.1, (F.q10 h).2.2.1, (F.q10 h).2.2.2.1, (F.q10 h).2.2.2.2.1, (F.q10 h).2.2.2.2.2.1, rfl, (F.q10 h).2.2.2.2.2.2.2.1, (F.q10 h).2.2.2.2.2.2.2.2.1, (F.q10 h).2.2.2.2.2.2.2.2.2⟩, F.f0, F.f1, F.f2, F.f3, F.f4, F.f5, fun _ => rfl, F.f7, F.f8, F.f9, F.f10, F.st0⟩
      clear F
      go_simp
      exact HK.out _ _ ⟨_, _, _, _, _, _, _, _, _, _, _, rfl, HF.out⟩
    · obtain rfl := F.f6 (by simp [hdep])
      have HF : Hid (ne3F b2 b3 sb mb sl sh r ok S0 (upd d_ 7) x16 x17 x18 x19 x20 x21 (.tuple #[.int .i64 r, .bool ok]) (.int .i64 r) x23 x5 x6 w1) := ⟨F.q1, F.q2, F.q3, F.q5, F.q6, fun _ => (show _ from (by simp [hdep] : d_ 6 = true)), F.q8, fun h => ⟨(F.q9 h).1, (F.q9 h).2.1, (F.q9 h).2.2.1, (F.q9 h).2.2.2.1, (F.q9 h).2.2.2.2.1, (F.q9 h).2.2.2.2.2.1, (F.q9 h).2.2.2.2.2.2.1, rfl⟩, fun h => ⟨(F.q10 h).1, (F.q10 h).2.1, (F.q10 h).2.2.1, (F.q10 h).2.2.2.1, (F.q10 h).2.2.2.2.1, (F.q10 h).2.2.2.2.2.1, (F.q10 h).2.2.2.2.2.2.1, rfl, (F.q10 h).2.2.2.2.2.2.2.2.1, (F.q10 h).2.2.2.2.2.2.2.2.2⟩, F.f0, F.f1, F.f2, F.f3, F.f4, F.f5, F.f6, fun _ => rfl, F.f8, F.f9, F.f10, F.st0⟩
      clear F
      go_simp
      exact HK.out _ _ ⟨_, _, _, _, _, _, _, _, _, _, _, rfl, HF.out⟩
    · obtain rfl := F.f6 (by simp [hdep])
      have HF : Hid (ne3F b2 b3 sb mb sl sh r ok S0 (upd d_ 8) x16 x17 x18 x19 x20 x21 (.tuple #[.int .i64 r, .bool ok]) x22 (.bool ok) x5 x6 w1) := ⟨F.q1, F.q2, F.q3, F.q5, F.q6, F.q7, fun _ => (show _ from (by simp [hdep] : d_ 6 = true)), F.q9, fun h => ⟨(F.q10 h).1, (F.q10 h).2.1, (F.q10 h).2.2.1, (F.q10 h).2.2.2.1, (F.q10 h).2.2.2.2.1, (F.q10 h).2.2.2.2.2.1, (F.q10 h).2.2.2.2.2.2.1, (F.q10 h).2.2.2.2.2.2.2.1, rfl, (F.q10 h).2.2.2.2.2.2.2.2.2⟩, F.f0, F.f1, F.f2, F.f3, F.f4, F.f5, F.f6, F.f7, fun _ => rfl, F.f9, F.f10, F.st0⟩
      clear F
      go_simp
      exact HK.out _ _ ⟨_, _, _, _, _, _, _, _, _, _, _, rfl, HF.out⟩
    · obtain rfl := F.f7 (by simp [hdep])
      have HF : Hid (ne3F b2 b3 sb mb sl sh r ok S0 (upd d_ 9) x16 x17 x18 x19 x20 x21 x15 (.int .i64 r) x23 (.int .i64 r) x6 w1) := ⟨F.q1, F.q2, F.q3, F.q5, F.q6, F.q7, F.q8, fun _ => ⟨(show _ from (by simp [hdep] : d_ 0 = true)), (show _ from (by simp [hdep] : d_ 1 = true)), (show _ from (by simp [hdep] : d_ 2 = true)), (show _ from (by simp [hdep] : d_ 3 = true)), (show _ from (by simp [hdep] : d_ 4 = true)), (show _ from (by simp [hdep] : d_ 5 = true)), (show _ from (by simp [hdep] : d_ 6 = true)), (show _ from (by simp [hdep] : d_ 7 = true))⟩, fun h => ⟨(F.q10 h).1, (F.q10 h).2.1, (F.q10 h).2.2.1, (F.q10 h).2.2.2.1, (F.q10 h).2.2.2.2.1, (F.q10 h).2.2.2.2.2.1, (F.q10 h).2.2.2.2.2.2.1, (F.q10 h).2.2.2.2.2.2.2.1, (F.q10 h).2.2.2.2.2.2.2.2.1, rfl⟩, F.f0, F.f1, F.f2, F.f3, F.f4, F.f5, F.f6, F.f7, F.f8, fun _ => rfl, F.f10, F.st0⟩
      clear F
      go_simp
      exact HK.out _ _ ⟨_, _, _, _, _, _, _, _, _, _, _, rfl, HF.out⟩
    · obtain rfl := F.f8 (by simp [hdep])
      have HF : Hid (ne3F b2 b3 sb mb sl sh r ok S0 (upd d_ 10) x16 x17 x18 x19 x20 x21 x15 x22 (.bool ok) x5 (.bool ok) w1) := ⟨F.q1, F.q2, F.q3, F.q5, F.q6, F.q7, F.q8, F.q9, fun _ => ⟨(show _ from (by simp [hdep] : d_ 0 = true)), (show _ from (by simp [hdep] : d_ 1 = true)), (show _ from (by simp [hdep] : d_ 2 = true)), (show _ from (by simp [hdep] : d_ 3 = true)), (show _ from (by simp [hdep] : d_ 4 = true)), (show _ from (by simp [hdep] : d_ 5 = true)), (show _ from (by simp [hdep] : d_ 6 = true)), (show _ from (by simp [hdep] : d_ 7 = true)), (show _ from (by simp [hdep] : d_ 8 = true)), (show _ from (by simp [hdep] : d_ 9 = true))⟩, F.f0, F.f1, F.f2, F.f3, F.f4, F.f5, F.f6, F.f7, F.f8, F.f9, fun _ => rfl, F.st0⟩
      clear F
      go_simp
      exact HK.out _ _ ⟨_, _, _, _, _, _, _, _, _, _, _, rfl, HF.out⟩
  · rintro d_ a_ w1 hall ⟨x16, x17, x18, x19, x20, x21, x15, x22, x23, x5, x6, rfl, F⟩
    have hall' : ∀ k, k < 11 → d_ k = true := hall
    obtain rfl := F.f0 (hall' 0 (by decide))
    obtain rfl := F.f1 (hall' 1 (by decide))
    obtain rfl := F.f2 (hall' 2 (by decide))
    obtain rfl := F.f3 (hall' 3 (by decide))
    obtain rfl := F.f4 (hall' 4 (by decide))
    obtain rfl := F.f5 (hall' 5 (by decide))
    obtain rfl := F.f6 (hall' 6 (by decide))
    obtain rfl := F.f7 (hall' 7 (by decide))
    obtain rfl := F.f8 (hall' 8 (by decide))
    obtain rfl := F.f9 (hall' 9 (by decide))
    obtain rfl := F.f10 (hall' 10 (by decide))
    have hst := F.st0
    exact HQ.out  w1 hst
structure ne6F (b2 : Nat) (sb : Nat) (n : Nat) (z : Nat) (S0 : World → Prop) (S1 : Nat → World → Prop) (S2 : Nat → World → Prop) (d : Nat → Bool) (x26 x27 x28 x29 x30 x31 x32 x33 x34 x7 : Value) (b7 : Nat) (w : World) : Prop where
  q1 : d 1 = true → d 0 = true
  q2 : d 2 = true → d 1 = true
  q3 : d 3 = true → d 2 = true
  q5 : d 5 = true → d 4 = true
  q6 : d 6 = true → d 5 = true
  q7 : d 7 = true → d 6 = true
  q8 : d 8 = true → d 3 = true ∧ d 7 = true
  q10 : d 10 = true → d 0 = true ∧ d 1 = true ∧ d 2 = true ∧ d 3 = true ∧ d 4 = true ∧ d 5 = true ∧ d 6 = true ∧ d 7 = true ∧ d 8 = true ∧ d 9 = true
  f0 : d 0 = true → x26 = .pointer (some ⟨sb, 0, none⟩)
  f1 : d 1 = true → x27 = .pointer (some ⟨sb, 0, none⟩)
  f2 : d 2 = true → x28 = .pointer (some ⟨sb, 0, none⟩)
  f3 : d 3 = true → x29 = .int .i64 n
  f4 : d 4 = true → x30 = .pointer (some ⟨sb, 0, none⟩)
  f5 : d 5 = true → x31 = .pointer (some ⟨sb, 0, none⟩)
  f6 : d 6 = true → x32 = .pointer (some ⟨sb, 0, none⟩)
  f7 : d 7 = true → x33 = .int .i64 n
  f8 : d 8 = true → x34 = .int .i64 z
  f9 : d 9 = true → x7 = .pointer (some ⟨b7, 0, none⟩)
  st0 : d 9 = false → S0 w
  st1 : d 9 = true → d 10 = false → S1 b7 w
  st2 : d 10 = true → S2 b7 w
noncomputable def ne6C : Code := (Try.f72.body.bind (regionAt 6)).getD .skip
set_option maxRecDepth 100000 in
set_option maxHeartbeats 4000000 in
theorem ne6 {b2 : Nat} {sb : Nat} {n : Nat} {z : Nat} {S0 : World → Prop} {S1 : Nat → World → Prop} {S2 : Nat → World → Prop} {Q : Exit → Act → World → Prop} {W1 : World} (hmul : IntKind.i64.wrap ((n : Int) * n) = (z : Int)) (h0 : S0 W1.drew)
    (kl0 : Hid (∀ (b7 : Nat) (w : World), (S0 w ∨ S1 b7 w) → w.cell? ⟨b2, 0, none⟩ = some (.pointer (some ⟨sb, 0, none⟩))))
    (kl3 : Hid (∀ (b7 : Nat) (w : World), (S0 w ∨ S1 b7 w) → w.cell? ⟨sb, 0, none⟩ = some (.int .i64 n)))
    (kl4 : Hid (∀ (b7 : Nat) (w : World), (S0 w ∨ S1 b7 w) → w.cell? ⟨b2, 0, none⟩ = some (.pointer (some ⟨sb, 0, none⟩))))
    (kl7 : Hid (∀ (b7 : Nat) (w : World), (S0 w ∨ S1 b7 w) → w.cell? ⟨sb, 0, none⟩ = some (.int .i64 n)))
    (kc9 : Hid (∀ (w : World), S0 w → S1 w.heap.size (w.alloc (.cells #[.int .i64 0] 3))))
    (kc10 : Hid (∀ (b7 : Nat) (w : World), S1 b7 w → (∃ u, w.cell? ⟨b7, 0, none⟩ = some u) ∧ w.frozen? ⟨b7, 0, none⟩ = false ∧ S2 b7 (w.setCell ⟨b7, 0, none⟩ (.int .i64 z))))
    {s0 s1 s3 s4 s5 s6 s7 s8 s9 s10 s11 s12 s13 s14 s15 s16 s17 s18 s19 s20 s21 s22 s23 s24 s25 s26 s27 s28 s29 s30 s31 s32 s33 s34 s35 s36 s37 s38 s39 s40 s41 s42 s43 s44 s45 s46 s47 s48 s49 s50 s51 s52 s53 s54 s55 s56 s57 s58 s59 s60 s61 s62 s63 s64 s65 s66 s67 s68 s69 s70 s71 : Value} {dd : List Deferred}
    (hQ : ∀ (b7 : Nat) (w' : World), S2 b7 w' → Q .normal { tmps := #[s0, s1, .pointer (some ⟨b2, 0, none⟩), s3, s4, s5, s6, .pointer (some ⟨b7, 0, none⟩), s8, s9, s10, s11, s12, s13, s14, s15, s16, s17, s18, s19, s20, s21, s22, s23, s24, s25, .pointer (some ⟨sb, 0, none⟩), .pointer (some ⟨sb, 0, none⟩), .pointer (some ⟨sb, 0, none⟩), .int .i64 n, .pointer (some ⟨sb, 0, none⟩), .pointer (some ⟨sb, 0, none⟩), .pointer (some ⟨sb, 0, none⟩), .int .i64 n, .int .i64 z, s35, s36, s37, s38, s39, s40, s41, s42, s43, s44, s45, s46, s47, s48, s49, s50, s51, s52, s53, s54, s55, s56, s57, s58, s59, s60, s61, s62, s63, s64, s65, s66, s67, s68, s69, s70, s71], defers := dd } w') :
    Code.wpIn (wideAt none) 0 Try.prog ne6C Q { tmps := #[s0, s1, .pointer (some ⟨b2, 0, none⟩), s3, s4, s5, s6, s7, s8, s9, s10, s11, s12, s13, s14, s15, s16, s17, s18, s19, s20, s21, s22, s23, s24, s25, s26, s27, s28, s29, s30, s31, s32, s33, s34, s35, s36, s37, s38, s39, s40, s41, s42, s43, s44, s45, s46, s47, s48, s49, s50, s51, s52, s53, s54, s55, s56, s57, s58, s59, s60, s61, s62, s63, s64, s65, s66, s67, s68, s69, s70, s71], defers := dd } W1 := by
  have HQ := Lib.hid hQ
  clear hQ
  conv => arg 4; whnf
  refine wpIn_region_invG mixed (by kernel_rfl) (fun d_ a_ w' => ∃ (x26 : Value) (x27 : Value) (x28 : Value) (x29 : Value) (x30 : Value) (x31 : Value) (x32 : Value) (x33 : Value) (x34 : Value) (x7 : Value) (b7 : Nat), a_ = { tmps := #[s0, s1, .pointer (some ⟨b2, 0, none⟩), s3, s4, s5, s6, x7, s8, s9, s10, s11, s12, s13, s14, s15, s16, s17, s18, s19, s20, s21, s22, s23, s24, s25, x26, x27, x28, x29, x30, x31, x32, x33, x34, s35, s36, s37, s38, s39, s40, s41, s42, s43, s44, s45, s46, s47, s48, s49, s50, s51, s52, s53, s54, s55, s56, s57, s58, s59, s60, s61, s62, s63, s64, s65, s66, s67, s68, s69, s70, s71], defers := dd } ∧ ne6F b2 sb n z S0 S1 S2 d_ x26 x27 x28 x29 x30 x31 x32 x33 x34 x7 b7 w') ?_ ?_ ?_
  · refine ⟨s26, s27, s28, s29, s30, s31, s32, s33, s34, s7, 0, rfl, ?_⟩
    constructor <;> first | rfl | (intro _; rfl) | (intro h; cases h; done) | (intro _; exact h0) | exact h0
  · refine ⟨?_, ?_, ?_, ?_, ?_, ?_, ?_, ?_, ?_, ?_, ?_, trivial⟩
    all_goals
      rintro d_ a_ w1 K hd_ hdep ⟨x26, x27, x28, x29, x30, x31, x32, x33, x34, x7, b7, rfl, F⟩ HK
      simp [Region.binds] at hdep
    · have hst : S0 w1 ∨ S1 b7 w1 := by
        cases e1 : d_ 9 with
        | false => exact .inl ((F.st0 e1))
        | true =>
          have n_ : d_ 10 = false := by
            cases e_ : d_ 10 with
            | false => rfl
            | true => have h2 := (F.q10 e_).1; rw [show d_ 0 = false from hd_] at h2; cases h2
          exact .inr ((F.st1 e1 n_))
      have kk := kl0.out b7 w1 hst
      clear hst
      have HF : Hid (ne6F b2 sb n z S0 S1 S2 (upd d_ 0) (.pointer (some ⟨sb, 0, none⟩)) x27 x28 x29 x30 x31 x32 x33 x34 x7 b7 w1) := ⟨fun h => rfl, F.q2, F.q3, F.q5, F.q6, F.q7, F.q8, fun h => ⟨rfl, (F.q10 h).2.1, (F.q10 h).2.2.1, (F.q10 h).2.2.2.1, (F.q10 h).2.2.2.2.1, (F.q10 h).2.2.2.2.2.1, (F.q10 h).2.2.2.2.2.2.1, (F.q10 h).2.2.2.2.2.2.2.1, (F.q10 h).2.2.2.2.2.2.2.2.1, (F.q10 h).2.2.2.2.2.2.2.2.2⟩, fun _ => rfl, F.f1, F.f2, F.f3, F.f4, F.f5, F.f6, F.f7, F.f8, F.f9, F.st0, F.st1, F.st2⟩
      clear F
      go_simp
      exact HK.out _ _ ⟨_, _, _, _, _, _, _, _, _, _, _, rfl, HF.out⟩
    · obtain rfl := F.f0 (by simp [hdep])
      have HF : Hid (ne6F b2 sb n z S0 S1 S2 (upd d_ 1) (.pointer (some ⟨sb, 0, none⟩)) (.pointer (some ⟨sb, 0, none⟩)) x28 x29 x30 x31 x32 x33 x34 x7 b7 w1) := ⟨fun _ => (show _ from (by simp [hdep] : d_ 0 = true)), fun h => rfl, F.q3, F.q5, F.q6, F.q7, F.q8, fun h => ⟨(F.q10 h).1, rfl, (F.q10 h).2.2.1, (F.q10 h).2.2.2.1, (F.q10 h).2.2.2.2.1, (F.q10 h).2.2.2.2.2.1, (F.q10 h).2.2.2.2.2.2.1, (F.q10 h).2.2.2.2.2.2.2.1, (F.q10 h).2.2.2.2.2.2.2.2.1, (F.q10 h).2.2.2.2.2.2.2.2.2⟩, F.f0, fun _ => rfl, F.f2, F.f3, F.f4, F.f5, F.f6, F.f7, F.f8, F.f9, F.st0, F.st1, F.st2⟩
      clear F
      go_simp
      exact HK.out _ _ ⟨_, _, _, _, _, _, _, _, _, _, _, rfl, HF.out⟩
    · obtain rfl := F.f1 (by simp [hdep])
      have HF : Hid (ne6F b2 sb n z S0 S1 S2 (upd d_ 2) x26 (.pointer (some ⟨sb, 0, none⟩)) (.pointer (some ⟨sb, 0, none⟩)) x29 x30 x31 x32 x33 x34 x7 b7 w1) := ⟨F.q1, fun _ => (show _ from (by simp [hdep] : d_ 1 = true)), fun h => rfl, F.q5, F.q6, F.q7, F.q8, fun h => ⟨(F.q10 h).1, (F.q10 h).2.1, rfl, (F.q10 h).2.2.2.1, (F.q10 h).2.2.2.2.1, (F.q10 h).2.2.2.2.2.1, (F.q10 h).2.2.2.2.2.2.1, (F.q10 h).2.2.2.2.2.2.2.1, (F.q10 h).2.2.2.2.2.2.2.2.1, (F.q10 h).2.2.2.2.2.2.2.2.2⟩, F.f0, F.f1, fun _ => rfl, F.f3, F.f4, F.f5, F.f6, F.f7, F.f8, F.f9, F.st0, F.st1, F.st2⟩
      clear F
      go_simp
      exact HK.out _ _ ⟨_, _, _, _, _, _, _, _, _, _, _, rfl, HF.out⟩
    · have hst : S0 w1 ∨ S1 b7 w1 := by
        cases e1 : d_ 9 with
        | false => exact .inl ((F.st0 e1))
        | true =>
          have n_ : d_ 10 = false := by
            cases e_ : d_ 10 with
            | false => rfl
            | true => have h2 := (F.q10 e_).2.2.2.1; rw [show d_ 3 = false from hd_] at h2; cases h2
          exact .inr ((F.st1 e1 n_))
      have kk := kl3.out b7 w1 hst
      clear hst
      obtain rfl := F.f2 (by simp [hdep])
      have HF : Hid (ne6F b2 sb n z S0 S1 S2 (upd d_ 3) x26 x27 (.pointer (some ⟨sb, 0, none⟩)) (.int .i64 n) x30 x31 x32 x33 x34 x7 b7 w1) := ⟨F.q1, F.q2, fun _ => (show _ from (by simp [hdep] : d_ 2 = true)), F.q5, F.q6, F.q7, fun h => ⟨rfl, (F.q8 h).2⟩, fun h => ⟨(F.q10 h).1, (F.q10 h).2.1, (F.q10 h).2.2.1, rfl, (F.q10 h).2.2.2.2.1, (F.q10 h).2.2.2.2.2.1, (F.q10 h).2.2.2.2.2.2.1, (F.q10 h).2.2.2.2.2.2.2.1, (F.q10 h).2.2.2.2.2.2.2.2.1, (F.q10 h).2.2.2.2.2.2.2.2.2⟩, F.f0, F.f1, F.f2, fun _ => rfl, F.f4, F.f5, F.f6, F.f7, F.f8, F.f9, F.st0, F.st1, F.st2⟩
      clear F
      go_simp
      exact HK.out _ _ ⟨_, _, _, _, _, _, _, _, _, _, _, rfl, HF.out⟩
    · have hst : S0 w1 ∨ S1 b7 w1 := by
        cases e1 : d_ 9 with
        | false => exact .inl ((F.st0 e1))
        | true =>
          have n_ : d_ 10 = false := by
            cases e_ : d_ 10 with
            | false => rfl
            | true => have h2 := (F.q10 e_).2.2.2.2.1; rw [show d_ 4 = false from hd_] at h2; cases h2
          exact .inr ((F.st1 e1 n_))
      have kk := kl4.out b7 w1 hst
      clear hst
      have HF : Hid (ne6F b2 sb n z S0 S1 S2 (upd d_ 4) x26 x27 x28 x29 (.pointer (some ⟨sb, 0, none⟩)) x31 x32 x33 x34 x7 b7 w1) := ⟨F.q1, F.q2, F.q3, fun h => rfl, F.q6, F.q7, F.q8, fun h => ⟨(F.q10 h).1, (F.q10 h).2.1, (F.q10 h).2.2.1, (F.q10 h).2.2.2.1, rfl, (F.q10 h).2.2.2.2.2.1, (F.q10 h).2.2.2.2.2.2.1, (F.q10 h).2.2.2.2.2.2.2.1, (F.q10 h).2.2.2.2.2.2.2.2.1, (F.q10 h).2.2.2.2.2.2.2.2.2⟩, F.f0, F.f1, F.f2, F.f3, fun _ => rfl, F.f5, F.f6, F.f7, F.f8, F.f9, F.st0, F.st1, F.st2⟩
      clear F
      go_simp
      exact HK.out _ _ ⟨_, _, _, _, _, _, _, _, _, _, _, rfl, HF.out⟩
    · obtain rfl := F.f4 (by simp [hdep])
      have HF : Hid (ne6F b2 sb n z S0 S1 S2 (upd d_ 5) x26 x27 x28 x29 (.pointer (some ⟨sb, 0, none⟩)) (.pointer (some ⟨sb, 0, none⟩)) x32 x33 x34 x7 b7 w1) := ⟨F.q1, F.q2, F.q3, fun _ => (show _ from (by simp [hdep] : d_ 4 = true)), fun h => rfl, F.q7, F.q8, fun h => ⟨(F.q10 h).1, (F.q10 h).2.1, (F.q10 h).2.2.1, (F.q10 h).2.2.2.1, (F.q10 h).2.2.2.2.1, rfl, (F.q10 h).2.2.2.2.2.2.1, (F.q10 h).2.2.2.2.2.2.2.1, (F.q10 h).2.2.2.2.2.2.2.2.1, (F.q10 h).2.2.2.2.2.2.2.2.2⟩, F.f0, F.f1, F.f2, F.f3, F.f4, fun _ => rfl, F.f6, F.f7, F.f8, F.f9, F.st0, F.st1, F.st2⟩
      clear F
      go_simp
      exact HK.out _ _ ⟨_, _, _, _, _, _, _, _, _, _, _, rfl, HF.out⟩
    · obtain rfl := F.f5 (by simp [hdep])
      have HF : Hid (ne6F b2 sb n z S0 S1 S2 (upd d_ 6) x26 x27 x28 x29 x30 (.pointer (some ⟨sb, 0, none⟩)) (.pointer (some ⟨sb, 0, none⟩)) x33 x34 x7 b7 w1) := ⟨F.q1, F.q2, F.q3, F.q5, fun _ => (show _ from (by simp [hdep] : d_ 5 = true)), fun h => rfl, F.q8, fun h => ⟨(F.q10 h).1, (F.q10 h).2.1, (F.q10 h).2.2.1, (F.q10 h).2.2.2.1, (F.q10 h).2.2.2.2.1, (F.q10 h).2.2.2.2.2.1, rfl, (F.q10 h).2.2.2.2.2.2.2.1, (F.q10 h).2.2.2.2.2.2.2.2.1, (F.q10 h).2.2.2.2.2.2.2.2.2⟩, F.f0, F.f1, F.f2, F.f3, F.f4, F.f5, fun _ => rfl, F.f7, F.f8, F.f9, F.st0, F.st1, F.st2⟩
      clear F
      go_simp
      exact HK.out _ _ ⟨_, _, _, _, _, _, _, _, _, _, _, rfl, HF.out⟩
    · have hst : S0 w1 ∨ S1 b7 w1 := by
        cases e1 : d_ 9 with
        | false => exact .inl ((F.st0 e1))
        | true =>
          have n_ : d_ 10 = false := by
            cases e_ : d_ 10 with
            | false => rfl
            | true => have h2 := (F.q10 e_).2.2.2.2.2.2.2.1; rw [show d_ 7 = false from hd_] at h2; cases h2
          exact .inr ((F.st1 e1 n_))
      have kk := kl7.out b7 w1 hst
      clear hst
      obtain rfl := F.f6 (by simp [hdep])
      have HF : Hid (ne6F b2 sb n z S0 S1 S2 (upd d_ 7) x26 x27 x28 x29 x30 x31 (.pointer (some ⟨sb, 0, none⟩)) (.int .i64 n) x34 x7 b7 w1) := ⟨F.q1, F.q2, F.q3, F.q5, F.q6, fun _ => (show _ from (by simp [hdep] : d_ 6 = true)), fun h => ⟨(F.q8 h).1, rfl⟩, fun h => ⟨(F.q10 h).1, (F.q10 h).2.1, (F.q10 h).2.2.1, (F.q10 h).2.2.2.1, (F.q10 h).2.2.2.2.1, (F.q10 h).2.2.2.2.2.1, (F.q10 h).2.2.2.2.2.2.1, rfl, (F.q10 h).2.2.2.2.2.2.2.2.1, (F.q10 h).2.2.2.2.2.2.2.2.2⟩, F.f0, F.f1, F.f2, F.f3, F.f4, F.f5, F.f6, fun _ => rfl, F.f8, F.f9, F.st0, F.st1, F.st2⟩
      clear F
      go_simp
      exact HK.out _ _ ⟨_, _, _, _, _, _, _, _, _, _, _, rfl, HF.out⟩
    · obtain rfl := F.f3 (by simp [hdep])
      obtain rfl := F.f7 (by simp [hdep])
      have HF : Hid (ne6F b2 sb n z S0 S1 S2 (upd d_ 8) x26 x27 x28 (.int .i64 n) x30 x31 x32 (.int .i64 n) (.int .i64 z) x7 b7 w1) := ⟨F.q1, F.q2, F.q3, F.q5, F.q6, F.q7, fun _ => ⟨(show _ from (by simp [hdep] : d_ 3 = true)), (show _ from (by simp [hdep] : d_ 7 = true))⟩, fun h => ⟨(F.q10 h).1, (F.q10 h).2.1, (F.q10 h).2.2.1, (F.q10 h).2.2.2.1, (F.q10 h).2.2.2.2.1, (F.q10 h).2.2.2.2.2.1, (F.q10 h).2.2.2.2.2.2.1, (F.q10 h).2.2.2.2.2.2.2.1, rfl, (F.q10 h).2.2.2.2.2.2.2.2.2⟩, F.f0, F.f1, F.f2, F.f3, F.f4, F.f5, F.f6, F.f7, fun _ => rfl, F.f9, F.st0, F.st1, F.st2⟩
      clear F
      go_simp
      exact HK.out _ _ ⟨_, _, _, _, _, _, _, _, _, _, _, rfl, HF.out⟩
    · have hS := F.st0  hd_
      have hres := kc9.out w1 hS
      have HF : Hid (ne6F b2 sb n z S0 S1 S2 (upd d_ 9) x26 x27 x28 x29 x30 x31 x32 x33 x34 ((.pointer (some ⟨w1.heap.size, 0, none⟩))) w1.heap.size (w1.alloc (.cells #[.int .i64 0] 3))) := ⟨F.q1, F.q2, F.q3, F.q5, F.q6, F.q7, F.q8, fun h => ⟨(F.q10 h).1, (F.q10 h).2.1, (F.q10 h).2.2.1, (F.q10 h).2.2.2.1, (F.q10 h).2.2.2.2.1, (F.q10 h).2.2.2.2.2.1, (F.q10 h).2.2.2.2.2.2.1, (F.q10 h).2.2.2.2.2.2.2.1, (F.q10 h).2.2.2.2.2.2.2.2.1, rfl⟩, F.f0, F.f1, F.f2, F.f3, F.f4, F.f5, F.f6, F.f7, F.f8, fun _ => rfl, fun h => (by simp [upd] at h), fun _ _ => hres, fun h => (by have h2 : d_ 9 = true := (F.q10 h).2.2.2.2.2.2.2.2.2; rw [show d_ 9 = false from hd_] at h2; cases h2)⟩
      clear F hS hres
      go_simp
      exact HK.out _ _ ⟨_, _, _, _, _, _, _, _, _, _, _, rfl, HF.out⟩
    · have hS := F.st1 (by simp [hdep] : d_ 9 = true) hd_
      obtain rfl := F.f8 (by simp [hdep])
      obtain rfl := F.f9 (by simp [hdep])
      obtain ⟨⟨u0, kcell0⟩, kfr0, hres⟩ := kc10.out b7 w1 hS
      have HF : Hid (ne6F b2 sb n z S0 S1 S2 (upd d_ 10) x26 x27 x28 x29 x30 x31 x32 x33 (.int .i64 z) (.pointer (some ⟨b7, 0, none⟩)) b7 (w1.setCell ⟨b7, 0, none⟩ (.int .i64 z))) := ⟨F.q1, F.q2, F.q3, F.q5, F.q6, F.q7, F.q8, fun _ => ⟨(show _ from (by simp [hdep] : d_ 0 = true)), (show _ from (by simp [hdep] : d_ 1 = true)), (show _ from (by simp [hdep] : d_ 2 = true)), (show _ from (by simp [hdep] : d_ 3 = true)), (show _ from (by simp [hdep] : d_ 4 = true)), (show _ from (by simp [hdep] : d_ 5 = true)), (show _ from (by simp [hdep] : d_ 6 = true)), (show _ from (by simp [hdep] : d_ 7 = true)), (show _ from (by simp [hdep] : d_ 8 = true)), (show _ from (by simp [hdep] : d_ 9 = true))⟩, F.f0, F.f1, F.f2, F.f3, F.f4, F.f5, F.f6, F.f7, F.f8, F.f9, fun h => (by have h2 : d_ 9 = false := h; rw [(by simp [hdep] : d_ 9 = true)] at h2; cases h2), fun _ h => (by simp [upd] at h), fun _ => hres⟩
      clear F hS hres
      go_simp
      exact HK.out _ _ ⟨_, _, _, _, _, _, _, _, _, _, _, rfl, HF.out⟩
  · rintro d_ a_ w1 hall ⟨x26, x27, x28, x29, x30, x31, x32, x33, x34, x7, b7, rfl, F⟩
    have hall' : ∀ k, k < 11 → d_ k = true := hall
    obtain rfl := F.f0 (hall' 0 (by decide))
    obtain rfl := F.f1 (hall' 1 (by decide))
    obtain rfl := F.f2 (hall' 2 (by decide))
    obtain rfl := F.f3 (hall' 3 (by decide))
    obtain rfl := F.f4 (hall' 4 (by decide))
    obtain rfl := F.f5 (hall' 5 (by decide))
    obtain rfl := F.f6 (hall' 6 (by decide))
    obtain rfl := F.f7 (hall' 7 (by decide))
    obtain rfl := F.f8 (hall' 8 (by decide))
    obtain rfl := F.f9 (hall' 9 (by decide))
    have hst := F.st2 (hall' 10 (by decide))
    exact HQ.out b7 w1 hst
attribute [local go_sem] Oper.semAt_some
structure ne12F (b2 : Nat) (sb : Nat) (b7 : Nat) (b10 : Nat) (b11 : Nat) (xl : Int) (xh : Int) (yl : Int) (yh : Int) (z : Nat) (rl : Nat) (S0 : World → Prop) (S1 : Fin 1001 → World → Prop) (S2 : Fin 1001 → Fin 1001 → World → Prop) (S3 : Fin 1001 → Fin 1001 → World → Prop) (d : Nat → Bool) (x55 x56 x57 x58 x59 x60 x61 x62 x63 x64 : Value) (nx : Fin 1001) (ny : Fin 1001) (w : World) : Prop where
  q3 : d 3 = true → d 1 = true ∧ d 2 = true
  q6 : d 6 = true → d 3 = true ∧ d 4 = true ∧ d 5 = true
  q7 : d 7 = true → d 3 = true ∧ d 6 = true
  q8 : d 8 = true → d 7 = true
  q9 : d 9 = true → d 0 = true ∧ d 8 = true
  q10 : d 10 = true → d 0 = true ∧ d 1 = true ∧ d 2 = true ∧ d 3 = true ∧ d 4 = true ∧ d 5 = true ∧ d 6 = true ∧ d 7 = true ∧ d 8 = true ∧ d 9 = true
  f0 : d 0 = true → x55 = .int .i64 z
  f1 : d 1 = true → x56 = .pointer (some ⟨sb, 0, none⟩)
  f2 : d 2 = true → x57 = .agg #[.int .u64 xl, .int .u64 xh]
  f3 : d 3 = true → x58 = .int .i64 nx.val
  f4 : d 4 = true → x59 = .pointer (some ⟨sb, 0, none⟩)
  f5 : d 5 = true → x60 = .agg #[.int .u64 yl, .int .u64 yh]
  f6 : d 6 = true → x61 = .int .i64 ny.val
  f7 : d 7 = true → x62 = .int .i64 (mxN nx.val ny.val : Nat)
  f8 : d 8 = true → x63 = .int .i64 (1 + (mxN nx.val ny.val : Nat) : Int)
  f9 : d 9 = true → x64 = .int .i64 (mnN z (1 + mxN nx.val ny.val) : Nat)
  st0 : d 3 = false → S0 w
  st1 : d 3 = true → d 6 = false → S1 nx w
  st2 : d 6 = true → d 10 = false → S2 nx ny w
  st3 : d 10 = true → S3 nx ny w
noncomputable def ne12C : Code := (Try.f72.body.bind (regionR 12)).getD .skip
set_option maxRecDepth 100000 in
set_option maxHeartbeats 4000000 in
theorem ne12 {b2 : Nat} {sb : Nat} {b7 : Nat} {b10 : Nat} {b11 : Nat} {xl : Int} {xh : Int} {yl : Int} {yh : Int} {z : Nat} {rl : Nat} {S0 : World → Prop} {S1 : Fin 1001 → World → Prop} {S2 : Fin 1001 → Fin 1001 → World → Prop} {S3 : Fin 1001 → Fin 1001 → World → Prop} {Q : Exit → Act → World → Prop} {W1 : World} (h0 : S0 W1.drew)
    (kl0 : Hid (∀ (nx : Fin 1001) (ny : Fin 1001) (w : World), (S0 w ∨ S1 nx w ∨ S2 nx ny w) → w.cell? ⟨b7, 0, none⟩ = some (.int .i64 z)))
    (kl1 : Hid (∀ (w : World), (S0 w) → w.cell? ⟨b2, 0, none⟩ = some (.pointer (some ⟨sb, 0, none⟩))))
    (kl2 : Hid (∀ (w : World), (S0 w) → w.cell? ⟨b10, 0, none⟩ = some (.int .u64 xl) ∧ w.cell? ⟨b10, 1, none⟩ = some (.int .u64 xh)))
    (kc3 : Hid (∀ (w : World), S0 w → Calls Try.prog 72 #[.pointer (some ⟨sb, 0, none⟩), .agg #[.int .u64 xl, .int .u64 xh]] w fun e w' => ∃ nx : Fin 1001, e = .returned (.int .i64 nx.val) ∧ S1 nx w'))
    (kl4 : Hid (∀ (nx : Fin 1001) (w : World), (S0 w ∨ S1 nx w) → w.cell? ⟨b2, 0, none⟩ = some (.pointer (some ⟨sb, 0, none⟩))))
    (kl5 : Hid (∀ (nx : Fin 1001) (w : World), (S0 w ∨ S1 nx w) → w.cell? ⟨b11, 0, none⟩ = some (.int .u64 yl) ∧ w.cell? ⟨b11, 1, none⟩ = some (.int .u64 yh)))
    (kc6 : Hid (∀ (nx : Fin 1001) (w : World), S1 nx w → Calls Try.prog 72 #[.pointer (some ⟨sb, 0, none⟩), .agg #[.int .u64 yl, .int .u64 yh]] w fun e w' => ∃ ny : Fin 1001, e = .returned (.int .i64 ny.val) ∧ S2 nx ny w'))
    (kc10 : Hid (∀ (nx : Fin 1001) (ny : Fin 1001) (w : World), S2 nx ny w → (∃ u, w.cell? ⟨b7, 0, none⟩ = some u) ∧ w.frozen? ⟨b7, 0, none⟩ = false ∧ S3 nx ny (w.setCell ⟨b7, 0, none⟩ (.int .i64 (mnN z (1 + mxN nx.val ny.val) : Nat)))))
    {s0 s1 s3 s4 s5 s6 s8 s9 s12 s13 s14 s15 s16 s17 s18 s19 s20 s21 s22 s23 s24 s25 s26 s27 s28 s29 s30 s31 s32 s33 s34 s35 s36 s37 s38 s39 s40 s41 s42 s43 s44 s45 s46 s47 s48 s49 s50 s51 s52 s53 s54 s55 s56 s57 s58 s59 s60 s61 s62 s63 s64 s65 s66 s67 s68 s69 s70 s71 : Value} {dd : List Deferred}
    (hQ : ∀ (nx : Fin 1001) (ny : Fin 1001) (w' : World), S3 nx ny w' → Q .normal { tmps := #[s0, s1, .pointer (some ⟨b2, 0, none⟩), s3, s4, s5, s6, .pointer (some ⟨b7, 0, none⟩), s8, s9, .pointer (some ⟨b10, 0, none⟩), .pointer (some ⟨b11, 0, none⟩), s12, s13, s14, s15, s16, s17, s18, s19, s20, s21, s22, s23, s24, s25, s26, s27, s28, s29, s30, s31, s32, s33, s34, s35, s36, s37, s38, s39, s40, s41, s42, s43, s44, s45, s46, s47, s48, s49, s50, s51, s52, s53, s54, .int .i64 z, .pointer (some ⟨sb, 0, none⟩), .agg #[.int .u64 xl, .int .u64 xh], .int .i64 nx.val, .pointer (some ⟨sb, 0, none⟩), .agg #[.int .u64 yl, .int .u64 yh], .int .i64 ny.val, .int .i64 (mxN nx.val ny.val : Nat), .int .i64 (1 + (mxN nx.val ny.val : Nat) : Int), .int .i64 (mnN z (1 + mxN nx.val ny.val) : Nat), s65, s66, s67, s68, s69, s70, s71], defers := dd } w') :
    Code.wpIn (wideAt (some rl)) 0 Try.prog ne12C Q { tmps := #[s0, s1, .pointer (some ⟨b2, 0, none⟩), s3, s4, s5, s6, .pointer (some ⟨b7, 0, none⟩), s8, s9, .pointer (some ⟨b10, 0, none⟩), .pointer (some ⟨b11, 0, none⟩), s12, s13, s14, s15, s16, s17, s18, s19, s20, s21, s22, s23, s24, s25, s26, s27, s28, s29, s30, s31, s32, s33, s34, s35, s36, s37, s38, s39, s40, s41, s42, s43, s44, s45, s46, s47, s48, s49, s50, s51, s52, s53, s54, s55, s56, s57, s58, s59, s60, s61, s62, s63, s64, s65, s66, s67, s68, s69, s70, s71], defers := dd } W1 := by
  have HQ := Lib.hid hQ
  clear hQ
  conv => arg 4; whnf
  refine wpIn_region_invG mixed (by kernel_rfl) (fun d_ a_ w' => ∃ (x55 : Value) (x56 : Value) (x57 : Value) (x58 : Value) (x59 : Value) (x60 : Value) (x61 : Value) (x62 : Value) (x63 : Value) (x64 : Value) (nx : Fin 1001) (ny : Fin 1001), a_ = { tmps := #[s0, s1, .pointer (some ⟨b2, 0, none⟩), s3, s4, s5, s6, .pointer (some ⟨b7, 0, none⟩), s8, s9, .pointer (some ⟨b10, 0, none⟩), .pointer (some ⟨b11, 0, none⟩), s12, s13, s14, s15, s16, s17, s18, s19, s20, s21, s22, s23, s24, s25, s26, s27, s28, s29, s30, s31, s32, s33, s34, s35, s36, s37, s38, s39, s40, s41, s42, s43, s44, s45, s46, s47, s48, s49, s50, s51, s52, s53, s54, x55, x56, x57, x58, x59, x60, x61, x62, x63, x64, s65, s66, s67, s68, s69, s70, s71], defers := dd } ∧ ne12F b2 sb b7 b10 b11 xl xh yl yh z rl S0 S1 S2 S3 d_ x55 x56 x57 x58 x59 x60 x61 x62 x63 x64 nx ny w') ?_ ?_ ?_
  · refine ⟨s55, s56, s57, s58, s59, s60, s61, s62, s63, s64, default, default, rfl, ?_⟩
    constructor <;> first | rfl | (intro _; rfl) | (intro h; cases h; done) | (intro _; exact h0) | exact h0
  · refine ⟨?_, ?_, ?_, ?_, ?_, ?_, ?_, ?_, ?_, ?_, ?_, trivial⟩
    all_goals
      rintro d_ a_ w1 K hd_ hdep ⟨x55, x56, x57, x58, x59, x60, x61, x62, x63, x64, nx, ny, rfl, F⟩ HK
      simp [Region.binds] at hdep
    · have hst : S0 w1 ∨ S1 nx w1 ∨ S2 nx ny w1 := by
        cases e1 : d_ 3 with
        | false => exact .inl ((F.st0 e1))
        | true =>
          cases e2 : d_ 6 with
          | false => exact .inr (.inl ((F.st1 e1 e2)))
          | true =>
            have n_ : d_ 10 = false := by
              cases e_ : d_ 10 with
              | false => rfl
              | true => have h2 := (F.q10 e_).1; rw [show d_ 0 = false from hd_] at h2; cases h2
            exact .inr (.inr ((F.st2 e2 n_)))
      have kk := kl0.out nx ny w1 hst
      clear hst
      have HF : Hid (ne12F b2 sb b7 b10 b11 xl xh yl yh z rl S0 S1 S2 S3 (upd d_ 0) (.int .i64 z) x56 x57 x58 x59 x60 x61 x62 x63 x64 nx ny w1) := ⟨F.q3, F.q6, F.q7, F.q8, fun h => ⟨rfl, (F.q9 h).2⟩, fun h => ⟨rfl, (F.q10 h).2.1, (F.q10 h).2.2.1, (F.q10 h).2.2.2.1, (F.q10 h).2.2.2.2.1, (F.q10 h).2.2.2.2.2.1, (F.q10 h).2.2.2.2.2.2.1, (F.q10 h).2.2.2.2.2.2.2.1, (F.q10 h).2.2.2.2.2.2.2.2.1, (F.q10 h).2.2.2.2.2.2.2.2.2⟩, fun _ => rfl, F.f1, F.f2, F.f3, F.f4, F.f5, F.f6, F.f7, F.f8, F.f9, F.st0, F.st1, F.st2, F.st3⟩
      clear F
      go_simp
      exact HK.out _ _ ⟨_, _, _, _, _, _, _, _, _, _, _, _, rfl, HF.out⟩
    · have hst : S0 w1 := by
        have n_ : d_ 3 = false := by
          cases e_ : d_ 3 with
          | false => rfl
          | true => have h2 := (F.q3 e_).1; rw [show d_ 1 = false from hd_] at h2; cases h2
        exact (F.st0 n_)
      have kk := kl1.out w1 hst
      clear hst
      have HF : Hid (ne12F b2 sb b7 b10 b11 xl xh yl yh z rl S0 S1 S2 S3 (upd d_ 1) x55 (.pointer (some ⟨sb, 0, none⟩)) x57 x58 x59 x60 x61 x62 x63 x64 nx ny w1) := ⟨fun h => ⟨rfl, (F.q3 h).2⟩, F.q6, F.q7, F.q8, F.q9, fun h => ⟨(F.q10 h).1, rfl, (F.q10 h).2.2.1, (F.q10 h).2.2.2.1, (F.q10 h).2.2.2.2.1, (F.q10 h).2.2.2.2.2.1, (F.q10 h).2.2.2.2.2.2.1, (F.q10 h).2.2.2.2.2.2.2.1, (F.q10 h).2.2.2.2.2.2.2.2.1, (F.q10 h).2.2.2.2.2.2.2.2.2⟩, F.f0, fun _ => rfl, F.f2, F.f3, F.f4, F.f5, F.f6, F.f7, F.f8, F.f9, F.st0, F.st1, F.st2, F.st3⟩
      clear F
      go_simp
      exact HK.out _ _ ⟨_, _, _, _, _, _, _, _, _, _, _, _, rfl, HF.out⟩
    · have hst : S0 w1 := by
        have n_ : d_ 3 = false := by
          cases e_ : d_ 3 with
          | false => rfl
          | true => have h2 := (F.q3 e_).2; rw [show d_ 2 = false from hd_] at h2; cases h2
        exact (F.st0 n_)
      have kk := kl2.out w1 hst
      obtain ⟨kk0, kk1⟩ := kk
      clear hst
      have HF : Hid (ne12F b2 sb b7 b10 b11 xl xh yl yh z rl S0 S1 S2 S3 (upd d_ 2) x55 x56 (.agg #[.int .u64 xl, .int .u64 xh]) x58 x59 x60 x61 x62 x63 x64 nx ny w1) := ⟨fun h => ⟨(F.q3 h).1, rfl⟩, F.q6, F.q7, F.q8, F.q9, fun h => ⟨(F.q10 h).1, (F.q10 h).2.1, rfl, (F.q10 h).2.2.2.1, (F.q10 h).2.2.2.2.1, (F.q10 h).2.2.2.2.2.1, (F.q10 h).2.2.2.2.2.2.1, (F.q10 h).2.2.2.2.2.2.2.1, (F.q10 h).2.2.2.2.2.2.2.2.1, (F.q10 h).2.2.2.2.2.2.2.2.2⟩, F.f0, F.f1, fun _ => rfl, F.f3, F.f4, F.f5, F.f6, F.f7, F.f8, F.f9, F.st0, F.st1, F.st2, F.st3⟩
      clear F
      go_simp
      exact HK.out _ _ ⟨_, _, _, _, _, _, _, _, _, _, _, _, rfl, HF.out⟩
    · have hS := F.st0  hd_
      obtain rfl := F.f1 (by simp [hdep])
      obtain rfl := F.f2 (by simp [hdep])
      have hc := kc3.out w1 hS
      have HF := Lib.hid F
      clear F
      go_simp
      refine ⟨trivial, rfl, wideAt_calls (hc.mono ?_)⟩
      rintro e w5 ⟨v_, rfl, hres⟩
      exact HK.out _ _ ⟨_, _, _, _, _, _, _, _, _, _, v_, ny, rfl, ⟨fun _ => ⟨(show _ from (by simp [hdep] : d_ 1 = true)), (show _ from (by simp [hdep] : d_ 2 = true))⟩, fun h => ⟨rfl, (HF.out.q6 h).2.1, (HF.out.q6 h).2.2⟩, fun h => ⟨rfl, (HF.out.q7 h).2⟩, HF.out.q8, HF.out.q9, fun h => ⟨(HF.out.q10 h).1, (HF.out.q10 h).2.1, (HF.out.q10 h).2.2.1, rfl, (HF.out.q10 h).2.2.2.2.1, (HF.out.q10 h).2.2.2.2.2.1, (HF.out.q10 h).2.2.2.2.2.2.1, (HF.out.q10 h).2.2.2.2.2.2.2.1, (HF.out.q10 h).2.2.2.2.2.2.2.2.1, (HF.out.q10 h).2.2.2.2.2.2.2.2.2⟩, HF.out.f0, HF.out.f1, HF.out.f2, fun _ => rfl, HF.out.f4, HF.out.f5, HF.out.f6, fun h => (by have h2 : d_ 3 = true := (HF.out.q7 h).1; rw [show d_ 3 = false from hd_] at h2; cases h2), fun h => (by have h2 : d_ 3 = true := (HF.out.q7 (HF.out.q8 h)).1; rw [show d_ 3 = false from hd_] at h2; cases h2), fun h => (by have h2 : d_ 3 = true := (HF.out.q7 (HF.out.q8 (HF.out.q9 h).2)).1; rw [show d_ 3 = false from hd_] at h2; cases h2), fun h => (by simp [upd] at h), fun _ _ => hres, fun h _ => (by have h2 : d_ 3 = true := (HF.out.q6 h).1; rw [show d_ 3 = false from hd_] at h2; cases h2), fun h => (by have h2 : d_ 3 = true := (HF.out.q10 h).2.2.2.1; rw [show d_ 3 = false from hd_] at h2; cases h2)⟩⟩
    · have hst : S0 w1 ∨ S1 nx w1 := by
        cases e1 : d_ 3 with
        | false => exact .inl ((F.st0 e1))
        | true =>
          have n_ : d_ 6 = false := by
            cases e_ : d_ 6 with
            | false => rfl
            | true => have h2 := (F.q6 e_).2.1; rw [show d_ 4 = false from hd_] at h2; cases h2
          exact .inr ((F.st1 e1 n_))
      have kk := kl4.out nx w1 hst
      clear hst
      have HF : Hid (ne12F b2 sb b7 b10 b11 xl xh yl yh z rl S0 S1 S2 S3 (upd d_ 4) x55 x56 x57 x58 (.pointer (some ⟨sb, 0, none⟩)) x60 x61 x62 x63 x64 nx ny w1) := ⟨F.q3, fun h => ⟨(F.q6 h).1, rfl, (F.q6 h).2.2⟩, F.q7, F.q8, F.q9, fun h => ⟨(F.q10 h).1, (F.q10 h).2.1, (F.q10 h).2.2.1, (F.q10 h).2.2.2.1, rfl, (F.q10 h).2.2.2.2.2.1, (F.q10 h).2.2.2.2.2.2.1, (F.q10 h).2.2.2.2.2.2.2.1, (F.q10 h).2.2.2.2.2.2.2.2.1, (F.q10 h).2.2.2.2.2.2.2.2.2⟩, F.f0, F.f1, F.f2, F.f3, fun _ => rfl, F.f5, F.f6, F.f7, F.f8, F.f9, F.st0, F.st1, F.st2, F.st3⟩
      clear F
      go_simp
      exact HK.out _ _ ⟨_, _, _, _, _, _, _, _, _, _, _, _, rfl, HF.out⟩
    · have hst : S0 w1 ∨ S1 nx w1 := by
        cases e1 : d_ 3 with
        | false => exact .inl ((F.st0 e1))
        | true =>
          have n_ : d_ 6 = false := by
            cases e_ : d_ 6 with
            | false => rfl
            | true => have h2 := (F.q6 e_).2.2; rw [show d_ 5 = false from hd_] at h2; cases h2
          exact .inr ((F.st1 e1 n_))
      have kk := kl5.out nx w1 hst
      obtain ⟨kk0, kk1⟩ := kk
      clear hst
      have HF : Hid (ne12F b2 sb b7 b10 b11 xl xh yl yh z rl S0 S1 S2 S3 (upd d_ 5) x55 x56 x57 x58 x59 (.agg #[.int .u64 yl, .int .u64 yh]) x61 x62 x63 x64 nx ny w1) := ⟨F.q3, fun h => ⟨(F.q6 h).1, (F.q6 h).2.1, rfl⟩, F.q7, F.q8, F.q9, fun h => ⟨(F.q10 h).1, (F.q10 h).2.1, (F.q10 h).2.2.1, (F.q10 h).2.2.2.1, (F.q10 h).2.2.2.2.1, rfl, (F.q10 h).2.2.2.2.2.2.1, (F.q10 h).2.2.2.2.2.2.2.1, (F.q10 h).2.2.2.2.2.2.2.2.1, (F.q10 h).2.2.2.2.2.2.2.2.2⟩, F.f0, F.f1, F.f2, F.f3, F.f4, fun _ => rfl, F.f6, F.f7, F.f8, F.f9, F.st0, F.st1, F.st2, F.st3⟩
      clear F
      go_simp
      exact HK.out _ _ ⟨_, _, _, _, _, _, _, _, _, _, _, _, rfl, HF.out⟩
    · have hS := F.st1 (by simp [hdep] : d_ 3 = true) hd_
      obtain rfl := F.f4 (by simp [hdep])
      obtain rfl := F.f5 (by simp [hdep])
      have hc := kc6.out nx w1 hS
      have HF := Lib.hid F
      clear F
      go_simp
      refine ⟨trivial, rfl, wideAt_calls (hc.mono ?_)⟩
      rintro e w5 ⟨v_, rfl, hres⟩
      exact HK.out _ _ ⟨_, _, _, _, _, _, _, _, _, _, nx, v_, rfl, ⟨HF.out.q3, fun _ => ⟨(show _ from (by simp [hdep] : d_ 3 = true)), (show _ from (by simp [hdep] : d_ 4 = true)), (show _ from (by simp [hdep] : d_ 5 = true))⟩, fun h => ⟨(HF.out.q7 h).1, rfl⟩, HF.out.q8, HF.out.q9, fun h => ⟨(HF.out.q10 h).1, (HF.out.q10 h).2.1, (HF.out.q10 h).2.2.1, (HF.out.q10 h).2.2.2.1, (HF.out.q10 h).2.2.2.2.1, (HF.out.q10 h).2.2.2.2.2.1, rfl, (HF.out.q10 h).2.2.2.2.2.2.2.1, (HF.out.q10 h).2.2.2.2.2.2.2.2.1, (HF.out.q10 h).2.2.2.2.2.2.2.2.2⟩, HF.out.f0, HF.out.f1, HF.out.f2, HF.out.f3, HF.out.f4, HF.out.f5, fun _ => rfl, fun h => (by have h2 : d_ 6 = true := (HF.out.q7 h).2; rw [show d_ 6 = false from hd_] at h2; cases h2), fun h => (by have h2 : d_ 6 = true := (HF.out.q7 (HF.out.q8 h)).2; rw [show d_ 6 = false from hd_] at h2; cases h2), fun h => (by have h2 : d_ 6 = true := (HF.out.q7 (HF.out.q8 (HF.out.q9 h).2)).2; rw [show d_ 6 = false from hd_] at h2; cases h2), fun h => (by have h2 : d_ 3 = false := h; rw [(by simp [hdep] : d_ 3 = true)] at h2; cases h2), fun _ h => (by simp [upd] at h), fun _ _ => hres, fun h => (by have h2 : d_ 6 = true := (HF.out.q10 h).2.2.2.2.2.2.1; rw [show d_ 6 = false from hd_] at h2; cases h2)⟩⟩
    · obtain rfl := F.f3 (by simp [hdep])
      obtain rfl := F.f6 (by simp [hdep])
      have HF : Hid (ne12F b2 sb b7 b10 b11 xl xh yl yh z rl S0 S1 S2 S3 (upd d_ 7) x55 x56 x57 (.int .i64 nx.val) x59 x60 (.int .i64 ny.val) (.int .i64 (mxN nx.val ny.val : Nat)) x63 x64 nx ny w1) := ⟨F.q3, F.q6, fun _ => ⟨(show _ from (by simp [hdep] : d_ 3 = true)), (show _ from (by simp [hdep] : d_ 6 = true))⟩, fun h => rfl, F.q9, fun h => ⟨(F.q10 h).1, (F.q10 h).2.1, (F.q10 h).2.2.1, (F.q10 h).2.2.2.1, (F.q10 h).2.2.2.2.1, (F.q10 h).2.2.2.2.2.1, (F.q10 h).2.2.2.2.2.2.1, rfl, (F.q10 h).2.2.2.2.2.2.2.2.1, (F.q10 h).2.2.2.2.2.2.2.2.2⟩, F.f0, F.f1, F.f2, F.f3, F.f4, F.f5, F.f6, fun _ => rfl, F.f8, F.f9, F.st0, F.st1, F.st2, F.st3⟩
      clear F
      have hmx := mx_eq nx.val ny.val
      go_simp
      exact HK.out _ _ ⟨_, _, _, _, _, _, _, _, _, _, _, _, rfl, HF.out⟩
    · obtain rfl := F.f7 (by simp [hdep])
      have HF : Hid (ne12F b2 sb b7 b10 b11 xl xh yl yh z rl S0 S1 S2 S3 (upd d_ 8) x55 x56 x57 x58 x59 x60 x61 (.int .i64 (mxN nx.val ny.val : Nat)) (.int .i64 (1 + (mxN nx.val ny.val : Nat) : Int)) x64 nx ny w1) := ⟨F.q3, F.q6, F.q7, fun _ => (show _ from (by simp [hdep] : d_ 7 = true)), fun h => ⟨(F.q9 h).1, rfl⟩, fun h => ⟨(F.q10 h).1, (F.q10 h).2.1, (F.q10 h).2.2.1, (F.q10 h).2.2.2.1, (F.q10 h).2.2.2.2.1, (F.q10 h).2.2.2.2.2.1, (F.q10 h).2.2.2.2.2.2.1, (F.q10 h).2.2.2.2.2.2.2.1, rfl, (F.q10 h).2.2.2.2.2.2.2.2.2⟩, F.f0, F.f1, F.f2, F.f3, F.f4, F.f5, F.f6, F.f7, fun _ => rfl, F.f9, F.st0, F.st1, F.st2, F.st3⟩
      clear F
      have hm := mx_wrap nx ny
      go_simp
      exact HK.out _ _ ⟨_, _, _, _, _, _, _, _, _, _, _, _, rfl, HF.out⟩
    · obtain rfl := F.f0 (by simp [hdep])
      obtain rfl := F.f8 (by simp [hdep])
      have HF : Hid (ne12F b2 sb b7 b10 b11 xl xh yl yh z rl S0 S1 S2 S3 (upd d_ 9) (.int .i64 z) x56 x57 x58 x59 x60 x61 x62 (.int .i64 (1 + (mxN nx.val ny.val : Nat) : Int)) (.int .i64 (mnN z (1 + mxN nx.val ny.val) : Nat)) nx ny w1) := ⟨F.q3, F.q6, F.q7, F.q8, fun _ => ⟨(show _ from (by simp [hdep] : d_ 0 = true)), (show _ from (by simp [hdep] : d_ 8 = true))⟩, fun h => ⟨(F.q10 h).1, (F.q10 h).2.1, (F.q10 h).2.2.1, (F.q10 h).2.2.2.1, (F.q10 h).2.2.2.2.1, (F.q10 h).2.2.2.2.2.1, (F.q10 h).2.2.2.2.2.2.1, (F.q10 h).2.2.2.2.2.2.2.1, (F.q10 h).2.2.2.2.2.2.2.2.1, rfl⟩, F.f0, F.f1, F.f2, F.f3, F.f4, F.f5, F.f6, F.f7, F.f8, fun _ => rfl, F.st0, F.st1, F.st2, F.st3⟩
      clear F
      have hmn := mn_eq z (mxN nx.val ny.val)
      go_simp
      exact HK.out _ _ ⟨_, _, _, _, _, _, _, _, _, _, _, _, rfl, HF.out⟩
    · have hS := F.st2 (by simp [hdep] : d_ 6 = true) hd_
      obtain rfl := F.f9 (by simp [hdep])
      obtain ⟨⟨u0, kcell0⟩, kfr0, hres⟩ := kc10.out nx ny w1 hS
      have HF : Hid (ne12F b2 sb b7 b10 b11 xl xh yl yh z rl S0 S1 S2 S3 (upd d_ 10) x55 x56 x57 x58 x59 x60 x61 x62 x63 (.int .i64 (mnN z (1 + mxN nx.val ny.val) : Nat)) nx ny (w1.setCell ⟨b7, 0, none⟩ (.int .i64 (mnN z (1 + mxN nx.val ny.val) : Nat)))) := ⟨F.q3, F.q6, F.q7, F.q8, F.q9, fun _ => ⟨(show _ from (by simp [hdep] : d_ 0 = true)), (show _ from (by simp [hdep] : d_ 1 = true)), (show _ from (by simp [hdep] : d_ 2 = true)), (show _ from (by simp [hdep] : d_ 3 = true)), (show _ from (by simp [hdep] : d_ 4 = true)), (show _ from (by simp [hdep] : d_ 5 = true)), (show _ from (by simp [hdep] : d_ 6 = true)), (show _ from (by simp [hdep] : d_ 7 = true)), (show _ from (by simp [hdep] : d_ 8 = true)), (show _ from (by simp [hdep] : d_ 9 = true))⟩, F.f0, F.f1, F.f2, F.f3, F.f4, F.f5, F.f6, F.f7, F.f8, F.f9, fun h => (by have h2 : d_ 3 = false := h; rw [(by simp [hdep] : d_ 3 = true)] at h2; cases h2), fun _ h => (by have h2 : d_ 6 = false := h; rw [(by simp [hdep] : d_ 6 = true)] at h2; cases h2), fun _ h => (by simp [upd] at h), fun _ => hres⟩
      clear F hS hres
      go_simp
      exact HK.out _ _ ⟨_, _, _, _, _, _, _, _, _, _, _, _, rfl, HF.out⟩
  · rintro d_ a_ w1 hall ⟨x55, x56, x57, x58, x59, x60, x61, x62, x63, x64, nx, ny, rfl, F⟩
    have hall' : ∀ k, k < 11 → d_ k = true := hall
    obtain rfl := F.f0 (hall' 0 (by decide))
    obtain rfl := F.f1 (hall' 1 (by decide))
    obtain rfl := F.f2 (hall' 2 (by decide))
    obtain rfl := F.f3 (hall' 3 (by decide))
    obtain rfl := F.f4 (hall' 4 (by decide))
    obtain rfl := F.f5 (hall' 5 (by decide))
    obtain rfl := F.f6 (hall' 6 (by decide))
    obtain rfl := F.f7 (hall' 7 (by decide))
    obtain rfl := F.f8 (hall' 8 (by decide))
    obtain rfl := F.f9 (hall' 9 (by decide))
    have hst := F.st3 (hall' 10 (by decide))
    exact HQ.out nx ny w1 hst
structure ne13F (b2 : Nat) (b3 : Nat) (b7 : Nat) (sb : Nat) (mb : Nat) (sl : Int) (sh : Int) (z : Nat) (S0 : World → Prop) (S1 : World → Prop) (d : Nat → Bool) (x65 x66 x67 x68 x69 x70 : Value) (w : World) : Prop where
  q1 : d 1 = true → d 0 = true
  q2 : d 2 = true → d 1 = true
  q3 : d 3 = true → d 2 = true
  q6 : d 6 = true → d 0 = true ∧ d 1 = true ∧ d 2 = true ∧ d 3 = true ∧ d 4 = true ∧ d 5 = true
  f0 : d 0 = true → x65 = .pointer (some ⟨sb, 0, none⟩)
  f1 : d 1 = true → x66 = .pointer (some ⟨sb, 0, none⟩)
  f2 : d 2 = true → x67 = .pointer (some ⟨sb, 2, none⟩)
  f3 : d 3 = true → x68 = .map (some mb)
  f4 : d 4 = true → x69 = .agg #[.int .u64 sl, .int .u64 sh]
  f5 : d 5 = true → x70 = .int .i64 z
  st0 : d 6 = false → S0 w
  st1 : d 6 = true → S1 w
noncomputable def ne13C : Code := (Try.f72.body.bind (regionAt 13)).getD .skip
set_option maxRecDepth 100000 in
set_option maxHeartbeats 4000000 in
theorem ne13 {b2 : Nat} {b3 : Nat} {b7 : Nat} {sb : Nat} {mb : Nat} {sl : Int} {sh : Int} {z : Nat} {S0 : World → Prop} {S1 : World → Prop} {Q : Exit → Act → World → Prop} {W1 : World} (h0 : S0 W1.drew)
    (kl0 : Hid (∀ (w : World), (S0 w) → w.cell? ⟨b2, 0, none⟩ = some (.pointer (some ⟨sb, 0, none⟩))))
    (kl3 : Hid (∀ (w : World), (S0 w) → w.cell? ⟨sb, 2, none⟩ = some (.map (some mb))))
    (kl4 : Hid (∀ (w : World), (S0 w) → w.cell? ⟨b3, 0, none⟩ = some (.int .u64 sl) ∧ w.cell? ⟨b3, 1, none⟩ = some (.int .u64 sh)))
    (kl5 : Hid (∀ (w : World), (S0 w) → w.cell? ⟨b7, 0, none⟩ = some (.int .i64 z)))
    (kc6 : Hid (∀ (w : World), S0 w → ∃ w' : World, (Instr.mapUpdate 131 (.map (some mb)) (.agg #[.int .u64 sl, .int .u64 sh]) (.int .i64 z)).run Try.prog w = .ok () w' ∧ S1 w'))
    {s0 s1 s4 s5 s6 s8 s9 s10 s11 s12 s13 s14 s15 s16 s17 s18 s19 s20 s21 s22 s23 s24 s25 s26 s27 s28 s29 s30 s31 s32 s33 s34 s35 s36 s37 s38 s39 s40 s41 s42 s43 s44 s45 s46 s47 s48 s49 s50 s51 s52 s53 s54 s55 s56 s57 s58 s59 s60 s61 s62 s63 s64 s65 s66 s67 s68 s69 s70 s71 : Value} {dd : List Deferred}
    (hQ : ∀ (w' : World), S1 w' → Q .normal { tmps := #[s0, s1, .pointer (some ⟨b2, 0, none⟩), .pointer (some ⟨b3, 0, none⟩), s4, s5, s6, .pointer (some ⟨b7, 0, none⟩), s8, s9, s10, s11, s12, s13, s14, s15, s16, s17, s18, s19, s20, s21, s22, s23, s24, s25, s26, s27, s28, s29, s30, s31, s32, s33, s34, s35, s36, s37, s38, s39, s40, s41, s42, s43, s44, s45, s46, s47, s48, s49, s50, s51, s52, s53, s54, s55, s56, s57, s58, s59, s60, s61, s62, s63, s64, .pointer (some ⟨sb, 0, none⟩), .pointer (some ⟨sb, 0, none⟩), .pointer (some ⟨sb, 2, none⟩), .map (some mb), .agg #[.int .u64 sl, .int .u64 sh], .int .i64 z, s71], defers := dd } w') :
    Code.wpIn (wideAt none) 0 Try.prog ne13C Q { tmps := #[s0, s1, .pointer (some ⟨b2, 0, none⟩), .pointer (some ⟨b3, 0, none⟩), s4, s5, s6, .pointer (some ⟨b7, 0, none⟩), s8, s9, s10, s11, s12, s13, s14, s15, s16, s17, s18, s19, s20, s21, s22, s23, s24, s25, s26, s27, s28, s29, s30, s31, s32, s33, s34, s35, s36, s37, s38, s39, s40, s41, s42, s43, s44, s45, s46, s47, s48, s49, s50, s51, s52, s53, s54, s55, s56, s57, s58, s59, s60, s61, s62, s63, s64, s65, s66, s67, s68, s69, s70, s71], defers := dd } W1 := by
  have HQ := Lib.hid hQ
  clear hQ
  conv => arg 4; whnf
  refine wpIn_region_invG mixed (by kernel_rfl) (fun d_ a_ w' => ∃ (x65 : Value) (x66 : Value) (x67 : Value) (x68 : Value) (x69 : Value) (x70 : Value), a_ = { tmps := #[s0, s1, .pointer (some ⟨b2, 0, none⟩), .pointer (some ⟨b3, 0, none⟩), s4, s5, s6, .pointer (some ⟨b7, 0, none⟩), s8, s9, s10, s11, s12, s13, s14, s15, s16, s17, s18, s19, s20, s21, s22, s23, s24, s25, s26, s27, s28, s29, s30, s31, s32, s33, s34, s35, s36, s37, s38, s39, s40, s41, s42, s43, s44, s45, s46, s47, s48, s49, s50, s51, s52, s53, s54, s55, s56, s57, s58, s59, s60, s61, s62, s63, s64, x65, x66, x67, x68, x69, x70, s71], defers := dd } ∧ ne13F b2 b3 b7 sb mb sl sh z S0 S1 d_ x65 x66 x67 x68 x69 x70 w') ?_ ?_ ?_
  · refine ⟨s65, s66, s67, s68, s69, s70, rfl, ?_⟩
    constructor <;> first | rfl | (intro _; rfl) | (intro h; cases h; done) | (intro _; exact h0) | exact h0
  · refine ⟨?_, ?_, ?_, ?_, ?_, ?_, ?_, trivial⟩
    all_goals
      rintro d_ a_ w1 K hd_ hdep ⟨x65, x66, x67, x68, x69, x70, rfl, F⟩ HK
      simp [Region.binds] at hdep
    · have hst : S0 w1 := by
        have n_ : d_ 6 = false := by
          cases e_ : d_ 6 with
          | false => rfl
          | true => have h2 := (F.q6 e_).1; rw [show d_ 0 = false from hd_] at h2; cases h2
        exact (F.st0 n_)
      have kk := kl0.out w1 hst
      clear hst
      have HF : Hid (ne13F b2 b3 b7 sb mb sl sh z S0 S1 (upd d_ 0) (.pointer (some ⟨sb, 0, none⟩)) x66 x67 x68 x69 x70 w1) := ⟨fun h => rfl, F.q2, F.q3, fun h => ⟨rfl, (F.q6 h).2.1, (F.q6 h).2.2.1, (F.q6 h).2.2.2.1, (F.q6 h).2.2.2.2.1, (F.q6 h).2.2.2.2.2⟩, fun _ => rfl, F.f1, F.f2, F.f3, F.f4, F.f5, F.st0, F.st1⟩
      clear F
      go_simp
      exact HK.out _ _ ⟨_, _, _, _, _, _, rfl, HF.out⟩
    · obtain rfl := F.f0 (by simp [hdep])
      have HF : Hid (ne13F b2 b3 b7 sb mb sl sh z S0 S1 (upd d_ 1) (.pointer (some ⟨sb, 0, none⟩)) (.pointer (some ⟨sb, 0, none⟩)) x67 x68 x69 x70 w1) := ⟨fun _ => (show _ from (by simp [hdep] : d_ 0 = true)), fun h => rfl, F.q3, fun h => ⟨(F.q6 h).1, rfl, (F.q6 h).2.2.1, (F.q6 h).2.2.2.1, (F.q6 h).2.2.2.2.1, (F.q6 h).2.2.2.2.2⟩, F.f0, fun _ => rfl, F.f2, F.f3, F.f4, F.f5, F.st0, F.st1⟩
      clear F
      go_simp
      exact HK.out _ _ ⟨_, _, _, _, _, _, rfl, HF.out⟩
    · obtain rfl := F.f1 (by simp [hdep])
      have HF : Hid (ne13F b2 b3 b7 sb mb sl sh z S0 S1 (upd d_ 2) x65 (.pointer (some ⟨sb, 0, none⟩)) (.pointer (some ⟨sb, 2, none⟩)) x68 x69 x70 w1) := ⟨F.q1, fun _ => (show _ from (by simp [hdep] : d_ 1 = true)), fun h => rfl, fun h => ⟨(F.q6 h).1, (F.q6 h).2.1, rfl, (F.q6 h).2.2.2.1, (F.q6 h).2.2.2.2.1, (F.q6 h).2.2.2.2.2⟩, F.f0, F.f1, fun _ => rfl, F.f3, F.f4, F.f5, F.st0, F.st1⟩
      clear F
      go_simp
      exact HK.out _ _ ⟨_, _, _, _, _, _, rfl, HF.out⟩
    · have hst : S0 w1 := by
        have n_ : d_ 6 = false := by
          cases e_ : d_ 6 with
          | false => rfl
          | true => have h2 := (F.q6 e_).2.2.2.1; rw [show d_ 3 = false from hd_] at h2; cases h2
        exact (F.st0 n_)
      have kk := kl3.out w1 hst
      clear hst
      obtain rfl := F.f2 (by simp [hdep])
      have HF : Hid (ne13F b2 b3 b7 sb mb sl sh z S0 S1 (upd d_ 3) x65 x66 (.pointer (some ⟨sb, 2, none⟩)) (.map (some mb)) x69 x70 w1) := ⟨F.q1, F.q2, fun _ => (show _ from (by simp [hdep] : d_ 2 = true)), fun h => ⟨(F.q6 h).1, (F.q6 h).2.1, (F.q6 h).2.2.1, rfl, (F.q6 h).2.2.2.2.1, (F.q6 h).2.2.2.2.2⟩, F.f0, F.f1, F.f2, fun _ => rfl, F.f4, F.f5, F.st0, F.st1⟩
      clear F
      go_simp
      exact HK.out _ _ ⟨_, _, _, _, _, _, rfl, HF.out⟩
    · have hst : S0 w1 := by
        have n_ : d_ 6 = false := by
          cases e_ : d_ 6 with
          | false => rfl
          | true => have h2 := (F.q6 e_).2.2.2.2.1; rw [show d_ 4 = false from hd_] at h2; cases h2
        exact (F.st0 n_)
      have kk := kl4.out w1 hst
      obtain ⟨kk0, kk1⟩ := kk
      clear hst
      have HF : Hid (ne13F b2 b3 b7 sb mb sl sh z S0 S1 (upd d_ 4) x65 x66 x67 x68 (.agg #[.int .u64 sl, .int .u64 sh]) x70 w1) := ⟨F.q1, F.q2, F.q3, fun h => ⟨(F.q6 h).1, (F.q6 h).2.1, (F.q6 h).2.2.1, (F.q6 h).2.2.2.1, rfl, (F.q6 h).2.2.2.2.2⟩, F.f0, F.f1, F.f2, F.f3, fun _ => rfl, F.f5, F.st0, F.st1⟩
      clear F
      go_simp
      exact HK.out _ _ ⟨_, _, _, _, _, _, rfl, HF.out⟩
    · have hst : S0 w1 := by
        have n_ : d_ 6 = false := by
          cases e_ : d_ 6 with
          | false => rfl
          | true => have h2 := (F.q6 e_).2.2.2.2.2; rw [show d_ 5 = false from hd_] at h2; cases h2
        exact (F.st0 n_)
      have kk := kl5.out w1 hst
      clear hst
      have HF : Hid (ne13F b2 b3 b7 sb mb sl sh z S0 S1 (upd d_ 5) x65 x66 x67 x68 x69 (.int .i64 z) w1) := ⟨F.q1, F.q2, F.q3, fun h => ⟨(F.q6 h).1, (F.q6 h).2.1, (F.q6 h).2.2.1, (F.q6 h).2.2.2.1, (F.q6 h).2.2.2.2.1, rfl⟩, F.f0, F.f1, F.f2, F.f3, F.f4, fun _ => rfl, F.st0, F.st1⟩
      clear F
      go_simp
      exact HK.out _ _ ⟨_, _, _, _, _, _, rfl, HF.out⟩
    · have hS := F.st0  hd_
      obtain rfl := F.f3 (by simp [hdep])
      obtain rfl := F.f4 (by simp [hdep])
      obtain rfl := F.f5 (by simp [hdep])
      obtain ⟨w_, hr, hres⟩ := kc6.out w1 hS
      have HF : Hid (ne13F b2 b3 b7 sb mb sl sh z S0 S1 (upd d_ 6) x65 x66 x67 (.map (some mb)) (.agg #[.int .u64 sl, .int .u64 sh]) (.int .i64 z) w_) := ⟨F.q1, F.q2, F.q3, fun _ => ⟨(show _ from (by simp [hdep] : d_ 0 = true)), (show _ from (by simp [hdep] : d_ 1 = true)), (show _ from (by simp [hdep] : d_ 2 = true)), (show _ from (by simp [hdep] : d_ 3 = true)), (show _ from (by simp [hdep] : d_ 4 = true)), (show _ from (by simp [hdep] : d_ 5 = true))⟩, F.f0, F.f1, F.f2, F.f3, F.f4, F.f5, fun h => (by simp [upd] at h), fun _ => hres⟩
      clear F hS hres
      go_simp
      exact HK.out _ _ ⟨_, _, _, _, _, _, rfl, HF.out⟩
  · rintro d_ a_ w1 hall ⟨x65, x66, x67, x68, x69, x70, rfl, F⟩
    have hall' : ∀ k, k < 7 → d_ k = true := hall
    obtain rfl := F.f0 (hall' 0 (by decide))
    obtain rfl := F.f1 (hall' 1 (by decide))
    obtain rfl := F.f2 (hall' 2 (by decide))
    obtain rfl := F.f3 (hall' 3 (by decide))
    obtain rfl := F.f4 (hall' 4 (by decide))
    obtain rfl := F.f5 (hall' 5 (by decide))
    have hst := F.st1 (hall' 6 (by decide))
    exact HQ.out  w1 hst
end Go.Proofs.Ytnfhlbmapfoifaa
namespace Go.Proofs.Ytnfhlbmapfoifaa
open Go.RowKit
set_option linter.unusedVariables false
theorem many_lt {S X : Nat} (hS : S < 2 ^ 128) (hsub : ∀ i, X.testBit i = true → S.testBit i = true) (hne : X ≠ S) : manyS X < manyS S := by
  unfold manyS
  refine cnt_lt (fun x _ => hsub x) ?_
  have : ∃ i, X.testBit i ≠ S.testBit i := Classical.byContradiction fun h => hne (Nat.eq_of_testBit_eq fun i => Classical.byContradiction fun h2 => h ⟨i, h2⟩)
  obtain ⟨i, hi⟩ := this
  have hs : S.testBit i = true ∧ X.testBit i = false := by
    cases hx : X.testBit i
    · rw [hx] at hi
      cases hs : S.testBit i
      · rw [hs] at hi; exact (hi rfl).elim
      · exact ⟨rfl, rfl⟩
    · rw [hx, hsub i hx] at hi; exact (hi rfl).elim
  have hlt : i < 128 := by
    apply Classical.byContradiction
    intro h
    have := Nat.testBit_lt_two_pow (Nat.lt_of_lt_of_le hS (Nat.pow_le_pow_right (n := 2) (by decide) (show 128 ≤ i by omega)))
    rw [this] at hs
    exact absurd hs.1 (by simp)
  exact ⟨i, List.mem_range.2 hlt, hs⟩
theorem bef_sub (os : List (List Int)) (S a b i : Nat) (h : (befS os S a b).testBit i = true) : S.testBit i = true := by
  rw [befS_eq, cmpS_bit] at h
  unfold fBef at h
  simp at h
  exact h.2.1
theorem aft_sub (os : List (List Int)) (S a b i : Nat) (h : (aftS os S a b).testBit i = true) : S.testBit i = true := by
  rw [aftS_eq, cmpS_bit] at h
  unfold fAft at h
  simp at h
  exact h.2.1
theorem bef_lt {os : List (List Int)} (h : os.length ≤ 128) (S a b : Nat) : befS os S a b < 2 ^ 128 := by rw [befS_eq]; exact cmpS_lt _ h
theorem aft_lt {os : List (List Int)} (h : os.length ≤ 128) (S a b : Nat) : aftS os S a b < 2 ^ 128 := by rw [aftS_eq]; exact cmpS_lt _ h
def stepF (os : List (List Int)) (n d S : Nat) (best : Nat) (x : Nat × Nat) : Nat :=
  if befS os S x.1 x.2 ≠ S ∧ aftS os S x.1 x.2 ≠ S then min best (1 + max (needsF os n d (befS os S x.1 x.2)) (needsF os n d (aftS os S x.1 x.2))) else best
theorem needsF_succ (os : List (List Int)) (n d S : Nat) : needsF os n (d + 1) S = if manyS S ≤ 1 then 0 else (pairsL n).foldl (stepF os n d S) (n * n) := rfl
theorem needs_stable {os : List (List Int)} (hos : os.length ≤ 128) (n : Nat) : ∀ (d S d' : Nat), S < 2 ^ 128 → manyS S ≤ d → manyS S ≤ d' → needsF os n d S = needsF os n d' S := by
  have zero : ∀ (d S : Nat), manyS S = 0 → needsF os n d S = 0 := by
    intro d S h
    cases d with
    | zero => rfl
    | succ d => rw [needsF_succ, if_pos (by omega)]
  intro d
  induction d with
  | zero =>
    intro S d' hS h h'
    rw [zero 0 S (by omega), zero d' S (by omega)]
  | succ d ih =>
    intro S d' hS h h'
    cases d' with
    | zero => rw [zero _ S (by omega), zero _ S (by omega)]
    | succ d' =>
      rw [needsF_succ, needsF_succ]
      split
      · rfl
      · have e : stepF os n d S = stepF os n d' S := by
          funext best x
          unfold stepF
          split
          · rename_i hc
            have h1 := many_lt hS (bef_sub os S x.1 x.2) hc.1
            have h2 := many_lt hS (aft_sub os S x.1 x.2) hc.2
            rw [ih _ d' (bef_lt hos S x.1 x.2) (by omega) (by omega), ih _ d' (aft_lt hos S x.1 x.2) (by omega) (by omega)]
          · rfl
        rw [e]
def needV (os : List (List Int)) (n S : Nat) : Nat := needsF os n (manyS S) S
/-- One pair of cards more is tried. -/
def stepN (os : List (List Int)) (n S : Nat) (best : Nat) (x : Nat × Nat) : Nat :=
  if befS os S x.1 x.2 ≠ S ∧ aftS os S x.1 x.2 ≠ S then mnN best (1 + mxN (needV os n (befS os S x.1 x.2)) (needV os n (aftS os S x.1 x.2))) else best
theorem needV_few {os : List (List Int)} {n S : Nat} (h : manyS S ≤ 1) : needV os n S = 0 := by
  unfold needV
  cases e : manyS S with
  | zero => rfl
  | succ m => rw [needsF_succ, if_pos (by omega)]
theorem needV_step {os : List (List Int)} (hos : os.length ≤ 128) {n S : Nat} (hS : S < 2 ^ 128) (h : ¬ manyS S ≤ 1) : needV os n S = (pairsL n).foldl (stepN os n S) (n * n) := by
  have hm : ∃ m, manyS S = m + 1 := ⟨manyS S - 1, by omega⟩
  obtain ⟨m, hm⟩ := hm
  have e0 : needV os n S = needsF os n (m + 1) S := by unfold needV; rw [hm]
  rw [e0, needsF_succ, if_neg h]
  congr 1
  funext best x
  unfold stepF stepN
  split
  · rename_i hc
    have h1 := many_lt hS (bef_sub os S x.1 x.2) hc.1
    have h2 := many_lt hS (aft_sub os S x.1 x.2) hc.2
    unfold needV mnN mxN
    rw [needs_stable hos n m _ (manyS (befS os S x.1 x.2)) (bef_lt hos S x.1 x.2) (by omega) (Nat.le_refl _), needs_stable hos n m _ (manyS (aftS os S x.1 x.2)) (aft_lt hos S x.1 x.2) (by omega) (Nat.le_refl _)]
  · rfl
theorem fold_le (os : List (List Int)) (n S : Nat) : ∀ (l : List (Nat × Nat)) (b : Nat), l.foldl (stepN os n S) b ≤ b
  | [], b => Nat.le_refl _
  | x :: r, b => by
    have h := fold_le os n S r (stepN os n S b x)
    have h2 : stepN os n S b x ≤ b := by
      unfold stepN mnN
      split
      · exact Nat.min_le_left _ _
      · exact Nat.le_refl _
    exact Nat.le_trans h h2
theorem needV_le {os : List (List Int)} (hos : os.length ≤ 128) {n S : Nat} (hS : S < 2 ^ 128) : needV os n S ≤ n * n := by
  by_cases h : manyS S ≤ 1
  · rw [needV_few h]; omega
  · rw [needV_step hos hS h]; exact fold_le _ _ _ _ _
/-- What has been found after the first pairs. -/
def bestN (os : List (List Int)) (n S i : Nat) : Nat := ((pairsL n).take i).foldl (stepN os n S) (n * n)
theorem bestN_succ {os : List (List Int)} {n S i : Nat} {x : Nat × Nat} (h : (pairsL n)[i]? = some x) : bestN os n S (i + 1) = stepN os n S (bestN os n S i) x := by
  unfold bestN
  rw [List.take_succ_eq_append_getElem (List.getElem?_eq_some_iff.1 h).1, (List.getElem?_eq_some_iff.1 h).2, List.foldl_append]
  rfl
theorem laidOut : laidOutB Try.prog = true := by kernel_rfl
theorem keyed95 : Maps.Keyed Try.prog 95 :=
  Maps.Keyed.of_law (deep_law_laid laidOut (m := 3) (by decide) (by rw [show Try.prog.types.size = 162 from by kernel_rfl]; decide) (by kernel_rfl) (by kernel_rfl))
theorem keyType95 : Try.prog.keyType 95 = true := by kernel_rfl
theorem cells93 : Try.prog.cellsOf 93 = 1 := by kernel_rfl
theorem cells95 : Try.prog.cellsOf 95 = 2 := by kernel_rfl
theorem lits95 (n : Nat) (a b : Int) (ha : (Lit.int .u64 a).wf = true) (hb : (Lit.int .u64 b).wf = true) :
    ∃ l, Try.prog.keyLits (n + 1 + 1) 95 [.int .u64 a, .int .u64 b] = some l := by
  simp [Program.keyLits, Try.underlying95, Try.underlying93, cells95, cells93, List.range_succ, ha, hb]
theorem key95 (a b : Int) (ha : (Lit.int .u64 a).wf = true) (hb : (Lit.int .u64 b).wf = true) : ∃ l, keyOf Try.prog 95 (.agg #[.int .u64 a, .int .u64 b]) = some l := by
  obtain ⟨l, hl⟩ := lits95 161 a b ha hb
  have hl' : Try.prog.keyLits 163 95 [.int .u64 a, .int .u64 b] = some l := hl
  refine ⟨.string (keyBytes l), ?_⟩
  simp [keyOf, Try.underlying95, keyType95, Value.formed, cells95, Value.cells, hl']
theorem wf_u64 {x : Int} (h0 : 0 ≤ x) (h1 : x < 18446744073709551616) : (Lit.int .u64 x).wf = true := by
  have e1 : IntKind.u64.min = 0 := by decide
  have e2 : IntKind.u64.max = 18446744073709551615 := by decide
  simp [Lit.wf, e1, e2]
  omega
theorem lo_rng (S : Nat) : 0 ≤ loN S ∧ loN S < 18446744073709551616 := by unfold loN; omega
theorem hi_rng {S : Nat} (hS : S < 2 ^ 128) : 0 ≤ hiN S ∧ hiN S < 18446744073709551616 := by
  have h : S / 18446744073709551616 < 18446744073709551616 := by
    rw [Nat.div_lt_iff_lt_mul (by decide)]
    have : (2 : Nat) ^ 128 = 18446744073709551616 * 18446744073709551616 := by decide
    omega
  unfold hiN
  omega
theorem left_key {S : Nat} (hS : S < 2 ^ 128) : ∃ l, keyOf Try.prog 95 (leftV S) = some l :=
  key95 _ _ (wf_u64 (lo_rng S).1 (lo_rng S).2) (wf_u64 (hi_rng hS).1 (hi_rng hS).2)
theorem left_inj {S T : Nat} (h : leftV S = leftV T) : S = T := by
  simp only [Value.agg.injEq, Array.mk.injEq, List.cons.injEq, Value.int.injEq, true_and, and_true] at h
  obtain ⟨h1, h2⟩ := h
  unfold loN at h1
  unfold hiN at h2
  omega
/-- What is known already: of some sets of orders, how many comparisons are needed. -/
def KnownI (os : List (List Int)) (n : Nat) (w : World) (mb : Nat) : Prop :=
  ∃ M : List Nat, MapRaw Try.prog 95 w mb (M.map fun X => (leftV X, .int .i64 (needV os n X : Nat))) ∧ ∀ X ∈ M, X < 2 ^ 128
theorem KnownI.kept {os : List (List Int)} {n : Nat} {w w' : World} {mb : Nat} (h : KnownI os n w mb) (hb : w'.heap[mb]? = w.heap[mb]?) : KnownI os n w' mb := by
  obtain ⟨M, h1, h2⟩ := h
  exact ⟨M, h1.kept hb, h2⟩
theorem KnownI.lt {os : List (List Int)} {n : Nat} {w : World} {mb : Nat} (h : KnownI os n w mb) : mb < w.heap.size := by
  obtain ⟨M, h1, h2⟩ := h
  exact h1.lt
theorem KnownI.map {os : List (List Int)} {n : Nat} {w : World} {mb : Nat} (h : KnownI os n w mb) : ∃ es c, w.heap[mb]? = some (.map es c) := by
  obtain ⟨M, ⟨es, clock, h1, _⟩, _⟩ := h
  exact ⟨es, clock, h1⟩
theorem KnownI.look {os : List (List Int)} {n : Nat} {w : World} {mb S : Nat} (h : KnownI os n w mb) (hS : S < 2 ^ 128) :
    ∃ (r : Int) (ok : Bool), (Instr.lookup 131 (.map (some mb)) (leftV S) true).run Try.prog w = .ok (.tuple #[.int .i64 r, .bool ok]) w ∧ (ok = true → r = (needV os n S : Nat)) := by
  obtain ⟨M, h1, h2⟩ := h
  have hz : (zeroValue 3).run Try.prog w = .ok (.int .i64 0) w := by
    obtain ⟨i0, hi0, hz0, _⟩ := info_parts infoI
    simp [zeroValue, typeInfo, hi0, hz0, Result.andThen]
  obtain ⟨v, ok, hr, hc⟩ := h1.look keyed95 Try.underlying131 (left_key hS) hz true
  rcases hc with ⟨rfl, rfl, _⟩ | ⟨rfl, hm⟩
  · exact ⟨0, false, by simpa using hr, fun h => by cases h⟩
  · obtain ⟨X, hX, e⟩ := List.mem_map.1 hm
    simp only [Prod.mk.injEq] at e
    obtain rfl := left_inj e.1
    obtain rfl := e.2
    exact ⟨_, true, by simpa using hr, fun _ => rfl⟩
theorem KnownI.update {os : List (List Int)} {n : Nat} {w : World} {mb S : Nat} (h : KnownI os n w mb) (hS : S < 2 ^ 128) :
    ∃ w', (Instr.mapUpdate 131 (.map (some mb)) (leftV S) (.int .i64 (needV os n S : Nat))).run Try.prog w = .ok () w' ∧ Same (fun k => k = mb) w w' ∧ w'.heap.size = w.heap.size ∧ KnownI os n w' mb := by
  obtain ⟨M, h1, h2⟩ := h
  obtain ⟨w', hr, hg, hsz, hc⟩ := h1.update keyed95 Try.underlying131 (left_key hS) (.int .i64 (needV os n S : Nat))
  refine ⟨w', hr, (Same.refl _ w).grown hg (fun k hk => by cases hk; exact .inl rfl), hsz, ?_⟩
  rcases hc with ⟨_, hm⟩ | ⟨j, v, hj, hm⟩
  · refine ⟨M ++ [S], by rw [List.map_append]; exact hm, fun X hX => ?_⟩
    rcases List.mem_append.1 hX with hX | hX
    · exact h2 X hX
    · rw [List.mem_singleton.1 hX]; exact hS
  · refine ⟨M, ?_, h2⟩
    have e : (M.map fun X => (leftV X, Value.int .i64 (needV os n X : Nat))).set j (leftV S, .int .i64 (needV os n S : Nat)) = M.map fun X => (leftV X, Value.int .i64 (needV os n X : Nat)) := by
      rw [List.getElem?_map] at hj
      cases hX : M[j]? with
      | none => rw [hX] at hj; simp at hj
      | some X =>
        rw [hX] at hj
        simp only [Option.map_some, Option.some.injEq, Prod.mk.injEq] at hj
        obtain rfl := left_inj hj.1
        have hlt := (List.getElem?_eq_some_iff.1 hX).1
        have hxj := (List.getElem?_eq_some_iff.1 hX).2
        apply List.ext_getElem?
        intro i
        rw [List.getElem?_set]
        split
        · rename_i he
          subst he
          simp [hlt, hxj]
        · rfl
    rw [e] at hm
    exact hm
theorem KnownI.made (os : List (List Int)) (n : Nat) {w : World} {mb : Nat} (h : w.heap[mb]? = some (.map #[] 0)) : KnownI os n w mb :=
  ⟨[], ⟨#[], 0, h, MapKept.stamped_empty 0, rfl, by simp⟩, fun X hX => by simp at hX⟩
end Go.Proofs.Ytnfhlbmapfoifaa
namespace Go.Proofs.Ytnfhlbmapfoifaa
open Go.RowKit
set_option linter.unusedVariables false
/-- What holds while all pairs are tried. -/
structure NedI (w : World) (sb mb n : Nat) (os : List (List Int)) (b2 b3 b7 S best : Nat) (A : World) : Prop where
  sw : Same (fun k => k = mb) w A
  c2 : A.heap[b2]? = some (.cells #[.pointer (some ⟨sb, 0, none⟩)] 92 (0, 0))
  c3 : A.heap[b3]? = some (.cells (leftA S) 95 (0, 0))
  c7 : A.heap[b7]? = some (.cells #[.int .i64 (best : Int)] 3 (0, 0))
  kn : KnownI os n A mb
theorem NedI.stable {w : World} {sb mb n : Nat} {os : List (List Int)} {b2 b3 b7 S best N lb : Nat} {A B : World} {C : Nat → Prop} (h : NedI w sb mb n os b2 b3 b7 S best A) (hs : Same (fun k => ¬ C k ∨ k = lb) A B) (hN : N ≤ lb) (h2 : b2 < N) (h3 : b3 < N) (h7 : b7 < N) (hm : mb < N) (hw : w.heap.size ≤ N) (hC : ∀ k, k < N → C k) : NedI w sb mb n os b2 b3 b7 S best B := by
  have hk : ∀ k, k < N → k < A.heap.size → B.heap[k]? = A.heap[k]? := fun k hk hka => hs.block k hka (fun e => by
    rcases e with e | e
    · exact e (hC k hk)
    · omega)
  exact ⟨same_later h.sw hs (fun k e => by
    by_cases hk' : k < w.heap.size
    · rcases e with e | e
      · exact (e (hC k (by omega))).elim
      · omega
    · exact .inr (by omega)), (hk _ h2 (heap_lt h.c2)).trans h.c2, (hk _ h3 (heap_lt h.c3)).trans h.c3, (hk _ h7 (heap_lt h.c7)).trans h.c7, h.kn.kept (hk _ hm h.kn.lt)⟩
theorem same_map {w A B : World} {mb : Nat} (h : Same (fun k => k = mb) w A) (h2 : Below A.heap.size A B) : Same (fun k => k = mb) w B := h.trans (Same.of_below _ h2)
theorem NedI.below {w : World} {sb mb n : Nat} {os : List (List Int)} {b2 b3 b7 S best : Nat} {A B : World} (h : NedI w sb mb n os b2 b3 b7 S best A) (hb : Below A.heap.size A B) : NedI w sb mb n os b2 b3 b7 S best B :=
  ⟨same_map h.sw hb, (hb.block _ (heap_lt h.c2)).trans h.c2, (hb.block _ (heap_lt h.c3)).trans h.c3, (hb.block _ (heap_lt h.c7)).trans h.c7, h.kn.kept (hb.block _ h.kn.lt)⟩
set_option linter.unusedSimpArgs false
theorem info93 : (Try.prog.info? 93).map (fun i => i.size) = some 1 := by kernel_rfl
theorem eq93 (d : Nat) (a c : Int) (w : World) : (Op.equalIn (d + 1) 93 (.int .u64 a) (.int .u64 c)).run Try.prog w = .ok (a == c) w := by
  simp [Op.equalIn, run_underlying Try.underlying93, Result.andThen]
theorem eq95 (d : Nat) (a b c e : Int) (w : World) : (Op.equalIn (d + 1 + 1) 95 (.agg #[.int .u64 a, .int .u64 b]) (.agg #[.int .u64 c, .int .u64 e])).run Try.prog w = .ok (a == c && b == e) w := by
  have hi : ∃ i, Try.prog.info? 93 = some i ∧ i.size = 1 := by
    cases h : Try.prog.info? 93 with
    | none => have := info93; rw [h] at this; cases this
    | some i => exact ⟨i, rfl, by have := info93; rw [h] at this; simpa using this⟩
  obtain ⟨i, hi, hs⟩ := hi
  have part0 : ∀ (x y : Int), (part 93 #[.int .u64 x, .int .u64 y] 0).run Try.prog w = .ok (.int .u64 x) w := fun x y => by
    simp [part, run_underlying Try.underlying93, Result.andThen, isAgg]
  have part1 : ∀ (x y : Int), (part 93 #[.int .u64 x, .int .u64 y] 1).run Try.prog w = .ok (.int .u64 y) w := fun x y => by
    simp [part, run_underlying Try.underlying93, Result.andThen, isAgg]
  rw [Op.equalIn]
  simp [run_underlying Try.underlying95, Result.andThen, sizeOf, typeInfo, hi, hs, Std.Legacy.Range.forIn_eq_forIn_range', Std.Legacy.Range.size, List.range', part0, part1, eq93]
  by_cases h1 : a = c <;> by_cases h2 : b = e <;> simp [h1, h2, part0, part1, eq93]
theorem run_cmp95 (X S : Nat) (w : World) : (binOp .neq 95 (leftV X) (leftV S)).run Try.prog w = .ok (.bool (!(loN X == loN S && hiN X == hiN S))) w := by
  have h : (Op.equal 95 (leftV X) (leftV S)).run Try.prog w = .ok (loN X == loN S && hiN X == hiN S) w := eq95 9998 _ _ _ _ w
  simp [binOp, go_sem, h, Result.andThen]
theorem run_neq95 {X S : Nat} (h : X ≠ S) (w : World) : (binOp .neq 95 (leftV X) (leftV S)).run Try.prog w = .ok (.bool true) w := by
  rw [run_cmp95]
  have : (loN X == loN S && hiN X == hiN S) = false := by
    cases e : (loN X == loN S && hiN X == hiN S) with
    | false => rfl
    | true =>
      simp at e
      exact (h (left_inj (by simp [e.1, e.2]))).elim
  rw [this]; rfl
theorem run_eq95 (S : Nat) (w : World) : (binOp .neq 95 (leftV S) (leftV S)).run Try.prog w = .ok (.bool false) w := by
  rw [run_cmp95]; simp
set_option maxRecDepth 100000 in
set_option maxHeartbeats 4000000 in
theorem needs_few {n sb mb : Nat} {os : List (List Int)} {S : Nat} {w : World} (hm : manyS S ≤ 1) (hS : S < 2 ^ 128) (hk : KnownI os n w mb) :
    Calls Try.prog 72 #[.pointer (some ⟨sb, 0, none⟩), leftV S] w fun e w' => e = .returned (.int .i64 (needV os n S : Nat)) ∧ Same (fun k => k = mb) w w' ∧ KnownI os n w' mb := by
  have HS := Lib.hid hS
  have HK := Lib.hid hk
  have HV : Hid (needV os n S = 0) := needV_few hm
  clear hS hk
  refine calls_of_wp_marks Try.func72 rfl ?_
  simp only [Try.ntmps72, List.size_toArray, List.length_cons, List.length_nil, Nat.reduceAdd, Nat.reduceSub, Array.replicate_succ, Array.replicate_zero, List.push_toArray, List.append_toArray, List.nil_append, List.cons_append]
  go_wp2_with fail
  obtain ⟨q0, q1, hz, hb⟩ := heap2 w (.cells #[.pointer (some ⟨sb, 0, none⟩)] 92) (.cells (leftA S) 95)
  revert q0 q1 hz hb
  generalize ((w.alloc (.cells #[.pointer (some ⟨sb, 0, none⟩)] 92)).alloc (.cells (leftA S) 95)) = W1
  intro q0 q1 hz hb
  refine (many_any HS.out W1).mono ?_
  rintro e w2 ⟨rfl, hb2⟩
  have HB := Lib.hid (hb.trans (hb2.mono hb.size))
  have hm' : (manyS S : Int) ≤ 1 := by omega
  clear q0 q1 hz hb hb2
  go_wp2_with fail
  refine ⟨_, results_tmp rfl _ _ _, ?_, Same.of_below _ HB.out, HK.out.kept (HB.out.block _ HK.out.lt)⟩
  rw [HV.out]
  rfl
end Go.Proofs.Ytnfhlbmapfoifaa
