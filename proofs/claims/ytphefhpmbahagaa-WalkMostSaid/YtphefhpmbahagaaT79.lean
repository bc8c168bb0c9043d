/- WalkMost: the drawn region (a view is put into an order) and the closure that asks whether an order is sure. -/
import Derived.Test.YtphefhpmbahagaaT78
namespace Go.Proofs.Ytphefhpmbahagaa
open Go.RowKit
set_option linter.unusedVariables false
set_option linter.unusedSimpArgs false

set_option maxRecDepth 100000 in
set_option maxHeartbeats 2000000 in
theorem sure38 {t : Tr} {A : TrA} {tb : Nat} {w : World} (hq : w.heap[tb]? = some (.cells (t.cells A) 25 (0, 0))) (ht : IsTr w t A) (hs : t.Small) {o : List Int} (hol : o.length ≤ 16) {a : Option Addr} {cap : Nat} (ha : IsInts w a o) {x : Int} {q : Bool} (hW : walkedE t o = (x, 0)) (hx : (x == 2) = q) :
    Calls Try.prog 38 #[.slice a o.length cap, .pointer (some ⟨tb, 0, none⟩)] w fun e w' => e = .returned (.bool q) ∧ Below w.heap.size w w' := by
  have C := walked14 (cap := cap) ht hs hol ha
  rw [hW] at C
  have HC := Lib.hid C
  obtain ⟨k0, k1, k2, k3, k4⟩ := tr_cells hq
  clear C ht ha hq
  go_enter Try.func38, Try.ntmps38
  go_wp2_with fail
  refine HC.out.mono ?_
  rintro e b1 ⟨rfl, hb⟩
  have HB := Lib.hid hb
  clear hb k0 k1 k2 k3 k4
  go_simp
  go_wp2_with fail
  go_ret
  exact ⟨rfl, HB.out⟩
structure mo16F (fb : Nat) (ln : Nat) (cf : Nat) (k : Nat) (v : Nat) (at_ : Option Addr) (S0 : Bool → Nat → World → Prop) (S1 : Bool → Nat → Value → World → Prop) (S2 : Bool → Nat → Value → Option Addr × Nat → World → Prop) (S3 : Bool → Nat → Value → Option Addr × Nat → Option Addr × Nat → World → Prop) (S4 : Bool → Nat → Value → Option Addr × Nat → Option Addr × Nat → Option Addr × Nat → World → Prop) (d : Nat → Bool) (x63 x64 x65 x66 x67 x68 x69 x70 x71 x72 x73 x74 x13 : Value) (ms : Nat) (r1 : Option Addr × Nat) (r2 : Option Addr × Nat) (r3 : Option Addr × Nat) (w : World) : Prop where
  q3 : d 3 = true → d 1 = true ∧ d 2 = true
  q4 : d 4 = true → d 0 = true ∧ d 3 = true
  q6 : d 6 = true → d 5 = true
  q7 : d 7 = true → d 4 = true ∧ d 6 = true
  q10 : d 10 = true → d 8 = true ∧ d 9 = true
  q11 : d 11 = true → d 7 = true ∧ d 10 = true
  q12 : d 12 = true → d 0 = true ∧ d 1 = true ∧ d 2 = true ∧ d 3 = true ∧ d 4 = true ∧ d 5 = true ∧ d 6 = true ∧ d 7 = true ∧ d 8 = true ∧ d 9 = true ∧ d 10 = true ∧ d 11 = true
  f1 : d 1 = true → x64 = .slice (some ⟨fb, 0, none⟩) ln cf
  f2 : d 2 = true → x65 = .int .i64 k
  f3 : d 3 = true → x66 = .slice (some ⟨fb, 0, none⟩) k cf
  f4 : d 4 = true → x67 = .slice r1.1 k r1.2
  f5 : d 5 = true → x68 = .int .i64 v
  f6 : d 6 = true → x69 = .slice (some ⟨ms, 0, none⟩) 1 1
  f7 : d 7 = true → x70 = .slice r2.1 (k + 1) r2.2
  f8 : d 8 = true → x71 = .slice (some ⟨fb, 0, none⟩) ln cf
  f9 : d 9 = true → x72 = .int .i64 k
  f10 : d 10 = true → x73 = .slice at_ (ln - k) (cf - k)
  f11 : d 11 = true → x74 = .slice r3.1 (k + 1 + (ln - k)) r3.2
  f12 : d 12 = true → x13 = .slice r3.1 (k + 1 + (ln - k)) r3.2
  st0 : d 0 = false → S0 (d 6) ms w
  st1 : d 0 = true → d 4 = false → S1 (d 6) ms x63 w
  st2 : d 4 = true → d 7 = false → S2 (d 6) ms x63 r1 w
  st3 : d 7 = true → d 11 = false → S3 (d 6) ms x63 r1 r2 w
  st4 : d 11 = true → S4 (d 6) ms x63 r1 r2 r3 w
  mz : d 6 = false → ms = 0
noncomputable def mo16C : Code := (Try.f8.body.bind (regionAt 16)).getD .skip
set_option maxRecDepth 100000 in
set_option maxHeartbeats 4000000 in
theorem mo16 {fb : Nat} {ln : Nat} {cf : Nat} {k : Nat} {v : Nat} {at_ : Option Addr} {S0 : Bool → Nat → World → Prop} {S1 : Bool → Nat → Value → World → Prop} {S2 : Bool → Nat → Value → Option Addr × Nat → World → Prop} {S3 : Bool → Nat → Value → Option Addr × Nat → Option Addr × Nat → World → Prop} {S4 : Bool → Nat → Value → Option Addr × Nat → Option Addr × Nat → Option Addr × Nat → World → Prop} {Q : Exit → Act → World → Prop} {W1 : World} (hk : k ≤ ln) (hlc : ln ≤ cf) (hat : (if cf = k then some (⟨fb, 0, none⟩ : Addr) else some ⟨fb, k, none⟩) = at_) (h0 : S0 false 0 W1.drew)
    (kc0 : Hid (∀ (fs : Bool) (ms : Nat) (w : World), S0 fs ms w → S1 fs ms (.slice (some ⟨w.heap.size, 0, none⟩) 0 0) (w.alloc (.cells #[] 3))))
    (kc4 : Hid (∀ (fs : Bool) (ms : Nat) (x63 : Value) (w : World), S1 fs ms x63 w → ∃ (r1 : Option Addr × Nat) (w' : World), (Builtin.append_ #[26, 26] 26 #[x63, .slice (some ⟨fb, 0, none⟩) k cf]).run Try.prog w = .ok (.slice r1.1 k r1.2) w' ∧ S2 fs ms x63 r1 w'))
    (ks0 : Hid (∀ (w : World), S0 false 0 w → S0 true w.heap.size (w.alloc (.cells #[.int .i64 v] 3))))
    (ks1 : Hid (∀ (x63 : Value) (w : World), S1 false 0 x63 w → S1 true w.heap.size x63 (w.alloc (.cells #[.int .i64 v] 3))))
    (ks2 : Hid (∀ (x63 : Value) (r1 : Option Addr × Nat) (w : World), S2 false 0 x63 r1 w → S2 true w.heap.size x63 r1 (w.alloc (.cells #[.int .i64 v] 3))))
    (kc7 : Hid (∀ (ms : Nat) (x63 : Value) (r1 : Option Addr × Nat) (w : World), S2 true ms x63 r1 w → ∃ (r2 : Option Addr × Nat) (w' : World), (Builtin.append_ #[26, 26] 26 #[.slice r1.1 k r1.2, .slice (some ⟨ms, 0, none⟩) 1 1]).run Try.prog w = .ok (.slice r2.1 (k + 1) r2.2) w' ∧ S3 true ms x63 r1 r2 w'))
    (kc11 : Hid (∀ (ms : Nat) (x63 : Value) (r1 : Option Addr × Nat) (r2 : Option Addr × Nat) (w : World), S3 true ms x63 r1 r2 w → ∃ (r3 : Option Addr × Nat) (w' : World), (Builtin.append_ #[26, 26] 26 #[.slice r2.1 (k + 1) r2.2, .slice at_ (ln - k) (cf - k)]).run Try.prog w = .ok (.slice r3.1 (k + 1 + (ln - k)) r3.2) w' ∧ S4 true ms x63 r1 r2 r3 w'))
    {s0 s1 s2 s3 s4 s5 s6 s8 s9 s10 s13 s14 s15 s16 s17 s18 s19 s20 s21 s22 s23 s24 s25 s26 s27 s28 s29 s30 s31 s32 s33 s34 s35 s36 s37 s38 s39 s40 s41 s42 s43 s44 s45 s46 s47 s48 s49 s50 s51 s52 s53 s54 s55 s56 s57 s58 s59 s60 s61 s62 s63 s64 s65 s66 s67 s68 s69 s70 s71 s72 s73 s74 s75 s76 s77 s78 s79 s80 s81 s82 s83 s84 s85 s86 s87 s88 s89 s90 s91 s92 s93 s94 s95 s96 s97 s98 s99 s100 s101 s102 s103 s104 s105 s106 s107 s108 s109 s110 s111 s112 s113 s114 s115 s116 s117 s118 s119 s120 s121 s122 s123 s124 s125 s126 s127 s128 s129 s130 s131 s132 s133 s134 s135 s136 s137 s138 s139 s140 s141 s142 s143 s144 s145 s146 s147 s148 s149 s150 s151 s152 s153 s154 s155 s156 s157 s158 s159 s160 s161 s162 s163 s164 s165 s166 s167 s168 s169 s170 s171 s172 s173 s174 s175 : Value} {dd : List Deferred}
    (hQ : ∀ (ms : Nat) (x63 : Value) (r1 : Option Addr × Nat) (r2 : Option Addr × Nat) (r3 : Option Addr × Nat) (w' : World), S4 true ms x63 r1 r2 r3 w' → Q .normal { tmps := #[s0, s1, s2, s3, s4, s5, s6, .slice (some ⟨fb, 0, none⟩) ln cf, s8, s9, s10, .int .i64 k, .int .i64 v, .slice r3.1 (k + 1 + (ln - k)) r3.2, s14, s15, s16, s17, s18, s19, s20, s21, s22, s23, s24, s25, s26, s27, s28, s29, s30, s31, s32, s33, s34, s35, s36, s37, s38, s39, s40, s41, s42, s43, s44, s45, s46, s47, s48, s49, s50, s51, s52, s53, s54, s55, s56, s57, s58, s59, s60, s61, s62, x63, .slice (some ⟨fb, 0, none⟩) ln cf, .int .i64 k, .slice (some ⟨fb, 0, none⟩) k cf, .slice r1.1 k r1.2, .int .i64 v, .slice (some ⟨ms, 0, none⟩) 1 1, .slice r2.1 (k + 1) r2.2, .slice (some ⟨fb, 0, none⟩) ln cf, .int .i64 k, .slice at_ (ln - k) (cf - k), .slice r3.1 (k + 1 + (ln - k)) r3.2, s75, s76, s77, s78, s79, s80, s81, s82, s83, s84, s85, s86, s87, s88, s89, s90, s91, s92, s93, s94, s95, s96, s97, s98, s99, s100, s101, s102, s103, s104, s105, s106, s107, s108, s109, s110, s111, s112, s113, s114, s115, s116, s117, s118, s119, s120, s121, s122, s123, s124, s125, s126, s127, s128, s129, s130, s131, s132, s133, s134, s135, s136, s137, s138, s139, s140, s141, s142, s143, s144, s145, s146, s147, s148, s149, s150, s151, s152, s153, s154, s155, s156, s157, s158, s159, s160, s161, s162, s163, s164, s165, s166, s167, s168, s169, s170, s171, s172, s173, s174, s175], defers := dd } w') :
    Code.wpIn (wideAt none) 0 Try.prog mo16C Q { tmps := #[s0, s1, s2, s3, s4, s5, s6, .slice (some ⟨fb, 0, none⟩) ln cf, s8, s9, s10, .int .i64 k, .int .i64 v, s13, s14, s15, s16, s17, s18, s19, s20, s21, s22, s23, s24, s25, s26, s27, s28, s29, s30, s31, s32, s33, s34, s35, s36, s37, s38, s39, s40, s41, s42, s43, s44, s45, s46, s47, s48, s49, s50, s51, s52, s53, s54, s55, s56, s57, s58, s59, s60, s61, s62, s63, s64, s65, s66, s67, s68, s69, s70, s71, s72, s73, s74, s75, s76, s77, s78, s79, s80, s81, s82, s83, s84, s85, s86, s87, s88, s89, s90, s91, s92, s93, s94, s95, s96, s97, s98, s99, s100, s101, s102, s103, s104, s105, s106, s107, s108, s109, s110, s111, s112, s113, s114, s115, s116, s117, s118, s119, s120, s121, s122, s123, s124, s125, s126, s127, s128, s129, s130, s131, s132, s133, s134, s135, s136, s137, s138, s139, s140, s141, s142, s143, s144, s145, s146, s147, s148, s149, s150, s151, s152, s153, s154, s155, s156, s157, s158, s159, s160, s161, s162, s163, s164, s165, s166, s167, s168, s169, s170, s171, s172, s173, s174, s175], defers := dd } W1 := by
  have HQ := Lib.hid hQ
  clear hQ
  conv => arg 4; whnf
  refine wpIn_region_invG mixed (by kernel_rfl) (fun d_ a_ w' => ∃ (x63 : Value) (x64 : Value) (x65 : Value) (x66 : Value) (x67 : Value) (x68 : Value) (x69 : Value) (x70 : Value) (x71 : Value) (x72 : Value) (x73 : Value) (x74 : Value) (x13 : Value) (ms : Nat) (r1 : Option Addr × Nat) (r2 : Option Addr × Nat) (r3 : Option Addr × Nat), a_ = { tmps := #[s0, s1, s2, s3, s4, s5, s6, .slice (some ⟨fb, 0, none⟩) ln cf, s8, s9, s10, .int .i64 k, .int .i64 v, x13, s14, s15, s16, s17, s18, s19, s20, s21, s22, s23, s24, s25, s26, s27, s28, s29, s30, s31, s32, s33, s34, s35, s36, s37, s38, s39, s40, s41, s42, s43, s44, s45, s46, s47, s48, s49, s50, s51, s52, s53, s54, s55, s56, s57, s58, s59, s60, s61, s62, x63, x64, x65, x66, x67, x68, x69, x70, x71, x72, x73, x74, s75, s76, s77, s78, s79, s80, s81, s82, s83, s84, s85, s86, s87, s88, s89, s90, s91, s92, s93, s94, s95, s96, s97, s98, s99, s100, s101, s102, s103, s104, s105, s106, s107, s108, s109, s110, s111, s112, s113, s114, s115, s116, s117, s118, s119, s120, s121, s122, s123, s124, s125, s126, s127, s128, s129, s130, s131, s132, s133, s134, s135, s136, s137, s138, s139, s140, s141, s142, s143, s144, s145, s146, s147, s148, s149, s150, s151, s152, s153, s154, s155, s156, s157, s158, s159, s160, s161, s162, s163, s164, s165, s166, s167, s168, s169, s170, s171, s172, s173, s174, s175], defers := dd } ∧ mo16F fb ln cf k v at_ S0 S1 S2 S3 S4 d_ x63 x64 x65 x66 x67 x68 x69 x70 x71 x72 x73 x74 x13 ms r1 r2 r3 w') ?_ ?_ ?_
  · refine ⟨s63, s64, s65, s66, s67, s68, s69, s70, s71, s72, s73, s74, s13, 0, default, default, default, rfl, ?_⟩
    constructor <;> first | rfl | (intro _; rfl) | (intro h; cases h; done) | (intro _; exact h0) | exact h0
  · refine ⟨?_, ?_, ?_, ?_, ?_, ?_, ?_, ?_, ?_, ?_, ?_, ?_, ?_, trivial⟩
    all_goals
      rintro d_ a_ w1 K hd_ hdep ⟨x63, x64, x65, x66, x67, x68, x69, x70, x71, x72, x73, x74, x13, ms, r1, r2, r3, rfl, F⟩ HK
      simp [Region.binds] at hdep
    · have hS := F.st0  hd_
      have hres := kc0.out (d_ 6) ms w1 hS
      have HF : Hid (mo16F fb ln cf k v at_ S0 S1 S2 S3 S4 (upd d_ 0) ((.slice (some ⟨w1.heap.size, 0, none⟩) 0 0)) x64 x65 x66 x67 x68 x69 x70 x71 x72 x73 x74 x13 ms r1 r2 r3 (w1.alloc (.cells #[] 3))) := ⟨F.q3, fun h => ⟨rfl, (F.q4 h).2⟩, F.q6, F.q7, F.q10, F.q11, fun h => ⟨rfl, (F.q12 h).2.1, (F.q12 h).2.2.1, (F.q12 h).2.2.2.1, (F.q12 h).2.2.2.2.1, (F.q12 h).2.2.2.2.2.1, (F.q12 h).2.2.2.2.2.2.1, (F.q12 h).2.2.2.2.2.2.2.1, (F.q12 h).2.2.2.2.2.2.2.2.1, (F.q12 h).2.2.2.2.2.2.2.2.2.1, (F.q12 h).2.2.2.2.2.2.2.2.2.2.1, (F.q12 h).2.2.2.2.2.2.2.2.2.2.2⟩, F.f1, F.f2, F.f3, F.f4, F.f5, F.f6, F.f7, F.f8, F.f9, F.f10, F.f11, F.f12, fun h => (by simp [upd] at h), fun _ _ => hres, fun h _ => (by have h2 : d_ 0 = true := (F.q4 h).1; rw [show d_ 0 = false from hd_] at h2; cases h2), fun h _ => (by have h2 : d_ 0 = true := (F.q4 (F.q7 h).1).1; rw [show d_ 0 = false from hd_] at h2; cases h2), fun h => (by have h2 : d_ 0 = true := (F.q4 (F.q7 (F.q11 h).1).1).1; rw [show d_ 0 = false from hd_] at h2; cases h2), F.mz⟩
      clear F hS hres
      go_simp
      exact HK.out _ _ ⟨_, _, _, _, _, _, _, _, _, _, _, _, _, _, _, _, _, rfl, HF.out⟩
    · have HF : Hid (mo16F fb ln cf k v at_ S0 S1 S2 S3 S4 (upd d_ 1) x63 (.slice (some ⟨fb, 0, none⟩) ln cf) x65 x66 x67 x68 x69 x70 x71 x72 x73 x74 x13 ms r1 r2 r3 w1) := ⟨fun h => ⟨rfl, (F.q3 h).2⟩, F.q4, F.q6, F.q7, F.q10, F.q11, fun h => ⟨(F.q12 h).1, rfl, (F.q12 h).2.2.1, (F.q12 h).2.2.2.1, (F.q12 h).2.2.2.2.1, (F.q12 h).2.2.2.2.2.1, (F.q12 h).2.2.2.2.2.2.1, (F.q12 h).2.2.2.2.2.2.2.1, (F.q12 h).2.2.2.2.2.2.2.2.1, (F.q12 h).2.2.2.2.2.2.2.2.2.1, (F.q12 h).2.2.2.2.2.2.2.2.2.2.1, (F.q12 h).2.2.2.2.2.2.2.2.2.2.2⟩, fun _ => rfl, F.f2, F.f3, F.f4, F.f5, F.f6, F.f7, F.f8, F.f9, F.f10, F.f11, F.f12, F.st0, F.st1, F.st2, F.st3, F.st4, F.mz⟩
      clear F
      go_simp
      exact HK.out _ _ ⟨_, _, _, _, _, _, _, _, _, _, _, _, _, _, _, _, _, rfl, HF.out⟩
    · have HF : Hid (mo16F fb ln cf k v at_ S0 S1 S2 S3 S4 (upd d_ 2) x63 x64 (.int .i64 k) x66 x67 x68 x69 x70 x71 x72 x73 x74 x13 ms r1 r2 r3 w1) := ⟨fun h => ⟨(F.q3 h).1, rfl⟩, F.q4, F.q6, F.q7, F.q10, F.q11, fun h => ⟨(F.q12 h).1, (F.q12 h).2.1, rfl, (F.q12 h).2.2.2.1, (F.q12 h).2.2.2.2.1, (F.q12 h).2.2.2.2.2.1, (F.q12 h).2.2.2.2.2.2.1, (F.q12 h).2.2.2.2.2.2.2.1, (F.q12 h).2.2.2.2.2.2.2.2.1, (F.q12 h).2.2.2.2.2.2.2.2.2.1, (F.q12 h).2.2.2.2.2.2.2.2.2.2.1, (F.q12 h).2.2.2.2.2.2.2.2.2.2.2⟩, F.f1, fun _ => rfl, F.f3, F.f4, F.f5, F.f6, F.f7, F.f8, F.f9, F.f10, F.f11, F.f12, F.st0, F.st1, F.st2, F.st3, F.st4, F.mz⟩
      clear F
      go_simp
      exact HK.out _ _ ⟨_, _, _, _, _, _, _, _, _, _, _, _, _, _, _, _, _, rfl, HF.out⟩
    · obtain rfl := F.f1 (by simp [hdep])
      obtain rfl := F.f2 (by simp [hdep])
      have HF : Hid (mo16F fb ln cf k v at_ S0 S1 S2 S3 S4 (upd d_ 3) x63 (.slice (some ⟨fb, 0, none⟩) ln cf) (.int .i64 k) (.slice (some ⟨fb, 0, none⟩) k cf) x67 x68 x69 x70 x71 x72 x73 x74 x13 ms r1 r2 r3 w1) := ⟨fun _ => ⟨(show _ from (by simp [hdep] : d_ 1 = true)), (show _ from (by simp [hdep] : d_ 2 = true))⟩, fun h => ⟨(F.q4 h).1, rfl⟩, F.q6, F.q7, F.q10, F.q11, fun h => ⟨(F.q12 h).1, (F.q12 h).2.1, (F.q12 h).2.2.1, rfl, (F.q12 h).2.2.2.2.1, (F.q12 h).2.2.2.2.2.1, (F.q12 h).2.2.2.2.2.2.1, (F.q12 h).2.2.2.2.2.2.2.1, (F.q12 h).2.2.2.2.2.2.2.2.1, (F.q12 h).2.2.2.2.2.2.2.2.2.1, (F.q12 h).2.2.2.2.2.2.2.2.2.2.1, (F.q12 h).2.2.2.2.2.2.2.2.2.2.2⟩, F.f1, F.f2, fun _ => rfl, F.f4, F.f5, F.f6, F.f7, F.f8, F.f9, F.f10, F.f11, F.f12, F.st0, F.st1, F.st2, F.st3, F.st4, F.mz⟩
      clear F
      have hkc : (k : Int) ≤ (cf : Int) := by omega
      go_simp
      exact HK.out _ _ ⟨_, _, _, _, _, _, _, _, _, _, _, _, _, _, _, _, _, rfl, HF.out⟩
    · have hS := F.st1 (by simp [hdep] : d_ 0 = true) hd_
      obtain rfl := F.f3 (by simp [hdep])
      obtain ⟨v_, w_, hr, hres⟩ := kc4.out (d_ 6) ms x63 w1 hS
      rw [if_pos (by rfl)]
      refine wpIn_append_run (.tmp 63) (.tmp 66) 26 rfl _ _ _ _ rfl rfl hr ?_
      exact HK.out _ _ ⟨_, _, _, _, _, _, _, _, _, _, _, _, _, ms, v_, r2, r3, rfl, ⟨F.q3, fun _ => ⟨(show _ from (by simp [hdep] : d_ 0 = true)), (show _ from (by simp [hdep] : d_ 3 = true))⟩, F.q6, fun h => ⟨rfl, (F.q7 h).2⟩, F.q10, F.q11, fun h => ⟨(F.q12 h).1, (F.q12 h).2.1, (F.q12 h).2.2.1, (F.q12 h).2.2.2.1, rfl, (F.q12 h).2.2.2.2.2.1, (F.q12 h).2.2.2.2.2.2.1, (F.q12 h).2.2.2.2.2.2.2.1, (F.q12 h).2.2.2.2.2.2.2.2.1, (F.q12 h).2.2.2.2.2.2.2.2.2.1, (F.q12 h).2.2.2.2.2.2.2.2.2.2.1, (F.q12 h).2.2.2.2.2.2.2.2.2.2.2⟩, F.f1, F.f2, F.f3, fun _ => rfl, F.f5, F.f6, F.f7, F.f8, F.f9, F.f10, F.f11, F.f12, fun h => (by have h2 : d_ 0 = false := h; rw [(by simp [hdep] : d_ 0 = true)] at h2; cases h2), fun _ h => (by simp [upd] at h), fun _ _ => hres, fun h _ => (by have h2 : d_ 4 = true := (F.q7 h).1; rw [show d_ 4 = false from hd_] at h2; cases h2), fun h => (by have h2 : d_ 4 = true := (F.q7 (F.q11 h).1).1; rw [show d_ 4 = false from hd_] at h2; cases h2), F.mz⟩⟩
    · have HF : Hid (mo16F fb ln cf k v at_ S0 S1 S2 S3 S4 (upd d_ 5) x63 x64 x65 x66 x67 (.int .i64 v) x69 x70 x71 x72 x73 x74 x13 ms r1 r2 r3 w1) := ⟨F.q3, F.q4, fun h => rfl, F.q7, F.q10, F.q11, fun h => ⟨(F.q12 h).1, (F.q12 h).2.1, (F.q12 h).2.2.1, (F.q12 h).2.2.2.1, (F.q12 h).2.2.2.2.1, rfl, (F.q12 h).2.2.2.2.2.2.1, (F.q12 h).2.2.2.2.2.2.2.1, (F.q12 h).2.2.2.2.2.2.2.2.1, (F.q12 h).2.2.2.2.2.2.2.2.2.1, (F.q12 h).2.2.2.2.2.2.2.2.2.2.1, (F.q12 h).2.2.2.2.2.2.2.2.2.2.2⟩, F.f1, F.f2, F.f3, F.f4, fun _ => rfl, F.f6, F.f7, F.f8, F.f9, F.f10, F.f11, F.f12, F.st0, F.st1, F.st2, F.st3, F.st4, F.mz⟩
      clear F
      go_simp
      exact HK.out _ _ ⟨_, _, _, _, _, _, _, _, _, _, _, _, _, _, _, _, _, rfl, HF.out⟩
    · obtain rfl := F.f5 (by simp [hdep])
      have HF : Hid (mo16F fb ln cf k v at_ S0 S1 S2 S3 S4 (upd d_ 6) x63 x64 x65 x66 x67 (.int .i64 v) (.slice (some ⟨w1.heap.size, 0, none⟩) 1 1) x70 x71 x72 x73 x74 x13 w1.heap.size r1 r2 r3 (w1.alloc (.cells #[.int .i64 v] 3))) := ⟨F.q3, F.q4, fun _ => (show _ from (by simp [hdep] : d_ 5 = true)), fun h => ⟨(F.q7 h).1, rfl⟩, F.q10, F.q11, fun h => ⟨(F.q12 h).1, (F.q12 h).2.1, (F.q12 h).2.2.1, (F.q12 h).2.2.2.1, (F.q12 h).2.2.2.2.1, (F.q12 h).2.2.2.2.2.1, rfl, (F.q12 h).2.2.2.2.2.2.2.1, (F.q12 h).2.2.2.2.2.2.2.2.1, (F.q12 h).2.2.2.2.2.2.2.2.2.1, (F.q12 h).2.2.2.2.2.2.2.2.2.2.1, (F.q12 h).2.2.2.2.2.2.2.2.2.2.2⟩, F.f1, F.f2, F.f3, F.f4, F.f5, fun _ => rfl, F.f7, F.f8, F.f9, F.f10, F.f11, F.f12, fun b => ks0.out w1 (by have h := F.st0 b; rw [show d_ 6 = false from hd_, F.mz hd_] at h; exact h), fun a b => ks1.out x63 w1 (by have h := F.st1 a b; rw [show d_ 6 = false from hd_, F.mz hd_] at h; exact h), fun a b => ks2.out x63 r1 w1 (by have h := F.st2 a b; rw [show d_ 6 = false from hd_, F.mz hd_] at h; exact h), fun a b => (by have h2 : d_ 6 = true := (F.q7 a).2; rw [show d_ 6 = false from hd_] at h2; cases h2), fun a => (by have h2 : d_ 6 = true := (F.q7 (F.q11 a).1).2; rw [show d_ 6 = false from hd_] at h2; cases h2), fun h => (by simp [upd] at h)⟩
      clear F
      go_simp
      exact HK.out _ _ ⟨_, _, _, _, _, _, _, _, _, _, _, _, _, _, _, _, _, rfl, HF.out⟩
    · have hS := F.st2 (by simp [hdep] : d_ 4 = true) hd_
      rw [show d_ 6 = true from (by simp [hdep] : d_ 6 = true)] at hS
      obtain rfl := F.f4 (by simp [hdep])
      obtain rfl := F.f6 (by simp [hdep])
      obtain ⟨v_, w_, hr, hres⟩ := kc7.out ms x63 r1 w1 hS
      rw [if_pos (by rfl)]
      refine wpIn_append_run (.tmp 67) (.tmp 69) 26 rfl _ _ _ _ rfl rfl hr ?_
      exact HK.out _ _ ⟨_, _, _, _, _, _, _, _, _, _, _, _, _, ms, r1, v_, r3, rfl, ⟨F.q3, F.q4, F.q6, fun _ => ⟨(show _ from (by simp [hdep] : d_ 4 = true)), (show _ from (by simp [hdep] : d_ 6 = true))⟩, F.q10, fun h => ⟨rfl, (F.q11 h).2⟩, fun h => ⟨(F.q12 h).1, (F.q12 h).2.1, (F.q12 h).2.2.1, (F.q12 h).2.2.2.1, (F.q12 h).2.2.2.2.1, (F.q12 h).2.2.2.2.2.1, (F.q12 h).2.2.2.2.2.2.1, rfl, (F.q12 h).2.2.2.2.2.2.2.2.1, (F.q12 h).2.2.2.2.2.2.2.2.2.1, (F.q12 h).2.2.2.2.2.2.2.2.2.2.1, (F.q12 h).2.2.2.2.2.2.2.2.2.2.2⟩, F.f1, F.f2, F.f3, F.f4, F.f5, F.f6, fun _ => rfl, F.f8, F.f9, F.f10, F.f11, F.f12, fun h => (by have h2 : d_ 0 = false := h; rw [(F.q4 (by simp [hdep] : d_ 4 = true)).1] at h2; cases h2), fun _ h => (by have h2 : d_ 4 = false := h; rw [(by simp [hdep] : d_ 4 = true)] at h2; cases h2), fun _ h => (by simp [upd] at h), fun _ _ => (by rw [show upd d_ 7 6 = true from (by simp [hdep] : d_ 6 = true)]; exact hres), fun h => (by have h2 : d_ 7 = true := (F.q11 h).1; rw [show d_ 7 = false from hd_] at h2; cases h2), F.mz⟩⟩
    · have HF : Hid (mo16F fb ln cf k v at_ S0 S1 S2 S3 S4 (upd d_ 8) x63 x64 x65 x66 x67 x68 x69 x70 (.slice (some ⟨fb, 0, none⟩) ln cf) x72 x73 x74 x13 ms r1 r2 r3 w1) := ⟨F.q3, F.q4, F.q6, F.q7, fun h => ⟨rfl, (F.q10 h).2⟩, F.q11, fun h => ⟨(F.q12 h).1, (F.q12 h).2.1, (F.q12 h).2.2.1, (F.q12 h).2.2.2.1, (F.q12 h).2.2.2.2.1, (F.q12 h).2.2.2.2.2.1, (F.q12 h).2.2.2.2.2.2.1, (F.q12 h).2.2.2.2.2.2.2.1, rfl, (F.q12 h).2.2.2.2.2.2.2.2.2.1, (F.q12 h).2.2.2.2.2.2.2.2.2.2.1, (F.q12 h).2.2.2.2.2.2.2.2.2.2.2⟩, F.f1, F.f2, F.f3, F.f4, F.f5, F.f6, F.f7, fun _ => rfl, F.f9, F.f10, F.f11, F.f12, F.st0, F.st1, F.st2, F.st3, F.st4, F.mz⟩
      clear F
      go_simp
      exact HK.out _ _ ⟨_, _, _, _, _, _, _, _, _, _, _, _, _, _, _, _, _, rfl, HF.out⟩
    · have HF : Hid (mo16F fb ln cf k v at_ S0 S1 S2 S3 S4 (upd d_ 9) x63 x64 x65 x66 x67 x68 x69 x70 x71 (.int .i64 k) x73 x74 x13 ms r1 r2 r3 w1) := ⟨F.q3, F.q4, F.q6, F.q7, fun h => ⟨(F.q10 h).1, rfl⟩, F.q11, fun h => ⟨(F.q12 h).1, (F.q12 h).2.1, (F.q12 h).2.2.1, (F.q12 h).2.2.2.1, (F.q12 h).2.2.2.2.1, (F.q12 h).2.2.2.2.2.1, (F.q12 h).2.2.2.2.2.2.1, (F.q12 h).2.2.2.2.2.2.2.1, (F.q12 h).2.2.2.2.2.2.2.2.1, rfl, (F.q12 h).2.2.2.2.2.2.2.2.2.2.1, (F.q12 h).2.2.2.2.2.2.2.2.2.2.2⟩, F.f1, F.f2, F.f3, F.f4, F.f5, F.f6, F.f7, F.f8, fun _ => rfl, F.f10, F.f11, F.f12, F.st0, F.st1, F.st2, F.st3, F.st4, F.mz⟩
      clear F
      go_simp
      exact HK.out _ _ ⟨_, _, _, _, _, _, _, _, _, _, _, _, _, _, _, _, _, rfl, HF.out⟩
    · obtain rfl := F.f8 (by simp [hdep])
      obtain rfl := F.f9 (by simp [hdep])
      have HF : Hid (mo16F fb ln cf k v at_ S0 S1 S2 S3 S4 (upd d_ 10) x63 x64 x65 x66 x67 x68 x69 x70 (.slice (some ⟨fb, 0, none⟩) ln cf) (.int .i64 k) (.slice at_ (ln - k) (cf - k)) x74 x13 ms r1 r2 r3 w1) := ⟨F.q3, F.q4, F.q6, F.q7, fun _ => ⟨(show _ from (by simp [hdep] : d_ 8 = true)), (show _ from (by simp [hdep] : d_ 9 = true))⟩, fun h => ⟨(F.q11 h).1, rfl⟩, fun h => ⟨(F.q12 h).1, (F.q12 h).2.1, (F.q12 h).2.2.1, (F.q12 h).2.2.2.1, (F.q12 h).2.2.2.2.1, (F.q12 h).2.2.2.2.2.1, (F.q12 h).2.2.2.2.2.2.1, (F.q12 h).2.2.2.2.2.2.2.1, (F.q12 h).2.2.2.2.2.2.2.2.1, (F.q12 h).2.2.2.2.2.2.2.2.2.1, rfl, (F.q12 h).2.2.2.2.2.2.2.2.2.2.2⟩, F.f1, F.f2, F.f3, F.f4, F.f5, F.f6, F.f7, F.f8, F.f9, fun _ => rfl, F.f11, F.f12, F.st0, F.st1, F.st2, F.st3, F.st4, F.mz⟩
      clear F
      have hk1 : (k : Int) ≤ (ln : Int) := by omega
      have hk2 : ((k : Int)).toNat = k := by omega
      go_simp
      exact HK.out _ _ ⟨_, _, _, _, _, _, _, _, _, _, _, _, _, _, _, _, _, rfl, HF.out⟩
    · have hS := F.st3 (by simp [hdep] : d_ 7 = true) hd_
      rw [show d_ 6 = true from (F.q7 (by simp [hdep] : d_ 7 = true)).2] at hS
      obtain rfl := F.f7 (by simp [hdep])
      obtain rfl := F.f10 (by simp [hdep])
      obtain ⟨v_, w_, hr, hres⟩ := kc11.out ms x63 r1 r2 w1 hS
      rw [if_pos (by rfl)]
      refine wpIn_append_run (.tmp 70) (.tmp 73) 26 rfl _ _ _ _ rfl rfl hr ?_
      exact HK.out _ _ ⟨_, _, _, _, _, _, _, _, _, _, _, _, _, ms, r1, r2, v_, rfl, ⟨F.q3, F.q4, F.q6, F.q7, F.q10, fun _ => ⟨(show _ from (by simp [hdep] : d_ 7 = true)), (show _ from (by simp [hdep] : d_ 10 = true))⟩, fun h => ⟨(F.q12 h).1, (F.q12 h).2.1, (F.q12 h).2.2.1, (F.q12 h).2.2.2.1, (F.q12 h).2.2.2.2.1, (F.q12 h).2.2.2.2.2.1, (F.q12 h).2.2.2.2.2.2.1, (F.q12 h).2.2.2.2.2.2.2.1, (F.q12 h).2.2.2.2.2.2.2.2.1, (F.q12 h).2.2.2.2.2.2.2.2.2.1, (F.q12 h).2.2.2.2.2.2.2.2.2.2.1, rfl⟩, F.f1, F.f2, F.f3, F.f4, F.f5, F.f6, F.f7, F.f8, F.f9, F.f10, fun _ => rfl, fun h => (by have h2 : d_ 11 = true := (F.q12 h).2.2.2.2.2.2.2.2.2.2.2; rw [show d_ 11 = false from hd_] at h2; cases h2), fun h => (by have h2 : d_ 0 = false := h; rw [(F.q4 (F.q7 (by simp [hdep] : d_ 7 = true)).1).1] at h2; cases h2), fun _ h => (by have h2 : d_ 4 = false := h; rw [(F.q7 (by simp [hdep] : d_ 7 = true)).1] at h2; cases h2), fun _ h => (by have h2 : d_ 7 = false := h; rw [(by simp [hdep] : d_ 7 = true)] at h2; cases h2), fun _ h => (by simp [upd] at h), fun _ => (by rw [show upd d_ 11 6 = true from (F.q7 (by simp [hdep] : d_ 7 = true)).2]; exact hres), F.mz⟩⟩
    · obtain rfl := F.f11 (by simp [hdep])
      have HF : Hid (mo16F fb ln cf k v at_ S0 S1 S2 S3 S4 (upd d_ 12) x63 x64 x65 x66 x67 x68 x69 x70 x71 x72 x73 (.slice r3.1 (k + 1 + (ln - k)) r3.2) (.slice r3.1 (k + 1 + (ln - k)) r3.2) ms r1 r2 r3 w1) := ⟨F.q3, F.q4, F.q6, F.q7, F.q10, F.q11, fun _ => ⟨(show _ from (by simp [hdep] : d_ 0 = true)), (show _ from (by simp [hdep] : d_ 1 = true)), (show _ from (by simp [hdep] : d_ 2 = true)), (show _ from (by simp [hdep] : d_ 3 = true)), (show _ from (by simp [hdep] : d_ 4 = true)), (show _ from (by simp [hdep] : d_ 5 = true)), (show _ from (by simp [hdep] : d_ 6 = true)), (show _ from (by simp [hdep] : d_ 7 = true)), (show _ from (by simp [hdep] : d_ 8 = true)), (show _ from (by simp [hdep] : d_ 9 = true)), (show _ from (by simp [hdep] : d_ 10 = true)), (show _ from (by simp [hdep] : d_ 11 = true))⟩, F.f1, F.f2, F.f3, F.f4, F.f5, F.f6, F.f7, F.f8, F.f9, F.f10, F.f11, fun _ => rfl, F.st0, F.st1, F.st2, F.st3, F.st4, F.mz⟩
      clear F
      go_simp
      exact HK.out _ _ ⟨_, _, _, _, _, _, _, _, _, _, _, _, _, _, _, _, _, rfl, HF.out⟩
  · rintro d_ a_ w1 hall ⟨x63, x64, x65, x66, x67, x68, x69, x70, x71, x72, x73, x74, x13, ms, r1, r2, r3, rfl, F⟩
    have hall' : ∀ k, k < 13 → d_ k = true := hall
    obtain rfl := F.f1 (hall' 1 (by decide))
    obtain rfl := F.f2 (hall' 2 (by decide))
    obtain rfl := F.f3 (hall' 3 (by decide))
    obtain rfl := F.f4 (hall' 4 (by decide))
    obtain rfl := F.f5 (hall' 5 (by decide))
    obtain rfl := F.f6 (hall' 6 (by decide))
    obtain rfl := F.f7 (hall' 7 (by decide))
    obtain rfl := F.f8 (hall' 8 (by decide))
    obtain rfl := F.f9 (hall' 9 (by decide))
    obtain rfl := F.f10 (hall' 10 (by decide))
    obtain rfl := F.f11 (hall' 11 (by decide))
    obtain rfl := F.f12 (hall' 12 (by decide))
    have hst := F.st4 (hall' 11 (by decide))
    rw [show d_ 6 = true from hall' 6 (by decide)] at hst
    exact HQ.out ms x63 r1 r2 r3 w1 hst
structure mo16zF (v : Nat) (S0 : Bool → Nat → World → Prop) (S1 : Bool → Nat → Value → World → Prop) (S2 : Bool → Nat → Value → Option Addr × Nat → World → Prop) (S3 : Bool → Nat → Value → Option Addr × Nat → Option Addr × Nat → World → Prop) (S4 : Bool → Nat → Value → Option Addr × Nat → Option Addr × Nat → Option Addr × Nat → World → Prop) (d : Nat → Bool) (x63 x64 x65 x66 x67 x68 x69 x70 x71 x72 x73 x74 x13 : Value) (ms : Nat) (r1 : Option Addr × Nat) (r2 : Option Addr × Nat) (r3 : Option Addr × Nat) (w : World) : Prop where
  q3 : d 3 = true → d 1 = true ∧ d 2 = true
  q4 : d 4 = true → d 0 = true ∧ d 3 = true
  q6 : d 6 = true → d 5 = true
  q7 : d 7 = true → d 4 = true ∧ d 6 = true
  q10 : d 10 = true → d 8 = true ∧ d 9 = true
  q11 : d 11 = true → d 7 = true ∧ d 10 = true
  q12 : d 12 = true → d 0 = true ∧ d 1 = true ∧ d 2 = true ∧ d 3 = true ∧ d 4 = true ∧ d 5 = true ∧ d 6 = true ∧ d 7 = true ∧ d 8 = true ∧ d 9 = true ∧ d 10 = true ∧ d 11 = true
  f1 : d 1 = true → x64 = .slice none 0 0
  f2 : d 2 = true → x65 = .int .i64 0
  f3 : d 3 = true → x66 = .slice none 0 0
  f4 : d 4 = true → x67 = .slice r1.1 0 r1.2
  f5 : d 5 = true → x68 = .int .i64 v
  f6 : d 6 = true → x69 = .slice (some ⟨ms, 0, none⟩) 1 1
  f7 : d 7 = true → x70 = .slice r2.1 (1) r2.2
  f8 : d 8 = true → x71 = .slice none 0 0
  f9 : d 9 = true → x72 = .int .i64 0
  f10 : d 10 = true → x73 = .slice none 0 0
  f11 : d 11 = true → x74 = .slice r3.1 (1) r3.2
  f12 : d 12 = true → x13 = .slice r3.1 (1) r3.2
  st0 : d 0 = false → S0 (d 6) ms w
  st1 : d 0 = true → d 4 = false → S1 (d 6) ms x63 w
  st2 : d 4 = true → d 7 = false → S2 (d 6) ms x63 r1 w
  st3 : d 7 = true → d 11 = false → S3 (d 6) ms x63 r1 r2 w
  st4 : d 11 = true → S4 (d 6) ms x63 r1 r2 r3 w
  mz : d 6 = false → ms = 0
noncomputable def mo16zC : Code := (Try.f8.body.bind (regionAt 16)).getD .skip
set_option maxRecDepth 100000 in
set_option maxHeartbeats 4000000 in
theorem mo16z {v : Nat} {S0 : Bool → Nat → World → Prop} {S1 : Bool → Nat → Value → World → Prop} {S2 : Bool → Nat → Value → Option Addr × Nat → World → Prop} {S3 : Bool → Nat → Value → Option Addr × Nat → Option Addr × Nat → World → Prop} {S4 : Bool → Nat → Value → Option Addr × Nat → Option Addr × Nat → Option Addr × Nat → World → Prop} {Q : Exit → Act → World → Prop} {W1 : World} (h0 : S0 false 0 W1.drew)
    (kc0 : Hid (∀ (fs : Bool) (ms : Nat) (w : World), S0 fs ms w → S1 fs ms (.slice (some ⟨w.heap.size, 0, none⟩) 0 0) (w.alloc (.cells #[] 3))))
    (kc4 : Hid (∀ (fs : Bool) (ms : Nat) (x63 : Value) (w : World), S1 fs ms x63 w → ∃ (r1 : Option Addr × Nat) (w' : World), (Builtin.append_ #[26, 26] 26 #[x63, .slice none 0 0]).run Try.prog w = .ok (.slice r1.1 0 r1.2) w' ∧ S2 fs ms x63 r1 w'))
    (ks0 : Hid (∀ (w : World), S0 false 0 w → S0 true w.heap.size (w.alloc (.cells #[.int .i64 v] 3))))
    (ks1 : Hid (∀ (x63 : Value) (w : World), S1 false 0 x63 w → S1 true w.heap.size x63 (w.alloc (.cells #[.int .i64 v] 3))))
    (ks2 : Hid (∀ (x63 : Value) (r1 : Option Addr × Nat) (w : World), S2 false 0 x63 r1 w → S2 true w.heap.size x63 r1 (w.alloc (.cells #[.int .i64 v] 3))))
    (kc7 : Hid (∀ (ms : Nat) (x63 : Value) (r1 : Option Addr × Nat) (w : World), S2 true ms x63 r1 w → ∃ (r2 : Option Addr × Nat) (w' : World), (Builtin.append_ #[26, 26] 26 #[.slice r1.1 0 r1.2, .slice (some ⟨ms, 0, none⟩) 1 1]).run Try.prog w = .ok (.slice r2.1 (1) r2.2) w' ∧ S3 true ms x63 r1 r2 w'))
    (kc11 : Hid (∀ (ms : Nat) (x63 : Value) (r1 : Option Addr × Nat) (r2 : Option Addr × Nat) (w : World), S3 true ms x63 r1 r2 w → ∃ (r3 : Option Addr × Nat) (w' : World), (Builtin.append_ #[26, 26] 26 #[.slice r2.1 (1) r2.2, .slice none 0 0]).run Try.prog w = .ok (.slice r3.1 (1) r3.2) w' ∧ S4 true ms x63 r1 r2 r3 w'))
    {s0 s1 s2 s3 s4 s5 s6 s8 s9 s10 s13 s14 s15 s16 s17 s18 s19 s20 s21 s22 s23 s24 s25 s26 s27 s28 s29 s30 s31 s32 s33 s34 s35 s36 s37 s38 s39 s40 s41 s42 s43 s44 s45 s46 s47 s48 s49 s50 s51 s52 s53 s54 s55 s56 s57 s58 s59 s60 s61 s62 s63 s64 s65 s66 s67 s68 s69 s70 s71 s72 s73 s74 s75 s76 s77 s78 s79 s80 s81 s82 s83 s84 s85 s86 s87 s88 s89 s90 s91 s92 s93 s94 s95 s96 s97 s98 s99 s100 s101 s102 s103 s104 s105 s106 s107 s108 s109 s110 s111 s112 s113 s114 s115 s116 s117 s118 s119 s120 s121 s122 s123 s124 s125 s126 s127 s128 s129 s130 s131 s132 s133 s134 s135 s136 s137 s138 s139 s140 s141 s142 s143 s144 s145 s146 s147 s148 s149 s150 s151 s152 s153 s154 s155 s156 s157 s158 s159 s160 s161 s162 s163 s164 s165 s166 s167 s168 s169 s170 s171 s172 s173 s174 s175 : Value} {dd : List Deferred}
    (hQ : ∀ (ms : Nat) (x63 : Value) (r1 : Option Addr × Nat) (r2 : Option Addr × Nat) (r3 : Option Addr × Nat) (w' : World), S4 true ms x63 r1 r2 r3 w' → Q .normal { tmps := #[s0, s1, s2, s3, s4, s5, s6, .slice none 0 0, s8, s9, s10, .int .i64 0, .int .i64 v, .slice r3.1 (1) r3.2, s14, s15, s16, s17, s18, s19, s20, s21, s22, s23, s24, s25, s26, s27, s28, s29, s30, s31, s32, s33, s34, s35, s36, s37, s38, s39, s40, s41, s42, s43, s44, s45, s46, s47, s48, s49, s50, s51, s52, s53, s54, s55, s56, s57, s58, s59, s60, s61, s62, x63, .slice none 0 0, .int .i64 0, .slice none 0 0, .slice r1.1 0 r1.2, .int .i64 v, .slice (some ⟨ms, 0, none⟩) 1 1, .slice r2.1 (1) r2.2, .slice none 0 0, .int .i64 0, .slice none 0 0, .slice r3.1 (1) r3.2, s75, s76, s77, s78, s79, s80, s81, s82, s83, s84, s85, s86, s87, s88, s89, s90, s91, s92, s93, s94, s95, s96, s97, s98, s99, s100, s101, s102, s103, s104, s105, s106, s107, s108, s109, s110, s111, s112, s113, s114, s115, s116, s117, s118, s119, s120, s121, s122, s123, s124, s125, s126, s127, s128, s129, s130, s131, s132, s133, s134, s135, s136, s137, s138, s139, s140, s141, s142, s143, s144, s145, s146, s147, s148, s149, s150, s151, s152, s153, s154, s155, s156, s157, s158, s159, s160, s161, s162, s163, s164, s165, s166, s167, s168, s169, s170, s171, s172, s173, s174, s175], defers := dd } w') :
    Code.wpIn (wideAt none) 0 Try.prog mo16zC Q { tmps := #[s0, s1, s2, s3, s4, s5, s6, .slice none 0 0, s8, s9, s10, .int .i64 0, .int .i64 v, s13, s14, s15, s16, s17, s18, s19, s20, s21, s22, s23, s24, s25, s26, s27, s28, s29, s30, s31, s32, s33, s34, s35, s36, s37, s38, s39, s40, s41, s42, s43, s44, s45, s46, s47, s48, s49, s50, s51, s52, s53, s54, s55, s56, s57, s58, s59, s60, s61, s62, s63, s64, s65, s66, s67, s68, s69, s70, s71, s72, s73, s74, s75, s76, s77, s78, s79, s80, s81, s82, s83, s84, s85, s86, s87, s88, s89, s90, s91, s92, s93, s94, s95, s96, s97, s98, s99, s100, s101, s102, s103, s104, s105, s106, s107, s108, s109, s110, s111, s112, s113, s114, s115, s116, s117, s118, s119, s120, s121, s122, s123, s124, s125, s126, s127, s128, s129, s130, s131, s132, s133, s134, s135, s136, s137, s138, s139, s140, s141, s142, s143, s144, s145, s146, s147, s148, s149, s150, s151, s152, s153, s154, s155, s156, s157, s158, s159, s160, s161, s162, s163, s164, s165, s166, s167, s168, s169, s170, s171, s172, s173, s174, s175], defers := dd } W1 := by
  have HQ := Lib.hid hQ
  clear hQ
  conv => arg 4; whnf
  refine wpIn_region_invG mixed (by kernel_rfl) (fun d_ a_ w' => ∃ (x63 : Value) (x64 : Value) (x65 : Value) (x66 : Value) (x67 : Value) (x68 : Value) (x69 : Value) (x70 : Value) (x71 : Value) (x72 : Value) (x73 : Value) (x74 : Value) (x13 : Value) (ms : Nat) (r1 : Option Addr × Nat) (r2 : Option Addr × Nat) (r3 : Option Addr × Nat), a_ = { tmps := #[s0, s1, s2, s3, s4, s5, s6, .slice none 0 0, s8, s9, s10, .int .i64 0, .int .i64 v, x13, s14, s15, s16, s17, s18, s19, s20, s21, s22, s23, s24, s25, s26, s27, s28, s29, s30, s31, s32, s33, s34, s35, s36, s37, s38, s39, s40, s41, s42, s43, s44, s45, s46, s47, s48, s49, s50, s51, s52, s53, s54, s55, s56, s57, s58, s59, s60, s61, s62, x63, x64, x65, x66, x67, x68, x69, x70, x71, x72, x73, x74, s75, s76, s77, s78, s79, s80, s81, s82, s83, s84, s85, s86, s87, s88, s89, s90, s91, s92, s93, s94, s95, s96, s97, s98, s99, s100, s101, s102, s103, s104, s105, s106, s107, s108, s109, s110, s111, s112, s113, s114, s115, s116, s117, s118, s119, s120, s121, s122, s123, s124, s125, s126, s127, s128, s129, s130, s131, s132, s133, s134, s135, s136, s137, s138, s139, s140, s141, s142, s143, s144, s145, s146, s147, s148, s149, s150, s151, s152, s153, s154, s155, s156, s157, s158, s159, s160, s161, s162, s163, s164, s165, s166, s167, s168, s169, s170, s171, s172, s173, s174, s175], defers := dd } ∧ mo16zF v S0 S1 S2 S3 S4 d_ x63 x64 x65 x66 x67 x68 x69 x70 x71 x72 x73 x74 x13 ms r1 r2 r3 w') ?_ ?_ ?_
  · refine ⟨s63, s64, s65, s66, s67, s68, s69, s70, s71, s72, s73, s74, s13, 0, default, default, default, rfl, ?_⟩
    constructor <;> first | rfl | (intro _; rfl) | (intro h; cases h; done) | (intro _; exact h0) | exact h0
  · refine ⟨?_, ?_, ?_, ?_, ?_, ?_, ?_, ?_, ?_, ?_, ?_, ?_, ?_, trivial⟩
    all_goals
      rintro d_ a_ w1 K hd_ hdep ⟨x63, x64, x65, x66, x67, x68, x69, x70, x71, x72, x73, x74, x13, ms, r1, r2, r3, rfl, F⟩ HK
      simp [Region.binds] at hdep
    · have hS := F.st0  hd_
      have hres := kc0.out (d_ 6) ms w1 hS
      have HF : Hid (mo16zF v S0 S1 S2 S3 S4 (upd d_ 0) ((.slice (some ⟨w1.heap.size, 0, none⟩) 0 0)) x64 x65 x66 x67 x68 x69 x70 x71 x72 x73 x74 x13 ms r1 r2 r3 (w1.alloc (.cells #[] 3))) := ⟨F.q3, fun h => ⟨rfl, (F.q4 h).2⟩, F.q6, F.q7, F.q10, F.q11, fun h => ⟨rfl, (F.q12 h).2.1, (F.q12 h).2.2.1, (F.q12 h).2.2.2.1, (F.q12 h).2.2.2.2.1, (F.q12 h).2.2.2.2.2.1, (F.q12 h).2.2.2.2.2.2.1, (F.q12 h).2.2.2.2.2.2.2.1, (F.q12 h).2.2.2.2.2.2.2.2.1, (F.q12 h).2.2.2.2.2.2.2.2.2.1, (F.q12 h).2.2.2.2.2.2.2.2.2.2.1, (F.q12 h).2.2.2.2.2.2.2.2.2.2.2⟩, F.f1, F.f2, F.f3, F.f4, F.f5, F.f6, F.f7, F.f8, F.f9, F.f10, F.f11, F.f12, fun h => (by simp [upd] at h), fun _ _ => hres, fun h _ => (by have h2 : d_ 0 = true := (F.q4 h).1; rw [show d_ 0 = false from hd_] at h2; cases h2), fun h _ => (by have h2 : d_ 0 = true := (F.q4 (F.q7 h).1).1; rw [show d_ 0 = false from hd_] at h2; cases h2), fun h => (by have h2 : d_ 0 = true := (F.q4 (F.q7 (F.q11 h).1).1).1; rw [show d_ 0 = false from hd_] at h2; cases h2), F.mz⟩
      clear F hS hres
      go_simp
      exact HK.out _ _ ⟨_, _, _, _, _, _, _, _, _, _, _, _, _, _, _, _, _, rfl, HF.out⟩
    · have HF : Hid (mo16zF v S0 S1 S2 S3 S4 (upd d_ 1) x63 (.slice none 0 0) x65 x66 x67 x68 x69 x70 x71 x72 x73 x74 x13 ms r1 r2 r3 w1) := ⟨fun h => ⟨rfl, (F.q3 h).2⟩, F.q4, F.q6, F.q7, F.q10, F.q11, fun h => ⟨(F.q12 h).1, rfl, (F.q12 h).2.2.1, (F.q12 h).2.2.2.1, (F.q12 h).2.2.2.2.1, (F.q12 h).2.2.2.2.2.1, (F.q12 h).2.2.2.2.2.2.1, (F.q12 h).2.2.2.2.2.2.2.1, (F.q12 h).2.2.2.2.2.2.2.2.1, (F.q12 h).2.2.2.2.2.2.2.2.2.1, (F.q12 h).2.2.2.2.2.2.2.2.2.2.1, (F.q12 h).2.2.2.2.2.2.2.2.2.2.2⟩, fun _ => rfl, F.f2, F.f3, F.f4, F.f5, F.f6, F.f7, F.f8, F.f9, F.f10, F.f11, F.f12, F.st0, F.st1, F.st2, F.st3, F.st4, F.mz⟩
      clear F
      go_simp
      exact HK.out _ _ ⟨_, _, _, _, _, _, _, _, _, _, _, _, _, _, _, _, _, rfl, HF.out⟩
    · have HF : Hid (mo16zF v S0 S1 S2 S3 S4 (upd d_ 2) x63 x64 (.int .i64 0) x66 x67 x68 x69 x70 x71 x72 x73 x74 x13 ms r1 r2 r3 w1) := ⟨fun h => ⟨(F.q3 h).1, rfl⟩, F.q4, F.q6, F.q7, F.q10, F.q11, fun h => ⟨(F.q12 h).1, (F.q12 h).2.1, rfl, (F.q12 h).2.2.2.1, (F.q12 h).2.2.2.2.1, (F.q12 h).2.2.2.2.2.1, (F.q12 h).2.2.2.2.2.2.1, (F.q12 h).2.2.2.2.2.2.2.1, (F.q12 h).2.2.2.2.2.2.2.2.1, (F.q12 h).2.2.2.2.2.2.2.2.2.1, (F.q12 h).2.2.2.2.2.2.2.2.2.2.1, (F.q12 h).2.2.2.2.2.2.2.2.2.2.2⟩, F.f1, fun _ => rfl, F.f3, F.f4, F.f5, F.f6, F.f7, F.f8, F.f9, F.f10, F.f11, F.f12, F.st0, F.st1, F.st2, F.st3, F.st4, F.mz⟩
      clear F
      go_simp
      exact HK.out _ _ ⟨_, _, _, _, _, _, _, _, _, _, _, _, _, _, _, _, _, rfl, HF.out⟩
    · obtain rfl := F.f1 (by simp [hdep])
      obtain rfl := F.f2 (by simp [hdep])
      have HF : Hid (mo16zF v S0 S1 S2 S3 S4 (upd d_ 3) x63 (.slice none 0 0) (.int .i64 0) (.slice none 0 0) x67 x68 x69 x70 x71 x72 x73 x74 x13 ms r1 r2 r3 w1) := ⟨fun _ => ⟨(show _ from (by simp [hdep] : d_ 1 = true)), (show _ from (by simp [hdep] : d_ 2 = true))⟩, fun h => ⟨(F.q4 h).1, rfl⟩, F.q6, F.q7, F.q10, F.q11, fun h => ⟨(F.q12 h).1, (F.q12 h).2.1, (F.q12 h).2.2.1, rfl, (F.q12 h).2.2.2.2.1, (F.q12 h).2.2.2.2.2.1, (F.q12 h).2.2.2.2.2.2.1, (F.q12 h).2.2.2.2.2.2.2.1, (F.q12 h).2.2.2.2.2.2.2.2.1, (F.q12 h).2.2.2.2.2.2.2.2.2.1, (F.q12 h).2.2.2.2.2.2.2.2.2.2.1, (F.q12 h).2.2.2.2.2.2.2.2.2.2.2⟩, F.f1, F.f2, fun _ => rfl, F.f4, F.f5, F.f6, F.f7, F.f8, F.f9, F.f10, F.f11, F.f12, F.st0, F.st1, F.st2, F.st3, F.st4, F.mz⟩
      clear F
      go_simp
      exact HK.out _ _ ⟨_, _, _, _, _, _, _, _, _, _, _, _, _, _, _, _, _, rfl, HF.out⟩
    · have hS := F.st1 (by simp [hdep] : d_ 0 = true) hd_
      obtain rfl := F.f3 (by simp [hdep])
      obtain ⟨v_, w_, hr, hres⟩ := kc4.out (d_ 6) ms x63 w1 hS
      rw [if_pos (by rfl)]
      refine wpIn_append_run (.tmp 63) (.tmp 66) 26 rfl _ _ _ _ rfl rfl hr ?_
      exact HK.out _ _ ⟨_, _, _, _, _, _, _, _, _, _, _, _, _, ms, v_, r2, r3, rfl, ⟨F.q3, fun _ => ⟨(show _ from (by simp [hdep] : d_ 0 = true)), (show _ from (by simp [hdep] : d_ 3 = true))⟩, F.q6, fun h => ⟨rfl, (F.q7 h).2⟩, F.q10, F.q11, fun h => ⟨(F.q12 h).1, (F.q12 h).2.1, (F.q12 h).2.2.1, (F.q12 h).2.2.2.1, rfl, (F.q12 h).2.2.2.2.2.1, (F.q12 h).2.2.2.2.2.2.1, (F.q12 h).2.2.2.2.2.2.2.1, (F.q12 h).2.2.2.2.2.2.2.2.1, (F.q12 h).2.2.2.2.2.2.2.2.2.1, (F.q12 h).2.2.2.2.2.2.2.2.2.2.1, (F.q12 h).2.2.2.2.2.2.2.2.2.2.2⟩, F.f1, F.f2, F.f3, fun _ => rfl, F.f5, F.f6, F.f7, F.f8, F.f9, F.f10, F.f11, F.f12, fun h => (by have h2 : d_ 0 = false := h; rw [(by simp [hdep] : d_ 0 = true)] at h2; cases h2), fun _ h => (by simp [upd] at h), fun _ _ => hres, fun h _ => (by have h2 : d_ 4 = true := (F.q7 h).1; rw [show d_ 4 = false from hd_] at h2; cases h2), fun h => (by have h2 : d_ 4 = true := (F.q7 (F.q11 h).1).1; rw [show d_ 4 = false from hd_] at h2; cases h2), F.mz⟩⟩
    · have HF : Hid (mo16zF v S0 S1 S2 S3 S4 (upd d_ 5) x63 x64 x65 x66 x67 (.int .i64 v) x69 x70 x71 x72 x73 x74 x13 ms r1 r2 r3 w1) := ⟨F.q3, F.q4, fun h => rfl, F.q7, F.q10, F.q11, fun h => ⟨(F.q12 h).1, (F.q12 h).2.1, (F.q12 h).2.2.1, (F.q12 h).2.2.2.1, (F.q12 h).2.2.2.2.1, rfl, (F.q12 h).2.2.2.2.2.2.1, (F.q12 h).2.2.2.2.2.2.2.1, (F.q12 h).2.2.2.2.2.2.2.2.1, (F.q12 h).2.2.2.2.2.2.2.2.2.1, (F.q12 h).2.2.2.2.2.2.2.2.2.2.1, (F.q12 h).2.2.2.2.2.2.2.2.2.2.2⟩, F.f1, F.f2, F.f3, F.f4, fun _ => rfl, F.f6, F.f7, F.f8, F.f9, F.f10, F.f11, F.f12, F.st0, F.st1, F.st2, F.st3, F.st4, F.mz⟩
      clear F
      go_simp
      exact HK.out _ _ ⟨_, _, _, _, _, _, _, _, _, _, _, _, _, _, _, _, _, rfl, HF.out⟩
    · obtain rfl := F.f5 (by simp [hdep])
      have HF : Hid (mo16zF v S0 S1 S2 S3 S4 (upd d_ 6) x63 x64 x65 x66 x67 (.int .i64 v) (.slice (some ⟨w1.heap.size, 0, none⟩) 1 1) x70 x71 x72 x73 x74 x13 w1.heap.size r1 r2 r3 (w1.alloc (.cells #[.int .i64 v] 3))) := ⟨F.q3, F.q4, fun _ => (show _ from (by simp [hdep] : d_ 5 = true)), fun h => ⟨(F.q7 h).1, rfl⟩, F.q10, F.q11, fun h => ⟨(F.q12 h).1, (F.q12 h).2.1, (F.q12 h).2.2.1, (F.q12 h).2.2.2.1, (F.q12 h).2.2.2.2.1, (F.q12 h).2.2.2.2.2.1, rfl, (F.q12 h).2.2.2.2.2.2.2.1, (F.q12 h).2.2.2.2.2.2.2.2.1, (F.q12 h).2.2.2.2.2.2.2.2.2.1, (F.q12 h).2.2.2.2.2.2.2.2.2.2.1, (F.q12 h).2.2.2.2.2.2.2.2.2.2.2⟩, F.f1, F.f2, F.f3, F.f4, F.f5, fun _ => rfl, F.f7, F.f8, F.f9, F.f10, F.f11, F.f12, fun b => ks0.out w1 (by have h := F.st0 b; rw [show d_ 6 = false from hd_, F.mz hd_] at h; exact h), fun a b => ks1.out x63 w1 (by have h := F.st1 a b; rw [show d_ 6 = false from hd_, F.mz hd_] at h; exact h), fun a b => ks2.out x63 r1 w1 (by have h := F.st2 a b; rw [show d_ 6 = false from hd_, F.mz hd_] at h; exact h), fun a b => (by have h2 : d_ 6 = true := (F.q7 a).2; rw [show d_ 6 = false from hd_] at h2; cases h2), fun a => (by have h2 : d_ 6 = true := (F.q7 (F.q11 a).1).2; rw [show d_ 6 = false from hd_] at h2; cases h2), fun h => (by simp [upd] at h)⟩
      clear F
      go_simp
      exact HK.out _ _ ⟨_, _, _, _, _, _, _, _, _, _, _, _, _, _, _, _, _, rfl, HF.out⟩
    · have hS := F.st2 (by simp [hdep] : d_ 4 = true) hd_
      rw [show d_ 6 = true from (by simp [hdep] : d_ 6 = true)] at hS
      obtain rfl := F.f4 (by simp [hdep])
      obtain rfl := F.f6 (by simp [hdep])
      obtain ⟨v_, w_, hr, hres⟩ := kc7.out ms x63 r1 w1 hS
      rw [if_pos (by rfl)]
      refine wpIn_append_run (.tmp 67) (.tmp 69) 26 rfl _ _ _ _ rfl rfl hr ?_
      exact HK.out _ _ ⟨_, _, _, _, _, _, _, _, _, _, _, _, _, ms, r1, v_, r3, rfl, ⟨F.q3, F.q4, F.q6, fun _ => ⟨(show _ from (by simp [hdep] : d_ 4 = true)), (show _ from (by simp [hdep] : d_ 6 = true))⟩, F.q10, fun h => ⟨rfl, (F.q11 h).2⟩, fun h => ⟨(F.q12 h).1, (F.q12 h).2.1, (F.q12 h).2.2.1, (F.q12 h).2.2.2.1, (F.q12 h).2.2.2.2.1, (F.q12 h).2.2.2.2.2.1, (F.q12 h).2.2.2.2.2.2.1, rfl, (F.q12 h).2.2.2.2.2.2.2.2.1, (F.q12 h).2.2.2.2.2.2.2.2.2.1, (F.q12 h).2.2.2.2.2.2.2.2.2.2.1, (F.q12 h).2.2.2.2.2.2.2.2.2.2.2⟩, F.f1, F.f2, F.f3, F.f4, F.f5, F.f6, fun _ => rfl, F.f8, F.f9, F.f10, F.f11, F.f12, fun h => (by have h2 : d_ 0 = false := h; rw [(F.q4 (by simp [hdep] : d_ 4 = true)).1] at h2; cases h2), fun _ h => (by have h2 : d_ 4 = false := h; rw [(by simp [hdep] : d_ 4 = true)] at h2; cases h2), fun _ h => (by simp [upd] at h), fun _ _ => (by rw [show upd d_ 7 6 = true from (by simp [hdep] : d_ 6 = true)]; exact hres), fun h => (by have h2 : d_ 7 = true := (F.q11 h).1; rw [show d_ 7 = false from hd_] at h2; cases h2), F.mz⟩⟩
    · have HF : Hid (mo16zF v S0 S1 S2 S3 S4 (upd d_ 8) x63 x64 x65 x66 x67 x68 x69 x70 (.slice none 0 0) x72 x73 x74 x13 ms r1 r2 r3 w1) := ⟨F.q3, F.q4, F.q6, F.q7, fun h => ⟨rfl, (F.q10 h).2⟩, F.q11, fun h => ⟨(F.q12 h).1, (F.q12 h).2.1, (F.q12 h).2.2.1, (F.q12 h).2.2.2.1, (F.q12 h).2.2.2.2.1, (F.q12 h).2.2.2.2.2.1, (F.q12 h).2.2.2.2.2.2.1, (F.q12 h).2.2.2.2.2.2.2.1, rfl, (F.q12 h).2.2.2.2.2.2.2.2.2.1, (F.q12 h).2.2.2.2.2.2.2.2.2.2.1, (F.q12 h).2.2.2.2.2.2.2.2.2.2.2⟩, F.f1, F.f2, F.f3, F.f4, F.f5, F.f6, F.f7, fun _ => rfl, F.f9, F.f10, F.f11, F.f12, F.st0, F.st1, F.st2, F.st3, F.st4, F.mz⟩
      clear F
      go_simp
      exact HK.out _ _ ⟨_, _, _, _, _, _, _, _, _, _, _, _, _, _, _, _, _, rfl, HF.out⟩
    · have HF : Hid (mo16zF v S0 S1 S2 S3 S4 (upd d_ 9) x63 x64 x65 x66 x67 x68 x69 x70 x71 (.int .i64 0) x73 x74 x13 ms r1 r2 r3 w1) := ⟨F.q3, F.q4, F.q6, F.q7, fun h => ⟨(F.q10 h).1, rfl⟩, F.q11, fun h => ⟨(F.q12 h).1, (F.q12 h).2.1, (F.q12 h).2.2.1, (F.q12 h).2.2.2.1, (F.q12 h).2.2.2.2.1, (F.q12 h).2.2.2.2.2.1, (F.q12 h).2.2.2.2.2.2.1, (F.q12 h).2.2.2.2.2.2.2.1, (F.q12 h).2.2.2.2.2.2.2.2.1, rfl, (F.q12 h).2.2.2.2.2.2.2.2.2.2.1, (F.q12 h).2.2.2.2.2.2.2.2.2.2.2⟩, F.f1, F.f2, F.f3, F.f4, F.f5, F.f6, F.f7, F.f8, fun _ => rfl, F.f10, F.f11, F.f12, F.st0, F.st1, F.st2, F.st3, F.st4, F.mz⟩
      clear F
      go_simp
      exact HK.out _ _ ⟨_, _, _, _, _, _, _, _, _, _, _, _, _, _, _, _, _, rfl, HF.out⟩
    · obtain rfl := F.f8 (by simp [hdep])
      obtain rfl := F.f9 (by simp [hdep])
      have HF : Hid (mo16zF v S0 S1 S2 S3 S4 (upd d_ 10) x63 x64 x65 x66 x67 x68 x69 x70 (.slice none 0 0) (.int .i64 0) (.slice none 0 0) x74 x13 ms r1 r2 r3 w1) := ⟨F.q3, F.q4, F.q6, F.q7, fun _ => ⟨(show _ from (by simp [hdep] : d_ 8 = true)), (show _ from (by simp [hdep] : d_ 9 = true))⟩, fun h => ⟨(F.q11 h).1, rfl⟩, fun h => ⟨(F.q12 h).1, (F.q12 h).2.1, (F.q12 h).2.2.1, (F.q12 h).2.2.2.1, (F.q12 h).2.2.2.2.1, (F.q12 h).2.2.2.2.2.1, (F.q12 h).2.2.2.2.2.2.1, (F.q12 h).2.2.2.2.2.2.2.1, (F.q12 h).2.2.2.2.2.2.2.2.1, (F.q12 h).2.2.2.2.2.2.2.2.2.1, rfl, (F.q12 h).2.2.2.2.2.2.2.2.2.2.2⟩, F.f1, F.f2, F.f3, F.f4, F.f5, F.f6, F.f7, F.f8, F.f9, fun _ => rfl, F.f11, F.f12, F.st0, F.st1, F.st2, F.st3, F.st4, F.mz⟩
      clear F
      go_simp
      exact HK.out _ _ ⟨_, _, _, _, _, _, _, _, _, _, _, _, _, _, _, _, _, rfl, HF.out⟩
    · have hS := F.st3 (by simp [hdep] : d_ 7 = true) hd_
      rw [show d_ 6 = true from (F.q7 (by simp [hdep] : d_ 7 = true)).2] at hS
      obtain rfl := F.f7 (by simp [hdep])
      obtain rfl := F.f10 (by simp [hdep])
      obtain ⟨v_, w_, hr, hres⟩ := kc11.out ms x63 r1 r2 w1 hS
      rw [if_pos (by rfl)]
      refine wpIn_append_run (.tmp 70) (.tmp 73) 26 rfl _ _ _ _ rfl rfl hr ?_
      exact HK.out _ _ ⟨_, _, _, _, _, _, _, _, _, _, _, _, _, ms, r1, r2, v_, rfl, ⟨F.q3, F.q4, F.q6, F.q7, F.q10, fun _ => ⟨(show _ from (by simp [hdep] : d_ 7 = true)), (show _ from (by simp [hdep] : d_ 10 = true))⟩, fun h => ⟨(F.q12 h).1, (F.q12 h).2.1, (F.q12 h).2.2.1, (F.q12 h).2.2.2.1, (F.q12 h).2.2.2.2.1, (F.q12 h).2.2.2.2.2.1, (F.q12 h).2.2.2.2.2.2.1, (F.q12 h).2.2.2.2.2.2.2.1, (F.q12 h).2.2.2.2.2.2.2.2.1, (F.q12 h).2.2.2.2.2.2.2.2.2.1, (F.q12 h).2.2.2.2.2.2.2.2.2.2.1, rfl⟩, F.f1, F.f2, F.f3, F.f4, F.f5, F.f6, F.f7, F.f8, F.f9, F.f10, fun _ => rfl, fun h => (by have h2 : d_ 11 = true := (F.q12 h).2.2.2.2.2.2.2.2.2.2.2; rw [show d_ 11 = false from hd_] at h2; cases h2), fun h => (by have h2 : d_ 0 = false := h; rw [(F.q4 (F.q7 (by simp [hdep] : d_ 7 = true)).1).1] at h2; cases h2), fun _ h => (by have h2 : d_ 4 = false := h; rw [(F.q7 (by simp [hdep] : d_ 7 = true)).1] at h2; cases h2), fun _ h => (by have h2 : d_ 7 = false := h; rw [(by simp [hdep] : d_ 7 = true)] at h2; cases h2), fun _ h => (by simp [upd] at h), fun _ => (by rw [show upd d_ 11 6 = true from (F.q7 (by simp [hdep] : d_ 7 = true)).2]; exact hres), F.mz⟩⟩
    · obtain rfl := F.f11 (by simp [hdep])
      have HF : Hid (mo16zF v S0 S1 S2 S3 S4 (upd d_ 12) x63 x64 x65 x66 x67 x68 x69 x70 x71 x72 x73 (.slice r3.1 (1) r3.2) (.slice r3.1 (1) r3.2) ms r1 r2 r3 w1) := ⟨F.q3, F.q4, F.q6, F.q7, F.q10, F.q11, fun _ => ⟨(show _ from (by simp [hdep] : d_ 0 = true)), (show _ from (by simp [hdep] : d_ 1 = true)), (show _ from (by simp [hdep] : d_ 2 = true)), (show _ from (by simp [hdep] : d_ 3 = true)), (show _ from (by simp [hdep] : d_ 4 = true)), (show _ from (by simp [hdep] : d_ 5 = true)), (show _ from (by simp [hdep] : d_ 6 = true)), (show _ from (by simp [hdep] : d_ 7 = true)), (show _ from (by simp [hdep] : d_ 8 = true)), (show _ from (by simp [hdep] : d_ 9 = true)), (show _ from (by simp [hdep] : d_ 10 = true)), (show _ from (by simp [hdep] : d_ 11 = true))⟩, F.f1, F.f2, F.f3, F.f4, F.f5, F.f6, F.f7, F.f8, F.f9, F.f10, F.f11, fun _ => rfl, F.st0, F.st1, F.st2, F.st3, F.st4, F.mz⟩
      clear F
      go_simp
      exact HK.out _ _ ⟨_, _, _, _, _, _, _, _, _, _, _, _, _, _, _, _, _, rfl, HF.out⟩
  · rintro d_ a_ w1 hall ⟨x63, x64, x65, x66, x67, x68, x69, x70, x71, x72, x73, x74, x13, ms, r1, r2, r3, rfl, F⟩
    have hall' : ∀ k, k < 13 → d_ k = true := hall
    obtain rfl := F.f1 (hall' 1 (by decide))
    obtain rfl := F.f2 (hall' 2 (by decide))
    obtain rfl := F.f3 (hall' 3 (by decide))
    obtain rfl := F.f4 (hall' 4 (by decide))
    obtain rfl := F.f5 (hall' 5 (by decide))
    obtain rfl := F.f6 (hall' 6 (by decide))
    obtain rfl := F.f7 (hall' 7 (by decide))
    obtain rfl := F.f8 (hall' 8 (by decide))
    obtain rfl := F.f9 (hall' 9 (by decide))
    obtain rfl := F.f10 (hall' 10 (by decide))
    obtain rfl := F.f11 (hall' 11 (by decide))
    obtain rfl := F.f12 (hall' 12 (by decide))
    have hst := F.st4 (hall' 11 (by decide))
    rw [show d_ 6 = true from hall' 6 (by decide)] at hst
    exact HQ.out ms x63 r1 r2 r3 w1 hst
end Go.Proofs.Ytphefhpmbahagaa
