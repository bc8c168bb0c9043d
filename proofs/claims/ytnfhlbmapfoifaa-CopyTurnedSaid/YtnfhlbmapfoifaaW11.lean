/- All ways: a way that is whole is handed over. -/
import Derived.Test.YtnfhlbmapfoifaaW9
namespace Go.Proofs.Ytnfhlbmapfoifaa
open Go.RowKit
set_option linter.unusedVariables false
noncomputable def leafC : Code := (Try.f98.body.bind (regionAt 2)).getD .skip

structure LeafN (A : World) (bp : Nat) (v : Value) (d : Nat → Bool) (x16 x17 x18 x19 x20 x21 x22 x23 x24 x25 x5 : Value) (w : World) : Prop where
  same : Below A.heap.size A w
  f0 : d 0 = true → x16 = .pointer (some ⟨bp, 0, none⟩)
  f1 : d 1 = true → v = x17
  f2 : d 2 = true → x18 = .bool false
  f3 : d 3 = true → x19 = .bool true
  f4 : d 4 = true → x20 = .bool true
  f9 : d 9 = true → x25 = .bool true
  f10 : d 10 = true → x5 = .bool true
set_option maxRecDepth 100000 in
set_option maxHeartbeats 2000000 in
theorem leafN {A : World} {bp pb yb : Nat} {v : Value} {Q : Exit → Act → World → Prop} (k1 : Hid (A.cell? ⟨pb, 0, none⟩ = some (.pointer (some ⟨bp, 0, none⟩))))
    (kis : Hid (∀ w, Below A.heap.size A w → Calls Try.prog 82 #[.pointer (some ⟨bp, 0, none⟩), v] w fun e w' => e = .returned (.bool false) ∧ Below w.heap.size w w'))
    {s3 s4 s5 s6 s7 s8 s9 s10 s11 s12 s13 s14 s15 s16 s17 s18 s19 s20 s21 s22 s23 s24 s25 s26 s27 s28 s29 s30 s31 s32 s33 s34 s35 s36 s37 s38 s39 s40 s41 s42 s43 s44 s45 s46 s47 s48 : Value} {dd : List Deferred}
    (hQ : ∀ (x16 x17 x18 x19 x20 x21 x22 x23 x24 x25 x5 : Value) (w' : World), Below A.heap.size A w' → x5 = .bool true → Q .normal { tmps := #[v, .pointer (some ⟨pb, 0, none⟩), .pointer (some ⟨yb, 0, none⟩), s3, s4, x5, s6, s7, s8, s9, s10, s11, s12, s13, s14, s15, x16, x17, x18, x19, x20, x21, x22, x23, x24, x25, s26, s27, s28, s29, s30, s31, s32, s33, s34, s35, s36, s37, s38, s39, s40, s41, s42, s43, s44, s45, s46, s47, s48], defers := dd } w') :
    Code.wpIn (wideAt none) 0 Try.prog leafC Q { tmps := #[v, .pointer (some ⟨pb, 0, none⟩), .pointer (some ⟨yb, 0, none⟩), s3, s4, s5, s6, s7, s8, s9, s10, s11, s12, s13, s14, s15, s16, s17, s18, s19, s20, s21, s22, s23, s24, s25, s26, s27, s28, s29, s30, s31, s32, s33, s34, s35, s36, s37, s38, s39, s40, s41, s42, s43, s44, s45, s46, s47, s48], defers := dd } A := by
  have HQ := Lib.hid hQ
  clear hQ
  conv => arg 4; whnf
  refine wpIn_region_invG mixed (by kernel_rfl) (fun d_ a_ w' => ∃ x16 x17 x18 x19 x20 x21 x22 x23 x24 x25 x5, a_ = { tmps := #[v, .pointer (some ⟨pb, 0, none⟩), .pointer (some ⟨yb, 0, none⟩), s3, s4, x5, s6, s7, s8, s9, s10, s11, s12, s13, s14, s15, x16, x17, x18, x19, x20, x21, x22, x23, x24, x25, s26, s27, s28, s29, s30, s31, s32, s33, s34, s35, s36, s37, s38, s39, s40, s41, s42, s43, s44, s45, s46, s47, s48], defers := dd } ∧ LeafN A bp v d_ x16 x17 x18 x19 x20 x21 x22 x23 x24 x25 x5 w') ?_ ?_ ?_
  · refine ⟨s16, s17, s18, s19, s20, s21, s22, s23, s24, s25, s5, rfl, (Below.refl _ A).drew, ?_, ?_, ?_, ?_, ?_, ?_, ?_⟩ <;> (intro h; cases h)
  · refine ⟨?_, ?_, ?_, ?_, ?_, ?_, ?_, ?_, ?_, ?_, ?_, trivial⟩
    all_goals
      rintro d_ a_ w1 K hd_ hdep ⟨x16, x17, x18, x19, x20, x21, x22, x23, x24, x25, x5, rfl, F⟩ HK
      simp [Region.binds] at hdep
      have hb1 := F.same
      have k1' := cell_stays hb1 k1.out
    · have HF : Hid (LeafN A bp v (upd d_ 0) (.pointer (some ⟨bp, 0, none⟩)) x17 x18 x19 x20 x21 x22 x23 x24 x25 x5 w1) := ⟨F.same, fun _ => rfl, F.f1, F.f2, F.f3, F.f4, F.f9, F.f10⟩
      clear F hb1
      go_simp
      exact HK.out _ _ ⟨_, _, _, _, _, _, _, _, _, _, _, rfl, HF.out⟩
    · have HF : Hid (LeafN A bp v (upd d_ 1) x16 (v) x18 x19 x20 x21 x22 x23 x24 x25 x5 w1) := ⟨F.same, F.f0, fun _ => rfl, F.f2, F.f3, F.f4, F.f9, F.f10⟩
      clear F hb1
      go_simp
      exact HK.out _ _ ⟨_, _, _, _, _, _, _, _, _, _, _, rfl, HF.out⟩
    · obtain rfl := F.f0 (by simp [hdep])
      obtain rfl := F.f1 (by simp [hdep])
      have hc := kis.out w1 hb1
      have HF := Lib.hid F
      clear F
      go_simp
      refine ⟨trivial, rfl, wideAt_calls (hc.mono ?_)⟩
      rintro e w5 ⟨rfl, hb5⟩
      exact HK.out _ _ ⟨_, _, _, _, _, _, _, _, _, _, _, rfl, HF.out.same.trans (hb5.mono HF.out.same.size), HF.out.f0, HF.out.f1, fun _ => rfl, HF.out.f3, HF.out.f4, HF.out.f9, HF.out.f10⟩
    · obtain rfl := F.f2 (by simp [hdep])
      have HF : Hid (LeafN A bp v (upd d_ 3) x16 x17 (.bool false) (.bool true) x20 x21 x22 x23 x24 x25 x5 w1) := ⟨F.same, F.f0, F.f1, F.f2, fun _ => rfl, F.f4, F.f9, F.f10⟩
      clear F hb1
      go_simp
      exact HK.out _ _ ⟨_, _, _, _, _, _, _, _, _, _, _, rfl, HF.out⟩
    · obtain rfl := F.f3 (by simp [hdep])
      have HF : Hid (LeafN A bp v (upd d_ 4) x16 x17 x18 (.bool true) (.bool true) x21 x22 x23 x24 x25 x5 w1) := ⟨F.same, F.f0, F.f1, F.f2, F.f3, fun _ => rfl, F.f9, F.f10⟩
      clear F hb1
      go_simp
      exact HK.out _ _ ⟨_, _, _, _, _, _, _, _, _, _, _, rfl, HF.out⟩
    · obtain rfl := F.f4 (by simp [hdep])
      have HF : Hid (LeafN A bp v (upd d_ 5) x16 x17 x18 x19 (.bool true) (undef) x22 x23 x24 x25 x5 w1) := ⟨F.same, F.f0, F.f1, F.f2, F.f3, F.f4, F.f9, F.f10⟩
      clear F hb1
      go_simp
      exact HK.out _ _ ⟨_, _, _, _, _, _, _, _, _, _, _, rfl, HF.out⟩
    · obtain rfl := F.f4 (by simp [hdep])
      have HF : Hid (LeafN A bp v (upd d_ 6) x16 x17 x18 x19 (.bool true) x21 (undef) x23 x24 x25 x5 w1) := ⟨F.same, F.f0, F.f1, F.f2, F.f3, F.f4, F.f9, F.f10⟩
      clear F hb1
      go_simp
      exact HK.out _ _ ⟨_, _, _, _, _, _, _, _, _, _, _, rfl, HF.out⟩
    · obtain rfl := F.f4 (by simp [hdep])
      have HF : Hid (LeafN A bp v (upd d_ 7) x16 x17 x18 x19 (.bool true) x21 x22 (undef) x24 x25 x5 w1) := ⟨F.same, F.f0, F.f1, F.f2, F.f3, F.f4, F.f9, F.f10⟩
      clear F hb1
      go_simp
      exact HK.out _ _ ⟨_, _, _, _, _, _, _, _, _, _, _, rfl, HF.out⟩
    · obtain rfl := F.f4 (by simp [hdep])
      have HF : Hid (LeafN A bp v (upd d_ 8) x16 x17 x18 x19 (.bool true) x21 x22 x23 (undef) x25 x5 w1) := ⟨F.same, F.f0, F.f1, F.f2, F.f3, F.f4, F.f9, F.f10⟩
      clear F hb1
      go_simp
      exact HK.out _ _ ⟨_, _, _, _, _, _, _, _, _, _, _, rfl, HF.out⟩
    · obtain rfl := F.f4 (by simp [hdep])
      have HF : Hid (LeafN A bp v (upd d_ 9) x16 x17 x18 x19 (.bool true) x21 x22 x23 x24 (.bool true) x5 w1) := ⟨F.same, F.f0, F.f1, F.f2, F.f3, F.f4, fun _ => rfl, F.f10⟩
      clear F hb1
      go_simp
      exact HK.out _ _ ⟨_, _, _, _, _, _, _, _, _, _, _, rfl, HF.out⟩
    · obtain rfl := F.f9 (by simp [hdep])
      have HF : Hid (LeafN A bp v (upd d_ 10) x16 x17 x18 x19 x20 x21 x22 x23 x24 (.bool true) (.bool true) w1) := ⟨F.same, F.f0, F.f1, F.f2, F.f3, F.f4, F.f9, fun _ => rfl⟩
      clear F hb1
      go_simp
      exact HK.out _ _ ⟨_, _, _, _, _, _, _, _, _, _, _, rfl, HF.out⟩
  · rintro d_ a_ w1 hall ⟨x16, x17, x18, x19, x20, x21, x22, x23, x24, x25, x5, rfl, F⟩
    have hall' : ∀ k, k < 11 → d_ k = true := hall
    exact HQ.out _ _ _ _ _ _ _ _ _ _ _ w1 F.same (F.f10 (hall' 10 (by decide)))

structure LeafY (A : World) (bp l n : Nat) (xs : List Value) (v : Value) (Res : Bool → World → Prop) (d : Nat → Bool) (x16 x17 x18 x19 x20 x21 x22 x23 x24 x25 x5 : Value) (w : World) : Prop where
  o3 : d 3 = true → d 2 = true
  o4 : d 4 = true → d 3 = true
  o5 : d 5 = true → d 4 = true
  o6 : d 6 = true → d 4 = true
  o7 : d 7 = true → d 6 = true
  o8 : d 8 = true → d 7 = true ∧ d 5 = true
  o2 : d 2 = true → d 0 = true
  f0 : d 0 = true → x16 = .pointer (some ⟨bp, 0, none⟩)
  f1 : d 1 = true → v = x17
  f2 : d 2 = true → x18 = .bool true
  f3 : d 3 = true → x19 = .bool false
  f4 : d 4 = true → x20 = .bool false
  f5 : d 5 = true → x21 = .func (.yield l) #[] #[]
  f6 : d 6 = true → v = x22
  bl : d 8 = false → Below A.heap.size A w
  f7 : d 7 = true → d 8 = false → w.ownsRow A.heap.size 3 1 x23 n xs
  f8 : d 8 = true → ∃ r, x24 = .bool r ∧ Res r w
  f9 : d 9 = true → x24 = x25
  f10 : d 10 = true → x24 = x5
  o9 : d 9 = true → d 8 = true
  o10 : d 10 = true → d 9 = true
theorem LeafY.n8 {A : World} {bp l n : Nat} {xs : List Value} {v : Value} {Res : Bool → World → Prop} {d : Nat → Bool} {x16 x17 x18 x19 x20 x21 x22 x23 x24 x25 x5 : Value} {w : World} (F : LeafY A bp l n xs v Res d x16 x17 x18 x19 x20 x21 x22 x23 x24 x25 x5 w) (h : d 0 = false ∨ d 2 = false ∨ d 5 = false ∨ d 7 = false ∨ d 8 = false) : d 8 = false := by
  cases e : d 8 with
  | false => rfl
  | true =>
    have h1 := F.o8 e
    have h2 := F.o7 h1.1
    have h3 := F.o4 (F.o6 h2)
    have h4 := F.o3 h3
    have h5 := F.o2 h4
    rcases h with h | h | h | h | h
    · rw [h5] at h; cases h
    · rw [h4] at h; cases h
    · rw [h1.2] at h; cases h
    · rw [h1.1] at h; cases h
    · rw [e] at h; cases h
set_option maxRecDepth 100000 in
set_option maxHeartbeats 4000000 in
theorem leafY {A : World} {bp pb yb l n : Nat} {xs : List Value} {v : Value} {Res : Bool → World → Prop} {Q : Exit → Act → World → Prop} (k1 : Hid (A.cell? ⟨pb, 0, none⟩ = some (.pointer (some ⟨bp, 0, none⟩)))) (k2 : Hid (A.cell? ⟨yb, 0, none⟩ = some (.func (.yield l) #[] #[])))
    (kis : Hid (∀ w, Below A.heap.size A w → Calls Try.prog 82 #[.pointer (some ⟨bp, 0, none⟩), v] w fun e w' => e = .returned (.bool true) ∧ Below w.heap.size w w'))
    (kcl : Hid (∀ w, Below A.heap.size A w → Calls Try.prog 99 #[v] w fun e w' => ∃ v', e = .returned v' ∧ w'.ownsRow A.heap.size 3 1 v' n xs ∧ Below w.heap.size w w'))
    (ky : Hid (∀ w vc, Below A.heap.size A w → w.ownsRow A.heap.size 3 1 vc n xs → YieldAt Fence.wide 0 Try.prog l #[vc] w fun e w' => ∃ r, e = .returned (.bool r) ∧ Res r w'))
    {s3 s4 s5 s6 s7 s8 s9 s10 s11 s12 s13 s14 s15 s16 s17 s18 s19 s20 s21 s22 s23 s24 s25 s26 s27 s28 s29 s30 s31 s32 s33 s34 s35 s36 s37 s38 s39 s40 s41 s42 s43 s44 s45 s46 s47 s48 : Value} {dd : List Deferred}
    (hQ : ∀ (x16 x17 x18 x19 x20 x21 x22 x23 x24 x25 x5 : Value) (r : Bool) (w' : World), Res r w' → x5 = .bool r → Q .normal { tmps := #[v, .pointer (some ⟨pb, 0, none⟩), .pointer (some ⟨yb, 0, none⟩), s3, s4, x5, s6, s7, s8, s9, s10, s11, s12, s13, s14, s15, x16, x17, x18, x19, x20, x21, x22, x23, x24, x25, s26, s27, s28, s29, s30, s31, s32, s33, s34, s35, s36, s37, s38, s39, s40, s41, s42, s43, s44, s45, s46, s47, s48], defers := dd } w') :
    Code.wpIn (wideAt none) 0 Try.prog leafC Q { tmps := #[v, .pointer (some ⟨pb, 0, none⟩), .pointer (some ⟨yb, 0, none⟩), s3, s4, s5, s6, s7, s8, s9, s10, s11, s12, s13, s14, s15, s16, s17, s18, s19, s20, s21, s22, s23, s24, s25, s26, s27, s28, s29, s30, s31, s32, s33, s34, s35, s36, s37, s38, s39, s40, s41, s42, s43, s44, s45, s46, s47, s48], defers := dd } A := by
  have HQ := Lib.hid hQ
  clear hQ
  conv => arg 4; whnf
  refine wpIn_region_invG mixed (by kernel_rfl) (fun d_ a_ w' => ∃ x16 x17 x18 x19 x20 x21 x22 x23 x24 x25 x5, a_ = { tmps := #[v, .pointer (some ⟨pb, 0, none⟩), .pointer (some ⟨yb, 0, none⟩), s3, s4, x5, s6, s7, s8, s9, s10, s11, s12, s13, s14, s15, x16, x17, x18, x19, x20, x21, x22, x23, x24, x25, s26, s27, s28, s29, s30, s31, s32, s33, s34, s35, s36, s37, s38, s39, s40, s41, s42, s43, s44, s45, s46, s47, s48], defers := dd } ∧ LeafY A bp l n xs v Res d_ x16 x17 x18 x19 x20 x21 x22 x23 x24 x25 x5 w') ?_ ?_ ?_
  · refine ⟨s16, s17, s18, s19, s20, s21, s22, s23, s24, s25, s5, rfl, ?_⟩
    constructor <;> first | (intro h; cases h; done) | (intro _; exact (Below.refl _ A).drew)
  · refine ⟨?_, ?_, ?_, ?_, ?_, ?_, ?_, ?_, ?_, ?_, ?_, trivial⟩
    all_goals
      rintro d_ a_ w1 K hd_ hdep ⟨x16, x17, x18, x19, x20, x21, x22, x23, x24, x25, x5, rfl, F⟩ HK
      simp [Region.binds] at hdep
    · have n8 := F.n8 (.inl hd_)
      have k1' := cell_stays (F.bl n8) k1.out
      have HF : Hid (LeafY A bp l n xs v Res (upd d_ 0) (.pointer (some ⟨bp, 0, none⟩)) x17 x18 x19 x20 x21 x22 x23 x24 x25 x5 w1) := ⟨F.o3, F.o4, F.o5, F.o6, F.o7, F.o8, fun _ => rfl, fun _ => rfl, F.f1, F.f2, F.f3, F.f4, F.f5, F.f6, F.bl, F.f7, F.f8, F.f9, F.f10, F.o9, F.o10⟩
      clear F
      go_simp
      exact HK.out _ _ ⟨_, _, _, _, _, _, _, _, _, _, _, rfl, HF.out⟩
    · have HF : Hid (LeafY A bp l n xs v Res (upd d_ 1) x16 (v) x18 x19 x20 x21 x22 x23 x24 x25 x5 w1) := ⟨F.o3, F.o4, F.o5, F.o6, F.o7, F.o8, F.o2, F.f0, fun _ => rfl, F.f2, F.f3, F.f4, F.f5, F.f6, F.bl, F.f7, F.f8, F.f9, F.f10, F.o9, F.o10⟩
      clear F
      go_simp
      exact HK.out _ _ ⟨_, _, _, _, _, _, _, _, _, _, _, rfl, HF.out⟩
    · have n8 := F.n8 (.inr (.inl hd_))
      obtain rfl := F.f0 (by simp [hdep])
      obtain rfl := F.f1 (by simp [hdep])
      have hb1 := F.bl n8
      have hc := kis.out w1 hb1
      have HF := Lib.hid F
      clear F
      go_simp
      refine ⟨trivial, rfl, wideAt_calls (hc.mono ?_)⟩
      rintro e w5 ⟨rfl, hb5⟩
      exact HK.out _ _ ⟨_, _, _, _, _, _, _, _, _, _, _, rfl, ⟨fun _ => rfl, HF.out.o4, HF.out.o5, HF.out.o6, HF.out.o7, HF.out.o8, fun _ => (show _ from (by simp [hdep] : d_ 0 = true)), HF.out.f0, HF.out.f1, fun _ => rfl, HF.out.f3, HF.out.f4, HF.out.f5, HF.out.f6, fun _ => hb1.trans (hb5.mono hb1.size), fun h h8 => own_below (HF.out.f7 h h8) hb5, fun h => (by have h2 : d_ 8 = true := h; rw [n8] at h2; cases h2), HF.out.f9, HF.out.f10, HF.out.o9, HF.out.o10⟩⟩
    · obtain rfl := F.f2 (by simp [hdep])
      have HF : Hid (LeafY A bp l n xs v Res (upd d_ 3) x16 x17 (.bool true) (.bool false) x20 x21 x22 x23 x24 x25 x5 w1) := ⟨fun _ => (show _ from (by simp [hdep] : d_ 2 = true)), fun _ => rfl, F.o5, F.o6, F.o7, F.o8, F.o2, F.f0, F.f1, F.f2, fun _ => rfl, F.f4, F.f5, F.f6, F.bl, F.f7, F.f8, F.f9, F.f10, F.o9, F.o10⟩
      clear F
      go_simp
      exact HK.out _ _ ⟨_, _, _, _, _, _, _, _, _, _, _, rfl, HF.out⟩
    · obtain rfl := F.f3 (by simp [hdep])
      have HF : Hid (LeafY A bp l n xs v Res (upd d_ 4) x16 x17 x18 (.bool false) (.bool false) x21 x22 x23 x24 x25 x5 w1) := ⟨F.o3, fun _ => (show _ from (by simp [hdep] : d_ 3 = true)), fun _ => rfl, fun _ => rfl, F.o7, F.o8, F.o2, F.f0, F.f1, F.f2, F.f3, fun _ => rfl, F.f5, F.f6, F.bl, F.f7, F.f8, F.f9, F.f10, F.o9, F.o10⟩
      clear F
      go_simp
      exact HK.out _ _ ⟨_, _, _, _, _, _, _, _, _, _, _, rfl, HF.out⟩
    · have n8 := F.n8 (.inr (.inr (.inl hd_)))
      have k2' := cell_stays (F.bl n8) k2.out
      obtain rfl := F.f4 (by simp [hdep])
      have HF : Hid (LeafY A bp l n xs v Res (upd d_ 5) x16 x17 x18 x19 (.bool false) (.func (.yield l) #[] #[]) x22 x23 x24 x25 x5 w1) := ⟨F.o3, F.o4, fun _ => (show _ from (by simp [hdep] : d_ 4 = true)), F.o6, F.o7, fun h => ⟨(F.o8 h).1, rfl⟩, F.o2, F.f0, F.f1, F.f2, F.f3, F.f4, fun _ => rfl, F.f6, F.bl, F.f7, F.f8, F.f9, F.f10, F.o9, F.o10⟩
      clear F
      go_simp
      exact HK.out _ _ ⟨_, _, _, _, _, _, _, _, _, _, _, rfl, HF.out⟩
    · obtain rfl := F.f4 (by simp [hdep])
      have HF : Hid (LeafY A bp l n xs v Res (upd d_ 6) x16 x17 x18 x19 (.bool false) x21 (v) x23 x24 x25 x5 w1) := ⟨F.o3, F.o4, F.o5, fun _ => (show _ from (by simp [hdep] : d_ 4 = true)), fun _ => rfl, F.o8, F.o2, F.f0, F.f1, F.f2, F.f3, F.f4, F.f5, fun _ => rfl, F.bl, F.f7, F.f8, F.f9, F.f10, F.o9, F.o10⟩
      clear F
      go_simp
      exact HK.out _ _ ⟨_, _, _, _, _, _, _, _, _, _, _, rfl, HF.out⟩
    · have n8 := F.n8 (.inr (.inr (.inr (.inl hd_))))
      obtain rfl := F.f4 (by simp [hdep])
      obtain rfl := F.f6 (by simp [hdep])
      have hb1 := F.bl n8
      have hc := kcl.out w1 hb1
      have HF := Lib.hid F
      clear F
      go_simp
      refine ⟨trivial, rfl, wideAt_calls (hc.mono ?_)⟩
      rintro e w5 ⟨v', rfl, hown, hb5⟩
      exact HK.out _ _ ⟨_, _, _, _, _, _, _, _, _, _, _, rfl, ⟨HF.out.o3, HF.out.o4, HF.out.o5, HF.out.o6, fun _ => (show _ from (by simp [hdep] : d_ 6 = true)), fun h => ⟨rfl, (HF.out.o8 h).2⟩, HF.out.o2, HF.out.f0, HF.out.f1, HF.out.f2, HF.out.f3, HF.out.f4, HF.out.f5, HF.out.f6, fun _ => hb1.trans (hb5.mono hb1.size), fun _ _ => hown, fun h => (by have h2 : d_ 8 = true := h; rw [n8] at h2; cases h2), HF.out.f9, HF.out.f10, HF.out.o9, HF.out.o10⟩⟩
    · have n8 : d_ 8 = false := hd_
      obtain rfl := F.f4 (by simp [hdep])
      obtain rfl := F.f5 (by simp [hdep])
      have hb1 := F.bl n8
      have hown := F.f7 (by simp [hdep]) n8
      obtain ⟨fn, tmps, assign, body, hy, hR⟩ := ky.out w1 x23 hb1 hown
      have HR := Lib.hid hR
      have HF := Lib.hid F
      clear F hR hown hb1
      go_simp
      refine ⟨rfl, HR.out.mono ?_⟩
      rintro e w5 ⟨r, rfl, hres⟩
      exact HK.out _ _ ⟨_, _, _, _, _, _, _, _, _, _, _, rfl, ⟨HF.out.o3, HF.out.o4, HF.out.o5, HF.out.o6, HF.out.o7, fun _ => ⟨(show _ from (by simp [hdep] : d_ 7 = true)), (show _ from (by simp [hdep] : d_ 5 = true))⟩, HF.out.o2, HF.out.f0, HF.out.f1, HF.out.f2, HF.out.f3, HF.out.f4, HF.out.f5, HF.out.f6, fun h => (by simp [upd] at h), fun _ h => (by simp [upd] at h), fun _ => ⟨r, rfl, hres⟩, fun h => (by have h2 := HF.out.o9 h; rw [n8] at h2; cases h2), fun h => (by have h2 := HF.out.o9 (HF.out.o10 h); rw [n8] at h2; cases h2), fun _ => rfl, HF.out.o10⟩⟩
    · obtain rfl := F.f4 (by simp [hdep])
      obtain ⟨r, e24, hres⟩ := F.f8 (by simp [hdep])
      subst e24
      have HF : Hid (LeafY A bp l n xs v Res (upd d_ 9) x16 x17 x18 x19 (.bool false) x21 x22 x23 (.bool r) (.bool r) x5 w1) := ⟨F.o3, F.o4, F.o5, F.o6, F.o7, F.o8, F.o2, F.f0, F.f1, F.f2, F.f3, F.f4, F.f5, F.f6, F.bl, F.f7, F.f8, fun _ => rfl, F.f10, fun _ => (show _ from (by simp [hdep] : d_ 8 = true)), fun _ => rfl⟩
      clear F hres
      go_simp
      exact HK.out _ _ ⟨_, _, _, _, _, _, _, _, _, _, _, rfl, HF.out⟩
    · have HF : Hid (LeafY A bp l n xs v Res (upd d_ 10) x16 x17 x18 x19 x20 x21 x22 x23 x24 x25 (x25) w1) := ⟨F.o3, F.o4, F.o5, F.o6, F.o7, F.o8, F.o2, F.f0, F.f1, F.f2, F.f3, F.f4, F.f5, F.f6, F.bl, F.f7, F.f8, F.f9, fun _ => F.f9 (by simp [hdep]), F.o9, fun _ => (show _ from (by simp [hdep] : d_ 9 = true))⟩
      clear F
      go_simp
      exact HK.out _ _ ⟨_, _, _, _, _, _, _, _, _, _, _, rfl, HF.out⟩
  · rintro d_ a_ w1 hall ⟨x16, x17, x18, x19, x20, x21, x22, x23, x24, x25, x5, rfl, F⟩
    have hall' : ∀ k, k < 11 → d_ k = true := hall
    obtain ⟨r, e24, hres⟩ := F.f8 (hall' 8 (by decide))
    exact HQ.out _ _ _ _ _ _ _ _ _ _ _ r w1 hres ((F.f10 (hall' 10 (by decide))).symm.trans e24)

end Go.Proofs.Ytnfhlbmapfoifaa
