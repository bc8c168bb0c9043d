/- The law LendTrue: a cabinet that is made: its homes. The law LendTrue: a cabinet that is made: what is returned. The law LendTrue: a cabinet that is made: what lies in memory meanwhile. The law LendTrue: a cabinet that is made: a round. -/
import Derived.Test.YtlhobddaojdnoaaR10
import Derived.Test.YtlhobddaojdnoaaR15
import Derived.Test.YtlhobddaojdnoaaL15
import Derived.OneCell
import Derived.Deep.DeepCutAuto
namespace Go.Proofs.Ytlhobddaojdnoaa
open Go.RowKit
set_option linter.unusedVariables false

noncomputable def reg7C : Code := (Try.f33.body.bind (regionAt 7)).getD .skip
/-- What is known in the midst of the region. -/
structure HomF (W : World) (B bh : Nat) (S : Int) (H : List Int) (i : Nat) (turn : Int) (vh : Value) (d : Nat → Bool) (x29 x30 x31 x32 x33 x34 x35 x36 x37 x38 x39 : Value) (w : World) : Prop where
  same : Same (fun k => k = B ∨ vh.ownBlock = some k) W w
  o9 : d 9 = true → d 1 = true ∧ d 8 = true
  o11 : d 11 = true → d 9 = true
  f0 : d 0 = true → x29 = .pointer (some ⟨B, 1, none⟩)
  f1 : d 1 = true → x30 = vh
  f2 : d 2 = true → x31 = .int .i64 i
  f3 : d 3 = true → x32 = .int .i64 turn
  f4 : d 4 = true → x33 = .int .i64 (i + turn)
  f5 : d 5 = true → x34 = .pointer (some ⟨B, 0, none⟩)
  f6 : d 6 = true → x35 = .int .i64 S
  f7 : d 7 = true → x36 = .int .i64 ((i + turn) % S)
  f8 : d 8 = true → d 9 = false → ∃ g, x37 = .slice (some ⟨g, 0, none⟩) 1 1 ∧ w.heap[g]? = some (.cells #[.int .i64 ((i + turn) % S)] 3 (0, 0))
  f9 : d 9 = true → w.ownsRow bh 3 1 x38 (i + 1) (H.map (Value.int .i64) ++ [.int .i64 ((i + turn) % S)])
  g9 : d 9 = false → w.ownsRow bh 3 1 vh i (H.map (Value.int .i64))
  f10 : d 10 = true → x39 = .pointer (some ⟨B, 1, none⟩)
  f11 : w.heap[B]? = some (.cells #[.int .i64 S, if d 11 then x38 else vh, .int .i64 0, .slice none 0 0] 25 (0, 0))
section
variable {W : World} {B bh : Nat} {S : Int} {H : List Int} {i : Nat} {turn : Int} {vh : Value} {d : Nat → Bool} {x29 x30 x31 x32 x33 x34 x35 x36 x37 x38 x39 : Value} {w w' : World}
theorem HomF.s0 (F : HomF W B bh S H i turn vh d x29 x30 x31 x32 x33 x34 x35 x36 x37 x38 x39 w) : HomF W B bh S H i turn vh (upd d 0) (.pointer (some ⟨B, 1, none⟩)) x30 x31 x32 x33 x34 x35 x36 x37 x38 x39 w := ⟨F.same, F.o9, F.o11, fun _ => rfl, F.f1, F.f2, F.f3, F.f4, F.f5, F.f6, F.f7, F.f8, F.f9, F.g9, F.f10, F.f11⟩
theorem HomF.s1 (F : HomF W B bh S H i turn vh d x29 x30 x31 x32 x33 x34 x35 x36 x37 x38 x39 w) : HomF W B bh S H i turn vh (upd d 1) x29 vh x31 x32 x33 x34 x35 x36 x37 x38 x39 w := ⟨F.same, fun h => ⟨rfl, (F.o9 h).2⟩, F.o11, F.f0, fun _ => rfl, F.f2, F.f3, F.f4, F.f5, F.f6, F.f7, F.f8, F.f9, F.g9, F.f10, F.f11⟩
theorem HomF.s2 (F : HomF W B bh S H i turn vh d x29 x30 x31 x32 x33 x34 x35 x36 x37 x38 x39 w) : HomF W B bh S H i turn vh (upd d 2) x29 x30 (.int .i64 i) x32 x33 x34 x35 x36 x37 x38 x39 w := ⟨F.same, F.o9, F.o11, F.f0, F.f1, fun _ => rfl, F.f3, F.f4, F.f5, F.f6, F.f7, F.f8, F.f9, F.g9, F.f10, F.f11⟩
theorem HomF.s3 (F : HomF W B bh S H i turn vh d x29 x30 x31 x32 x33 x34 x35 x36 x37 x38 x39 w) : HomF W B bh S H i turn vh (upd d 3) x29 x30 x31 (.int .i64 turn) x33 x34 x35 x36 x37 x38 x39 w := ⟨F.same, F.o9, F.o11, F.f0, F.f1, F.f2, fun _ => rfl, F.f4, F.f5, F.f6, F.f7, F.f8, F.f9, F.g9, F.f10, F.f11⟩
theorem HomF.s4 (F : HomF W B bh S H i turn vh d x29 x30 x31 x32 x33 x34 x35 x36 x37 x38 x39 w) : HomF W B bh S H i turn vh (upd d 4) x29 x30 x31 x32 (.int .i64 (i + turn)) x34 x35 x36 x37 x38 x39 w := ⟨F.same, F.o9, F.o11, F.f0, F.f1, F.f2, F.f3, fun _ => rfl, F.f5, F.f6, F.f7, F.f8, F.f9, F.g9, F.f10, F.f11⟩
theorem HomF.s5 (F : HomF W B bh S H i turn vh d x29 x30 x31 x32 x33 x34 x35 x36 x37 x38 x39 w) : HomF W B bh S H i turn vh (upd d 5) x29 x30 x31 x32 x33 (.pointer (some ⟨B, 0, none⟩)) x35 x36 x37 x38 x39 w := ⟨F.same, F.o9, F.o11, F.f0, F.f1, F.f2, F.f3, F.f4, fun _ => rfl, F.f6, F.f7, F.f8, F.f9, F.g9, F.f10, F.f11⟩
theorem HomF.s6 (F : HomF W B bh S H i turn vh d x29 x30 x31 x32 x33 x34 x35 x36 x37 x38 x39 w) : HomF W B bh S H i turn vh (upd d 6) x29 x30 x31 x32 x33 x34 (.int .i64 S) x36 x37 x38 x39 w := ⟨F.same, F.o9, F.o11, F.f0, F.f1, F.f2, F.f3, F.f4, F.f5, fun _ => rfl, F.f7, F.f8, F.f9, F.g9, F.f10, F.f11⟩
theorem HomF.s7 (F : HomF W B bh S H i turn vh d x29 x30 x31 x32 x33 x34 x35 x36 x37 x38 x39 w) : HomF W B bh S H i turn vh (upd d 7) x29 x30 x31 x32 x33 x34 x35 (.int .i64 ((i + turn) % S)) x37 x38 x39 w := ⟨F.same, F.o9, F.o11, F.f0, F.f1, F.f2, F.f3, F.f4, F.f5, F.f6, fun _ => rfl, F.f8, F.f9, F.g9, F.f10, F.f11⟩
theorem HomF.s10 (F : HomF W B bh S H i turn vh d x29 x30 x31 x32 x33 x34 x35 x36 x37 x38 x39 w) : HomF W B bh S H i turn vh (upd d 10) x29 x30 x31 x32 x33 x34 x35 x36 x37 x38 (.pointer (some ⟨B, 1, none⟩)) w := ⟨F.same, F.o9, F.o11, F.f0, F.f1, F.f2, F.f3, F.f4, F.f5, F.f6, F.f7, F.f8, F.f9, F.g9, fun _ => rfl, F.f11⟩
theorem HomF.s8 (F : HomF W B bh S H i turn vh d x29 x30 x31 x32 x33 x34 x35 x36 x37 x38 x39 w) (hd : d 8 = false) : HomF W B bh S H i turn vh (upd d 8) x29 x30 x31 x32 x33 x34 x35 x36 (.slice (some ⟨w.heap.size, 0, none⟩) 1 1) x38 x39 (w.alloc (.cells #[.int .i64 ((i + turn) % S)] 3)) := by
  have n9 : d 9 = false := by
    cases e : d 9 with
    | false => rfl
    | true => have := (F.o9 e).2; rw [hd] at this; cases this
  refine ⟨F.same.alloc _, fun h => ⟨(F.o9 h).1, rfl⟩, F.o11, F.f0, F.f1, F.f2, F.f3, F.f4, F.f5, F.f6, F.f7, fun _ _ => ⟨_, rfl, World.alloc_heap_new w _⟩, fun h => (F.f9 h).alloc _, fun h => (F.g9 h).alloc _, F.f10, (Below.heap_alloc _ _ _ (heap_lt F.f11)).trans F.f11⟩
theorem HomF.s9 (F : HomF W B bh S H i turn vh d x29 x30 x31 x32 x33 x34 x35 x36 x37 x38 x39 w) (hd : d 9 = false) (h1 : d 1 = true) (h8 : d 8 = true) (hW : W.ownsRow bh 3 1 vh i (H.map (Value.int .i64))) {v : Value} (hn : w'.ownsRow bh 3 1 v (i + 1) (H.map (Value.int .i64) ++ [.int .i64 ((i + turn) % S)])) (hg : w.grownBy w' vh.ownBlock) : HomF W B bh S H i turn vh (upd d 9) x29 x30 x31 x32 x33 x34 x35 x36 x37 v x39 w' := by
  have n11 : d 11 = false := by
    cases e : d 11 with
    | false => rfl
    | true => have := F.o11 e; rw [hd] at this; cases this
  have hB := F.f11
  rw [n11] at hB
  refine ⟨F.same.grown hg (fun k hk => .inl (.inr hk)), fun _ => ⟨h1, h8⟩, fun _ => rfl, F.f0, F.f1, F.f2, F.f3, F.f4, F.f5, F.f6, F.f7, fun _ h => (by simp [upd] at h), fun _ => hn, fun h => (by simp [upd] at h), F.f10, ?_⟩
  have e : upd d 9 11 = false := n11
  rw [e]
  exact (hg.block B (heap_lt hB) (own_block_ne (F.g9 hd) hB (by decide))).trans hB
theorem HomF.s11 (F : HomF W B bh S H i turn vh d x29 x30 x31 x32 x33 x34 x35 x36 x37 x38 x39 w) (h9 : d 9 = true) (h11 : d 11 = false) : HomF W B bh S H i turn vh (upd d 11) x29 x30 x31 x32 x33 x34 x35 x36 x37 x38 x39 (w.setCell ⟨B, 1, none⟩ x38) := by
  have hB := F.f11
  have H9 := F.f9 h9
  rw [h11] at hB
  refine ⟨F.same.setCell (.inl (.inl rfl)) _, F.o9, fun _ => h9, F.f0, F.f1, F.f2, F.f3, F.f4, F.f5, F.f6, F.f7, fun _ h => (by have h2 : d 9 = false := h; rw [h9] at h2; cases h2), fun _ => ownsRow_setCell_other H9 (fun e => own_block_ne H9 hB (by decide) e.symm) _, fun h => (by have h2 : d 9 = false := h; rw [h9] at h2; cases h2), F.f10, ?_⟩
  have e : upd d 11 11 = true := rfl
  rw [e, heap_setCell_at hB]
  rfl
end
set_option maxRecDepth 100000 in
set_option maxHeartbeats 4000000 in
theorem reg7 {W : World} {B bh : Nat} {S : Int} {H : List Int} {i : Nat} {turn : Int} {vh : Value} {Q : Exit → Act → World → Prop} (hS : 1 ≤ S ∧ S ≤ 6) (hi : i ≤ 5) (ht : 0 ≤ turn ∧ turn ≤ 6) (hW : W.ownsRow bh 3 1 vh i (H.map (Value.int .i64))) (hbh : bh ≤ W.heap.size)
    (hB : W.heap[B]? = some (.cells #[.int .i64 S, vh, .int .i64 0, .slice none 0 0] 25 (0, 0))) {s0 s1 s3 s4 s5 s8 s9 s10 s11 s12 s13 s14 s15 s16 s17 s18 s19 s20 s21 s22 s23 s24 s25 s26 s27 s28 s29 s30 s31 s32 s33 s34 s35 s36 s37 s38 s39 s40 s41 s42 s43 s44 s45 s46 s47 s48 s49 s50 s51 s52 s53 s54 s55 s56 s57 s58 s59 s60 s61 s62 s63 s64 s65 s66 s67 s68 s69 s70 s71 s72 s73 s74 s75 s76 s77 s78 s79 s80 s81 s82 s83 s84 s85 s86 s87 s88 s89 s90 s91 s92 s93 s94 s95 s96 s97 s98 s99 s100 s101 s102 s103 s104 s105 s106 s107 s108 s109 s110 s111 s112 s113 s114 s115 s116 s117 s118 s119 s120 s121 s122 s123 s124 s125 s126 s127 s128 s129 s130 s131 s132 s133 s134 s135 s136 s137 s138 s139 s140 s141 s142 s143 s144 s145 s146 s147 s148 s149 s150 s151 : Value}
    (hQ : ∀ (x29 x30 x31 x32 x33 x34 x35 x36 x37 x38 x39 : Value) (v : Value) (w' : World), w'.ownsRow bh 3 1 v (i + 1) (H.map (Value.int .i64) ++ [.int .i64 ((i + turn) % S)]) → w'.heap[B]? = some (.cells #[.int .i64 S, v, .int .i64 0, .slice none 0 0] 25 (0, 0)) → Same (fun k => k = B ∨ vh.ownBlock = some k) W w' →
      Q .normal { tmps := #[s0, s1, .pointer (some ⟨B, 0, none⟩), s3, s4, s5, .int .i64 turn, .int .i64 (i : Nat), s8, s9, s10, s11, s12, s13, s14, s15, s16, s17, s18, s19, s20, s21, s22, s23, s24, s25, s26, s27, s28, x29, x30, x31, x32, x33, x34, x35, x36, x37, x38, x39, s40, s41, s42, s43, s44, s45, s46, s47, s48, s49, s50, s51, s52, s53, s54, s55, s56, s57, s58, s59, s60, s61, s62, s63, s64, s65, s66, s67, s68, s69, s70, s71, s72, s73, s74, s75, s76, s77, s78, s79, s80, s81, s82, s83, s84, s85, s86, s87, s88, s89, s90, s91, s92, s93, s94, s95, s96, s97, s98, s99, s100, s101, s102, s103, s104, s105, s106, s107, s108, s109, s110, s111, s112, s113, s114, s115, s116, s117, s118, s119, s120, s121, s122, s123, s124, s125, s126, s127, s128, s129, s130, s131, s132, s133, s134, s135, s136, s137, s138, s139, s140, s141, s142, s143, s144, s145, s146, s147, s148, s149, s150, s151], defers := [] } w') :
    Code.wp Try.prog reg7C Q { tmps := #[s0, s1, .pointer (some ⟨B, 0, none⟩), s3, s4, s5, .int .i64 turn, .int .i64 (i : Nat), s8, s9, s10, s11, s12, s13, s14, s15, s16, s17, s18, s19, s20, s21, s22, s23, s24, s25, s26, s27, s28, s29, s30, s31, s32, s33, s34, s35, s36, s37, s38, s39, s40, s41, s42, s43, s44, s45, s46, s47, s48, s49, s50, s51, s52, s53, s54, s55, s56, s57, s58, s59, s60, s61, s62, s63, s64, s65, s66, s67, s68, s69, s70, s71, s72, s73, s74, s75, s76, s77, s78, s79, s80, s81, s82, s83, s84, s85, s86, s87, s88, s89, s90, s91, s92, s93, s94, s95, s96, s97, s98, s99, s100, s101, s102, s103, s104, s105, s106, s107, s108, s109, s110, s111, s112, s113, s114, s115, s116, s117, s118, s119, s120, s121, s122, s123, s124, s125, s126, s127, s128, s129, s130, s131, s132, s133, s134, s135, s136, s137, s138, s139, s140, s141, s142, s143, s144, s145, s146, s147, s148, s149, s150, s151], defers := [] } W := by
  obtain ⟨i0, hi0, hz0, hz1, hz2⟩ := info_parts infoI
  have HQ := Lib.hid hQ
  clear hQ
  obtain ⟨hS0, hS1⟩ := hS
  obtain ⟨ht0, ht1⟩ := ht
  have y1 : IntKind.i64.wrap ((i : Int) + turn) = (i : Int) + turn := IntWalk.i64_in _ (by omega)
  have y2 : ((i : Int) + turn).tmod S = ((i : Int) + turn) % S := Int.tmod_eq_emod_of_nonneg (by omega)
  have y3 : ¬ S = 0 := by omega
  conv => arg 2; whnf
  refine wp_region_inv mixed (by kernel_rfl) (fun d_ a_ w' => ∃ x29 x30 x31 x32 x33 x34 x35 x36 x37 x38 x39, a_ = { tmps := #[s0, s1, .pointer (some ⟨B, 0, none⟩), s3, s4, s5, .int .i64 turn, .int .i64 (i : Nat), s8, s9, s10, s11, s12, s13, s14, s15, s16, s17, s18, s19, s20, s21, s22, s23, s24, s25, s26, s27, s28, x29, x30, x31, x32, x33, x34, x35, x36, x37, x38, x39, s40, s41, s42, s43, s44, s45, s46, s47, s48, s49, s50, s51, s52, s53, s54, s55, s56, s57, s58, s59, s60, s61, s62, s63, s64, s65, s66, s67, s68, s69, s70, s71, s72, s73, s74, s75, s76, s77, s78, s79, s80, s81, s82, s83, s84, s85, s86, s87, s88, s89, s90, s91, s92, s93, s94, s95, s96, s97, s98, s99, s100, s101, s102, s103, s104, s105, s106, s107, s108, s109, s110, s111, s112, s113, s114, s115, s116, s117, s118, s119, s120, s121, s122, s123, s124, s125, s126, s127, s128, s129, s130, s131, s132, s133, s134, s135, s136, s137, s138, s139, s140, s141, s142, s143, s144, s145, s146, s147, s148, s149, s150, s151], defers := [] } ∧ HomF W B bh S H i turn vh d_ x29 x30 x31 x32 x33 x34 x35 x36 x37 x38 x39 w') ?_ ?_ ?_
  · refine ⟨s29, s30, s31, s32, s33, s34, s35, s36, s37, s38, s39, rfl, ?_⟩
    refine ⟨(Same.refl _ W).drew, ?_, ?_, ?_, ?_, ?_, ?_, ?_, ?_, ?_, ?_, ?_, ?_, fun _ => hW.drew, ?_, hB⟩ <;> (intro h; cases h)
  · refine ⟨?_, ?_, ?_, ?_, ?_, ?_, ?_, ?_, ?_, ?_, ?_, ?_, trivial⟩
    all_goals
      rintro d_ a_ w1 K hd hdep ⟨x29, x30, x31, x32, x33, x34, x35, x36, x37, x38, x39, rfl, F⟩ HK
      simp [Region.binds] at hdep
    · have HF := Lib.hid F.s0
      clear F
      go_simp
      exact HK.out _ _ ⟨_, _, _, _, _, _, _, _, _, _, _, rfl, HF.out⟩
    · obtain rfl := F.f0 hdep
      have hn9 : d_ 11 = false := by
        cases e : d_ 11 with
        | false => rfl
        | true => have := (F.o9 (F.o11 e)).1; rw [show (0 + 1) = 1 from rfl] at hd; rw [hd] at this; cases this
      have hh := F.f11
      rw [hn9] at hh
      have hc : w1.cell? ⟨B, 1, none⟩ = some vh := by rw [cell_of_heap hh]; rfl
      have HF := Lib.hid F.s1
      clear F hh
      go_simp
      exact HK.out _ _ ⟨_, _, _, _, _, _, _, _, _, _, _, rfl, HF.out⟩
    · have HF := Lib.hid F.s2
      clear F
      go_simp
      exact HK.out _ _ ⟨_, _, _, _, _, _, _, _, _, _, _, rfl, HF.out⟩
    · have HF := Lib.hid F.s3
      clear F
      go_simp
      exact HK.out _ _ ⟨_, _, _, _, _, _, _, _, _, _, _, rfl, HF.out⟩
    · obtain rfl := F.f2 hdep.1
      obtain rfl := F.f3 hdep.2
      have HF := Lib.hid F.s4
      clear F
      go_simp
      exact HK.out _ _ ⟨_, _, _, _, _, _, _, _, _, _, _, rfl, HF.out⟩
    · have HF := Lib.hid F.s5
      clear F
      go_simp
      exact HK.out _ _ ⟨_, _, _, _, _, _, _, _, _, _, _, rfl, HF.out⟩
    · obtain rfl := F.f5 hdep
      have hh := F.f11
      have hc : w1.cell? ⟨B, 0, none⟩ = some (.int .i64 S) := by rw [cell_of_heap hh]; rfl
      have HF := Lib.hid F.s6
      clear F hh
      go_simp
      exact HK.out _ _ ⟨_, _, _, _, _, _, _, _, _, _, _, rfl, HF.out⟩
    · obtain rfl := F.f4 hdep.1
      obtain rfl := F.f6 hdep.2
      have HF := Lib.hid F.s7
      clear F
      go_simp
      exact HK.out _ _ ⟨_, _, _, _, _, _, _, _, _, _, _, rfl, HF.out⟩
    · obtain rfl := F.f7 hdep
      have HF := Lib.hid (F.s8 hd)
      clear F
      go_simp
      exact HK.out _ _ ⟨_, _, _, _, _, _, _, _, _, _, _, rfl, HF.out⟩
    · obtain rfl := F.f1 hdep.1
      obtain ⟨g, rfl, hg⟩ := F.f8 hdep.2 hd
      have own := F.g9 hd
      obtain ⟨v', w', hr, hn, hgr⟩ := append_rows (P := Try.prog) bh 22 22 3 i0 _ 1 8 Try.underlying22 hi0 hz0 hz1 hz2 rfl (by decide) _ _ _ own (some ⟨g, 0, none⟩) 1 1 [.int .i64 (((i : Int) + turn) % S)] rfl (fun _ => ⟨_, rfl, fun j u hj => by
        cases j with
        | zero => simp at hj; subst hj; exact cell_of_one hg
        | succ j => simp at hj⟩) (by intro u hu; simp at hu; subst hu; rfl) (by simp [maxLen]; omega) (by omega) (by have := F.same.size; omega)
      refine wp_append_run (.tmp 30) (.tmp 37) 22 rfl _ _ _ _ rfl rfl hr ?_
      exact HK.out _ _ ⟨_, _, _, _, _, _, _, _, _, _, _, rfl, F.s9 hd hdep.1 hdep.2 hW hn hgr⟩
    · have HF := Lib.hid F.s10
      clear F
      go_simp
      exact HK.out _ _ ⟨_, _, _, _, _, _, _, _, _, _, _, rfl, HF.out⟩
    · obtain rfl := F.f10 (by simp [hdep])
      have hh := F.f11
      have h9 : d_ 9 = true := by simp [hdep]
      obtain ⟨a38, c38, rfl, _, _⟩ := own_slice (F.f9 h9)
      have hc : ∃ v0, w1.cell? ⟨B, 1, none⟩ = some v0 := by rw [cell_of_heap hh]; exact ⟨_, rfl⟩
      obtain ⟨v0, hc⟩ := hc
      have hf : w1.frozen? ⟨B, 1, none⟩ = false := frozen_of_heap hh
      have HF := Lib.hid (F.s11 h9 hd)
      clear F hh
      go_simp
      exact HK.out _ _ ⟨_, _, _, _, _, _, _, _, _, _, _, rfl, HF.out⟩
  · rintro d_ a_ w1 hall ⟨x29, x30, x31, x32, x33, x34, x35, x36, x37, x38, x39, rfl, F⟩
    have hall' : ∀ k, k < 12 → d_ k = true := hall
    have hh := F.f11
    rw [hall' 11 (by decide)] at hh
    exact HQ.out _ _ _ _ _ _ _ _ _ _ _ x38 w1 (F.f9 (hall' 9 (by decide))) hh F.same
end Go.Proofs.Ytlhobddaojdnoaa

namespace Go.Proofs.Ytlhobddaojdnoaa
open Go.RowKit
set_option linter.unusedVariables false

/-- No guard; each waits for earlier ones alone. -/
def plainB' (l : List Oper) : Bool := (List.range l.length).all fun i => match l[i]? with
  | some o => o.guard.isNone && o.after.all fun e => decide (e.on < i) || !Region.binds .any e
  | none => true
theorem plainB_at' {l : List Oper} (h : plainB' l = true) {i : Nat} {o : Oper} (ho : l[i]? = some o) : o.guard = none ∧ ∀ e ∈ o.after, Region.binds .any e = true → e.on < i := by
  have hi : i < l.length := (List.getElem?_eq_some_iff.1 ho).1
  have := (List.all_eq_true.1 h) i (List.mem_range.2 hi)
  rw [ho] at this
  simp only [Bool.and_eq_true, Array.all_eq_true_iff_forall_mem, decide_eq_true_eq, Bool.or_eq_true] at this
  exact ⟨by simpa using this.1, fun e he hb => by
    rcases this.2 e he with h | h
    · exact h
    · rw [hb] at h; cases h⟩
theorem wpAny_inv' {P : Program} {l : List Oper} {Q : Exit → Act → World → Prop} {Inv : (Nat → Bool) → Act → World → Prop} (hp : plainB' l = true) (hs : InvSteps P Q Inv 0 l)
    (hend : ∀ d a w, (∀ i, i < l.length → d i = true) → Inv d a w → Q .normal a w) :
    ∀ (f : Nat) (listed : Array Bool) (a : Act) (w : World), listed.size = l.length → (listed.toList.countP (fun b => !b)) = f → Inv (fun j => listed.getD j false) a w → wpAny P .any l.toArray Q f listed a w := by
  have first : ∀ listed : Array Bool, listed.size = l.length → Region.ready .any l.toArray listed = [] → ∀ i, i < l.length → listed.getD i false = true := by
    intro listed hz hr i
    induction i using Nat.strongRecOn with
    | ind i ih =>
      intro hi
      cases hb : listed.getD i false with
      | true => rfl
      | false =>
        exfalso
        have : i ∈ Region.ready .any l.toArray listed := by
          rw [mem_ready]
          have hlt : i < listed.size := by omega
          refine ⟨by simpa [hlt] using hb, l[i], by simp [hi], fun e he hbd => ?_⟩
          have := (plainB_at' hp (List.getElem?_eq_getElem hi)).2 e he hbd
          exact ih e.on this (by omega)
        rw [hr] at this
        simp at this
  intro f
  induction f with
  | zero =>
    intro listed a w hz hc hI
    have hall : ∀ i, i < l.length → listed.getD i false = true := by
      intro i hi
      have hlt : i < listed.size := by omega
      have := List.countP_eq_zero.1 hc (listed[i]) (by simp)
      simpa [hlt] using this
    refine ⟨?_, hend _ a w hall hI⟩
    rw [List.eq_nil_iff_forall_not_mem]
    intro i hi
    obtain ⟨h1, o, ho, _⟩ := mem_ready.1 hi
    have hlt : i < listed.size := by
      have := (Array.getElem?_eq_some_iff.1 ho).1
      simpa [hz] using this
    have := hall i (by omega)
    simp [hlt] at h1 this
    rw [this] at h1
    cases h1
  | succ f ih =>
    intro listed a w hz hc hI
    refine ⟨fun hr => hend _ a w (first listed hz hr) hI, fun i hi => ?_⟩
    obtain ⟨h1, o, ho, hdep⟩ := mem_ready.1 hi
    have hil : i < l.length := by simpa using (Array.getElem?_eq_some_iff.1 ho).1
    have hlt : i < listed.size := by omega
    have ho' : l[i]? = some o := by simpa using ho
    have hb : listed.getD i false = false := by simpa [hlt] using h1
    have hw : Region.wanted o (yielded l.toArray a.tmps) = true := by simp [Region.wanted, (plainB_at' hp ho').1]
    have := hs.get ho' (fun j => listed.getD j false) a w (by simpa using hb) hdep hI
    unfold wpOp
    simp only [ho, hw, if_true]
    refine .inl (Oper.wp_mono (fun a' w' hI' => ih _ a' w' (by simpa using hz) ?_ ?_) this)
    · have h2 : listed.toList = listed.toList.take i ++ false :: listed.toList.drop (i + 1) := by
        have e : listed[i] = false := by simpa [hlt] using hb
        have := List.drop_eq_getElem_cons (l := listed.toList) (i := i) (by simpa using hlt)
        simp only [Array.getElem_toList, e] at this
        rw [← this, List.take_append_drop]
      have h3 : (listed.setIfInBounds i true).toList = listed.toList.take i ++ true :: listed.toList.drop (i + 1) := by
        rw [Array.toList_setIfInBounds, List.set_eq_take_append_cons_drop, if_pos (by simpa using hlt)]
      rw [h2] at hc
      rw [h3]
      simp only [List.countP_append, List.countP_cons, Bool.not_false, if_true, Bool.not_true] at hc ⊢
      simp at hc ⊢
      omega
    · have e : (fun j => (listed.setIfInBounds i true).getD j false) = (fun j => if j = 0 + i then true else listed.getD j false) := by
        funext j
        rw [Nat.zero_add]
        by_cases hj : j = i
        · subst hj; simp [hlt]
        · rw [if_neg hj, getD_set_ne false (fun e => hj e.symm)]
      rw [e]
      exact hI'
/-- A region that draws: by an invariant. -/
theorem wp_region_inv' {P : Program} {id : Nat} {l : List Oper} {Q : Exit → Act → World → Prop} {a : Act} {w : World} (hm : P.follows .mixedOrders = true) (hp : plainB' l = true)
    (Inv : (Nat → Bool) → Act → World → Prop) (h0 : Inv (fun _ => false) a w.drew) (hs : InvSteps P Q Inv 0 l)
    (hend : ∀ d a w, (∀ i, i < l.length → d i = true) → Inv d a w → Q .normal a w) : (Code.region id l.toArray true).wp P Q a w := by
  refine wp_region_any hm (wpAny_inv' hp hs hend _ _ _ _ (by simp) (by simp [List.countP_replicate]) ?_)
  have e : (fun j => (Array.replicate l.toArray.size false).getD j false) = fun _ => false := by
    funext j
    by_cases hj : j < l.length <;> simp [hj]
  rw [e]
  exact h0


noncomputable def reg32C : Code := (Try.f33.body.bind (regionAt 32)).getD .skip
/-- What is known in the midst of the region. -/
structure RetF (W : World) (B : Nat) (ca cb : Array Value) (va vb u : Value) (d : Nat → Bool) (x149 x150 x151 : Value) (w : World) : Prop where
  same : Same (fun k => k = B ∨ k = B + 1) W w
  f0 : d 0 = true → x149 = va
  f1 : d 1 = true → x150 = vb
  f2 : d 2 = true → x151 = u
  b1 : w.heap[B]? = some (.cells ca 25 (0, 0))
  b2 : w.heap[B + 1]? = some (.cells cb 22 (0, 0))
set_option maxRecDepth 100000 in
set_option maxHeartbeats 4000000 in
theorem reg32 {W : World} {B : Nat} {S wc : Int} {a1 a3 a4 : Option Addr} {n1 n3 n4 c1 c3 c4 : Nat} {u v0 v1 v2 v3 v4 : Value} {Q : Exit → Act → World → Prop} (h0 : v0 = .int .i64 S) (h1 : v1 = .slice a1 n1 c1) (h2 : v2 = .int .i64 wc) (h3 : v3 = .slice a3 n3 c3) (h4 : v4 = .slice a4 n4 c4)
    (hb1 : W.heap[B]? = some (.cells #[v0, v1, v2, v3] 25 (0, 0))) (hb2 : W.heap[B + 1]? = some (.cells #[v4] 22 (0, 0))) {s0 s1 s5 s6 s7 s8 s9 s10 s11 s12 s13 s14 s15 s16 s17 s18 s19 s20 s21 s22 s23 s24 s25 s26 s27 s28 s29 s30 s31 s32 s33 s34 s35 s36 s37 s38 s39 s40 s41 s42 s43 s44 s45 s46 s47 s48 s49 s50 s51 s52 s53 s54 s55 s56 s57 s58 s59 s60 s61 s62 s63 s64 s65 s66 s67 s68 s69 s70 s71 s72 s73 s74 s75 s76 s77 s78 s79 s80 s81 s82 s83 s84 s85 s86 s87 s88 s89 s90 s91 s92 s93 s94 s95 s96 s97 s98 s99 s100 s101 s102 s103 s104 s105 s106 s107 s108 s109 s110 s111 s112 s113 s114 s115 s116 s117 s118 s119 s120 s121 s122 s123 s124 s125 s126 s127 s128 s129 s130 s131 s132 s133 s134 s135 s136 s137 s138 s139 s140 s141 s142 s143 s144 s145 s146 s147 s148 s149 s150 s151 : Value}
    (hQ : ∀ (x149 x150 x151 : Value) (w' : World), w'.heap[B]? = some (.cells #[v0, v1, v2, v3] 25 (0, 0)) → w'.heap[B + 1]? = some (.cells #[v4] 22 (0, 0)) → Same (fun k => k = B ∨ k = B + 1) W w' →
      Q .normal { tmps := #[s0, s1, .pointer (some ⟨B, 0, none⟩), .pointer (some ⟨B + 1, 0, none⟩), u, s5, s6, s7, s8, s9, s10, s11, s12, s13, s14, s15, s16, s17, s18, s19, s20, s21, s22, s23, s24, s25, s26, s27, s28, s29, s30, s31, s32, s33, s34, s35, s36, s37, s38, s39, s40, s41, s42, s43, s44, s45, s46, s47, s48, s49, s50, s51, s52, s53, s54, s55, s56, s57, s58, s59, s60, s61, s62, s63, s64, s65, s66, s67, s68, s69, s70, s71, s72, s73, s74, s75, s76, s77, s78, s79, s80, s81, s82, s83, s84, s85, s86, s87, s88, s89, s90, s91, s92, s93, s94, s95, s96, s97, s98, s99, s100, s101, s102, s103, s104, s105, s106, s107, s108, s109, s110, s111, s112, s113, s114, s115, s116, s117, s118, s119, s120, s121, s122, s123, s124, s125, s126, s127, s128, s129, s130, s131, s132, s133, s134, s135, s136, s137, s138, s139, s140, s141, s142, s143, s144, s145, s146, s147, s148, x149, x150, x151], defers := [] } w') :
    Code.wp Try.prog reg32C Q { tmps := #[s0, s1, .pointer (some ⟨B, 0, none⟩), .pointer (some ⟨B + 1, 0, none⟩), u, s5, s6, s7, s8, s9, s10, s11, s12, s13, s14, s15, s16, s17, s18, s19, s20, s21, s22, s23, s24, s25, s26, s27, s28, s29, s30, s31, s32, s33, s34, s35, s36, s37, s38, s39, s40, s41, s42, s43, s44, s45, s46, s47, s48, s49, s50, s51, s52, s53, s54, s55, s56, s57, s58, s59, s60, s61, s62, s63, s64, s65, s66, s67, s68, s69, s70, s71, s72, s73, s74, s75, s76, s77, s78, s79, s80, s81, s82, s83, s84, s85, s86, s87, s88, s89, s90, s91, s92, s93, s94, s95, s96, s97, s98, s99, s100, s101, s102, s103, s104, s105, s106, s107, s108, s109, s110, s111, s112, s113, s114, s115, s116, s117, s118, s119, s120, s121, s122, s123, s124, s125, s126, s127, s128, s129, s130, s131, s132, s133, s134, s135, s136, s137, s138, s139, s140, s141, s142, s143, s144, s145, s146, s147, s148, s149, s150, s151], defers := [] } W := by
  have HQ := Lib.hid hQ
  clear hQ
  conv => arg 2; whnf
  refine wp_region_inv' mixed (by kernel_rfl) (fun d_ a_ w' => ∃ x149 x150 x151, a_ = { tmps := #[s0, s1, .pointer (some ⟨B, 0, none⟩), .pointer (some ⟨B + 1, 0, none⟩), u, s5, s6, s7, s8, s9, s10, s11, s12, s13, s14, s15, s16, s17, s18, s19, s20, s21, s22, s23, s24, s25, s26, s27, s28, s29, s30, s31, s32, s33, s34, s35, s36, s37, s38, s39, s40, s41, s42, s43, s44, s45, s46, s47, s48, s49, s50, s51, s52, s53, s54, s55, s56, s57, s58, s59, s60, s61, s62, s63, s64, s65, s66, s67, s68, s69, s70, s71, s72, s73, s74, s75, s76, s77, s78, s79, s80, s81, s82, s83, s84, s85, s86, s87, s88, s89, s90, s91, s92, s93, s94, s95, s96, s97, s98, s99, s100, s101, s102, s103, s104, s105, s106, s107, s108, s109, s110, s111, s112, s113, s114, s115, s116, s117, s118, s119, s120, s121, s122, s123, s124, s125, s126, s127, s128, s129, s130, s131, s132, s133, s134, s135, s136, s137, s138, s139, s140, s141, s142, s143, s144, s145, s146, s147, s148, x149, x150, x151], defers := [] } ∧ RetF W B #[v0, v1, v2, v3] #[v4] (.agg #[v0, v1, v2, v3]) v4 u d_ x149 x150 x151 w') ?_ ?_ ?_
  · exact ⟨s149, s150, s151, rfl, (Same.refl _ W).drew, (fun h => by cases h), (fun h => by cases h), (fun h => by cases h), hb1, hb2⟩
  · subst h0 h1 h2 h3 h4
    refine ⟨?_, ?_, ?_, ?_, ?_, ?_, trivial⟩
    all_goals
      rintro d_ a_ w1 K hd hdep ⟨x149, x150, x151, rfl, F⟩ HK
      simp [Region.binds] at hdep
      obtain ⟨fs, f0, f1, f2, b1, b2⟩ := F
      have k0 : w1.cell? ⟨B, 0, none⟩ = some (.int .i64 S) := by rw [cell_of_heap b1]; rfl
      have k1 : w1.cell? ⟨B, 1, none⟩ = some (.slice a1 n1 c1) := by rw [cell_of_heap b1]; rfl
      have k2 : w1.cell? ⟨B, 2, none⟩ = some (.int .i64 wc) := by rw [cell_of_heap b1]; rfl
      have k3 : w1.cell? ⟨B, 3, none⟩ = some (.slice a3 n3 c3) := by rw [cell_of_heap b1]; rfl
      have k4 : w1.cell? ⟨B + 1, 0, none⟩ = some (.slice a4 n4 c4) := by rw [cell_of_heap b2]; rfl
      have z1 : ∀ k, w1.frozen? ⟨B, k, none⟩ = false := fun k => frozen_of_heap b1
      have z2 : ∀ k, w1.frozen? ⟨B + 1, k, none⟩ = false := fun k => frozen_of_heap b2
      have HH := Lib.hid (And.intro fs (And.intro b1 b2))
      have G0 := Lib.hid f0
      have G1 := Lib.hid f1
      have G2 := Lib.hid f2
      clear fs b1 b2 f0 f1 f2
    · go_simp
      exact HK.out _ _ ⟨_, _, _, rfl, HH.out.1, fun _ => rfl, G1.out, G2.out, HH.out.2.1, HH.out.2.2⟩
    · go_simp
      exact HK.out _ _ ⟨_, _, _, rfl, HH.out.1, G0.out, fun _ => rfl, G2.out, HH.out.2.1, HH.out.2.2⟩
    · go_simp
      exact HK.out _ _ ⟨_, _, _, rfl, HH.out.1, G0.out, G1.out, fun _ => rfl, HH.out.2.1, HH.out.2.2⟩
    · obtain rfl := G0.out (by simp [hdep])
      go_simp
      refine HK.out _ _ ⟨_, _, _, rfl, ?_, G0.out, G1.out, G2.out, ?_, ?_⟩
      all_goals obtain ⟨fs, b1, b2⟩ := HH.out
      · exact (((fs.setCell (.inl (.inl rfl)) _).setCell (.inl (.inl rfl)) _).setCell (.inl (.inl rfl)) _).setCell (.inl (.inl rfl)) _
      · have e := heap_setCell_at (k := 3) (heap_setCell_at (k := 2) (heap_setCell_at (k := 1) (heap_setCell_at (k := 0) b1 (.int .i64 S)) (.slice a1 n1 c1)) (.int .i64 wc)) (.slice a3 n3 c3)
        exact e
      · rw [Below.heap_setCell _ _ _ _ (show B + 1 ≠ B by omega), Below.heap_setCell _ _ _ _ (show B + 1 ≠ B by omega), Below.heap_setCell _ _ _ _ (show B + 1 ≠ B by omega), Below.heap_setCell _ _ _ _ (show B + 1 ≠ B by omega)]
        exact b2
    · obtain rfl := G1.out (by simp [hdep])
      go_simp
      refine HK.out _ _ ⟨_, _, _, rfl, ?_, G0.out, G1.out, G2.out, ?_, ?_⟩
      all_goals obtain ⟨fs, b1, b2⟩ := HH.out
      · exact fs.setCell (.inl (.inr rfl)) _
      · rw [Below.heap_setCell _ _ _ _ (show B ≠ B + 1 by omega)]
        exact b1
      · exact heap_setCell_at (k := 0) b2 (.slice a4 n4 c4)
    · obtain rfl := G2.out (by simp [hdep])
      go_simp
      exact HK.out _ _ ⟨_, _, _, rfl, HH.out.1, G0.out, G1.out, G2.out, HH.out.2.1, HH.out.2.2⟩
  · rintro d_ a_ w1 hall ⟨x149, x150, x151, rfl, F⟩
    exact HQ.out _ _ _ w1 F.b1 F.b2 F.same
end Go.Proofs.Ytlhobddaojdnoaa

namespace Go.Proofs.Ytlhobddaojdnoaa
open Go.RowKit
set_option linter.unusedVariables false

/-- An array of integers of the call's own, in a block between two numbers. -/
def RowAt (w : World) (a : Option Addr) (l : List Int) (lo hi : Nat) : Prop :=
  l.length = 0 ∨ ∃ g cur, a = some ⟨g, 0, none⟩ ∧ lo ≤ g ∧ g < hi ∧ w.heap[g]? = some (.cells cur 3 (0, 0)) ∧ ∀ i, i < l.length → cur[i]? = some (.int .i64 (gi l i))
theorem RowAt.ints {w : World} {a : Option Addr} {l : List Int} {lo hi : Nat} (h : RowAt w a l lo hi) : IsInts w a l := fun i hi => by
  rcases h with h | ⟨g, cur, h1, _, _, h4, h5⟩
  · omega
  · refine ⟨g, 0, h1, ?_⟩
    rw [cell_of_heap h4, Nat.zero_add]
    exact h5 i hi
theorem RowAt.kept {w w' : World} {a : Option Addr} {l : List Int} {lo hi : Nat} (h : RowAt w a l lo hi) (hk : ∀ g, lo ≤ g → g < hi → g < w.heap.size → w'.heap[g]? = w.heap[g]?) : RowAt w' a l lo hi := by
  rcases h with h | ⟨g, cur, h1, h2, h3, h4, h5⟩
  · exact .inl h
  · exact .inr ⟨g, cur, h1, h2, h3, (hk g h2 h3 (heap_lt h4)).trans h4, h5⟩
theorem RowAt.set {w : World} {a : Option Addr} {l : List Int} {lo hi : Nat} (h : RowAt w a l lo hi) {i : Nat} (hi' : i < l.length) (v : Int) :
    ∃ g, a = some ⟨g, 0, none⟩ ∧ lo ≤ g ∧ g < hi ∧ (∃ u, w.cell? ⟨g, i, none⟩ = some u) ∧ w.frozen? ⟨g, i, none⟩ = false ∧ RowAt (w.setCell ⟨g, i, none⟩ (.int .i64 v)) a (l.set i v) lo hi := by
  rcases h with h | ⟨g, cur, h1, h2, h3, h4, h5⟩
  · omega
  · refine ⟨g, h1, h2, h3, ⟨.int .i64 (gi l i), by rw [cell_of_heap h4]; exact h5 i hi'⟩, frozen_of_heap h4, .inr ⟨g, cur.setIfInBounds i (.int .i64 v), h1, h2, h3, heap_setCell_at h4 _, fun j hj => ?_⟩⟩
    rw [List.length_set] at hj
    rw [Array.getElem?_setIfInBounds, gi_set hi']
    have hz : i < cur.size := (Array.getElem?_eq_some_iff.1 (h5 i hi')).1
    split
    · rename_i e; subst e; simp
    · exact h5 j hj
/-- What lies in memory while a cabinet is made. -/
structure MkW (W0 : World) (pa bt bl : Nat) (S : Int) (H : List Int) (ah a : Option Addr) (ch ca : Nat) (k wc : Nat) (ls : List Ln) (t : List Int) (vl : Value) (w : World) : Prop where
  same : Same (fun i => i = pa) W0 w
  drw : w.heap[pa]? = some (.cells #[.int .i64 k] 3 (0, 0))
  cab : w.heap[W0.heap.size]? = some (.cells #[.int .i64 S, .slice ah H.length ch, .int .i64 wc, vl] 25 (0, 0))
  own : w.ownsRow bl 48 4 vl ls.length (loanCells ls)
  box : w.heap[W0.heap.size + 1]? = some (.cells #[.slice a t.length ca] 22 (0, 0))
  hom : RowAt w ah H (W0.heap.size + 2) bt
  att : RowAt w a t bt bl
  sz : bl ≤ w.heap.size
  o1 : pa < W0.heap.size
  o2 : W0.heap.size + 2 ≤ bt
  o3 : bt ≤ bl
section
variable {W0 : World} {pa pb bt bl : Nat} {S : Int} {H : List Int} {ah a : Option Addr} {ch ca k wc : Nat} {ls : List Ln} {t : List Int} {vl : Value} {w w' : World}
theorem MkW.drawer (h : MkW W0 pa bt bl S H ah a ch ca k wc ls t vl w) {k0 : Nat} (hd : Drawer W0 pa pb k0) : Drawer w pa pb k := by
  refine ⟨h.drw, ?_⟩
  obtain ⟨b, off, cap, l, h1, h2, h3, h4, h5, h6, h7⟩ := hd.by_
  exact ⟨b, off, cap, l, h.same.cell h1 h7, fun i hi => h.same.cell (h2 i hi) h6, h3, h4, h5, h6, h7⟩
theorem own_same {P : Nat → Prop} {B : Nat} {e : TypeId} {s n : Nat} {v : Value} {xs : List Value} (h : w.ownsRow B e s v n xs) (hs : Same P w w') (hm : ∀ i, B ≤ i → ¬ P i) : w'.ownsRow B e s v n xs := by
  obtain ⟨h1, h2⟩ := h
  refine ⟨h1, ?_⟩
  rcases h2 with h2 | ⟨g, cap, cur, hv, hg, hh, r⟩
  · exact .inl h2
  · exact .inr ⟨g, cap, cur, hv, hg, (hs.block g (heap_lt hh) (hm g hg)).trans hh, r⟩
theorem MkW.drawn (h : MkW W0 pa bt bl S H ah a ch ca k wc ls t vl w) (hs : Same (fun i => i = pa) w w') (hd : Drawer w' pa pb (k + 1)) : MkW W0 pa bt bl S H ah a ch ca (k + 1) wc ls t vl w' := by
  have o1 := h.o1; have o2 := h.o2; have o3 := h.o3
  have hk : ∀ i, i ≠ pa → i < w.heap.size → w'.heap[i]? = w.heap[i]? := fun i h1 h2 => hs.block i h2 h1
  refine ⟨h.same.trans hs, hd.at_, (hk _ (by omega) (heap_lt h.cab)).trans h.cab, own_same h.own hs (fun i hi => by omega), (hk _ (by omega) (heap_lt h.box)).trans h.box, h.hom.kept fun g h1 h2 h3 => hk g (by omega) h3, h.att.kept fun g h1 h2 h3 => hk g (by omega) h3, by have := h.sz; have := hs.size; omega, o1, o2, o3⟩
theorem MkW.alloc (h : MkW W0 pa bt bl S H ah a ch ca k wc ls t vl w) (o : Obj) : MkW W0 pa bt bl S H ah a ch ca k wc ls t vl (w.alloc o) := by
  have hk : ∀ i, i < w.heap.size → (w.alloc o).heap[i]? = w.heap[i]? := fun i h1 => Below.heap_alloc _ _ _ h1
  exact ⟨h.same.alloc _, (hk _ (heap_lt h.drw)).trans h.drw, (hk _ (heap_lt h.cab)).trans h.cab, h.own.alloc _, (hk _ (heap_lt h.box)).trans h.box, h.hom.kept fun g _ _ h3 => hk g h3, h.att.kept fun g _ _ h3 => hk g h3, by have := h.sz; simp; omega, h.o1, h.o2, h.o3⟩
/-- A cell of a block above is written. -/
theorem MkW.setL (h : MkW W0 pa bt bl S H ah a ch ca k wc ls t vl w) {p : Addr} (hL : bl ≤ p.block) (hne : vl.ownBlock ≠ some p.block) (v : Value) : MkW W0 pa bt bl S H ah a ch ca k wc ls t vl (w.setCell p v) := by
  have o1 := h.o1; have o2 := h.o2; have o3 := h.o3
  have hk : ∀ i, i < bl → (w.setCell p v).heap[i]? = w.heap[i]? := fun i h1 => Below.heap_setCell _ _ _ _ (by omega)
  exact ⟨h.same.setCell (.inr (by omega)) _, (hk _ (by omega)).trans h.drw, (hk _ (by omega)).trans h.cab, ownsRow_setCell_other h.own hne _, (hk _ (by omega)).trans h.box, h.hom.kept fun g _ _ _ => hk g (by omega), h.att.kept fun g _ _ _ => hk g (by omega), by have := h.sz; simpa using this, o1, o2, o3⟩
theorem own_ne {n : Nat} {xs : List Value} (h : w.ownsRow bl 48 4 vl n xs) {i : Nat} (hi : i < bl) : vl.ownBlock ≠ some i := fun e => by
  have := (h.lt i e).1
  omega
theorem MkW.setWrong (h : MkW W0 pa bt bl S H ah a ch ca k wc ls t vl w) (wc' : Nat) : MkW W0 pa bt bl S H ah a ch ca k wc' ls t vl (w.setCell ⟨W0.heap.size, 2, none⟩ (.int .i64 wc')) := by
  have o1 := h.o1; have o2 := h.o2; have o3 := h.o3
  have hk : ∀ i, i ≠ W0.heap.size → (w.setCell ⟨W0.heap.size, 2, none⟩ (.int .i64 wc')).heap[i]? = w.heap[i]? := fun i h1 => Below.heap_setCell _ _ _ _ h1
  exact ⟨h.same.setCell (.inr (Nat.le_refl _)) _, (hk _ (by omega)).trans h.drw, heap_setCell_at h.cab _, ownsRow_setCell_other h.own (own_ne h.own (by show W0.heap.size < bl; omega)) _, (hk _ (by omega)).trans h.box, h.hom.kept fun g _ _ _ => hk g (by omega), h.att.kept fun g _ _ _ => hk g (by omega), by have := h.sz; simpa using this, o1, o2, o3⟩
theorem MkW.setAt (h : MkW W0 pa bt bl S H ah a ch ca k wc ls t vl w) {i : Nat} (hi : i < t.length) (v : Int) :
    ∃ g, a = some ⟨g, 0, none⟩ ∧ (∃ u, w.cell? ⟨g, i, none⟩ = some u) ∧ w.frozen? ⟨g, i, none⟩ = false ∧ bt ≤ g ∧ g < bl ∧ MkW W0 pa bt bl S H ah a ch ca k wc ls (t.set i v) vl (w.setCell ⟨g, i, none⟩ (.int .i64 v)) := by
  have o1 := h.o1; have o2 := h.o2; have o3 := h.o3
  obtain ⟨g, h1, h2, h3, h4, h5, h6⟩ := h.att.set hi v
  have hk : ∀ j, j ≠ g → (w.setCell ⟨g, i, none⟩ (.int .i64 v)).heap[j]? = w.heap[j]? := fun j h1 => Below.heap_setCell _ _ _ _ h1
  exact ⟨g, h1, h4, h5, h2, h3, h.same.setCell (.inr (by show W0.heap.size ≤ g; omega)) _, (hk _ (by omega)).trans h.drw, (hk _ (by omega)).trans h.cab, ownsRow_setCell_other h.own (own_ne h.own (by show g < bl; omega)) _, by rw [List.length_set]; exact (hk _ (by omega)).trans h.box, h.hom.kept fun j _ _ _ => hk j (by omega), h6, by have := h.sz; simpa using this, o1, o2, o3⟩
theorem MkW.cells (h : MkW W0 pa bt bl S H ah a ch ca k wc ls t vl w) :
    w.cell? ⟨W0.heap.size, 0, none⟩ = some (.int .i64 S) ∧ w.cell? ⟨W0.heap.size, 1, none⟩ = some (.slice ah H.length ch) ∧ w.cell? ⟨W0.heap.size, 2, none⟩ = some (.int .i64 wc) ∧ w.cell? ⟨W0.heap.size, 3, none⟩ = some vl ∧
    w.cell? ⟨W0.heap.size + 1, 0, none⟩ = some (.slice a t.length ca) ∧ (∀ j, w.frozen? ⟨W0.heap.size, j, none⟩ = false) := by
  refine ⟨?_, ?_, ?_, ?_, ?_, fun j => frozen_of_heap h.cab⟩
  · rw [cell_of_heap h.cab]; rfl
  · rw [cell_of_heap h.cab]; rfl
  · rw [cell_of_heap h.cab]; rfl
  · rw [cell_of_heap h.cab]; rfl
  · rw [cell_of_heap h.box]; rfl
/-- One loan more: appended, and laid into the cabinet. -/
theorem MkW.appended (h : MkW W0 pa bt bl S H ah a ch ca k wc ls t vl w) {l : Ln} {v : Value} (hg : w.grownBy w' vl.ownBlock) (hn : w'.ownsRow bl 48 4 v (ls.length + 1) (loanCells ls ++ loanCells [l])) :
    MkW W0 pa bt bl S H ah a ch ca k wc (ls ++ [l]) t v (w'.setCell ⟨W0.heap.size, 3, none⟩ v) := by
  have o1 := h.o1; have o2 := h.o2; have o3 := h.o3
  have hk : ∀ i, i < bl → w'.heap[i]? = w.heap[i]? := fun i h1 => hg.block i (by have := h.sz; omega) (fun e => own_ne h.own h1 e.symm)
  have hk' : ∀ i, i < bl → i ≠ W0.heap.size → (w'.setCell ⟨W0.heap.size, 3, none⟩ v).heap[i]? = w.heap[i]? := fun i h1 h2 => (Below.heap_setCell _ _ _ _ h2).trans (hk i h1)
  refine ⟨(h.same.grown hg (fun j hj => .inr ?_)).setCell (.inr (Nat.le_refl _)) _, (hk' _ (by omega) (by omega)).trans h.drw, heap_setCell_at ((hk _ (by omega)).trans h.cab) _, ?_, (hk' _ (by omega) (by omega)).trans h.box, h.hom.kept fun g _ _ _ => hk' g (by omega) (by omega), h.att.kept fun g _ _ _ => hk' g (by omega) (by omega), ?_, o1, o2, o3⟩
  · have := (h.own.lt j hj).1
    omega
  · have := ownsRow_setCell_other (a := ⟨W0.heap.size, 3, none⟩) hn (own_ne hn (by show W0.heap.size < bl; omega)) v
    simpa [loanCells] using this
  · have := h.sz
    have := hg.size
    show bl ≤ (w'.setCell _ v).heap.size
    simp
    omega
end
end Go.Proofs.Ytlhobddaojdnoaa

namespace Go.Proofs.Ytlhobddaojdnoaa
open Go.RowKit
set_option linter.unusedVariables false

/-- A loan that is made, in a block of its own. -/
structure LnW (bl L : Nat) (l : Ln) (vl : Value) (w : World) : Prop where
  blk : w.heap[L]? = some (.cells l.arr 48 (0, 0))
  hi : bl ≤ L
  ne : vl.ownBlock ≠ some L
theorem LnW.same {pa bl L : Nat} {l : Ln} {vl : Value} {w w' : World} (h : LnW bl L l vl w) (hs : Same (fun i => i = pa) w w') (hp : pa < bl) : LnW bl L l vl w' :=
  ⟨(hs.block L (heap_lt h.blk) (by have := h.hi; show L ≠ pa; omega)).trans h.blk, h.hi, h.ne⟩
theorem LnW.other {bl L : Nat} {l : Ln} {vl : Value} {w : World} (h : LnW bl L l vl w) {p : Addr} (hp : p.block < bl) (v : Value) : LnW bl L l vl (w.setCell p v) :=
  ⟨(Below.heap_setCell _ _ _ _ (by have := h.hi; omega)).trans h.blk, h.hi, h.ne⟩
theorem LnW.cells {bl L : Nat} {a b c d : Int} {vl : Value} {w : World} (h : LnW bl L ⟨a, b, c, d⟩ vl w) :
    w.cell? ⟨L, 0, none⟩ = some (.int .i64 a) ∧ w.cell? ⟨L, 1, none⟩ = some (.int .i64 b) ∧ w.cell? ⟨L, 2, none⟩ = some (.int .i64 c) ∧ w.cell? ⟨L, 3, none⟩ = some (.int .i64 d) ∧ (∀ j, w.frozen? ⟨L, j, none⟩ = false) := by
  have hb := h.blk
  refine ⟨?_, ?_, ?_, ?_, fun j => frozen_of_heap hb⟩ <;> (rw [cell_of_heap hb]; rfl)
def leftR : Code → Option Nat
  | .region id _ _ => some id
  | .seq a _ => leftR a
  | _ => none
def fromR (n : Nat) : Code → Option Code
  | .seq a b => if leftR a = some n then some (.seq a b) else match fromR n a with
    | some c => some c
    | none => fromR n b
  | .block _ c => fromR n c
  | .scope c => fromR n c
  | .loop c => fromR n c
  | .cond _ a b => match fromR n a with
    | some c => some c
    | none => fromR n b
  | _ => none
theorem wp_seq_hid {P : Program} {x y : Code} {Q : Exit → Act → World → Prop} {a : Act} {w : World} (h : ∀ K, Hid (∀ a' w', y.wp P Q a' w' → K a' w') → x.wp P (Exit.then K Q) a w) : (Code.seq x y).wp P Q a w :=
  wp_seq (h _ fun _ _ h => h)
section
variable {W0 : World} {pa pb bt bl : Nat} {S : Int} {H : List Int} {ah a : Option Addr} {ch ca k wc : Nat} {ls : List Ln} {t : List Int} {vl : Value} {w w' : World}
theorem MkW.pabl (h : MkW W0 pa bt bl S H ah a ch ca k wc ls t vl w) : pa < bl := by have := h.o1; have := h.o2; have := h.o3; omega
theorem mk_draw {k0 : Nat} (hd : Drawer W0 pa pb k0) (m : Int) (hm : 1 ≤ m ∧ m ≤ 1000) (hk : k ≤ 1000) (h : MkW W0 pa bt bl S H ah a ch ca k wc ls t vl w) :
    Calls Try.prog 77 #[.int .i64 m, .pointer (some ⟨pa, 0, none⟩), .pointer (some ⟨pb, 0, none⟩)] w fun e w' => ∃ v : Int, e = .returned (.int .i64 v) ∧ 0 ≤ v ∧ v < m ∧ MkW W0 pa bt bl S H ah a ch ca (k + 1) wc ls t vl w' ∧ Same (fun i => i = pa) w w' :=
  (draw_any m hm hk (h.drawer hd)).mono fun _ _ ⟨v, h1, h2, h3, h4, h5⟩ => ⟨v, h1, h2, h3, h.drawn h5 h4, h5⟩
theorem mk_lies (s : Int) (hl : t.length ≤ 5) (h : MkW W0 pa bt bl S H ah a ch ca k wc ls t vl w) :
    Calls Try.prog 76 #[.int .i64 s, .pointer (some ⟨W0.heap.size + 1, 0, none⟩)] w fun e w' => e = .returned (.int .i64 (lies t s)) ∧ w = w' :=
  lies76 t s h.cells.2.2.2.2.1 h.att.ints hl
end

noncomputable def c29C : Code := (Try.f33.body.bind (regionAt 29)).getD .skip

set_option maxRecDepth 100000 in
set_option maxHeartbeats 4000000 in
theorem reg29 {W0 w : World} {pa pb bt bl : Nat} {S : Int} {H : List Int} {ah a : Option Addr} {ch ca k wc : Nat} {ls : List Ln} {t : List Int} {vl : Value} {L : Nat} {Q : Exit → Act → World → Prop} {l : Ln} (hM : MkW W0 pa bt bl S H ah a ch ca k wc ls t vl w) (hL : LnW bl L l vl w) (hlen : ls.length ≤ 12)
    {s1 s4 s5 s6 s7 s10 s11 s12 s13 s14 s15 s16 s17 s18 s19 s20 s21 s22 s23 s24 s25 s26 s27 s28 s29 s30 s31 s32 s33 s34 s35 s36 s37 s38 s39 s40 s41 s42 s43 s44 s45 s46 s47 s48 s49 s50 s51 s52 s53 s54 s55 s56 s57 s58 s59 s60 s61 s62 s63 s64 s65 s66 s67 s68 s69 s70 s71 s72 s73 s74 s75 s76 s77 s78 s79 s80 s81 s82 s83 s84 s85 s86 s87 s88 s89 s90 s91 s92 s93 s94 s95 s96 s97 s98 s99 s100 s101 s102 s103 s104 s105 s106 s107 s108 s109 s110 s111 s112 s113 s114 s115 s116 s117 s118 s119 s120 s121 s122 s123 s124 s125 s126 s127 s128 s129 s130 s131 s132 s133 s134 s135 s136 s137 s138 s139 s140 s141 s142 s143 s144 s145 s146 s147 s148 s149 s150 s151 : Value}
    (hQ : ∀ (x135 x136 x137 x138 x139 x140 v' : Value) (w' : World), MkW W0 pa bt bl S H ah a ch ca k wc (ls ++ [l]) t v' w' → Q .normal { tmps := #[.func (.func 77) #[] #[.pointer (some ⟨pa, 0, none⟩), .pointer (some ⟨pb, 0, none⟩)], s1, .pointer (some ⟨W0.heap.size, 0, none⟩), .pointer (some ⟨W0.heap.size + 1, 0, none⟩), s4, s5, s6, s7, .func (.func 76) #[] #[.pointer (some ⟨W0.heap.size + 1, 0, none⟩)], .pointer (some ⟨L, 0, none⟩), s10, s11, s12, s13, s14, s15, s16, s17, s18, s19, s20, s21, s22, s23, s24, s25, s26, s27, s28, s29, s30, s31, s32, s33, s34, s35, s36, s37, s38, s39, s40, s41, s42, s43, s44, s45, s46, s47, s48, s49, s50, s51, s52, s53, s54, s55, s56, s57, s58, s59, s60, s61, s62, s63, s64, s65, s66, s67, s68, s69, s70, s71, s72, s73, s74, s75, s76, s77, s78, s79, s80, s81, s82, s83, s84, s85, s86, s87, s88, s89, s90, s91, s92, s93, s94, s95, s96, s97, s98, s99, s100, s101, s102, s103, s104, s105, s106, s107, s108, s109, s110, s111, s112, s113, s114, s115, s116, s117, s118, s119, s120, s121, s122, s123, s124, s125, s126, s127, s128, s129, s130, s131, s132, s133, s134, x135, x136, x137, x138, x139, x140, s141, s142, s143, s144, s145, s146, s147, s148, s149, s150, s151], defers := [] } w') :
    Code.wp Try.prog c29C Q { tmps := #[.func (.func 77) #[] #[.pointer (some ⟨pa, 0, none⟩), .pointer (some ⟨pb, 0, none⟩)], s1, .pointer (some ⟨W0.heap.size, 0, none⟩), .pointer (some ⟨W0.heap.size + 1, 0, none⟩), s4, s5, s6, s7, .func (.func 76) #[] #[.pointer (some ⟨W0.heap.size + 1, 0, none⟩)], .pointer (some ⟨L, 0, none⟩), s10, s11, s12, s13, s14, s15, s16, s17, s18, s19, s20, s21, s22, s23, s24, s25, s26, s27, s28, s29, s30, s31, s32, s33, s34, s35, s36, s37, s38, s39, s40, s41, s42, s43, s44, s45, s46, s47, s48, s49, s50, s51, s52, s53, s54, s55, s56, s57, s58, s59, s60, s61, s62, s63, s64, s65, s66, s67, s68, s69, s70, s71, s72, s73, s74, s75, s76, s77, s78, s79, s80, s81, s82, s83, s84, s85, s86, s87, s88, s89, s90, s91, s92, s93, s94, s95, s96, s97, s98, s99, s100, s101, s102, s103, s104, s105, s106, s107, s108, s109, s110, s111, s112, s113, s114, s115, s116, s117, s118, s119, s120, s121, s122, s123, s124, s125, s126, s127, s128, s129, s130, s131, s132, s133, s134, s135, s136, s137, s138, s139, s140, s141, s142, s143, s144, s145, s146, s147, s148, s149, s150, s151], defers := [] } w := by
  obtain ⟨i1, hj0, hj1, hj2, hj3⟩ := info_parts info48
  obtain ⟨kd, cd, pe, sl⟩ := l
  obtain ⟨l0, l1, l2, l3, lf⟩ := hL.cells
  have hM1 := hM.alloc (.cells (Ln.arr ⟨kd, cd, pe, sl⟩) 48)
  have hnew := World.alloc_heap_new w (.cells (Ln.arr ⟨kd, cd, pe, sl⟩) 48)
  have hbz := hM.sz
  obtain ⟨v', w', hr, hn, hg⟩ := append_rows bl 23 23 48 i1 _ 4 32 Try.underlying23 hj0 hj1 hj2 hj3 rfl (by decide) _ _ _ hM1.own (some ⟨w.heap.size, 0, none⟩) 1 1 (loanCells [⟨kd, cd, pe, sl⟩])
    rfl (fun _ => ⟨_, rfl, fun j u hj => by
      have hlt := (List.getElem?_eq_some_iff.1 hj).1
      rw [loanCells_len] at hlt
      have e : ((⟨w.heap.size, 0, none⟩ : Addr).add j) = ⟨w.heap.size, j, none⟩ := by unfold Addr.add; split <;> simp_all
      rw [e, cell_of_heap hnew]
      simpa [loanCells] using hj⟩) (loanCells_one _) (by simp [maxLen]; omega) (by omega) (by simp; omega)
  have hk3 : w'.heap[W0.heap.size]? = some (.cells #[.int .i64 S, .slice ah H.length ch, .int .i64 wc, vl] 25 (0, 0)) :=
    (hg.block W0.heap.size (heap_lt hM1.cab) (fun e => own_ne hM1.own (by have := hM.o2; have := hM.o3; omega) e.symm)).trans hM1.cab
  have c3' : w'.cell? ⟨W0.heap.size, 3, none⟩ = some vl := by rw [cell_of_heap hk3]; rfl
  have f3' : w'.frozen? ⟨W0.heap.size, 3, none⟩ = false := frozen_of_heap hk3
  have HM := Lib.hid (hM1.appended hg hn)
  have HR := Lib.hid hr
  obtain ⟨av, cv, rfl, _, _⟩ := own_slice hM.own
  obtain ⟨an, cn, rfl, _, _⟩ := own_slice hn
  obtain ⟨c0, c1, c2, c3, c4, cf⟩ := hM.cells
  have HQ := Lib.hid hQ
  clear hQ hM hL hM1 hnew hn hg hr hk3 hj0 hj1 hj2 hj3 c0 c1 c2 c4 hbz
  conv => arg 2; whnf
  go_wp2_with (at_builtin; refine wpList_append_run rfl (.tmp 136) (.tmp 138) 23 rfl _ _ _ _ rfl rfl HR.out ?_)
  exact HQ.out _ _ _ _ _ _ _ _ HM.out

noncomputable def c24C : Code := (Try.f33.body.bind (fromR 24)).getD .skip

set_option maxRecDepth 100000 in
set_option maxHeartbeats 4000000 in
theorem reg24 {W0 w : World} {pa pb bt bl : Nat} {S : Int} {H : List Int} {ah a : Option Addr} {ch ca k wc : Nat} {ls : List Ln} {t : List Int} {vl : Value} {L : Nat} {Q : Exit → Act → World → Prop} {N0 N wc' i : Nat} {kd p sl s : Int} (hM : MkW W0 pa bt bl S H ah a ch ca k wc ls t vl w) (hL : LnW bl L ⟨kd, i, p, sl⟩ vl w) (hlen : ls.length ≤ 12) (hwc : wc ≤ 12) (hi : i < H.length) (hit : i < t.length) (hs : 0 ≤ s ∧ s ≤ 6) (hN : N0 < 2 ^ 62)
    (hcase : (s = gi H i ∧ N = N0 ∧ wc' = wc) ∨ (s ≠ gi H i ∧ N = N0 ||| 2 ^ ls.length ∧ wc' = wc + 1))
    {s1 s5 s6 s7 s11 s12 s13 s14 s15 s16 s17 s18 s19 s20 s21 s22 s23 s24 s25 s26 s27 s28 s29 s30 s31 s32 s33 s34 s35 s36 s37 s38 s39 s40 s41 s42 s43 s44 s45 s46 s47 s48 s49 s50 s51 s52 s53 s54 s55 s56 s57 s58 s59 s60 s61 s62 s63 s64 s65 s66 s67 s68 s69 s70 s71 s72 s73 s74 s75 s76 s77 s78 s79 s80 s81 s82 s83 s84 s85 s86 s87 s88 s89 s90 s91 s92 s93 s94 s95 s96 s97 s98 s99 s100 s101 s102 s103 s104 s105 s106 s107 s108 s109 s110 s111 s112 s113 s114 s115 s116 s117 s118 s119 s120 s121 s122 s123 s124 s125 s126 s127 s128 s129 s130 s131 s132 s133 s134 s135 s136 s137 s138 s139 s140 s141 s142 s143 s144 s145 s146 s147 s148 s149 s150 s151 : Value}
    (hQ : ∀ (x108 x109 x110 x111 x112 x113 x114 x115 x116 x117 x118 x119 x120 x121 x122 x123 x124 x125 x126 x127 x128 x129 x130 : Value) (w' : World), MkW W0 pa bt bl S H ah a ch ca k wc' ls (t.set i s) vl w' → LnW bl L ⟨kd, i, p, sl⟩ vl w' → Q .normal { tmps := #[.func (.func 77) #[] #[.pointer (some ⟨pa, 0, none⟩), .pointer (some ⟨pb, 0, none⟩)], s1, .pointer (some ⟨W0.heap.size, 0, none⟩), .pointer (some ⟨W0.heap.size + 1, 0, none⟩), .int .i64 (N : Nat), s5, s6, s7, .func (.func 76) #[] #[.pointer (some ⟨W0.heap.size + 1, 0, none⟩)], .pointer (some ⟨L, 0, none⟩), .int .i64 s, s11, s12, s13, s14, s15, s16, s17, s18, s19, s20, s21, s22, s23, s24, s25, s26, s27, s28, s29, s30, s31, s32, s33, s34, s35, s36, s37, s38, s39, s40, s41, s42, s43, s44, s45, s46, s47, s48, s49, s50, s51, s52, s53, s54, s55, s56, s57, s58, s59, s60, s61, s62, s63, s64, s65, s66, s67, s68, s69, s70, s71, s72, s73, s74, s75, s76, s77, s78, s79, s80, s81, s82, s83, s84, s85, s86, s87, s88, s89, s90, s91, s92, s93, s94, s95, s96, s97, s98, s99, s100, s101, s102, s103, s104, s105, s106, s107, x108, x109, x110, x111, x112, x113, x114, x115, x116, x117, x118, x119, x120, x121, x122, x123, x124, x125, x126, x127, x128, x129, x130, s131, s132, s133, s134, s135, s136, s137, s138, s139, s140, s141, s142, s143, s144, s145, s146, s147, s148, s149, s150, s151], defers := [] } w') :
    Code.wp Try.prog c24C Q { tmps := #[.func (.func 77) #[] #[.pointer (some ⟨pa, 0, none⟩), .pointer (some ⟨pb, 0, none⟩)], s1, .pointer (some ⟨W0.heap.size, 0, none⟩), .pointer (some ⟨W0.heap.size + 1, 0, none⟩), .int .i64 (N0 : Nat), s5, s6, s7, .func (.func 76) #[] #[.pointer (some ⟨W0.heap.size + 1, 0, none⟩)], .pointer (some ⟨L, 0, none⟩), .int .i64 s, s11, s12, s13, s14, s15, s16, s17, s18, s19, s20, s21, s22, s23, s24, s25, s26, s27, s28, s29, s30, s31, s32, s33, s34, s35, s36, s37, s38, s39, s40, s41, s42, s43, s44, s45, s46, s47, s48, s49, s50, s51, s52, s53, s54, s55, s56, s57, s58, s59, s60, s61, s62, s63, s64, s65, s66, s67, s68, s69, s70, s71, s72, s73, s74, s75, s76, s77, s78, s79, s80, s81, s82, s83, s84, s85, s86, s87, s88, s89, s90, s91, s92, s93, s94, s95, s96, s97, s98, s99, s100, s101, s102, s103, s104, s105, s106, s107, s108, s109, s110, s111, s112, s113, s114, s115, s116, s117, s118, s119, s120, s121, s122, s123, s124, s125, s126, s127, s128, s129, s130, s131, s132, s133, s134, s135, s136, s137, s138, s139, s140, s141, s142, s143, s144, s145, s146, s147, s148, s149, s150, s151], defers := [] } w := by
  obtain ⟨hs0, hs1⟩ := hs
  obtain ⟨l0, l1, l2, l3, lf⟩ := hL.cells
  obtain ⟨c0, c1, c2, c3, c4, cf⟩ := hM.cells
  obtain ⟨av, cv, rfl, hcv, _⟩ := own_slice hM.own
  obtain ⟨gh, hgh, hgc⟩ : ∃ gh, ah = some ⟨gh, 0, none⟩ ∧ w.cell? ⟨gh, i, none⟩ = some (.int .i64 (gi H i)) := by
    rcases hM.hom with h | ⟨g, cur, h1, _, _, h4, h5⟩
    · omega
    · exact ⟨g, h1, by rw [cell_of_heap h4]; exact h5 i hi⟩
  subst hgh
  have hz2 := hM.o2
  have hz3 := hM.o3
  have HQ := Lib.hid hQ
  clear hQ
  have hiI : (i : Int) < (H.length : Int) := by omega
  rcases hcase with ⟨he, rfl, rfl⟩ | ⟨he, rfl, rfl⟩
  · obtain ⟨g, hga, ⟨u, hgu⟩, hgf, hb0, hb1, hM2⟩ := hM.setAt hit s
    have hL2 := hL.other (p := ⟨g, i, none⟩) hb1 (.int .i64 s)
    subst hga
    have hb : (s == gi H i) = true := by simpa using he
    have hb' : (s != gi H i) = false := by simpa using he
    have HF := Lib.hid (And.intro hM2 hL2)
    clear he hM hL hM2 hL2 c0 c2 c3 l0 l2 l3
    conv => arg 2; whnf
    go_wp2_with fail
    exact HQ.out _ _ _ _ _ _ _ _ _ _ _ _ _ _ _ _ _ _ _ _ _ _ _ _ HF.out.1 HF.out.2
  · have hb : (s == gi H i) = false := by simpa using he
    have hb' : (s != gi H i) = true := by simpa using he
    obtain ⟨z, hz⟩ : ∃ z : Nat, 2 ^ ls.length = z := ⟨_, rfl⟩
    have hwr := wrap_two (j := ls.length) (by omega)
    have hzl := two_lt (j := ls.length) (by omega)
    rw [hz] at hwr hzl
    have hor := or_nat N0 z hN hzl
    rw [hz] at HQ
    have hM1 : MkW W0 pa bt bl S H (some ⟨gh, 0, none⟩) a ch ca k (wc + 1) ls t (.slice av ls.length cv) (w.setCell ⟨W0.heap.size, 2, none⟩ (.int .i64 ((wc : Int) + 1))) := hM.setWrong (wc + 1)
    have hL1 := hL.other (p := ⟨W0.heap.size, 2, none⟩) (by show W0.heap.size < bl; omega) (.int .i64 ((wc : Int) + 1))
    have HI := Lib.hid hit
    have hgc' : w.cell? ⟨gh, i, none⟩ = some (.int .i64 (gi H i)) := hgc
    clear he hM hL c0 l0 l2 l3 hz hgc
    conv => arg 2; whnf
    go_upto_region 27 with fail
    clear hgc' c1 c2 c3 c4 cf l1 lf
    revert hM1 hL1
    generalize (w.setCell ⟨W0.heap.size, 2, none⟩ (.int .i64 ((wc : Int) + 1))) = w1
    intro hM1 hL1
    obtain ⟨l0, l1, l2, l3, lf⟩ := hL1.cells
    obtain ⟨c0, c1, c2, c3, c4, cf⟩ := hM1.cells
    obtain ⟨g, hga, ⟨u, hgu⟩, hgf, hb0, hb1, hM2⟩ := hM1.setAt HI.out s
    have hL2 := hL1.other (p := ⟨g, i, none⟩) hb1 (.int .i64 s)
    subst hga
    have HF := Lib.hid (And.intro hM2 hL2)
    clear hM1 hL1 hM2 hL2 c0 c1 c2 c3 l0 l2 l3 hwr hor
    go_wp2_with fail
    exact HQ.out _ _ _ _ _ _ _ _ _ _ _ _ _ _ _ _ _ _ _ _ _ _ _ _ HF.out.1 HF.out.2

noncomputable def c21C : Code := (Try.f33.body.bind (fromR 21)).getD .skip

set_option maxRecDepth 100000 in
set_option maxHeartbeats 4000000 in
theorem reg21 {W0 w : World} {pa pb bt bl : Nat} {S : Int} {H : List Int} {ah a : Option Addr} {ch ca k wc : Nat} {ls : List Ln} {t : List Int} {vl : Value} {L : Nat} {Q : Exit → Act → World → Prop} {l : Ln} {k0 : Nat} (hd : Drawer W0 pa pb k0) (hM : MkW W0 pa bt bl S H ah a ch ca k wc ls t vl w) (hL : LnW bl L l vl w) (hk : k ≤ 1000) (hS : 1 ≤ S ∧ S ≤ 6) (hl5 : t.length ≤ 5) (hfree : ∃ f : Int, 0 ≤ f ∧ f < S ∧ lies t f = -1)
    {s1 s4 s5 s6 s7 s10 s11 s12 s13 s14 s15 s16 s17 s18 s19 s20 s21 s22 s23 s24 s25 s26 s27 s28 s29 s30 s31 s32 s33 s34 s35 s36 s37 s38 s39 s40 s41 s42 s43 s44 s45 s46 s47 s48 s49 s50 s51 s52 s53 s54 s55 s56 s57 s58 s59 s60 s61 s62 s63 s64 s65 s66 s67 s68 s69 s70 s71 s72 s73 s74 s75 s76 s77 s78 s79 s80 s81 s82 s83 s84 s85 s86 s87 s88 s89 s90 s91 s92 s93 s94 s95 s96 s97 s98 s99 s100 s101 s102 s103 s104 s105 s106 s107 s108 s109 s110 s111 s112 s113 s114 s115 s116 s117 s118 s119 s120 s121 s122 s123 s124 s125 s126 s127 s128 s129 s130 s131 s132 s133 s134 s135 s136 s137 s138 s139 s140 s141 s142 s143 s144 s145 s146 s147 s148 s149 s150 s151 : Value}
    (hQ : ∀ (x95 x96 x97 x98 x99 x100 x101 x102 x103 x104 x105 x106 x107 : Value) (s : Int) (w' : World), 0 ≤ s → s < S → lies t s = -1 → MkW W0 pa bt bl S H ah a ch ca (k + 1) wc ls t vl w' → LnW bl L l vl w' → Q .normal { tmps := #[.func (.func 77) #[] #[.pointer (some ⟨pa, 0, none⟩), .pointer (some ⟨pb, 0, none⟩)], s1, .pointer (some ⟨W0.heap.size, 0, none⟩), .pointer (some ⟨W0.heap.size + 1, 0, none⟩), s4, s5, s6, s7, .func (.func 76) #[] #[.pointer (some ⟨W0.heap.size + 1, 0, none⟩)], .pointer (some ⟨L, 0, none⟩), .int .i64 s, s11, s12, s13, s14, s15, s16, s17, s18, s19, s20, s21, s22, s23, s24, s25, s26, s27, s28, s29, s30, s31, s32, s33, s34, s35, s36, s37, s38, s39, s40, s41, s42, s43, s44, s45, s46, s47, s48, s49, s50, s51, s52, s53, s54, s55, s56, s57, s58, s59, s60, s61, s62, s63, s64, s65, s66, s67, s68, s69, s70, s71, s72, s73, s74, s75, s76, s77, s78, s79, s80, s81, s82, s83, s84, s85, s86, s87, s88, s89, s90, s91, s92, s93, s94, x95, x96, x97, x98, x99, x100, x101, x102, x103, x104, x105, x106, x107, s108, s109, s110, s111, s112, s113, s114, s115, s116, s117, s118, s119, s120, s121, s122, s123, s124, s125, s126, s127, s128, s129, s130, s131, s132, s133, s134, s135, s136, s137, s138, s139, s140, s141, s142, s143, s144, s145, s146, s147, s148, s149, s150, s151], defers := [] } w') :
    Code.wp Try.prog c21C Q { tmps := #[.func (.func 77) #[] #[.pointer (some ⟨pa, 0, none⟩), .pointer (some ⟨pb, 0, none⟩)], s1, .pointer (some ⟨W0.heap.size, 0, none⟩), .pointer (some ⟨W0.heap.size + 1, 0, none⟩), s4, s5, s6, s7, .func (.func 76) #[] #[.pointer (some ⟨W0.heap.size + 1, 0, none⟩)], .pointer (some ⟨L, 0, none⟩), s10, s11, s12, s13, s14, s15, s16, s17, s18, s19, s20, s21, s22, s23, s24, s25, s26, s27, s28, s29, s30, s31, s32, s33, s34, s35, s36, s37, s38, s39, s40, s41, s42, s43, s44, s45, s46, s47, s48, s49, s50, s51, s52, s53, s54, s55, s56, s57, s58, s59, s60, s61, s62, s63, s64, s65, s66, s67, s68, s69, s70, s71, s72, s73, s74, s75, s76, s77, s78, s79, s80, s81, s82, s83, s84, s85, s86, s87, s88, s89, s90, s91, s92, s93, s94, s95, s96, s97, s98, s99, s100, s101, s102, s103, s104, s105, s106, s107, s108, s109, s110, s111, s112, s113, s114, s115, s116, s117, s118, s119, s120, s121, s122, s123, s124, s125, s126, s127, s128, s129, s130, s131, s132, s133, s134, s135, s136, s137, s138, s139, s140, s141, s142, s143, s144, s145, s146, s147, s148, s149, s150, s151], defers := [] } w := by
  obtain ⟨hS0, hS1⟩ := hS
  obtain ⟨f, hf0, hf1, hf⟩ := hfree
  have HFR := Lib.hid hf
  clear hf
  obtain ⟨c0, c1, c2, c3, c4, cf⟩ := hM.cells
  have HQ := Lib.hid hQ
  clear hQ
  clear c1 c2 c3 cf
  have hp := hM.pabl
  conv => arg 2; whnf
  go_wp2_with fail
  refine (mk_draw hd S ⟨hS0, by omega⟩ hk hM).mono ?_
  rintro e w1 ⟨v, rfl, hv0, hv1, hM1, hs1⟩
  have hL1 := hL.same hs1 hp
  clear hM hL c0 c4
  obtain ⟨c0, c1, c2, c3, c4, cf⟩ := hM1.cells
  have HF := Lib.hid (And.intro hM1 hL1)
  have HLI : Hid (∀ s : Int, Calls Try.prog 76 #[.int .i64 s, .pointer (some ⟨W0.heap.size + 1, 0, none⟩)] w1 fun e w' => e = .returned (.int .i64 (lies t s)) ∧ w1 = w') := fun s => mk_lies s hl5 hM1
  clear hM1 hL1 hs1 c1 c2 c3 cf c4
  go_wp2_with fail
  go_loop [10] (fun q => ∃ s : Int, 0 ≤ s ∧ s < S ∧ q = .int .i64 s) (fun q => (if intOf q ≤ f then f - intOf q else f - intOf q + S).toNat)
  case atStart => exact ⟨v, hv0, hv1, rfl⟩
  case round =>
    obtain ⟨s, hs0, hs1, rfl⟩ := hrel
    by_cases hl : lies t s = -1
    · have hb : (lies t s == -1) = true := by simpa using hl
      have hb' : (lies t s != -1) = false := by simpa using hl
      have HL := Lib.hid hl
      clear hl
      go_wp2_with (go_at_call 76; refine (HLI.out s).mono ?_; rintro e w' ⟨rfl, rfl⟩)
      exact HQ.out _ _ _ _ _ _ _ _ _ _ _ _ _ s _ hs0 hs1 HL.out HF.out.1 HF.out.2
    · have hb : (lies t s == -1) = false := by simpa using hl
      have hb' : (lies t s != -1) = true := by simpa using hl
      have hne : s ≠ f := fun e => hl (e ▸ HFR.out)
      have HL := Lib.hid hl
      clear hl
      have hm0 := Int.emod_nonneg (s + 1) (show S ≠ 0 by omega)
      have hm1 := Int.emod_lt_of_pos (s + 1) (show 0 < S by omega)
      have hm2 : (s + 1) % S = if s + 1 = S then 0 else s + 1 := by
        split
        · rename_i h; rw [h]; simp
        · exact Int.emod_eq_of_lt (by omega) (by omega)
      have HM2 := Lib.hid hm2
      clear hm2
      go_wp2_with (go_at_call 76; refine (HLI.out s).mono ?_; rintro e w' ⟨rfl, rfl⟩)
      go_round
      case rel => exact ⟨(s + 1) % S, hm0, hm1, rfl⟩
      case measure =>
        have hm2 := HM2.out
        simp only [intOf]
        rw [hm2]
        (repeat' split) <;> omega

noncomputable def c19C : Code := (Try.f33.body.bind (fromR 19)).getD .skip

set_option maxRecDepth 100000 in
set_option maxHeartbeats 4000000 in
theorem reg19 {W0 w : World} {pa pb bt bl : Nat} {S : Int} {H : List Int} {ah a : Option Addr} {ch ca k wc : Nat} {ls : List Ln} {t : List Int} {vl : Value} {L : Nat} {Q : Exit → Act → World → Prop} {k0 i : Nat} {bs : List Bool} {p : Int} (hd : Drawer W0 pa pb k0) (hh : HomesOk S H) (hm : Made S H ls t bs) (hM : MkW W0 pa bt bl S H ah a ch ca k wc ls t vl w) (hk : k ≤ 900) (hlen : ls.length ≤ 11) (hwc : wc = wrongs bs) (hL : LnW bl L ⟨1, i, p, 0⟩ vl w) (hi : i < H.length) (hp : 0 ≤ p ∧ p ≤ 7) (hat : gi t i = -1)
    {s1 s5 s6 s7 s10 s11 s12 s13 s14 s15 s16 s17 s18 s19 s20 s21 s22 s23 s24 s25 s26 s27 s28 s29 s30 s31 s32 s33 s34 s35 s36 s37 s38 s39 s40 s41 s42 s43 s44 s45 s46 s47 s48 s49 s50 s51 s52 s53 s54 s55 s56 s57 s58 s59 s60 s61 s62 s63 s64 s65 s66 s67 s68 s69 s70 s71 s72 s73 s74 s75 s76 s77 s78 s79 s80 s81 s82 s83 s84 s85 s86 s87 s88 s89 s90 s91 s92 s93 s94 s95 s96 s97 s98 s99 s100 s101 s102 s103 s104 s105 s106 s107 s108 s109 s110 s111 s112 s113 s114 s115 s116 s117 s118 s119 s120 s121 s122 s123 s124 s125 s126 s127 s128 s129 s130 s131 s132 s133 s134 s135 s136 s137 s138 s139 s140 s141 s142 s143 s144 s145 s146 s147 s148 s149 s150 s151 : Value}
    (hQ : ∀ (x10 x80 x81 x82 x83 x84 x85 x86 x87 x88 x89 x90 x91 x92 x93 x94 x95 x96 x97 x98 x99 x100 x101 x102 x103 x104 x105 x106 x107 x108 x109 x110 x111 x112 x113 x114 x115 x116 x117 x118 x119 x120 x121 x122 x123 x124 x125 x126 x127 x128 x129 x130 : Value) (k' N' wc' : Nat) (b : Bool) (t' : List Int) (l' : Ln) (w' : World), k' ≤ k + 2 → N' = wN (bs ++ [b]) → wc' = wrongs (bs ++ [b]) → MkW W0 pa bt bl S H ah a ch ca k' wc' ls t' vl w' → LnW bl L l' vl w' → Made S H (ls ++ [l']) t' (bs ++ [b]) → Q .normal { tmps := #[.func (.func 77) #[] #[.pointer (some ⟨pa, 0, none⟩), .pointer (some ⟨pb, 0, none⟩)], s1, .pointer (some ⟨W0.heap.size, 0, none⟩), .pointer (some ⟨W0.heap.size + 1, 0, none⟩), .int .i64 (N' : Nat), s5, s6, s7, .func (.func 76) #[] #[.pointer (some ⟨W0.heap.size + 1, 0, none⟩)], .pointer (some ⟨L, 0, none⟩), x10, s11, s12, s13, s14, s15, s16, s17, s18, s19, s20, s21, s22, s23, s24, s25, s26, s27, s28, s29, s30, s31, s32, s33, s34, s35, s36, s37, s38, s39, s40, s41, s42, s43, s44, s45, s46, s47, s48, s49, s50, s51, s52, s53, s54, s55, s56, s57, s58, s59, s60, s61, s62, s63, s64, s65, s66, s67, s68, s69, s70, s71, s72, s73, s74, s75, s76, s77, s78, s79, x80, x81, x82, x83, x84, x85, x86, x87, x88, x89, x90, x91, x92, x93, x94, x95, x96, x97, x98, x99, x100, x101, x102, x103, x104, x105, x106, x107, x108, x109, x110, x111, x112, x113, x114, x115, x116, x117, x118, x119, x120, x121, x122, x123, x124, x125, x126, x127, x128, x129, x130, s131, s132, s133, s134, s135, s136, s137, s138, s139, s140, s141, s142, s143, s144, s145, s146, s147, s148, s149, s150, s151], defers := [] } w') :
    Code.wp Try.prog c19C Q { tmps := #[.func (.func 77) #[] #[.pointer (some ⟨pa, 0, none⟩), .pointer (some ⟨pb, 0, none⟩)], s1, .pointer (some ⟨W0.heap.size, 0, none⟩), .pointer (some ⟨W0.heap.size + 1, 0, none⟩), .int .i64 (wN bs : Nat), s5, s6, s7, .func (.func 76) #[] #[.pointer (some ⟨W0.heap.size + 1, 0, none⟩)], .pointer (some ⟨L, 0, none⟩), s10, s11, s12, s13, s14, s15, s16, s17, s18, s19, s20, s21, s22, s23, s24, s25, s26, s27, s28, s29, s30, s31, s32, s33, s34, s35, s36, s37, s38, s39, s40, s41, s42, s43, s44, s45, s46, s47, s48, s49, s50, s51, s52, s53, s54, s55, s56, s57, s58, s59, s60, s61, s62, s63, s64, s65, s66, s67, s68, s69, s70, s71, s72, s73, s74, s75, s76, s77, s78, s79, s80, s81, s82, s83, s84, s85, s86, s87, s88, s89, s90, s91, s92, s93, s94, s95, s96, s97, s98, s99, s100, s101, s102, s103, s104, s105, s106, s107, s108, s109, s110, s111, s112, s113, s114, s115, s116, s117, s118, s119, s120, s121, s122, s123, s124, s125, s126, s127, s128, s129, s130, s131, s132, s133, s134, s135, s136, s137, s138, s139, s140, s141, s142, s143, s144, s145, s146, s147, s148, s149, s150, s151], defers := [] } w := by
  have hst := hm.st hh
  have htl : t.length = H.length := hst.len
  have hbl := hm.len
  have hh5 := hh.len
  have hS : 1 ≤ S ∧ S ≤ 6 := ⟨hh.lo, hh.hi⟩
  obtain ⟨hp0, hp1⟩ := hp
  have hbw : wrongs bs ≤ 12 := by have := wrongs_le bs; omega
  have hwn : wN bs < 2 ^ 62 := Nat.lt_of_lt_of_le (wN_lt (n := 12) (by omega)) (Nat.pow_le_pow_right (by decide) (by decide))
  have hhi := hh.bd i hi
  have FIN : Hid (∀ (s : Int) (k' : Nat) (w' : World) (y80 y81 y82 y83 y84 y85 y86 y87 y88 y89 y90 y91 y92 y93 y94 y95 y96 y97 y98 y99 y100 y101 y102 y103 y104 y105 y106 y107 : Value), 0 ≤ s → s < S → lies t s = -1 → k' ≤ k + 2 → MkW W0 pa bt bl S H ah a ch ca k' wc ls t vl w' → LnW bl L ⟨1, i, p, 0⟩ vl w' → Code.wp Try.prog c24C Q { tmps := #[.func (.func 77) #[] #[.pointer (some ⟨pa, 0, none⟩), .pointer (some ⟨pb, 0, none⟩)], s1, .pointer (some ⟨W0.heap.size, 0, none⟩), .pointer (some ⟨W0.heap.size + 1, 0, none⟩), .int .i64 (wN bs : Nat), s5, s6, s7, .func (.func 76) #[] #[.pointer (some ⟨W0.heap.size + 1, 0, none⟩)], .pointer (some ⟨L, 0, none⟩), .int .i64 s, s11, s12, s13, s14, s15, s16, s17, s18, s19, s20, s21, s22, s23, s24, s25, s26, s27, s28, s29, s30, s31, s32, s33, s34, s35, s36, s37, s38, s39, s40, s41, s42, s43, s44, s45, s46, s47, s48, s49, s50, s51, s52, s53, s54, s55, s56, s57, s58, s59, s60, s61, s62, s63, s64, s65, s66, s67, s68, s69, s70, s71, s72, s73, s74, s75, s76, s77, s78, s79, y80, y81, y82, y83, y84, y85, y86, y87, y88, y89, y90, y91, y92, y93, y94, y95, y96, y97, y98, y99, y100, y101, y102, y103, y104, y105, y106, y107, s108, s109, s110, s111, s112, s113, s114, s115, s116, s117, s118, s119, s120, s121, s122, s123, s124, s125, s126, s127, s128, s129, s130, s131, s132, s133, s134, s135, s136, s137, s138, s139, s140, s141, s142, s143, s144, s145, s146, s147, s148, s149, s150, s151], defers := [] } w') := by
    intro s k' w' y80 y81 y82 y83 y84 y85 y86 y87 y88 y89 y90 y91 y92 y93 y94 y95 y96 y97 y98 y99 y100 y101 y102 y103 y104 y105 y106 y107 h0 h1 h2 h3 hM' hL'
    have hmm := hm.back hi hp0 hp1 hat h0 h1 h2
    refine reg24 (N := wN (bs ++ [!decide (s = gi H i)])) (wc' := wrongs (bs ++ [!decide (s = gi H i)])) hM' hL' (by omega) (by omega) hi (by omega) ⟨h0, by omega⟩ hwn ?_ ?_
    · by_cases e : s = gi H i
      · exact .inl ⟨e, by rw [wN_snoc]; simp [e], by rw [wrongs_snoc]; simp [e, hwc]⟩
      · exact .inr ⟨e, by rw [wN_snoc, hbl]; simp [e], by rw [wrongs_snoc]; simp [e, hwc]⟩
    · intro x108 x109 x110 x111 x112 x113 x114 x115 x116 x117 x118 x119 x120 x121 x122 x123 x124 x125 x126 x127 x128 x129 x130 w'' hM'' hL''
      exact hQ _ _ _ _ _ _ _ _ _ _ _ _ _ _ _ _ _ _ _ _ _ _ _ _ _ _ _ _ _ _ _ _ _ _ _ _ _ _ _ _ _ _ _ _ _ _ _ _ _ _ _ _ k' _ _ _ _ _ w'' h3 rfl rfl hM'' hL'' hmm
  have hfree : ∃ f : Int, 0 ≤ f ∧ f < S ∧ lies t f = -1 := free_at hS.1 (by have := hh.fits; omega) (by omega) hat
  obtain ⟨l0, l1, l2, l3, lf⟩ := hL.cells
  obtain ⟨c0, c1, c2, c3, c4, cf⟩ := hM.cells
  obtain ⟨gh, hgh, hgc⟩ : ∃ gh, ah = some ⟨gh, 0, none⟩ ∧ w.cell? ⟨gh, i, none⟩ = some (.int .i64 (gi H i)) := by
    rcases hM.hom with h | ⟨g, cur, h1, _, _, h4, h5⟩
    · omega
    · exact ⟨g, h1, by rw [cell_of_heap h4]; exact h5 i hi⟩
  subst hgh
  have HP := Lib.hid (And.intro hm (And.intro hst hwc))
  have HAT := Lib.hid hat
  have hpl := hM.pabl
  have hiI : (i : Int) < (H.length : Int) := by omega
  obtain ⟨hm0, hh0⟩ := hhi
  clear hQ hm hst hwc hat htl hbl c0 c2 c3 c4 cf l0 l2 l3 lf
  have HLI : Hid (∀ s : Int, Calls Try.prog 76 #[.int .i64 s, .pointer (some ⟨W0.heap.size + 1, 0, none⟩)] w fun e w' => e = .returned (.int .i64 (lies t s)) ∧ w = w') := fun s => mk_lies s (by have := HP.out.2.1.len; show t.length ≤ 5; have h2 : t.length = H.length := this; omega) hM
  have ht5 : t.length ≤ 5 := by have h2 : t.length = H.length := HP.out.2.1.len; omega
  conv => arg 2; whnf
  refine wp_seq_hid ?_
  intro K1 HK1
  go_wp2_with fail
  refine HK1.out _ _ ?_
  clear c1 l1 hgc
  refine wp_seq_hid ?_
  intro K2 HK2
  refine wp_seq_hid ?_
  intro K3 HK3
  by_cases hlh : lies t (gi H i) = -1
  · have hb : (lies t (gi H i) == -1) = true := by simpa using hlh
    have hb' : (lies t (gi H i) != -1) = false := by simpa using hlh
    have HLH := Lib.hid hlh
    clear hlh
    go_wp2_with ((go_at_call 76; refine (HLI.out (gi H i)).mono ?_; rintro e w' ⟨rfl, rfl⟩))
    refine (mk_draw hd 3 (by omega) (by omega) hM).mono ?_
    rintro e w1 ⟨v, rfl, hv0, hv1, hM1, hs1⟩
    have hL1 := hL.same hs1 hpl
    have HS1 := Lib.hid hs1
    clear hs1
    by_cases hv : v = 0
    · subst hv
      go_wp2_with fail
      refine HK3.out _ _ ?_
      refine wp_cond_true rfl ?_
      refine reg21 hd hM1 hL1 (by omega) hS ht5 hfree ?_
      intro x95 x96 x97 x98 x99 x100 x101 x102 x103 x104 x105 x106 x107 s w' h0 h1 h2 hM' hL'
      exact HK2.out _ _ (FIN.out _ (k + 1 + 1) _ _ _ _ _ _ _ _ _ _ _ _ _ _ _ _ _ _ _ _ _ _ _ _ _ _ _ _ _ h0 h1 h2 (by omega) hM' hL')
    · have hvb : (v == 0) = false := by simpa using hv
      have HV := Lib.hid hv
      clear hv
      go_wp2_with fail
      refine HK3.out _ _ ?_
      refine wp_cond_false rfl ?_
      refine wp_skip ?_
      exact HK2.out _ _ (FIN.out _ (k + 1) _ _ _ _ _ _ _ _ _ _ _ _ _ _ _ _ _ _ _ _ _ _ _ _ _ _ _ _ _ hm0 hh0 HLH.out (by omega) hM1 hL1)
  · have hb : (lies t (gi H i) == -1) = false := by simpa using hlh
    have hb' : (lies t (gi H i) != -1) = true := by simpa using hlh
    have HLH := Lib.hid hlh
    clear hlh
    go_wp2_with ((go_at_call 76; refine (HLI.out (gi H i)).mono ?_; rintro e w' ⟨rfl, rfl⟩))
    all_goals try refine ⟨fun _ _ => trivial, ?_⟩
    all_goals try go_wp2_with fail
    refine HK3.out _ _ ?_
    refine wp_cond_true rfl ?_
    refine reg21 hd hM hL (by omega) hS ht5 hfree ?_
    intro x95 x96 x97 x98 x99 x100 x101 x102 x103 x104 x105 x106 x107 s w' h0 h1 h2 hM' hL'
    exact HK2.out _ _ (FIN.out _ (k + 1) _ _ _ _ _ _ _ _ _ _ _ _ _ _ _ _ _ _ _ _ _ _ _ _ _ _ _ _ _ h0 h1 h2 (by omega) hM' hL')

noncomputable def c17C : Code := (Try.f33.body.bind (fromR 17)).getD .skip

set_option maxRecDepth 100000 in
set_option maxHeartbeats 4000000 in
theorem reg17 {W0 w : World} {pa pb bt bl : Nat} {S : Int} {H : List Int} {ah a : Option Addr} {ch ca k wc : Nat} {ls : List Ln} {t : List Int} {vl : Value} {L : Nat} {Q : Exit → Act → World → Prop} {k0 i : Nat} {bs : List Bool} {p : Int} (hd : Drawer W0 pa pb k0) (hh : HomesOk S H) (hm : Made S H ls t bs) (hM : MkW W0 pa bt bl S H ah a ch ca k wc ls t vl w) (hk : k ≤ 900) (hlen : ls.length ≤ 11) (hwc : wc = wrongs bs) (hL : LnW bl L ⟨0, i, p, 0⟩ vl w) (hi : i < H.length) (hp : 0 ≤ p ∧ p ≤ 7)
    {s1 s5 s6 s7 s10 s11 s12 s13 s14 s15 s16 s17 s18 s19 s20 s21 s22 s23 s24 s25 s26 s27 s28 s29 s30 s31 s32 s33 s34 s35 s36 s37 s38 s39 s40 s41 s42 s43 s44 s45 s46 s47 s48 s49 s50 s51 s52 s53 s54 s55 s56 s57 s58 s59 s60 s61 s62 s63 s64 s65 s66 s67 s68 s69 s70 s71 s72 s73 s74 s75 s76 s77 s78 s79 s80 s81 s82 s83 s84 s85 s86 s87 s88 s89 s90 s91 s92 s93 s94 s95 s96 s97 s98 s99 s100 s101 s102 s103 s104 s105 s106 s107 s108 s109 s110 s111 s112 s113 s114 s115 s116 s117 s118 s119 s120 s121 s122 s123 s124 s125 s126 s127 s128 s129 s130 s131 s132 s133 s134 s135 s136 s137 s138 s139 s140 s141 s142 s143 s144 s145 s146 s147 s148 s149 s150 s151 : Value}
    (hQ : ∀ (x10 x73 x74 x75 x76 x77 x78 x79 x80 x81 x82 x83 x84 x85 x86 x87 x88 x89 x90 x91 x92 x93 x94 x95 x96 x97 x98 x99 x100 x101 x102 x103 x104 x105 x106 x107 x108 x109 x110 x111 x112 x113 x114 x115 x116 x117 x118 x119 x120 x121 x122 x123 x124 x125 x126 x127 x128 x129 x130 x131 x132 x133 x134 : Value) (k' N' wc' : Nat) (b : Bool) (t' : List Int) (l' : Ln) (w' : World), k' ≤ k + 2 → N' = wN (bs ++ [b]) → wc' = wrongs (bs ++ [b]) → MkW W0 pa bt bl S H ah a ch ca k' wc' ls t' vl w' → LnW bl L l' vl w' → Made S H (ls ++ [l']) t' (bs ++ [b]) → Q .normal { tmps := #[.func (.func 77) #[] #[.pointer (some ⟨pa, 0, none⟩), .pointer (some ⟨pb, 0, none⟩)], s1, .pointer (some ⟨W0.heap.size, 0, none⟩), .pointer (some ⟨W0.heap.size + 1, 0, none⟩), .int .i64 (N' : Nat), s5, s6, s7, .func (.func 76) #[] #[.pointer (some ⟨W0.heap.size + 1, 0, none⟩)], .pointer (some ⟨L, 0, none⟩), x10, s11, s12, s13, s14, s15, s16, s17, s18, s19, s20, s21, s22, s23, s24, s25, s26, s27, s28, s29, s30, s31, s32, s33, s34, s35, s36, s37, s38, s39, s40, s41, s42, s43, s44, s45, s46, s47, s48, s49, s50, s51, s52, s53, s54, s55, s56, s57, s58, s59, s60, s61, s62, s63, s64, s65, s66, s67, s68, s69, s70, s71, s72, x73, x74, x75, x76, x77, x78, x79, x80, x81, x82, x83, x84, x85, x86, x87, x88, x89, x90, x91, x92, x93, x94, x95, x96, x97, x98, x99, x100, x101, x102, x103, x104, x105, x106, x107, x108, x109, x110, x111, x112, x113, x114, x115, x116, x117, x118, x119, x120, x121, x122, x123, x124, x125, x126, x127, x128, x129, x130, x131, x132, x133, x134, s135, s136, s137, s138, s139, s140, s141, s142, s143, s144, s145, s146, s147, s148, s149, s150, s151], defers := [] } w') :
    Code.wp Try.prog c17C Q { tmps := #[.func (.func 77) #[] #[.pointer (some ⟨pa, 0, none⟩), .pointer (some ⟨pb, 0, none⟩)], s1, .pointer (some ⟨W0.heap.size, 0, none⟩), .pointer (some ⟨W0.heap.size + 1, 0, none⟩), .int .i64 (wN bs : Nat), s5, s6, s7, .func (.func 76) #[] #[.pointer (some ⟨W0.heap.size + 1, 0, none⟩)], .pointer (some ⟨L, 0, none⟩), s10, s11, s12, s13, s14, s15, s16, s17, s18, s19, s20, s21, s22, s23, s24, s25, s26, s27, s28, s29, s30, s31, s32, s33, s34, s35, s36, s37, s38, s39, s40, s41, s42, s43, s44, s45, s46, s47, s48, s49, s50, s51, s52, s53, s54, s55, s56, s57, s58, s59, s60, s61, s62, s63, s64, s65, s66, s67, s68, s69, s70, s71, s72, s73, s74, s75, s76, s77, s78, s79, s80, s81, s82, s83, s84, s85, s86, s87, s88, s89, s90, s91, s92, s93, s94, s95, s96, s97, s98, s99, s100, s101, s102, s103, s104, s105, s106, s107, s108, s109, s110, s111, s112, s113, s114, s115, s116, s117, s118, s119, s120, s121, s122, s123, s124, s125, s126, s127, s128, s129, s130, s131, s132, s133, s134, s135, s136, s137, s138, s139, s140, s141, s142, s143, s144, s145, s146, s147, s148, s149, s150, s151], defers := [] } w := by
  have htl : t.length = H.length := (hm.st hh).len
  obtain ⟨l0, l1, l2, l3, lf⟩ := hL.cells
  obtain ⟨c0, c1, c2, c3, c4, cf⟩ := hM.cells
  have hit : i < t.length := by omega
  have hiI : (i : Int) < (t.length : Int) := by omega
  have HQ := Lib.hid hQ
  clear hQ
  by_cases hat : gi t i = -1
  · have hb : (gi t i == -1) = true := by simpa using hat
    obtain ⟨g, hga, hgc⟩ : ∃ g, a = some ⟨g, 0, none⟩ ∧ w.cell? ⟨g, i, none⟩ = some (.int .i64 (gi t i)) := by
      rcases hM.att with h | ⟨g, cur, h1, _, _, h4, h5⟩
      · omega
      · exact ⟨g, h1, by rw [cell_of_heap h4]; exact h5 i hit⟩
    subst hga
    have hM1 := hM.setL (p := ⟨L, 0, none⟩) hL.hi hL.ne (.int .i64 1)
    have hL1 : LnW bl L ⟨1, i, p, 0⟩ vl (w.setCell ⟨L, 0, none⟩ (.int .i64 1)) := ⟨heap_setCell_at hL.blk _, hL.hi, hL.ne⟩
    have HF := Lib.hid (And.intro hM1 hL1)
    have HM := Lib.hid (And.intro hm hwc)
    have HAT := Lib.hid hat
    clear hat hM hL hM1 hL1 htl hm hwc c0 c1 c2 c3 cf
    conv => arg 2; whnf
    refine wp_seq_hid ?_
    intro K1 HK1
    go_wp2_with fail
    refine HK1.out _ _ ?_
    refine wp_cond_true rfl ?_
    refine wp_seq_hid ?_
    intro K2 HK2
    go_wp2_with fail
    refine HK2.out _ _ ?_
    refine reg19 hd hh HM.out.1 HF.out.1 hk hlen HM.out.2 HF.out.2 hi hp HAT.out ?_
    intro x10 x80 x81 x82 x83 x84 x85 x86 x87 x88 x89 x90 x91 x92 x93 x94 x95 x96 x97 x98 x99 x100 x101 x102 x103 x104 x105 x106 x107 x108 x109 x110 x111 x112 x113 x114 x115 x116 x117 x118 x119 x120 x121 x122 x123 x124 x125 x126 x127 x128 x129 x130 k' N' wc' b t' l' w' h1 h2 h3 h4 h5 h6
    exact HQ.out _ _ _ _ _ _ _ _ _ _ _ _ _ _ _ _ _ _ _ _ _ _ _ _ _ _ _ _ _ _ _ _ _ _ _ _ _ _ _ _ _ _ _ _ _ _ _ _ _ _ _ _ _ _ _ _ _ _ _ _ _ _ _ k' _ _ _ _ _ _ h1 h2 h3 h4 h5 h6
  · have hb : (gi t i == -1) = false := by simpa using hat
    obtain ⟨g, hga, ⟨u, hgu⟩, hgf, hb0, hb1, hM2⟩ := hM.setAt hit (-1)
    obtain ⟨g', hga', hgc⟩ : ∃ g, a = some ⟨g, 0, none⟩ ∧ w.cell? ⟨g, i, none⟩ = some (.int .i64 (gi t i)) := by
      rcases hM.att with h | ⟨g, cur, h1, _, _, h4, h5⟩
      · omega
      · exact ⟨g, h1, by rw [cell_of_heap h4]; exact h5 i hit⟩
    subst hga
    obtain rfl : g = g' := by cases hga'; rfl
    have hL2 := hL.other (p := ⟨g, i, none⟩) hb1 (.int .i64 (-1))
    have hmm := hm.take hi hp.1 hp.2 hat
    have HF := Lib.hid (And.intro hM2 (And.intro hL2 hmm))
    have HW : Hid (wN bs = wN (bs ++ [false]) ∧ wc = wrongs (bs ++ [false])) := ⟨by rw [wN_snoc]; rfl, by rw [wrongs_snoc, hwc]; rfl⟩
    clear hat hM hL hM2 hL2 htl hm hwc c0 c1 c2 c3 cf hga' hmm hgu
    conv => arg 2; whnf
    refine wp_seq_hid ?_
    intro K1 HK1
    go_wp2_with fail
    refine HK1.out _ _ ?_
    refine wp_cond_false rfl ?_
    go_wp2_with fail
    exact HQ.out _ _ _ _ _ _ _ _ _ _ _ _ _ _ _ _ _ _ _ _ _ _ _ _ _ _ _ _ _ _ _ _ _ _ _ _ _ _ _ _ _ _ _ _ _ _ _ _ _ _ _ _ _ _ _ _ _ _ _ _ _ _ _ k _ _ _ _ _ _ (by omega) HW.out.1 HW.out.2 HF.out.1 HF.out.2.1 HF.out.2.2

noncomputable def c15C : Code := (Try.f33.body.bind (fromR 15)).getD .skip

set_option maxRecDepth 100000 in
set_option maxHeartbeats 4000000 in
theorem reg15 {W0 w : World} {pa pb bt bl : Nat} {S : Int} {H : List Int} {ah a : Option Addr} {ch ca k wc : Nat} {ls : List Ln} {t : List Int} {vl : Value} {L : Nat} {Q : Exit → Act → World → Prop} {k0 : Nat} {bs : List Bool} (hd : Drawer W0 pa pb k0) (hh : HomesOk S H) (hm : Made S H ls t bs) (hM : MkW W0 pa bt bl S H ah a ch ca k wc ls t vl w) (hk : k ≤ 800) (hlen : ls.length ≤ 11) (hwc : wc = wrongs bs) {s0 : Int} (hL : LnW bl L ⟨2, lies t s0, 0, s0⟩ vl w) (hs : 0 ≤ s0 ∧ s0 < S)
    {s1 s6 s7 s10 s11 s12 s13 s14 s15 s16 s17 s18 s19 s20 s21 s22 s23 s24 s25 s26 s27 s28 s29 s30 s31 s32 s33 s34 s35 s36 s37 s38 s39 s40 s41 s42 s43 s44 s45 s46 s47 s48 s49 s50 s51 s52 s53 s54 s55 s56 s57 s58 s59 s60 s61 s62 s63 s64 s65 s66 s67 s68 s69 s70 s71 s72 s73 s74 s75 s76 s77 s78 s79 s80 s81 s82 s83 s84 s85 s86 s87 s88 s89 s90 s91 s92 s93 s94 s95 s96 s97 s98 s99 s100 s101 s102 s103 s104 s105 s106 s107 s108 s109 s110 s111 s112 s113 s114 s115 s116 s117 s118 s119 s120 s121 s122 s123 s124 s125 s126 s127 s128 s129 s130 s131 s132 s133 s134 s135 s136 s137 s138 s139 s140 s141 s142 s143 s144 s145 s146 s147 s148 s149 s150 s151 : Value}
    (hQ : ∀ (x10 x60 x61 x62 x63 x64 x65 x66 x67 x68 x69 x70 x71 x72 x73 x74 x75 x76 x77 x78 x79 x80 x81 x82 x83 x84 x85 x86 x87 x88 x89 x90 x91 x92 x93 x94 x95 x96 x97 x98 x99 x100 x101 x102 x103 x104 x105 x106 x107 x108 x109 x110 x111 x112 x113 x114 x115 x116 x117 x118 x119 x120 x121 x122 x123 x124 x125 x126 x127 x128 x129 x130 x131 x132 x133 x134 x135 x136 x137 x138 x139 x140 : Value) (k' N' wc' : Nat) (ls' : List Ln) (bs' : List Bool) (t' : List Int) (v' : Value) (w' : World), k' ≤ k + 5 → N' = wN bs' → wc' = wrongs bs' → ls'.length = ls.length + 1 → MkW W0 pa bt bl S H ah a ch ca k' wc' ls' t' v' w' → Made S H ls' t' bs' → Q .normal { tmps := #[.func (.func 77) #[] #[.pointer (some ⟨pa, 0, none⟩), .pointer (some ⟨pb, 0, none⟩)], s1, .pointer (some ⟨W0.heap.size, 0, none⟩), .pointer (some ⟨W0.heap.size + 1, 0, none⟩), .int .i64 (N' : Nat), .int .i64 (H.length : Nat), s6, s7, .func (.func 76) #[] #[.pointer (some ⟨W0.heap.size + 1, 0, none⟩)], .pointer (some ⟨L, 0, none⟩), x10, s11, s12, s13, s14, s15, s16, s17, s18, s19, s20, s21, s22, s23, s24, s25, s26, s27, s28, s29, s30, s31, s32, s33, s34, s35, s36, s37, s38, s39, s40, s41, s42, s43, s44, s45, s46, s47, s48, s49, s50, s51, s52, s53, s54, s55, s56, s57, s58, s59, x60, x61, x62, x63, x64, x65, x66, x67, x68, x69, x70, x71, x72, x73, x74, x75, x76, x77, x78, x79, x80, x81, x82, x83, x84, x85, x86, x87, x88, x89, x90, x91, x92, x93, x94, x95, x96, x97, x98, x99, x100, x101, x102, x103, x104, x105, x106, x107, x108, x109, x110, x111, x112, x113, x114, x115, x116, x117, x118, x119, x120, x121, x122, x123, x124, x125, x126, x127, x128, x129, x130, x131, x132, x133, x134, x135, x136, x137, x138, x139, x140, s141, s142, s143, s144, s145, s146, s147, s148, s149, s150, s151], defers := [] } w') :
    Code.wp Try.prog c15C Q { tmps := #[.func (.func 77) #[] #[.pointer (some ⟨pa, 0, none⟩), .pointer (some ⟨pb, 0, none⟩)], s1, .pointer (some ⟨W0.heap.size, 0, none⟩), .pointer (some ⟨W0.heap.size + 1, 0, none⟩), .int .i64 (wN bs : Nat), .int .i64 (H.length : Nat), s6, s7, .func (.func 76) #[] #[.pointer (some ⟨W0.heap.size + 1, 0, none⟩)], .pointer (some ⟨L, 0, none⟩), s10, s11, s12, s13, s14, s15, s16, s17, s18, s19, s20, s21, s22, s23, s24, s25, s26, s27, s28, s29, s30, s31, s32, s33, s34, s35, s36, s37, s38, s39, s40, s41, s42, s43, s44, s45, s46, s47, s48, s49, s50, s51, s52, s53, s54, s55, s56, s57, s58, s59, s60, s61, s62, s63, s64, s65, s66, s67, s68, s69, s70, s71, s72, s73, s74, s75, s76, s77, s78, s79, s80, s81, s82, s83, s84, s85, s86, s87, s88, s89, s90, s91, s92, s93, s94, s95, s96, s97, s98, s99, s100, s101, s102, s103, s104, s105, s106, s107, s108, s109, s110, s111, s112, s113, s114, s115, s116, s117, s118, s119, s120, s121, s122, s123, s124, s125, s126, s127, s128, s129, s130, s131, s132, s133, s134, s135, s136, s137, s138, s139, s140, s141, s142, s143, s144, s145, s146, s147, s148, s149, s150, s151], defers := [] } w := by
  have hh5 := hh.len
  have FIN : Hid (∀ (k' N' wc' : Nat) (b : Bool) (t' : List Int) (l' : Ln) (w' : World) (y10 y60 y61 y62 y63 y64 y65 y66 y67 y68 y69 y70 y71 y72 y73 y74 y75 y76 y77 y78 y79 y80 y81 y82 y83 y84 y85 y86 y87 y88 y89 y90 y91 y92 y93 y94 y95 y96 y97 y98 y99 y100 y101 y102 y103 y104 y105 y106 y107 y108 y109 y110 y111 y112 y113 y114 y115 y116 y117 y118 y119 y120 y121 y122 y123 y124 y125 y126 y127 y128 y129 y130 y131 y132 y133 y134 : Value), k' ≤ k + 5 → N' = wN (bs ++ [b]) → wc' = wrongs (bs ++ [b]) → MkW W0 pa bt bl S H ah a ch ca k' wc' ls t' vl w' → LnW bl L l' vl w' → Made S H (ls ++ [l']) t' (bs ++ [b]) → Code.wp Try.prog c29C Q { tmps := #[.func (.func 77) #[] #[.pointer (some ⟨pa, 0, none⟩), .pointer (some ⟨pb, 0, none⟩)], s1, .pointer (some ⟨W0.heap.size, 0, none⟩), .pointer (some ⟨W0.heap.size + 1, 0, none⟩), .int .i64 (N' : Nat), .int .i64 (H.length : Nat), s6, s7, .func (.func 76) #[] #[.pointer (some ⟨W0.heap.size + 1, 0, none⟩)], .pointer (some ⟨L, 0, none⟩), y10, s11, s12, s13, s14, s15, s16, s17, s18, s19, s20, s21, s22, s23, s24, s25, s26, s27, s28, s29, s30, s31, s32, s33, s34, s35, s36, s37, s38, s39, s40, s41, s42, s43, s44, s45, s46, s47, s48, s49, s50, s51, s52, s53, s54, s55, s56, s57, s58, s59, y60, y61, y62, y63, y64, y65, y66, y67, y68, y69, y70, y71, y72, y73, y74, y75, y76, y77, y78, y79, y80, y81, y82, y83, y84, y85, y86, y87, y88, y89, y90, y91, y92, y93, y94, y95, y96, y97, y98, y99, y100, y101, y102, y103, y104, y105, y106, y107, y108, y109, y110, y111, y112, y113, y114, y115, y116, y117, y118, y119, y120, y121, y122, y123, y124, y125, y126, y127, y128, y129, y130, y131, y132, y133, y134, s135, s136, s137, s138, s139, s140, s141, s142, s143, s144, s145, s146, s147, s148, s149, s150, s151], defers := [] } w') := by
    intro k' N' wc' b t' l' w' y10 y60 y61 y62 y63 y64 y65 y66 y67 y68 y69 y70 y71 y72 y73 y74 y75 y76 y77 y78 y79 y80 y81 y82 y83 y84 y85 y86 y87 y88 y89 y90 y91 y92 y93 y94 y95 y96 y97 y98 y99 y100 y101 y102 y103 y104 y105 y106 y107 y108 y109 y110 y111 y112 y113 y114 y115 y116 y117 y118 y119 y120 y121 y122 y123 y124 y125 y126 y127 y128 y129 y130 y131 y132 y133 y134 h1 h2 h3 hM' hL' h6
    refine reg29 hM' hL' (by omega) ?_
    intro x135 x136 x137 x138 x139 x140 v'' w'' hM''
    exact hQ _ _ _ _ _ _ _ _ _ _ _ _ _ _ _ _ _ _ _ _ _ _ _ _ _ _ _ _ _ _ _ _ _ _ _ _ _ _ _ _ _ _ _ _ _ _ _ _ _ _ _ _ _ _ _ _ _ _ _ _ _ _ _ _ _ _ _ _ _ _ _ _ _ _ _ _ _ _ _ _ _ _ k' _ _ _ _ _ _ w'' h1 h2 h3 (by simp) hM'' h6
  have HW : Hid (wN bs = wN (bs ++ [false]) ∧ wc = wrongs (bs ++ [false]) ∧ Made S H (ls ++ [⟨2, lies t s0, 0, s0⟩]) t (bs ++ [false])) := ⟨by rw [wN_snoc]; rfl, by rw [wrongs_snoc, hwc]; rfl, hm.look hh hs.1 hs.2⟩
  have HM := Lib.hid (And.intro hm hwc)
  have hpl := hM.pabl
  clear hQ hm hwc
  conv => arg 2; whnf
  refine wp_seq_hid ?_
  intro K1 HK1
  refine wp_seq_hid ?_
  intro K2 HK2
  by_cases hn : H.length = 0
  · have hn1 : decide (0 < H.length) = false := by simp [hn]
    have hn2 : decide ((0 : Int) < (H.length : Int)) = false := by simp [hn]
    have HN := Lib.hid hn
    clear hn
    go_wp2_with fail
    all_goals try refine ⟨fun _ _ => trivial, ?_⟩
    all_goals try go_wp2_with fail
    refine HK2.out _ _ ?_
    refine wp_cond_false rfl ?_
    refine wp_skip ?_
    exact HK1.out _ _ (FIN.out k _ _ _ _ _ _ _ _ _ _ _ _ _ _ _ _ _ _ _ _ _ _ _ _ _ _ _ _ _ _ _ _ _ _ _ _ _ _ _ _ _ _ _ _ _ _ _ _ _ _ _ _ _ _ _ _ _ _ _ _ _ _ _ _ _ _ _ _ _ _ _ _ _ _ _ _ _ _ _ _ _ _ (by omega) HW.out.1 HW.out.2.1 hM hL HW.out.2.2)
  · have hn1 : decide (0 < H.length) = true := by simp; omega
    have hn2 : decide ((0 : Int) < (H.length : Int)) = true := by simp; omega
    have hn3 : 0 < H.length := by omega
    clear hn
    go_wp2_with fail
    refine (mk_draw hd 5 (by omega) (by omega) hM).mono ?_
    rintro e w1 ⟨v, rfl, hv0, hv1, hM1, hs1⟩
    have hL1 := hL.same hs1 hpl
    clear hs1 hM hL
    by_cases hv : 0 < v
    · have hvb : decide (0 < v) = true := by simpa using hv
      go_wp2_with fail
      refine HK2.out _ _ ?_
      refine wp_cond_true rfl ?_
      refine wp_seq_hid ?_
      intro K3 HK3
      go_wp2_with fail
      refine (mk_draw hd (H.length : Int) (by omega) (by omega) hM1).mono ?_
      rintro e w2 ⟨i, rfl, hi0, hi1, hM2, hs2⟩
      have hL2 := hL1.same hs2 hpl
      obtain ⟨i, rfl⟩ := Int.eq_ofNat_of_zero_le hi0
      clear hs2 hM1 hL1 hi0
      go_wp2_with fail
      refine (mk_draw hd 3 (by omega) (by omega) hM2).mono ?_
      rintro e w3 ⟨p, rfl, hp0, hp1, hM3, hs3⟩
      have hL3 := hL2.same hs3 hpl
      clear hs3 hM2 hL2
      obtain ⟨l0, l1, l2, l3, lf⟩ := hL3.cells
      have hM4 := (((hM3.setL (p := ⟨L, 0, none⟩) hL3.hi hL3.ne (.int .i64 0)).setL (p := ⟨L, 1, none⟩) hL3.hi hL3.ne (.int .i64 i)).setL (p := ⟨L, 2, none⟩) hL3.hi hL3.ne (.int .i64 p)).setL (p := ⟨L, 3, none⟩) hL3.hi hL3.ne (.int .i64 0)
      have hL4 : LnW bl L ⟨0, i, p, 0⟩ vl ((((w3.setCell ⟨L, 0, none⟩ (.int .i64 0)).setCell ⟨L, 1, none⟩ (.int .i64 i)).setCell ⟨L, 2, none⟩ (.int .i64 p)).setCell ⟨L, 3, none⟩ (.int .i64 0)) :=
        ⟨heap_setCell_at (heap_setCell_at (heap_setCell_at (heap_setCell_at hL3.blk _) _) _) _, hL3.hi, hL3.ne⟩
      have HF := Lib.hid (And.intro hM4 hL4)
      clear hM3 hL3 hM4 hL4
      go_wp2_with fail
      refine HK3.out _ _ ?_
      refine reg17 hd hh HM.out.1 HF.out.1 (by omega) hlen HM.out.2 HF.out.2 (by omega) ⟨hp0, by omega⟩ ?_
      intro x10 x73 x74 x75 x76 x77 x78 x79 x80 x81 x82 x83 x84 x85 x86 x87 x88 x89 x90 x91 x92 x93 x94 x95 x96 x97 x98 x99 x100 x101 x102 x103 x104 x105 x106 x107 x108 x109 x110 x111 x112 x113 x114 x115 x116 x117 x118 x119 x120 x121 x122 x123 x124 x125 x126 x127 x128 x129 x130 x131 x132 x133 x134 k' N' wc' b t' l' w' h1 h2 h3 h4 h5 h6
      exact HK1.out _ _ (FIN.out k' _ _ _ _ _ _ _ _ _ _ _ _ _ _ _ _ _ _ _ _ _ _ _ _ _ _ _ _ _ _ _ _ _ _ _ _ _ _ _ _ _ _ _ _ _ _ _ _ _ _ _ _ _ _ _ _ _ _ _ _ _ _ _ _ _ _ _ _ _ _ _ _ _ _ _ _ _ _ _ _ _ _ (by omega) h2 h3 h4 h5 h6)
    · have hvb : decide (0 < v) = false := by simpa using hv
      go_wp2_with fail
      refine HK2.out _ _ ?_
      refine wp_cond_false rfl ?_
      refine wp_skip ?_
      exact HK1.out _ _ (FIN.out (k + 1) _ _ _ _ _ _ _ _ _ _ _ _ _ _ _ _ _ _ _ _ _ _ _ _ _ _ _ _ _ _ _ _ _ _ _ _ _ _ _ _ _ _ _ _ _ _ _ _ _ _ _ _ _ _ _ _ _ _ _ _ _ _ _ _ _ _ _ _ _ _ _ _ _ _ _ _ _ _ _ _ _ _ (by omega) HW.out.1 HW.out.2.1 hM1 hL1 HW.out.2.2)

noncomputable def c13C : Code := (Try.f33.body.bind (fromR 13)).getD .skip

set_option maxRecDepth 100000 in
set_option maxHeartbeats 4000000 in
theorem reg13 {W0 w : World} {pa pb bt bl : Nat} {S : Int} {H : List Int} {ah a : Option Addr} {ch ca k wc : Nat} {ls : List Ln} {t : List Int} {vl : Value} {L : Nat} {Q : Exit → Act → World → Prop} {k0 : Nat} {bs : List Bool} (hd : Drawer W0 pa pb k0) (hh : HomesOk S H) (hm : Made S H ls t bs) (hM : MkW W0 pa bt bl S H ah a ch ca k wc ls t vl w) (hk : k ≤ 700) (hlen : ls.length ≤ 11) (hwc : wc = wrongs bs)
    {s1 s6 s7 s9 s10 s11 s12 s13 s14 s15 s16 s17 s18 s19 s20 s21 s22 s23 s24 s25 s26 s27 s28 s29 s30 s31 s32 s33 s34 s35 s36 s37 s38 s39 s40 s41 s42 s43 s44 s45 s46 s47 s48 s49 s50 s51 s52 s53 s54 s55 s56 s57 s58 s59 s60 s61 s62 s63 s64 s65 s66 s67 s68 s69 s70 s71 s72 s73 s74 s75 s76 s77 s78 s79 s80 s81 s82 s83 s84 s85 s86 s87 s88 s89 s90 s91 s92 s93 s94 s95 s96 s97 s98 s99 s100 s101 s102 s103 s104 s105 s106 s107 s108 s109 s110 s111 s112 s113 s114 s115 s116 s117 s118 s119 s120 s121 s122 s123 s124 s125 s126 s127 s128 s129 s130 s131 s132 s133 s134 s135 s136 s137 s138 s139 s140 s141 s142 s143 s144 s145 s146 s147 s148 s149 s150 s151 : Value}
    (hQ : ∀ (x9 x10 x50 x51 x52 x53 x54 x55 x56 x57 x58 x59 x60 x61 x62 x63 x64 x65 x66 x67 x68 x69 x70 x71 x72 x73 x74 x75 x76 x77 x78 x79 x80 x81 x82 x83 x84 x85 x86 x87 x88 x89 x90 x91 x92 x93 x94 x95 x96 x97 x98 x99 x100 x101 x102 x103 x104 x105 x106 x107 x108 x109 x110 x111 x112 x113 x114 x115 x116 x117 x118 x119 x120 x121 x122 x123 x124 x125 x126 x127 x128 x129 x130 x131 x132 x133 x134 x135 x136 x137 x138 x139 x140 : Value) (k' N' wc' : Nat) (ls' : List Ln) (bs' : List Bool) (t' : List Int) (v' : Value) (w' : World), k' ≤ k + 6 → N' = wN bs' → wc' = wrongs bs' → ls'.length = ls.length + 1 → MkW W0 pa bt bl S H ah a ch ca k' wc' ls' t' v' w' → Made S H ls' t' bs' → Q .normal { tmps := #[.func (.func 77) #[] #[.pointer (some ⟨pa, 0, none⟩), .pointer (some ⟨pb, 0, none⟩)], s1, .pointer (some ⟨W0.heap.size, 0, none⟩), .pointer (some ⟨W0.heap.size + 1, 0, none⟩), .int .i64 (N' : Nat), .int .i64 (H.length : Nat), s6, s7, .func (.func 76) #[] #[.pointer (some ⟨W0.heap.size + 1, 0, none⟩)], x9, x10, s11, s12, s13, s14, s15, s16, s17, s18, s19, s20, s21, s22, s23, s24, s25, s26, s27, s28, s29, s30, s31, s32, s33, s34, s35, s36, s37, s38, s39, s40, s41, s42, s43, s44, s45, s46, s47, s48, s49, x50, x51, x52, x53, x54, x55, x56, x57, x58, x59, x60, x61, x62, x63, x64, x65, x66, x67, x68, x69, x70, x71, x72, x73, x74, x75, x76, x77, x78, x79, x80, x81, x82, x83, x84, x85, x86, x87, x88, x89, x90, x91, x92, x93, x94, x95, x96, x97, x98, x99, x100, x101, x102, x103, x104, x105, x106, x107, x108, x109, x110, x111, x112, x113, x114, x115, x116, x117, x118, x119, x120, x121, x122, x123, x124, x125, x126, x127, x128, x129, x130, x131, x132, x133, x134, x135, x136, x137, x138, x139, x140, s141, s142, s143, s144, s145, s146, s147, s148, s149, s150, s151], defers := [] } w') :
    Code.wp Try.prog c13C Q { tmps := #[.func (.func 77) #[] #[.pointer (some ⟨pa, 0, none⟩), .pointer (some ⟨pb, 0, none⟩)], s1, .pointer (some ⟨W0.heap.size, 0, none⟩), .pointer (some ⟨W0.heap.size + 1, 0, none⟩), .int .i64 (wN bs : Nat), .int .i64 (H.length : Nat), s6, s7, .func (.func 76) #[] #[.pointer (some ⟨W0.heap.size + 1, 0, none⟩)], s9, s10, s11, s12, s13, s14, s15, s16, s17, s18, s19, s20, s21, s22, s23, s24, s25, s26, s27, s28, s29, s30, s31, s32, s33, s34, s35, s36, s37, s38, s39, s40, s41, s42, s43, s44, s45, s46, s47, s48, s49, s50, s51, s52, s53, s54, s55, s56, s57, s58, s59, s60, s61, s62, s63, s64, s65, s66, s67, s68, s69, s70, s71, s72, s73, s74, s75, s76, s77, s78, s79, s80, s81, s82, s83, s84, s85, s86, s87, s88, s89, s90, s91, s92, s93, s94, s95, s96, s97, s98, s99, s100, s101, s102, s103, s104, s105, s106, s107, s108, s109, s110, s111, s112, s113, s114, s115, s116, s117, s118, s119, s120, s121, s122, s123, s124, s125, s126, s127, s128, s129, s130, s131, s132, s133, s134, s135, s136, s137, s138, s139, s140, s141, s142, s143, s144, s145, s146, s147, s148, s149, s150, s151], defers := [] } w := by
  have hS : 1 ≤ S ∧ S ≤ 6 := ⟨hh.lo, hh.hi⟩
  have hh5 := hh.len
  have ht5 : t.length ≤ 5 := by have h2 : t.length = H.length := (hm.st hh).len; omega
  obtain ⟨c0, c1, c2, c3, c4, cf⟩ := hM.cells
  have HQ := Lib.hid hQ
  have HM := Lib.hid (And.intro hm hwc)
  clear hQ hm hwc c1 c2 c3 c4 cf
  conv => arg 2; whnf
  refine wp_seq_hid ?_
  intro K1 HK1
  go_wp2_with fail
  refine (mk_draw hd S (by omega) (by omega) hM).mono ?_
  rintro e w1 ⟨s0, rfl, hs0, hs1, hM1, hsm⟩
  clear hsm hM c0
  go_wp2_with fail
  refine HK1.out _ _ ?_
  have hM2 := hM1.alloc (.cells #[.int .i64 2, .int .i64 0, .int .i64 0, .int .i64 s0] 48)
  have hL2 : LnW bl w1.heap.size ⟨2, 0, 0, s0⟩ vl (w1.alloc (.cells #[.int .i64 2, .int .i64 0, .int .i64 0, .int .i64 s0] 48)) :=
    ⟨World.alloc_heap_new w1 _, hM1.sz, fun e => by have := (hM1.own.lt _ e).2; omega⟩
  revert hM2 hL2
  generalize w1.heap.size = L
  generalize (w1.alloc (.cells #[.int .i64 2, .int .i64 0, .int .i64 0, .int .i64 s0] 48)) = w2
  intro hM2 hL2
  obtain ⟨l0, l1, l2, l3, lf⟩ := hL2.cells
  clear hM1
  have HLI : Hid (∀ s : Int, Calls Try.prog 76 #[.int .i64 s, .pointer (some ⟨W0.heap.size + 1, 0, none⟩)] w2 fun e w' => e = .returned (.int .i64 (lies t s)) ∧ w2 = w') := fun s => mk_lies s ht5 hM2
  have hM3 := hM2.setL (p := ⟨L, 1, none⟩) hL2.hi hL2.ne (.int .i64 (lies t s0))
  have hL3 : LnW bl L ⟨2, lies t s0, 0, s0⟩ vl (w2.setCell ⟨L, 1, none⟩ (.int .i64 (lies t s0))) := ⟨heap_setCell_at hL2.blk _, hL2.hi, hL2.ne⟩
  have HF := Lib.hid (And.intro hM3 hL3)
  clear hM2 hL2 hM3 hL3
  refine wp_seq_hid ?_
  intro K2 HK2
  go_wp2_with ((go_at_call 76; refine (HLI.out s0).mono ?_; rintro e w' ⟨rfl, rfl⟩))
  refine HK2.out _ _ ?_
  refine reg15 hd hh HM.out.1 HF.out.1 (by omega) hlen HM.out.2 HF.out.2 ⟨hs0, hs1⟩ ?_
  intro x10 x60 x61 x62 x63 x64 x65 x66 x67 x68 x69 x70 x71 x72 x73 x74 x75 x76 x77 x78 x79 x80 x81 x82 x83 x84 x85 x86 x87 x88 x89 x90 x91 x92 x93 x94 x95 x96 x97 x98 x99 x100 x101 x102 x103 x104 x105 x106 x107 x108 x109 x110 x111 x112 x113 x114 x115 x116 x117 x118 x119 x120 x121 x122 x123 x124 x125 x126 x127 x128 x129 x130 x131 x132 x133 x134 x135 x136 x137 x138 x139 x140 k' N' wc' ls' bs' t' v' w' h1 h2 h3 h4 h5 h6
  exact HQ.out _ _ _ _ _ _ _ _ _ _ _ _ _ _ _ _ _ _ _ _ _ _ _ _ _ _ _ _ _ _ _ _ _ _ _ _ _ _ _ _ _ _ _ _ _ _ _ _ _ _ _ _ _ _ _ _ _ _ _ _ _ _ _ _ _ _ _ _ _ _ _ _ _ _ _ _ _ _ _ _ _ _ _ _ _ _ _ _ _ _ _ _ _ k' _ _ _ _ _ _ _ (by omega) h2 h3 h4 h5 h6

end Go.Proofs.Ytlhobddaojdnoaa

