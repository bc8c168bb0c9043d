/- The laws' wakefulness: its drawn region. The laws' wakefulness: the pieces. StockPlays' walk. The row's last step where the call leaves a world of which only what lay there before is known. Presses and formes that are handed in, opened. -/
import Derived.Test.YtjkhclijmcmdjaaP14
import Derived.Below
import Derived.ChangeSame
import Derived.ProofKit
import Derived.Deep.Slices
import Derived.Deep.Fields
import Derived.Lib.SmallJoins
import Derived.Carry
import Derived.OpenShut
namespace Go.Proofs.Ytjkhclijmcmdjaa
open Go.RowKit
set_option linter.unusedVariables false
set_option linter.unusedSimpArgs false
set_option maxRecDepth 100000 in
set_option maxHeartbeats 1000000 in
theorem span35n {x y : Int} {w : World} :
    Calls Try.prog 35 #[.int .i64 x, .int .i64 y] w fun e w' => e = .returned (.agg #[.int .i64 x, .int .i64 y]) ∧ Below w.heap.size w w' ∧ w'.heap.size = w.heap.size + 1 := by
  have HX : Hid ((w.alloc (.cells #[.int .i64 0, .int .i64 0] 23)).heap[w.heap.size]? = some (.cells #[.int .i64 0, .int .i64 0] 23 (0, 0)) ∧ Below w.heap.size w (w.alloc (.cells #[.int .i64 0, .int .i64 0] 23))) := ⟨World.alloc_heap_new w _, (Below.refl _ w).alloc (Nat.le_refl _) _⟩
  have HZ : Hid ((w.alloc (.cells #[.int .i64 0, .int .i64 0] 23)).heap.size = w.heap.size + 1) := World.size_alloc ..
  go_enter Try.func35, Try.ntmps35
  refine wp_seq_hid ?_
  intro K0 HK0
  go_wp2_with fail
  refine HK0.out _ _ ?_
  clear HK0 K0
  revert HX HZ
  generalize w.alloc (.cells #[.int .i64 0, .int .i64 0] 23) = w1
  generalize w.heap.size = bx
  intro HX HZ
  have y0 : w1.cell? ⟨bx, 0, none⟩ = some (.int .i64 0) := by rw [cell_of_heap HX.out.1]; rfl
  have y1 : w1.cell? ⟨bx, 1, none⟩ = some (.int .i64 0) := by rw [cell_of_heap HX.out.1]; rfl
  have f0 : ∀ k, w1.frozen? ⟨bx, k, none⟩ = false := fun k => frozen_of_heap HX.out.1
  go_wp2_with fail
  have h4 := (heap_setCell_at (k := 1) (heap_setCell_at (k := 0) HX.out.1 (.int .i64 x)) (.int .i64 y))
  exact bodyPost_ret (res_spn rfl _ rfl (by rw [cell_of_heap h4]; rfl) (by rw [cell_of_heap h4]; rfl)) rfl ⟨rfl, ((HX.out.2.setCell (p := ⟨bx, _, none⟩) (by show bx ≤ bx; omega) _).setCell (p := ⟨bx, _, none⟩) (by show bx ≤ bx; omega) _), by rw [World.size_setCell, World.size_setCell]; exact HZ.out⟩
/-- A world at one of 6 stages, by which ones are passed. -/
def ch5 (P0 P1 P2 P3 P4 P5 : World → Prop) : Bool → Bool → Bool → Bool → Bool → World → Prop
  | false, false, false, false, false, w => P0 w
  | true, false, false, false, false, w => P1 w
  | true, true, false, false, false, w => P2 w
  | true, true, true, false, false, w => P3 w
  | true, true, true, true, false, w => P4 w
  | true, true, true, true, true, w => P5 w
  | _, _, _, _, _, _ => False
theorem ch5_or {P0 P1 P2 P3 P4 P5 : World → Prop} {f1 f2 f3 f4 f5 : Bool} {w : World} (h : ch5 P0 P1 P2 P3 P4 P5 f1 f2 f3 f4 f5 w) : P0 w ∨ P1 w ∨ P2 w ∨ P3 w ∨ P4 w ∨ P5 w := by
  cases f1 <;> cases f2 <;> cases f3 <;> cases f4 <;> cases f5 <;> first | exact False.elim h | exact .inl h | exact .inr (.inl h) | exact .inr (.inr (.inl h)) | exact .inr (.inr (.inr (.inl h))) | exact .inr (.inr (.inr (.inr (.inl h)))) | exact .inr (.inr (.inr (.inr (.inr h))))
theorem ch5_s1 {P0 P1 P2 P3 P4 P5 : World → Prop} {f1 f2 f3 f4 f5 : Bool} {w : World} (h : ch5 P0 P1 P2 P3 P4 P5 f1 f2 f3 f4 f5 w) (e2 : f1 = false) : P0 w ∧ ∀ w' : World, P1 w' → ch5 P0 P1 P2 P3 P4 P5 true f2 f3 f4 f5 w' := by
  subst e2
  cases f2 <;> cases f3 <;> cases f4 <;> cases f5 <;> first | exact False.elim h | exact ⟨h, fun _ x => x⟩
theorem ch5_s2 {P0 P1 P2 P3 P4 P5 : World → Prop} {f1 f2 f3 f4 f5 : Bool} {w : World} (h : ch5 P0 P1 P2 P3 P4 P5 f1 f2 f3 f4 f5 w) (e1 : f1 = true) (e2 : f2 = false) : P1 w ∧ ∀ w' : World, P2 w' → ch5 P0 P1 P2 P3 P4 P5 f1 true f3 f4 f5 w' := by
  subst e1 e2
  cases f3 <;> cases f4 <;> cases f5 <;> first | exact False.elim h | exact ⟨h, fun _ x => x⟩
theorem ch5_s3 {P0 P1 P2 P3 P4 P5 : World → Prop} {f1 f2 f3 f4 f5 : Bool} {w : World} (h : ch5 P0 P1 P2 P3 P4 P5 f1 f2 f3 f4 f5 w) (e1 : f2 = true) (e2 : f3 = false) : P2 w ∧ ∀ w' : World, P3 w' → ch5 P0 P1 P2 P3 P4 P5 f1 f2 true f4 f5 w' := by
  subst e1 e2
  cases f1 <;> cases f4 <;> cases f5 <;> first | exact False.elim h | exact ⟨h, fun _ x => x⟩
theorem ch5_s4 {P0 P1 P2 P3 P4 P5 : World → Prop} {f1 f2 f3 f4 f5 : Bool} {w : World} (h : ch5 P0 P1 P2 P3 P4 P5 f1 f2 f3 f4 f5 w) (e1 : f3 = true) (e2 : f4 = false) : P3 w ∧ ∀ w' : World, P4 w' → ch5 P0 P1 P2 P3 P4 P5 f1 f2 f3 true f5 w' := by
  subst e1 e2
  cases f1 <;> cases f2 <;> cases f5 <;> first | exact False.elim h | exact ⟨h, fun _ x => x⟩
theorem ch5_s5 {P0 P1 P2 P3 P4 P5 : World → Prop} {f1 f2 f3 f4 f5 : Bool} {w : World} (h : ch5 P0 P1 P2 P3 P4 P5 f1 f2 f3 f4 f5 w) (e1 : f4 = true) (e2 : f5 = false) : P4 w ∧ ∀ w' : World, P5 w' → ch5 P0 P1 P2 P3 P4 P5 f1 f2 f3 f4 true w' := by
  subst e1 e2
  cases f1 <;> cases f2 <;> cases f3 <;> first | exact False.elim h | exact ⟨h, fun _ x => x⟩
noncomputable def awk10C : Code := (Try.f14.body.bind (regionAt 10)).getD .skip
set_option maxRecDepth 100000 in
set_option maxHeartbeats 8000000 in
theorem awk10 {b48 ch S : Nat} {ah : Option Addr} {P0 P1 P2 P3 P4 P5 : World → Prop} {Q : Exit → Act → World → Prop} {W1 : World}  (h0 : P0 W1.drew)
    (kl7 : Hid (∀ w : World, (P0 w ∨ P1 w ∨ P2 w ∨ P3 w ∨ P4 w) → w.cell? ⟨b48, 0, none⟩ = some (.int .i64 18) ∧ w.cell? ⟨b48, 1, none⟩ = some (.int .i64 550) ∧ w.cell? ⟨b48, 2, none⟩ = some (.slice ah 3 ch)))
    (kc8 : Hid (∀ w : World, P0 w → Calls Try.prog 35 #[.int .i64 5, .int .i64 9] w fun e w' => e = .returned (.agg #[.int .i64 5, .int .i64 9]) ∧ P1 w'))
    (kc9 : Hid (∀ w : World, P1 w → Calls Try.prog 35 #[.int .i64 10, .int .i64 12] w fun e w' => e = .returned (.agg #[.int .i64 10, .int .i64 12]) ∧ P2 w'))
    (kc10 : Hid (∀ w : World, P2 w → Calls Try.prog 35 #[.int .i64 10, .int .i64 12] w fun e w' => e = .returned (.agg #[.int .i64 10, .int .i64 12]) ∧ P3 w'))
    (kr11 : Hid (∀ w : World, P3 w → w.heap.size = S + 3 ∧ P4 (w.alloc (.cells #[.int .i64 5, .int .i64 9, .int .i64 10, .int .i64 12, .int .i64 10, .int .i64 12] 23))))
    (kc13 : Hid (∀ w : World, P4 w → Calls Try.prog 32 #[.agg #[.int .i64 18, .int .i64 550, .slice ah 3 ch], .agg #[.int .i64 18, .int .i64 550, .slice (some ⟨S + 3, 0, none⟩) 3 3]] w fun e w' => e = .returned (.bool true) ∧ P5 w'))
    {s1 s2 s3 s4 s5 s6 s7 s8 s9 s17 s18 s19 s20 s21 s22 s23 s24 s25 s26 s27 s28 s29 s30 s31 s32 s33 s34 s35 s36 s37 s38 s39 s40 s41 s42 s43 s44 s45 s46 s47 s48 s49 s50 s51 s52 s53 s54 s55 s56 s57 s58 s59 s60 s61 s62 s63 s64 s65 s66 s67 s68 s69 s70 s71 s72 s73 s74 s75 s76 s77 s78 s79 s80 s81 s82 s83 s84 s85 s86 s87 s88 s89 s90 s91 s92 s93 s94 s95 s96 s97 s98 s99 s100 s101 s102 s103 s104 s105 s106 s107 s108 s109 s110 s111 s112 s113 s114 s115 s116 s117 s118 s119 s120 s121 s122 s123 s124 s125 s126 s127 s128 s129 s130 s131 s132 s133 s134 s135 : Value} {dd : List Deferred}
    (hQ : ∀ w' : World, P5 w' → Q .normal { tmps := List.toArray (.bool true :: s1 :: s2 :: s3 :: s4 :: s5 :: s6 :: s7 :: s8 :: s9 :: .int .i64 3 :: .int .i64 0 :: .pointer (some ⟨b48, 0, none⟩) :: .int .i64 0 :: .int .i64 2 :: .int .i64 350 :: .int .i64 0 :: s17 :: s18 :: s19 :: s20 :: s21 :: s22 :: s23 :: s24 :: s25 :: s26 :: s27 :: s28 :: s29 :: s30 :: s31 :: s32 :: s33 :: s34 :: s35 :: s36 :: s37 :: s38 :: s39 :: s40 :: s41 :: s42 :: s43 :: s44 :: s45 :: s46 :: s47 :: s48 :: s49 :: s50 :: s51 :: s52 :: s53 :: s54 :: s55 :: s56 :: s57 :: s58 :: s59 :: s60 :: s61 :: s62 :: s63 :: s64 :: s65 :: s66 :: s67 :: s68 :: s69 :: s70 :: s71 :: s72 :: s73 :: s74 :: s75 :: s76 :: s77 :: s78 :: s79 :: s80 :: s81 :: s82 :: s83 :: s84 :: s85 :: s86 :: s87 :: s88 :: s89 :: s90 :: s91 :: s92 :: s93 :: s94 :: s95 :: s96 :: s97 :: s98 :: s99 :: s100 :: s101 :: s102 :: s103 :: s104 :: .int .i64 3 :: .bool true :: .bool true :: .int .i64 0 :: .bool true :: .bool true :: .bool true :: .agg #[.int .i64 18, .int .i64 550, .slice ah 3 ch] :: .agg #[.int .i64 5, .int .i64 9] :: .agg #[.int .i64 10, .int .i64 12] :: .agg #[.int .i64 10, .int .i64 12] :: .slice (some ⟨S + 3, 0, none⟩) 3 3 :: .agg #[.int .i64 18, .int .i64 550, .slice (some ⟨S + 3, 0, none⟩) 3 3] :: .bool true :: .bool true :: .bool true :: .int .i64 0 :: .bool true :: .bool true :: .bool true :: .int .i64 2 :: .bool true :: .bool true :: .bool true :: .int .i64 350 :: .bool true :: .bool true :: .bool true :: .int .i64 0 :: .bool true :: .bool true :: []),defers := dd } w') :
    Code.wpIn (wideAt none) 0 Try.prog awk10C Q { tmps := List.toArray (.bool false :: s1 :: s2 :: s3 :: s4 :: s5 :: s6 :: s7 :: s8 :: s9 :: .int .i64 3 :: .int .i64 0 :: .pointer (some ⟨b48, 0, none⟩) :: .int .i64 0 :: .int .i64 2 :: .int .i64 350 :: .int .i64 0 :: s17 :: s18 :: s19 :: s20 :: s21 :: s22 :: s23 :: s24 :: s25 :: s26 :: s27 :: s28 :: s29 :: s30 :: s31 :: s32 :: s33 :: s34 :: s35 :: s36 :: s37 :: s38 :: s39 :: s40 :: s41 :: s42 :: s43 :: s44 :: s45 :: s46 :: s47 :: s48 :: s49 :: s50 :: s51 :: s52 :: s53 :: s54 :: s55 :: s56 :: s57 :: s58 :: s59 :: s60 :: s61 :: s62 :: s63 :: s64 :: s65 :: s66 :: s67 :: s68 :: s69 :: s70 :: s71 :: s72 :: s73 :: s74 :: s75 :: s76 :: s77 :: s78 :: s79 :: s80 :: s81 :: s82 :: s83 :: s84 :: s85 :: s86 :: s87 :: s88 :: s89 :: s90 :: s91 :: s92 :: s93 :: s94 :: s95 :: s96 :: s97 :: s98 :: s99 :: s100 :: s101 :: s102 :: s103 :: s104 :: s105 :: s106 :: s107 :: s108 :: s109 :: s110 :: s111 :: s112 :: s113 :: s114 :: s115 :: s116 :: s117 :: s118 :: s119 :: s120 :: s121 :: s122 :: s123 :: s124 :: s125 :: s126 :: s127 :: s128 :: s129 :: s130 :: s131 :: s132 :: s133 :: s134 :: s135 :: []),defers := dd } W1 := by
  have HQ := Lib.hid hQ
  clear hQ
  conv => arg 4; whnf
  refine wpIn_region_invG mixed (by kernel_rfl) (fun d_ a_ w' => a_ = { tmps := List.toArray (pk (d_ 31) (.bool true) (.bool false) :: s1 :: s2 :: s3 :: s4 :: s5 :: s6 :: s7 :: s8 :: s9 :: .int .i64 3 :: .int .i64 0 :: .pointer (some ⟨b48, 0, none⟩) :: .int .i64 0 :: .int .i64 2 :: .int .i64 350 :: .int .i64 0 :: s17 :: s18 :: s19 :: s20 :: s21 :: s22 :: s23 :: s24 :: s25 :: s26 :: s27 :: s28 :: s29 :: s30 :: s31 :: s32 :: s33 :: s34 :: s35 :: s36 :: s37 :: s38 :: s39 :: s40 :: s41 :: s42 :: s43 :: s44 :: s45 :: s46 :: s47 :: s48 :: s49 :: s50 :: s51 :: s52 :: s53 :: s54 :: s55 :: s56 :: s57 :: s58 :: s59 :: s60 :: s61 :: s62 :: s63 :: s64 :: s65 :: s66 :: s67 :: s68 :: s69 :: s70 :: s71 :: s72 :: s73 :: s74 :: s75 :: s76 :: s77 :: s78 :: s79 :: s80 :: s81 :: s82 :: s83 :: s84 :: s85 :: s86 :: s87 :: s88 :: s89 :: s90 :: s91 :: s92 :: s93 :: s94 :: s95 :: s96 :: s97 :: s98 :: s99 :: s100 :: s101 :: s102 :: s103 :: s104 :: pk (d_ 0) (.int .i64 3) s105 :: pk (d_ 1) (.bool true) s106 :: pk (d_ 2) (.bool true) s107 :: pk (d_ 3) (.int .i64 0) s108 :: pk (d_ 4) (.bool true) s109 :: pk (d_ 5) (.bool true) s110 :: pk (d_ 6) (.bool true) s111 :: pk (d_ 7) (.agg #[.int .i64 18, .int .i64 550, .slice ah 3 ch]) s112 :: pk (d_ 8) (.agg #[.int .i64 5, .int .i64 9]) s113 :: pk (d_ 9) (.agg #[.int .i64 10, .int .i64 12]) s114 :: pk (d_ 10) (.agg #[.int .i64 10, .int .i64 12]) s115 :: pk (d_ 11) (.slice (some ⟨S + 3, 0, none⟩) 3 3) s116 :: pk (d_ 12) (.agg #[.int .i64 18, .int .i64 550, .slice (some ⟨S + 3, 0, none⟩) 3 3]) s117 :: pk (d_ 13) (.bool true) s118 :: pk (d_ 14) (.bool true) s119 :: pk (d_ 15) (.bool true) s120 :: pk (d_ 16) (.int .i64 0) s121 :: pk (d_ 17) (.bool true) s122 :: pk (d_ 18) (.bool true) s123 :: pk (d_ 19) (.bool true) s124 :: pk (d_ 20) (.int .i64 2) s125 :: pk (d_ 21) (.bool true) s126 :: pk (d_ 22) (.bool true) s127 :: pk (d_ 23) (.bool true) s128 :: pk (d_ 24) (.int .i64 350) s129 :: pk (d_ 25) (.bool true) s130 :: pk (d_ 26) (.bool true) s131 :: pk (d_ 27) (.bool true) s132 :: pk (d_ 28) (.int .i64 0) s133 :: pk (d_ 29) (.bool true) s134 :: pk (d_ 30) (.bool true) s135 :: []),defers := dd } ∧ ch5 P0 P1 P2 P3 P4 P5 (d_ 8) (d_ 9) (d_ 10) (d_ 11) (d_ 13) w' ∧ OrdP [[], [0], [1], [2], [2, 3], [2, 4], [2, 5], [6], [6], [6, 8], [6, 9], [6, 8, 9, 10], [6, 11], [6, 7, 10, 12], [6, 13], [13, 14], [15], [15, 16], [15, 17], [15, 18], [19], [19, 20], [19, 21], [19, 22], [23], [23, 24], [23, 25], [23, 26], [27], [27, 28], [27, 29], [0, 1, 2, 3, 4, 5, 6, 7, 8, 9, 10, 11, 12, 13, 14, 15, 16, 17, 18, 19, 20, 21, 22, 23, 24, 25, 26, 27, 28, 29, 30]] d_) ?_ ?_ ?_
  · exact ⟨rfl, h0, fun k h => by cases h⟩
  · refine ⟨?_,?_,?_,?_,?_,?_,?_,?_,?_,?_,?_,?_,?_,?_,?_,?_,?_,?_,?_,?_,?_,?_,?_,?_,?_,?_,?_,?_,?_,?_,?_,?_, trivial⟩
    all_goals
      rintro d_ a_ w1 K hd_ hdep ⟨rfl, F, O⟩ HK
      simp [Region.binds] at hdep
    · have HO : Hid (OrdP [[], [0], [1], [2], [2, 3], [2, 4], [2, 5], [6], [6], [6, 8], [6, 9], [6, 8, 9, 10], [6, 11], [6, 7, 10, 12], [6, 13], [13, 14], [15], [15, 16], [15, 17], [15, 18], [19], [19, 20], [19, 21], [19, 22], [23], [23, 24], [23, 25], [23, 26], [27], [27, 28], [27, 29], [0, 1, 2, 3, 4, 5, 6, 7, 8, 9, 10, 11, 12, 13, 14, 15, 16, 17, 18, 19, 20, 21, 22, 23, 24, 25, 26, 27, 28, 29, 30]] (upd d_ 0)) := O.step (show ∀ e ∈ ([] : List Nat), d_ e = true by simp [hdep])
      clear O
      have HF := Lib.hid F
      clear F hdep
      go_simp
      refine HK.out _ _ ⟨?_, HF.out, HO.out⟩
      all_goals rfl
    · have HO : Hid (OrdP [[], [0], [1], [2], [2, 3], [2, 4], [2, 5], [6], [6], [6, 8], [6, 9], [6, 8, 9, 10], [6, 11], [6, 7, 10, 12], [6, 13], [13, 14], [15], [15, 16], [15, 17], [15, 18], [19], [19, 20], [19, 21], [19, 22], [23], [23, 24], [23, 25], [23, 26], [27], [27, 28], [27, 29], [0, 1, 2, 3, 4, 5, 6, 7, 8, 9, 10, 11, 12, 13, 14, 15, 16, 17, 18, 19, 20, 21, 22, 23, 24, 25, 26, 27, 28, 29, 30]] (upd d_ 1)) := O.step (show ∀ e ∈ ([0] : List Nat), d_ e = true by simp [hdep])
      have q0 : d_ 0 = true := by simp [hdep]
      clear O
      rw [pk_of q0]
      have HF := Lib.hid F
      clear F hdep
      go_simp
      refine HK.out _ _ ⟨?_, HF.out, HO.out⟩
      rw [pk_of (show upd d_ 1 0 = true from q0)]
      all_goals rfl
    · have HO : Hid (OrdP [[], [0], [1], [2], [2, 3], [2, 4], [2, 5], [6], [6], [6, 8], [6, 9], [6, 8, 9, 10], [6, 11], [6, 7, 10, 12], [6, 13], [13, 14], [15], [15, 16], [15, 17], [15, 18], [19], [19, 20], [19, 21], [19, 22], [23], [23, 24], [23, 25], [23, 26], [27], [27, 28], [27, 29], [0, 1, 2, 3, 4, 5, 6, 7, 8, 9, 10, 11, 12, 13, 14, 15, 16, 17, 18, 19, 20, 21, 22, 23, 24, 25, 26, 27, 28, 29, 30]] (upd d_ 2)) := O.step (show ∀ e ∈ ([1] : List Nat), d_ e = true by simp [hdep])
      have q1 : d_ 1 = true := by simp [hdep]
      clear O
      rw [pk_of q1]
      have HF := Lib.hid F
      clear F hdep
      go_simp
      refine HK.out _ _ ⟨?_, HF.out, HO.out⟩
      rw [pk_of (show upd d_ 2 1 = true from q1)]
      all_goals rfl
    · have HO : Hid (OrdP [[], [0], [1], [2], [2, 3], [2, 4], [2, 5], [6], [6], [6, 8], [6, 9], [6, 8, 9, 10], [6, 11], [6, 7, 10, 12], [6, 13], [13, 14], [15], [15, 16], [15, 17], [15, 18], [19], [19, 20], [19, 21], [19, 22], [23], [23, 24], [23, 25], [23, 26], [27], [27, 28], [27, 29], [0, 1, 2, 3, 4, 5, 6, 7, 8, 9, 10, 11, 12, 13, 14, 15, 16, 17, 18, 19, 20, 21, 22, 23, 24, 25, 26, 27, 28, 29, 30]] (upd d_ 3)) := O.step (show ∀ e ∈ ([2] : List Nat), d_ e = true by simp [hdep])
      have q2 : d_ 2 = true := by simp [hdep]
      clear O
      rw [pk_of q2]
      have HF := Lib.hid F
      clear F hdep
      go_simp
      refine HK.out _ _ ⟨?_, HF.out, HO.out⟩
      rw [pk_of (show upd d_ 3 2 = true from q2)]
      all_goals rfl
    · have HO : Hid (OrdP [[], [0], [1], [2], [2, 3], [2, 4], [2, 5], [6], [6], [6, 8], [6, 9], [6, 8, 9, 10], [6, 11], [6, 7, 10, 12], [6, 13], [13, 14], [15], [15, 16], [15, 17], [15, 18], [19], [19, 20], [19, 21], [19, 22], [23], [23, 24], [23, 25], [23, 26], [27], [27, 28], [27, 29], [0, 1, 2, 3, 4, 5, 6, 7, 8, 9, 10, 11, 12, 13, 14, 15, 16, 17, 18, 19, 20, 21, 22, 23, 24, 25, 26, 27, 28, 29, 30]] (upd d_ 4)) := O.step (show ∀ e ∈ ([2, 3] : List Nat), d_ e = true by simp [hdep])
      have q2 : d_ 2 = true := by simp [hdep]
      have q3 : d_ 3 = true := by simp [hdep]
      clear O
      rw [pk_of q2, pk_of q3]
      have HF := Lib.hid F
      clear F hdep
      go_simp
      refine HK.out _ _ ⟨?_, HF.out, HO.out⟩
      rw [pk_of (show upd d_ 4 2 = true from q2), pk_of (show upd d_ 4 3 = true from q3)]
      all_goals rfl
    · have HO : Hid (OrdP [[], [0], [1], [2], [2, 3], [2, 4], [2, 5], [6], [6], [6, 8], [6, 9], [6, 8, 9, 10], [6, 11], [6, 7, 10, 12], [6, 13], [13, 14], [15], [15, 16], [15, 17], [15, 18], [19], [19, 20], [19, 21], [19, 22], [23], [23, 24], [23, 25], [23, 26], [27], [27, 28], [27, 29], [0, 1, 2, 3, 4, 5, 6, 7, 8, 9, 10, 11, 12, 13, 14, 15, 16, 17, 18, 19, 20, 21, 22, 23, 24, 25, 26, 27, 28, 29, 30]] (upd d_ 5)) := O.step (show ∀ e ∈ ([2, 4] : List Nat), d_ e = true by simp [hdep])
      have q2 : d_ 2 = true := by simp [hdep]
      have q4 : d_ 4 = true := by simp [hdep]
      clear O
      rw [pk_of q2, pk_of q4]
      have HF := Lib.hid F
      clear F hdep
      go_simp
      refine HK.out _ _ ⟨?_, HF.out, HO.out⟩
      rw [pk_of (show upd d_ 5 2 = true from q2), pk_of (show upd d_ 5 4 = true from q4)]
      all_goals rfl
    · have HO : Hid (OrdP [[], [0], [1], [2], [2, 3], [2, 4], [2, 5], [6], [6], [6, 8], [6, 9], [6, 8, 9, 10], [6, 11], [6, 7, 10, 12], [6, 13], [13, 14], [15], [15, 16], [15, 17], [15, 18], [19], [19, 20], [19, 21], [19, 22], [23], [23, 24], [23, 25], [23, 26], [27], [27, 28], [27, 29], [0, 1, 2, 3, 4, 5, 6, 7, 8, 9, 10, 11, 12, 13, 14, 15, 16, 17, 18, 19, 20, 21, 22, 23, 24, 25, 26, 27, 28, 29, 30]] (upd d_ 6)) := O.step (show ∀ e ∈ ([2, 5] : List Nat), d_ e = true by simp [hdep])
      have q5 : d_ 5 = true := by simp [hdep]
      clear O
      rw [pk_of q5]
      have HF := Lib.hid F
      clear F hdep
      go_simp
      refine HK.out _ _ ⟨?_, HF.out, HO.out⟩
      rw [pk_of (show upd d_ 6 5 = true from q5)]
      all_goals rfl
    · have HO : Hid (OrdP [[], [0], [1], [2], [2, 3], [2, 4], [2, 5], [6], [6], [6, 8], [6, 9], [6, 8, 9, 10], [6, 11], [6, 7, 10, 12], [6, 13], [13, 14], [15], [15, 16], [15, 17], [15, 18], [19], [19, 20], [19, 21], [19, 22], [23], [23, 24], [23, 25], [23, 26], [27], [27, 28], [27, 29], [0, 1, 2, 3, 4, 5, 6, 7, 8, 9, 10, 11, 12, 13, 14, 15, 16, 17, 18, 19, 20, 21, 22, 23, 24, 25, 26, 27, 28, 29, 30]] (upd d_ 7)) := O.step (show ∀ e ∈ ([6] : List Nat), d_ e = true by simp [hdep])
      have q6 : d_ 6 = true := by simp [hdep]
      have F2 := F
      have n_ : d_ 13 = false := by
        cases e_ : d_ 13 with
        | false => rfl
        | true => have h2 := (O 13 e_ 7 (by decide)); rw [show d_ 7 = false from hd_] at h2; cases h2
      rw [n_] at F2
      have kk := kl7.out w1 (by
        have h3 := ch5_or F2
        cases e8_ : d_ 8 <;> cases e9_ : d_ 9 <;> cases e10_ : d_ 10 <;> cases e11_ : d_ 11 <;> simp_all [ch5])
      clear F2
      clear n_
      obtain ⟨kk0, kk1, kk2⟩ := kk
      clear O
      rw [pk_of q6]
      have HF := Lib.hid F
      clear F hdep
      go_simp
      refine HK.out _ _ ⟨?_, HF.out, HO.out⟩
      rw [pk_of (show upd d_ 7 6 = true from q6)]
      all_goals rfl
    · have HO : Hid (OrdP [[], [0], [1], [2], [2, 3], [2, 4], [2, 5], [6], [6], [6, 8], [6, 9], [6, 8, 9, 10], [6, 11], [6, 7, 10, 12], [6, 13], [13, 14], [15], [15, 16], [15, 17], [15, 18], [19], [19, 20], [19, 21], [19, 22], [23], [23, 24], [23, 25], [23, 26], [27], [27, 28], [27, 29], [0, 1, 2, 3, 4, 5, 6, 7, 8, 9, 10, 11, 12, 13, 14, 15, 16, 17, 18, 19, 20, 21, 22, 23, 24, 25, 26, 27, 28, 29, 30]] (upd d_ 8)) := O.step (show ∀ e ∈ ([6] : List Nat), d_ e = true by simp [hdep])
      have q6 : d_ 6 = true := by simp [hdep]
      clear O
      rw [pk_of q6]
      obtain ⟨hP, hN⟩ := ch5_s1 F hd_
      have hc := kc8.out w1 hP
      have HN := Lib.hid hN
      clear F hP hN hdep
      go_simp
      refine ⟨trivial, rfl, wideAt_calls (hc.mono ?_)⟩
      rintro e w5 ⟨rfl, hR⟩
      have HG := HN.out w5 hR
      refine HK.out _ _ ⟨?_, HG, HO.out⟩
      rw [pk_of (show upd d_ 8 6 = true from q6)]
      all_goals rfl
    · have HO : Hid (OrdP [[], [0], [1], [2], [2, 3], [2, 4], [2, 5], [6], [6], [6, 8], [6, 9], [6, 8, 9, 10], [6, 11], [6, 7, 10, 12], [6, 13], [13, 14], [15], [15, 16], [15, 17], [15, 18], [19], [19, 20], [19, 21], [19, 22], [23], [23, 24], [23, 25], [23, 26], [27], [27, 28], [27, 29], [0, 1, 2, 3, 4, 5, 6, 7, 8, 9, 10, 11, 12, 13, 14, 15, 16, 17, 18, 19, 20, 21, 22, 23, 24, 25, 26, 27, 28, 29, 30]] (upd d_ 9)) := O.step (show ∀ e ∈ ([6, 8] : List Nat), d_ e = true by simp [hdep])
      have q6 : d_ 6 = true := by simp [hdep]
      clear O
      rw [pk_of q6]
      obtain ⟨hP, hN⟩ := ch5_s2 F (show d_ 8 = true by simp [hdep]) hd_
      have hc := kc9.out w1 hP
      have HN := Lib.hid hN
      clear F hP hN hdep
      go_simp
      refine ⟨trivial, rfl, wideAt_calls (hc.mono ?_)⟩
      rintro e w5 ⟨rfl, hR⟩
      have HG := HN.out w5 hR
      refine HK.out _ _ ⟨?_, HG, HO.out⟩
      rw [pk_of (show upd d_ 9 6 = true from q6)]
      all_goals rfl
    · have HO : Hid (OrdP [[], [0], [1], [2], [2, 3], [2, 4], [2, 5], [6], [6], [6, 8], [6, 9], [6, 8, 9, 10], [6, 11], [6, 7, 10, 12], [6, 13], [13, 14], [15], [15, 16], [15, 17], [15, 18], [19], [19, 20], [19, 21], [19, 22], [23], [23, 24], [23, 25], [23, 26], [27], [27, 28], [27, 29], [0, 1, 2, 3, 4, 5, 6, 7, 8, 9, 10, 11, 12, 13, 14, 15, 16, 17, 18, 19, 20, 21, 22, 23, 24, 25, 26, 27, 28, 29, 30]] (upd d_ 10)) := O.step (show ∀ e ∈ ([6, 9] : List Nat), d_ e = true by simp [hdep])
      have q6 : d_ 6 = true := by simp [hdep]
      clear O
      rw [pk_of q6]
      obtain ⟨hP, hN⟩ := ch5_s3 F (show d_ 9 = true by simp [hdep]) hd_
      have hc := kc10.out w1 hP
      have HN := Lib.hid hN
      clear F hP hN hdep
      go_simp
      refine ⟨trivial, rfl, wideAt_calls (hc.mono ?_)⟩
      rintro e w5 ⟨rfl, hR⟩
      have HG := HN.out w5 hR
      refine HK.out _ _ ⟨?_, HG, HO.out⟩
      rw [pk_of (show upd d_ 10 6 = true from q6)]
      all_goals rfl
    · have HO : Hid (OrdP [[], [0], [1], [2], [2, 3], [2, 4], [2, 5], [6], [6], [6, 8], [6, 9], [6, 8, 9, 10], [6, 11], [6, 7, 10, 12], [6, 13], [13, 14], [15], [15, 16], [15, 17], [15, 18], [19], [19, 20], [19, 21], [19, 22], [23], [23, 24], [23, 25], [23, 26], [27], [27, 28], [27, 29], [0, 1, 2, 3, 4, 5, 6, 7, 8, 9, 10, 11, 12, 13, 14, 15, 16, 17, 18, 19, 20, 21, 22, 23, 24, 25, 26, 27, 28, 29, 30]] (upd d_ 11)) := O.step (show ∀ e ∈ ([6, 8, 9, 10] : List Nat), d_ e = true by simp [hdep])
      have q6 : d_ 6 = true := by simp [hdep]
      have q8 : d_ 8 = true := by simp [hdep]
      have q9 : d_ 9 = true := by simp [hdep]
      have q10 : d_ 10 = true := by simp [hdep]
      clear O
      rw [pk_of q6, pk_of q8, pk_of q9, pk_of q10]
      obtain ⟨hP, hN⟩ := ch5_s4 F (show d_ 10 = true by simp [hdep]) hd_
      obtain ⟨hz, hR⟩ := kr11.out w1 hP
      have HF := Lib.hid (hN _ hR)
      have HZ := Lib.hid hz
      clear F hP hR hN hdep hz
      go_simp
      rw [HZ.out]
      have HG := HF.out
      refine HK.out _ _ ⟨?_, HG, HO.out⟩
      rw [pk_of (show upd d_ 11 6 = true from q6), pk_of (show upd d_ 11 8 = true from q8), pk_of (show upd d_ 11 9 = true from q9), pk_of (show upd d_ 11 10 = true from q10)]
      all_goals rfl
    · have HO : Hid (OrdP [[], [0], [1], [2], [2, 3], [2, 4], [2, 5], [6], [6], [6, 8], [6, 9], [6, 8, 9, 10], [6, 11], [6, 7, 10, 12], [6, 13], [13, 14], [15], [15, 16], [15, 17], [15, 18], [19], [19, 20], [19, 21], [19, 22], [23], [23, 24], [23, 25], [23, 26], [27], [27, 28], [27, 29], [0, 1, 2, 3, 4, 5, 6, 7, 8, 9, 10, 11, 12, 13, 14, 15, 16, 17, 18, 19, 20, 21, 22, 23, 24, 25, 26, 27, 28, 29, 30]] (upd d_ 12)) := O.step (show ∀ e ∈ ([6, 11] : List Nat), d_ e = true by simp [hdep])
      have q6 : d_ 6 = true := by simp [hdep]
      have q11 : d_ 11 = true := by simp [hdep]
      clear O
      rw [pk_of q6, pk_of q11]
      have HF := Lib.hid F
      clear F hdep
      go_simp
      refine HK.out _ _ ⟨?_, HF.out, HO.out⟩
      rw [pk_of (show upd d_ 12 6 = true from q6), pk_of (show upd d_ 12 11 = true from q11)]
      all_goals rfl
    · have HO : Hid (OrdP [[], [0], [1], [2], [2, 3], [2, 4], [2, 5], [6], [6], [6, 8], [6, 9], [6, 8, 9, 10], [6, 11], [6, 7, 10, 12], [6, 13], [13, 14], [15], [15, 16], [15, 17], [15, 18], [19], [19, 20], [19, 21], [19, 22], [23], [23, 24], [23, 25], [23, 26], [27], [27, 28], [27, 29], [0, 1, 2, 3, 4, 5, 6, 7, 8, 9, 10, 11, 12, 13, 14, 15, 16, 17, 18, 19, 20, 21, 22, 23, 24, 25, 26, 27, 28, 29, 30]] (upd d_ 13)) := O.step (show ∀ e ∈ ([6, 7, 10, 12] : List Nat), d_ e = true by simp [hdep])
      have q6 : d_ 6 = true := by simp [hdep]
      have q7 : d_ 7 = true := by simp [hdep]
      have q12 : d_ 12 = true := by simp [hdep]
      clear O
      rw [pk_of q6, pk_of q7, pk_of q12]
      obtain ⟨hP, hN⟩ := ch5_s5 F (show d_ 11 = true from HO.out 12 q12 11 (by decide)) hd_
      have hc := kc13.out w1 hP
      have HN := Lib.hid hN
      clear F hP hN hdep
      go_simp
      refine ⟨trivial, rfl, wideAt_calls (hc.mono ?_)⟩
      rintro e w5 ⟨rfl, hR⟩
      have HG := HN.out w5 hR
      refine HK.out _ _ ⟨?_, HG, HO.out⟩
      rw [pk_of (show upd d_ 13 6 = true from q6), pk_of (show upd d_ 13 7 = true from q7), pk_of (show upd d_ 13 12 = true from q12)]
      all_goals rfl
    · have HO : Hid (OrdP [[], [0], [1], [2], [2, 3], [2, 4], [2, 5], [6], [6], [6, 8], [6, 9], [6, 8, 9, 10], [6, 11], [6, 7, 10, 12], [6, 13], [13, 14], [15], [15, 16], [15, 17], [15, 18], [19], [19, 20], [19, 21], [19, 22], [23], [23, 24], [23, 25], [23, 26], [27], [27, 28], [27, 29], [0, 1, 2, 3, 4, 5, 6, 7, 8, 9, 10, 11, 12, 13, 14, 15, 16, 17, 18, 19, 20, 21, 22, 23, 24, 25, 26, 27, 28, 29, 30]] (upd d_ 14)) := O.step (show ∀ e ∈ ([6, 13] : List Nat), d_ e = true by simp [hdep])
      have q6 : d_ 6 = true := by simp [hdep]
      have q13 : d_ 13 = true := by simp [hdep]
      clear O
      rw [pk_of q6, pk_of q13]
      have HF := Lib.hid F
      clear F hdep
      go_simp
      refine HK.out _ _ ⟨?_, HF.out, HO.out⟩
      rw [pk_of (show upd d_ 14 6 = true from q6), pk_of (show upd d_ 14 13 = true from q13)]
      all_goals rfl
    · have HO : Hid (OrdP [[], [0], [1], [2], [2, 3], [2, 4], [2, 5], [6], [6], [6, 8], [6, 9], [6, 8, 9, 10], [6, 11], [6, 7, 10, 12], [6, 13], [13, 14], [15], [15, 16], [15, 17], [15, 18], [19], [19, 20], [19, 21], [19, 22], [23], [23, 24], [23, 25], [23, 26], [27], [27, 28], [27, 29], [0, 1, 2, 3, 4, 5, 6, 7, 8, 9, 10, 11, 12, 13, 14, 15, 16, 17, 18, 19, 20, 21, 22, 23, 24, 25, 26, 27, 28, 29, 30]] (upd d_ 15)) := O.step (show ∀ e ∈ ([13, 14] : List Nat), d_ e = true by simp [hdep])
      have q14 : d_ 14 = true := by simp [hdep]
      clear O
      rw [pk_of q14]
      have HF := Lib.hid F
      clear F hdep
      go_simp
      refine HK.out _ _ ⟨?_, HF.out, HO.out⟩
      rw [pk_of (show upd d_ 15 14 = true from q14)]
      all_goals rfl
    · have HO : Hid (OrdP [[], [0], [1], [2], [2, 3], [2, 4], [2, 5], [6], [6], [6, 8], [6, 9], [6, 8, 9, 10], [6, 11], [6, 7, 10, 12], [6, 13], [13, 14], [15], [15, 16], [15, 17], [15, 18], [19], [19, 20], [19, 21], [19, 22], [23], [23, 24], [23, 25], [23, 26], [27], [27, 28], [27, 29], [0, 1, 2, 3, 4, 5, 6, 7, 8, 9, 10, 11, 12, 13, 14, 15, 16, 17, 18, 19, 20, 21, 22, 23, 24, 25, 26, 27, 28, 29, 30]] (upd d_ 16)) := O.step (show ∀ e ∈ ([15] : List Nat), d_ e = true by simp [hdep])
      have q15 : d_ 15 = true := by simp [hdep]
      clear O
      rw [pk_of q15]
      have HF := Lib.hid F
      clear F hdep
      go_simp
      refine HK.out _ _ ⟨?_, HF.out, HO.out⟩
      rw [pk_of (show upd d_ 16 15 = true from q15)]
      all_goals rfl
    · have HO : Hid (OrdP [[], [0], [1], [2], [2, 3], [2, 4], [2, 5], [6], [6], [6, 8], [6, 9], [6, 8, 9, 10], [6, 11], [6, 7, 10, 12], [6, 13], [13, 14], [15], [15, 16], [15, 17], [15, 18], [19], [19, 20], [19, 21], [19, 22], [23], [23, 24], [23, 25], [23, 26], [27], [27, 28], [27, 29], [0, 1, 2, 3, 4, 5, 6, 7, 8, 9, 10, 11, 12, 13, 14, 15, 16, 17, 18, 19, 20, 21, 22, 23, 24, 25, 26, 27, 28, 29, 30]] (upd d_ 17)) := O.step (show ∀ e ∈ ([15, 16] : List Nat), d_ e = true by simp [hdep])
      have q15 : d_ 15 = true := by simp [hdep]
      have q16 : d_ 16 = true := by simp [hdep]
      clear O
      rw [pk_of q15, pk_of q16]
      have HF := Lib.hid F
      clear F hdep
      go_simp
      refine HK.out _ _ ⟨?_, HF.out, HO.out⟩
      rw [pk_of (show upd d_ 17 15 = true from q15), pk_of (show upd d_ 17 16 = true from q16)]
      all_goals rfl
    · have HO : Hid (OrdP [[], [0], [1], [2], [2, 3], [2, 4], [2, 5], [6], [6], [6, 8], [6, 9], [6, 8, 9, 10], [6, 11], [6, 7, 10, 12], [6, 13], [13, 14], [15], [15, 16], [15, 17], [15, 18], [19], [19, 20], [19, 21], [19, 22], [23], [23, 24], [23, 25], [23, 26], [27], [27, 28], [27, 29], [0, 1, 2, 3, 4, 5, 6, 7, 8, 9, 10, 11, 12, 13, 14, 15, 16, 17, 18, 19, 20, 21, 22, 23, 24, 25, 26, 27, 28, 29, 30]] (upd d_ 18)) := O.step (show ∀ e ∈ ([15, 17] : List Nat), d_ e = true by simp [hdep])
      have q15 : d_ 15 = true := by simp [hdep]
      have q17 : d_ 17 = true := by simp [hdep]
      clear O
      rw [pk_of q15, pk_of q17]
      have HF := Lib.hid F
      clear F hdep
      go_simp
      refine HK.out _ _ ⟨?_, HF.out, HO.out⟩
      rw [pk_of (show upd d_ 18 15 = true from q15), pk_of (show upd d_ 18 17 = true from q17)]
      all_goals rfl
    · have HO : Hid (OrdP [[], [0], [1], [2], [2, 3], [2, 4], [2, 5], [6], [6], [6, 8], [6, 9], [6, 8, 9, 10], [6, 11], [6, 7, 10, 12], [6, 13], [13, 14], [15], [15, 16], [15, 17], [15, 18], [19], [19, 20], [19, 21], [19, 22], [23], [23, 24], [23, 25], [23, 26], [27], [27, 28], [27, 29], [0, 1, 2, 3, 4, 5, 6, 7, 8, 9, 10, 11, 12, 13, 14, 15, 16, 17, 18, 19, 20, 21, 22, 23, 24, 25, 26, 27, 28, 29, 30]] (upd d_ 19)) := O.step (show ∀ e ∈ ([15, 18] : List Nat), d_ e = true by simp [hdep])
      have q18 : d_ 18 = true := by simp [hdep]
      clear O
      rw [pk_of q18]
      have HF := Lib.hid F
      clear F hdep
      go_simp
      refine HK.out _ _ ⟨?_, HF.out, HO.out⟩
      rw [pk_of (show upd d_ 19 18 = true from q18)]
      all_goals rfl
    · have HO : Hid (OrdP [[], [0], [1], [2], [2, 3], [2, 4], [2, 5], [6], [6], [6, 8], [6, 9], [6, 8, 9, 10], [6, 11], [6, 7, 10, 12], [6, 13], [13, 14], [15], [15, 16], [15, 17], [15, 18], [19], [19, 20], [19, 21], [19, 22], [23], [23, 24], [23, 25], [23, 26], [27], [27, 28], [27, 29], [0, 1, 2, 3, 4, 5, 6, 7, 8, 9, 10, 11, 12, 13, 14, 15, 16, 17, 18, 19, 20, 21, 22, 23, 24, 25, 26, 27, 28, 29, 30]] (upd d_ 20)) := O.step (show ∀ e ∈ ([19] : List Nat), d_ e = true by simp [hdep])
      have q19 : d_ 19 = true := by simp [hdep]
      clear O
      rw [pk_of q19]
      have HF := Lib.hid F
      clear F hdep
      go_simp
      refine HK.out _ _ ⟨?_, HF.out, HO.out⟩
      rw [pk_of (show upd d_ 20 19 = true from q19)]
      all_goals rfl
    · have HO : Hid (OrdP [[], [0], [1], [2], [2, 3], [2, 4], [2, 5], [6], [6], [6, 8], [6, 9], [6, 8, 9, 10], [6, 11], [6, 7, 10, 12], [6, 13], [13, 14], [15], [15, 16], [15, 17], [15, 18], [19], [19, 20], [19, 21], [19, 22], [23], [23, 24], [23, 25], [23, 26], [27], [27, 28], [27, 29], [0, 1, 2, 3, 4, 5, 6, 7, 8, 9, 10, 11, 12, 13, 14, 15, 16, 17, 18, 19, 20, 21, 22, 23, 24, 25, 26, 27, 28, 29, 30]] (upd d_ 21)) := O.step (show ∀ e ∈ ([19, 20] : List Nat), d_ e = true by simp [hdep])
      have q19 : d_ 19 = true := by simp [hdep]
      have q20 : d_ 20 = true := by simp [hdep]
      clear O
      rw [pk_of q19, pk_of q20]
      have HF := Lib.hid F
      clear F hdep
      go_simp
      refine HK.out _ _ ⟨?_, HF.out, HO.out⟩
      rw [pk_of (show upd d_ 21 19 = true from q19), pk_of (show upd d_ 21 20 = true from q20)]
      all_goals rfl
    · have HO : Hid (OrdP [[], [0], [1], [2], [2, 3], [2, 4], [2, 5], [6], [6], [6, 8], [6, 9], [6, 8, 9, 10], [6, 11], [6, 7, 10, 12], [6, 13], [13, 14], [15], [15, 16], [15, 17], [15, 18], [19], [19, 20], [19, 21], [19, 22], [23], [23, 24], [23, 25], [23, 26], [27], [27, 28], [27, 29], [0, 1, 2, 3, 4, 5, 6, 7, 8, 9, 10, 11, 12, 13, 14, 15, 16, 17, 18, 19, 20, 21, 22, 23, 24, 25, 26, 27, 28, 29, 30]] (upd d_ 22)) := O.step (show ∀ e ∈ ([19, 21] : List Nat), d_ e = true by simp [hdep])
      have q19 : d_ 19 = true := by simp [hdep]
      have q21 : d_ 21 = true := by simp [hdep]
      clear O
      rw [pk_of q19, pk_of q21]
      have HF := Lib.hid F
      clear F hdep
      go_simp
      refine HK.out _ _ ⟨?_, HF.out, HO.out⟩
      rw [pk_of (show upd d_ 22 19 = true from q19), pk_of (show upd d_ 22 21 = true from q21)]
      all_goals rfl
    · have HO : Hid (OrdP [[], [0], [1], [2], [2, 3], [2, 4], [2, 5], [6], [6], [6, 8], [6, 9], [6, 8, 9, 10], [6, 11], [6, 7, 10, 12], [6, 13], [13, 14], [15], [15, 16], [15, 17], [15, 18], [19], [19, 20], [19, 21], [19, 22], [23], [23, 24], [23, 25], [23, 26], [27], [27, 28], [27, 29], [0, 1, 2, 3, 4, 5, 6, 7, 8, 9, 10, 11, 12, 13, 14, 15, 16, 17, 18, 19, 20, 21, 22, 23, 24, 25, 26, 27, 28, 29, 30]] (upd d_ 23)) := O.step (show ∀ e ∈ ([19, 22] : List Nat), d_ e = true by simp [hdep])
      have q22 : d_ 22 = true := by simp [hdep]
      clear O
      rw [pk_of q22]
      have HF := Lib.hid F
      clear F hdep
      go_simp
      refine HK.out _ _ ⟨?_, HF.out, HO.out⟩
      rw [pk_of (show upd d_ 23 22 = true from q22)]
      all_goals rfl
    · have HO : Hid (OrdP [[], [0], [1], [2], [2, 3], [2, 4], [2, 5], [6], [6], [6, 8], [6, 9], [6, 8, 9, 10], [6, 11], [6, 7, 10, 12], [6, 13], [13, 14], [15], [15, 16], [15, 17], [15, 18], [19], [19, 20], [19, 21], [19, 22], [23], [23, 24], [23, 25], [23, 26], [27], [27, 28], [27, 29], [0, 1, 2, 3, 4, 5, 6, 7, 8, 9, 10, 11, 12, 13, 14, 15, 16, 17, 18, 19, 20, 21, 22, 23, 24, 25, 26, 27, 28, 29, 30]] (upd d_ 24)) := O.step (show ∀ e ∈ ([23] : List Nat), d_ e = true by simp [hdep])
      have q23 : d_ 23 = true := by simp [hdep]
      clear O
      rw [pk_of q23]
      have HF := Lib.hid F
      clear F hdep
      go_simp
      refine HK.out _ _ ⟨?_, HF.out, HO.out⟩
      rw [pk_of (show upd d_ 24 23 = true from q23)]
      all_goals rfl
    · have HO : Hid (OrdP [[], [0], [1], [2], [2, 3], [2, 4], [2, 5], [6], [6], [6, 8], [6, 9], [6, 8, 9, 10], [6, 11], [6, 7, 10, 12], [6, 13], [13, 14], [15], [15, 16], [15, 17], [15, 18], [19], [19, 20], [19, 21], [19, 22], [23], [23, 24], [23, 25], [23, 26], [27], [27, 28], [27, 29], [0, 1, 2, 3, 4, 5, 6, 7, 8, 9, 10, 11, 12, 13, 14, 15, 16, 17, 18, 19, 20, 21, 22, 23, 24, 25, 26, 27, 28, 29, 30]] (upd d_ 25)) := O.step (show ∀ e ∈ ([23, 24] : List Nat), d_ e = true by simp [hdep])
      have q23 : d_ 23 = true := by simp [hdep]
      have q24 : d_ 24 = true := by simp [hdep]
      clear O
      rw [pk_of q23, pk_of q24]
      have HF := Lib.hid F
      clear F hdep
      go_simp
      refine HK.out _ _ ⟨?_, HF.out, HO.out⟩
      rw [pk_of (show upd d_ 25 23 = true from q23), pk_of (show upd d_ 25 24 = true from q24)]
      all_goals rfl
    · have HO : Hid (OrdP [[], [0], [1], [2], [2, 3], [2, 4], [2, 5], [6], [6], [6, 8], [6, 9], [6, 8, 9, 10], [6, 11], [6, 7, 10, 12], [6, 13], [13, 14], [15], [15, 16], [15, 17], [15, 18], [19], [19, 20], [19, 21], [19, 22], [23], [23, 24], [23, 25], [23, 26], [27], [27, 28], [27, 29], [0, 1, 2, 3, 4, 5, 6, 7, 8, 9, 10, 11, 12, 13, 14, 15, 16, 17, 18, 19, 20, 21, 22, 23, 24, 25, 26, 27, 28, 29, 30]] (upd d_ 26)) := O.step (show ∀ e ∈ ([23, 25] : List Nat), d_ e = true by simp [hdep])
      have q23 : d_ 23 = true := by simp [hdep]
      have q25 : d_ 25 = true := by simp [hdep]
      clear O
      rw [pk_of q23, pk_of q25]
      have HF := Lib.hid F
      clear F hdep
      go_simp
      refine HK.out _ _ ⟨?_, HF.out, HO.out⟩
      rw [pk_of (show upd d_ 26 23 = true from q23), pk_of (show upd d_ 26 25 = true from q25)]
      all_goals rfl
    · have HO : Hid (OrdP [[], [0], [1], [2], [2, 3], [2, 4], [2, 5], [6], [6], [6, 8], [6, 9], [6, 8, 9, 10], [6, 11], [6, 7, 10, 12], [6, 13], [13, 14], [15], [15, 16], [15, 17], [15, 18], [19], [19, 20], [19, 21], [19, 22], [23], [23, 24], [23, 25], [23, 26], [27], [27, 28], [27, 29], [0, 1, 2, 3, 4, 5, 6, 7, 8, 9, 10, 11, 12, 13, 14, 15, 16, 17, 18, 19, 20, 21, 22, 23, 24, 25, 26, 27, 28, 29, 30]] (upd d_ 27)) := O.step (show ∀ e ∈ ([23, 26] : List Nat), d_ e = true by simp [hdep])
      have q26 : d_ 26 = true := by simp [hdep]
      clear O
      rw [pk_of q26]
      have HF := Lib.hid F
      clear F hdep
      go_simp
      refine HK.out _ _ ⟨?_, HF.out, HO.out⟩
      rw [pk_of (show upd d_ 27 26 = true from q26)]
      all_goals rfl
    · have HO : Hid (OrdP [[], [0], [1], [2], [2, 3], [2, 4], [2, 5], [6], [6], [6, 8], [6, 9], [6, 8, 9, 10], [6, 11], [6, 7, 10, 12], [6, 13], [13, 14], [15], [15, 16], [15, 17], [15, 18], [19], [19, 20], [19, 21], [19, 22], [23], [23, 24], [23, 25], [23, 26], [27], [27, 28], [27, 29], [0, 1, 2, 3, 4, 5, 6, 7, 8, 9, 10, 11, 12, 13, 14, 15, 16, 17, 18, 19, 20, 21, 22, 23, 24, 25, 26, 27, 28, 29, 30]] (upd d_ 28)) := O.step (show ∀ e ∈ ([27] : List Nat), d_ e = true by simp [hdep])
      have q27 : d_ 27 = true := by simp [hdep]
      clear O
      rw [pk_of q27]
      have HF := Lib.hid F
      clear F hdep
      go_simp
      refine HK.out _ _ ⟨?_, HF.out, HO.out⟩
      rw [pk_of (show upd d_ 28 27 = true from q27)]
      all_goals rfl
    · have HO : Hid (OrdP [[], [0], [1], [2], [2, 3], [2, 4], [2, 5], [6], [6], [6, 8], [6, 9], [6, 8, 9, 10], [6, 11], [6, 7, 10, 12], [6, 13], [13, 14], [15], [15, 16], [15, 17], [15, 18], [19], [19, 20], [19, 21], [19, 22], [23], [23, 24], [23, 25], [23, 26], [27], [27, 28], [27, 29], [0, 1, 2, 3, 4, 5, 6, 7, 8, 9, 10, 11, 12, 13, 14, 15, 16, 17, 18, 19, 20, 21, 22, 23, 24, 25, 26, 27, 28, 29, 30]] (upd d_ 29)) := O.step (show ∀ e ∈ ([27, 28] : List Nat), d_ e = true by simp [hdep])
      have q27 : d_ 27 = true := by simp [hdep]
      have q28 : d_ 28 = true := by simp [hdep]
      clear O
      rw [pk_of q27, pk_of q28]
      have HF := Lib.hid F
      clear F hdep
      go_simp
      refine HK.out _ _ ⟨?_, HF.out, HO.out⟩
      rw [pk_of (show upd d_ 29 27 = true from q27), pk_of (show upd d_ 29 28 = true from q28)]
      all_goals rfl
    · have HO : Hid (OrdP [[], [0], [1], [2], [2, 3], [2, 4], [2, 5], [6], [6], [6, 8], [6, 9], [6, 8, 9, 10], [6, 11], [6, 7, 10, 12], [6, 13], [13, 14], [15], [15, 16], [15, 17], [15, 18], [19], [19, 20], [19, 21], [19, 22], [23], [23, 24], [23, 25], [23, 26], [27], [27, 28], [27, 29], [0, 1, 2, 3, 4, 5, 6, 7, 8, 9, 10, 11, 12, 13, 14, 15, 16, 17, 18, 19, 20, 21, 22, 23, 24, 25, 26, 27, 28, 29, 30]] (upd d_ 30)) := O.step (show ∀ e ∈ ([27, 29] : List Nat), d_ e = true by simp [hdep])
      have q27 : d_ 27 = true := by simp [hdep]
      have q29 : d_ 29 = true := by simp [hdep]
      clear O
      rw [pk_of q27, pk_of q29]
      have HF := Lib.hid F
      clear F hdep
      go_simp
      refine HK.out _ _ ⟨?_, HF.out, HO.out⟩
      rw [pk_of (show upd d_ 30 27 = true from q27), pk_of (show upd d_ 30 29 = true from q29)]
      all_goals rfl
    · have HO : Hid (OrdP [[], [0], [1], [2], [2, 3], [2, 4], [2, 5], [6], [6], [6, 8], [6, 9], [6, 8, 9, 10], [6, 11], [6, 7, 10, 12], [6, 13], [13, 14], [15], [15, 16], [15, 17], [15, 18], [19], [19, 20], [19, 21], [19, 22], [23], [23, 24], [23, 25], [23, 26], [27], [27, 28], [27, 29], [0, 1, 2, 3, 4, 5, 6, 7, 8, 9, 10, 11, 12, 13, 14, 15, 16, 17, 18, 19, 20, 21, 22, 23, 24, 25, 26, 27, 28, 29, 30]] (upd d_ 31)) := O.step (show ∀ e ∈ ([0, 1, 2, 3, 4, 5, 6, 7, 8, 9, 10, 11, 12, 13, 14, 15, 16, 17, 18, 19, 20, 21, 22, 23, 24, 25, 26, 27, 28, 29, 30] : List Nat), d_ e = true by simp [hdep])
      have q30 : d_ 30 = true := by simp [hdep]
      clear O
      rw [pk_of q30]
      have HF := Lib.hid F
      clear F hdep
      go_simp
      refine HK.out _ _ ⟨?_, HF.out, HO.out⟩
      rw [pk_of (show upd d_ 31 30 = true from q30)]
      all_goals rfl
  · rintro d_ a_ w1 hall ⟨rfl, F, O⟩
    have hall' : ∀ k, k < 32 → d_ k = true := hall
    rw [hall' 8 (by decide), hall' 9 (by decide), hall' 10 (by decide), hall' 11 (by decide), hall' 13 (by decide)] at F
    have HF := Lib.hid F
    clear F
    rw [pk_of (hall' 0 (by decide)), pk_of (hall' 1 (by decide)), pk_of (hall' 2 (by decide)), pk_of (hall' 3 (by decide)), pk_of (hall' 4 (by decide)), pk_of (hall' 5 (by decide)), pk_of (hall' 6 (by decide)), pk_of (hall' 7 (by decide)), pk_of (hall' 8 (by decide)), pk_of (hall' 9 (by decide)), pk_of (hall' 10 (by decide)), pk_of (hall' 11 (by decide)), pk_of (hall' 12 (by decide)), pk_of (hall' 13 (by decide)), pk_of (hall' 14 (by decide)), pk_of (hall' 15 (by decide)), pk_of (hall' 16 (by decide)), pk_of (hall' 17 (by decide)), pk_of (hall' 18 (by decide)), pk_of (hall' 19 (by decide)), pk_of (hall' 20 (by decide)), pk_of (hall' 21 (by decide)), pk_of (hall' 22 (by decide)), pk_of (hall' 23 (by decide)), pk_of (hall' 24 (by decide)), pk_of (hall' 25 (by decide)), pk_of (hall' 26 (by decide)), pk_of (hall' 27 (by decide)), pk_of (hall' 28 (by decide)), pk_of (hall' 29 (by decide)), pk_of (hall' 30 (by decide)), pk_of (hall' 31 (by decide))]
    exact HQ.out w1 HF.out
end Go.Proofs.Ytjkhclijmcmdjaa
namespace Go.Proofs.Ytjkhclijmcmdjaa
open Go.RowKit
set_option linter.unusedVariables false
set_option linter.unusedSimpArgs false
theorem spns_three {w : World} {g : Nat} {a b c d e f : Int} (h : w.heap[g]? = some (.cells #[.int .i64 a, .int .i64 b, .int .i64 c, .int .i64 d, .int .i64 e, .int .i64 f] 23 (0, 0))) : IsSpns w (some ⟨g, 0, none⟩) [⟨a, b⟩, ⟨c, d⟩, ⟨e, f⟩] := fun i hi => by
  match i, hi with
  | 0, _ => exact ⟨g, 0, rfl, by rw [cell_of_heap h]; rfl, by rw [cell_of_heap h]; rfl⟩
  | 1, _ => exact ⟨g, 0, rfl, by rw [cell_of_heap h]; rfl, by rw [cell_of_heap h]; rfl⟩
  | 2, _ => exact ⟨g, 0, rfl, by rw [cell_of_heap h]; rfl, by rw [cell_of_heap h]; rfl⟩
  | i + 3, hi => have h3 : i + 3 < 3 := hi; omega
theorem sample_small : sampleP.Small := ⟨by decide, by decide, by decide⟩
set_option maxRecDepth 100000 in
set_option maxHeartbeats 4000000 in
theorem awake14 {w : World} : Calls Try.prog 14 #[] w fun e w' => e = .returned (.bool true) ∧ Below w.heap.size w w' := by
  have HW0 : Hid (Below w.heap.size w w) := Below.refl _ w
  go_enter Try.func14, Try.ntmps14
  refine wp_seq_hid ?_
  intro K0 HK0
  go_wp2_with fail
  refine HK0.out _ _ ?_
  clear HK0 K0
  refine wp_seq_hid ?_
  intro K1 HK1
  go_wp2_with fail
  refine (sample39 (w := _)).mono ?_
  rintro e v1 ⟨A1, rfl, hP, hcap, hb⟩
  have HP1 := Lib.hid (And.intro hP hcap)
  have HV1 := Lib.hid (HW0.out.trans (hb.mono HW0.out.size))
  have HS1 := Lib.hid hb
  clear hP hcap hb
  go_wp2_with fail
  have HA := Lib.hid (World.alloc_heap_new v1 (.cells #[.int .i64 2, .int .i64 1, .int .i64 1] 3))
  have HB : Hid (Below v1.heap.size v1 (v1.alloc (.cells #[.int .i64 2, .int .i64 1, .int .i64 1] 3))) := (Below.refl _ v1).alloc (Nat.le_refl _) _
  revert HA HB
  generalize v1.alloc (.cells #[.int .i64 2, .int .i64 1, .int .i64 1] 3) = x1
  generalize hg : v1.heap.size = g1
  intro HA HB
  have HBx : Hid (Below v1.heap.size v1 x1) := by rw [hg]; exact HB.out
  clear hg HB
  refine (forme40 (w := _)).mono ?_
  rintro e y1 ⟨rfl, hb⟩
  have HI1 : Hid (IsInts y1 (some ⟨g1, 0, none⟩) [2, 1, 1]) := (ints_three HA.out).mono hb
  have HY1 := Lib.hid (HBx.out.trans (hb.mono HBx.out.size))
  clear hb HA HBx
  go_wp2_with fail
  have G := gives15 (p := sampleP) (f := ⟨[2, 1, 1], 12⟩) (c := 3) (HP1.out.1.mono HY1.out) sample_small HI1.out (by decide)
  rw [givesS] at G
  refine G.mono ?_
  rintro e w1 ⟨av1, cv1, rfl, hsp, hb⟩
  have HG1 := Lib.hid hsp
  have HW1 := Lib.hid (HV1.out.trans ((HY1.out.trans (hb.mono HY1.out.size)).mono HV1.out.size))
  clear hsp hb G HI1 HY1 HP1 HS1 HV1
  go_wp2_with fail
  refine HK1.out _ _ ?_
  clear HK1 K1
  refine wp_seq_hid ?_
  intro K2 HK2
  go_wp2_with fail
  refine (sample39 (w := _)).mono ?_
  rintro e v2 ⟨A2, rfl, hP, hcap, hb⟩
  have HP2 := Lib.hid (And.intro hP hcap)
  have HV2 := Lib.hid (HW1.out.trans (hb.mono HW1.out.size))
  have HS2 := Lib.hid hb
  clear hP hcap hb
  go_wp2_with fail
  have HA := Lib.hid (World.alloc_heap_new v2 (.cells #[.int .i64 1, .int .i64 2, .int .i64 1] 3))
  have HB : Hid (Below v2.heap.size v2 (v2.alloc (.cells #[.int .i64 1, .int .i64 2, .int .i64 1] 3))) := (Below.refl _ v2).alloc (Nat.le_refl _) _
  revert HA HB
  generalize v2.alloc (.cells #[.int .i64 1, .int .i64 2, .int .i64 1] 3) = x2
  generalize hg : v2.heap.size = g2
  intro HA HB
  have HBx : Hid (Below v2.heap.size v2 x2) := by rw [hg]; exact HB.out
  clear hg HB
  refine (forme40 (w := _)).mono ?_
  rintro e y2 ⟨rfl, hb⟩
  have HI2 : Hid (IsInts y2 (some ⟨g2, 0, none⟩) [1, 2, 1]) := (ints_three HA.out).mono hb
  have HY2 := Lib.hid (HBx.out.trans (hb.mono HBx.out.size))
  clear hb HA HBx
  go_wp2_with fail
  have HAL : Hid (Below y2.heap.size y2 (y2.alloc (.cells #[.slice (some ⟨g2, 0, none⟩) 3 3, .int .i64 11] 29))) := (Below.refl _ y2).alloc (Nat.le_refl _) _
  have HF := Lib.hid (fmes_one (f := ⟨[1, 2, 1], 11⟩) (World.alloc_heap_new y2 (.cells #[.slice (some ⟨g2, 0, none⟩) 3 3, .int .i64 11] 29)) (HI2.out.mono HAL.out))
  have HYA := Lib.hid (HY2.out.trans (HAL.out.mono HY2.out.size))
  have G := check17 (p := sampleP) (A := A2) (l := [⟨[1, 2, 1], 11⟩]) (c := 1) (HP2.out.1.mono HYA.out) sample_small HF.out (by decide) (by decide)
  rw [checkS] at G
  refine G.mono ?_
  rintro e w2 ⟨rfl, hb⟩
  have HT := Lib.hid (HS2.out.trans ((HYA.out.trans (hb.mono HYA.out.size)).mono HS2.out.size))
  have HW2 := Lib.hid (HV2.out.trans ((HYA.out.trans (hb.mono HYA.out.size)).mono HV2.out.size))
  have HN2 : Hid (Below w1.heap.size w1 w2) := HT.out
  clear HT hb G HI2 HY2 HP2 HS2 HV2 HAL HYA HF
  go_wp2_with fail
  refine HK2.out _ _ ?_
  clear HK2 K2
  refine wp_seq_hid ?_
  intro K3 HK3
  go_wp2_with fail
  refine (sample39 (w := _)).mono ?_
  rintro e v3 ⟨A3, rfl, hP, hcap, hb⟩
  have HP3 := Lib.hid (And.intro hP hcap)
  have HV3 := Lib.hid (HW2.out.trans (hb.mono HW2.out.size))
  have HS3 := Lib.hid hb
  clear hP hcap hb
  go_wp2_with fail
  have HA := Lib.hid (World.alloc_heap_new v3 (.cells #[.int .i64 2, .int .i64 1, .int .i64 1] 3))
  have HB : Hid (Below v3.heap.size v3 (v3.alloc (.cells #[.int .i64 2, .int .i64 1, .int .i64 1] 3))) := (Below.refl _ v3).alloc (Nat.le_refl _) _
  revert HA HB
  generalize v3.alloc (.cells #[.int .i64 2, .int .i64 1, .int .i64 1] 3) = x3
  generalize hg : v3.heap.size = g3
  intro HA HB
  have HBx : Hid (Below v3.heap.size v3 x3) := by rw [hg]; exact HB.out
  clear hg HB
  refine (forme40 (w := _)).mono ?_
  rintro e y3 ⟨rfl, hb⟩
  have HI3 : Hid (IsInts y3 (some ⟨g3, 0, none⟩) [2, 1, 1]) := (ints_three HA.out).mono hb
  have HY3 := Lib.hid (HBx.out.trans (hb.mono HBx.out.size))
  clear hb HA HBx
  go_wp2_with fail
  have HAL : Hid (Below y3.heap.size y3 (y3.alloc (.cells #[.slice (some ⟨g3, 0, none⟩) 3 3, .int .i64 11] 29))) := (Below.refl _ y3).alloc (Nat.le_refl _) _
  have HF := Lib.hid (fmes_one (f := ⟨[2, 1, 1], 11⟩) (World.alloc_heap_new y3 (.cells #[.slice (some ⟨g3, 0, none⟩) 3 3, .int .i64 11] 29)) (HI3.out.mono HAL.out))
  have HYA := Lib.hid (HY3.out.trans (HAL.out.mono HY3.out.size))
  have G := cost19 (p := sampleP) (A := A3) (l := [⟨[2, 1, 1], 11⟩]) (c := 1) (HP3.out.1.mono HYA.out) sample_small HF.out (by decide) (by decide)
  rw [costS] at G
  refine G.mono ?_
  rintro e w3 ⟨rfl, hb⟩
  have HT := Lib.hid (HS3.out.trans ((HYA.out.trans (hb.mono HYA.out.size)).mono HS3.out.size))
  have HW3 := Lib.hid (HV3.out.trans ((HYA.out.trans (hb.mono HYA.out.size)).mono HV3.out.size))
  have HN3 : Hid (Below w2.heap.size w2 w3) := HT.out
  clear HT hb G HI3 HY3 HP3 HS3 HV3 HAL HYA HF
  go_wp2_with fail
  refine HK3.out _ _ ?_
  clear HK3 K3
  refine wp_seq_hid ?_
  intro K4 HK4
  go_wp2_with fail
  refine (sample39 (w := _)).mono ?_
  rintro e v4 ⟨A4, rfl, hP, hcap, hb⟩
  have HP4 := Lib.hid (And.intro hP hcap)
  have HV4 := Lib.hid (HW3.out.trans (hb.mono HW3.out.size))
  have HS4 := Lib.hid hb
  clear hP hcap hb
  go_wp2_with fail
  have G := best23 (p := sampleP) HP4.out.1 sample_small
  rw [best_sample] at G
  refine G.mono ?_
  rintro e w4 ⟨ab, cb, rfl, hpl, hb⟩
  have HN4 := Lib.hid (HS4.out.trans (hb.mono HS4.out.size))
  have HW4 := Lib.hid (HV4.out.trans (hb.mono HV4.out.size))
  have HG4 := Lib.hid hpl
  clear hpl
  clear hb G HP4 HS4 HV4
  go_wp2_with fail
  refine HK4.out _ _ ?_
  clear HK4 K4
  refine wp_seq_hid ?_
  intro K5 HK5
  go_wp2_with fail
  refine (sample39 (w := _)).mono ?_
  rintro e v5 ⟨A5, rfl, hP, hcap, hb⟩
  have HP5 := Lib.hid (And.intro hP hcap)
  have HV5 := Lib.hid (HW4.out.trans (hb.mono HW4.out.size))
  have HS5 := Lib.hid hb
  clear hP hcap hb
  go_wp2_with fail
  have G := play26 (p := sampleP) HP5.out.1 sample_small
  rw [playS] at G
  refine G.mono ?_
  rintro e w5 ⟨rfl, hb⟩
  have HN5 := Lib.hid (HS5.out.trans (hb.mono HS5.out.size))
  have HW5 := Lib.hid (HV5.out.trans (hb.mono HV5.out.size))
  clear hb G HP5 HS5 HV5
  go_wp2_with fail
  refine HK5.out _ _ ?_
  clear HK5 K5
  refine wp_seq_hid ?_
  intro K6 HK6
  go_wp2_with fail
  refine (sample39 (w := _)).mono ?_
  rintro e v6 ⟨A6, rfl, hP, hcap, hb⟩
  have HP6 := Lib.hid (And.intro hP hcap)
  have HV6 := Lib.hid (HW5.out.trans (hb.mono HW5.out.size))
  have HS6 := Lib.hid hb
  clear hP hcap hb
  go_wp2_with fail
  have G := on28 (p := sampleP) (n := 3) HP6.out.1 sample_small HP6.out.2
  rw [onS] at G
  refine G.mono ?_
  rintro e w6 ⟨ah, ch, rfl, hsh, hb⟩
  have HN6 := Lib.hid (HS6.out.trans (hb.mono HS6.out.size))
  have HW6 := Lib.hid (HV6.out.trans (hb.mono HV6.out.size))
  have HG6 := Lib.hid hsh
  clear hsh
  clear hb G HP6 HS6 HV6
  have HQ2 := Lib.hid (World.alloc_heap_new w6 (.cells #[.int .i64 18, .int .i64 550, .slice ah 3 ch] 48))
  have HNB0 : Hid (Below w6.heap.size w6 (w6.alloc (.cells #[.int .i64 18, .int .i64 550, .slice ah 3 ch] 48))) := (Below.refl _ w6).alloc (Nat.le_refl _) _
  go_wp2_with fail
  refine HK6.out _ _ ?_
  clear HK6 K6
  revert HQ2 HNB0
  generalize w6.alloc (.cells #[.int .i64 18, .int .i64 550, .slice ah 3 ch] 48) = w7
  generalize hb48 : w6.heap.size = b48
  intro HQ2 HNB0
  have HNB : Hid (Below w6.heap.size w6 w7) := by rw [hb48]; exact HNB0.out
  clear HNB0 hb48
  have HW7 := Lib.hid (HW6.out.trans (HNB.out.mono HW6.out.size))
  refine wp_seq_hid ?_
  intro K7 HK7
  go_wp2_with fail
  refine (sample39 (w := _)).mono ?_
  rintro e v8 ⟨A8, rfl, hP, hcap, hb⟩
  have HP8 := Lib.hid (And.intro hP hcap)
  have HV8 := Lib.hid (HW7.out.trans (hb.mono HW7.out.size))
  have HS8 := Lib.hid hb
  clear hP hcap hb
  go_wp2_with fail
  have G := starts30 (p := sampleP) HP8.out.1 sample_small
  rw [startsS] at G
  refine G.mono ?_
  rintro e w8 ⟨rfl, hb⟩
  have HN8 := Lib.hid (HS8.out.trans (hb.mono HS8.out.size))
  have HW8 := Lib.hid (HV8.out.trans (hb.mono HV8.out.size))
  clear hb G HP8 HS8 HV8
  go_wp2_with fail
  refine HK7.out _ _ ?_
  clear HK7 K7
  have H1 := Lib.hid (HG1.out.mono (HN2.out.trans ((HN3.out.trans ((HN4.out.trans ((HN5.out.trans ((HN6.out.trans ((HNB.out.trans (HN8.out.mono HNB.out.size)).mono HN6.out.size)).mono HN5.out.size)).mono HN4.out.size)).mono HN3.out.size)).mono HN2.out.size)))
  have H4 := Lib.hid (HG4.out.mono (HN5.out.trans ((HN6.out.trans ((HNB.out.trans (HN8.out.mono HNB.out.size)).mono HN6.out.size)).mono HN5.out.size)))
  have H6 := Lib.hid (HG6.out.mono (HNB.out.trans (HN8.out.mono HNB.out.size)))
  have H7 := Lib.hid ((HN8.out.block _ (heap_lt HQ2.out)).trans HQ2.out)
  clear HG1 HG4 HG6 HN2 HN3 HN4 HN5 HN6 HNB HN8 HQ2 HW0 HW1 HW2 HW3 HW4 HW5 HW6 HW7
  refine wp_seq_hid ?_
  intro K8 HK8
  go_wp2_with fail
  refine (span35 (w := _)).mono ?_
  rintro e q1 ⟨rfl, hq1⟩
  go_wp2_with fail
  refine (span35 (w := _)).mono ?_
  rintro e q2 ⟨rfl, hq2⟩
  go_wp2_with fail
  refine (span35 (w := _)).mono ?_
  rintro e q3 ⟨rfl, hq3⟩
  go_wp2_with fail
  have HQ3 : Hid (Below w8.heap.size w8 q3) := hq1.trans ((hq2.trans (hq3.mono hq2.size)).mono hq1.size)
  clear hq1 hq2 hq3
  have HAL : Hid (Below q3.heap.size q3 (q3.alloc (.cells #[.int .i64 20, .int .i64 24, .int .i64 10, .int .i64 12, .int .i64 10, .int .i64 12] 23))) := (Below.refl _ q3).alloc (Nat.le_refl _) _
  have HAA := Lib.hid (HQ3.out.trans (HAL.out.mono HQ3.out.size))
  have G := spans21 (ca := cv1) (cb := 3) (H1.out.mono HAA.out) (spns_three (World.alloc_heap_new q3 (.cells #[.int .i64 20, .int .i64 24, .int .i64 10, .int .i64 12, .int .i64 10, .int .i64 12] 23))) (by decide) (by decide)
  rw [decide_eq_true rfl] at G
  refine G.mono ?_
  rintro e q4 ⟨rfl, hb⟩
  have HQ4 := Lib.hid (HAA.out.trans (hb.mono HAA.out.size))
  clear hb G HAL HAA HQ3 H1
  go_wp2_with fail
  have HA := Lib.hid (World.alloc_heap_new q4 (.cells #[.int .i64 2, .int .i64 1, .int .i64 1] 3))
  have HB : Hid (Below q4.heap.size q4 (q4.alloc (.cells #[.int .i64 2, .int .i64 1, .int .i64 1] 3))) := (Below.refl _ q4).alloc (Nat.le_refl _) _
  revert HA HB
  generalize q4.alloc (.cells #[.int .i64 2, .int .i64 1, .int .i64 1] 3) = x9
  generalize hg : q4.heap.size = g9
  intro HA HB
  have HBx : Hid (Below q4.heap.size q4 x9) := by rw [hg]; exact HB.out
  clear hg HB
  refine (forme40 (w := _)).mono ?_
  rintro e y9 ⟨rfl, hb⟩
  have HI9 : Hid (IsInts y9 (some ⟨g9, 0, none⟩) [2, 1, 1]) := (ints_three HA.out).mono hb
  have HY9 := Lib.hid (HQ4.out.trans ((HBx.out.trans (hb.mono HBx.out.size)).mono HQ4.out.size))
  clear hb HA HBx HQ4
  go_wp2_with fail
  have HAL : Hid (Below y9.heap.size y9 (y9.alloc (.cells #[.slice (some ⟨g9, 0, none⟩) 3 3, .int .i64 12] 29))) := (Below.refl _ y9).alloc (Nat.le_refl _) _
  have HAA := Lib.hid (HY9.out.trans (HAL.out.mono HY9.out.size))
  have HF := Lib.hid (fmes_one (f := ⟨[2, 1, 1], 12⟩) (World.alloc_heap_new y9 (.cells #[.slice (some ⟨g9, 0, none⟩) 3 3, .int .i64 12] 29)) (HI9.out.mono HAL.out))
  have G := formes25 (ca := cb) (cb := 1) (H4.out.mono HAA.out) HF.out (by decide) (by decide) (by decide) (by decide)
  rw [decide_eq_true rfl] at G
  refine G.mono ?_
  rintro e q5 ⟨rfl, hb⟩
  have HQ5 := Lib.hid (HAA.out.trans (hb.mono HAA.out.size))
  clear hb G HAL HAA HF HI9 HY9 H4
  go_wp2_with fail
  refine HK8.out _ _ ?_
  clear HK8 K8
  have HS8 : Hid (w8.heap.size ≤ q5.heap.size) := HQ5.out.size
  refine wp_seq_hid ?_
  intro K9 HK9
  refine wpIn_wide.1 (awk10 (b48 := b48) (ah := ah) (ch := ch) (S := q5.heap.size)
    (P0 := fun v => v.heap.size = q5.heap.size ∧ Below q5.heap.size q5 v) (P1 := fun v => v.heap.size = q5.heap.size + 1 ∧ Below q5.heap.size q5 v) (P2 := fun v => v.heap.size = q5.heap.size + 2 ∧ Below q5.heap.size q5 v)
    (P3 := fun v => v.heap.size = q5.heap.size + 3 ∧ Below q5.heap.size q5 v) (P4 := fun v => v.heap[q5.heap.size + 3]? = some (.cells #[.int .i64 5, .int .i64 9, .int .i64 10, .int .i64 12, .int .i64 10, .int .i64 12] 23 (0, 0)) ∧ Below q5.heap.size q5 v)
    (P5 := fun v => Below q5.heap.size q5 v) ?h0 ?l7 ?c8 ?c9 ?c10 ?r11 ?c13 ?hQ)
  case h0 => exact ⟨rfl, (Below.refl _ q5).drew⟩
  case l7 =>
    intro v h
    have hb : Below w8.heap.size w8 v := by
      rcases h with h | h | h | h | h
      · exact HQ5.out.trans (h.2.mono HS8.out)
      · exact HQ5.out.trans (h.2.mono HS8.out)
      · exact HQ5.out.trans (h.2.mono HS8.out)
      · exact HQ5.out.trans (h.2.mono HS8.out)
      · exact HQ5.out.trans (h.2.mono HS8.out)
    have hx := (hb.block _ (heap_lt H7.out)).trans H7.out
    exact ⟨by rw [cell_of_heap hx]; rfl, by rw [cell_of_heap hx]; rfl, by rw [cell_of_heap hx]; rfl⟩
  case c8 => intro v h; exact span35n.mono fun e w' ⟨h1, h2, h3⟩ => ⟨h1, by rw [h3, h.1], h.2.trans (h2.mono h.2.size)⟩
  case c9 => intro v h; exact span35n.mono fun e w' ⟨h1, h2, h3⟩ => ⟨h1, by rw [h3, h.1], h.2.trans (h2.mono h.2.size)⟩
  case c10 => intro v h; exact span35n.mono fun e w' ⟨h1, h2, h3⟩ => ⟨h1, by rw [h3, h.1], h.2.trans (h2.mono h.2.size)⟩
  case r11 =>
    intro v h
    have hq := World.alloc_heap_new v (.cells #[.int .i64 5, .int .i64 9, .int .i64 10, .int .i64 12, .int .i64 10, .int .i64 12] 23)
    have hb : Below v.heap.size v (v.alloc (.cells #[.int .i64 5, .int .i64 9, .int .i64 10, .int .i64 12, .int .i64 10, .int .i64 12] 23)) := (Below.refl _ v).alloc (Nat.le_refl _) _
    rw [h.1] at hq
    exact ⟨h.1, hq, h.2.trans (hb.mono h.2.size)⟩
  case c13 =>
    intro v h
    have hb : Below w8.heap.size w8 v := HQ5.out.trans (h.2.mono HS8.out)
    have G := shelf32 (s := ⟨18, 550, [⟨5, 9⟩, ⟨10, 12⟩, ⟨10, 12⟩]⟩) (t := ⟨18, 550, [⟨5, 9⟩, ⟨10, 12⟩, ⟨10, 12⟩]⟩) (ca := ch) (cb := 3) (H6.out.mono hb) (spns_three h.1) (by decide) (by decide)
    have E : shfSame ⟨18, 550, [⟨5, 9⟩, ⟨10, 12⟩, ⟨10, 12⟩]⟩ ⟨18, 550, [⟨5, 9⟩, ⟨10, 12⟩, ⟨10, 12⟩]⟩ = true := by decide
    rw [E] at G
    exact G.mono fun e w' ⟨h1, h2⟩ => ⟨h1, h.2.trans (h2.mono h.2.size)⟩
  intro v hv
  have HV := Lib.hid (HW8.out.trans ((HQ5.out.trans (hv.mono HS8.out)).mono HW8.out.size))
  clear hv
  refine HK9.out _ _ ?_
  clear HK9 K9
  go_wp2_with fail
  go_ret
  exact ⟨rfl, HV.out⟩
end Go.Proofs.Ytjkhclijmcmdjaa
namespace Go.Proofs.Ytjkhclijmcmdjaa
open Go.RowKit
set_option linter.unusedVariables false
set_option linter.unusedSimpArgs false
theorem runF_len (p : Prs) : ∀ (l : List Dl) (s : Shf) (k : Nat), (p.runF s l k).1.cards.length = s.cards.length
  | [], s, k => rfl
  | d :: r, s, k => by
    cases h : p.deal s d with
    | none => rw [runF_none h]
    | some t => rw [runF_some h, runF_len p r t, deal_len h]
theorem on_len {p : Prs} (n : Int) : (onE p n).1.cards.length ≤ p.wanted.length := by
  unfold onE
  by_cases h : p.openE (inR n 0 p.deals.length) = 0
  · simp only [h, ↓reduceIte]
    split
    · show (p.runF p.first (p.deals.take n.toNat) 0).1.cards.length ≤ _
      rw [runF_len]
      simp [Prs.first]
    · simp
  · simp [h]
theorem shf_refl (s : Shf) : shfSame s s = true := by simp [shfSame]
set_option maxRecDepth 100000 in
set_option maxHeartbeats 4000000 in
theorem stockPlays_any {p : Prs} {A : PrsA} {w : World} (hP : IsPrs w p A) (hcap : p.deals.length ≤ A.cd) (n : Int) :
    Calls Try.prog 5 #[p.v A, .int .i64 n] w fun e w' => e = .returned (.bool true) ∧ Below w.heap.size w w' := by
  have hb0 : Below w.heap.size w (w.alloc (.cells (p.arr A) 27)) := (Below.refl _ w).alloc (Nat.le_refl _) _
  have q0 := World.alloc_heap_new w (.cells (p.arr A) 27)
  have HW := Lib.hid (And.intro hb0 (And.intro q0 (hP.mono hb0)))
  have HCP := Lib.hid hcap
  clear hb0 q0 hP hcap
  go_enter Try.func5, Try.ntmps5
  refine wp_seq_hid ?_
  intro K0 HK0
  go_wp2_with fail
  refine HK0.out _ _ ?_
  clear HK0 K0
  refine wp_seq_hid ?_
  intro K1 HK1
  revert HW
  generalize w.alloc (.cells (p.arr A) 27) = w1
  intro HW
  have KP : Hid (∀ v, Below w1.heap.size w1 v → PrsC v w.heap.size p A ∧ IsPrs v p A ∧ Below w.heap.size w v) := fun v h => ⟨prs_cells ((h.block _ (heap_lt HW.out.2.1)).trans HW.out.2.1), HW.out.2.2.mono h, HW.out.1.trans (h.mono HW.out.1.size)⟩
  have HB := Lib.hid (Below.refl w1.heap.size w1)
  obtain ⟨m, x, hE⟩ : ∃ m x, playE p = (m, x) := ⟨_, _, rfl⟩
  obtain ⟨s, y, hO⟩ : ∃ s y, onE p n = (s, y) := ⟨_, _, rfl⟩
  obtain ⟨a, b, z, hS⟩ : ∃ a b z, startsE p = ((a, b), z) := ⟨_, _, _, rfl⟩
  have HL : Hid (p.Small → s.cards.length ≤ 20) := fun h => by
    have h1 := on_len (p := p) n
    rw [hO] at h1
    exact Nat.le_trans h1 h.wanted
  have C26 : Hid (∀ v, Below w1.heap.size w1 v → p.Small → Calls Try.prog 26 #[p.v A] v fun e w' => e = .returned (.tuple #[.int .i64 m, .int .i64 x]) ∧ Below v.heap.size v w') := fun v h hs => by
    have G := play26 (KP.out v h).2.1 hs
    rw [hE] at G
    exact G
  have C27 : Hid (∀ v, Below w1.heap.size w1 v → p.Small → Calls Try.prog 27 #[p.v A] v fun e w' => e = .returned (.tuple #[.int .i64 m, .int .i64 x]) ∧ Below v.heap.size v w') := fun v h hs => by
    have G := rplay27 (KP.out v h).2.1 hs
    rw [hE] at G
    exact G
  have C28 : Hid (∀ v, Below w1.heap.size w1 v → p.Small → Calls Try.prog 28 #[p.v A, .int .i64 n] v fun e w' => ∃ a c, e = .returned (.tuple #[.agg #[.int .i64 s.paper, .int .i64 s.money, .slice a s.cards.length c], .int .i64 y]) ∧ IsSpns w' a s.cards ∧ Below v.heap.size v w') := fun v h hs => by
    have G := on28 (n := n) (KP.out v h).2.1 hs HCP.out
    rw [hO] at G
    exact G
  have C29 : Hid (∀ v, Below w1.heap.size w1 v → p.Small → Calls Try.prog 29 #[p.v A, .int .i64 n] v fun e w' => ∃ a c, e = .returned (.tuple #[.agg #[.int .i64 s.paper, .int .i64 s.money, .slice a s.cards.length c], .int .i64 y]) ∧ IsSpns w' a s.cards ∧ Below v.heap.size v w') := fun v h hs => by
    have G := ron29 (n := n) (KP.out v h).2.1 hs
    rw [hO] at G
    exact G
  have C30 : Hid (∀ v, Below w1.heap.size w1 v → p.Small → Calls Try.prog 30 #[p.v A] v fun e w' => e = .returned (.tuple #[.int .i64 a, .int .i64 b, .int .i64 z]) ∧ Below v.heap.size v w') := fun v h hs => by
    have G := starts30 (KP.out v h).2.1 hs
    rw [hS] at G
    exact G
  have C31 : Hid (∀ v, Below w1.heap.size w1 v → p.Small → Calls Try.prog 31 #[p.v A] v fun e w' => e = .returned (.tuple #[.int .i64 a, .int .i64 b, .int .i64 z]) ∧ Below v.heap.size v w') := fun v h hs => by
    have G := rstarts31 (KP.out v h).2.1 hs
    rw [starts_same, hS] at G
    exact G
  clear hE hO hS
  obtain ⟨k0, k1, k2, k3, k4, k5, k6, k7, k8, k9⟩ := (KP.out w1 HB.out).1
  go_wp2_with fail
  refine (far13 (l := []) (a := none) (c := 0) (KP.out w1 HB.out).2.1 (fmes_nil _)).mono ?_
  rintro e b1 ⟨rfl, hb⟩
  have HX := Lib.hid (HB.out.trans (hb.mono HB.out.size))
  clear hb HB k0 k1 k2 k3 k4 k5 k6 k7 k8 k9
  have HB := HX
  clear HX
  cases hf : farB p []
  case true =>
    go_wp2_with fail
    refine (awake14 (w := _)).mono ?_
    rintro e c1 ⟨rfl, hb⟩
    have HX := Lib.hid (HB.out.trans (hb.mono HB.out.size))
    clear hb
    go_wp2_with fail
    go_ret
    exact ⟨rfl, (KP.out _ HX.out).2.2⟩
  have HS := Lib.hid (far_small hf).1
  clear hf
  go_wp2_with fail
  refine HK1.out _ _ ?_
  clear HK1 K1
  refine wp_seq_hid ?_
  intro K2 HK2
  obtain ⟨k0, k1, k2, k3, k4, k5, k6, k7, k8, k9⟩ := (KP.out b1 HB.out).1
  go_wp2_with fail
  refine (C26.out _ HB.out HS.out).mono ?_
  rintro e b2 ⟨rfl, hb⟩
  have HX := Lib.hid (HB.out.trans (hb.mono HB.out.size))
  clear hb HB k0 k1 k2 k3 k4 k5 k6 k7 k8 k9
  have HB := HX
  clear HX
  go_wp2_with fail
  refine HK2.out _ _ ?_
  clear HK2 K2
  refine wp_seq_hid ?_
  intro K3 HK3
  obtain ⟨k0, k1, k2, k3, k4, k5, k6, k7, k8, k9⟩ := (KP.out b2 HB.out).1
  go_wp2_with fail
  refine (C27.out _ HB.out HS.out).mono ?_
  rintro e b3 ⟨rfl, hb⟩
  have HX := Lib.hid (HB.out.trans (hb.mono HB.out.size))
  clear hb HB k0 k1 k2 k3 k4 k5 k6 k7 k8 k9
  have HB := HX
  clear HX
  go_wp2_with fail
  refine HK3.out _ _ ?_
  clear HK3 K3
  refine wp_seq_hid ?_
  intro K4 HK4
  obtain ⟨k0, k1, k2, k3, k4, k5, k6, k7, k8, k9⟩ := (KP.out b3 HB.out).1
  go_wp2_with fail
  refine (C28.out _ HB.out HS.out).mono ?_
  rintro e b4 ⟨a1, c1, rfl, hf1, hb⟩
  have HX := Lib.hid (And.intro (HB.out.trans (hb.mono HB.out.size)) hf1)
  clear hb HB k0 k1 k2 k3 k4 k5 k6 k7 k8 k9 hf1
  have HB := HX
  clear HX
  have HQ := Lib.hid (World.alloc_heap_new b4 (.cells #[.int .i64 s.paper, .int .i64 s.money, .slice a1 s.cards.length c1] 48))
  have HN : Hid (Below b4.heap.size b4 (b4.alloc (.cells #[.int .i64 s.paper, .int .i64 s.money, .slice a1 s.cards.length c1] 48))) := (Below.refl _ b4).alloc (Nat.le_refl _) _
  go_wp2_with fail
  refine HK4.out _ _ ?_
  clear HK4 K4
  revert HQ HN
  generalize b4.alloc (.cells #[.int .i64 s.paper, .int .i64 s.money, .slice a1 s.cards.length c1] 48) = x1
  generalize hg : b4.heap.size = g1
  intro HQ HN
  have hb : Below b4.heap.size b4 x1 := by rw [hg]; exact HN.out
  have HX := Lib.hid (And.intro (HB.out.1.trans (hb.mono HB.out.1.size)) (And.intro (HB.out.2.mono hb) HQ.out))
  clear hb HB HN HQ hg
  have HB := HX
  clear HX
  refine wp_seq_hid ?_
  intro K5 HK5
  obtain ⟨k0, k1, k2, k3, k4, k5, k6, k7, k8, k9⟩ := (KP.out x1 HB.out.1).1
  go_wp2_with fail
  refine (C29.out _ HB.out.1 HS.out).mono ?_
  rintro e b5 ⟨a2, c2, rfl, hf2, hb⟩
  have HX := Lib.hid (And.intro (HB.out.1.trans (hb.mono HB.out.1.size)) (And.intro (HB.out.2.1.mono hb) (And.intro ((hb.block _ (heap_lt HB.out.2.2)).trans HB.out.2.2) hf2)))
  clear hb HB k0 k1 k2 k3 k4 k5 k6 k7 k8 k9 hf2
  have HB := HX
  clear HX
  have HQ := Lib.hid (World.alloc_heap_new b5 (.cells #[.int .i64 s.paper, .int .i64 s.money, .slice a2 s.cards.length c2] 48))
  have HN : Hid (Below b5.heap.size b5 (b5.alloc (.cells #[.int .i64 s.paper, .int .i64 s.money, .slice a2 s.cards.length c2] 48))) := (Below.refl _ b5).alloc (Nat.le_refl _) _
  go_wp2_with fail
  refine HK5.out _ _ ?_
  clear HK5 K5
  revert HQ HN
  generalize b5.alloc (.cells #[.int .i64 s.paper, .int .i64 s.money, .slice a2 s.cards.length c2] 48) = x2
  generalize hg : b5.heap.size = g2
  intro HQ HN
  have hb : Below b5.heap.size b5 x2 := by rw [hg]; exact HN.out
  have HX := Lib.hid (And.intro (HB.out.1.trans (hb.mono HB.out.1.size)) (And.intro (HB.out.2.1.mono hb) (And.intro ((hb.block _ (heap_lt HB.out.2.2.1)).trans HB.out.2.2.1) (And.intro (HB.out.2.2.2.mono hb) HQ.out))))
  clear hb HB HN HQ hg
  have HB := HX
  clear HX
  refine wp_seq_hid ?_
  intro K6 HK6
  obtain ⟨k0, k1, k2, k3, k4, k5, k6, k7, k8, k9⟩ := (KP.out x2 HB.out.1).1
  go_wp2_with fail
  refine (C30.out _ HB.out.1 HS.out).mono ?_
  rintro e b6 ⟨rfl, hb⟩
  have HX := Lib.hid (And.intro (HB.out.1.trans (hb.mono HB.out.1.size)) (And.intro (HB.out.2.1.mono hb) (And.intro ((hb.block _ (heap_lt HB.out.2.2.1)).trans HB.out.2.2.1) (And.intro (HB.out.2.2.2.1.mono hb) ((hb.block _ (heap_lt HB.out.2.2.2.2)).trans HB.out.2.2.2.2)))))
  clear hb HB k0 k1 k2 k3 k4 k5 k6 k7 k8 k9
  have HB := HX
  clear HX
  go_wp2_with fail
  refine HK6.out _ _ ?_
  clear HK6 K6
  refine wp_seq_hid ?_
  intro K7 HK7
  obtain ⟨k0, k1, k2, k3, k4, k5, k6, k7, k8, k9⟩ := (KP.out b6 HB.out.1).1
  go_wp2_with fail
  refine (C31.out _ HB.out.1 HS.out).mono ?_
  rintro e b7 ⟨rfl, hb⟩
  have HX := Lib.hid (And.intro (HB.out.1.trans (hb.mono HB.out.1.size)) (And.intro (HB.out.2.1.mono hb) (And.intro ((hb.block _ (heap_lt HB.out.2.2.1)).trans HB.out.2.2.1) (And.intro (HB.out.2.2.2.1.mono hb) ((hb.block _ (heap_lt HB.out.2.2.2.2)).trans HB.out.2.2.2.2)))))
  clear hb HB k0 k1 k2 k3 k4 k5 k6 k7 k8 k9
  have HB := HX
  clear HX
  go_wp2_with fail
  refine HK7.out _ _ ?_
  clear HK7 K7
  have G := shelf32 (s := s) (t := s) (ca := c1) (cb := c2) HB.out.2.1 HB.out.2.2.2.1 (by have := HL.out HS.out; omega) (by have := HL.out HS.out; omega)
  rw [shf_refl] at G
  have e10 : b7.cell? ⟨g1, 0, none⟩ = some (.int .i64 s.paper) := by rw [cell_of_heap HB.out.2.2.1]; rfl
  have e11 : b7.cell? ⟨g1, 1, none⟩ = some (.int .i64 s.money) := by rw [cell_of_heap HB.out.2.2.1]; rfl
  have e12 : b7.cell? ⟨g1, 2, none⟩ = some (.slice a1 s.cards.length c1) := by rw [cell_of_heap HB.out.2.2.1]; rfl
  have e20 : b7.cell? ⟨g2, 0, none⟩ = some (.int .i64 s.paper) := by rw [cell_of_heap HB.out.2.2.2.2]; rfl
  have e21 : b7.cell? ⟨g2, 1, none⟩ = some (.int .i64 s.money) := by rw [cell_of_heap HB.out.2.2.2.2]; rfl
  have e22 : b7.cell? ⟨g2, 2, none⟩ = some (.slice a2 s.cards.length c2) := by rw [cell_of_heap HB.out.2.2.2.2]; rfl
  go_wp2_with fail
  refine (G).mono ?_
  rintro e b8 ⟨rfl, hb⟩
  have HX := Lib.hid (And.intro (HB.out.1.trans (hb.mono HB.out.1.size)) (And.intro (HB.out.2.1.mono hb) (And.intro ((hb.block _ (heap_lt HB.out.2.2.1)).trans HB.out.2.2.1) (And.intro (HB.out.2.2.2.1.mono hb) ((hb.block _ (heap_lt HB.out.2.2.2.2)).trans HB.out.2.2.2.2)))))
  clear hb HB G e10 e11 e12 e20 e21 e22
  have HB := HX
  clear HX
  go_wp2_with fail
  refine (awake14 (w := _)).mono ?_
  rintro e c1 ⟨rfl, hb⟩
  have HX := Lib.hid (HB.out.1.trans (hb.mono HB.out.1.size))
  clear hb
  go_wp2_with fail
  go_ret
  exact ⟨rfl, (KP.out _ HX.out).2.2⟩
end Go.Proofs.Ytjkhclijmcmdjaa
namespace Go.Proofs.Ytjkhclijmcmdjaa
open Go.RowKit Go.WideShapes Go.ChangeShapes
section
variable {H : Type} {enc : TypeId × Value → H} {P : Program}
theorem post_of_below {f : Func} {s : ChangeSpec} {apart fresh handsOn again : Bool} {W W' : World} {args : Array Value} {v : Value} {ds gs : List (DataW H)} {before pa pv : List MemPlace}
    (hW : DataW.Whole enc P f.params.toList s.vars apart W args.toList ds gs before)
    (hres : ∀ (b : Nat) (sp : Nat → Bool) (hd : Bool), DataW.TrodAll enc P W' b sp hd f.resultTypes.toList (v.resultList f.resultTypes.size) (s.fn H (ds ++ gs)).results [])
    (hargs : ∀ sp : Nat → Bool, (∀ p ∈ before, sp p.block = true) → DataW.TrodAll enc P W' 0 sp true f.params.toList args.toList (s.fn H (ds ++ gs)).args pa)
    (hvars : ∀ sp : Nat → Bool, (∀ p ∈ before, sp p.block = true) → DataW.TrodVars enc P W' sp s.vars (s.fn H (ds ++ gs)).vars pv)
    (hps : before = pa ++ pv) (hb : Below W.heap.size W W')
    (hok : ∀ (j : Nat) (t : TypeId) (r : Value), f.resultTypes[j]? = some t → (v.resultList f.resultTypes.size)[j]? = some r → Value.okWide P W' .any 0 t r) :
    s.post enc P f apart fresh handsOn again W args v W' := by
  have hlt : ∀ p ∈ before, p.block < W.heap.size := fun p hp => hW.lt p hp
  have hold : ∀ p ∈ before, (fun b => decide (b < W.heap.size)) p.block = true := fun p hp => by simpa using hlt p hp
  refine ⟨ds, gs, before, [], pa, pv, hW, hres _ _ _, hargs _ hold, hvars _ hold, World.keptBut_mono (fun p hp => ⟨hp, ?_⟩) (hb.frame (· ∈ before)), fun _ => ?_⟩
  · rw [hps, List.mem_append] at hp
    exact Or.inr hp
  · obtain ⟨_, _, _, _, _, hz, hn⟩ := hW
    refine ⟨hok, _, _, ([] ++ pa) ++ pv, ⟨[] ++ pa, pv, trodAll_append (hargs _ (fun _ _ => rfl)) (hres _ _ _), hvars _ (fun _ _ => rfl), rfl, ?_, ?_⟩, ?_⟩
    · intro b off hp
      have hin : MemPlace.cell b off ∈ before := by rw [hps]; simpa using hp
      rw [hb.frozen (hlt _ hin)]
      exact hz b off hin
    · intro ha
      have := hn ha
      rw [hps] at this
      simpa using this
    · intro p hp _
      rw [hps]
      simpa using hp
end
end Go.Proofs.Ytjkhclijmcmdjaa
namespace Go.Proofs.Ytjkhclijmcmdjaa
open Go.ChangeShapes Go.WideShapes Go.ChangeAt Go.Deep Go.RowKit Go.Joins
set_option linter.unusedVariables false
theorem Try.laidOut : laidOutB Try.prog = true := by kernel_rfl
theorem Try.cells3 : Try.prog.cellsOf 3 = 1 := by kernel_rfl
theorem Try.cells23 : Try.prog.cellsOf 23 = 2 := by kernel_rfl
theorem Try.cells24 : Try.prog.cellsOf 24 = 1 := by kernel_rfl
theorem Try.cells25 : Try.prog.cellsOf 25 = 1 := by kernel_rfl
theorem Try.cells27 : Try.prog.cellsOf 27 = 10 := by kernel_rfl
theorem Try.cells29 : Try.prog.cellsOf 29 = 2 := by kernel_rfl
theorem Try.cells62 : Try.prog.cellsOf 62 = 6 := by kernel_rfl
theorem add_at (b o i : Nat) : (⟨b, o, none⟩ : Addr).add i = ⟨b, o + i, none⟩ := by
  unfold Addr.add
  split
  · rename_i h; subst h; rfl
  · rfl
theorem spotless {w : World} {a : Addr} {v : Value} (h : w.cell? a = some v) : a = ⟨a.block, a.off, none⟩ := by
  obtain ⟨b, o, s⟩ := a
  cases s with
  | none => rfl
  | some s =>
    exfalso
    simp only [World.cell?] at h
    split at h <;> simp at h
theorem add_zero' (a : Addr) : a.add 0 = a := rfl
section
variable {H : Type} {enc : TypeId × Value → H} {w : World} {base : Nat} {spare : Nat → Bool} {held : Bool}
set_option maxRecDepth 100000 in
theorem trod_c1 {t : TypeId} {fuel : Nat} {cs : List Value} {x : DataW H × List MemPlace} (ht : Try.prog.underlying t = some (.int .i64)) (h : DataW.trod enc Try.prog w base spare held fuel t cs = some x) :
    ∃ n, cs = [.int .i64 n] := by
  obtain ⟨n, h1, _, h3⟩ := DataW.trod_int ht h
  exact ⟨n, h1⟩
set_option maxRecDepth 100000 in
theorem trod_span {fuel : Nat} {cs : List Value} {x : DataW H × List MemPlace} (h : DataW.trod enc Try.prog w base spare held fuel 23 cs = some x) :
    ∃ a b : Int, cs = [.int .i64 a, .int .i64 b] := by
  obtain ⟨xs, n, _, _, hl, hx, hf⟩ := DataW.trod_struct Try.underlying23 h
  rw [Try.cells23] at hl
  have hx : xs.length = 2 := hx
  match cs, hl, xs, hx with
  | [c0, c1], _, [x0, x1], _ =>
    have e := Try.cells3
    have f0 : DataW.trod enc Try.prog w base spare held n 3 (([c0, c1].drop 0).take (Try.prog.cellsOf 3)) = some x0 := hf 0 _ rfl
    have f1 : DataW.trod enc Try.prog w base spare held n 3 (([c0, c1].drop 1).take (Try.prog.cellsOf 3)) = some x1 := hf 1 _ rfl
    rw [e] at f0 f1
    obtain ⟨n0, h0⟩ := trod_c1 Try.underlying3 f0
    obtain ⟨n1, h1⟩ := trod_c1 Try.underlying3 f1
    simp at h0 h1
    exact ⟨n0, n1, by rw [h0, h1]⟩
theorem spotted {t m len : Nat} {a : Addr} {D : Nat → DataW H} {Pl : Nat → List MemPlace} {n : Nat} (hc0 : 0 < Try.prog.cellsOf t) (hle : len ≤ m)
    (hi : ∀ i, i < m → ∃ cs', w.cells? base (a.add (i * Try.prog.cellsOf t)) (Try.prog.cellsOf t) = some cs' ∧ DataW.trod enc Try.prog w base spare held n t cs' = some (D i, Pl i)) (h : 0 < len) : a = ⟨a.block, a.off, none⟩ := by
  obtain ⟨cs, hc, hd⟩ := hi 0 (by omega)
  obtain ⟨_, hcl, hat⟩ := World.cells?_some hc
  have h0 := hat 0 hc0
  rw [Nat.zero_mul, add_zero', add_zero'] at h0
  have : ∃ v, w.cell? a = some v := by
    cases cs with
    | nil => simp at hcl; omega
    | cons x r => exact ⟨x, h0⟩
  obtain ⟨v, hv⟩ := this
  exact spotless hv
set_option maxRecDepth 100000 in
theorem open_intsL {fuel : Nat} {v : Value} {x : DataW H × List MemPlace} (h : DataW.trod enc Try.prog w base spare held fuel 24 [v] = some x) :
    ∃ (a : Option Addr) (l : List Int) (cap : Nat), v = .slice a l.length cap ∧ l.length ≤ maxLen ∧ IsInts w a l := by
  rcases open_slice Try.underlying24 h with ⟨h1, _⟩ | ⟨a, len, cap, m, n, D, Pl, h1, _, hl, hm, hmm, _, hi⟩
  · simp only [List.cons.injEq, and_true] at h1
    exact ⟨none, [], 0, h1, by simp [maxLen], fun i hi => by simp at hi⟩
  · simp only [List.cons.injEq, and_true] at h1
    have hle : len ≤ m := by rw [hmm]; split <;> omega
    rw [Try.cells3] at hi
    have one : ∀ i, i < len → ∃ c : Int, w.cell? (a.add i) = some (.int .i64 c) := fun i hil => by
      obtain ⟨cs, hc, hd⟩ := hi i (by omega)
      obtain ⟨c, rfl⟩ := trod_c1 Try.underlying3 hd
      obtain ⟨_, hcl, hat⟩ := World.cells?_some hc
      have h0 := hat 0 (by decide)
      rw [Nat.mul_one, add_zero'] at h0
      exact ⟨c, h0⟩
    have hs : 0 < len → a = ⟨a.block, a.off, none⟩ := fun h => by
      obtain ⟨c, h0⟩ := one 0 h
      rw [add_zero'] at h0
      exact spotless h0
    have each : ∀ i, ∃ c : Int, i < len → a = ⟨a.block, a.off, none⟩ ∧ w.cell? ⟨a.block, a.off + i, none⟩ = some (.int .i64 c) := by
      intro i
      by_cases hil : i < len
      · have hs := hs (by omega)
        obtain ⟨c, h0⟩ := one i hil
        rw [hs, add_at] at h0
        exact ⟨c, fun _ => ⟨hs, h0⟩⟩
      · exact ⟨0, fun h => absurd h hil⟩
    obtain ⟨f, hf⟩ := Classical.axiomOfChoice each
    refine ⟨some a, (List.range len).map f, cap, by rw [h1]; simp, by simp; omega, fun i hi => ?_⟩
    have hi' : i < len := by simpa using hi
    obtain ⟨hs, h0⟩ := hf i hi'
    refine ⟨a.block, a.off, by rw [← hs], ?_⟩
    have : gi ((List.range len).map f) i = f i := by simp [gi, hi']
    rw [this]
    exact h0
set_option maxRecDepth 100000 in
theorem trod_fme {fuel : Nat} {cs : List Value} {x : DataW H × List MemPlace} (h : DataW.trod enc Try.prog w base spare held fuel 29 cs = some x) :
    ∃ (f : Fme) (a : Option Addr) (c : Nat), cs = [.slice a f.slots.length c, .int .i64 f.times] ∧ IsInts w a f.slots := by
  obtain ⟨xs, n, _, _, hl, hx, hf⟩ := DataW.trod_struct Try.underlying29 h
  rw [Try.cells29] at hl
  have hx : xs.length = 2 := hx
  match cs, hl, xs, hx with
  | [c0, c1], _, [x0, x1], _ =>
    have f0 : DataW.trod enc Try.prog w base spare held n 24 (([c0, c1].drop 0).take (Try.prog.cellsOf 24)) = some x0 := hf 0 _ rfl
    have f1 : DataW.trod enc Try.prog w base spare held n 3 (([c0, c1].drop 1).take (Try.prog.cellsOf 3)) = some x1 := hf 1 _ rfl
    rw [Try.cells24] at f0
    rw [Try.cells3] at f1
    obtain ⟨a, l, c, h0, _, hs⟩ := open_intsL f0
    obtain ⟨k, h1⟩ := trod_c1 Try.underlying3 f1
    simp at h0 h1
    exact ⟨⟨l, k⟩, a, c, by rw [h0, h1], hs⟩
set_option maxRecDepth 100000 in
theorem trod_dl {fuel : Nat} {cs : List Value} {x : DataW H × List MemPlace} (h : DataW.trod enc Try.prog w base spare held fuel 62 cs = some x) :
    ∃ (d : Dl) (a : Option Addr) (c : Nat), cs = [.int .i64 d.kind, .slice a d.forme.slots.length c, .int .i64 d.forme.times, .int .i64 d.view, .int .i64 d.many, .int .i64 d.pence] ∧ IsInts w a d.forme.slots := by
  obtain ⟨xs, n, _, _, hl, hx, hf⟩ := DataW.trod_struct Try.underlying62 h
  rw [Try.cells62] at hl
  have hx : xs.length = 5 := hx
  match cs, hl, xs, hx with
  | [c0, c1, c2, c3, c4, c5], _, [x0, x1, x2, x3, x4], _ =>
    have f0 : DataW.trod enc Try.prog w base spare held n 3 (([c0, c1, c2, c3, c4, c5].drop 0).take (Try.prog.cellsOf 3)) = some x0 := hf 0 _ rfl
    have f1 : DataW.trod enc Try.prog w base spare held n 29 (([c0, c1, c2, c3, c4, c5].drop 1).take (Try.prog.cellsOf 29)) = some x1 := hf 1 _ rfl
    have f2 : DataW.trod enc Try.prog w base spare held n 3 (([c0, c1, c2, c3, c4, c5].drop 3).take (Try.prog.cellsOf 3)) = some x2 := hf 2 _ rfl
    have f3 : DataW.trod enc Try.prog w base spare held n 3 (([c0, c1, c2, c3, c4, c5].drop 4).take (Try.prog.cellsOf 3)) = some x3 := hf 3 _ rfl
    have f4 : DataW.trod enc Try.prog w base spare held n 3 (([c0, c1, c2, c3, c4, c5].drop 5).take (Try.prog.cellsOf 3)) = some x4 := hf 4 _ rfl
    rw [Try.cells3] at f0
    rw [Try.cells29] at f1
    rw [Try.cells3] at f2
    rw [Try.cells3] at f3
    rw [Try.cells3] at f4
    obtain ⟨k, h0⟩ := trod_c1 Try.underlying3 f0
    obtain ⟨f, a, c, h1, hs⟩ := trod_fme f1
    obtain ⟨v, h2⟩ := trod_c1 Try.underlying3 f2
    obtain ⟨m, h3⟩ := trod_c1 Try.underlying3 f3
    obtain ⟨q, h4⟩ := trod_c1 Try.underlying3 f4
    simp at h0 h1 h2 h3 h4
    exact ⟨⟨k, f, v, m, q⟩, a, c, by rw [h0, h1.1, h1.2, h2, h3, h4], hs⟩
set_option maxRecDepth 100000 in
theorem open_dlsL {t : TypeId} {fuel : Nat} {v : Value} {x : DataW H × List MemPlace} (ht : Try.prog.underlying t = some (.slice 62)) (h : DataW.trod enc Try.prog w base spare held fuel t [v] = some x) :
    ∃ (a : Option Addr) (l : List Dl) (cap : Nat), v = .slice a l.length cap ∧ l.length ≤ cap ∧ IsDls w a l := by
  rcases open_slice ht h with ⟨h1, _⟩ | ⟨a, len, cap, m, n, D, Pl, h1, _, hl, hm, hmm, _, hi⟩
  · simp only [List.cons.injEq, and_true] at h1
    exact ⟨none, [], 0, h1, by simp, fun i hi => by simp at hi⟩
  · simp only [List.cons.injEq, and_true] at h1
    have hle : len ≤ m := by rw [hmm]; split <;> omega
    have hs := spotted (by rw [Try.cells62]; decide) hle hi
    have each : ∀ i, ∃ q : Dl × Option Addr × Nat, i < len → a = ⟨a.block, a.off, none⟩ ∧ w.cell? ⟨a.block, a.off + i * 6, none⟩ = some (.int .i64 q.1.kind) ∧ w.cell? ⟨a.block, a.off + i * 6 + 1, none⟩ = some (.slice q.2.1 q.1.forme.slots.length q.2.2) ∧ w.cell? ⟨a.block, a.off + i * 6 + 2, none⟩ = some (.int .i64 q.1.forme.times) ∧
        w.cell? ⟨a.block, a.off + i * 6 + 3, none⟩ = some (.int .i64 q.1.view) ∧ w.cell? ⟨a.block, a.off + i * 6 + 4, none⟩ = some (.int .i64 q.1.many) ∧ w.cell? ⟨a.block, a.off + i * 6 + 5, none⟩ = some (.int .i64 q.1.pence) ∧ IsInts w q.2.1 q.1.forme.slots := by
      intro i
      by_cases hil : i < len
      · have hs := hs (by omega)
        obtain ⟨cs, hc, hd⟩ := hi i (by omega)
        rw [Try.cells62] at hc
        obtain ⟨_, hcl, hat⟩ := World.cells?_some hc
        obtain ⟨f, ai, ci, rfl, hsl⟩ := trod_dl hd
        have h0 := hat 0 (by decide)
        have h1 := hat 1 (by decide)
        have h2 := hat 2 (by decide)
        have h3 := hat 3 (by decide)
        have h4 := hat 4 (by decide)
        have h5 := hat 5 (by decide)
        rw [hs, add_at, add_at] at h0 h1 h2 h3 h4 h5
        exact ⟨(f, ai, ci), fun _ => ⟨hs, h0, h1, h2, h3, h4, h5, hsl⟩⟩
      · exact ⟨(⟨0, ⟨[], 0⟩, 0, 0, 0⟩, none, 0), fun h => absurd h hil⟩
    obtain ⟨f, hf⟩ := Classical.axiomOfChoice each
    refine ⟨some a, (List.range len).map (fun i => (f i).1), cap, by rw [h1]; simp, by simpa using hl, fun i hi => ?_⟩
    have hi' : i < len := by simpa using hi
    obtain ⟨hs, h0⟩ := hf i hi'
    refine ⟨a.block, a.off, by rw [← hs], (f i).2.1, (f i).2.2, ?_⟩
    have : gd ((List.range len).map (fun i => (f i).1)) i = (f i).1 := by simp [gd, hi']
    rw [this]
    exact h0
set_option maxRecDepth 100000 in
theorem open_press {b0 : Nat} {v : Value} {d : DataW H} {q : List MemPlace} (hv : Value.okWide Try.prog w .any b0 27 v) (h : DataW.Trod enc Try.prog w base spare held 27 v d q) :
    ∃ (p : Prs) (A : PrsA), v = p.v A ∧ IsPrs w p A ∧ p.deals.length ≤ A.cd := by
  obtain ⟨cs, rfl, hsz⟩ := okWide_struct Try.underlying27 hv
  rw [Try.cells27] at hsz
  obtain ⟨fuel, hf⟩ := h
  obtain ⟨xs, n, _, _, hl, hx, hf⟩ := DataW.trod_struct Try.underlying27 hf
  have hx : xs.length = 9 := hx
  obtain ⟨l⟩ := cs
  have hsz : l.length = 10 := hsz
  match l, hsz, xs, hx with
  | [c0, c1, c2, c3, c4, c5, c6, c7, c8, c9], _, [x0, x1, x2, x3, x4, x5, x6, x7, x8], _ =>
    have f0 : DataW.trod enc Try.prog w base spare held n 3 (([c0, c1, c2, c3, c4, c5, c6, c7, c8, c9].drop 0).take (Try.prog.cellsOf 3)) = some x0 := hf 0 _ rfl
    have f1 : DataW.trod enc Try.prog w base spare held n 3 (([c0, c1, c2, c3, c4, c5, c6, c7, c8, c9].drop 1).take (Try.prog.cellsOf 3)) = some x1 := hf 1 _ rfl
    have f2 : DataW.trod enc Try.prog w base spare held n 23 (([c0, c1, c2, c3, c4, c5, c6, c7, c8, c9].drop 2).take (Try.prog.cellsOf 23)) = some x2 := hf 2 _ rfl
    have f3 : DataW.trod enc Try.prog w base spare held n 3 (([c0, c1, c2, c3, c4, c5, c6, c7, c8, c9].drop 4).take (Try.prog.cellsOf 3)) = some x3 := hf 3 _ rfl
    have f4 : DataW.trod enc Try.prog w base spare held n 3 (([c0, c1, c2, c3, c4, c5, c6, c7, c8, c9].drop 5).take (Try.prog.cellsOf 3)) = some x4 := hf 4 _ rfl
    have f5 : DataW.trod enc Try.prog w base spare held n 24 (([c0, c1, c2, c3, c4, c5, c6, c7, c8, c9].drop 6).take (Try.prog.cellsOf 24)) = some x5 := hf 5 _ rfl
    have f6 : DataW.trod enc Try.prog w base spare held n 3 (([c0, c1, c2, c3, c4, c5, c6, c7, c8, c9].drop 7).take (Try.prog.cellsOf 3)) = some x6 := hf 6 _ rfl
    have f7 : DataW.trod enc Try.prog w base spare held n 3 (([c0, c1, c2, c3, c4, c5, c6, c7, c8, c9].drop 8).take (Try.prog.cellsOf 3)) = some x7 := hf 7 _ rfl
    have f8 : DataW.trod enc Try.prog w base spare held n 25 (([c0, c1, c2, c3, c4, c5, c6, c7, c8, c9].drop 9).take (Try.prog.cellsOf 25)) = some x8 := hf 8 _ rfl
    rw [Try.cells3] at f0
    rw [Try.cells3] at f1
    rw [Try.cells23] at f2
    rw [Try.cells3] at f3
    rw [Try.cells3] at f4
    rw [Try.cells24] at f5
    rw [Try.cells3] at f6
    rw [Try.cells3] at f7
    rw [Try.cells25] at f8
    obtain ⟨room, h0⟩ := trod_c1 Try.underlying3 f0
    obtain ⟨formes, h1⟩ := trod_c1 Try.underlying3 f1
    obtain ⟨lo, hi, h2⟩ := trod_span f2
    obtain ⟨mk, h3⟩ := trod_c1 Try.underlying3 f3
    obtain ⟨sh, h4⟩ := trod_c1 Try.underlying3 f4
    obtain ⟨aw, lw, cw, h5, _, hw⟩ := open_intsL f5
    obtain ⟨pp, h6⟩ := trod_c1 Try.underlying3 f6
    obtain ⟨mo, h7⟩ := trod_c1 Try.underlying3 f7
    obtain ⟨ad, ld, cd, h8, hcd, hd⟩ := open_dlsL Try.underlying25 f8
    simp at h0 h1 h2 h3 h4 h5 h6 h7 h8
    obtain ⟨rfl, rfl⟩ := h2
    subst h0 h1 h3 h4 h5 h6 h7 h8
    exact ⟨⟨room, formes, lo, hi, mk, sh, lw, pp, mo, ld⟩, ⟨aw, cw, ad, cd⟩, rfl, ⟨hw, hd⟩, hcd⟩
end
end Go.Proofs.Ytjkhclijmcmdjaa
