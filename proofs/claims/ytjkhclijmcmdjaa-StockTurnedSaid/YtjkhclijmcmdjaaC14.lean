/- The laws' wakefulness: its drawn region. The laws' wakefulness: the pieces. The cheapest plan: plain law. What is looked at has a plan that is no worse than any. -/
import Derived.Test.YtjkhclijmcmdjaaC13
namespace Go.Proofs.Ytjkhclijmcmdjaa
open Go.RowKit
set_option linter.unusedVariables false
set_option linter.unusedSimpArgs false
set_option maxRecDepth 100000 in
set_option maxHeartbeats 1000000 in
theorem span35n {x y : Int} {w : World} :
    Calls Try.prog 35 #[.int .i64 x, .int .i64 y] w fun e w' => e = .returned (.agg #[.int .i64 x, .int .i64 y]) ∧ Below w.heap.size w w' ∧ w'.heap.size = w.heap.size + 1 := by
  have HX : Hid ((w.alloc (.cells #[.int .i64 0, .int .i64 0] 23)).heap[w.heap.size]? = some (.cells #[.int .i64 0, .int .i64 0] 23 (0, 0)) ∧ Below w.heap.size w (w.alloc (.cells #[.int .i64 0, .int .i64 0] 23))) := ⟨World.alloc_heap_new w _, (Below.refl _ w).alloc (Nat.le_refl _) _⟩
  have HZ : Hid ((w.alloc (.cells #[.int .i64 0, .int .i64 0] 23)).heap.size = w.heap.size + 1) := World.size_alloc ..
  go_enter Try.func35, Try.ntmps35
  refine wp_seq_hid ?_
  intro K0 HK0
  go_wp2_with fail
  refine HK0.out _ _ ?_
  clear HK0 K0
  revert HX HZ
  generalize w.alloc (.cells #[.int .i64 0, .int .i64 0] 23) = w1
  generalize w.heap.size = bx
  intro HX HZ
  have y0 : w1.cell? ⟨bx, 0, none⟩ = some (.int .i64 0) := by rw [cell_of_heap HX.out.1]; rfl
  have y1 : w1.cell? ⟨bx, 1, none⟩ = some (.int .i64 0) := by rw [cell_of_heap HX.out.1]; rfl
  have f0 : ∀ k, w1.frozen? ⟨bx, k, none⟩ = false := fun k => frozen_of_heap HX.out.1
  go_wp2_with fail
  have h4 := (heap_setCell_at (k := 1) (heap_setCell_at (k := 0) HX.out.1 (.int .i64 x)) (.int .i64 y))
  exact bodyPost_ret (res_spn rfl _ rfl (by rw [cell_of_heap h4]; rfl) (by rw [cell_of_heap h4]; rfl)) rfl ⟨rfl, ((HX.out.2.setCell (p := ⟨bx, _, none⟩) (by show bx ≤ bx; omega) _).setCell (p := ⟨bx, _, none⟩) (by show bx ≤ bx; omega) _), by rw [World.size_setCell, World.size_setCell]; exact HZ.out⟩
/-- A world at one of 6 stages, by which ones are passed. -/
def ch5 (P0 P1 P2 P3 P4 P5 : World → Prop) : Bool → Bool → Bool → Bool → Bool → World → Prop
  | false, false, false, false, false, w => P0 w
  | true, false, false, false, false, w => P1 w
  | true, true, false, false, false, w => P2 w
  | true, true, true, false, false, w => P3 w
  | true, true, true, true, false, w => P4 w
  | true, true, true, true, true, w => P5 w
  | _, _, _, _, _, _ => False
theorem ch5_or {P0 P1 P2 P3 P4 P5 : World → Prop} {f1 f2 f3 f4 f5 : Bool} {w : World} (h : ch5 P0 P1 P2 P3 P4 P5 f1 f2 f3 f4 f5 w) : P0 w ∨ P1 w ∨ P2 w ∨ P3 w ∨ P4 w ∨ P5 w := by
  cases f1 <;> cases f2 <;> cases f3 <;> cases f4 <;> cases f5 <;> first | exact False.elim h | exact .inl h | exact .inr (.inl h) | exact .inr (.inr (.inl h)) | exact .inr (.inr (.inr (.inl h))) | exact .inr (.inr (.inr (.inr (.inl h)))) | exact .inr (.inr (.inr (.inr (.inr h))))
theorem ch5_s1 {P0 P1 P2 P3 P4 P5 : World → Prop} {f1 f2 f3 f4 f5 : Bool} {w : World} (h : ch5 P0 P1 P2 P3 P4 P5 f1 f2 f3 f4 f5 w) (e2 : f1 = false) : P0 w ∧ ∀ w' : World, P1 w' → ch5 P0 P1 P2 P3 P4 P5 true f2 f3 f4 f5 w' := by
  subst e2
  cases f2 <;> cases f3 <;> cases f4 <;> cases f5 <;> first | exact False.elim h | exact ⟨h, fun _ x => x⟩
theorem ch5_s2 {P0 P1 P2 P3 P4 P5 : World → Prop} {f1 f2 f3 f4 f5 : Bool} {w : World} (h : ch5 P0 P1 P2 P3 P4 P5 f1 f2 f3 f4 f5 w) (e1 : f1 = true) (e2 : f2 = false) : P1 w ∧ ∀ w' : World, P2 w' → ch5 P0 P1 P2 P3 P4 P5 f1 true f3 f4 f5 w' := by
  subst e1 e2
  cases f3 <;> cases f4 <;> cases f5 <;> first | exact False.elim h | exact ⟨h, fun _ x => x⟩
theorem ch5_s3 {P0 P1 P2 P3 P4 P5 : World → Prop} {f1 f2 f3 f4 f5 : Bool} {w : World} (h : ch5 P0 P1 P2 P3 P4 P5 f1 f2 f3 f4 f5 w) (e1 : f2 = true) (e2 : f3 = false) : P2 w ∧ ∀ w' : World, P3 w' → ch5 P0 P1 P2 P3 P4 P5 f1 f2 true f4 f5 w' := by
  subst e1 e2
  cases f1 <;> cases f4 <;> cases f5 <;> first | exact False.elim h | exact ⟨h, fun _ x => x⟩
theorem ch5_s4 {P0 P1 P2 P3 P4 P5 : World → Prop} {f1 f2 f3 f4 f5 : Bool} {w : World} (h : ch5 P0 P1 P2 P3 P4 P5 f1 f2 f3 f4 f5 w) (e1 : f3 = true) (e2 : f4 = false) : P3 w ∧ ∀ w' : World, P4 w' → ch5 P0 P1 P2 P3 P4 P5 f1 f2 f3 true f5 w' := by
  subst e1 e2
  cases f1 <;> cases f2 <;> cases f5 <;> first | exact False.elim h | exact ⟨h, fun _ x => x⟩
theorem ch5_s5 {P0 P1 P2 P3 P4 P5 : World → Prop} {f1 f2 f3 f4 f5 : Bool} {w : World} (h : ch5 P0 P1 P2 P3 P4 P5 f1 f2 f3 f4 f5 w) (e1 : f4 = true) (e2 : f5 = false) : P4 w ∧ ∀ w' : World, P5 w' → ch5 P0 P1 P2 P3 P4 P5 f1 f2 f3 f4 true w' := by
  subst e1 e2
  cases f1 <;> cases f2 <;> cases f3 <;> first | exact False.elim h | exact ⟨h, fun _ x => x⟩
noncomputable def awk10C : Code := (Try.f14.body.bind (regionAt 10)).getD .skip
set_option maxRecDepth 100000 in
set_option maxHeartbeats 8000000 in
theorem awk10 {b48 ch S : Nat} {ah : Option Addr} {P0 P1 P2 P3 P4 P5 : World → Prop} {Q : Exit → Act → World → Prop} {W1 : World}  (h0 : P0 W1.drew)
    (kl7 : Hid (∀ w : World, (P0 w ∨ P1 w ∨ P2 w ∨ P3 w ∨ P4 w) → w.cell? ⟨b48, 0, none⟩ = some (.int .i64 18) ∧ w.cell? ⟨b48, 1, none⟩ = some (.int .i64 550) ∧ w.cell? ⟨b48, 2, none⟩ = some (.slice ah 3 ch)))
    (kc8 : Hid (∀ w : World, P0 w → Calls Try.prog 35 #[.int .i64 5, .int .i64 9] w fun e w' => e = .returned (.agg #[.int .i64 5, .int .i64 9]) ∧ P1 w'))
    (kc9 : Hid (∀ w : World, P1 w → Calls Try.prog 35 #[.int .i64 10, .int .i64 12] w fun e w' => e = .returned (.agg #[.int .i64 10, .int .i64 12]) ∧ P2 w'))
    (kc10 : Hid (∀ w : World, P2 w → Calls Try.prog 35 #[.int .i64 10, .int .i64 12] w fun e w' => e = .returned (.agg #[.int .i64 10, .int .i64 12]) ∧ P3 w'))
    (kr11 : Hid (∀ w : World, P3 w → w.heap.size = S + 3 ∧ P4 (w.alloc (.cells #[.int .i64 5, .int .i64 9, .int .i64 10, .int .i64 12, .int .i64 10, .int .i64 12] 23))))
    (kc13 : Hid (∀ w : World, P4 w → Calls Try.prog 32 #[.agg #[.int .i64 18, .int .i64 550, .slice ah 3 ch], .agg #[.int .i64 18, .int .i64 550, .slice (some ⟨S + 3, 0, none⟩) 3 3]] w fun e w' => e = .returned (.bool true) ∧ P5 w'))
    {s1 s2 s3 s4 s5 s6 s7 s8 s9 s17 s18 s19 s20 s21 s22 s23 s24 s25 s26 s27 s28 s29 s30 s31 s32 s33 s34 s35 s36 s37 s38 s39 s40 s41 s42 s43 s44 s45 s46 s47 s48 s49 s50 s51 s52 s53 s54 s55 s56 s57 s58 s59 s60 s61 s62 s63 s64 s65 s66 s67 s68 s69 s70 s71 s72 s73 s74 s75 s76 s77 s78 s79 s80 s81 s82 s83 s84 s85 s86 s87 s88 s89 s90 s91 s92 s93 s94 s95 s96 s97 s98 s99 s100 s101 s102 s103 s104 s105 s106 s107 s108 s109 s110 s111 s112 s113 s114 s115 s116 s117 s118 s119 s120 s121 s122 s123 s124 s125 s126 s127 s128 s129 s130 s131 s132 s133 s134 s135 : Value} {dd : List Deferred}
    (hQ : ∀ w' : World, P5 w' → Q .normal { tmps := List.toArray (.bool true :: s1 :: s2 :: s3 :: s4 :: s5 :: s6 :: s7 :: s8 :: s9 :: .int .i64 3 :: .int .i64 0 :: .pointer (some ⟨b48, 0, none⟩) :: .int .i64 0 :: .int .i64 2 :: .int .i64 350 :: .int .i64 0 :: s17 :: s18 :: s19 :: s20 :: s21 :: s22 :: s23 :: s24 :: s25 :: s26 :: s27 :: s28 :: s29 :: s30 :: s31 :: s32 :: s33 :: s34 :: s35 :: s36 :: s37 :: s38 :: s39 :: s40 :: s41 :: s42 :: s43 :: s44 :: s45 :: s46 :: s47 :: s48 :: s49 :: s50 :: s51 :: s52 :: s53 :: s54 :: s55 :: s56 :: s57 :: s58 :: s59 :: s60 :: s61 :: s62 :: s63 :: s64 :: s65 :: s66 :: s67 :: s68 :: s69 :: s70 :: s71 :: s72 :: s73 :: s74 :: s75 :: s76 :: s77 :: s78 :: s79 :: s80 :: s81 :: s82 :: s83 :: s84 :: s85 :: s86 :: s87 :: s88 :: s89 :: s90 :: s91 :: s92 :: s93 :: s94 :: s95 :: s96 :: s97 :: s98 :: s99 :: s100 :: s101 :: s102 :: s103 :: s104 :: .int .i64 3 :: .bool true :: .bool true :: .int .i64 0 :: .bool true :: .bool true :: .bool true :: .agg #[.int .i64 18, .int .i64 550, .slice ah 3 ch] :: .agg #[.int .i64 5, .int .i64 9] :: .agg #[.int .i64 10, .int .i64 12] :: .agg #[.int .i64 10, .int .i64 12] :: .slice (some ⟨S + 3, 0, none⟩) 3 3 :: .agg #[.int .i64 18, .int .i64 550, .slice (some ⟨S + 3, 0, none⟩) 3 3] :: .bool true :: .bool true :: .bool true :: .int .i64 0 :: .bool true :: .bool true :: .bool true :: .int .i64 2 :: .bool true :: .bool true :: .bool true :: .int .i64 350 :: .bool true :: .bool true :: .bool true :: .int .i64 0 :: .bool true :: .bool true :: []),defers := dd } w') :
    Code.wpIn (wideAt none) 0 Try.prog awk10C Q { tmps := List.toArray (.bool false :: s1 :: s2 :: s3 :: s4 :: s5 :: s6 :: s7 :: s8 :: s9 :: .int .i64 3 :: .int .i64 0 :: .pointer (some ⟨b48, 0, none⟩) :: .int .i64 0 :: .int .i64 2 :: .int .i64 350 :: .int .i64 0 :: s17 :: s18 :: s19 :: s20 :: s21 :: s22 :: s23 :: s24 :: s25 :: s26 :: s27 :: s28 :: s29 :: s30 :: s31 :: s32 :: s33 :: s34 :: s35 :: s36 :: s37 :: s38 :: s39 :: s40 :: s41 :: s42 :: s43 :: s44 :: s45 :: s46 :: s47 :: s48 :: s49 :: s50 :: s51 :: s52 :: s53 :: s54 :: s55 :: s56 :: s57 :: s58 :: s59 :: s60 :: s61 :: s62 :: s63 :: s64 :: s65 :: s66 :: s67 :: s68 :: s69 :: s70 :: s71 :: s72 :: s73 :: s74 :: s75 :: s76 :: s77 :: s78 :: s79 :: s80 :: s81 :: s82 :: s83 :: s84 :: s85 :: s86 :: s87 :: s88 :: s89 :: s90 :: s91 :: s92 :: s93 :: s94 :: s95 :: s96 :: s97 :: s98 :: s99 :: s100 :: s101 :: s102 :: s103 :: s104 :: s105 :: s106 :: s107 :: s108 :: s109 :: s110 :: s111 :: s112 :: s113 :: s114 :: s115 :: s116 :: s117 :: s118 :: s119 :: s120 :: s121 :: s122 :: s123 :: s124 :: s125 :: s126 :: s127 :: s128 :: s129 :: s130 :: s131 :: s132 :: s133 :: s134 :: s135 :: []),defers := dd } W1 := by
  have HQ := Lib.hid hQ
  clear hQ
  conv => arg 4; whnf
  refine wpIn_region_invG mixed (by kernel_rfl) (fun d_ a_ w' => a_ = { tmps := List.toArray (pk (d_ 31) (.bool true) (.bool false) :: s1 :: s2 :: s3 :: s4 :: s5 :: s6 :: s7 :: s8 :: s9 :: .int .i64 3 :: .int .i64 0 :: .pointer (some ⟨b48, 0, none⟩) :: .int .i64 0 :: .int .i64 2 :: .int .i64 350 :: .int .i64 0 :: s17 :: s18 :: s19 :: s20 :: s21 :: s22 :: s23 :: s24 :: s25 :: s26 :: s27 :: s28 :: s29 :: s30 :: s31 :: s32 :: s33 :: s34 :: s35 :: s36 :: s37 :: s38 :: s39 :: s40 :: s41 :: s42 :: s43 :: s44 :: s45 :: s46 :: s47 :: s48 :: s49 :: s50 :: s51 :: s52 :: s53 :: s54 :: s55 :: s56 :: s57 :: s58 :: s59 :: s60 :: s61 :: s62 :: s63 :: s64 :: s65 :: s66 :: s67 :: s68 :: s69 :: s70 :: s71 :: s72 :: s73 :: s74 :: s75 :: s76 :: s77 :: s78 :: s79 :: s80 :: s81 :: s82 :: s83 :: s84 :: s85 :: s86 :: s87 :: s88 :: s89 :: s90 :: s91 :: s92 :: s93 :: s94 :: s95 :: s96 :: s97 :: s98 :: s99 :: s100 :: s101 :: s102 :: s103 :: s104 :: pk (d_ 0) (.int .i64 3) s105 :: pk (d_ 1) (.bool true) s106 :: pk (d_ 2) (.bool true) s107 :: pk (d_ 3) (.int .i64 0) s108 :: pk (d_ 4) (.bool true) s109 :: pk (d_ 5) (.bool true) s110 :: pk (d_ 6) (.bool true) s111 :: pk (d_ 7) (.agg #[.int .i64 18, .int .i64 550, .slice ah 3 ch]) s112 :: pk (d_ 8) (.agg #[.int .i64 5, .int .i64 9]) s113 :: pk (d_ 9) (.agg #[.int .i64 10, .int .i64 12]) s114 :: pk (d_ 10) (.agg #[.int .i64 10, .int .i64 12]) s115 :: pk (d_ 11) (.slice (some ⟨S + 3, 0, none⟩) 3 3) s116 :: pk (d_ 12) (.agg #[.int .i64 18, .int .i64 550, .slice (some ⟨S + 3, 0, none⟩) 3 3]) s117 :: pk (d_ 13) (.bool true) s118 :: pk (d_ 14) (.bool true) s119 :: pk (d_ 15) (.bool true) s120 :: pk (d_ 16) (.int .i64 0) s121 :: pk (d_ 17) (.bool true) s122 :: pk (d_ 18) (.bool true) s123 :: pk (d_ 19) (.bool true) s124 :: pk (d_ 20) (.int .i64 2) s125 :: pk (d_ 21) (.bool true) s126 :: pk (d_ 22) (.bool true) s127 :: pk (d_ 23) (.bool true) s128 :: pk (d_ 24) (.int .i64 350) s129 :: pk (d_ 25) (.bool true) s130 :: pk (d_ 26) (.bool true) s131 :: pk (d_ 27) (.bool true) s132 :: pk (d_ 28) (.int .i64 0) s133 :: pk (d_ 29) (.bool true) s134 :: pk (d_ 30) (.bool true) s135 :: []),defers := dd } ∧ ch5 P0 P1 P2 P3 P4 P5 (d_ 8) (d_ 9) (d_ 10) (d_ 11) (d_ 13) w' ∧ OrdP [[], [0], [1], [2], [2, 3], [2, 4], [2, 5], [6], [6], [6, 8], [6, 9], [6, 8, 9, 10], [6, 11], [6, 7, 10, 12], [6, 13], [13, 14], [15], [15, 16], [15, 17], [15, 18], [19], [19, 20], [19, 21], [19, 22], [23], [23, 24], [23, 25], [23, 26], [27], [27, 28], [27, 29], [0, 1, 2, 3, 4, 5, 6, 7, 8, 9, 10, 11, 12, 13, 14, 15, 16, 17, 18, 19, 20, 21, 22, 23, 24, 25, 26, 27, 28, 29, 30]] d_) ?_ ?_ ?_
  · exact ⟨rfl, h0, fun k h => by cases h⟩
  · refine ⟨?_,?_,?_,?_,?_,?_,?_,?_,?_,?_,?_,?_,?_,?_,?_,?_,?_,?_,?_,?_,?_,?_,?_,?_,?_,?_,?_,?_,?_,?_,?_,?_, trivial⟩
    all_goals
      rintro d_ a_ w1 K hd_ hdep ⟨rfl, F, O⟩ HK
      simp [Region.binds] at hdep
    · have HO : Hid (OrdP [[], [0], [1], [2], [2, 3], [2, 4], [2, 5], [6], [6], [6, 8], [6, 9], [6, 8, 9, 10], [6, 11], [6, 7, 10, 12], [6, 13], [13, 14], [15], [15, 16], [15, 17], [15, 18], [19], [19, 20], [19, 21], [19, 22], [23], [23, 24], [23, 25], [23, 26], [27], [27, 28], [27, 29], [0, 1, 2, 3, 4, 5, 6, 7, 8, 9, 10, 11, 12, 13, 14, 15, 16, 17, 18, 19, 20, 21, 22, 23, 24, 25, 26, 27, 28, 29, 30]] (upd d_ 0)) := O.step (show ∀ e ∈ ([] : List Nat), d_ e = true by simp [hdep])
      clear O
      have HF := Lib.hid F
      clear F hdep
      go_simp
      refine HK.out _ _ ⟨?_, HF.out, HO.out⟩
      all_goals rfl
    · have HO : Hid (OrdP [[], [0], [1], [2], [2, 3], [2, 4], [2, 5], [6], [6], [6, 8], [6, 9], [6, 8, 9, 10], [6, 11], [6, 7, 10, 12], [6, 13], [13, 14], [15], [15, 16], [15, 17], [15, 18], [19], [19, 20], [19, 21], [19, 22], [23], [23, 24], [23, 25], [23, 26], [27], [27, 28], [27, 29], [0, 1, 2, 3, 4, 5, 6, 7, 8, 9, 10, 11, 12, 13, 14, 15, 16, 17, 18, 19, 20, 21, 22, 23, 24, 25, 26, 27, 28, 29, 30]] (upd d_ 1)) := O.step (show ∀ e ∈ ([0] : List Nat), d_ e = true by simp [hdep])
      have q0 : d_ 0 = true := by simp [hdep]
      clear O
      rw [pk_of q0]
      have HF := Lib.hid F
      clear F hdep
      go_simp
      refine HK.out _ _ ⟨?_, HF.out, HO.out⟩
      rw [pk_of (show upd d_ 1 0 = true from q0)]
      all_goals rfl
    · have HO : Hid (OrdP [[], [0], [1], [2], [2, 3], [2, 4], [2, 5], [6], [6], [6, 8], [6, 9], [6, 8, 9, 10], [6, 11], [6, 7, 10, 12], [6, 13], [13, 14], [15], [15, 16], [15, 17], [15, 18], [19], [19, 20], [19, 21], [19, 22], [23], [23, 24], [23, 25], [23, 26], [27], [27, 28], [27, 29], [0, 1, 2, 3, 4, 5, 6, 7, 8, 9, 10, 11, 12, 13, 14, 15, 16, 17, 18, 19, 20, 21, 22, 23, 24, 25, 26, 27, 28, 29, 30]] (upd d_ 2)) := O.step (show ∀ e ∈ ([1] : List Nat), d_ e = true by simp [hdep])
      have q1 : d_ 1 = true := by simp [hdep]
      clear O
      rw [pk_of q1]
      have HF := Lib.hid F
      clear F hdep
      go_simp
      refine HK.out _ _ ⟨?_, HF.out, HO.out⟩
      rw [pk_of (show upd d_ 2 1 = true from q1)]
      all_goals rfl
    · have HO : Hid (OrdP [[], [0], [1], [2], [2, 3], [2, 4], [2, 5], [6], [6], [6, 8], [6, 9], [6, 8, 9, 10], [6, 11], [6, 7, 10, 12], [6, 13], [13, 14], [15], [15, 16], [15, 17], [15, 18], [19], [19, 20], [19, 21], [19, 22], [23], [23, 24], [23, 25], [23, 26], [27], [27, 28], [27, 29], [0, 1, 2, 3, 4, 5, 6, 7, 8, 9, 10, 11, 12, 13, 14, 15, 16, 17, 18, 19, 20, 21, 22, 23, 24, 25, 26, 27, 28, 29, 30]] (upd d_ 3)) := O.step (show ∀ e ∈ ([2] : List Nat), d_ e = true by simp [hdep])
      have q2 : d_ 2 = true := by simp [hdep]
      clear O
      rw [pk_of q2]
      have HF := Lib.hid F
      clear F hdep
      go_simp
      refine HK.out _ _ ⟨?_, HF.out, HO.out⟩
      rw [pk_of (show upd d_ 3 2 = true from q2)]
      all_goals rfl
    · have HO : Hid (OrdP [[], [0], [1], [2], [2, 3], [2, 4], [2, 5], [6], [6], [6, 8], [6, 9], [6, 8, 9, 10], [6, 11], [6, 7, 10, 12], [6, 13], [13, 14], [15], [15, 16], [15, 17], [15, 18], [19], [19, 20], [19, 21], [19, 22], [23], [23, 24], [23, 25], [23, 26], [27], [27, 28], [27, 29], [0, 1, 2, 3, 4, 5, 6, 7, 8, 9, 10, 11, 12, 13, 14, 15, 16, 17, 18, 19, 20, 21, 22, 23, 24, 25, 26, 27, 28, 29, 30]] (upd d_ 4)) := O.step (show ∀ e ∈ ([2, 3] : List Nat), d_ e = true by simp [hdep])
      have q2 : d_ 2 = true := by simp [hdep]
      have q3 : d_ 3 = true := by simp [hdep]
      clear O
      rw [pk_of q2, pk_of q3]
      have HF := Lib.hid F
      clear F hdep
      go_simp
      refine HK.out _ _ ⟨?_, HF.out, HO.out⟩
      rw [pk_of (show upd d_ 4 2 = true from q2), pk_of (show upd d_ 4 3 = true from q3)]
      all_goals rfl
    · have HO : Hid (OrdP [[], [0], [1], [2], [2, 3], [2, 4], [2, 5], [6], [6], [6, 8], [6, 9], [6, 8, 9, 10], [6, 11], [6, 7, 10, 12], [6, 13], [13, 14], [15], [15, 16], [15, 17], [15, 18], [19], [19, 20], [19, 21], [19, 22], [23], [23, 24], [23, 25], [23, 26], [27], [27, 28], [27, 29], [0, 1, 2, 3, 4, 5, 6, 7, 8, 9, 10, 11, 12, 13, 14, 15, 16, 17, 18, 19, 20, 21, 22, 23, 24, 25, 26, 27, 28, 29, 30]] (upd d_ 5)) := O.step (show ∀ e ∈ ([2, 4] : List Nat), d_ e = true by simp [hdep])
      have q2 : d_ 2 = true := by simp [hdep]
      have q4 : d_ 4 = true := by simp [hdep]
      clear O
      rw [pk_of q2, pk_of q4]
      have HF := Lib.hid F
      clear F hdep
      go_simp
      refine HK.out _ _ ⟨?_, HF.out, HO.out⟩
      rw [pk_of (show upd d_ 5 2 = true from q2), pk_of (show upd d_ 5 4 = true from q4)]
      all_goals rfl
    · have HO : Hid (OrdP [[], [0], [1], [2], [2, 3], [2, 4], [2, 5], [6], [6], [6, 8], [6, 9], [6, 8, 9, 10], [6, 11], [6, 7, 10, 12], [6, 13], [13, 14], [15], [15, 16], [15, 17], [15, 18], [19], [19, 20], [19, 21], [19, 22], [23], [23, 24], [23, 25], [23, 26], [27], [27, 28], [27, 29], [0, 1, 2, 3, 4, 5, 6, 7, 8, 9, 10, 11, 12, 13, 14, 15, 16, 17, 18, 19, 20, 21, 22, 23, 24, 25, 26, 27, 28, 29, 30]] (upd d_ 6)) := O.step (show ∀ e ∈ ([2, 5] : List Nat), d_ e = true by simp [hdep])
      have q5 : d_ 5 = true := by simp [hdep]
      clear O
      rw [pk_of q5]
      have HF := Lib.hid F
      clear F hdep
      go_simp
      refine HK.out _ _ ⟨?_, HF.out, HO.out⟩
      rw [pk_of (show upd d_ 6 5 = true from q5)]
      all_goals rfl
    · have HO : Hid (OrdP [[], [0], [1], [2], [2, 3], [2, 4], [2, 5], [6], [6], [6, 8], [6, 9], [6, 8, 9, 10], [6, 11], [6, 7, 10, 12], [6, 13], [13, 14], [15], [15, 16], [15, 17], [15, 18], [19], [19, 20], [19, 21], [19, 22], [23], [23, 24], [23, 25], [23, 26], [27], [27, 28], [27, 29], [0, 1, 2, 3, 4, 5, 6, 7, 8, 9, 10, 11, 12, 13, 14, 15, 16, 17, 18, 19, 20, 21, 22, 23, 24, 25, 26, 27, 28, 29, 30]] (upd d_ 7)) := O.step (show ∀ e ∈ ([6] : List Nat), d_ e = true by simp [hdep])
      have q6 : d_ 6 = true := by simp [hdep]
      have F2 := F
      have n_ : d_ 13 = false := by
        cases e_ : d_ 13 with
        | false => rfl
        | true => have h2 := (O 13 e_ 7 (by decide)); rw [show d_ 7 = false from hd_] at h2; cases h2
      rw [n_] at F2
      have kk := kl7.out w1 (by
        have h3 := ch5_or F2
        cases e8_ : d_ 8 <;> cases e9_ : d_ 9 <;> cases e10_ : d_ 10 <;> cases e11_ : d_ 11 <;> simp_all [ch5])
      clear F2
      clear n_
      obtain ⟨kk0, kk1, kk2⟩ := kk
      clear O
      rw [pk_of q6]
      have HF := Lib.hid F
      clear F hdep
      go_simp
      refine HK.out _ _ ⟨?_, HF.out, HO.out⟩
      rw [pk_of (show upd d_ 7 6 = true from q6)]
      all_goals rfl
    · have HO : Hid (OrdP [[], [0], [1], [2], [2, 3], [2, 4], [2, 5], [6], [6], [6, 8], [6, 9], [6, 8, 9, 10], [6, 11], [6, 7, 10, 12], [6, 13], [13, 14], [15], [15, 16], [15, 17], [15, 18], [19], [19, 20], [19, 21], [19, 22], [23], [23, 24], [23, 25], [23, 26], [27], [27, 28], [27, 29], [0, 1, 2, 3, 4, 5, 6, 7, 8, 9, 10, 11, 12, 13, 14, 15, 16, 17, 18, 19, 20, 21, 22, 23, 24, 25, 26, 27, 28, 29, 30]] (upd d_ 8)) := O.step (show ∀ e ∈ ([6] : List Nat), d_ e = true by simp [hdep])
      have q6 : d_ 6 = true := by simp [hdep]
      clear O
      rw [pk_of q6]
      obtain ⟨hP, hN⟩ := ch5_s1 F hd_
      have hc := kc8.out w1 hP
      have HN := Lib.hid hN
      clear F hP hN hdep
      go_simp
      refine ⟨trivial, rfl, wideAt_calls (hc.mono ?_)⟩
      rintro e w5 ⟨rfl, hR⟩
      have HG := HN.out w5 hR
      refine HK.out _ _ ⟨?_, HG, HO.out⟩
      rw [pk_of (show upd d_ 8 6 = true from q6)]
      all_goals rfl
    · have HO : Hid (OrdP [[], [0], [1], [2], [2, 3], [2, 4], [2, 5], [6], [6], [6, 8], [6, 9], [6, 8, 9, 10], [6, 11], [6, 7, 10, 12], [6, 13], [13, 14], [15], [15, 16], [15, 17], [15, 18], [19], [19, 20], [19, 21], [19, 22], [23], [23, 24], [23, 25], [23, 26], [27], [27, 28], [27, 29], [0, 1, 2, 3, 4, 5, 6, 7, 8, 9, 10, 11, 12, 13, 14, 15, 16, 17, 18, 19, 20, 21, 22, 23, 24, 25, 26, 27, 28, 29, 30]] (upd d_ 9)) := O.step (show ∀ e ∈ ([6, 8] : List Nat), d_ e = true by simp [hdep])
      have q6 : d_ 6 = true := by simp [hdep]
      clear O
      rw [pk_of q6]
      obtain ⟨hP, hN⟩ := ch5_s2 F (show d_ 8 = true by simp [hdep]) hd_
      have hc := kc9.out w1 hP
      have HN := Lib.hid hN
      clear F hP hN hdep
      go_simp
      refine ⟨trivial, rfl, wideAt_calls (hc.mono ?_)⟩
      rintro e w5 ⟨rfl, hR⟩
      have HG := HN.out w5 hR
      refine HK.out _ _ ⟨?_, HG, HO.out⟩
      rw [pk_of (show upd d_ 9 6 = true from q6)]
      all_goals rfl
    · have HO : Hid (OrdP [[], [0], [1], [2], [2, 3], [2, 4], [2, 5], [6], [6], [6, 8], [6, 9], [6, 8, 9, 10], [6, 11], [6, 7, 10, 12], [6, 13], [13, 14], [15], [15, 16], [15, 17], [15, 18], [19], [19, 20], [19, 21], [19, 22], [23], [23, 24], [23, 25], [23, 26], [27], [27, 28], [27, 29], [0, 1, 2, 3, 4, 5, 6, 7, 8, 9, 10, 11, 12, 13, 14, 15, 16, 17, 18, 19, 20, 21, 22, 23, 24, 25, 26, 27, 28, 29, 30]] (upd d_ 10)) := O.step (show ∀ e ∈ ([6, 9] : List Nat), d_ e = true by simp [hdep])
      have q6 : d_ 6 = true := by simp [hdep]
      clear O
      rw [pk_of q6]
      obtain ⟨hP, hN⟩ := ch5_s3 F (show d_ 9 = true by simp [hdep]) hd_
      have hc := kc10.out w1 hP
      have HN := Lib.hid hN
      clear F hP hN hdep
      go_simp
      refine ⟨trivial, rfl, wideAt_calls (hc.mono ?_)⟩
      rintro e w5 ⟨rfl, hR⟩
      have HG := HN.out w5 hR
      refine HK.out _ _ ⟨?_, HG, HO.out⟩
      rw [pk_of (show upd d_ 10 6 = true from q6)]
      all_goals rfl
    · have HO : Hid (OrdP [[], [0], [1], [2], [2, 3], [2, 4], [2, 5], [6], [6], [6, 8], [6, 9], [6, 8, 9, 10], [6, 11], [6, 7, 10, 12], [6, 13], [13, 14], [15], [15, 16], [15, 17], [15, 18], [19], [19, 20], [19, 21], [19, 22], [23], [23, 24], [23, 25], [23, 26], [27], [27, 28], [27, 29], [0, 1, 2, 3, 4, 5, 6, 7, 8, 9, 10, 11, 12, 13, 14, 15, 16, 17, 18, 19, 20, 21, 22, 23, 24, 25, 26, 27, 28, 29, 30]] (upd d_ 11)) := O.step (show ∀ e ∈ ([6, 8, 9, 10] : List Nat), d_ e = true by simp [hdep])
      have q6 : d_ 6 = true := by simp [hdep]
      have q8 : d_ 8 = true := by simp [hdep]
      have q9 : d_ 9 = true := by simp [hdep]
      have q10 : d_ 10 = true := by simp [hdep]
      clear O
      rw [pk_of q6, pk_of q8, pk_of q9, pk_of q10]
      obtain ⟨hP, hN⟩ := ch5_s4 F (show d_ 10 = true by simp [hdep]) hd_
      obtain ⟨hz, hR⟩ := kr11.out w1 hP
      have HF := Lib.hid (hN _ hR)
      have HZ := Lib.hid hz
      clear F hP hR hN hdep hz
      go_simp
      rw [HZ.out]
      have HG := HF.out
      refine HK.out _ _ ⟨?_, HG, HO.out⟩
      rw [pk_of (show upd d_ 11 6 = true from q6), pk_of (show upd d_ 11 8 = true from q8), pk_of (show upd d_ 11 9 = true from q9), pk_of (show upd d_ 11 10 = true from q10)]
      all_goals rfl
    · have HO : Hid (OrdP [[], [0], [1], [2], [2, 3], [2, 4], [2, 5], [6], [6], [6, 8], [6, 9], [6, 8, 9, 10], [6, 11], [6, 7, 10, 12], [6, 13], [13, 14], [15], [15, 16], [15, 17], [15, 18], [19], [19, 20], [19, 21], [19, 22], [23], [23, 24], [23, 25], [23, 26], [27], [27, 28], [27, 29], [0, 1, 2, 3, 4, 5, 6, 7, 8, 9, 10, 11, 12, 13, 14, 15, 16, 17, 18, 19, 20, 21, 22, 23, 24, 25, 26, 27, 28, 29, 30]] (upd d_ 12)) := O.step (show ∀ e ∈ ([6, 11] : List Nat), d_ e = true by simp [hdep])
      have q6 : d_ 6 = true := by simp [hdep]
      have q11 : d_ 11 = true := by simp [hdep]
      clear O
      rw [pk_of q6, pk_of q11]
      have HF := Lib.hid F
      clear F hdep
      go_simp
      refine HK.out _ _ ⟨?_, HF.out, HO.out⟩
      rw [pk_of (show upd d_ 12 6 = true from q6), pk_of (show upd d_ 12 11 = true from q11)]
      all_goals rfl
    · have HO : Hid (OrdP [[], [0], [1], [2], [2, 3], [2, 4], [2, 5], [6], [6], [6, 8], [6, 9], [6, 8, 9, 10], [6, 11], [6, 7, 10, 12], [6, 13], [13, 14], [15], [15, 16], [15, 17], [15, 18], [19], [19, 20], [19, 21], [19, 22], [23], [23, 24], [23, 25], [23, 26], [27], [27, 28], [27, 29], [0, 1, 2, 3, 4, 5, 6, 7, 8, 9, 10, 11, 12, 13, 14, 15, 16, 17, 18, 19, 20, 21, 22, 23, 24, 25, 26, 27, 28, 29, 30]] (upd d_ 13)) := O.step (show ∀ e ∈ ([6, 7, 10, 12] : List Nat), d_ e = true by simp [hdep])
      have q6 : d_ 6 = true := by simp [hdep]
      have q7 : d_ 7 = true := by simp [hdep]
      have q12 : d_ 12 = true := by simp [hdep]
      clear O
      rw [pk_of q6, pk_of q7, pk_of q12]
      obtain ⟨hP, hN⟩ := ch5_s5 F (show d_ 11 = true from HO.out 12 q12 11 (by decide)) hd_
      have hc := kc13.out w1 hP
      have HN := Lib.hid hN
      clear F hP hN hdep
      go_simp
      refine ⟨trivial, rfl, wideAt_calls (hc.mono ?_)⟩
      rintro e w5 ⟨rfl, hR⟩
      have HG := HN.out w5 hR
      refine HK.out _ _ ⟨?_, HG, HO.out⟩
      rw [pk_of (show upd d_ 13 6 = true from q6), pk_of (show upd d_ 13 7 = true from q7), pk_of (show upd d_ 13 12 = true from q12)]
      all_goals rfl
    · have HO : Hid (OrdP [[], [0], [1], [2], [2, 3], [2, 4], [2, 5], [6], [6], [6, 8], [6, 9], [6, 8, 9, 10], [6, 11], [6, 7, 10, 12], [6, 13], [13, 14], [15], [15, 16], [15, 17], [15, 18], [19], [19, 20], [19, 21], [19, 22], [23], [23, 24], [23, 25], [23, 26], [27], [27, 28], [27, 29], [0, 1, 2, 3, 4, 5, 6, 7, 8, 9, 10, 11, 12, 13, 14, 15, 16, 17, 18, 19, 20, 21, 22, 23, 24, 25, 26, 27, 28, 29, 30]] (upd d_ 14)) := O.step (show ∀ e ∈ ([6, 13] : List Nat), d_ e = true by simp [hdep])
      have q6 : d_ 6 = true := by simp [hdep]
      have q13 : d_ 13 = true := by simp [hdep]
      clear O
      rw [pk_of q6, pk_of q13]
      have HF := Lib.hid F
      clear F hdep
      go_simp
      refine HK.out _ _ ⟨?_, HF.out, HO.out⟩
      rw [pk_of (show upd d_ 14 6 = true from q6), pk_of (show upd d_ 14 13 = true from q13)]
      all_goals rfl
    · have HO : Hid (OrdP [[], [0], [1], [2], [2, 3], [2, 4], [2, 5], [6], [6], [6, 8], [6, 9], [6, 8, 9, 10], [6, 11], [6, 7, 10, 12], [6, 13], [13, 14], [15], [15, 16], [15, 17], [15, 18], [19], [19, 20], [19, 21], [19, 22], [23], [23, 24], [23, 25], [23, 26], [27], [27, 28], [27, 29], [0, 1, 2, 3, 4, 5, 6, 7, 8, 9, 10, 11, 12, 13, 14, 15, 16, 17, 18, 19, 20, 21, 22, 23, 24, 25, 26, 27, 28, 29, 30]] (upd d_ 15)) := O.step (show ∀ e ∈ ([13, 14] : List Nat), d_ e = true by simp [hdep])
      have q14 : d_ 14 = true := by simp [hdep]
      clear O
      rw [pk_of q14]
      have HF := Lib.hid F
      clear F hdep
      go_simp
      refine HK.out _ _ ⟨?_, HF.out, HO.out⟩
      rw [pk_of (show upd d_ 15 14 = true from q14)]
      all_goals rfl
    · have HO : Hid (OrdP [[], [0], [1], [2], [2, 3], [2, 4], [2, 5], [6], [6], [6, 8], [6, 9], [6, 8, 9, 10], [6, 11], [6, 7, 10, 12], [6, 13], [13, 14], [15], [15, 16], [15, 17], [15, 18], [19], [19, 20], [19, 21], [19, 22], [23], [23, 24], [23, 25], [23, 26], [27], [27, 28], [27, 29], [0, 1, 2, 3, 4, 5, 6, 7, 8, 9, 10, 11, 12, 13, 14, 15, 16, 17, 18, 19, 20, 21, 22, 23, 24, 25, 26, 27, 28, 29, 30]] (upd d_ 16)) := O.step (show ∀ e ∈ ([15] : List Nat), d_ e = true by simp [hdep])
      have q15 : d_ 15 = true := by simp [hdep]
      clear O
      rw [pk_of q15]
      have HF := Lib.hid F
      clear F hdep
      go_simp
      refine HK.out _ _ ⟨?_, HF.out, HO.out⟩
      rw [pk_of (show upd d_ 16 15 = true from q15)]
      all_goals rfl
    · have HO : Hid (OrdP [[], [0], [1], [2], [2, 3], [2, 4], [2, 5], [6], [6], [6, 8], [6, 9], [6, 8, 9, 10], [6, 11], [6, 7, 10, 12], [6, 13], [13, 14], [15], [15, 16], [15, 17], [15, 18], [19], [19, 20], [19, 21], [19, 22], [23], [23, 24], [23, 25], [23, 26], [27], [27, 28], [27, 29], [0, 1, 2, 3, 4, 5, 6, 7, 8, 9, 10, 11, 12, 13, 14, 15, 16, 17, 18, 19, 20, 21, 22, 23, 24, 25, 26, 27, 28, 29, 30]] (upd d_ 17)) := O.step (show ∀ e ∈ ([15, 16] : List Nat), d_ e = true by simp [hdep])
      have q15 : d_ 15 = true := by simp [hdep]
      have q16 : d_ 16 = true := by simp [hdep]
      clear O
      rw [pk_of q15, pk_of q16]
      have HF := Lib.hid F
      clear F hdep
      go_simp
      refine HK.out _ _ ⟨?_, HF.out, HO.out⟩
      rw [pk_of (show upd d_ 17 15 = true from q15), pk_of (show upd d_ 17 16 = true from q16)]
      all_goals rfl
    · have HO : Hid (OrdP [[], [0], [1], [2], [2, 3], [2, 4], [2, 5], [6], [6], [6, 8], [6, 9], [6, 8, 9, 10], [6, 11], [6, 7, 10, 12], [6, 13], [13, 14], [15], [15, 16], [15, 17], [15, 18], [19], [19, 20], [19, 21], [19, 22], [23], [23, 24], [23, 25], [23, 26], [27], [27, 28], [27, 29], [0, 1, 2, 3, 4, 5, 6, 7, 8, 9, 10, 11, 12, 13, 14, 15, 16, 17, 18, 19, 20, 21, 22, 23, 24, 25, 26, 27, 28, 29, 30]] (upd d_ 18)) := O.step (show ∀ e ∈ ([15, 17] : List Nat), d_ e = true by simp [hdep])
      have q15 : d_ 15 = true := by simp [hdep]
      have q17 : d_ 17 = true := by simp [hdep]
      clear O
      rw [pk_of q15, pk_of q17]
      have HF := Lib.hid F
      clear F hdep
      go_simp
      refine HK.out _ _ ⟨?_, HF.out, HO.out⟩
      rw [pk_of (show upd d_ 18 15 = true from q15), pk_of (show upd d_ 18 17 = true from q17)]
      all_goals rfl
    · have HO : Hid (OrdP [[], [0], [1], [2], [2, 3], [2, 4], [2, 5], [6], [6], [6, 8], [6, 9], [6, 8, 9, 10], [6, 11], [6, 7, 10, 12], [6, 13], [13, 14], [15], [15, 16], [15, 17], [15, 18], [19], [19, 20], [19, 21], [19, 22], [23], [23, 24], [23, 25], [23, 26], [27], [27, 28], [27, 29], [0, 1, 2, 3, 4, 5, 6, 7, 8, 9, 10, 11, 12, 13, 14, 15, 16, 17, 18, 19, 20, 21, 22, 23, 24, 25, 26, 27, 28, 29, 30]] (upd d_ 19)) := O.step (show ∀ e ∈ ([15, 18] : List Nat), d_ e = true by simp [hdep])
      have q18 : d_ 18 = true := by simp [hdep]
      clear O
      rw [pk_of q18]
      have HF := Lib.hid F
      clear F hdep
      go_simp
      refine HK.out _ _ ⟨?_, HF.out, HO.out⟩
      rw [pk_of (show upd d_ 19 18 = true from q18)]
      all_goals rfl
    · have HO : Hid (OrdP [[], [0], [1], [2], [2, 3], [2, 4], [2, 5], [6], [6], [6, 8], [6, 9], [6, 8, 9, 10], [6, 11], [6, 7, 10, 12], [6, 13], [13, 14], [15], [15, 16], [15, 17], [15, 18], [19], [19, 20], [19, 21], [19, 22], [23], [23, 24], [23, 25], [23, 26], [27], [27, 28], [27, 29], [0, 1, 2, 3, 4, 5, 6, 7, 8, 9, 10, 11, 12, 13, 14, 15, 16, 17, 18, 19, 20, 21, 22, 23, 24, 25, 26, 27, 28, 29, 30]] (upd d_ 20)) := O.step (show ∀ e ∈ ([19] : List Nat), d_ e = true by simp [hdep])
      have q19 : d_ 19 = true := by simp [hdep]
      clear O
      rw [pk_of q19]
      have HF := Lib.hid F
      clear F hdep
      go_simp
      refine HK.out _ _ ⟨?_, HF.out, HO.out⟩
      rw [pk_of (show upd d_ 20 19 = true from q19)]
      all_goals rfl
    · have HO : Hid (OrdP [[], [0], [1], [2], [2, 3], [2, 4], [2, 5], [6], [6], [6, 8], [6, 9], [6, 8, 9, 10], [6, 11], [6, 7, 10, 12], [6, 13], [13, 14], [15], [15, 16], [15, 17], [15, 18], [19], [19, 20], [19, 21], [19, 22], [23], [23, 24], [23, 25], [23, 26], [27], [27, 28], [27, 29], [0, 1, 2, 3, 4, 5, 6, 7, 8, 9, 10, 11, 12, 13, 14, 15, 16, 17, 18, 19, 20, 21, 22, 23, 24, 25, 26, 27, 28, 29, 30]] (upd d_ 21)) := O.step (show ∀ e ∈ ([19, 20] : List Nat), d_ e = true by simp [hdep])
      have q19 : d_ 19 = true := by simp [hdep]
      have q20 : d_ 20 = true := by simp [hdep]
      clear O
      rw [pk_of q19, pk_of q20]
      have HF := Lib.hid F
      clear F hdep
      go_simp
      refine HK.out _ _ ⟨?_, HF.out, HO.out⟩
      rw [pk_of (show upd d_ 21 19 = true from q19), pk_of (show upd d_ 21 20 = true from q20)]
      all_goals rfl
    · have HO : Hid (OrdP [[], [0], [1], [2], [2, 3], [2, 4], [2, 5], [6], [6], [6, 8], [6, 9], [6, 8, 9, 10], [6, 11], [6, 7, 10, 12], [6, 13], [13, 14], [15], [15, 16], [15, 17], [15, 18], [19], [19, 20], [19, 21], [19, 22], [23], [23, 24], [23, 25], [23, 26], [27], [27, 28], [27, 29], [0, 1, 2, 3, 4, 5, 6, 7, 8, 9, 10, 11, 12, 13, 14, 15, 16, 17, 18, 19, 20, 21, 22, 23, 24, 25, 26, 27, 28, 29, 30]] (upd d_ 22)) := O.step (show ∀ e ∈ ([19, 21] : List Nat), d_ e = true by simp [hdep])
      have q19 : d_ 19 = true := by simp [hdep]
      have q21 : d_ 21 = true := by simp [hdep]
      clear O
      rw [pk_of q19, pk_of q21]
      have HF := Lib.hid F
      clear F hdep
      go_simp
      refine HK.out _ _ ⟨?_, HF.out, HO.out⟩
      rw [pk_of (show upd d_ 22 19 = true from q19), pk_of (show upd d_ 22 21 = true from q21)]
      all_goals rfl
    · have HO : Hid (OrdP [[], [0], [1], [2], [2, 3], [2, 4], [2, 5], [6], [6], [6, 8], [6, 9], [6, 8, 9, 10], [6, 11], [6, 7, 10, 12], [6, 13], [13, 14], [15], [15, 16], [15, 17], [15, 18], [19], [19, 20], [19, 21], [19, 22], [23], [23, 24], [23, 25], [23, 26], [27], [27, 28], [27, 29], [0, 1, 2, 3, 4, 5, 6, 7, 8, 9, 10, 11, 12, 13, 14, 15, 16, 17, 18, 19, 20, 21, 22, 23, 24, 25, 26, 27, 28, 29, 30]] (upd d_ 23)) := O.step (show ∀ e ∈ ([19, 22] : List Nat), d_ e = true by simp [hdep])
      have q22 : d_ 22 = true := by simp [hdep]
      clear O
      rw [pk_of q22]
      have HF := Lib.hid F
      clear F hdep
      go_simp
      refine HK.out _ _ ⟨?_, HF.out, HO.out⟩
      rw [pk_of (show upd d_ 23 22 = true from q22)]
      all_goals rfl
    · have HO : Hid (OrdP [[], [0], [1], [2], [2, 3], [2, 4], [2, 5], [6], [6], [6, 8], [6, 9], [6, 8, 9, 10], [6, 11], [6, 7, 10, 12], [6, 13], [13, 14], [15], [15, 16], [15, 17], [15, 18], [19], [19, 20], [19, 21], [19, 22], [23], [23, 24], [23, 25], [23, 26], [27], [27, 28], [27, 29], [0, 1, 2, 3, 4, 5, 6, 7, 8, 9, 10, 11, 12, 13, 14, 15, 16, 17, 18, 19, 20, 21, 22, 23, 24, 25, 26, 27, 28, 29, 30]] (upd d_ 24)) := O.step (show ∀ e ∈ ([23] : List Nat), d_ e = true by simp [hdep])
      have q23 : d_ 23 = true := by simp [hdep]
      clear O
      rw [pk_of q23]
      have HF := Lib.hid F
      clear F hdep
      go_simp
      refine HK.out _ _ ⟨?_, HF.out, HO.out⟩
      rw [pk_of (show upd d_ 24 23 = true from q23)]
      all_goals rfl
    · have HO : Hid (OrdP [[], [0], [1], [2], [2, 3], [2, 4], [2, 5], [6], [6], [6, 8], [6, 9], [6, 8, 9, 10], [6, 11], [6, 7, 10, 12], [6, 13], [13, 14], [15], [15, 16], [15, 17], [15, 18], [19], [19, 20], [19, 21], [19, 22], [23], [23, 24], [23, 25], [23, 26], [27], [27, 28], [27, 29], [0, 1, 2, 3, 4, 5, 6, 7, 8, 9, 10, 11, 12, 13, 14, 15, 16, 17, 18, 19, 20, 21, 22, 23, 24, 25, 26, 27, 28, 29, 30]] (upd d_ 25)) := O.step (show ∀ e ∈ ([23, 24] : List Nat), d_ e = true by simp [hdep])
      have q23 : d_ 23 = true := by simp [hdep]
      have q24 : d_ 24 = true := by simp [hdep]
      clear O
      rw [pk_of q23, pk_of q24]
      have HF := Lib.hid F
      clear F hdep
      go_simp
      refine HK.out _ _ ⟨?_, HF.out, HO.out⟩
      rw [pk_of (show upd d_ 25 23 = true from q23), pk_of (show upd d_ 25 24 = true from q24)]
      all_goals rfl
    · have HO : Hid (OrdP [[], [0], [1], [2], [2, 3], [2, 4], [2, 5], [6], [6], [6, 8], [6, 9], [6, 8, 9, 10], [6, 11], [6, 7, 10, 12], [6, 13], [13, 14], [15], [15, 16], [15, 17], [15, 18], [19], [19, 20], [19, 21], [19, 22], [23], [23, 24], [23, 25], [23, 26], [27], [27, 28], [27, 29], [0, 1, 2, 3, 4, 5, 6, 7, 8, 9, 10, 11, 12, 13, 14, 15, 16, 17, 18, 19, 20, 21, 22, 23, 24, 25, 26, 27, 28, 29, 30]] (upd d_ 26)) := O.step (show ∀ e ∈ ([23, 25] : List Nat), d_ e = true by simp [hdep])
      have q23 : d_ 23 = true := by simp [hdep]
      have q25 : d_ 25 = true := by simp [hdep]
      clear O
      rw [pk_of q23, pk_of q25]
      have HF := Lib.hid F
      clear F hdep
      go_simp
      refine HK.out _ _ ⟨?_, HF.out, HO.out⟩
      rw [pk_of (show upd d_ 26 23 = true from q23), pk_of (show upd d_ 26 25 = true from q25)]
      all_goals rfl
    · have HO : Hid (OrdP [[], [0], [1], [2], [2, 3], [2, 4], [2, 5], [6], [6], [6, 8], [6, 9], [6, 8, 9, 10], [6, 11], [6, 7, 10, 12], [6, 13], [13, 14], [15], [15, 16], [15, 17], [15, 18], [19], [19, 20], [19, 21], [19, 22], [23], [23, 24], [23, 25], [23, 26], [27], [27, 28], [27, 29], [0, 1, 2, 3, 4, 5, 6, 7, 8, 9, 10, 11, 12, 13, 14, 15, 16, 17, 18, 19, 20, 21, 22, 23, 24, 25, 26, 27, 28, 29, 30]] (upd d_ 27)) := O.step (show ∀ e ∈ ([23, 26] : List Nat), d_ e = true by simp [hdep])
      have q26 : d_ 26 = true := by simp [hdep]
      clear O
      rw [pk_of q26]
      have HF := Lib.hid F
      clear F hdep
      go_simp
      refine HK.out _ _ ⟨?_, HF.out, HO.out⟩
      rw [pk_of (show upd d_ 27 26 = true from q26)]
      all_goals rfl
    · have HO : Hid (OrdP [[], [0], [1], [2], [2, 3], [2, 4], [2, 5], [6], [6], [6, 8], [6, 9], [6, 8, 9, 10], [6, 11], [6, 7, 10, 12], [6, 13], [13, 14], [15], [15, 16], [15, 17], [15, 18], [19], [19, 20], [19, 21], [19, 22], [23], [23, 24], [23, 25], [23, 26], [27], [27, 28], [27, 29], [0, 1, 2, 3, 4, 5, 6, 7, 8, 9, 10, 11, 12, 13, 14, 15, 16, 17, 18, 19, 20, 21, 22, 23, 24, 25, 26, 27, 28, 29, 30]] (upd d_ 28)) := O.step (show ∀ e ∈ ([27] : List Nat), d_ e = true by simp [hdep])
      have q27 : d_ 27 = true := by simp [hdep]
      clear O
      rw [pk_of q27]
      have HF := Lib.hid F
      clear F hdep
      go_simp
      refine HK.out _ _ ⟨?_, HF.out, HO.out⟩
      rw [pk_of (show upd d_ 28 27 = true from q27)]
      all_goals rfl
    · have HO : Hid (OrdP [[], [0], [1], [2], [2, 3], [2, 4], [2, 5], [6], [6], [6, 8], [6, 9], [6, 8, 9, 10], [6, 11], [6, 7, 10, 12], [6, 13], [13, 14], [15], [15, 16], [15, 17], [15, 18], [19], [19, 20], [19, 21], [19, 22], [23], [23, 24], [23, 25], [23, 26], [27], [27, 28], [27, 29], [0, 1, 2, 3, 4, 5, 6, 7, 8, 9, 10, 11, 12, 13, 14, 15, 16, 17, 18, 19, 20, 21, 22, 23, 24, 25, 26, 27, 28, 29, 30]] (upd d_ 29)) := O.step (show ∀ e ∈ ([27, 28] : List Nat), d_ e = true by simp [hdep])
      have q27 : d_ 27 = true := by simp [hdep]
      have q28 : d_ 28 = true := by simp [hdep]
      clear O
      rw [pk_of q27, pk_of q28]
      have HF := Lib.hid F
      clear F hdep
      go_simp
      refine HK.out _ _ ⟨?_, HF.out, HO.out⟩
      rw [pk_of (show upd d_ 29 27 = true from q27), pk_of (show upd d_ 29 28 = true from q28)]
      all_goals rfl
    · have HO : Hid (OrdP [[], [0], [1], [2], [2, 3], [2, 4], [2, 5], [6], [6], [6, 8], [6, 9], [6, 8, 9, 10], [6, 11], [6, 7, 10, 12], [6, 13], [13, 14], [15], [15, 16], [15, 17], [15, 18], [19], [19, 20], [19, 21], [19, 22], [23], [23, 24], [23, 25], [23, 26], [27], [27, 28], [27, 29], [0, 1, 2, 3, 4, 5, 6, 7, 8, 9, 10, 11, 12, 13, 14, 15, 16, 17, 18, 19, 20, 21, 22, 23, 24, 25, 26, 27, 28, 29, 30]] (upd d_ 30)) := O.step (show ∀ e ∈ ([27, 29] : List Nat), d_ e = true by simp [hdep])
      have q27 : d_ 27 = true := by simp [hdep]
      have q29 : d_ 29 = true := by simp [hdep]
      clear O
      rw [pk_of q27, pk_of q29]
      have HF := Lib.hid F
      clear F hdep
      go_simp
      refine HK.out _ _ ⟨?_, HF.out, HO.out⟩
      rw [pk_of (show upd d_ 30 27 = true from q27), pk_of (show upd d_ 30 29 = true from q29)]
      all_goals rfl
    · have HO : Hid (OrdP [[], [0], [1], [2], [2, 3], [2, 4], [2, 5], [6], [6], [6, 8], [6, 9], [6, 8, 9, 10], [6, 11], [6, 7, 10, 12], [6, 13], [13, 14], [15], [15, 16], [15, 17], [15, 18], [19], [19, 20], [19, 21], [19, 22], [23], [23, 24], [23, 25], [23, 26], [27], [27, 28], [27, 29], [0, 1, 2, 3, 4, 5, 6, 7, 8, 9, 10, 11, 12, 13, 14, 15, 16, 17, 18, 19, 20, 21, 22, 23, 24, 25, 26, 27, 28, 29, 30]] (upd d_ 31)) := O.step (show ∀ e ∈ ([0, 1, 2, 3, 4, 5, 6, 7, 8, 9, 10, 11, 12, 13, 14, 15, 16, 17, 18, 19, 20, 21, 22, 23, 24, 25, 26, 27, 28, 29, 30] : List Nat), d_ e = true by simp [hdep])
      have q30 : d_ 30 = true := by simp [hdep]
      clear O
      rw [pk_of q30]
      have HF := Lib.hid F
      clear F hdep
      go_simp
      refine HK.out _ _ ⟨?_, HF.out, HO.out⟩
      rw [pk_of (show upd d_ 31 30 = true from q30)]
      all_goals rfl
  · rintro d_ a_ w1 hall ⟨rfl, F, O⟩
    have hall' : ∀ k, k < 32 → d_ k = true := hall
    rw [hall' 8 (by decide), hall' 9 (by decide), hall' 10 (by decide), hall' 11 (by decide), hall' 13 (by decide)] at F
    have HF := Lib.hid F
    clear F
    rw [pk_of (hall' 0 (by decide)), pk_of (hall' 1 (by decide)), pk_of (hall' 2 (by decide)), pk_of (hall' 3 (by decide)), pk_of (hall' 4 (by decide)), pk_of (hall' 5 (by decide)), pk_of (hall' 6 (by decide)), pk_of (hall' 7 (by decide)), pk_of (hall' 8 (by decide)), pk_of (hall' 9 (by decide)), pk_of (hall' 10 (by decide)), pk_of (hall' 11 (by decide)), pk_of (hall' 12 (by decide)), pk_of (hall' 13 (by decide)), pk_of (hall' 14 (by decide)), pk_of (hall' 15 (by decide)), pk_of (hall' 16 (by decide)), pk_of (hall' 17 (by decide)), pk_of (hall' 18 (by decide)), pk_of (hall' 19 (by decide)), pk_of (hall' 20 (by decide)), pk_of (hall' 21 (by decide)), pk_of (hall' 22 (by decide)), pk_of (hall' 23 (by decide)), pk_of (hall' 24 (by decide)), pk_of (hall' 25 (by decide)), pk_of (hall' 26 (by decide)), pk_of (hall' 27 (by decide)), pk_of (hall' 28 (by decide)), pk_of (hall' 29 (by decide)), pk_of (hall' 30 (by decide)), pk_of (hall' 31 (by decide))]
    exact HQ.out w1 HF.out
end Go.Proofs.Ytjkhclijmcmdjaa
namespace Go.Proofs.Ytjkhclijmcmdjaa
open Go.RowKit
set_option linter.unusedVariables false
set_option linter.unusedSimpArgs false
theorem spns_three {w : World} {g : Nat} {a b c d e f : Int} (h : w.heap[g]? = some (.cells #[.int .i64 a, .int .i64 b, .int .i64 c, .int .i64 d, .int .i64 e, .int .i64 f] 23 (0, 0))) : IsSpns w (some ⟨g, 0, none⟩) [⟨a, b⟩, ⟨c, d⟩, ⟨e, f⟩] := fun i hi => by
  match i, hi with
  | 0, _ => exact ⟨g, 0, rfl, by rw [cell_of_heap h]; rfl, by rw [cell_of_heap h]; rfl⟩
  | 1, _ => exact ⟨g, 0, rfl, by rw [cell_of_heap h]; rfl, by rw [cell_of_heap h]; rfl⟩
  | 2, _ => exact ⟨g, 0, rfl, by rw [cell_of_heap h]; rfl, by rw [cell_of_heap h]; rfl⟩
  | i + 3, hi => have h3 : i + 3 < 3 := hi; omega
theorem sample_small : sampleP.Small := ⟨by decide, by decide, by decide⟩
set_option maxRecDepth 100000 in
set_option maxHeartbeats 4000000 in
theorem awake14 {w : World} : Calls Try.prog 14 #[] w fun e w' => e = .returned (.bool true) ∧ Below w.heap.size w w' := by
  have HW0 : Hid (Below w.heap.size w w) := Below.refl _ w
  go_enter Try.func14, Try.ntmps14
  refine wp_seq_hid ?_
  intro K0 HK0
  go_wp2_with fail
  refine HK0.out _ _ ?_
  clear HK0 K0
  refine wp_seq_hid ?_
  intro K1 HK1
  go_wp2_with fail
  refine (sample39 (w := _)).mono ?_
  rintro e v1 ⟨A1, rfl, hP, hcap, hb⟩
  have HP1 := Lib.hid (And.intro hP hcap)
  have HV1 := Lib.hid (HW0.out.trans (hb.mono HW0.out.size))
  have HS1 := Lib.hid hb
  clear hP hcap hb
  go_wp2_with fail
  have HA := Lib.hid (World.alloc_heap_new v1 (.cells #[.int .i64 2, .int .i64 1, .int .i64 1] 3))
  have HB : Hid (Below v1.heap.size v1 (v1.alloc (.cells #[.int .i64 2, .int .i64 1, .int .i64 1] 3))) := (Below.refl _ v1).alloc (Nat.le_refl _) _
  revert HA HB
  generalize v1.alloc (.cells #[.int .i64 2, .int .i64 1, .int .i64 1] 3) = x1
  generalize hg : v1.heap.size = g1
  intro HA HB
  have HBx : Hid (Below v1.heap.size v1 x1) := by rw [hg]; exact HB.out
  clear hg HB
  refine (forme40 (w := _)).mono ?_
  rintro e y1 ⟨rfl, hb⟩
  have HI1 : Hid (IsInts y1 (some ⟨g1, 0, none⟩) [2, 1, 1]) := (ints_three HA.out).mono hb
  have HY1 := Lib.hid (HBx.out.trans (hb.mono HBx.out.size))
  clear hb HA HBx
  go_wp2_with fail
  have G := gives15 (p := sampleP) (f := ⟨[2, 1, 1], 12⟩) (c := 3) (HP1.out.1.mono HY1.out) sample_small HI1.out (by decide)
  rw [givesS] at G
  refine G.mono ?_
  rintro e w1 ⟨av1, cv1, rfl, hsp, hb⟩
  have HG1 := Lib.hid hsp
  have HW1 := Lib.hid (HV1.out.trans ((HY1.out.trans (hb.mono HY1.out.size)).mono HV1.out.size))
  clear hsp hb G HI1 HY1 HP1 HS1 HV1
  go_wp2_with fail
  refine HK1.out _ _ ?_
  clear HK1 K1
  refine wp_seq_hid ?_
  intro K2 HK2
  go_wp2_with fail
  refine (sample39 (w := _)).mono ?_
  rintro e v2 ⟨A2, rfl, hP, hcap, hb⟩
  have HP2 := Lib.hid (And.intro hP hcap)
  have HV2 := Lib.hid (HW1.out.trans (hb.mono HW1.out.size))
  have HS2 := Lib.hid hb
  clear hP hcap hb
  go_wp2_with fail
  have HA := Lib.hid (World.alloc_heap_new v2 (.cells #[.int .i64 1, .int .i64 2, .int .i64 1] 3))
  have HB : Hid (Below v2.heap.size v2 (v2.alloc (.cells #[.int .i64 1, .int .i64 2, .int .i64 1] 3))) := (Below.refl _ v2).alloc (Nat.le_refl _) _
  revert HA HB
  generalize v2.alloc (.cells #[.int .i64 1, .int .i64 2, .int .i64 1] 3) = x2
  generalize hg : v2.heap.size = g2
  intro HA HB
  have HBx : Hid (Below v2.heap.size v2 x2) := by rw [hg]; exact HB.out
  clear hg HB
  refine (forme40 (w := _)).mono ?_
  rintro e y2 ⟨rfl, hb⟩
  have HI2 : Hid (IsInts y2 (some ⟨g2, 0, none⟩) [1, 2, 1]) := (ints_three HA.out).mono hb
  have HY2 := Lib.hid (HBx.out.trans (hb.mono HBx.out.size))
  clear hb HA HBx
  go_wp2_with fail
  have HAL : Hid (Below y2.heap.size y2 (y2.alloc (.cells #[.slice (some ⟨g2, 0, none⟩) 3 3, .int .i64 11] 29))) := (Below.refl _ y2).alloc (Nat.le_refl _) _
  have HF := Lib.hid (fmes_one (f := ⟨[1, 2, 1], 11⟩) (World.alloc_heap_new y2 (.cells #[.slice (some ⟨g2, 0, none⟩) 3 3, .int .i64 11] 29)) (HI2.out.mono HAL.out))
  have HYA := Lib.hid (HY2.out.trans (HAL.out.mono HY2.out.size))
  have G := check17 (p := sampleP) (A := A2) (l := [⟨[1, 2, 1], 11⟩]) (c := 1) (HP2.out.1.mono HYA.out) sample_small HF.out (by decide) (by decide)
  rw [checkS] at G
  refine G.mono ?_
  rintro e w2 ⟨rfl, hb⟩
  have HT := Lib.hid (HS2.out.trans ((HYA.out.trans (hb.mono HYA.out.size)).mono HS2.out.size))
  have HW2 := Lib.hid (HV2.out.trans ((HYA.out.trans (hb.mono HYA.out.size)).mono HV2.out.size))
  have HN2 : Hid (Below w1.heap.size w1 w2) := HT.out
  clear HT hb G HI2 HY2 HP2 HS2 HV2 HAL HYA HF
  go_wp2_with fail
  refine HK2.out _ _ ?_
  clear HK2 K2
  refine wp_seq_hid ?_
  intro K3 HK3
  go_wp2_with fail
  refine (sample39 (w := _)).mono ?_
  rintro e v3 ⟨A3, rfl, hP, hcap, hb⟩
  have HP3 := Lib.hid (And.intro hP hcap)
  have HV3 := Lib.hid (HW2.out.trans (hb.mono HW2.out.size))
  have HS3 := Lib.hid hb
  clear hP hcap hb
  go_wp2_with fail
  have HA := Lib.hid (World.alloc_heap_new v3 (.cells #[.int .i64 2, .int .i64 1, .int .i64 1] 3))
  have HB : Hid (Below v3.heap.size v3 (v3.alloc (.cells #[.int .i64 2, .int .i64 1, .int .i64 1] 3))) := (Below.refl _ v3).alloc (Nat.le_refl _) _
  revert HA HB
  generalize v3.alloc (.cells #[.int .i64 2, .int .i64 1, .int .i64 1] 3) = x3
  generalize hg : v3.heap.size = g3
  intro HA HB
  have HBx : Hid (Below v3.heap.size v3 x3) := by rw [hg]; exact HB.out
  clear hg HB
  refine (forme40 (w := _)).mono ?_
  rintro e y3 ⟨rfl, hb⟩
  have HI3 : Hid (IsInts y3 (some ⟨g3, 0, none⟩) [2, 1, 1]) := (ints_three HA.out).mono hb
  have HY3 := Lib.hid (HBx.out.trans (hb.mono HBx.out.size))
  clear hb HA HBx
  go_wp2_with fail
  have HAL : Hid (Below y3.heap.size y3 (y3.alloc (.cells #[.slice (some ⟨g3, 0, none⟩) 3 3, .int .i64 11] 29))) := (Below.refl _ y3).alloc (Nat.le_refl _) _
  have HF := Lib.hid (fmes_one (f := ⟨[2, 1, 1], 11⟩) (World.alloc_heap_new y3 (.cells #[.slice (some ⟨g3, 0, none⟩) 3 3, .int .i64 11] 29)) (HI3.out.mono HAL.out))
  have HYA := Lib.hid (HY3.out.trans (HAL.out.mono HY3.out.size))
  have G := cost19 (p := sampleP) (A := A3) (l := [⟨[2, 1, 1], 11⟩]) (c := 1) (HP3.out.1.mono HYA.out) sample_small HF.out (by decide) (by decide)
  rw [costS] at G
  refine G.mono ?_
  rintro e w3 ⟨rfl, hb⟩
  have HT := Lib.hid (HS3.out.trans ((HYA.out.trans (hb.mono HYA.out.size)).mono HS3.out.size))
  have HW3 := Lib.hid (HV3.out.trans ((HYA.out.trans (hb.mono HYA.out.size)).mono HV3.out.size))
  have HN3 : Hid (Below w2.heap.size w2 w3) := HT.out
  clear HT hb G HI3 HY3 HP3 HS3 HV3 HAL HYA HF
  go_wp2_with fail
  refine HK3.out _ _ ?_
  clear HK3 K3
  refine wp_seq_hid ?_
  intro K4 HK4
  go_wp2_with fail
  refine (sample39 (w := _)).mono ?_
  rintro e v4 ⟨A4, rfl, hP, hcap, hb⟩
  have HP4 := Lib.hid (And.intro hP hcap)
  have HV4 := Lib.hid (HW3.out.trans (hb.mono HW3.out.size))
  have HS4 := Lib.hid hb
  clear hP hcap hb
  go_wp2_with fail
  have G := best23 (p := sampleP) HP4.out.1 sample_small
  rw [best_sample] at G
  refine G.mono ?_
  rintro e w4 ⟨ab, cb, rfl, hpl, hb⟩
  have HN4 := Lib.hid (HS4.out.trans (hb.mono HS4.out.size))
  have HW4 := Lib.hid (HV4.out.trans (hb.mono HV4.out.size))
  have HG4 := Lib.hid hpl
  clear hpl
  clear hb G HP4 HS4 HV4
  go_wp2_with fail
  refine HK4.out _ _ ?_
  clear HK4 K4
  refine wp_seq_hid ?_
  intro K5 HK5
  go_wp2_with fail
  refine (sample39 (w := _)).mono ?_
  rintro e v5 ⟨A5, rfl, hP, hcap, hb⟩
  have HP5 := Lib.hid (And.intro hP hcap)
  have HV5 := Lib.hid (HW4.out.trans (hb.mono HW4.out.size))
  have HS5 := Lib.hid hb
  clear hP hcap hb
  go_wp2_with fail
  have G := play26 (p := sampleP) HP5.out.1 sample_small
  rw [playS] at G
  refine G.mono ?_
  rintro e w5 ⟨rfl, hb⟩
  have HN5 := Lib.hid (HS5.out.trans (hb.mono HS5.out.size))
  have HW5 := Lib.hid (HV5.out.trans (hb.mono HV5.out.size))
  clear hb G HP5 HS5 HV5
  go_wp2_with fail
  refine HK5.out _ _ ?_
  clear HK5 K5
  refine wp_seq_hid ?_
  intro K6 HK6
  go_wp2_with fail
  refine (sample39 (w := _)).mono ?_
  rintro e v6 ⟨A6, rfl, hP, hcap, hb⟩
  have HP6 := Lib.hid (And.intro hP hcap)
  have HV6 := Lib.hid (HW5.out.trans (hb.mono HW5.out.size))
  have HS6 := Lib.hid hb
  clear hP hcap hb
  go_wp2_with fail
  have G := on28 (p := sampleP) (n := 3) HP6.out.1 sample_small HP6.out.2
  rw [onS] at G
  refine G.mono ?_
  rintro e w6 ⟨ah, ch, rfl, hsh, hb⟩
  have HN6 := Lib.hid (HS6.out.trans (hb.mono HS6.out.size))
  have HW6 := Lib.hid (HV6.out.trans (hb.mono HV6.out.size))
  have HG6 := Lib.hid hsh
  clear hsh
  clear hb G HP6 HS6 HV6
  have HQ2 := Lib.hid (World.alloc_heap_new w6 (.cells #[.int .i64 18, .int .i64 550, .slice ah 3 ch] 48))
  have HNB0 : Hid (Below w6.heap.size w6 (w6.alloc (.cells #[.int .i64 18, .int .i64 550, .slice ah 3 ch] 48))) := (Below.refl _ w6).alloc (Nat.le_refl _) _
  go_wp2_with fail
  refine HK6.out _ _ ?_
  clear HK6 K6
  revert HQ2 HNB0
  generalize w6.alloc (.cells #[.int .i64 18, .int .i64 550, .slice ah 3 ch] 48) = w7
  generalize hb48 : w6.heap.size = b48
  intro HQ2 HNB0
  have HNB : Hid (Below w6.heap.size w6 w7) := by rw [hb48]; exact HNB0.out
  clear HNB0 hb48
  have HW7 := Lib.hid (HW6.out.trans (HNB.out.mono HW6.out.size))
  refine wp_seq_hid ?_
  intro K7 HK7
  go_wp2_with fail
  refine (sample39 (w := _)).mono ?_
  rintro e v8 ⟨A8, rfl, hP, hcap, hb⟩
  have HP8 := Lib.hid (And.intro hP hcap)
  have HV8 := Lib.hid (HW7.out.trans (hb.mono HW7.out.size))
  have HS8 := Lib.hid hb
  clear hP hcap hb
  go_wp2_with fail
  have G := starts30 (p := sampleP) HP8.out.1 sample_small
  rw [startsS] at G
  refine G.mono ?_
  rintro e w8 ⟨rfl, hb⟩
  have HN8 := Lib.hid (HS8.out.trans (hb.mono HS8.out.size))
  have HW8 := Lib.hid (HV8.out.trans (hb.mono HV8.out.size))
  clear hb G HP8 HS8 HV8
  go_wp2_with fail
  refine HK7.out _ _ ?_
  clear HK7 K7
  have H1 := Lib.hid (HG1.out.mono (HN2.out.trans ((HN3.out.trans ((HN4.out.trans ((HN5.out.trans ((HN6.out.trans ((HNB.out.trans (HN8.out.mono HNB.out.size)).mono HN6.out.size)).mono HN5.out.size)).mono HN4.out.size)).mono HN3.out.size)).mono HN2.out.size)))
  have H4 := Lib.hid (HG4.out.mono (HN5.out.trans ((HN6.out.trans ((HNB.out.trans (HN8.out.mono HNB.out.size)).mono HN6.out.size)).mono HN5.out.size)))
  have H6 := Lib.hid (HG6.out.mono (HNB.out.trans (HN8.out.mono HNB.out.size)))
  have H7 := Lib.hid ((HN8.out.block _ (heap_lt HQ2.out)).trans HQ2.out)
  clear HG1 HG4 HG6 HN2 HN3 HN4 HN5 HN6 HNB HN8 HQ2 HW0 HW1 HW2 HW3 HW4 HW5 HW6 HW7
  refine wp_seq_hid ?_
  intro K8 HK8
  go_wp2_with fail
  refine (span35 (w := _)).mono ?_
  rintro e q1 ⟨rfl, hq1⟩
  go_wp2_with fail
  refine (span35 (w := _)).mono ?_
  rintro e q2 ⟨rfl, hq2⟩
  go_wp2_with fail
  refine (span35 (w := _)).mono ?_
  rintro e q3 ⟨rfl, hq3⟩
  go_wp2_with fail
  have HQ3 : Hid (Below w8.heap.size w8 q3) := hq1.trans ((hq2.trans (hq3.mono hq2.size)).mono hq1.size)
  clear hq1 hq2 hq3
  have HAL : Hid (Below q3.heap.size q3 (q3.alloc (.cells #[.int .i64 20, .int .i64 24, .int .i64 10, .int .i64 12, .int .i64 10, .int .i64 12] 23))) := (Below.refl _ q3).alloc (Nat.le_refl _) _
  have HAA := Lib.hid (HQ3.out.trans (HAL.out.mono HQ3.out.size))
  have G := spans21 (ca := cv1) (cb := 3) (H1.out.mono HAA.out) (spns_three (World.alloc_heap_new q3 (.cells #[.int .i64 20, .int .i64 24, .int .i64 10, .int .i64 12, .int .i64 10, .int .i64 12] 23))) (by decide) (by decide)
  rw [decide_eq_true rfl] at G
  refine G.mono ?_
  rintro e q4 ⟨rfl, hb⟩
  have HQ4 := Lib.hid (HAA.out.trans (hb.mono HAA.out.size))
  clear hb G HAL HAA HQ3 H1
  go_wp2_with fail
  have HA := Lib.hid (World.alloc_heap_new q4 (.cells #[.int .i64 2, .int .i64 1, .int .i64 1] 3))
  have HB : Hid (Below q4.heap.size q4 (q4.alloc (.cells #[.int .i64 2, .int .i64 1, .int .i64 1] 3))) := (Below.refl _ q4).alloc (Nat.le_refl _) _
  revert HA HB
  generalize q4.alloc (.cells #[.int .i64 2, .int .i64 1, .int .i64 1] 3) = x9
  generalize hg : q4.heap.size = g9
  intro HA HB
  have HBx : Hid (Below q4.heap.size q4 x9) := by rw [hg]; exact HB.out
  clear hg HB
  refine (forme40 (w := _)).mono ?_
  rintro e y9 ⟨rfl, hb⟩
  have HI9 : Hid (IsInts y9 (some ⟨g9, 0, none⟩) [2, 1, 1]) := (ints_three HA.out).mono hb
  have HY9 := Lib.hid (HQ4.out.trans ((HBx.out.trans (hb.mono HBx.out.size)).mono HQ4.out.size))
  clear hb HA HBx HQ4
  go_wp2_with fail
  have HAL : Hid (Below y9.heap.size y9 (y9.alloc (.cells #[.slice (some ⟨g9, 0, none⟩) 3 3, .int .i64 12] 29))) := (Below.refl _ y9).alloc (Nat.le_refl _) _
  have HAA := Lib.hid (HY9.out.trans (HAL.out.mono HY9.out.size))
  have HF := Lib.hid (fmes_one (f := ⟨[2, 1, 1], 12⟩) (World.alloc_heap_new y9 (.cells #[.slice (some ⟨g9, 0, none⟩) 3 3, .int .i64 12] 29)) (HI9.out.mono HAL.out))
  have G := formes25 (ca := cb) (cb := 1) (H4.out.mono HAA.out) HF.out (by decide) (by decide) (by decide) (by decide)
  rw [decide_eq_true rfl] at G
  refine G.mono ?_
  rintro e q5 ⟨rfl, hb⟩
  have HQ5 := Lib.hid (HAA.out.trans (hb.mono HAA.out.size))
  clear hb G HAL HAA HF HI9 HY9 H4
  go_wp2_with fail
  refine HK8.out _ _ ?_
  clear HK8 K8
  have HS8 : Hid (w8.heap.size ≤ q5.heap.size) := HQ5.out.size
  refine wp_seq_hid ?_
  intro K9 HK9
  refine wpIn_wide.1 (awk10 (b48 := b48) (ah := ah) (ch := ch) (S := q5.heap.size)
    (P0 := fun v => v.heap.size = q5.heap.size ∧ Below q5.heap.size q5 v) (P1 := fun v => v.heap.size = q5.heap.size + 1 ∧ Below q5.heap.size q5 v) (P2 := fun v => v.heap.size = q5.heap.size + 2 ∧ Below q5.heap.size q5 v)
    (P3 := fun v => v.heap.size = q5.heap.size + 3 ∧ Below q5.heap.size q5 v) (P4 := fun v => v.heap[q5.heap.size + 3]? = some (.cells #[.int .i64 5, .int .i64 9, .int .i64 10, .int .i64 12, .int .i64 10, .int .i64 12] 23 (0, 0)) ∧ Below q5.heap.size q5 v)
    (P5 := fun v => Below q5.heap.size q5 v) ?h0 ?l7 ?c8 ?c9 ?c10 ?r11 ?c13 ?hQ)
  case h0 => exact ⟨rfl, (Below.refl _ q5).drew⟩
  case l7 =>
    intro v h
    have hb : Below w8.heap.size w8 v := by
      rcases h with h | h | h | h | h
      · exact HQ5.out.trans (h.2.mono HS8.out)
      · exact HQ5.out.trans (h.2.mono HS8.out)
      · exact HQ5.out.trans (h.2.mono HS8.out)
      · exact HQ5.out.trans (h.2.mono HS8.out)
      · exact HQ5.out.trans (h.2.mono HS8.out)
    have hx := (hb.block _ (heap_lt H7.out)).trans H7.out
    exact ⟨by rw [cell_of_heap hx]; rfl, by rw [cell_of_heap hx]; rfl, by rw [cell_of_heap hx]; rfl⟩
  case c8 => intro v h; exact span35n.mono fun e w' ⟨h1, h2, h3⟩ => ⟨h1, by rw [h3, h.1], h.2.trans (h2.mono h.2.size)⟩
  case c9 => intro v h; exact span35n.mono fun e w' ⟨h1, h2, h3⟩ => ⟨h1, by rw [h3, h.1], h.2.trans (h2.mono h.2.size)⟩
  case c10 => intro v h; exact span35n.mono fun e w' ⟨h1, h2, h3⟩ => ⟨h1, by rw [h3, h.1], h.2.trans (h2.mono h.2.size)⟩
  case r11 =>
    intro v h
    have hq := World.alloc_heap_new v (.cells #[.int .i64 5, .int .i64 9, .int .i64 10, .int .i64 12, .int .i64 10, .int .i64 12] 23)
    have hb : Below v.heap.size v (v.alloc (.cells #[.int .i64 5, .int .i64 9, .int .i64 10, .int .i64 12, .int .i64 10, .int .i64 12] 23)) := (Below.refl _ v).alloc (Nat.le_refl _) _
    rw [h.1] at hq
    exact ⟨h.1, hq, h.2.trans (hb.mono h.2.size)⟩
  case c13 =>
    intro v h
    have hb : Below w8.heap.size w8 v := HQ5.out.trans (h.2.mono HS8.out)
    have G := shelf32 (s := ⟨18, 550, [⟨5, 9⟩, ⟨10, 12⟩, ⟨10, 12⟩]⟩) (t := ⟨18, 550, [⟨5, 9⟩, ⟨10, 12⟩, ⟨10, 12⟩]⟩) (ca := ch) (cb := 3) (H6.out.mono hb) (spns_three h.1) (by decide) (by decide)
    have E : shfSame ⟨18, 550, [⟨5, 9⟩, ⟨10, 12⟩, ⟨10, 12⟩]⟩ ⟨18, 550, [⟨5, 9⟩, ⟨10, 12⟩, ⟨10, 12⟩]⟩ = true := by decide
    rw [E] at G
    exact G.mono fun e w' ⟨h1, h2⟩ => ⟨h1, h.2.trans (h2.mono h.2.size)⟩
  intro v hv
  have HV := Lib.hid (HW8.out.trans ((HQ5.out.trans (hv.mono HS8.out)).mono HW8.out.size))
  clear hv
  refine HK9.out _ _ ?_
  clear HK9 K9
  go_wp2_with fail
  go_ret
  exact ⟨rfl, HV.out⟩
end Go.Proofs.Ytjkhclijmcmdjaa
namespace Go.Proofs.Ytjkhclijmcmdjaa
set_option linter.unusedVariables false
set_option linter.unusedSimpArgs false
theorem cmpI_neg (a b : Int) : cmpI b a = - cmpI a b := by unfold cmpI; split <;> split <;> omega
theorem cmpI_self (a : Int) : cmpI a a = 0 := by simp [cmpI]
theorem cmpL_step (x y : Int) (a b : List Int) : cmpL (x :: a) (y :: b) = if cmpI x y ≠ 0 then cmpI x y else cmpL a b := rfl
theorem cmpL_neg : ∀ a b : List Int, cmpL b a = - cmpL a b
  | [], [] => rfl
  | [], _ :: _ => rfl
  | _ :: _, [] => rfl
  | x :: a, y :: b => by
    unfold cmpL
    rw [cmpI_neg x y, cmpL_neg a b]
    by_cases h : cmpI x y = 0
    · rw [if_neg (by omega), if_neg (by omega)]
    · rw [if_pos (by omega), if_pos h]
theorem cmpL_refl : ∀ a : List Int, cmpL a a = 0
  | [] => rfl
  | x :: a => by
    have h0 := cmpI_self x
    unfold cmpL
    rw [if_neg (by omega)]
    exact cmpL_refl a
theorem keyL_cons (x y : Int) (a b : List Int) : cmpL (x :: a) (y :: b) ≤ 0 ↔ x < y ∨ x = y ∧ cmpL a b ≤ 0 := by
  rw [cmpL_step]
  unfold cmpI
  by_cases h1 : x < y
  · simp [h1]
  · by_cases h2 : y < x
    · simp [h1, h2]; omega
    · simp [h1, h2]; omega
theorem keyL_lt (x y : Int) (a b : List Int) : cmpL (x :: a) (y :: b) < 0 ↔ x < y ∨ x = y ∧ cmpL a b < 0 := by
  rw [cmpL_step]
  unfold cmpI
  by_cases h1 : x < y
  · simp [h1]
  · by_cases h2 : y < x
    · simp [h1, h2]; omega
    · simp [h1, h2]; omega
theorem cmpL_trans : ∀ {a b c : List Int}, cmpL a b ≤ 0 → cmpL b c ≤ 0 → cmpL a c ≤ 0
  | [], _, [], _, _ => by simp [cmpL]
  | [], _, _ :: _, _, _ => by simp [cmpL]
  | _ :: _, [], _, h, _ => by simp [cmpL] at h
  | _ :: _, _ :: _, [], _, h => by simp [cmpL] at h
  | x :: a, y :: b, z :: c, h1, h2 => by
    rw [keyL_cons] at h1 h2 ⊢
    rcases h1 with h1 | ⟨h1, h3⟩ <;> rcases h2 with h2 | ⟨h2, h4⟩
    · omega
    · omega
    · omega
    · exact .inr ⟨by omega, cmpL_trans h3 h4⟩
theorem cmpL_pre : ∀ (x a b : List Int), cmpL (x ++ a) (x ++ b) = cmpL a b
  | [], a, b => rfl
  | x :: l, a, b => by
    have h0 := cmpI_self x
    simp only [List.cons_append, cmpL]
    rw [if_neg (by omega), cmpL_pre l a b]
theorem cmpL_app : ∀ {a b : List Int} (x y : List Int), a.length = b.length → cmpL a b < 0 → cmpL (a ++ x) (b ++ y) < 0
  | [], [], _, _, _, h => by simp [cmpL] at h
  | [], _ :: _, _, _, h, _ => by simp at h
  | _ :: _, [], _, _, h, _ => by simp at h
  | x :: a, y :: b, u, v, hl, h => by
    rw [keyL_lt] at h
    simp only [List.cons_append]
    rw [keyL_lt]
    rcases h with h | ⟨h, h1⟩
    · exact .inl h
    · exact .inr ⟨h, cmpL_app u v (by simpa using hl) h1⟩
/-- What plans are ordered by. -/
def Prs.key (p : Prs) (x : List Fme) : List Int := p.cost x :: (x.length : Int) :: numsL x
theorem before_key (p : Prs) (x y : List Fme) : p.before x y = decide (cmpL (p.key x) (p.key y) < 0) := by
  unfold Prs.before Prs.key
  congr 1
  simp only [orL, cmpL]
  by_cases h1 : cmpI (p.cost x) (p.cost y) = 0
  · by_cases h2 : cmpI (x.length : Int) (y.length : Int) = 0
    · by_cases h3 : cmpL (numsL x) (numsL y) = 0
      · simp [h1, h2, h3]
      · simp [h1, h2, h3]
    · simp [h1, h2]
  · simp [h1]
theorem key_le {p : Prs} {x y : List Fme} : cmpL (p.key x) (p.key y) ≤ 0 ↔ p.cost x < p.cost y ∨ p.cost x = p.cost y ∧ (x.length < y.length ∨ x.length = y.length ∧ cmpL (numsL x) (numsL y) ≤ 0) := by
  unfold Prs.key
  rw [keyL_cons, keyL_cons]
  omega
/-- The first one of the best. -/
theorem pickF_some (p : Prs) : ∀ (l : List (List Fme)) (b : List Fme), ∃ z, p.pickF (some b) l = some z ∧ cmpL (p.key z) (p.key b) ≤ 0 ∧ ∀ x ∈ l, cmpL (p.key z) (p.key x) ≤ 0
  | [], b => ⟨b, rfl, by rw [cmpL_refl]; omega, fun x h => by cases h⟩
  | y :: r, b => by
    obtain ⟨z, h1, h2, h3⟩ := pickF_some p r (if p.before y b then y else b)
    refine ⟨z, h1, ?_⟩
    rw [before_key] at h2
    by_cases h : cmpL (p.key y) (p.key b) < 0
    · rw [if_pos (by simpa using h)] at h2
      exact ⟨cmpL_trans h2 (by omega), fun x hx => by
        rcases List.mem_cons.1 hx with rfl | hx
        · exact h2
        · exact h3 x hx⟩
    · rw [if_neg (by simpa using h)] at h2
      have h5 := cmpL_neg (p.key y) (p.key b)
      exact ⟨h2, fun x hx => by
        rcases List.mem_cons.1 hx with rfl | hx
        · exact cmpL_trans h2 (by omega)
        · exact h3 x hx⟩
theorem pickF_least (p : Prs) : ∀ (l : List (List Fme)), (p.pickF none l = none ∧ l = []) ∨ ∃ z, p.pickF none l = some z ∧ ∀ x ∈ l, cmpL (p.key z) (p.key x) ≤ 0
  | [] => .inl ⟨rfl, rfl⟩
  | y :: r => by
    obtain ⟨z, h1, h2, h3⟩ := pickF_some p r y
    exact .inr ⟨z, h1, fun x hx => by
      rcases List.mem_cons.1 hx with rfl | hx
      · exact h2
      · exact h3 x hx⟩
theorem sumL_nonneg : ∀ {l : List Int}, (∀ z ∈ l, 0 ≤ z) → 0 ≤ sumL l
  | [], _ => Int.le_refl 0
  | x :: r, h => by
    have h1 := sumL_nonneg (l := r) fun z hz => h z (by simp [hz])
    have h2 := h x (by simp)
    show 0 ≤ x + sumL r
    omega
theorem slotsF_all (room : Int) : ∀ (y pre : List Int) (left : Nat), (∀ z ∈ y, 0 ≤ z) → sumL y ≤ left → (left : Int) - sumL y < room → pre ++ y ∈ slotsF room y.length pre left
  | [], pre, left, _, _, h => by
    have h2 : (left : Int) < room := by have : sumL [] = 0 := rfl
                                        omega
    show pre ++ [] ∈ (if (left : Int) < room then [pre] else [])
    rw [if_pos h2]
    simp
  | x :: y, pre, left, h0, h1, h2 => by
    have hx := h0 x (by simp)
    have hy : ∀ z ∈ y, 0 ≤ z := fun z hz => h0 z (by simp [hz])
    have hs := sumL_nonneg hy
    have e : sumL (x :: y) = x + sumL y := rfl
    show pre ++ x :: y ∈ slotsF room (y.length + 1) pre left
    rw [slotsF_succ, List.mem_flatMap]
    refine ⟨x.toNat, by rw [List.mem_range]; omega, ?_⟩
    have := slotsF_all room y (pre ++ [(x.toNat : Int)]) (left - x.toNat) hy (by omega) (by omega)
    unfold slF
    have e2 : ((x.toNat : Nat) : Int) = x := by omega
    rw [e2] at this ⊢
    rwa [List.append_assoc, List.singleton_append] at this
theorem fme_parts {p : Prs} {f : Fme} (h : fmeOk p f = true) : f.slots.length = p.wanted.length ∧ (∀ z ∈ f.slots, 0 ≤ z ∧ z ≤ 6) ∧ (1 ≤ sumL f.slots ∧ sumL f.slots ≤ p.room) ∧ 1 ≤ f.times ∧ f.times ≤ 1048576 := by
  unfold fmeOk at h
  simp only [Bool.and_eq_true, decide_eq_true_eq, inR, List.all_eq_true] at h
  exact ⟨h.1.1.1, h.1.1.2, h.1.2, h.2⟩
theorem slots_all {p : Prs} (hV : p.valid = true) {f : Fme} (h : fmeOk p f = true) : f.slots ∈ p.slots := by
  obtain ⟨h1, h2, h3, _⟩ := fme_parts h
  have hr := room_of hV
  have := slotsF_all p.room f.slots [] p.room.toNat (fun z hz => (h2 z hz).1) (by omega) (by omega)
  rw [h1, List.nil_append] at this
  exact this
theorem slotsF_sorted (room : Int) : ∀ (d : Nat) (pre : List Int) (left : Nat), (slotsF room d pre left).Pairwise fun a b => cmpL a b < 0
  | 0, pre, left => by
    show List.Pairwise _ (if (left : Int) < room then [pre] else [])
    split <;> simp
  | d + 1, pre, left => by
    rw [slotsF_succ, List.pairwise_flatMap]
    refine ⟨fun n _ => slotsF_sorted room d _ _, ?_⟩
    refine List.Pairwise.imp ?_ List.pairwise_lt_range
    intro a b hab x hx y hy
    obtain ⟨u, hu, _⟩ := slotsF_mem room d _ _ _ hx
    obtain ⟨v, hv, _⟩ := slotsF_mem room d _ _ _ hy
    rw [hu, hv, List.append_assoc, List.append_assoc, cmpL_pre, List.singleton_append, List.singleton_append, keyL_lt]
    left; omega
theorem slots_sorted (p : Prs) : p.slots.Pairwise fun a b => cmpL a b < 0 := slotsF_sorted _ _ _ _
theorem div_up {x s m : Int} (hs : 0 < s) : (x + s - 1) / s ≤ m ↔ x ≤ s * m := by
  constructor
  · intro h
    have h1 := Int.lt_ediv_add_one_mul_self (x + s - 1) hs
    have h2 : ((x + s - 1) / s + 1) * s ≤ (m + 1) * s := Int.mul_le_mul_of_nonneg_right (by omega) (by omega)
    have h3 : (m + 1) * s = s * m + s := by rw [Int.add_mul, Int.one_mul, Int.mul_comm]
    omega
  · intro h
    have h1 : x + s - 1 < (m + 1) * s := by rw [Int.add_mul, Int.one_mul, Int.mul_comm]; omega
    have := Int.ediv_lt_of_lt_mul hs h1
    omega
theorem restF_fit {s : List Int} (hs : ∀ i, 0 ≤ gi s i) : ∀ (l : List Int) (v : Nat) (n m : Int), restF s l v n = some m → n ≤ m ∧ ∀ k, k < l.length → gi l k ≤ 0 ∨ (0 < gi s (v + k) ∧ gi l k ≤ gi s (v + k) * m)
  | [], v, n, m, h => by
    simp only [restF, Option.some.injEq] at h
    exact ⟨by omega, fun k hk => by simp at hk⟩
  | x :: r, v, n, m, h => by
    unfold restF at h
    have shift : ∀ k, gi (x :: r) (k + 1) = gi r k := fun k => rfl
    split at h
    · next hx =>
      obtain ⟨h1, h2⟩ := restF_fit hs r _ _ _ h
      refine ⟨h1, fun k hk => ?_⟩
      cases k with
      | zero => exact .inl hx
      | succ k =>
        rw [shift, show v + (k + 1) = v + 1 + k by omega]
        exact h2 k (by simpa using hk)
    · next hx =>
      split at h
      · cases h
      · next hy =>
        obtain ⟨h1, h2⟩ := restF_fit hs r _ _ _ h
        refine ⟨by omega, fun k hk => ?_⟩
        cases k with
        | zero =>
          have h0 : 0 < gi s v := by have := hs v; omega
          exact .inr ⟨h0, (div_up h0).1 (by show (x + gi s v - 1) / gi s v ≤ m; omega)⟩
        | succ k =>
          rw [shift, show v + (k + 1) = v + 1 + k by omega]
          exact h2 k (by simpa using hk)
theorem restF_low {s : List Int} (hs : ∀ i, 0 ≤ gi s i) {g : Int} : ∀ (l : List Int) (v : Nat) (n : Int), n ≤ g → (∀ k, k < l.length → gi l k ≤ gi s (v + k) * g) → ∃ m, restF s l v n = some m ∧ m ≤ g
  | [], v, n, h, _ => ⟨n, rfl, h⟩
  | x :: r, v, n, h, hl => by
    unfold restF
    have hr : ∀ k, k < r.length → gi r k ≤ gi s (v + 1 + k) * g := fun k hk => by
      have := hl (k + 1) (by simpa using hk)
      rw [show v + (k + 1) = v + 1 + k by omega] at this
      exact this
    split
    · exact restF_low hs r _ _ h hr
    · next hx =>
      have h0 := hl 0 (by simp)
      have e : gi (x :: r) 0 = x := rfl
      rw [e, Nat.add_zero] at h0
      have h1 : gi s v ≠ 0 := fun h => by rw [h] at h0; omega
      rw [if_neg h1]
      have h2 : 0 < gi s v := by have := hs v; omega
      have h3 := (div_up h2).2 h0
      exact restF_low hs r _ _ (by omega) hr
theorem gi_lacks {p : Prs} {has : Nat → Int} {k : Nat} (hk : k < p.wanted.length) : gi ((List.range p.wanted.length).map fun v => gi p.wanted v - has v) k = gi p.wanted k - has k := by
  unfold gi
  rw [List.getD_eq_getElem?_getD, List.getElem?_map, List.getElem?_range hk]
  rfl
theorem rest_fit {p : Prs} {s : List Int} (hs : ∀ i, 0 ≤ gi s i) {has : Nat → Int} {m : Int} (h : p.rest s has = some m) : 0 ≤ m ∧ ∀ v, v < p.wanted.length → gi p.wanted v - has v ≤ 0 ∨ (0 < gi s v ∧ gi p.wanted v - has v ≤ gi s v * m) := by
  obtain ⟨h1, h2⟩ := restF_fit hs _ _ _ _ h
  refine ⟨h1, fun v hv => ?_⟩
  have := h2 v (by simpa using hv)
  rwa [gi_lacks hv, Nat.zero_add] at this
theorem rest_low {p : Prs} {s : List Int} (hs : ∀ i, 0 ≤ gi s i) {has : Nat → Int} {g : Int} (hg : 0 ≤ g) (h : ∀ v, v < p.wanted.length → gi p.wanted v - has v ≤ gi s v * g) : ∃ m, p.rest s has = some m ∧ m ≤ g :=
  restF_low hs _ _ _ hg fun k hk => by
    have hk2 : k < p.wanted.length := by simpa using hk
    rw [gi_lacks hk2, Nat.zero_add]
    exact h k hk2
theorem few_no {p : Prs} {l : List Fme} : p.few l = none ↔ ∀ v, v < p.wanted.length → gi p.wanted v ≤ p.least l v := by
  unfold Prs.few
  rw [List.find?_eq_none]
  simp only [List.mem_range, decide_eq_true_eq, Int.not_lt]
theorem least_nil (p : Prs) (v : Nat) : p.least [] v = 0 := rfl
theorem least_one (p : Prs) (f : Fme) (v : Nat) : p.least [f] v = gi f.slots v * (p.good f.times).lo := by
  show gi f.slots v * (p.good f.times).lo + 0 = _
  omega
theorem least_two (p : Prs) (f g : Fme) (v : Nat) : p.least [f, g] v = gi f.slots v * (p.good f.times).lo + gi g.slots v * (p.good g.times).lo := by
  show gi f.slots v * (p.good f.times).lo + (gi g.slots v * (p.good g.times).lo + 0) = _
  omega
theorem cost_one (p : Prs) (f : Fme) : p.cost [f] = p.make + p.sheet * f.times := by
  show p.make + p.sheet * f.times + 0 = _
  omega
theorem cost_two (p : Prs) (f g : Fme) : p.cost [f, g] = (p.make + p.sheet * f.times) + (p.make + p.sheet * g.times) := by
  show p.make + p.sheet * f.times + (p.make + p.sheet * g.times + 0) = _
  omega
theorem nums_one (f : Fme) : numsL [f] = f.slots ++ [f.times] := by simp [numsL]
theorem nums_two (f g : Fme) : numsL [f, g] = f.slots ++ (f.times :: (g.slots ++ [g.times])) := by simp [numsL]
/-- A plan that surely gives what is wanted. -/
def Prs.Sure (p : Prs) (l : List Fme) : Prop := (l.length : Int) ≤ p.formes ∧ (∀ f ∈ l, fmeOk p f = true) ∧ p.few l = none
theorem sheet_of {p : Prs} (hV : p.valid = true) : 0 ≤ p.sheet ∧ 0 ≤ p.make := by
  unfold Prs.valid at hV
  simp only [Bool.and_eq_true, Prs.penceOk, inR, decide_eq_true_eq] at hV
  omega
theorem good_times {p : Prs} (S : Spoil p) {a b : Int} (h0 : 0 ≤ a) (h : a ≤ b) : (p.good a).lo ≤ (p.good b).lo := by
  have := good_le S (i := a.toNat) (j := b.toNat) (by omega)
  rwa [show ((a.toNat : Nat) : Int) = a by omega, show ((b.toNat : Nat) : Int) = b by omega] at this
theorem good_zero {p : Prs} (S : Spoil p) {a : Int} (h0 : 0 ≤ a) : 0 ≤ (p.good a).lo := by
  have h1 := good_times S (Int.le_refl 0) h0
  have h2 : (p.good 0).lo = 0 := by show (0 : Int) - (0 * p.shi + 99) / 100 = 0; rw [Int.zero_mul]; rfl
  omega
theorem good_enough {p : Prs} (S : Spoil p) {n : Int} (h0 : 0 ≤ n) : n ≤ (p.good (max 1 (p.enough n))).lo := by
  have h1 := enough_ok S h0
  have h2 := good_times S (a := p.enough n) (b := max 1 (p.enough n)) (by rw [enough_eq]; omega) (by omega)
  rw [enough_eq] at h2 ⊢
  omega
theorem enough_le {p : Prs} {n t : Int} (h1 : 1 ≤ t) (h : n ≤ (p.good t).lo) : max 1 (p.enough n) ≤ t := by
  have h2 := (enough_spec p n).2.1 t.toNat
  rw [show ((t.toNat : Nat) : Int) = t by omega] at h2
  rw [enough_eq]
  by_cases h3 : t.toNat < p.enoughN n
  · exact absurd h (h2 h3)
  · omega
theorem key_one {p : Prs} (hV : p.valid = true) {s : List Int} {t t' : Int} (h : t ≤ t') : cmpL (p.key [⟨s, t⟩]) (p.key [⟨s, t'⟩]) ≤ 0 := by
  have h0 := sheet_of hV
  have h1 := Int.mul_le_mul_of_nonneg_left h h0.1
  rw [key_le, cost_one, cost_one, nums_one, nums_one, cmpL_pre]
  have h2 : cmpL [t] [t'] ≤ 0 := by rw [keyL_cons]; have : cmpL [] [] = 0 := rfl
                                    omega
  show _ ∨ _ ∧ (_ ∨ _ ∧ _)
  by_cases h3 : p.sheet * t = p.sheet * t'
  · right; exact ⟨by show p.make + p.sheet * t = p.make + p.sheet * t'; omega, .inr ⟨rfl, h2⟩⟩
  · left; show p.make + p.sheet * t < p.make + p.sheet * t'; omega
theorem key_two {p : Prs} (hV : p.valid = true) {s u : List Int} {t t' r r' : Int} (h : t ≤ t') (h' : r ≤ r') : cmpL (p.key [⟨s, t⟩, ⟨u, r⟩]) (p.key [⟨s, t'⟩, ⟨u, r'⟩]) ≤ 0 := by
  have h0 := sheet_of hV
  have h1 := Int.mul_le_mul_of_nonneg_left h h0.1
  have h2 := Int.mul_le_mul_of_nonneg_left h' h0.1
  rw [key_le, cost_two, cost_two, nums_two, nums_two, cmpL_pre, keyL_cons, cmpL_pre, keyL_cons]
  have h3 : cmpL [] [] = 0 := rfl
  show (p.make + p.sheet * t) + (p.make + p.sheet * r) < (p.make + p.sheet * t') + (p.make + p.sheet * r') ∨ _ ∧ (_ ∨ _ ∧ (t < t' ∨ t = t' ∧ (r < r' ∨ r = r' ∧ _)))
  by_cases h4 : p.sheet * t = p.sheet * t' ∧ p.sheet * r = p.sheet * r'
  · right; exact ⟨by show (p.make + p.sheet * t) + (p.make + p.sheet * r) = (p.make + p.sheet * t') + (p.make + p.sheet * r'); omega, .inr ⟨rfl, by omega⟩⟩
  · left; omega
theorem key_swap {p : Prs} {f g : Fme} (hl : f.slots.length = g.slots.length) (h : cmpL g.slots f.slots < 0) : cmpL (p.key [g, f]) (p.key [f, g]) ≤ 0 := by
  rw [key_le, cost_two, cost_two, nums_two, nums_two]
  right
  have := cmpL_app (g.times :: (f.slots ++ [f.times])) (f.times :: (g.slots ++ [g.times])) hl.symm h
  exact ⟨by omega, .inr ⟨rfl, by omega⟩⟩
theorem sure_one {p : Prs} {f : Fme} (h : p.Sure [f]) : fmeOk p f = true ∧ ∀ v, v < p.wanted.length → gi p.wanted v ≤ gi f.slots v * (p.good f.times).lo :=
  ⟨h.2.1 f (by simp), fun v hv => by have := few_no.1 h.2.2 v hv; rwa [least_one] at this⟩
theorem sure_two {p : Prs} {f g : Fme} (h : p.Sure [f, g]) : 1 < p.formes ∧ fmeOk p f = true ∧ fmeOk p g = true ∧ ∀ v, v < p.wanted.length → gi p.wanted v ≤ gi f.slots v * (p.good f.times).lo + gi g.slots v * (p.good g.times).lo :=
  ⟨by have := h.1; simp at this; omega, h.2.1 f (by simp), h.2.1 g (by simp), fun v hv => by have := few_no.1 h.2.2 v hv; rwa [least_two] at this⟩
theorem one_sure {p : Prs} (hV : p.valid = true) {f : Fme} (h : fmeOk p f = true) (hw : ∀ v, v < p.wanted.length → gi p.wanted v ≤ gi f.slots v * (p.good f.times).lo) : p.Sure [f] :=
  ⟨by have := formes_of hV; simp; omega, fun g hg => by rw [List.mem_singleton.1 hg]; exact h, few_no.2 fun v hv => by rw [least_one]; exact hw v hv⟩
theorem two_sure {p : Prs} (h1 : 1 < p.formes) {f g : Fme} (h : fmeOk p f = true) (h' : fmeOk p g = true) (hw : ∀ v, v < p.wanted.length → gi p.wanted v ≤ gi f.slots v * (p.good f.times).lo + gi g.slots v * (p.good g.times).lo) : p.Sure [f, g] :=
  ⟨by simp; omega, fun x hx => by
    rcases List.mem_cons.1 hx with rfl | hx
    · exact h
    · rw [List.mem_singleton.1 hx]; exact h', few_no.2 fun v hv => by rw [least_two]; exact hw v hv⟩
theorem fme_gi {p : Prs} {f : Fme} (h : fmeOk p f = true) (v : Nat) : 0 ≤ gi f.slots v := gi_nonneg (fme_parts h).2.1 v
def Prs.cap (p : Prs) (f : Fme) : Fme := ⟨f.slots, min f.times p.most⟩
theorem cap_ok {p : Prs} (hV : p.valid = true) {f : Fme} (h : fmeOk p f = true) : fmeOk p (p.cap f) = true := by
  have h1 := most_bd hV
  have h2 := (fme_parts h).2.2.2
  exact slots_fme hV (slots_all hV h) (t := min f.times p.most) (by omega) (by omega)
theorem cap_le {p : Prs} (f : Fme) : (p.cap f).times ≤ f.times ∧ (p.cap f).times ≤ p.most := by show min f.times p.most ≤ _ ∧ min f.times p.most ≤ _; omega
theorem give_pos {p : Prs} (hV : p.valid = true) {f : Fme} (h : fmeOk p f = true) (v : Nat) : 0 ≤ gi f.slots v * (p.good f.times).lo :=
  Int.mul_nonneg (fme_gi h v) (good_zero (spoil_of hV) (by have := (fme_parts h).2.2.2; omega))
theorem cap_give {p : Prs} (hV : p.valid = true) {f : Fme} (h : fmeOk p f = true) {v : Nat} (hv : v < p.wanted.length) : gi f.slots v * (p.good f.times).lo ≤ gi f.slots v * (p.good (p.cap f).times).lo ∨ gi p.wanted v ≤ gi f.slots v * (p.good (p.cap f).times).lo := by
  by_cases h1 : f.times ≤ p.most
  · left
    have : (p.cap f).times = f.times := by show min _ _ = _; omega
    rw [this]; exact Int.le_refl _
  · have e : (p.cap f).times = p.most := by show min _ _ = _; omega
    rw [e]
    have h2 := fme_gi h v
    by_cases h3 : gi f.slots v = 0
    · left; rw [h3]; omega
    · right
      have h4 := most_good hV hv
      have h5 := good_zero (spoil_of hV) (a := p.most) (by have := most_bd hV; omega)
      have h6 : 1 * (p.good p.most).lo ≤ gi f.slots v * (p.good p.most).lo := Int.mul_le_mul_of_nonneg_right (by omega) h5
      omega
theorem cap_pos {p : Prs} (hV : p.valid = true) {f : Fme} (h : fmeOk p f = true) (v : Nat) : 0 ≤ gi f.slots v * (p.good (p.cap f).times).lo := give_pos hV (cap_ok hV h) v
/-- No plan needs more sheets than suffice alone. -/
theorem cap_sure {p : Prs} (hV : p.valid = true) {l : List Fme} (h : p.Sure l) : p.Sure (l.map p.cap) ∧ cmpL (p.key (l.map p.cap)) (p.key l) ≤ 0 := by
  match l, h with
  | [], h => exact ⟨h, by rw [List.map_nil, cmpL_refl]; omega⟩
  | [f], h =>
    obtain ⟨h1, h2⟩ := sure_one h
    refine ⟨one_sure hV (cap_ok hV h1) fun v hv => ?_, key_one hV (cap_le f).1⟩
    have h3 := h2 v hv
    show _ ≤ gi f.slots v * (p.good (p.cap f).times).lo
    rcases cap_give hV h1 hv with h4 | h4 <;> omega
  | [f, g], h =>
    obtain ⟨h0, h1, h1', h2⟩ := sure_two h
    refine ⟨two_sure h0 (cap_ok hV h1) (cap_ok hV h1') fun v hv => ?_, key_two hV (cap_le f).1 (cap_le g).1⟩
    have h3 := h2 v hv
    have p1 := cap_pos hV h1 v
    have p2 := cap_pos hV h1' v
    show _ ≤ gi f.slots v * (p.good (p.cap f).times).lo + gi g.slots v * (p.good (p.cap g).times).lo
    rcases cap_give hV h1 hv with h4 | h4 <;> rcases cap_give hV h1' hv with h5 | h5 <;> omega
  | f :: g :: x :: r, h => have h1 := h.1; have h2 := formes_of hV; simp at h1; omega
theorem gi_rep (n v : Nat) : gi (List.replicate n 0) v = 0 := by
  unfold gi
  rw [List.getD_eq_getElem?_getD, List.getElem?_replicate]
  split <;> rfl
theorem plans_sure {p : Prs} (hV : p.valid = true) {x : List Fme} (h : x ∈ p.plans) : p.Sure x := by
  have hok := plans_ok hV h
  refine ⟨hok.1, hok.2, few_no.2 fun v hv => ?_⟩
  have S := spoil_of hV
  unfold Prs.plans at h
  rw [List.mem_append, List.mem_append] at h
  rcases h with (h | h) | h
  · unfold Prs.plans0 at h
    split at h
    · next n hn =>
      split at h
      · rw [List.mem_singleton.1 h, least_nil]
        have h1 := (rest_fit (fun i => by rw [gi_rep]; omega) hn).2 v hv
        rw [gi_rep] at h1
        omega
      · cases h
    · cases h
  · rw [plans1_eq, List.mem_flatMap] at h
    obtain ⟨s, hs, hx⟩ := h
    obtain ⟨n, hn, h0, h1, rfl⟩ := one_mem hV hs hx
    have hp := fun i => gi_nonneg (slots_ok hV hs).2.1 i
    rw [least_one]
    have h2 := (rest_fit hp hn).2 v hv
    have h3 := good_enough S h0
    have h4 := hp v
    show _ ≤ gi s v * (p.good (max 1 (p.enough n))).lo
    have h5 := Int.mul_le_mul_of_nonneg_left h3 h4
    have h6 := Int.mul_nonneg h4 (show 0 ≤ (p.good (max 1 (p.enough n))).lo by omega)
    omega
  · obtain ⟨hf2, s, hs, n, hn, t, ht, hx⟩ := plans2_mem h
    have hm := most_bd hV
    have hf := slots_fme hV hs (t := (n : Int) + 1) (by omega) (by omega)
    obtain ⟨m, hm2, h0, h1, rfl⟩ := two_mem hV hf ht hx
    have hp := fun i => gi_nonneg (slots_ok hV ht).2.1 i
    rw [least_two]
    have h2 := (rest_fit hp hm2).2 v hv
    have h3 := good_enough S h0
    have h4 := hp v
    have h5 := Int.mul_le_mul_of_nonneg_left h3 h4
    have h6 := Int.mul_nonneg h4 (show 0 ≤ (p.good (max 1 (p.enough m))).lo by omega)
    show _ ≤ gi s v * (p.good ((n : Int) + 1)).lo + gi t v * (p.good (max 1 (p.enough m))).lo
    have e : (p.gives ⟨s, (n : Int) + 1⟩ v).lo = gi s v * (p.good ((n : Int) + 1)).lo := rfl
    rw [e] at h2
    omega
theorem one_in {p : Prs} {s : List Int} {n : Int} (h : p.rest s (fun _ => 0) = some n) : [⟨s, max 1 (p.enough n)⟩] ∈ p.one s := by
  unfold Prs.one
  rw [h]
  exact List.mem_singleton.2 rfl
theorem two_in {p : Prs} {f : Fme} {s : List Int} {n : Int} (h : p.rest s (fun v => (p.gives f v).lo) = some n) : [f, ⟨s, max 1 (p.enough n)⟩] ∈ p.two f s := by
  unfold Prs.two
  rw [h]
  exact List.mem_singleton.2 rfl
theorem plans2_in {p : Prs} (hf : 1 < p.formes) {n : Nat} (hn : (n : Int) < p.most) {s t : List Int} {x : List Fme} (hx : x ∈ p.two ⟨s, (n : Int) + 1⟩ t) (hst : cmpL s t ≤ 0) : ∀ {l : List (List Int)}, (l.Pairwise fun a b => cmpL a b < 0) → s ∈ l → t ∈ l → x ∈ p.plans2F l
  | [], _, h, _ => by cases h
  | a :: r, hp, hs, ht => by
    unfold Prs.plans2F
    rw [List.mem_append]
    rw [List.pairwise_cons] at hp
    rcases List.mem_cons.1 hs with rfl | hs2
    · left
      rw [if_pos (by omega), List.mem_flatMap]
      refine ⟨n, by rw [List.mem_range]; omega, ?_⟩
      rw [others_eq, List.mem_flatMap]
      exact ⟨t, ht, hx⟩
    · right
      rcases List.mem_cons.1 ht with rfl | ht2
      · have h1 := hp.1 s hs2
        have h2 := cmpL_neg s t
        omega
      · exact plans2_in hf hn hx hst hp.2 hs2 ht2
theorem plans_two {p : Prs} (hV : p.valid = true) {f g : Fme} (h : p.Sure [f, g]) (hm : f.times ≤ p.most) (hst : cmpL f.slots g.slots ≤ 0) : ∃ x ∈ p.plans, cmpL (p.key x) (p.key [f, g]) ≤ 0 := by
  obtain ⟨h0, h1, h1', h2⟩ := sure_two h
  have S := spoil_of hV
  have ht := (fme_parts h1').2.2.2
  have hf := (fme_parts h1).2.2.2
  obtain ⟨m, e, hle⟩ := rest_low (p := p) (s := g.slots) (fme_gi h1') (has := fun v => (p.gives f v).lo) (good_zero S (a := g.times) (by omega)) (fun v hv => by
    have h3 := h2 v hv
    have e1 : (p.gives f v).lo = gi f.slots v * (p.good f.times).lo := rfl
    rw [e1]
    omega)
  have hk := enough_le (p := p) (n := m) (t := g.times) (by omega) hle
  have ef : (⟨f.slots, ((f.times.toNat - 1 : Nat) : Int) + 1⟩ : Fme) = f := by
    have : ((f.times.toNat - 1 : Nat) : Int) + 1 = f.times := by omega
    rw [this]
  refine ⟨[f, ⟨g.slots, max 1 (p.enough m)⟩], ?_, key_two hV (Int.le_refl _) hk⟩
  unfold Prs.plans
  rw [List.mem_append]
  right
  exact plans2_in h0 (n := f.times.toNat - 1) (s := f.slots) (t := g.slots) (by omega) (by rw [ef]; exact two_in e) hst (slots_sorted p) (slots_all hV h1) (slots_all hV h1')
/-- For each plan there is one that is looked at and is no worse. -/
theorem plans_all {p : Prs} (hV : p.valid = true) {l : List Fme} (h : p.Sure l) : ∃ x ∈ p.plans, cmpL (p.key x) (p.key l) ≤ 0 := by
  have S := spoil_of hV
  obtain ⟨hc, hk⟩ := cap_sure hV h
  suffices ∃ x ∈ p.plans, cmpL (p.key x) (p.key (l.map p.cap)) ≤ 0 by
    obtain ⟨x, h1, h2⟩ := this
    exact ⟨x, h1, cmpL_trans h2 hk⟩
  match l, hc with
  | [], hc =>
    refine ⟨[], ?_, by rw [List.map_nil, cmpL_refl]; omega⟩
    obtain ⟨m, e, hle⟩ := rest_low (p := p) (s := List.replicate p.wanted.length 0) (fun i => by rw [gi_rep]; omega) (has := fun _ => 0) (g := 0) (Int.le_refl 0) (fun v hv => by
      have h3 := few_no.1 hc.2.2 v hv
      rw [List.map_nil, least_nil] at h3
      rw [gi_rep]
      omega)
    have h0 := (rest_fit (fun i => by rw [gi_rep]; omega) e).1
    unfold Prs.plans
    rw [List.mem_append, List.mem_append]
    left; left
    unfold Prs.plans0
    rw [e]
    show [] ∈ (if m = 0 then [[]] else [])
    rw [if_pos (by omega)]
    simp
  | [f], hc =>
    obtain ⟨h1, h2⟩ := sure_one (f := p.cap f) hc
    have ht := (fme_parts h1).2.2.2
    obtain ⟨m, e, hle⟩ := rest_low (p := p) (s := (p.cap f).slots) (fme_gi h1) (has := fun _ => 0) (good_zero S (a := (p.cap f).times) (by omega)) (fun v hv => by
      have h3 := h2 v hv
      omega)
    have hk := enough_le (p := p) (n := m) (t := (p.cap f).times) (by omega) hle
    refine ⟨[⟨(p.cap f).slots, max 1 (p.enough m)⟩], ?_, key_one hV hk⟩
    unfold Prs.plans
    rw [List.mem_append, List.mem_append]
    left; right
    rw [plans1_eq, List.mem_flatMap]
    exact ⟨_, slots_all hV h1, one_in e⟩
  | [f, g], hc =>
    obtain ⟨h0, h1, h1', h2⟩ := sure_two (f := p.cap f) (g := p.cap g) hc
    by_cases hst : cmpL (p.cap f).slots (p.cap g).slots ≤ 0
    · exact plans_two hV hc (cap_le f).2 hst
    · have hn := cmpL_neg (p.cap f).slots (p.cap g).slots
      have hs : p.Sure [p.cap g, p.cap f] := two_sure h0 h1' h1 fun v hv => by have := h2 v hv; omega
      obtain ⟨x, hx, hxk⟩ := plans_two hV hs (cap_le g).2 (by omega)
      have hsw := key_swap (p := p) (f := p.cap f) (g := p.cap g) (by rw [(fme_parts h1).1, (fme_parts h1').1]) (by omega)
      exact ⟨x, hx, cmpL_trans hxk hsw⟩
  | f :: g :: x :: r, hc => have h1 := h.1; have h2 := formes_of hV; simp at h1; omega
/-- What the cheapest plan is. -/
theorem best_law {p : Prs} (hV : p.valid = true) : (p.pickF none p.plans = none ∧ ∀ l, ¬ p.Sure l) ∨ ∃ b, p.pickF none p.plans = some b ∧ p.Sure b ∧ ∀ l, p.Sure l → cmpL (p.key b) (p.key l) ≤ 0 := by
  rcases pickF_least p p.plans with ⟨h1, h2⟩ | ⟨b, h1, h2⟩
  · left
    refine ⟨h1, fun l h => ?_⟩
    obtain ⟨x, hx, _⟩ := plans_all hV h
    rw [h2] at hx
    cases hx
  · right
    have hb : b ∈ p.plans := by
      rcases pickF_mem p _ _ h1 with h | h
      · exact h
      · cases h
    refine ⟨b, h1, plans_sure hV hb, fun l h => ?_⟩
    obtain ⟨x, hx, hk⟩ := plans_all hV h
    exact cmpL_trans (h2 x hx) hk
end Go.Proofs.Ytjkhclijmcmdjaa
