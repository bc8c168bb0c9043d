/- The drawn regions of the deals. -/
import Derived.Test.YtjkhclijmcmdjaaC4
namespace Go.Proofs.Ytjkhclijmcmdjaa
open Go.RowKit
set_option linter.unusedVariables false
set_option linter.unusedSimpArgs false
/-- What a slot holds: the value, once it is done. -/
def pk (b : Bool) (v s : Value) : Value := if b then v else s
theorem pk_of {b : Bool} (h : b = true) (v s : Value) : pk b v s = v := by rw [h]; rfl
/-- What is done waits for nothing. -/
def OrdP (L : List (List Nat)) (d : Nat → Bool) : Prop := ∀ k, d k = true → ∀ e ∈ L.getD k [], d e = true
theorem OrdP.step {L : List (List Nat)} {d : Nat → Bool} {k : Nat} (h : OrdP L d) (hk : ∀ e ∈ L.getD k [], d e = true) : OrdP L (upd d k) := fun j hj e he => by
  unfold upd at hj ⊢
  by_cases h2 : e = k
  · simp [h2]
  · by_cases h1 : j = k
    · subst h1; simp [h2, hk e he]
    · simp [h1] at hj; simp [h2, h j hj e he]
/-- A world at one of 2 stages, by which ones are passed. -/
def ch1 (P0 P1 : World → Prop) : Bool → World → Prop
  | false, w => P0 w
  | true, w => P1 w
theorem ch1_or {P0 P1 : World → Prop} {f1 : Bool} {w : World} (h : ch1 P0 P1 f1 w) : P0 w ∨ P1 w := by
  cases f1 <;> first | exact False.elim h | exact .inl h | exact .inr h
theorem ch1_s1 {P0 P1 : World → Prop} {f1 : Bool} {w : World} (h : ch1 P0 P1 f1 w) (e2 : f1 = false) : P0 w ∧ ∀ w' : World, P1 w' → ch1 P0 P1 true w' := by
  subst e2
  first | exact False.elim h | exact ⟨h, fun _ x => x⟩
/-- A world at one of 3 stages, by which ones are passed. -/
def ch2 (P0 P1 P2 : World → Prop) : Bool → Bool → World → Prop
  | false, false, w => P0 w
  | true, false, w => P1 w
  | true, true, w => P2 w
  | _, _, _ => False
theorem ch2_or {P0 P1 P2 : World → Prop} {f1 f2 : Bool} {w : World} (h : ch2 P0 P1 P2 f1 f2 w) : P0 w ∨ P1 w ∨ P2 w := by
  cases f1 <;> cases f2 <;> first | exact False.elim h | exact .inl h | exact .inr (.inl h) | exact .inr (.inr h)
theorem ch2_s1 {P0 P1 P2 : World → Prop} {f1 f2 : Bool} {w : World} (h : ch2 P0 P1 P2 f1 f2 w) (e2 : f1 = false) : P0 w ∧ ∀ w' : World, P1 w' → ch2 P0 P1 P2 true f2 w' := by
  subst e2
  cases f2 <;> first | exact False.elim h | exact ⟨h, fun _ x => x⟩
theorem ch2_s2 {P0 P1 P2 : World → Prop} {f1 f2 : Bool} {w : World} (h : ch2 P0 P1 P2 f1 f2 w) (e1 : f1 = true) (e2 : f2 = false) : P1 w ∧ ∀ w' : World, P2 w' → ch2 P0 P1 P2 f1 true w' := by
  subst e1 e2
  first | exact False.elim h | exact ⟨h, fun _ x => x⟩
noncomputable def buy2C : Code := (Try.f104.body.bind (regionAt 2)).getD .skip
set_option maxRecDepth 100000 in
set_option maxHeartbeats 8000000 in
theorem buy2 {bs bd : Nat} {q m c k : Int} {P0 P1 P2 : World → Prop} {Q : Exit → Act → World → Prop} {W1 : World}  (h0 : P0 W1.drew)
    (kl5 : Hid (∀ w : World, (P0 w) → w.cell? ⟨bs, 1, none⟩ = some (.int .i64 (m))))
    (kl7 : Hid (∀ w : World, (P0 w ∨ P1 w ∨ P2 w) → w.cell? ⟨bd, 5, none⟩ = some (.int .i64 (c))))
    (kl12 : Hid (∀ w : World, (P0 w) → w.cell? ⟨bs, 0, none⟩ = some (.int .i64 (q))))
    (kl14 : Hid (∀ w : World, (P0 w ∨ P1 w ∨ P2 w) → w.cell? ⟨bd, 4, none⟩ = some (.int .i64 (k))))
    (ks18 : Hid (∀ w : World, P0 w → (∃ u, w.cell? ⟨bs, 1, none⟩ = some u) ∧ w.frozen? ⟨bs, 1, none⟩ = false ∧ P1 (w.setCell ⟨bs, 1, none⟩ (.int .i64 (IntKind.i64.wrap (m - c))))))
    (ks21 : Hid (∀ w : World, P1 w → (∃ u, w.cell? ⟨bs, 0, none⟩ = some u) ∧ w.frozen? ⟨bs, 0, none⟩ = false ∧ P2 (w.setCell ⟨bs, 0, none⟩ (.int .i64 (IntKind.i64.wrap (q + k))))))
    {s0 s2 s3 s4 s6 s7 s8 s9 s10 s11 s12 s13 s14 s15 s16 s17 s18 s19 s20 s21 s22 s23 s24 s25 s26 s27 s28 s29 s30 s31 s32 s33 : Value} {dd : List Deferred}
    (hQ : ∀ w' : World, P2 w' → Q .normal { tmps := #[s0,.pointer (some ⟨bs, 0, none⟩),s2,s3,s4,.pointer (some ⟨bd, 0, none⟩),s6,s7,s8,s9,s10,s11,s12,s13,.pointer (some ⟨bs, 0, none⟩),.pointer (some ⟨bs, 0, none⟩),.pointer (some ⟨bs, 0, none⟩),.pointer (some ⟨bs, 0, none⟩),.pointer (some ⟨bs, 1, none⟩),.int .i64 (m),.pointer (some ⟨bd, 5, none⟩),.int .i64 (c),.int .i64 (IntKind.i64.wrap (m - c)),.pointer (some ⟨bs, 0, none⟩),.pointer (some ⟨bs, 0, none⟩),.pointer (some ⟨bs, 0, none⟩),.int .i64 (q),.pointer (some ⟨bd, 4, none⟩),.int .i64 (k),.int .i64 (IntKind.i64.wrap (q + k)),.pointer (some ⟨bs, 0, none⟩),.pointer (some ⟨bs, 1, none⟩),.pointer (some ⟨bs, 0, none⟩),.pointer (some ⟨bs, 0, none⟩)],defers := dd } w') :
    Code.wpIn (wideAt none) 0 Try.prog buy2C Q { tmps := #[s0,.pointer (some ⟨bs, 0, none⟩),s2,s3,s4,.pointer (some ⟨bd, 0, none⟩),s6,s7,s8,s9,s10,s11,s12,s13,s14,s15,s16,s17,s18,s19,s20,s21,s22,s23,s24,s25,s26,s27,s28,s29,s30,s31,s32,s33],defers := dd } W1 := by
  have HQ := Lib.hid hQ
  clear hQ
  conv => arg 4; whnf
  refine wpIn_region_invG mixed (by kernel_rfl) (fun d_ a_ w' => a_ = { tmps := #[s0,.pointer (some ⟨bs, 0, none⟩),s2,s3,s4,.pointer (some ⟨bd, 0, none⟩),s6,s7,s8,s9,s10,s11,s12,s13,pk (d_ 0) (.pointer (some ⟨bs, 0, none⟩)) s14,pk (d_ 1) (.pointer (some ⟨bs, 0, none⟩)) s15,pk (d_ 2) (.pointer (some ⟨bs, 0, none⟩)) s16,pk (d_ 3) (.pointer (some ⟨bs, 0, none⟩)) s17,pk (d_ 4) (.pointer (some ⟨bs, 1, none⟩)) s18,pk (d_ 5) (.int .i64 (m)) s19,pk (d_ 6) (.pointer (some ⟨bd, 5, none⟩)) s20,pk (d_ 7) (.int .i64 (c)) s21,pk (d_ 8) (.int .i64 (IntKind.i64.wrap (m - c))) s22,pk (d_ 9) (.pointer (some ⟨bs, 0, none⟩)) s23,pk (d_ 10) (.pointer (some ⟨bs, 0, none⟩)) s24,pk (d_ 11) (.pointer (some ⟨bs, 0, none⟩)) s25,pk (d_ 12) (.int .i64 (q)) s26,pk (d_ 13) (.pointer (some ⟨bd, 4, none⟩)) s27,pk (d_ 14) (.int .i64 (k)) s28,pk (d_ 15) (.int .i64 (IntKind.i64.wrap (q + k))) s29,pk (d_ 16) (.pointer (some ⟨bs, 0, none⟩)) s30,pk (d_ 17) (.pointer (some ⟨bs, 1, none⟩)) s31,pk (d_ 19) (.pointer (some ⟨bs, 0, none⟩)) s32,pk (d_ 20) (.pointer (some ⟨bs, 0, none⟩)) s33],defers := dd } ∧ ch2 P0 P1 P2 (d_ 18) (d_ 21) w' ∧ OrdP [[], [], [], [2], [3], [4], [], [6], [5, 7], [], [9], [10], [11], [], [13], [12, 14], [0, 2, 3, 4, 5, 6, 7, 8, 12], [0, 2, 3, 4, 5, 6, 7, 8, 12, 16], [0, 2, 3, 4, 5, 6, 7, 8, 12, 17], [0, 1, 2, 3, 4, 5, 6, 7, 8, 9, 10, 11, 12, 13, 14, 15, 16, 17, 18], [0, 1, 2, 3, 4, 5, 6, 7, 8, 9, 10, 11, 12, 13, 14, 15, 16, 17, 18, 19], [0, 1, 2, 3, 4, 5, 6, 7, 8, 9, 10, 11, 12, 13, 14, 15, 16, 17, 18, 20]] d_) ?_ ?_ ?_
  · exact ⟨rfl, h0, fun k h => by cases h⟩
  · refine ⟨?_,?_,?_,?_,?_,?_,?_,?_,?_,?_,?_,?_,?_,?_,?_,?_,?_,?_,?_,?_,?_,?_, trivial⟩
    all_goals
      rintro d_ a_ w1 K hd_ hdep ⟨rfl, F, O⟩ HK
      simp [Region.binds] at hdep
    · have HO : Hid (OrdP [[], [], [], [2], [3], [4], [], [6], [5, 7], [], [9], [10], [11], [], [13], [12, 14], [0, 2, 3, 4, 5, 6, 7, 8, 12], [0, 2, 3, 4, 5, 6, 7, 8, 12, 16], [0, 2, 3, 4, 5, 6, 7, 8, 12, 17], [0, 1, 2, 3, 4, 5, 6, 7, 8, 9, 10, 11, 12, 13, 14, 15, 16, 17, 18], [0, 1, 2, 3, 4, 5, 6, 7, 8, 9, 10, 11, 12, 13, 14, 15, 16, 17, 18, 19], [0, 1, 2, 3, 4, 5, 6, 7, 8, 9, 10, 11, 12, 13, 14, 15, 16, 17, 18, 20]] (upd d_ 0)) := O.step (show ∀ e ∈ ([] : List Nat), d_ e = true by simp [hdep])
      clear O
      have HF := Lib.hid F
      clear F hdep
      go_simp
      refine HK.out _ _ ⟨?_, HF.out, HO.out⟩
      all_goals rfl
    · have HO : Hid (OrdP [[], [], [], [2], [3], [4], [], [6], [5, 7], [], [9], [10], [11], [], [13], [12, 14], [0, 2, 3, 4, 5, 6, 7, 8, 12], [0, 2, 3, 4, 5, 6, 7, 8, 12, 16], [0, 2, 3, 4, 5, 6, 7, 8, 12, 17], [0, 1, 2, 3, 4, 5, 6, 7, 8, 9, 10, 11, 12, 13, 14, 15, 16, 17, 18], [0, 1, 2, 3, 4, 5, 6, 7, 8, 9, 10, 11, 12, 13, 14, 15, 16, 17, 18, 19], [0, 1, 2, 3, 4, 5, 6, 7, 8, 9, 10, 11, 12, 13, 14, 15, 16, 17, 18, 20]] (upd d_ 1)) := O.step (show ∀ e ∈ ([] : List Nat), d_ e = true by simp [hdep])
      clear O
      have HF := Lib.hid F
      clear F hdep
      go_simp
      refine HK.out _ _ ⟨?_, HF.out, HO.out⟩
      all_goals rfl
    · have HO : Hid (OrdP [[], [], [], [2], [3], [4], [], [6], [5, 7], [], [9], [10], [11], [], [13], [12, 14], [0, 2, 3, 4, 5, 6, 7, 8, 12], [0, 2, 3, 4, 5, 6, 7, 8, 12, 16], [0, 2, 3, 4, 5, 6, 7, 8, 12, 17], [0, 1, 2, 3, 4, 5, 6, 7, 8, 9, 10, 11, 12, 13, 14, 15, 16, 17, 18], [0, 1, 2, 3, 4, 5, 6, 7, 8, 9, 10, 11, 12, 13, 14, 15, 16, 17, 18, 19], [0, 1, 2, 3, 4, 5, 6, 7, 8, 9, 10, 11, 12, 13, 14, 15, 16, 17, 18, 20]] (upd d_ 2)) := O.step (show ∀ e ∈ ([] : List Nat), d_ e = true by simp [hdep])
      clear O
      have HF := Lib.hid F
      clear F hdep
      go_simp
      refine HK.out _ _ ⟨?_, HF.out, HO.out⟩
      all_goals rfl
    · have HO : Hid (OrdP [[], [], [], [2], [3], [4], [], [6], [5, 7], [], [9], [10], [11], [], [13], [12, 14], [0, 2, 3, 4, 5, 6, 7, 8, 12], [0, 2, 3, 4, 5, 6, 7, 8, 12, 16], [0, 2, 3, 4, 5, 6, 7, 8, 12, 17], [0, 1, 2, 3, 4, 5, 6, 7, 8, 9, 10, 11, 12, 13, 14, 15, 16, 17, 18], [0, 1, 2, 3, 4, 5, 6, 7, 8, 9, 10, 11, 12, 13, 14, 15, 16, 17, 18, 19], [0, 1, 2, 3, 4, 5, 6, 7, 8, 9, 10, 11, 12, 13, 14, 15, 16, 17, 18, 20]] (upd d_ 3)) := O.step (show ∀ e ∈ ([2] : List Nat), d_ e = true by simp [hdep])
      have q2 : d_ 2 = true := by simp [hdep]
      clear O
      rw [pk_of q2]
      have HF := Lib.hid F
      clear F hdep
      go_simp
      refine HK.out _ _ ⟨?_, HF.out, HO.out⟩
      rw [pk_of (show upd d_ 3 2 = true from q2)]
      all_goals rfl
    · have HO : Hid (OrdP [[], [], [], [2], [3], [4], [], [6], [5, 7], [], [9], [10], [11], [], [13], [12, 14], [0, 2, 3, 4, 5, 6, 7, 8, 12], [0, 2, 3, 4, 5, 6, 7, 8, 12, 16], [0, 2, 3, 4, 5, 6, 7, 8, 12, 17], [0, 1, 2, 3, 4, 5, 6, 7, 8, 9, 10, 11, 12, 13, 14, 15, 16, 17, 18], [0, 1, 2, 3, 4, 5, 6, 7, 8, 9, 10, 11, 12, 13, 14, 15, 16, 17, 18, 19], [0, 1, 2, 3, 4, 5, 6, 7, 8, 9, 10, 11, 12, 13, 14, 15, 16, 17, 18, 20]] (upd d_ 4)) := O.step (show ∀ e ∈ ([3] : List Nat), d_ e = true by simp [hdep])
      have q3 : d_ 3 = true := by simp [hdep]
      clear O
      rw [pk_of q3]
      have HF := Lib.hid F
      clear F hdep
      go_simp
      refine HK.out _ _ ⟨?_, HF.out, HO.out⟩
      rw [pk_of (show upd d_ 4 3 = true from q3)]
      all_goals rfl
    · have HO : Hid (OrdP [[], [], [], [2], [3], [4], [], [6], [5, 7], [], [9], [10], [11], [], [13], [12, 14], [0, 2, 3, 4, 5, 6, 7, 8, 12], [0, 2, 3, 4, 5, 6, 7, 8, 12, 16], [0, 2, 3, 4, 5, 6, 7, 8, 12, 17], [0, 1, 2, 3, 4, 5, 6, 7, 8, 9, 10, 11, 12, 13, 14, 15, 16, 17, 18], [0, 1, 2, 3, 4, 5, 6, 7, 8, 9, 10, 11, 12, 13, 14, 15, 16, 17, 18, 19], [0, 1, 2, 3, 4, 5, 6, 7, 8, 9, 10, 11, 12, 13, 14, 15, 16, 17, 18, 20]] (upd d_ 5)) := O.step (show ∀ e ∈ ([4] : List Nat), d_ e = true by simp [hdep])
      have q4 : d_ 4 = true := by simp [hdep]
      have F2 := F
      have n_ : d_ 18 = false := by
        cases e_ : d_ 18 with
        | false => rfl
        | true => have h2 := (O 18 e_ 5 (by decide)); rw [show d_ 5 = false from hd_] at h2; cases h2
      rw [n_] at F2
      have kk := kl5.out w1 (by
        have h3 := ch2_or F2
        cases e21_ : d_ 21 <;> simp_all [ch2])
      clear F2
      clear n_
      clear O
      rw [pk_of q4]
      have HF := Lib.hid F
      clear F hdep
      go_simp
      refine HK.out _ _ ⟨?_, HF.out, HO.out⟩
      rw [pk_of (show upd d_ 5 4 = true from q4)]
      all_goals rfl
    · have HO : Hid (OrdP [[], [], [], [2], [3], [4], [], [6], [5, 7], [], [9], [10], [11], [], [13], [12, 14], [0, 2, 3, 4, 5, 6, 7, 8, 12], [0, 2, 3, 4, 5, 6, 7, 8, 12, 16], [0, 2, 3, 4, 5, 6, 7, 8, 12, 17], [0, 1, 2, 3, 4, 5, 6, 7, 8, 9, 10, 11, 12, 13, 14, 15, 16, 17, 18], [0, 1, 2, 3, 4, 5, 6, 7, 8, 9, 10, 11, 12, 13, 14, 15, 16, 17, 18, 19], [0, 1, 2, 3, 4, 5, 6, 7, 8, 9, 10, 11, 12, 13, 14, 15, 16, 17, 18, 20]] (upd d_ 6)) := O.step (show ∀ e ∈ ([] : List Nat), d_ e = true by simp [hdep])
      clear O
      have HF := Lib.hid F
      clear F hdep
      go_simp
      refine HK.out _ _ ⟨?_, HF.out, HO.out⟩
      all_goals rfl
    · have HO : Hid (OrdP [[], [], [], [2], [3], [4], [], [6], [5, 7], [], [9], [10], [11], [], [13], [12, 14], [0, 2, 3, 4, 5, 6, 7, 8, 12], [0, 2, 3, 4, 5, 6, 7, 8, 12, 16], [0, 2, 3, 4, 5, 6, 7, 8, 12, 17], [0, 1, 2, 3, 4, 5, 6, 7, 8, 9, 10, 11, 12, 13, 14, 15, 16, 17, 18], [0, 1, 2, 3, 4, 5, 6, 7, 8, 9, 10, 11, 12, 13, 14, 15, 16, 17, 18, 19], [0, 1, 2, 3, 4, 5, 6, 7, 8, 9, 10, 11, 12, 13, 14, 15, 16, 17, 18, 20]] (upd d_ 7)) := O.step (show ∀ e ∈ ([6] : List Nat), d_ e = true by simp [hdep])
      have q6 : d_ 6 = true := by simp [hdep]
      have kk := kl7.out w1 (ch2_or F)
      clear O
      rw [pk_of q6]
      have HF := Lib.hid F
      clear F hdep
      go_simp
      refine HK.out _ _ ⟨?_, HF.out, HO.out⟩
      rw [pk_of (show upd d_ 7 6 = true from q6)]
      all_goals rfl
    · have HO : Hid (OrdP [[], [], [], [2], [3], [4], [], [6], [5, 7], [], [9], [10], [11], [], [13], [12, 14], [0, 2, 3, 4, 5, 6, 7, 8, 12], [0, 2, 3, 4, 5, 6, 7, 8, 12, 16], [0, 2, 3, 4, 5, 6, 7, 8, 12, 17], [0, 1, 2, 3, 4, 5, 6, 7, 8, 9, 10, 11, 12, 13, 14, 15, 16, 17, 18], [0, 1, 2, 3, 4, 5, 6, 7, 8, 9, 10, 11, 12, 13, 14, 15, 16, 17, 18, 19], [0, 1, 2, 3, 4, 5, 6, 7, 8, 9, 10, 11, 12, 13, 14, 15, 16, 17, 18, 20]] (upd d_ 8)) := O.step (show ∀ e ∈ ([5, 7] : List Nat), d_ e = true by simp [hdep])
      have q5 : d_ 5 = true := by simp [hdep]
      have q7 : d_ 7 = true := by simp [hdep]
      clear O
      rw [pk_of q5, pk_of q7]
      have HF := Lib.hid F
      clear F hdep
      go_simp
      refine HK.out _ _ ⟨?_, HF.out, HO.out⟩
      rw [pk_of (show upd d_ 8 5 = true from q5), pk_of (show upd d_ 8 7 = true from q7)]
      all_goals rfl
    · have HO : Hid (OrdP [[], [], [], [2], [3], [4], [], [6], [5, 7], [], [9], [10], [11], [], [13], [12, 14], [0, 2, 3, 4, 5, 6, 7, 8, 12], [0, 2, 3, 4, 5, 6, 7, 8, 12, 16], [0, 2, 3, 4, 5, 6, 7, 8, 12, 17], [0, 1, 2, 3, 4, 5, 6, 7, 8, 9, 10, 11, 12, 13, 14, 15, 16, 17, 18], [0, 1, 2, 3, 4, 5, 6, 7, 8, 9, 10, 11, 12, 13, 14, 15, 16, 17, 18, 19], [0, 1, 2, 3, 4, 5, 6, 7, 8, 9, 10, 11, 12, 13, 14, 15, 16, 17, 18, 20]] (upd d_ 9)) := O.step (show ∀ e ∈ ([] : List Nat), d_ e = true by simp [hdep])
      clear O
      have HF := Lib.hid F
      clear F hdep
      go_simp
      refine HK.out _ _ ⟨?_, HF.out, HO.out⟩
      all_goals rfl
    · have HO : Hid (OrdP [[], [], [], [2], [3], [4], [], [6], [5, 7], [], [9], [10], [11], [], [13], [12, 14], [0, 2, 3, 4, 5, 6, 7, 8, 12], [0, 2, 3, 4, 5, 6, 7, 8, 12, 16], [0, 2, 3, 4, 5, 6, 7, 8, 12, 17], [0, 1, 2, 3, 4, 5, 6, 7, 8, 9, 10, 11, 12, 13, 14, 15, 16, 17, 18], [0, 1, 2, 3, 4, 5, 6, 7, 8, 9, 10, 11, 12, 13, 14, 15, 16, 17, 18, 19], [0, 1, 2, 3, 4, 5, 6, 7, 8, 9, 10, 11, 12, 13, 14, 15, 16, 17, 18, 20]] (upd d_ 10)) := O.step (show ∀ e ∈ ([9] : List Nat), d_ e = true by simp [hdep])
      have q9 : d_ 9 = true := by simp [hdep]
      clear O
      rw [pk_of q9]
      have HF := Lib.hid F
      clear F hdep
      go_simp
      refine HK.out _ _ ⟨?_, HF.out, HO.out⟩
      rw [pk_of (show upd d_ 10 9 = true from q9)]
      all_goals rfl
    · have HO : Hid (OrdP [[], [], [], [2], [3], [4], [], [6], [5, 7], [], [9], [10], [11], [], [13], [12, 14], [0, 2, 3, 4, 5, 6, 7, 8, 12], [0, 2, 3, 4, 5, 6, 7, 8, 12, 16], [0, 2, 3, 4, 5, 6, 7, 8, 12, 17], [0, 1, 2, 3, 4, 5, 6, 7, 8, 9, 10, 11, 12, 13, 14, 15, 16, 17, 18], [0, 1, 2, 3, 4, 5, 6, 7, 8, 9, 10, 11, 12, 13, 14, 15, 16, 17, 18, 19], [0, 1, 2, 3, 4, 5, 6, 7, 8, 9, 10, 11, 12, 13, 14, 15, 16, 17, 18, 20]] (upd d_ 11)) := O.step (show ∀ e ∈ ([10] : List Nat), d_ e = true by simp [hdep])
      have q10 : d_ 10 = true := by simp [hdep]
      clear O
      rw [pk_of q10]
      have HF := Lib.hid F
      clear F hdep
      go_simp
      refine HK.out _ _ ⟨?_, HF.out, HO.out⟩
      rw [pk_of (show upd d_ 11 10 = true from q10)]
      all_goals rfl
    · have HO : Hid (OrdP [[], [], [], [2], [3], [4], [], [6], [5, 7], [], [9], [10], [11], [], [13], [12, 14], [0, 2, 3, 4, 5, 6, 7, 8, 12], [0, 2, 3, 4, 5, 6, 7, 8, 12, 16], [0, 2, 3, 4, 5, 6, 7, 8, 12, 17], [0, 1, 2, 3, 4, 5, 6, 7, 8, 9, 10, 11, 12, 13, 14, 15, 16, 17, 18], [0, 1, 2, 3, 4, 5, 6, 7, 8, 9, 10, 11, 12, 13, 14, 15, 16, 17, 18, 19], [0, 1, 2, 3, 4, 5, 6, 7, 8, 9, 10, 11, 12, 13, 14, 15, 16, 17, 18, 20]] (upd d_ 12)) := O.step (show ∀ e ∈ ([11] : List Nat), d_ e = true by simp [hdep])
      have q11 : d_ 11 = true := by simp [hdep]
      have F2 := F
      have n_ : d_ 18 = false := by
        cases e_ : d_ 18 with
        | false => rfl
        | true => have h2 := (O 18 e_ 12 (by decide)); rw [show d_ 12 = false from hd_] at h2; cases h2
      rw [n_] at F2
      have kk := kl12.out w1 (by
        have h3 := ch2_or F2
        cases e21_ : d_ 21 <;> simp_all [ch2])
      clear F2
      clear n_
      clear O
      rw [pk_of q11]
      have HF := Lib.hid F
      clear F hdep
      go_simp
      refine HK.out _ _ ⟨?_, HF.out, HO.out⟩
      rw [pk_of (show upd d_ 12 11 = true from q11)]
      all_goals rfl
    · have HO : Hid (OrdP [[], [], [], [2], [3], [4], [], [6], [5, 7], [], [9], [10], [11], [], [13], [12, 14], [0, 2, 3, 4, 5, 6, 7, 8, 12], [0, 2, 3, 4, 5, 6, 7, 8, 12, 16], [0, 2, 3, 4, 5, 6, 7, 8, 12, 17], [0, 1, 2, 3, 4, 5, 6, 7, 8, 9, 10, 11, 12, 13, 14, 15, 16, 17, 18], [0, 1, 2, 3, 4, 5, 6, 7, 8, 9, 10, 11, 12, 13, 14, 15, 16, 17, 18, 19], [0, 1, 2, 3, 4, 5, 6, 7, 8, 9, 10, 11, 12, 13, 14, 15, 16, 17, 18, 20]] (upd d_ 13)) := O.step (show ∀ e ∈ ([] : List Nat), d_ e = true by simp [hdep])
      clear O
      have HF := Lib.hid F
      clear F hdep
      go_simp
      refine HK.out _ _ ⟨?_, HF.out, HO.out⟩
      all_goals rfl
    · have HO : Hid (OrdP [[], [], [], [2], [3], [4], [], [6], [5, 7], [], [9], [10], [11], [], [13], [12, 14], [0, 2, 3, 4, 5, 6, 7, 8, 12], [0, 2, 3, 4, 5, 6, 7, 8, 12, 16], [0, 2, 3, 4, 5, 6, 7, 8, 12, 17], [0, 1, 2, 3, 4, 5, 6, 7, 8, 9, 10, 11, 12, 13, 14, 15, 16, 17, 18], [0, 1, 2, 3, 4, 5, 6, 7, 8, 9, 10, 11, 12, 13, 14, 15, 16, 17, 18, 19], [0, 1, 2, 3, 4, 5, 6, 7, 8, 9, 10, 11, 12, 13, 14, 15, 16, 17, 18, 20]] (upd d_ 14)) := O.step (show ∀ e ∈ ([13] : List Nat), d_ e = true by simp [hdep])
      have q13 : d_ 13 = true := by simp [hdep]
      have kk := kl14.out w1 (ch2_or F)
      clear O
      rw [pk_of q13]
      have HF := Lib.hid F
      clear F hdep
      go_simp
      refine HK.out _ _ ⟨?_, HF.out, HO.out⟩
      rw [pk_of (show upd d_ 14 13 = true from q13)]
      all_goals rfl
    · have HO : Hid (OrdP [[], [], [], [2], [3], [4], [], [6], [5, 7], [], [9], [10], [11], [], [13], [12, 14], [0, 2, 3, 4, 5, 6, 7, 8, 12], [0, 2, 3, 4, 5, 6, 7, 8, 12, 16], [0, 2, 3, 4, 5, 6, 7, 8, 12, 17], [0, 1, 2, 3, 4, 5, 6, 7, 8, 9, 10, 11, 12, 13, 14, 15, 16, 17, 18], [0, 1, 2, 3, 4, 5, 6, 7, 8, 9, 10, 11, 12, 13, 14, 15, 16, 17, 18, 19], [0, 1, 2, 3, 4, 5, 6, 7, 8, 9, 10, 11, 12, 13, 14, 15, 16, 17, 18, 20]] (upd d_ 15)) := O.step (show ∀ e ∈ ([12, 14] : List Nat), d_ e = true by simp [hdep])
      have q12 : d_ 12 = true := by simp [hdep]
      have q14 : d_ 14 = true := by simp [hdep]
      clear O
      rw [pk_of q12, pk_of q14]
      have HF := Lib.hid F
      clear F hdep
      go_simp
      refine HK.out _ _ ⟨?_, HF.out, HO.out⟩
      rw [pk_of (show upd d_ 15 12 = true from q12), pk_of (show upd d_ 15 14 = true from q14)]
      all_goals rfl
    · have HO : Hid (OrdP [[], [], [], [2], [3], [4], [], [6], [5, 7], [], [9], [10], [11], [], [13], [12, 14], [0, 2, 3, 4, 5, 6, 7, 8, 12], [0, 2, 3, 4, 5, 6, 7, 8, 12, 16], [0, 2, 3, 4, 5, 6, 7, 8, 12, 17], [0, 1, 2, 3, 4, 5, 6, 7, 8, 9, 10, 11, 12, 13, 14, 15, 16, 17, 18], [0, 1, 2, 3, 4, 5, 6, 7, 8, 9, 10, 11, 12, 13, 14, 15, 16, 17, 18, 19], [0, 1, 2, 3, 4, 5, 6, 7, 8, 9, 10, 11, 12, 13, 14, 15, 16, 17, 18, 20]] (upd d_ 16)) := O.step (show ∀ e ∈ ([0, 2, 3, 4, 5, 6, 7, 8, 12] : List Nat), d_ e = true by simp [hdep])
      have q0 : d_ 0 = true := by simp [hdep]
      clear O
      rw [pk_of q0]
      have HF := Lib.hid F
      clear F hdep
      go_simp
      refine HK.out _ _ ⟨?_, HF.out, HO.out⟩
      rw [pk_of (show upd d_ 16 0 = true from q0)]
      all_goals rfl
    · have HO : Hid (OrdP [[], [], [], [2], [3], [4], [], [6], [5, 7], [], [9], [10], [11], [], [13], [12, 14], [0, 2, 3, 4, 5, 6, 7, 8, 12], [0, 2, 3, 4, 5, 6, 7, 8, 12, 16], [0, 2, 3, 4, 5, 6, 7, 8, 12, 17], [0, 1, 2, 3, 4, 5, 6, 7, 8, 9, 10, 11, 12, 13, 14, 15, 16, 17, 18], [0, 1, 2, 3, 4, 5, 6, 7, 8, 9, 10, 11, 12, 13, 14, 15, 16, 17, 18, 19], [0, 1, 2, 3, 4, 5, 6, 7, 8, 9, 10, 11, 12, 13, 14, 15, 16, 17, 18, 20]] (upd d_ 17)) := O.step (show ∀ e ∈ ([0, 2, 3, 4, 5, 6, 7, 8, 12, 16] : List Nat), d_ e = true by simp [hdep])
      have q16 : d_ 16 = true := by simp [hdep]
      clear O
      rw [pk_of q16]
      have HF := Lib.hid F
      clear F hdep
      go_simp
      refine HK.out _ _ ⟨?_, HF.out, HO.out⟩
      rw [pk_of (show upd d_ 17 16 = true from q16)]
      all_goals rfl
    · have HO : Hid (OrdP [[], [], [], [2], [3], [4], [], [6], [5, 7], [], [9], [10], [11], [], [13], [12, 14], [0, 2, 3, 4, 5, 6, 7, 8, 12], [0, 2, 3, 4, 5, 6, 7, 8, 12, 16], [0, 2, 3, 4, 5, 6, 7, 8, 12, 17], [0, 1, 2, 3, 4, 5, 6, 7, 8, 9, 10, 11, 12, 13, 14, 15, 16, 17, 18], [0, 1, 2, 3, 4, 5, 6, 7, 8, 9, 10, 11, 12, 13, 14, 15, 16, 17, 18, 19], [0, 1, 2, 3, 4, 5, 6, 7, 8, 9, 10, 11, 12, 13, 14, 15, 16, 17, 18, 20]] (upd d_ 18)) := O.step (show ∀ e ∈ ([0, 2, 3, 4, 5, 6, 7, 8, 12, 17] : List Nat), d_ e = true by simp [hdep])
      have q8 : d_ 8 = true := by simp [hdep]
      have q17 : d_ 17 = true := by simp [hdep]
      clear O
      rw [pk_of q8, pk_of q17]
      obtain ⟨hP, hN⟩ := ch2_s1 F hd_
      obtain ⟨⟨u0, c0⟩, z0, hR⟩ := ks18.out w1 hP
      have HF := Lib.hid (hN _ hR)
      clear F hP hR hN hdep
      go_simp
      have HG := HF.out
      refine HK.out _ _ ⟨?_, HG, HO.out⟩
      rw [pk_of (show upd d_ 18 8 = true from q8), pk_of (show upd d_ 18 17 = true from q17)]
      all_goals rfl
    · have HO : Hid (OrdP [[], [], [], [2], [3], [4], [], [6], [5, 7], [], [9], [10], [11], [], [13], [12, 14], [0, 2, 3, 4, 5, 6, 7, 8, 12], [0, 2, 3, 4, 5, 6, 7, 8, 12, 16], [0, 2, 3, 4, 5, 6, 7, 8, 12, 17], [0, 1, 2, 3, 4, 5, 6, 7, 8, 9, 10, 11, 12, 13, 14, 15, 16, 17, 18], [0, 1, 2, 3, 4, 5, 6, 7, 8, 9, 10, 11, 12, 13, 14, 15, 16, 17, 18, 19], [0, 1, 2, 3, 4, 5, 6, 7, 8, 9, 10, 11, 12, 13, 14, 15, 16, 17, 18, 20]] (upd d_ 19)) := O.step (show ∀ e ∈ ([0, 1, 2, 3, 4, 5, 6, 7, 8, 9, 10, 11, 12, 13, 14, 15, 16, 17, 18] : List Nat), d_ e = true by simp [hdep])
      have q1 : d_ 1 = true := by simp [hdep]
      clear O
      rw [pk_of q1]
      have HF := Lib.hid F
      clear F hdep
      go_simp
      refine HK.out _ _ ⟨?_, HF.out, HO.out⟩
      rw [pk_of (show upd d_ 19 1 = true from q1)]
      all_goals rfl
    · have HO : Hid (OrdP [[], [], [], [2], [3], [4], [], [6], [5, 7], [], [9], [10], [11], [], [13], [12, 14], [0, 2, 3, 4, 5, 6, 7, 8, 12], [0, 2, 3, 4, 5, 6, 7, 8, 12, 16], [0, 2, 3, 4, 5, 6, 7, 8, 12, 17], [0, 1, 2, 3, 4, 5, 6, 7, 8, 9, 10, 11, 12, 13, 14, 15, 16, 17, 18], [0, 1, 2, 3, 4, 5, 6, 7, 8, 9, 10, 11, 12, 13, 14, 15, 16, 17, 18, 19], [0, 1, 2, 3, 4, 5, 6, 7, 8, 9, 10, 11, 12, 13, 14, 15, 16, 17, 18, 20]] (upd d_ 20)) := O.step (show ∀ e ∈ ([0, 1, 2, 3, 4, 5, 6, 7, 8, 9, 10, 11, 12, 13, 14, 15, 16, 17, 18, 19] : List Nat), d_ e = true by simp [hdep])
      have q19 : d_ 19 = true := by simp [hdep]
      clear O
      rw [pk_of q19]
      have HF := Lib.hid F
      clear F hdep
      go_simp
      refine HK.out _ _ ⟨?_, HF.out, HO.out⟩
      rw [pk_of (show upd d_ 20 19 = true from q19)]
      all_goals rfl
    · have HO : Hid (OrdP [[], [], [], [2], [3], [4], [], [6], [5, 7], [], [9], [10], [11], [], [13], [12, 14], [0, 2, 3, 4, 5, 6, 7, 8, 12], [0, 2, 3, 4, 5, 6, 7, 8, 12, 16], [0, 2, 3, 4, 5, 6, 7, 8, 12, 17], [0, 1, 2, 3, 4, 5, 6, 7, 8, 9, 10, 11, 12, 13, 14, 15, 16, 17, 18], [0, 1, 2, 3, 4, 5, 6, 7, 8, 9, 10, 11, 12, 13, 14, 15, 16, 17, 18, 19], [0, 1, 2, 3, 4, 5, 6, 7, 8, 9, 10, 11, 12, 13, 14, 15, 16, 17, 18, 20]] (upd d_ 21)) := O.step (show ∀ e ∈ ([0, 1, 2, 3, 4, 5, 6, 7, 8, 9, 10, 11, 12, 13, 14, 15, 16, 17, 18, 20] : List Nat), d_ e = true by simp [hdep])
      have q15 : d_ 15 = true := by simp [hdep]
      have q20 : d_ 20 = true := by simp [hdep]
      clear O
      rw [pk_of q15, pk_of q20]
      obtain ⟨hP, hN⟩ := ch2_s2 F (show d_ 18 = true by simp [hdep]) hd_
      obtain ⟨⟨u0, c0⟩, z0, hR⟩ := ks21.out w1 hP
      have HF := Lib.hid (hN _ hR)
      clear F hP hR hN hdep
      go_simp
      have HG := HF.out
      refine HK.out _ _ ⟨?_, HG, HO.out⟩
      rw [pk_of (show upd d_ 21 15 = true from q15), pk_of (show upd d_ 21 20 = true from q20)]
      all_goals rfl
  · rintro d_ a_ w1 hall ⟨rfl, F, O⟩
    have hall' : ∀ k, k < 22 → d_ k = true := hall
    rw [hall' 18 (by decide), hall' 21 (by decide)] at F
    have HF := Lib.hid F
    clear F
    rw [pk_of (hall' 0 (by decide)), pk_of (hall' 1 (by decide)), pk_of (hall' 2 (by decide)), pk_of (hall' 3 (by decide)), pk_of (hall' 4 (by decide)), pk_of (hall' 5 (by decide)), pk_of (hall' 6 (by decide)), pk_of (hall' 7 (by decide)), pk_of (hall' 8 (by decide)), pk_of (hall' 9 (by decide)), pk_of (hall' 10 (by decide)), pk_of (hall' 11 (by decide)), pk_of (hall' 12 (by decide)), pk_of (hall' 13 (by decide)), pk_of (hall' 14 (by decide)), pk_of (hall' 15 (by decide)), pk_of (hall' 16 (by decide)), pk_of (hall' 17 (by decide)), pk_of (hall' 19 (by decide)), pk_of (hall' 20 (by decide))]
    exact HQ.out w1 HF.out
noncomputable def pri2C : Code := (Try.f106.body.bind (regionAt 2)).getD .skip
set_option maxRecDepth 100000 in
set_option maxHeartbeats 8000000 in
theorem pri2 {bs bd bq : Nat} {q m c k : Int} {P0 P1 P2 : World → Prop} {Q : Exit → Act → World → Prop} {W1 : World}  (h0 : P0 W1.drew)
    (kl5 : Hid (∀ w : World, (P0 w) → w.cell? ⟨bs, 1, none⟩ = some (.int .i64 (m))))
    (kl10 : Hid (∀ w : World, (P0 w ∨ P1 w ∨ P2 w) → w.cell? ⟨bq, 4, none⟩ = some (.int .i64 (c))))
    (kl15 : Hid (∀ w : World, (P0 w) → w.cell? ⟨bs, 0, none⟩ = some (.int .i64 (q))))
    (kl18 : Hid (∀ w : World, (P0 w ∨ P1 w ∨ P2 w) → w.cell? ⟨bd, 2, none⟩ = some (.int .i64 (k))))
    (ks22 : Hid (∀ w : World, P0 w → (∃ u, w.cell? ⟨bs, 1, none⟩ = some u) ∧ w.frozen? ⟨bs, 1, none⟩ = false ∧ P1 (w.setCell ⟨bs, 1, none⟩ (.int .i64 (IntKind.i64.wrap (m - c))))))
    (ks25 : Hid (∀ w : World, P1 w → (∃ u, w.cell? ⟨bs, 0, none⟩ = some u) ∧ w.frozen? ⟨bs, 0, none⟩ = false ∧ P2 (w.setCell ⟨bs, 0, none⟩ (.int .i64 (IntKind.i64.wrap (q - k))))))
    {s2 s3 s4 s6 s7 s8 s9 s10 s11 s12 s13 s14 s15 s16 s17 s18 s19 s20 s21 s22 s23 s24 s25 s26 s27 s28 s29 s30 s31 s32 s33 s34 s35 s36 s37 s38 s39 s40 s41 s42 s43 s44 s45 s46 s47 s48 s49 s50 s51 s52 s53 s54 s55 s56 s57 s58 s59 s60 s61 s62 s63 s64 s65 s66 s67 s68 s69 s70 s71 s72 s73 s74 s75 s76 s77 s78 s79 s80 s81 s82 s83 s84 s85 s86 : Value} {dd : List Deferred}
    (hQ : ∀ w' : World, P2 w' → Q .normal { tmps := #[.pointer (some ⟨bq, 0, none⟩),.pointer (some ⟨bs, 0, none⟩),s2,s3,s4,.pointer (some ⟨bd, 0, none⟩),s6,s7,s8,s9,s10,s11,s12,s13,s14,s15,s16,s17,s18,s19,s20,s21,s22,s23,s24,s25,s26,s27,s28,s29,.pointer (some ⟨bs, 0, none⟩),.pointer (some ⟨bs, 0, none⟩),.pointer (some ⟨bs, 0, none⟩),.pointer (some ⟨bs, 0, none⟩),.pointer (some ⟨bs, 1, none⟩),.int .i64 (m),.pointer (some ⟨bq, 0, none⟩),.pointer (some ⟨bq, 0, none⟩),.pointer (some ⟨bq, 0, none⟩),.pointer (some ⟨bq, 4, none⟩),.int .i64 (c),.int .i64 (IntKind.i64.wrap (m - c)),.pointer (some ⟨bs, 0, none⟩),.pointer (some ⟨bs, 0, none⟩),.pointer (some ⟨bs, 0, none⟩),.int .i64 (q),.pointer (some ⟨bd, 1, none⟩),.pointer (some ⟨bd, 2, none⟩),.int .i64 (k),.int .i64 (IntKind.i64.wrap (q - k)),.pointer (some ⟨bs, 0, none⟩),.pointer (some ⟨bs, 1, none⟩),.pointer (some ⟨bs, 0, none⟩),.pointer (some ⟨bs, 0, none⟩),s54,s55,s56,s57,s58,s59,s60,s61,s62,s63,s64,s65,s66,s67,s68,s69,s70,s71,s72,s73,s74,s75,s76,s77,s78,s79,s80,s81,s82,s83,s84,s85,s86],defers := dd } w') :
    Code.wpIn (wideAt none) 0 Try.prog pri2C Q { tmps := #[.pointer (some ⟨bq, 0, none⟩),.pointer (some ⟨bs, 0, none⟩),s2,s3,s4,.pointer (some ⟨bd, 0, none⟩),s6,s7,s8,s9,s10,s11,s12,s13,s14,s15,s16,s17,s18,s19,s20,s21,s22,s23,s24,s25,s26,s27,s28,s29,s30,s31,s32,s33,s34,s35,s36,s37,s38,s39,s40,s41,s42,s43,s44,s45,s46,s47,s48,s49,s50,s51,s52,s53,s54,s55,s56,s57,s58,s59,s60,s61,s62,s63,s64,s65,s66,s67,s68,s69,s70,s71,s72,s73,s74,s75,s76,s77,s78,s79,s80,s81,s82,s83,s84,s85,s86],defers := dd } W1 := by
  have HQ := Lib.hid hQ
  clear hQ
  conv => arg 4; whnf
  refine wpIn_region_invG mixed (by kernel_rfl) (fun d_ a_ w' => a_ = { tmps := #[.pointer (some ⟨bq, 0, none⟩),.pointer (some ⟨bs, 0, none⟩),s2,s3,s4,.pointer (some ⟨bd, 0, none⟩),s6,s7,s8,s9,s10,s11,s12,s13,s14,s15,s16,s17,s18,s19,s20,s21,s22,s23,s24,s25,s26,s27,s28,s29,pk (d_ 0) (.pointer (some ⟨bs, 0, none⟩)) s30,pk (d_ 1) (.pointer (some ⟨bs, 0, none⟩)) s31,pk (d_ 2) (.pointer (some ⟨bs, 0, none⟩)) s32,pk (d_ 3) (.pointer (some ⟨bs, 0, none⟩)) s33,pk (d_ 4) (.pointer (some ⟨bs, 1, none⟩)) s34,pk (d_ 5) (.int .i64 (m)) s35,pk (d_ 6) (.pointer (some ⟨bq, 0, none⟩)) s36,pk (d_ 7) (.pointer (some ⟨bq, 0, none⟩)) s37,pk (d_ 8) (.pointer (some ⟨bq, 0, none⟩)) s38,pk (d_ 9) (.pointer (some ⟨bq, 4, none⟩)) s39,pk (d_ 10) (.int .i64 (c)) s40,pk (d_ 11) (.int .i64 (IntKind.i64.wrap (m - c))) s41,pk (d_ 12) (.pointer (some ⟨bs, 0, none⟩)) s42,pk (d_ 13) (.pointer (some ⟨bs, 0, none⟩)) s43,pk (d_ 14) (.pointer (some ⟨bs, 0, none⟩)) s44,pk (d_ 15) (.int .i64 (q)) s45,pk (d_ 16) (.pointer (some ⟨bd, 1, none⟩)) s46,pk (d_ 17) (.pointer (some ⟨bd, 2, none⟩)) s47,pk (d_ 18) (.int .i64 (k)) s48,pk (d_ 19) (.int .i64 (IntKind.i64.wrap (q - k))) s49,pk (d_ 20) (.pointer (some ⟨bs, 0, none⟩)) s50,pk (d_ 21) (.pointer (some ⟨bs, 1, none⟩)) s51,pk (d_ 23) (.pointer (some ⟨bs, 0, none⟩)) s52,pk (d_ 24) (.pointer (some ⟨bs, 0, none⟩)) s53,s54,s55,s56,s57,s58,s59,s60,s61,s62,s63,s64,s65,s66,s67,s68,s69,s70,s71,s72,s73,s74,s75,s76,s77,s78,s79,s80,s81,s82,s83,s84,s85,s86],defers := dd } ∧ ch2 P0 P1 P2 (d_ 22) (d_ 25) w' ∧ OrdP [[], [], [], [2], [3], [4], [], [6], [7], [8], [9], [5, 10], [], [12], [13], [14], [], [16], [17], [15, 18], [0, 2, 3, 4, 5, 6, 7, 8, 9, 10, 11, 15], [0, 2, 3, 4, 5, 6, 7, 8, 9, 10, 11, 15, 20], [0, 2, 3, 4, 5, 6, 7, 8, 9, 10, 11, 15, 21], [0, 1, 2, 3, 4, 5, 6, 7, 8, 9, 10, 11, 12, 13, 14, 15, 16, 17, 18, 19, 20, 21, 22], [0, 1, 2, 3, 4, 5, 6, 7, 8, 9, 10, 11, 12, 13, 14, 15, 16, 17, 18, 19, 20, 21, 22, 23], [0, 1, 2, 3, 4, 5, 6, 7, 8, 9, 10, 11, 12, 13, 14, 15, 16, 17, 18, 19, 20, 21, 22, 24]] d_) ?_ ?_ ?_
  · exact ⟨rfl, h0, fun k h => by cases h⟩
  · refine ⟨?_,?_,?_,?_,?_,?_,?_,?_,?_,?_,?_,?_,?_,?_,?_,?_,?_,?_,?_,?_,?_,?_,?_,?_,?_,?_, trivial⟩
    all_goals
      rintro d_ a_ w1 K hd_ hdep ⟨rfl, F, O⟩ HK
      simp [Region.binds] at hdep
    · have HO : Hid (OrdP [[], [], [], [2], [3], [4], [], [6], [7], [8], [9], [5, 10], [], [12], [13], [14], [], [16], [17], [15, 18], [0, 2, 3, 4, 5, 6, 7, 8, 9, 10, 11, 15], [0, 2, 3, 4, 5, 6, 7, 8, 9, 10, 11, 15, 20], [0, 2, 3, 4, 5, 6, 7, 8, 9, 10, 11, 15, 21], [0, 1, 2, 3, 4, 5, 6, 7, 8, 9, 10, 11, 12, 13, 14, 15, 16, 17, 18, 19, 20, 21, 22], [0, 1, 2, 3, 4, 5, 6, 7, 8, 9, 10, 11, 12, 13, 14, 15, 16, 17, 18, 19, 20, 21, 22, 23], [0, 1, 2, 3, 4, 5, 6, 7, 8, 9, 10, 11, 12, 13, 14, 15, 16, 17, 18, 19, 20, 21, 22, 24]] (upd d_ 0)) := O.step (show ∀ e ∈ ([] : List Nat), d_ e = true by simp [hdep])
      clear O
      have HF := Lib.hid F
      clear F hdep
      go_simp
      refine HK.out _ _ ⟨?_, HF.out, HO.out⟩
      all_goals rfl
    · have HO : Hid (OrdP [[], [], [], [2], [3], [4], [], [6], [7], [8], [9], [5, 10], [], [12], [13], [14], [], [16], [17], [15, 18], [0, 2, 3, 4, 5, 6, 7, 8, 9, 10, 11, 15], [0, 2, 3, 4, 5, 6, 7, 8, 9, 10, 11, 15, 20], [0, 2, 3, 4, 5, 6, 7, 8, 9, 10, 11, 15, 21], [0, 1, 2, 3, 4, 5, 6, 7, 8, 9, 10, 11, 12, 13, 14, 15, 16, 17, 18, 19, 20, 21, 22], [0, 1, 2, 3, 4, 5, 6, 7, 8, 9, 10, 11, 12, 13, 14, 15, 16, 17, 18, 19, 20, 21, 22, 23], [0, 1, 2, 3, 4, 5, 6, 7, 8, 9, 10, 11, 12, 13, 14, 15, 16, 17, 18, 19, 20, 21, 22, 24]] (upd d_ 1)) := O.step (show ∀ e ∈ ([] : List Nat), d_ e = true by simp [hdep])
      clear O
      have HF := Lib.hid F
      clear F hdep
      go_simp
      refine HK.out _ _ ⟨?_, HF.out, HO.out⟩
      all_goals rfl
    · have HO : Hid (OrdP [[], [], [], [2], [3], [4], [], [6], [7], [8], [9], [5, 10], [], [12], [13], [14], [], [16], [17], [15, 18], [0, 2, 3, 4, 5, 6, 7, 8, 9, 10, 11, 15], [0, 2, 3, 4, 5, 6, 7, 8, 9, 10, 11, 15, 20], [0, 2, 3, 4, 5, 6, 7, 8, 9, 10, 11, 15, 21], [0, 1, 2, 3, 4, 5, 6, 7, 8, 9, 10, 11, 12, 13, 14, 15, 16, 17, 18, 19, 20, 21, 22], [0, 1, 2, 3, 4, 5, 6, 7, 8, 9, 10, 11, 12, 13, 14, 15, 16, 17, 18, 19, 20, 21, 22, 23], [0, 1, 2, 3, 4, 5, 6, 7, 8, 9, 10, 11, 12, 13, 14, 15, 16, 17, 18, 19, 20, 21, 22, 24]] (upd d_ 2)) := O.step (show ∀ e ∈ ([] : List Nat), d_ e = true by simp [hdep])
      clear O
      have HF := Lib.hid F
      clear F hdep
      go_simp
      refine HK.out _ _ ⟨?_, HF.out, HO.out⟩
      all_goals rfl
    · have HO : Hid (OrdP [[], [], [], [2], [3], [4], [], [6], [7], [8], [9], [5, 10], [], [12], [13], [14], [], [16], [17], [15, 18], [0, 2, 3, 4, 5, 6, 7, 8, 9, 10, 11, 15], [0, 2, 3, 4, 5, 6, 7, 8, 9, 10, 11, 15, 20], [0, 2, 3, 4, 5, 6, 7, 8, 9, 10, 11, 15, 21], [0, 1, 2, 3, 4, 5, 6, 7, 8, 9, 10, 11, 12, 13, 14, 15, 16, 17, 18, 19, 20, 21, 22], [0, 1, 2, 3, 4, 5, 6, 7, 8, 9, 10, 11, 12, 13, 14, 15, 16, 17, 18, 19, 20, 21, 22, 23], [0, 1, 2, 3, 4, 5, 6, 7, 8, 9, 10, 11, 12, 13, 14, 15, 16, 17, 18, 19, 20, 21, 22, 24]] (upd d_ 3)) := O.step (show ∀ e ∈ ([2] : List Nat), d_ e = true by simp [hdep])
      have q2 : d_ 2 = true := by simp [hdep]
      clear O
      rw [pk_of q2]
      have HF := Lib.hid F
      clear F hdep
      go_simp
      refine HK.out _ _ ⟨?_, HF.out, HO.out⟩
      rw [pk_of (show upd d_ 3 2 = true from q2)]
      all_goals rfl
    · have HO : Hid (OrdP [[], [], [], [2], [3], [4], [], [6], [7], [8], [9], [5, 10], [], [12], [13], [14], [], [16], [17], [15, 18], [0, 2, 3, 4, 5, 6, 7, 8, 9, 10, 11, 15], [0, 2, 3, 4, 5, 6, 7, 8, 9, 10, 11, 15, 20], [0, 2, 3, 4, 5, 6, 7, 8, 9, 10, 11, 15, 21], [0, 1, 2, 3, 4, 5, 6, 7, 8, 9, 10, 11, 12, 13, 14, 15, 16, 17, 18, 19, 20, 21, 22], [0, 1, 2, 3, 4, 5, 6, 7, 8, 9, 10, 11, 12, 13, 14, 15, 16, 17, 18, 19, 20, 21, 22, 23], [0, 1, 2, 3, 4, 5, 6, 7, 8, 9, 10, 11, 12, 13, 14, 15, 16, 17, 18, 19, 20, 21, 22, 24]] (upd d_ 4)) := O.step (show ∀ e ∈ ([3] : List Nat), d_ e = true by simp [hdep])
      have q3 : d_ 3 = true := by simp [hdep]
      clear O
      rw [pk_of q3]
      have HF := Lib.hid F
      clear F hdep
      go_simp
      refine HK.out _ _ ⟨?_, HF.out, HO.out⟩
      rw [pk_of (show upd d_ 4 3 = true from q3)]
      all_goals rfl
    · have HO : Hid (OrdP [[], [], [], [2], [3], [4], [], [6], [7], [8], [9], [5, 10], [], [12], [13], [14], [], [16], [17], [15, 18], [0, 2, 3, 4, 5, 6, 7, 8, 9, 10, 11, 15], [0, 2, 3, 4, 5, 6, 7, 8, 9, 10, 11, 15, 20], [0, 2, 3, 4, 5, 6, 7, 8, 9, 10, 11, 15, 21], [0, 1, 2, 3, 4, 5, 6, 7, 8, 9, 10, 11, 12, 13, 14, 15, 16, 17, 18, 19, 20, 21, 22], [0, 1, 2, 3, 4, 5, 6, 7, 8, 9, 10, 11, 12, 13, 14, 15, 16, 17, 18, 19, 20, 21, 22, 23], [0, 1, 2, 3, 4, 5, 6, 7, 8, 9, 10, 11, 12, 13, 14, 15, 16, 17, 18, 19, 20, 21, 22, 24]] (upd d_ 5)) := O.step (show ∀ e ∈ ([4] : List Nat), d_ e = true by simp [hdep])
      have q4 : d_ 4 = true := by simp [hdep]
      have F2 := F
      have n_ : d_ 22 = false := by
        cases e_ : d_ 22 with
        | false => rfl
        | true => have h2 := (O 22 e_ 5 (by decide)); rw [show d_ 5 = false from hd_] at h2; cases h2
      rw [n_] at F2
      have kk := kl5.out w1 (by
        have h3 := ch2_or F2
        cases e25_ : d_ 25 <;> simp_all [ch2])
      clear F2
      clear n_
      clear O
      rw [pk_of q4]
      have HF := Lib.hid F
      clear F hdep
      go_simp
      refine HK.out _ _ ⟨?_, HF.out, HO.out⟩
      rw [pk_of (show upd d_ 5 4 = true from q4)]
      all_goals rfl
    · have HO : Hid (OrdP [[], [], [], [2], [3], [4], [], [6], [7], [8], [9], [5, 10], [], [12], [13], [14], [], [16], [17], [15, 18], [0, 2, 3, 4, 5, 6, 7, 8, 9, 10, 11, 15], [0, 2, 3, 4, 5, 6, 7, 8, 9, 10, 11, 15, 20], [0, 2, 3, 4, 5, 6, 7, 8, 9, 10, 11, 15, 21], [0, 1, 2, 3, 4, 5, 6, 7, 8, 9, 10, 11, 12, 13, 14, 15, 16, 17, 18, 19, 20, 21, 22], [0, 1, 2, 3, 4, 5, 6, 7, 8, 9, 10, 11, 12, 13, 14, 15, 16, 17, 18, 19, 20, 21, 22, 23], [0, 1, 2, 3, 4, 5, 6, 7, 8, 9, 10, 11, 12, 13, 14, 15, 16, 17, 18, 19, 20, 21, 22, 24]] (upd d_ 6)) := O.step (show ∀ e ∈ ([] : List Nat), d_ e = true by simp [hdep])
      clear O
      have HF := Lib.hid F
      clear F hdep
      go_simp
      refine HK.out _ _ ⟨?_, HF.out, HO.out⟩
      all_goals rfl
    · have HO : Hid (OrdP [[], [], [], [2], [3], [4], [], [6], [7], [8], [9], [5, 10], [], [12], [13], [14], [], [16], [17], [15, 18], [0, 2, 3, 4, 5, 6, 7, 8, 9, 10, 11, 15], [0, 2, 3, 4, 5, 6, 7, 8, 9, 10, 11, 15, 20], [0, 2, 3, 4, 5, 6, 7, 8, 9, 10, 11, 15, 21], [0, 1, 2, 3, 4, 5, 6, 7, 8, 9, 10, 11, 12, 13, 14, 15, 16, 17, 18, 19, 20, 21, 22], [0, 1, 2, 3, 4, 5, 6, 7, 8, 9, 10, 11, 12, 13, 14, 15, 16, 17, 18, 19, 20, 21, 22, 23], [0, 1, 2, 3, 4, 5, 6, 7, 8, 9, 10, 11, 12, 13, 14, 15, 16, 17, 18, 19, 20, 21, 22, 24]] (upd d_ 7)) := O.step (show ∀ e ∈ ([6] : List Nat), d_ e = true by simp [hdep])
      have q6 : d_ 6 = true := by simp [hdep]
      clear O
      rw [pk_of q6]
      have HF := Lib.hid F
      clear F hdep
      go_simp
      refine HK.out _ _ ⟨?_, HF.out, HO.out⟩
      rw [pk_of (show upd d_ 7 6 = true from q6)]
      all_goals rfl
    · have HO : Hid (OrdP [[], [], [], [2], [3], [4], [], [6], [7], [8], [9], [5, 10], [], [12], [13], [14], [], [16], [17], [15, 18], [0, 2, 3, 4, 5, 6, 7, 8, 9, 10, 11, 15], [0, 2, 3, 4, 5, 6, 7, 8, 9, 10, 11, 15, 20], [0, 2, 3, 4, 5, 6, 7, 8, 9, 10, 11, 15, 21], [0, 1, 2, 3, 4, 5, 6, 7, 8, 9, 10, 11, 12, 13, 14, 15, 16, 17, 18, 19, 20, 21, 22], [0, 1, 2, 3, 4, 5, 6, 7, 8, 9, 10, 11, 12, 13, 14, 15, 16, 17, 18, 19, 20, 21, 22, 23], [0, 1, 2, 3, 4, 5, 6, 7, 8, 9, 10, 11, 12, 13, 14, 15, 16, 17, 18, 19, 20, 21, 22, 24]] (upd d_ 8)) := O.step (show ∀ e ∈ ([7] : List Nat), d_ e = true by simp [hdep])
      have q7 : d_ 7 = true := by simp [hdep]
      clear O
      rw [pk_of q7]
      have HF := Lib.hid F
      clear F hdep
      go_simp
      refine HK.out _ _ ⟨?_, HF.out, HO.out⟩
      rw [pk_of (show upd d_ 8 7 = true from q7)]
      all_goals rfl
    · have HO : Hid (OrdP [[], [], [], [2], [3], [4], [], [6], [7], [8], [9], [5, 10], [], [12], [13], [14], [], [16], [17], [15, 18], [0, 2, 3, 4, 5, 6, 7, 8, 9, 10, 11, 15], [0, 2, 3, 4, 5, 6, 7, 8, 9, 10, 11, 15, 20], [0, 2, 3, 4, 5, 6, 7, 8, 9, 10, 11, 15, 21], [0, 1, 2, 3, 4, 5, 6, 7, 8, 9, 10, 11, 12, 13, 14, 15, 16, 17, 18, 19, 20, 21, 22], [0, 1, 2, 3, 4, 5, 6, 7, 8, 9, 10, 11, 12, 13, 14, 15, 16, 17, 18, 19, 20, 21, 22, 23], [0, 1, 2, 3, 4, 5, 6, 7, 8, 9, 10, 11, 12, 13, 14, 15, 16, 17, 18, 19, 20, 21, 22, 24]] (upd d_ 9)) := O.step (show ∀ e ∈ ([8] : List Nat), d_ e = true by simp [hdep])
      have q8 : d_ 8 = true := by simp [hdep]
      clear O
      rw [pk_of q8]
      have HF := Lib.hid F
      clear F hdep
      go_simp
      refine HK.out _ _ ⟨?_, HF.out, HO.out⟩
      rw [pk_of (show upd d_ 9 8 = true from q8)]
      all_goals rfl
    · have HO : Hid (OrdP [[], [], [], [2], [3], [4], [], [6], [7], [8], [9], [5, 10], [], [12], [13], [14], [], [16], [17], [15, 18], [0, 2, 3, 4, 5, 6, 7, 8, 9, 10, 11, 15], [0, 2, 3, 4, 5, 6, 7, 8, 9, 10, 11, 15, 20], [0, 2, 3, 4, 5, 6, 7, 8, 9, 10, 11, 15, 21], [0, 1, 2, 3, 4, 5, 6, 7, 8, 9, 10, 11, 12, 13, 14, 15, 16, 17, 18, 19, 20, 21, 22], [0, 1, 2, 3, 4, 5, 6, 7, 8, 9, 10, 11, 12, 13, 14, 15, 16, 17, 18, 19, 20, 21, 22, 23], [0, 1, 2, 3, 4, 5, 6, 7, 8, 9, 10, 11, 12, 13, 14, 15, 16, 17, 18, 19, 20, 21, 22, 24]] (upd d_ 10)) := O.step (show ∀ e ∈ ([9] : List Nat), d_ e = true by simp [hdep])
      have q9 : d_ 9 = true := by simp [hdep]
      have kk := kl10.out w1 (ch2_or F)
      clear O
      rw [pk_of q9]
      have HF := Lib.hid F
      clear F hdep
      go_simp
      refine HK.out _ _ ⟨?_, HF.out, HO.out⟩
      rw [pk_of (show upd d_ 10 9 = true from q9)]
      all_goals rfl
    · have HO : Hid (OrdP [[], [], [], [2], [3], [4], [], [6], [7], [8], [9], [5, 10], [], [12], [13], [14], [], [16], [17], [15, 18], [0, 2, 3, 4, 5, 6, 7, 8, 9, 10, 11, 15], [0, 2, 3, 4, 5, 6, 7, 8, 9, 10, 11, 15, 20], [0, 2, 3, 4, 5, 6, 7, 8, 9, 10, 11, 15, 21], [0, 1, 2, 3, 4, 5, 6, 7, 8, 9, 10, 11, 12, 13, 14, 15, 16, 17, 18, 19, 20, 21, 22], [0, 1, 2, 3, 4, 5, 6, 7, 8, 9, 10, 11, 12, 13, 14, 15, 16, 17, 18, 19, 20, 21, 22, 23], [0, 1, 2, 3, 4, 5, 6, 7, 8, 9, 10, 11, 12, 13, 14, 15, 16, 17, 18, 19, 20, 21, 22, 24]] (upd d_ 11)) := O.step (show ∀ e ∈ ([5, 10] : List Nat), d_ e = true by simp [hdep])
      have q5 : d_ 5 = true := by simp [hdep]
      have q10 : d_ 10 = true := by simp [hdep]
      clear O
      rw [pk_of q5, pk_of q10]
      have HF := Lib.hid F
      clear F hdep
      go_simp
      refine HK.out _ _ ⟨?_, HF.out, HO.out⟩
      rw [pk_of (show upd d_ 11 5 = true from q5), pk_of (show upd d_ 11 10 = true from q10)]
      all_goals rfl
    · have HO : Hid (OrdP [[], [], [], [2], [3], [4], [], [6], [7], [8], [9], [5, 10], [], [12], [13], [14], [], [16], [17], [15, 18], [0, 2, 3, 4, 5, 6, 7, 8, 9, 10, 11, 15], [0, 2, 3, 4, 5, 6, 7, 8, 9, 10, 11, 15, 20], [0, 2, 3, 4, 5, 6, 7, 8, 9, 10, 11, 15, 21], [0, 1, 2, 3, 4, 5, 6, 7, 8, 9, 10, 11, 12, 13, 14, 15, 16, 17, 18, 19, 20, 21, 22], [0, 1, 2, 3, 4, 5, 6, 7, 8, 9, 10, 11, 12, 13, 14, 15, 16, 17, 18, 19, 20, 21, 22, 23], [0, 1, 2, 3, 4, 5, 6, 7, 8, 9, 10, 11, 12, 13, 14, 15, 16, 17, 18, 19, 20, 21, 22, 24]] (upd d_ 12)) := O.step (show ∀ e ∈ ([] : List Nat), d_ e = true by simp [hdep])
      clear O
      have HF := Lib.hid F
      clear F hdep
      go_simp
      refine HK.out _ _ ⟨?_, HF.out, HO.out⟩
      all_goals rfl
    · have HO : Hid (OrdP [[], [], [], [2], [3], [4], [], [6], [7], [8], [9], [5, 10], [], [12], [13], [14], [], [16], [17], [15, 18], [0, 2, 3, 4, 5, 6, 7, 8, 9, 10, 11, 15], [0, 2, 3, 4, 5, 6, 7, 8, 9, 10, 11, 15, 20], [0, 2, 3, 4, 5, 6, 7, 8, 9, 10, 11, 15, 21], [0, 1, 2, 3, 4, 5, 6, 7, 8, 9, 10, 11, 12, 13, 14, 15, 16, 17, 18, 19, 20, 21, 22], [0, 1, 2, 3, 4, 5, 6, 7, 8, 9, 10, 11, 12, 13, 14, 15, 16, 17, 18, 19, 20, 21, 22, 23], [0, 1, 2, 3, 4, 5, 6, 7, 8, 9, 10, 11, 12, 13, 14, 15, 16, 17, 18, 19, 20, 21, 22, 24]] (upd d_ 13)) := O.step (show ∀ e ∈ ([12] : List Nat), d_ e = true by simp [hdep])
      have q12 : d_ 12 = true := by simp [hdep]
      clear O
      rw [pk_of q12]
      have HF := Lib.hid F
      clear F hdep
      go_simp
      refine HK.out _ _ ⟨?_, HF.out, HO.out⟩
      rw [pk_of (show upd d_ 13 12 = true from q12)]
      all_goals rfl
    · have HO : Hid (OrdP [[], [], [], [2], [3], [4], [], [6], [7], [8], [9], [5, 10], [], [12], [13], [14], [], [16], [17], [15, 18], [0, 2, 3, 4, 5, 6, 7, 8, 9, 10, 11, 15], [0, 2, 3, 4, 5, 6, 7, 8, 9, 10, 11, 15, 20], [0, 2, 3, 4, 5, 6, 7, 8, 9, 10, 11, 15, 21], [0, 1, 2, 3, 4, 5, 6, 7, 8, 9, 10, 11, 12, 13, 14, 15, 16, 17, 18, 19, 20, 21, 22], [0, 1, 2, 3, 4, 5, 6, 7, 8, 9, 10, 11, 12, 13, 14, 15, 16, 17, 18, 19, 20, 21, 22, 23], [0, 1, 2, 3, 4, 5, 6, 7, 8, 9, 10, 11, 12, 13, 14, 15, 16, 17, 18, 19, 20, 21, 22, 24]] (upd d_ 14)) := O.step (show ∀ e ∈ ([13] : List Nat), d_ e = true by simp [hdep])
      have q13 : d_ 13 = true := by simp [hdep]
      clear O
      rw [pk_of q13]
      have HF := Lib.hid F
      clear F hdep
      go_simp
      refine HK.out _ _ ⟨?_, HF.out, HO.out⟩
      rw [pk_of (show upd d_ 14 13 = true from q13)]
      all_goals rfl
    · have HO : Hid (OrdP [[], [], [], [2], [3], [4], [], [6], [7], [8], [9], [5, 10], [], [12], [13], [14], [], [16], [17], [15, 18], [0, 2, 3, 4, 5, 6, 7, 8, 9, 10, 11, 15], [0, 2, 3, 4, 5, 6, 7, 8, 9, 10, 11, 15, 20], [0, 2, 3, 4, 5, 6, 7, 8, 9, 10, 11, 15, 21], [0, 1, 2, 3, 4, 5, 6, 7, 8, 9, 10, 11, 12, 13, 14, 15, 16, 17, 18, 19, 20, 21, 22], [0, 1, 2, 3, 4, 5, 6, 7, 8, 9, 10, 11, 12, 13, 14, 15, 16, 17, 18, 19, 20, 21, 22, 23], [0, 1, 2, 3, 4, 5, 6, 7, 8, 9, 10, 11, 12, 13, 14, 15, 16, 17, 18, 19, 20, 21, 22, 24]] (upd d_ 15)) := O.step (show ∀ e ∈ ([14] : List Nat), d_ e = true by simp [hdep])
      have q14 : d_ 14 = true := by simp [hdep]
      have F2 := F
      have n_ : d_ 22 = false := by
        cases e_ : d_ 22 with
        | false => rfl
        | true => have h2 := (O 22 e_ 15 (by decide)); rw [show d_ 15 = false from hd_] at h2; cases h2
      rw [n_] at F2
      have kk := kl15.out w1 (by
        have h3 := ch2_or F2
        cases e25_ : d_ 25 <;> simp_all [ch2])
      clear F2
      clear n_
      clear O
      rw [pk_of q14]
      have HF := Lib.hid F
      clear F hdep
      go_simp
      refine HK.out _ _ ⟨?_, HF.out, HO.out⟩
      rw [pk_of (show upd d_ 15 14 = true from q14)]
      all_goals rfl
    · have HO : Hid (OrdP [[], [], [], [2], [3], [4], [], [6], [7], [8], [9], [5, 10], [], [12], [13], [14], [], [16], [17], [15, 18], [0, 2, 3, 4, 5, 6, 7, 8, 9, 10, 11, 15], [0, 2, 3, 4, 5, 6, 7, 8, 9, 10, 11, 15, 20], [0, 2, 3, 4, 5, 6, 7, 8, 9, 10, 11, 15, 21], [0, 1, 2, 3, 4, 5, 6, 7, 8, 9, 10, 11, 12, 13, 14, 15, 16, 17, 18, 19, 20, 21, 22], [0, 1, 2, 3, 4, 5, 6, 7, 8, 9, 10, 11, 12, 13, 14, 15, 16, 17, 18, 19, 20, 21, 22, 23], [0, 1, 2, 3, 4, 5, 6, 7, 8, 9, 10, 11, 12, 13, 14, 15, 16, 17, 18, 19, 20, 21, 22, 24]] (upd d_ 16)) := O.step (show ∀ e ∈ ([] : List Nat), d_ e = true by simp [hdep])
      clear O
      have HF := Lib.hid F
      clear F hdep
      go_simp
      refine HK.out _ _ ⟨?_, HF.out, HO.out⟩
      all_goals rfl
    · have HO : Hid (OrdP [[], [], [], [2], [3], [4], [], [6], [7], [8], [9], [5, 10], [], [12], [13], [14], [], [16], [17], [15, 18], [0, 2, 3, 4, 5, 6, 7, 8, 9, 10, 11, 15], [0, 2, 3, 4, 5, 6, 7, 8, 9, 10, 11, 15, 20], [0, 2, 3, 4, 5, 6, 7, 8, 9, 10, 11, 15, 21], [0, 1, 2, 3, 4, 5, 6, 7, 8, 9, 10, 11, 12, 13, 14, 15, 16, 17, 18, 19, 20, 21, 22], [0, 1, 2, 3, 4, 5, 6, 7, 8, 9, 10, 11, 12, 13, 14, 15, 16, 17, 18, 19, 20, 21, 22, 23], [0, 1, 2, 3, 4, 5, 6, 7, 8, 9, 10, 11, 12, 13, 14, 15, 16, 17, 18, 19, 20, 21, 22, 24]] (upd d_ 17)) := O.step (show ∀ e ∈ ([16] : List Nat), d_ e = true by simp [hdep])
      have q16 : d_ 16 = true := by simp [hdep]
      clear O
      rw [pk_of q16]
      have HF := Lib.hid F
      clear F hdep
      go_simp
      refine HK.out _ _ ⟨?_, HF.out, HO.out⟩
      rw [pk_of (show upd d_ 17 16 = true from q16)]
      all_goals rfl
    · have HO : Hid (OrdP [[], [], [], [2], [3], [4], [], [6], [7], [8], [9], [5, 10], [], [12], [13], [14], [], [16], [17], [15, 18], [0, 2, 3, 4, 5, 6, 7, 8, 9, 10, 11, 15], [0, 2, 3, 4, 5, 6, 7, 8, 9, 10, 11, 15, 20], [0, 2, 3, 4, 5, 6, 7, 8, 9, 10, 11, 15, 21], [0, 1, 2, 3, 4, 5, 6, 7, 8, 9, 10, 11, 12, 13, 14, 15, 16, 17, 18, 19, 20, 21, 22], [0, 1, 2, 3, 4, 5, 6, 7, 8, 9, 10, 11, 12, 13, 14, 15, 16, 17, 18, 19, 20, 21, 22, 23], [0, 1, 2, 3, 4, 5, 6, 7, 8, 9, 10, 11, 12, 13, 14, 15, 16, 17, 18, 19, 20, 21, 22, 24]] (upd d_ 18)) := O.step (show ∀ e ∈ ([17] : List Nat), d_ e = true by simp [hdep])
      have q17 : d_ 17 = true := by simp [hdep]
      have kk := kl18.out w1 (ch2_or F)
      clear O
      rw [pk_of q17]
      have HF := Lib.hid F
      clear F hdep
      go_simp
      refine HK.out _ _ ⟨?_, HF.out, HO.out⟩
      rw [pk_of (show upd d_ 18 17 = true from q17)]
      all_goals rfl
    · have HO : Hid (OrdP [[], [], [], [2], [3], [4], [], [6], [7], [8], [9], [5, 10], [], [12], [13], [14], [], [16], [17], [15, 18], [0, 2, 3, 4, 5, 6, 7, 8, 9, 10, 11, 15], [0, 2, 3, 4, 5, 6, 7, 8, 9, 10, 11, 15, 20], [0, 2, 3, 4, 5, 6, 7, 8, 9, 10, 11, 15, 21], [0, 1, 2, 3, 4, 5, 6, 7, 8, 9, 10, 11, 12, 13, 14, 15, 16, 17, 18, 19, 20, 21, 22], [0, 1, 2, 3, 4, 5, 6, 7, 8, 9, 10, 11, 12, 13, 14, 15, 16, 17, 18, 19, 20, 21, 22, 23], [0, 1, 2, 3, 4, 5, 6, 7, 8, 9, 10, 11, 12, 13, 14, 15, 16, 17, 18, 19, 20, 21, 22, 24]] (upd d_ 19)) := O.step (show ∀ e ∈ ([15, 18] : List Nat), d_ e = true by simp [hdep])
      have q15 : d_ 15 = true := by simp [hdep]
      have q18 : d_ 18 = true := by simp [hdep]
      clear O
      rw [pk_of q15, pk_of q18]
      have HF := Lib.hid F
      clear F hdep
      go_simp
      refine HK.out _ _ ⟨?_, HF.out, HO.out⟩
      rw [pk_of (show upd d_ 19 15 = true from q15), pk_of (show upd d_ 19 18 = true from q18)]
      all_goals rfl
    · have HO : Hid (OrdP [[], [], [], [2], [3], [4], [], [6], [7], [8], [9], [5, 10], [], [12], [13], [14], [], [16], [17], [15, 18], [0, 2, 3, 4, 5, 6, 7, 8, 9, 10, 11, 15], [0, 2, 3, 4, 5, 6, 7, 8, 9, 10, 11, 15, 20], [0, 2, 3, 4, 5, 6, 7, 8, 9, 10, 11, 15, 21], [0, 1, 2, 3, 4, 5, 6, 7, 8, 9, 10, 11, 12, 13, 14, 15, 16, 17, 18, 19, 20, 21, 22], [0, 1, 2, 3, 4, 5, 6, 7, 8, 9, 10, 11, 12, 13, 14, 15, 16, 17, 18, 19, 20, 21, 22, 23], [0, 1, 2, 3, 4, 5, 6, 7, 8, 9, 10, 11, 12, 13, 14, 15, 16, 17, 18, 19, 20, 21, 22, 24]] (upd d_ 20)) := O.step (show ∀ e ∈ ([0, 2, 3, 4, 5, 6, 7, 8, 9, 10, 11, 15] : List Nat), d_ e = true by simp [hdep])
      have q0 : d_ 0 = true := by simp [hdep]
      clear O
      rw [pk_of q0]
      have HF := Lib.hid F
      clear F hdep
      go_simp
      refine HK.out _ _ ⟨?_, HF.out, HO.out⟩
      rw [pk_of (show upd d_ 20 0 = true from q0)]
      all_goals rfl
    · have HO : Hid (OrdP [[], [], [], [2], [3], [4], [], [6], [7], [8], [9], [5, 10], [], [12], [13], [14], [], [16], [17], [15, 18], [0, 2, 3, 4, 5, 6, 7, 8, 9, 10, 11, 15], [0, 2, 3, 4, 5, 6, 7, 8, 9, 10, 11, 15, 20], [0, 2, 3, 4, 5, 6, 7, 8, 9, 10, 11, 15, 21], [0, 1, 2, 3, 4, 5, 6, 7, 8, 9, 10, 11, 12, 13, 14, 15, 16, 17, 18, 19, 20, 21, 22], [0, 1, 2, 3, 4, 5, 6, 7, 8, 9, 10, 11, 12, 13, 14, 15, 16, 17, 18, 19, 20, 21, 22, 23], [0, 1, 2, 3, 4, 5, 6, 7, 8, 9, 10, 11, 12, 13, 14, 15, 16, 17, 18, 19, 20, 21, 22, 24]] (upd d_ 21)) := O.step (show ∀ e ∈ ([0, 2, 3, 4, 5, 6, 7, 8, 9, 10, 11, 15, 20] : List Nat), d_ e = true by simp [hdep])
      have q20 : d_ 20 = true := by simp [hdep]
      clear O
      rw [pk_of q20]
      have HF := Lib.hid F
      clear F hdep
      go_simp
      refine HK.out _ _ ⟨?_, HF.out, HO.out⟩
      rw [pk_of (show upd d_ 21 20 = true from q20)]
      all_goals rfl
    · have HO : Hid (OrdP [[], [], [], [2], [3], [4], [], [6], [7], [8], [9], [5, 10], [], [12], [13], [14], [], [16], [17], [15, 18], [0, 2, 3, 4, 5, 6, 7, 8, 9, 10, 11, 15], [0, 2, 3, 4, 5, 6, 7, 8, 9, 10, 11, 15, 20], [0, 2, 3, 4, 5, 6, 7, 8, 9, 10, 11, 15, 21], [0, 1, 2, 3, 4, 5, 6, 7, 8, 9, 10, 11, 12, 13, 14, 15, 16, 17, 18, 19, 20, 21, 22], [0, 1, 2, 3, 4, 5, 6, 7, 8, 9, 10, 11, 12, 13, 14, 15, 16, 17, 18, 19, 20, 21, 22, 23], [0, 1, 2, 3, 4, 5, 6, 7, 8, 9, 10, 11, 12, 13, 14, 15, 16, 17, 18, 19, 20, 21, 22, 24]] (upd d_ 22)) := O.step (show ∀ e ∈ ([0, 2, 3, 4, 5, 6, 7, 8, 9, 10, 11, 15, 21] : List Nat), d_ e = true by simp [hdep])
      have q11 : d_ 11 = true := by simp [hdep]
      have q21 : d_ 21 = true := by simp [hdep]
      clear O
      rw [pk_of q11, pk_of q21]
      obtain ⟨hP, hN⟩ := ch2_s1 F hd_
      obtain ⟨⟨u0, c0⟩, z0, hR⟩ := ks22.out w1 hP
      have HF := Lib.hid (hN _ hR)
      clear F hP hR hN hdep
      go_simp
      have HG := HF.out
      refine HK.out _ _ ⟨?_, HG, HO.out⟩
      rw [pk_of (show upd d_ 22 11 = true from q11), pk_of (show upd d_ 22 21 = true from q21)]
      all_goals rfl
    · have HO : Hid (OrdP [[], [], [], [2], [3], [4], [], [6], [7], [8], [9], [5, 10], [], [12], [13], [14], [], [16], [17], [15, 18], [0, 2, 3, 4, 5, 6, 7, 8, 9, 10, 11, 15], [0, 2, 3, 4, 5, 6, 7, 8, 9, 10, 11, 15, 20], [0, 2, 3, 4, 5, 6, 7, 8, 9, 10, 11, 15, 21], [0, 1, 2, 3, 4, 5, 6, 7, 8, 9, 10, 11, 12, 13, 14, 15, 16, 17, 18, 19, 20, 21, 22], [0, 1, 2, 3, 4, 5, 6, 7, 8, 9, 10, 11, 12, 13, 14, 15, 16, 17, 18, 19, 20, 21, 22, 23], [0, 1, 2, 3, 4, 5, 6, 7, 8, 9, 10, 11, 12, 13, 14, 15, 16, 17, 18, 19, 20, 21, 22, 24]] (upd d_ 23)) := O.step (show ∀ e ∈ ([0, 1, 2, 3, 4, 5, 6, 7, 8, 9, 10, 11, 12, 13, 14, 15, 16, 17, 18, 19, 20, 21, 22] : List Nat), d_ e = true by simp [hdep])
      have q1 : d_ 1 = true := by simp [hdep]
      clear O
      rw [pk_of q1]
      have HF := Lib.hid F
      clear F hdep
      go_simp
      refine HK.out _ _ ⟨?_, HF.out, HO.out⟩
      rw [pk_of (show upd d_ 23 1 = true from q1)]
      all_goals rfl
    · have HO : Hid (OrdP [[], [], [], [2], [3], [4], [], [6], [7], [8], [9], [5, 10], [], [12], [13], [14], [], [16], [17], [15, 18], [0, 2, 3, 4, 5, 6, 7, 8, 9, 10, 11, 15], [0, 2, 3, 4, 5, 6, 7, 8, 9, 10, 11, 15, 20], [0, 2, 3, 4, 5, 6, 7, 8, 9, 10, 11, 15, 21], [0, 1, 2, 3, 4, 5, 6, 7, 8, 9, 10, 11, 12, 13, 14, 15, 16, 17, 18, 19, 20, 21, 22], [0, 1, 2, 3, 4, 5, 6, 7, 8, 9, 10, 11, 12, 13, 14, 15, 16, 17, 18, 19, 20, 21, 22, 23], [0, 1, 2, 3, 4, 5, 6, 7, 8, 9, 10, 11, 12, 13, 14, 15, 16, 17, 18, 19, 20, 21, 22, 24]] (upd d_ 24)) := O.step (show ∀ e ∈ ([0, 1, 2, 3, 4, 5, 6, 7, 8, 9, 10, 11, 12, 13, 14, 15, 16, 17, 18, 19, 20, 21, 22, 23] : List Nat), d_ e = true by simp [hdep])
      have q23 : d_ 23 = true := by simp [hdep]
      clear O
      rw [pk_of q23]
      have HF := Lib.hid F
      clear F hdep
      go_simp
      refine HK.out _ _ ⟨?_, HF.out, HO.out⟩
      rw [pk_of (show upd d_ 24 23 = true from q23)]
      all_goals rfl
    · have HO : Hid (OrdP [[], [], [], [2], [3], [4], [], [6], [7], [8], [9], [5, 10], [], [12], [13], [14], [], [16], [17], [15, 18], [0, 2, 3, 4, 5, 6, 7, 8, 9, 10, 11, 15], [0, 2, 3, 4, 5, 6, 7, 8, 9, 10, 11, 15, 20], [0, 2, 3, 4, 5, 6, 7, 8, 9, 10, 11, 15, 21], [0, 1, 2, 3, 4, 5, 6, 7, 8, 9, 10, 11, 12, 13, 14, 15, 16, 17, 18, 19, 20, 21, 22], [0, 1, 2, 3, 4, 5, 6, 7, 8, 9, 10, 11, 12, 13, 14, 15, 16, 17, 18, 19, 20, 21, 22, 23], [0, 1, 2, 3, 4, 5, 6, 7, 8, 9, 10, 11, 12, 13, 14, 15, 16, 17, 18, 19, 20, 21, 22, 24]] (upd d_ 25)) := O.step (show ∀ e ∈ ([0, 1, 2, 3, 4, 5, 6, 7, 8, 9, 10, 11, 12, 13, 14, 15, 16, 17, 18, 19, 20, 21, 22, 24] : List Nat), d_ e = true by simp [hdep])
      have q19 : d_ 19 = true := by simp [hdep]
      have q24 : d_ 24 = true := by simp [hdep]
      clear O
      rw [pk_of q19, pk_of q24]
      obtain ⟨hP, hN⟩ := ch2_s2 F (show d_ 22 = true by simp [hdep]) hd_
      obtain ⟨⟨u0, c0⟩, z0, hR⟩ := ks25.out w1 hP
      have HF := Lib.hid (hN _ hR)
      clear F hP hR hN hdep
      go_simp
      have HG := HF.out
      refine HK.out _ _ ⟨?_, HG, HO.out⟩
      rw [pk_of (show upd d_ 25 19 = true from q19), pk_of (show upd d_ 25 24 = true from q24)]
      all_goals rfl
  · rintro d_ a_ w1 hall ⟨rfl, F, O⟩
    have hall' : ∀ k, k < 26 → d_ k = true := hall
    rw [hall' 22 (by decide), hall' 25 (by decide)] at F
    have HF := Lib.hid F
    clear F
    rw [pk_of (hall' 0 (by decide)), pk_of (hall' 1 (by decide)), pk_of (hall' 2 (by decide)), pk_of (hall' 3 (by decide)), pk_of (hall' 4 (by decide)), pk_of (hall' 5 (by decide)), pk_of (hall' 6 (by decide)), pk_of (hall' 7 (by decide)), pk_of (hall' 8 (by decide)), pk_of (hall' 9 (by decide)), pk_of (hall' 10 (by decide)), pk_of (hall' 11 (by decide)), pk_of (hall' 12 (by decide)), pk_of (hall' 13 (by decide)), pk_of (hall' 14 (by decide)), pk_of (hall' 15 (by decide)), pk_of (hall' 16 (by decide)), pk_of (hall' 17 (by decide)), pk_of (hall' 18 (by decide)), pk_of (hall' 19 (by decide)), pk_of (hall' 20 (by decide)), pk_of (hall' 21 (by decide)), pk_of (hall' 23 (by decide)), pk_of (hall' 24 (by decide))]
    exact HQ.out w1 HF.out
noncomputable def pri7C : Code := (Try.f106.body.bind (regionAt 7)).getD .skip
set_option maxRecDepth 100000 in
set_option maxHeartbeats 8000000 in
theorem pri7 {bs g ba bb i n : Nat} {x y u v : Int} {P0 P1 : World → Prop} {Q : Exit → Act → World → Prop} {W1 : World} (hin : i < n) (h0 : P0 W1.drew)
    (kl3 : Hid (∀ w : World, (P0 w ∨ P1 w) → w.cell? ⟨bs, 2, none⟩ = some (.slice (some ⟨g, 0, none⟩) n n)))
    (kl6 : Hid (∀ w : World, (P0 w ∨ P1 w) → w.cell? ⟨ba, 0, none⟩ = some (.int .i64 (x))))
    (kl8 : Hid (∀ w : World, (P0 w ∨ P1 w) → w.cell? ⟨bb, 0, none⟩ = some (.int .i64 (u))))
    (kl11 : Hid (∀ w : World, (P0 w ∨ P1 w) → w.cell? ⟨ba, 1, none⟩ = some (.int .i64 (y))))
    (kl13 : Hid (∀ w : World, (P0 w ∨ P1 w) → w.cell? ⟨bb, 1, none⟩ = some (.int .i64 (v))))
    (ks17 : Hid (∀ w : World, P0 w → (∃ u, w.cell? ⟨g, i * 2, none⟩ = some u) ∧ w.frozen? ⟨g, i * 2, none⟩ = false ∧ (∃ u, w.cell? ⟨g, i * 2 + 1, none⟩ = some u) ∧ w.frozen? ⟨g, i * 2 + 1, none⟩ = false ∧ P1 ((w.setCell ⟨g, i * 2, none⟩ (.int .i64 (IntKind.i64.wrap (x + u)))).setCell ⟨g, i * 2 + 1, none⟩ (.int .i64 (IntKind.i64.wrap (y + v))))))
    {s0 s2 s3 s4 s5 s9 s10 s11 s12 s13 s14 s15 s16 s17 s18 s19 s20 s21 s22 s23 s24 s25 s26 s27 s28 s29 s30 s31 s32 s33 s34 s35 s36 s37 s38 s39 s40 s41 s42 s43 s44 s45 s46 s47 s48 s49 s50 s51 s52 s53 s54 s55 s56 s57 s58 s59 s60 s61 s62 s63 s64 s65 s66 s67 s68 s69 s70 s71 s72 s73 s74 s75 s76 s77 s78 s79 s80 s81 s82 s83 s84 s85 s86 : Value} {dd : List Deferred}
    (hQ : ∀ w' : World, P1 w' → Q .normal { tmps := #[s0,.pointer (some ⟨bs, 0, none⟩),s2,s3,s4,s5,.int .i64 (i),.pointer (some ⟨ba, 0, none⟩),.pointer (some ⟨bb, 0, none⟩),s9,s10,s11,s12,s13,s14,s15,s16,s17,s18,s19,s20,s21,s22,s23,s24,s25,s26,s27,s28,s29,s30,s31,s32,s33,s34,s35,s36,s37,s38,s39,s40,s41,s42,s43,s44,s45,s46,s47,s48,s49,s50,s51,s52,s53,s54,s55,s56,s57,s58,s59,s60,s61,s62,s63,s64,s65,s66,s67,s68,.pointer (some ⟨bs, 0, none⟩),.pointer (some ⟨bs, 0, none⟩),.pointer (some ⟨bs, 2, none⟩),.slice (some ⟨g, 0, none⟩) n n,.int .i64 (i),.pointer (some ⟨ba, 0, none⟩),.int .i64 (x),.pointer (some ⟨bb, 0, none⟩),.int .i64 (u),.int .i64 (IntKind.i64.wrap (x + u)),.pointer (some ⟨ba, 1, none⟩),.int .i64 (y),.pointer (some ⟨bb, 1, none⟩),.int .i64 (v),.int .i64 (IntKind.i64.wrap (y + v)),.agg #[.int .i64 (IntKind.i64.wrap (x + u)), .int .i64 (IntKind.i64.wrap (y + v))],.pointer (some ⟨g, i * 2, none⟩),s86],defers := dd } w') :
    Code.wpIn (wideAt none) 0 Try.prog pri7C Q { tmps := #[s0,.pointer (some ⟨bs, 0, none⟩),s2,s3,s4,s5,.int .i64 (i),.pointer (some ⟨ba, 0, none⟩),.pointer (some ⟨bb, 0, none⟩),s9,s10,s11,s12,s13,s14,s15,s16,s17,s18,s19,s20,s21,s22,s23,s24,s25,s26,s27,s28,s29,s30,s31,s32,s33,s34,s35,s36,s37,s38,s39,s40,s41,s42,s43,s44,s45,s46,s47,s48,s49,s50,s51,s52,s53,s54,s55,s56,s57,s58,s59,s60,s61,s62,s63,s64,s65,s66,s67,s68,s69,s70,s71,s72,s73,s74,s75,s76,s77,s78,s79,s80,s81,s82,s83,s84,s85,s86],defers := dd } W1 := by
  have HQ := Lib.hid hQ
  clear hQ
  conv => arg 4; whnf
  refine wpIn_region_invG mixed (by kernel_rfl) (fun d_ a_ w' => a_ = { tmps := #[s0,.pointer (some ⟨bs, 0, none⟩),s2,s3,s4,s5,.int .i64 (i),.pointer (some ⟨ba, 0, none⟩),.pointer (some ⟨bb, 0, none⟩),s9,s10,s11,s12,s13,s14,s15,s16,s17,s18,s19,s20,s21,s22,s23,s24,s25,s26,s27,s28,s29,s30,s31,s32,s33,s34,s35,s36,s37,s38,s39,s40,s41,s42,s43,s44,s45,s46,s47,s48,s49,s50,s51,s52,s53,s54,s55,s56,s57,s58,s59,s60,s61,s62,s63,s64,s65,s66,s67,s68,pk (d_ 0) (.pointer (some ⟨bs, 0, none⟩)) s69,pk (d_ 1) (.pointer (some ⟨bs, 0, none⟩)) s70,pk (d_ 2) (.pointer (some ⟨bs, 2, none⟩)) s71,pk (d_ 3) (.slice (some ⟨g, 0, none⟩) n n) s72,pk (d_ 4) (.int .i64 (i)) s73,pk (d_ 5) (.pointer (some ⟨ba, 0, none⟩)) s74,pk (d_ 6) (.int .i64 (x)) s75,pk (d_ 7) (.pointer (some ⟨bb, 0, none⟩)) s76,pk (d_ 8) (.int .i64 (u)) s77,pk (d_ 9) (.int .i64 (IntKind.i64.wrap (x + u))) s78,pk (d_ 10) (.pointer (some ⟨ba, 1, none⟩)) s79,pk (d_ 11) (.int .i64 (y)) s80,pk (d_ 12) (.pointer (some ⟨bb, 1, none⟩)) s81,pk (d_ 13) (.int .i64 (v)) s82,pk (d_ 14) (.int .i64 (IntKind.i64.wrap (y + v))) s83,pk (d_ 15) (.agg #[.int .i64 (IntKind.i64.wrap (x + u)), .int .i64 (IntKind.i64.wrap (y + v))]) s84,pk (d_ 16) (.pointer (some ⟨g, i * 2, none⟩)) s85,s86],defers := dd } ∧ ch1 P0 P1 (d_ 17) w') ?_ ?_ ?_
  · exact ⟨rfl, h0⟩
  · refine ⟨?_,?_,?_,?_,?_,?_,?_,?_,?_,?_,?_,?_,?_,?_,?_,?_,?_,?_, trivial⟩
    all_goals
      rintro d_ a_ w1 K hd_ hdep ⟨rfl, F⟩ HK
      simp [Region.binds] at hdep
    · have HF := Lib.hid F
      clear F hdep
      go_simp
      refine HK.out _ _ ⟨?_, HF.out⟩
      all_goals rfl
    · have q0 : d_ 0 = true := by simp [hdep]
      rw [pk_of q0]
      have HF := Lib.hid F
      clear F hdep
      go_simp
      refine HK.out _ _ ⟨?_, HF.out⟩
      rw [pk_of (show upd d_ 1 0 = true from q0)]
      all_goals rfl
    · have q1 : d_ 1 = true := by simp [hdep]
      rw [pk_of q1]
      have HF := Lib.hid F
      clear F hdep
      go_simp
      refine HK.out _ _ ⟨?_, HF.out⟩
      rw [pk_of (show upd d_ 2 1 = true from q1)]
      all_goals rfl
    · have q2 : d_ 2 = true := by simp [hdep]
      have kk := kl3.out w1 (ch1_or F)
      rw [pk_of q2]
      have HF := Lib.hid F
      clear F hdep
      go_simp
      refine HK.out _ _ ⟨?_, HF.out⟩
      rw [pk_of (show upd d_ 3 2 = true from q2)]
      all_goals rfl
    · have HF := Lib.hid F
      clear F hdep
      go_simp
      refine HK.out _ _ ⟨?_, HF.out⟩
      all_goals rfl
    · have HF := Lib.hid F
      clear F hdep
      go_simp
      refine HK.out _ _ ⟨?_, HF.out⟩
      all_goals rfl
    · have q5 : d_ 5 = true := by simp [hdep]
      have kk := kl6.out w1 (ch1_or F)
      rw [pk_of q5]
      have HF := Lib.hid F
      clear F hdep
      go_simp
      refine HK.out _ _ ⟨?_, HF.out⟩
      rw [pk_of (show upd d_ 6 5 = true from q5)]
      all_goals rfl
    · have HF := Lib.hid F
      clear F hdep
      go_simp
      refine HK.out _ _ ⟨?_, HF.out⟩
      all_goals rfl
    · have q7 : d_ 7 = true := by simp [hdep]
      have kk := kl8.out w1 (ch1_or F)
      rw [pk_of q7]
      have HF := Lib.hid F
      clear F hdep
      go_simp
      refine HK.out _ _ ⟨?_, HF.out⟩
      rw [pk_of (show upd d_ 8 7 = true from q7)]
      all_goals rfl
    · have q6 : d_ 6 = true := by simp [hdep]
      have q8 : d_ 8 = true := by simp [hdep]
      rw [pk_of q6, pk_of q8]
      have HF := Lib.hid F
      clear F hdep
      go_simp
      refine HK.out _ _ ⟨?_, HF.out⟩
      rw [pk_of (show upd d_ 9 6 = true from q6), pk_of (show upd d_ 9 8 = true from q8)]
      all_goals rfl
    · have HF := Lib.hid F
      clear F hdep
      go_simp
      refine HK.out _ _ ⟨?_, HF.out⟩
      all_goals rfl
    · have q10 : d_ 10 = true := by simp [hdep]
      have kk := kl11.out w1 (ch1_or F)
      rw [pk_of q10]
      have HF := Lib.hid F
      clear F hdep
      go_simp
      refine HK.out _ _ ⟨?_, HF.out⟩
      rw [pk_of (show upd d_ 11 10 = true from q10)]
      all_goals rfl
    · have HF := Lib.hid F
      clear F hdep
      go_simp
      refine HK.out _ _ ⟨?_, HF.out⟩
      all_goals rfl
    · have q12 : d_ 12 = true := by simp [hdep]
      have kk := kl13.out w1 (ch1_or F)
      rw [pk_of q12]
      have HF := Lib.hid F
      clear F hdep
      go_simp
      refine HK.out _ _ ⟨?_, HF.out⟩
      rw [pk_of (show upd d_ 13 12 = true from q12)]
      all_goals rfl
    · have q11 : d_ 11 = true := by simp [hdep]
      have q13 : d_ 13 = true := by simp [hdep]
      rw [pk_of q11, pk_of q13]
      have HF := Lib.hid F
      clear F hdep
      go_simp
      refine HK.out _ _ ⟨?_, HF.out⟩
      rw [pk_of (show upd d_ 14 11 = true from q11), pk_of (show upd d_ 14 13 = true from q13)]
      all_goals rfl
    · have q9 : d_ 9 = true := by simp [hdep]
      have q14 : d_ 14 = true := by simp [hdep]
      rw [pk_of q9, pk_of q14]
      have HF := Lib.hid F
      clear F hdep
      go_simp
      refine HK.out _ _ ⟨?_, HF.out⟩
      rw [pk_of (show upd d_ 15 9 = true from q9), pk_of (show upd d_ 15 14 = true from q14)]
      all_goals rfl
    · have q3 : d_ 3 = true := by simp [hdep]
      have q4 : d_ 4 = true := by simp [hdep]
      have hin2 : i < n := hin
      rw [pk_of q3, pk_of q4]
      have HF := Lib.hid F
      clear F hdep
      go_simp
      refine HK.out _ _ ⟨?_, HF.out⟩
      rw [pk_of (show upd d_ 16 3 = true from q3), pk_of (show upd d_ 16 4 = true from q4)]
      all_goals rfl
    · have q15 : d_ 15 = true := by simp [hdep]
      have q16 : d_ 16 = true := by simp [hdep]
      rw [pk_of q15, pk_of q16]
      obtain ⟨hP, hN⟩ := ch1_s1 F hd_
      obtain ⟨⟨u0, c0⟩, z0, ⟨u1, c1⟩, z1, hR⟩ := ks17.out w1 hP
      have HF := Lib.hid (hN _ hR)
      clear F hP hR hN hdep
      go_simp
      have HG := HF.out
      refine HK.out _ _ ⟨?_, HG⟩
      rw [pk_of (show upd d_ 17 15 = true from q15), pk_of (show upd d_ 17 16 = true from q16)]
      all_goals rfl
  · rintro d_ a_ w1 hall ⟨rfl, F⟩
    have hall' : ∀ k, k < 18 → d_ k = true := hall
    rw [hall' 17 (by decide)] at F
    have HF := Lib.hid F
    clear F
    rw [pk_of (hall' 0 (by decide)), pk_of (hall' 1 (by decide)), pk_of (hall' 2 (by decide)), pk_of (hall' 3 (by decide)), pk_of (hall' 4 (by decide)), pk_of (hall' 5 (by decide)), pk_of (hall' 6 (by decide)), pk_of (hall' 7 (by decide)), pk_of (hall' 8 (by decide)), pk_of (hall' 9 (by decide)), pk_of (hall' 10 (by decide)), pk_of (hall' 11 (by decide)), pk_of (hall' 12 (by decide)), pk_of (hall' 13 (by decide)), pk_of (hall' 14 (by decide)), pk_of (hall' 15 (by decide)), pk_of (hall' 16 (by decide))]
    exact HQ.out w1 HF.out
noncomputable def sel3C : Code := (Try.f108.body.bind (regionAt 3)).getD .skip
set_option maxRecDepth 100000 in
set_option maxHeartbeats 8000000 in
theorem sel3 {g bd i : Nat} {x y k : Int} {P0 P1 P2 : World → Prop} {Q : Exit → Act → World → Prop} {W1 : World}  (h0 : P0 W1.drew)
    (kl5 : Hid (∀ w : World, (P0 w) → w.cell? ⟨g, i * 2, none⟩ = some (.int .i64 (x))))
    (kl7 : Hid (∀ w : World, (P0 w ∨ P1 w ∨ P2 w) → w.cell? ⟨bd, 4, none⟩ = some (.int .i64 (k))))
    (kl12 : Hid (∀ w : World, (P0 w) → w.cell? ⟨g, i * 2 + 1, none⟩ = some (.int .i64 (y))))
    (kl14 : Hid (∀ w : World, (P0 w ∨ P1 w ∨ P2 w) → w.cell? ⟨bd, 4, none⟩ = some (.int .i64 (k))))
    (ks18 : Hid (∀ w : World, P0 w → (∃ u, w.cell? ⟨g, i * 2, none⟩ = some u) ∧ w.frozen? ⟨g, i * 2, none⟩ = false ∧ P1 (w.setCell ⟨g, i * 2, none⟩ (.int .i64 (IntKind.i64.wrap (x - k))))))
    (ks21 : Hid (∀ w : World, P1 w → (∃ u, w.cell? ⟨g, i * 2 + 1, none⟩ = some u) ∧ w.frozen? ⟨g, i * 2 + 1, none⟩ = false ∧ P2 (w.setCell ⟨g, i * 2 + 1, none⟩ (.int .i64 (IntKind.i64.wrap (y - k))))))
    {s0 s1 s2 s3 s4 s7 s8 s9 s10 s11 s12 s13 s14 s15 s16 s17 s18 s19 s20 s21 s22 s23 s24 s25 s26 s27 s28 s29 s30 s31 s32 s33 s34 s35 s36 s37 s38 s39 s40 s41 s42 s43 s44 s45 s46 s47 s48 s49 s50 : Value} {dd : List Deferred}
    (hQ : ∀ w' : World, P2 w' → Q .normal { tmps := #[s0,s1,s2,s3,s4,.pointer (some ⟨bd, 0, none⟩),.pointer (some ⟨g, i * 2, none⟩),s7,s8,s9,s10,s11,s12,s13,s14,s15,s16,s17,s18,s19,s20,s21,.pointer (some ⟨g, i * 2, none⟩),.pointer (some ⟨g, i * 2, none⟩),.pointer (some ⟨g, i * 2, none⟩),.pointer (some ⟨g, i * 2, none⟩),.pointer (some ⟨g, i * 2, none⟩),.int .i64 (x),.pointer (some ⟨bd, 4, none⟩),.int .i64 (k),.int .i64 (IntKind.i64.wrap (x - k)),.pointer (some ⟨g, i * 2, none⟩),.pointer (some ⟨g, i * 2, none⟩),.pointer (some ⟨g, i * 2 + 1, none⟩),.int .i64 (y),.pointer (some ⟨bd, 4, none⟩),.int .i64 (k),.int .i64 (IntKind.i64.wrap (y - k)),.pointer (some ⟨g, i * 2, none⟩),.pointer (some ⟨g, i * 2, none⟩),.pointer (some ⟨g, i * 2, none⟩),.pointer (some ⟨g, i * 2 + 1, none⟩),s42,s43,s44,s45,s46,s47,s48,s49,s50],defers := dd } w') :
    Code.wpIn (wideAt none) 0 Try.prog sel3C Q { tmps := #[s0,s1,s2,s3,s4,.pointer (some ⟨bd, 0, none⟩),.pointer (some ⟨g, i * 2, none⟩),s7,s8,s9,s10,s11,s12,s13,s14,s15,s16,s17,s18,s19,s20,s21,s22,s23,s24,s25,s26,s27,s28,s29,s30,s31,s32,s33,s34,s35,s36,s37,s38,s39,s40,s41,s42,s43,s44,s45,s46,s47,s48,s49,s50],defers := dd } W1 := by
  have HQ := Lib.hid hQ
  clear hQ
  conv => arg 4; whnf
  refine wpIn_region_invG mixed (by kernel_rfl) (fun d_ a_ w' => a_ = { tmps := #[s0,s1,s2,s3,s4,.pointer (some ⟨bd, 0, none⟩),.pointer (some ⟨g, i * 2, none⟩),s7,s8,s9,s10,s11,s12,s13,s14,s15,s16,s17,s18,s19,s20,s21,pk (d_ 0) (.pointer (some ⟨g, i * 2, none⟩)) s22,pk (d_ 1) (.pointer (some ⟨g, i * 2, none⟩)) s23,pk (d_ 2) (.pointer (some ⟨g, i * 2, none⟩)) s24,pk (d_ 3) (.pointer (some ⟨g, i * 2, none⟩)) s25,pk (d_ 4) (.pointer (some ⟨g, i * 2, none⟩)) s26,pk (d_ 5) (.int .i64 (x)) s27,pk (d_ 6) (.pointer (some ⟨bd, 4, none⟩)) s28,pk (d_ 7) (.int .i64 (k)) s29,pk (d_ 8) (.int .i64 (IntKind.i64.wrap (x - k))) s30,pk (d_ 9) (.pointer (some ⟨g, i * 2, none⟩)) s31,pk (d_ 10) (.pointer (some ⟨g, i * 2, none⟩)) s32,pk (d_ 11) (.pointer (some ⟨g, i * 2 + 1, none⟩)) s33,pk (d_ 12) (.int .i64 (y)) s34,pk (d_ 13) (.pointer (some ⟨bd, 4, none⟩)) s35,pk (d_ 14) (.int .i64 (k)) s36,pk (d_ 15) (.int .i64 (IntKind.i64.wrap (y - k))) s37,pk (d_ 16) (.pointer (some ⟨g, i * 2, none⟩)) s38,pk (d_ 17) (.pointer (some ⟨g, i * 2, none⟩)) s39,pk (d_ 19) (.pointer (some ⟨g, i * 2, none⟩)) s40,pk (d_ 20) (.pointer (some ⟨g, i * 2 + 1, none⟩)) s41,s42,s43,s44,s45,s46,s47,s48,s49,s50],defers := dd } ∧ ch2 P0 P1 P2 (d_ 18) (d_ 21) w' ∧ OrdP [[], [], [], [2], [3], [4], [], [6], [5, 7], [], [9], [10], [11], [], [13], [12, 14], [0, 2, 3, 4, 5, 6, 7, 8, 12], [0, 2, 3, 4, 5, 6, 7, 8, 12, 16], [0, 2, 3, 4, 5, 6, 7, 8, 12, 17], [0, 1, 2, 3, 4, 5, 6, 7, 8, 9, 10, 11, 12, 13, 14, 15, 16, 17, 18], [0, 1, 2, 3, 4, 5, 6, 7, 8, 9, 10, 11, 12, 13, 14, 15, 16, 17, 18, 19], [0, 1, 2, 3, 4, 5, 6, 7, 8, 9, 10, 11, 12, 13, 14, 15, 16, 17, 18, 20]] d_) ?_ ?_ ?_
  · exact ⟨rfl, h0, fun k h => by cases h⟩
  · refine ⟨?_,?_,?_,?_,?_,?_,?_,?_,?_,?_,?_,?_,?_,?_,?_,?_,?_,?_,?_,?_,?_,?_, trivial⟩
    all_goals
      rintro d_ a_ w1 K hd_ hdep ⟨rfl, F, O⟩ HK
      simp [Region.binds] at hdep
    · have HO : Hid (OrdP [[], [], [], [2], [3], [4], [], [6], [5, 7], [], [9], [10], [11], [], [13], [12, 14], [0, 2, 3, 4, 5, 6, 7, 8, 12], [0, 2, 3, 4, 5, 6, 7, 8, 12, 16], [0, 2, 3, 4, 5, 6, 7, 8, 12, 17], [0, 1, 2, 3, 4, 5, 6, 7, 8, 9, 10, 11, 12, 13, 14, 15, 16, 17, 18], [0, 1, 2, 3, 4, 5, 6, 7, 8, 9, 10, 11, 12, 13, 14, 15, 16, 17, 18, 19], [0, 1, 2, 3, 4, 5, 6, 7, 8, 9, 10, 11, 12, 13, 14, 15, 16, 17, 18, 20]] (upd d_ 0)) := O.step (show ∀ e ∈ ([] : List Nat), d_ e = true by simp [hdep])
      clear O
      have HF := Lib.hid F
      clear F hdep
      go_simp
      refine HK.out _ _ ⟨?_, HF.out, HO.out⟩
      all_goals rfl
    · have HO : Hid (OrdP [[], [], [], [2], [3], [4], [], [6], [5, 7], [], [9], [10], [11], [], [13], [12, 14], [0, 2, 3, 4, 5, 6, 7, 8, 12], [0, 2, 3, 4, 5, 6, 7, 8, 12, 16], [0, 2, 3, 4, 5, 6, 7, 8, 12, 17], [0, 1, 2, 3, 4, 5, 6, 7, 8, 9, 10, 11, 12, 13, 14, 15, 16, 17, 18], [0, 1, 2, 3, 4, 5, 6, 7, 8, 9, 10, 11, 12, 13, 14, 15, 16, 17, 18, 19], [0, 1, 2, 3, 4, 5, 6, 7, 8, 9, 10, 11, 12, 13, 14, 15, 16, 17, 18, 20]] (upd d_ 1)) := O.step (show ∀ e ∈ ([] : List Nat), d_ e = true by simp [hdep])
      clear O
      have HF := Lib.hid F
      clear F hdep
      go_simp
      refine HK.out _ _ ⟨?_, HF.out, HO.out⟩
      all_goals rfl
    · have HO : Hid (OrdP [[], [], [], [2], [3], [4], [], [6], [5, 7], [], [9], [10], [11], [], [13], [12, 14], [0, 2, 3, 4, 5, 6, 7, 8, 12], [0, 2, 3, 4, 5, 6, 7, 8, 12, 16], [0, 2, 3, 4, 5, 6, 7, 8, 12, 17], [0, 1, 2, 3, 4, 5, 6, 7, 8, 9, 10, 11, 12, 13, 14, 15, 16, 17, 18], [0, 1, 2, 3, 4, 5, 6, 7, 8, 9, 10, 11, 12, 13, 14, 15, 16, 17, 18, 19], [0, 1, 2, 3, 4, 5, 6, 7, 8, 9, 10, 11, 12, 13, 14, 15, 16, 17, 18, 20]] (upd d_ 2)) := O.step (show ∀ e ∈ ([] : List Nat), d_ e = true by simp [hdep])
      clear O
      have HF := Lib.hid F
      clear F hdep
      go_simp
      refine HK.out _ _ ⟨?_, HF.out, HO.out⟩
      all_goals rfl
    · have HO : Hid (OrdP [[], [], [], [2], [3], [4], [], [6], [5, 7], [], [9], [10], [11], [], [13], [12, 14], [0, 2, 3, 4, 5, 6, 7, 8, 12], [0, 2, 3, 4, 5, 6, 7, 8, 12, 16], [0, 2, 3, 4, 5, 6, 7, 8, 12, 17], [0, 1, 2, 3, 4, 5, 6, 7, 8, 9, 10, 11, 12, 13, 14, 15, 16, 17, 18], [0, 1, 2, 3, 4, 5, 6, 7, 8, 9, 10, 11, 12, 13, 14, 15, 16, 17, 18, 19], [0, 1, 2, 3, 4, 5, 6, 7, 8, 9, 10, 11, 12, 13, 14, 15, 16, 17, 18, 20]] (upd d_ 3)) := O.step (show ∀ e ∈ ([2] : List Nat), d_ e = true by simp [hdep])
      have q2 : d_ 2 = true := by simp [hdep]
      clear O
      rw [pk_of q2]
      have HF := Lib.hid F
      clear F hdep
      go_simp
      refine HK.out _ _ ⟨?_, HF.out, HO.out⟩
      rw [pk_of (show upd d_ 3 2 = true from q2)]
      all_goals rfl
    · have HO : Hid (OrdP [[], [], [], [2], [3], [4], [], [6], [5, 7], [], [9], [10], [11], [], [13], [12, 14], [0, 2, 3, 4, 5, 6, 7, 8, 12], [0, 2, 3, 4, 5, 6, 7, 8, 12, 16], [0, 2, 3, 4, 5, 6, 7, 8, 12, 17], [0, 1, 2, 3, 4, 5, 6, 7, 8, 9, 10, 11, 12, 13, 14, 15, 16, 17, 18], [0, 1, 2, 3, 4, 5, 6, 7, 8, 9, 10, 11, 12, 13, 14, 15, 16, 17, 18, 19], [0, 1, 2, 3, 4, 5, 6, 7, 8, 9, 10, 11, 12, 13, 14, 15, 16, 17, 18, 20]] (upd d_ 4)) := O.step (show ∀ e ∈ ([3] : List Nat), d_ e = true by simp [hdep])
      have q3 : d_ 3 = true := by simp [hdep]
      clear O
      rw [pk_of q3]
      have HF := Lib.hid F
      clear F hdep
      go_simp
      refine HK.out _ _ ⟨?_, HF.out, HO.out⟩
      rw [pk_of (show upd d_ 4 3 = true from q3)]
      all_goals rfl
    · have HO : Hid (OrdP [[], [], [], [2], [3], [4], [], [6], [5, 7], [], [9], [10], [11], [], [13], [12, 14], [0, 2, 3, 4, 5, 6, 7, 8, 12], [0, 2, 3, 4, 5, 6, 7, 8, 12, 16], [0, 2, 3, 4, 5, 6, 7, 8, 12, 17], [0, 1, 2, 3, 4, 5, 6, 7, 8, 9, 10, 11, 12, 13, 14, 15, 16, 17, 18], [0, 1, 2, 3, 4, 5, 6, 7, 8, 9, 10, 11, 12, 13, 14, 15, 16, 17, 18, 19], [0, 1, 2, 3, 4, 5, 6, 7, 8, 9, 10, 11, 12, 13, 14, 15, 16, 17, 18, 20]] (upd d_ 5)) := O.step (show ∀ e ∈ ([4] : List Nat), d_ e = true by simp [hdep])
      have q4 : d_ 4 = true := by simp [hdep]
      have F2 := F
      have n_ : d_ 18 = false := by
        cases e_ : d_ 18 with
        | false => rfl
        | true => have h2 := (O 18 e_ 5 (by decide)); rw [show d_ 5 = false from hd_] at h2; cases h2
      rw [n_] at F2
      have kk := kl5.out w1 (by
        have h3 := ch2_or F2
        cases e21_ : d_ 21 <;> simp_all [ch2])
      clear F2
      clear n_
      clear O
      rw [pk_of q4]
      have HF := Lib.hid F
      clear F hdep
      go_simp
      refine HK.out _ _ ⟨?_, HF.out, HO.out⟩
      rw [pk_of (show upd d_ 5 4 = true from q4)]
      all_goals rfl
    · have HO : Hid (OrdP [[], [], [], [2], [3], [4], [], [6], [5, 7], [], [9], [10], [11], [], [13], [12, 14], [0, 2, 3, 4, 5, 6, 7, 8, 12], [0, 2, 3, 4, 5, 6, 7, 8, 12, 16], [0, 2, 3, 4, 5, 6, 7, 8, 12, 17], [0, 1, 2, 3, 4, 5, 6, 7, 8, 9, 10, 11, 12, 13, 14, 15, 16, 17, 18], [0, 1, 2, 3, 4, 5, 6, 7, 8, 9, 10, 11, 12, 13, 14, 15, 16, 17, 18, 19], [0, 1, 2, 3, 4, 5, 6, 7, 8, 9, 10, 11, 12, 13, 14, 15, 16, 17, 18, 20]] (upd d_ 6)) := O.step (show ∀ e ∈ ([] : List Nat), d_ e = true by simp [hdep])
      clear O
      have HF := Lib.hid F
      clear F hdep
      go_simp
      refine HK.out _ _ ⟨?_, HF.out, HO.out⟩
      all_goals rfl
    · have HO : Hid (OrdP [[], [], [], [2], [3], [4], [], [6], [5, 7], [], [9], [10], [11], [], [13], [12, 14], [0, 2, 3, 4, 5, 6, 7, 8, 12], [0, 2, 3, 4, 5, 6, 7, 8, 12, 16], [0, 2, 3, 4, 5, 6, 7, 8, 12, 17], [0, 1, 2, 3, 4, 5, 6, 7, 8, 9, 10, 11, 12, 13, 14, 15, 16, 17, 18], [0, 1, 2, 3, 4, 5, 6, 7, 8, 9, 10, 11, 12, 13, 14, 15, 16, 17, 18, 19], [0, 1, 2, 3, 4, 5, 6, 7, 8, 9, 10, 11, 12, 13, 14, 15, 16, 17, 18, 20]] (upd d_ 7)) := O.step (show ∀ e ∈ ([6] : List Nat), d_ e = true by simp [hdep])
      have q6 : d_ 6 = true := by simp [hdep]
      have kk := kl7.out w1 (ch2_or F)
      clear O
      rw [pk_of q6]
      have HF := Lib.hid F
      clear F hdep
      go_simp
      refine HK.out _ _ ⟨?_, HF.out, HO.out⟩
      rw [pk_of (show upd d_ 7 6 = true from q6)]
      all_goals rfl
    · have HO : Hid (OrdP [[], [], [], [2], [3], [4], [], [6], [5, 7], [], [9], [10], [11], [], [13], [12, 14], [0, 2, 3, 4, 5, 6, 7, 8, 12], [0, 2, 3, 4, 5, 6, 7, 8, 12, 16], [0, 2, 3, 4, 5, 6, 7, 8, 12, 17], [0, 1, 2, 3, 4, 5, 6, 7, 8, 9, 10, 11, 12, 13, 14, 15, 16, 17, 18], [0, 1, 2, 3, 4, 5, 6, 7, 8, 9, 10, 11, 12, 13, 14, 15, 16, 17, 18, 19], [0, 1, 2, 3, 4, 5, 6, 7, 8, 9, 10, 11, 12, 13, 14, 15, 16, 17, 18, 20]] (upd d_ 8)) := O.step (show ∀ e ∈ ([5, 7] : List Nat), d_ e = true by simp [hdep])
      have q5 : d_ 5 = true := by simp [hdep]
      have q7 : d_ 7 = true := by simp [hdep]
      clear O
      rw [pk_of q5, pk_of q7]
      have HF := Lib.hid F
      clear F hdep
      go_simp
      refine HK.out _ _ ⟨?_, HF.out, HO.out⟩
      rw [pk_of (show upd d_ 8 5 = true from q5), pk_of (show upd d_ 8 7 = true from q7)]
      all_goals rfl
    · have HO : Hid (OrdP [[], [], [], [2], [3], [4], [], [6], [5, 7], [], [9], [10], [11], [], [13], [12, 14], [0, 2, 3, 4, 5, 6, 7, 8, 12], [0, 2, 3, 4, 5, 6, 7, 8, 12, 16], [0, 2, 3, 4, 5, 6, 7, 8, 12, 17], [0, 1, 2, 3, 4, 5, 6, 7, 8, 9, 10, 11, 12, 13, 14, 15, 16, 17, 18], [0, 1, 2, 3, 4, 5, 6, 7, 8, 9, 10, 11, 12, 13, 14, 15, 16, 17, 18, 19], [0, 1, 2, 3, 4, 5, 6, 7, 8, 9, 10, 11, 12, 13, 14, 15, 16, 17, 18, 20]] (upd d_ 9)) := O.step (show ∀ e ∈ ([] : List Nat), d_ e = true by simp [hdep])
      clear O
      have HF := Lib.hid F
      clear F hdep
      go_simp
      refine HK.out _ _ ⟨?_, HF.out, HO.out⟩
      all_goals rfl
    · have HO : Hid (OrdP [[], [], [], [2], [3], [4], [], [6], [5, 7], [], [9], [10], [11], [], [13], [12, 14], [0, 2, 3, 4, 5, 6, 7, 8, 12], [0, 2, 3, 4, 5, 6, 7, 8, 12, 16], [0, 2, 3, 4, 5, 6, 7, 8, 12, 17], [0, 1, 2, 3, 4, 5, 6, 7, 8, 9, 10, 11, 12, 13, 14, 15, 16, 17, 18], [0, 1, 2, 3, 4, 5, 6, 7, 8, 9, 10, 11, 12, 13, 14, 15, 16, 17, 18, 19], [0, 1, 2, 3, 4, 5, 6, 7, 8, 9, 10, 11, 12, 13, 14, 15, 16, 17, 18, 20]] (upd d_ 10)) := O.step (show ∀ e ∈ ([9] : List Nat), d_ e = true by simp [hdep])
      have q9 : d_ 9 = true := by simp [hdep]
      clear O
      rw [pk_of q9]
      have HF := Lib.hid F
      clear F hdep
      go_simp
      refine HK.out _ _ ⟨?_, HF.out, HO.out⟩
      rw [pk_of (show upd d_ 10 9 = true from q9)]
      all_goals rfl
    · have HO : Hid (OrdP [[], [], [], [2], [3], [4], [], [6], [5, 7], [], [9], [10], [11], [], [13], [12, 14], [0, 2, 3, 4, 5, 6, 7, 8, 12], [0, 2, 3, 4, 5, 6, 7, 8, 12, 16], [0, 2, 3, 4, 5, 6, 7, 8, 12, 17], [0, 1, 2, 3, 4, 5, 6, 7, 8, 9, 10, 11, 12, 13, 14, 15, 16, 17, 18], [0, 1, 2, 3, 4, 5, 6, 7, 8, 9, 10, 11, 12, 13, 14, 15, 16, 17, 18, 19], [0, 1, 2, 3, 4, 5, 6, 7, 8, 9, 10, 11, 12, 13, 14, 15, 16, 17, 18, 20]] (upd d_ 11)) := O.step (show ∀ e ∈ ([10] : List Nat), d_ e = true by simp [hdep])
      have q10 : d_ 10 = true := by simp [hdep]
      clear O
      rw [pk_of q10]
      have HF := Lib.hid F
      clear F hdep
      go_simp
      refine HK.out _ _ ⟨?_, HF.out, HO.out⟩
      rw [pk_of (show upd d_ 11 10 = true from q10)]
      all_goals rfl
    · have HO : Hid (OrdP [[], [], [], [2], [3], [4], [], [6], [5, 7], [], [9], [10], [11], [], [13], [12, 14], [0, 2, 3, 4, 5, 6, 7, 8, 12], [0, 2, 3, 4, 5, 6, 7, 8, 12, 16], [0, 2, 3, 4, 5, 6, 7, 8, 12, 17], [0, 1, 2, 3, 4, 5, 6, 7, 8, 9, 10, 11, 12, 13, 14, 15, 16, 17, 18], [0, 1, 2, 3, 4, 5, 6, 7, 8, 9, 10, 11, 12, 13, 14, 15, 16, 17, 18, 19], [0, 1, 2, 3, 4, 5, 6, 7, 8, 9, 10, 11, 12, 13, 14, 15, 16, 17, 18, 20]] (upd d_ 12)) := O.step (show ∀ e ∈ ([11] : List Nat), d_ e = true by simp [hdep])
      have q11 : d_ 11 = true := by simp [hdep]
      have F2 := F
      have n_ : d_ 18 = false := by
        cases e_ : d_ 18 with
        | false => rfl
        | true => have h2 := (O 18 e_ 12 (by decide)); rw [show d_ 12 = false from hd_] at h2; cases h2
      rw [n_] at F2
      have kk := kl12.out w1 (by
        have h3 := ch2_or F2
        cases e21_ : d_ 21 <;> simp_all [ch2])
      clear F2
      clear n_
      clear O
      rw [pk_of q11]
      have HF := Lib.hid F
      clear F hdep
      go_simp
      refine HK.out _ _ ⟨?_, HF.out, HO.out⟩
      rw [pk_of (show upd d_ 12 11 = true from q11)]
      all_goals rfl
    · have HO : Hid (OrdP [[], [], [], [2], [3], [4], [], [6], [5, 7], [], [9], [10], [11], [], [13], [12, 14], [0, 2, 3, 4, 5, 6, 7, 8, 12], [0, 2, 3, 4, 5, 6, 7, 8, 12, 16], [0, 2, 3, 4, 5, 6, 7, 8, 12, 17], [0, 1, 2, 3, 4, 5, 6, 7, 8, 9, 10, 11, 12, 13, 14, 15, 16, 17, 18], [0, 1, 2, 3, 4, 5, 6, 7, 8, 9, 10, 11, 12, 13, 14, 15, 16, 17, 18, 19], [0, 1, 2, 3, 4, 5, 6, 7, 8, 9, 10, 11, 12, 13, 14, 15, 16, 17, 18, 20]] (upd d_ 13)) := O.step (show ∀ e ∈ ([] : List Nat), d_ e = true by simp [hdep])
      clear O
      have HF := Lib.hid F
      clear F hdep
      go_simp
      refine HK.out _ _ ⟨?_, HF.out, HO.out⟩
      all_goals rfl
    · have HO : Hid (OrdP [[], [], [], [2], [3], [4], [], [6], [5, 7], [], [9], [10], [11], [], [13], [12, 14], [0, 2, 3, 4, 5, 6, 7, 8, 12], [0, 2, 3, 4, 5, 6, 7, 8, 12, 16], [0, 2, 3, 4, 5, 6, 7, 8, 12, 17], [0, 1, 2, 3, 4, 5, 6, 7, 8, 9, 10, 11, 12, 13, 14, 15, 16, 17, 18], [0, 1, 2, 3, 4, 5, 6, 7, 8, 9, 10, 11, 12, 13, 14, 15, 16, 17, 18, 19], [0, 1, 2, 3, 4, 5, 6, 7, 8, 9, 10, 11, 12, 13, 14, 15, 16, 17, 18, 20]] (upd d_ 14)) := O.step (show ∀ e ∈ ([13] : List Nat), d_ e = true by simp [hdep])
      have q13 : d_ 13 = true := by simp [hdep]
      have kk := kl14.out w1 (ch2_or F)
      clear O
      rw [pk_of q13]
      have HF := Lib.hid F
      clear F hdep
      go_simp
      refine HK.out _ _ ⟨?_, HF.out, HO.out⟩
      rw [pk_of (show upd d_ 14 13 = true from q13)]
      all_goals rfl
    · have HO : Hid (OrdP [[], [], [], [2], [3], [4], [], [6], [5, 7], [], [9], [10], [11], [], [13], [12, 14], [0, 2, 3, 4, 5, 6, 7, 8, 12], [0, 2, 3, 4, 5, 6, 7, 8, 12, 16], [0, 2, 3, 4, 5, 6, 7, 8, 12, 17], [0, 1, 2, 3, 4, 5, 6, 7, 8, 9, 10, 11, 12, 13, 14, 15, 16, 17, 18], [0, 1, 2, 3, 4, 5, 6, 7, 8, 9, 10, 11, 12, 13, 14, 15, 16, 17, 18, 19], [0, 1, 2, 3, 4, 5, 6, 7, 8, 9, 10, 11, 12, 13, 14, 15, 16, 17, 18, 20]] (upd d_ 15)) := O.step (show ∀ e ∈ ([12, 14] : List Nat), d_ e = true by simp [hdep])
      have q12 : d_ 12 = true := by simp [hdep]
      have q14 : d_ 14 = true := by simp [hdep]
      clear O
      rw [pk_of q12, pk_of q14]
      have HF := Lib.hid F
      clear F hdep
      go_simp
      refine HK.out _ _ ⟨?_, HF.out, HO.out⟩
      rw [pk_of (show upd d_ 15 12 = true from q12), pk_of (show upd d_ 15 14 = true from q14)]
      all_goals rfl
    · have HO : Hid (OrdP [[], [], [], [2], [3], [4], [], [6], [5, 7], [], [9], [10], [11], [], [13], [12, 14], [0, 2, 3, 4, 5, 6, 7, 8, 12], [0, 2, 3, 4, 5, 6, 7, 8, 12, 16], [0, 2, 3, 4, 5, 6, 7, 8, 12, 17], [0, 1, 2, 3, 4, 5, 6, 7, 8, 9, 10, 11, 12, 13, 14, 15, 16, 17, 18], [0, 1, 2, 3, 4, 5, 6, 7, 8, 9, 10, 11, 12, 13, 14, 15, 16, 17, 18, 19], [0, 1, 2, 3, 4, 5, 6, 7, 8, 9, 10, 11, 12, 13, 14, 15, 16, 17, 18, 20]] (upd d_ 16)) := O.step (show ∀ e ∈ ([0, 2, 3, 4, 5, 6, 7, 8, 12] : List Nat), d_ e = true by simp [hdep])
      have q0 : d_ 0 = true := by simp [hdep]
      clear O
      rw [pk_of q0]
      have HF := Lib.hid F
      clear F hdep
      go_simp
      refine HK.out _ _ ⟨?_, HF.out, HO.out⟩
      rw [pk_of (show upd d_ 16 0 = true from q0)]
      all_goals rfl
    · have HO : Hid (OrdP [[], [], [], [2], [3], [4], [], [6], [5, 7], [], [9], [10], [11], [], [13], [12, 14], [0, 2, 3, 4, 5, 6, 7, 8, 12], [0, 2, 3, 4, 5, 6, 7, 8, 12, 16], [0, 2, 3, 4, 5, 6, 7, 8, 12, 17], [0, 1, 2, 3, 4, 5, 6, 7, 8, 9, 10, 11, 12, 13, 14, 15, 16, 17, 18], [0, 1, 2, 3, 4, 5, 6, 7, 8, 9, 10, 11, 12, 13, 14, 15, 16, 17, 18, 19], [0, 1, 2, 3, 4, 5, 6, 7, 8, 9, 10, 11, 12, 13, 14, 15, 16, 17, 18, 20]] (upd d_ 17)) := O.step (show ∀ e ∈ ([0, 2, 3, 4, 5, 6, 7, 8, 12, 16] : List Nat), d_ e = true by simp [hdep])
      have q16 : d_ 16 = true := by simp [hdep]
      clear O
      rw [pk_of q16]
      have HF := Lib.hid F
      clear F hdep
      go_simp
      refine HK.out _ _ ⟨?_, HF.out, HO.out⟩
      rw [pk_of (show upd d_ 17 16 = true from q16)]
      all_goals rfl
    · have HO : Hid (OrdP [[], [], [], [2], [3], [4], [], [6], [5, 7], [], [9], [10], [11], [], [13], [12, 14], [0, 2, 3, 4, 5, 6, 7, 8, 12], [0, 2, 3, 4, 5, 6, 7, 8, 12, 16], [0, 2, 3, 4, 5, 6, 7, 8, 12, 17], [0, 1, 2, 3, 4, 5, 6, 7, 8, 9, 10, 11, 12, 13, 14, 15, 16, 17, 18], [0, 1, 2, 3, 4, 5, 6, 7, 8, 9, 10, 11, 12, 13, 14, 15, 16, 17, 18, 19], [0, 1, 2, 3, 4, 5, 6, 7, 8, 9, 10, 11, 12, 13, 14, 15, 16, 17, 18, 20]] (upd d_ 18)) := O.step (show ∀ e ∈ ([0, 2, 3, 4, 5, 6, 7, 8, 12, 17] : List Nat), d_ e = true by simp [hdep])
      have q8 : d_ 8 = true := by simp [hdep]
      have q17 : d_ 17 = true := by simp [hdep]
      clear O
      rw [pk_of q8, pk_of q17]
      obtain ⟨hP, hN⟩ := ch2_s1 F hd_
      obtain ⟨⟨u0, c0⟩, z0, hR⟩ := ks18.out w1 hP
      have HF := Lib.hid (hN _ hR)
      clear F hP hR hN hdep
      go_simp
      have HG := HF.out
      refine HK.out _ _ ⟨?_, HG, HO.out⟩
      rw [pk_of (show upd d_ 18 8 = true from q8), pk_of (show upd d_ 18 17 = true from q17)]
      all_goals rfl
    · have HO : Hid (OrdP [[], [], [], [2], [3], [4], [], [6], [5, 7], [], [9], [10], [11], [], [13], [12, 14], [0, 2, 3, 4, 5, 6, 7, 8, 12], [0, 2, 3, 4, 5, 6, 7, 8, 12, 16], [0, 2, 3, 4, 5, 6, 7, 8, 12, 17], [0, 1, 2, 3, 4, 5, 6, 7, 8, 9, 10, 11, 12, 13, 14, 15, 16, 17, 18], [0, 1, 2, 3, 4, 5, 6, 7, 8, 9, 10, 11, 12, 13, 14, 15, 16, 17, 18, 19], [0, 1, 2, 3, 4, 5, 6, 7, 8, 9, 10, 11, 12, 13, 14, 15, 16, 17, 18, 20]] (upd d_ 19)) := O.step (show ∀ e ∈ ([0, 1, 2, 3, 4, 5, 6, 7, 8, 9, 10, 11, 12, 13, 14, 15, 16, 17, 18] : List Nat), d_ e = true by simp [hdep])
      have q1 : d_ 1 = true := by simp [hdep]
      clear O
      rw [pk_of q1]
      have HF := Lib.hid F
      clear F hdep
      go_simp
      refine HK.out _ _ ⟨?_, HF.out, HO.out⟩
      rw [pk_of (show upd d_ 19 1 = true from q1)]
      all_goals rfl
    · have HO : Hid (OrdP [[], [], [], [2], [3], [4], [], [6], [5, 7], [], [9], [10], [11], [], [13], [12, 14], [0, 2, 3, 4, 5, 6, 7, 8, 12], [0, 2, 3, 4, 5, 6, 7, 8, 12, 16], [0, 2, 3, 4, 5, 6, 7, 8, 12, 17], [0, 1, 2, 3, 4, 5, 6, 7, 8, 9, 10, 11, 12, 13, 14, 15, 16, 17, 18], [0, 1, 2, 3, 4, 5, 6, 7, 8, 9, 10, 11, 12, 13, 14, 15, 16, 17, 18, 19], [0, 1, 2, 3, 4, 5, 6, 7, 8, 9, 10, 11, 12, 13, 14, 15, 16, 17, 18, 20]] (upd d_ 20)) := O.step (show ∀ e ∈ ([0, 1, 2, 3, 4, 5, 6, 7, 8, 9, 10, 11, 12, 13, 14, 15, 16, 17, 18, 19] : List Nat), d_ e = true by simp [hdep])
      have q19 : d_ 19 = true := by simp [hdep]
      clear O
      rw [pk_of q19]
      have HF := Lib.hid F
      clear F hdep
      go_simp
      refine HK.out _ _ ⟨?_, HF.out, HO.out⟩
      rw [pk_of (show upd d_ 20 19 = true from q19)]
      all_goals rfl
    · have HO : Hid (OrdP [[], [], [], [2], [3], [4], [], [6], [5, 7], [], [9], [10], [11], [], [13], [12, 14], [0, 2, 3, 4, 5, 6, 7, 8, 12], [0, 2, 3, 4, 5, 6, 7, 8, 12, 16], [0, 2, 3, 4, 5, 6, 7, 8, 12, 17], [0, 1, 2, 3, 4, 5, 6, 7, 8, 9, 10, 11, 12, 13, 14, 15, 16, 17, 18], [0, 1, 2, 3, 4, 5, 6, 7, 8, 9, 10, 11, 12, 13, 14, 15, 16, 17, 18, 19], [0, 1, 2, 3, 4, 5, 6, 7, 8, 9, 10, 11, 12, 13, 14, 15, 16, 17, 18, 20]] (upd d_ 21)) := O.step (show ∀ e ∈ ([0, 1, 2, 3, 4, 5, 6, 7, 8, 9, 10, 11, 12, 13, 14, 15, 16, 17, 18, 20] : List Nat), d_ e = true by simp [hdep])
      have q15 : d_ 15 = true := by simp [hdep]
      have q20 : d_ 20 = true := by simp [hdep]
      clear O
      rw [pk_of q15, pk_of q20]
      obtain ⟨hP, hN⟩ := ch2_s2 F (show d_ 18 = true by simp [hdep]) hd_
      obtain ⟨⟨u0, c0⟩, z0, hR⟩ := ks21.out w1 hP
      have HF := Lib.hid (hN _ hR)
      clear F hP hR hN hdep
      go_simp
      have HG := HF.out
      refine HK.out _ _ ⟨?_, HG, HO.out⟩
      rw [pk_of (show upd d_ 21 15 = true from q15), pk_of (show upd d_ 21 20 = true from q20)]
      all_goals rfl
  · rintro d_ a_ w1 hall ⟨rfl, F, O⟩
    have hall' : ∀ k, k < 22 → d_ k = true := hall
    rw [hall' 18 (by decide), hall' 21 (by decide)] at F
    have HF := Lib.hid F
    clear F
    rw [pk_of (hall' 0 (by decide)), pk_of (hall' 1 (by decide)), pk_of (hall' 2 (by decide)), pk_of (hall' 3 (by decide)), pk_of (hall' 4 (by decide)), pk_of (hall' 5 (by decide)), pk_of (hall' 6 (by decide)), pk_of (hall' 7 (by decide)), pk_of (hall' 8 (by decide)), pk_of (hall' 9 (by decide)), pk_of (hall' 10 (by decide)), pk_of (hall' 11 (by decide)), pk_of (hall' 12 (by decide)), pk_of (hall' 13 (by decide)), pk_of (hall' 14 (by decide)), pk_of (hall' 15 (by decide)), pk_of (hall' 16 (by decide)), pk_of (hall' 17 (by decide)), pk_of (hall' 19 (by decide)), pk_of (hall' 20 (by decide))]
    exact HQ.out w1 HF.out
noncomputable def sel4C : Code := (Try.f108.body.bind (regionAt 4)).getD .skip
set_option maxRecDepth 100000 in
set_option maxHeartbeats 8000000 in
theorem sel4 {bs bd : Nat} {m c : Int} {P0 P1 : World → Prop} {Q : Exit → Act → World → Prop} {W1 : World}  (h0 : P0 W1.drew)
    (kl3 : Hid (∀ w : World, (P0 w) → w.cell? ⟨bs, 1, none⟩ = some (.int .i64 (m))))
    (kl5 : Hid (∀ w : World, (P0 w ∨ P1 w) → w.cell? ⟨bd, 5, none⟩ = some (.int .i64 (c))))
    (ks9 : Hid (∀ w : World, P0 w → (∃ u, w.cell? ⟨bs, 1, none⟩ = some u) ∧ w.frozen? ⟨bs, 1, none⟩ = false ∧ P1 (w.setCell ⟨bs, 1, none⟩ (.int .i64 (IntKind.i64.wrap (m + c))))))
    {s0 s2 s3 s4 s6 s7 s8 s9 s10 s11 s12 s13 s14 s15 s16 s17 s18 s19 s20 s21 s22 s23 s24 s25 s26 s27 s28 s29 s30 s31 s32 s33 s34 s35 s36 s37 s38 s39 s40 s41 s42 s43 s44 s45 s46 s47 s48 s49 s50 : Value} {dd : List Deferred}
    (hQ : ∀ w' : World, P1 w' → Q .normal { tmps := #[s0,.pointer (some ⟨bs, 0, none⟩),s2,s3,s4,.pointer (some ⟨bd, 0, none⟩),s6,s7,s8,s9,s10,s11,s12,s13,s14,s15,s16,s17,s18,s19,s20,s21,s22,s23,s24,s25,s26,s27,s28,s29,s30,s31,s32,s33,s34,s35,s36,s37,s38,s39,s40,s41,.pointer (some ⟨bs, 0, none⟩),.pointer (some ⟨bs, 0, none⟩),.pointer (some ⟨bs, 1, none⟩),.int .i64 (m),.pointer (some ⟨bd, 5, none⟩),.int .i64 (c),.int .i64 (IntKind.i64.wrap (m + c)),.pointer (some ⟨bs, 0, none⟩),.pointer (some ⟨bs, 1, none⟩)],defers := dd } w') :
    Code.wpIn (wideAt none) 0 Try.prog sel4C Q { tmps := #[s0,.pointer (some ⟨bs, 0, none⟩),s2,s3,s4,.pointer (some ⟨bd, 0, none⟩),s6,s7,s8,s9,s10,s11,s12,s13,s14,s15,s16,s17,s18,s19,s20,s21,s22,s23,s24,s25,s26,s27,s28,s29,s30,s31,s32,s33,s34,s35,s36,s37,s38,s39,s40,s41,s42,s43,s44,s45,s46,s47,s48,s49,s50],defers := dd } W1 := by
  have HQ := Lib.hid hQ
  clear hQ
  conv => arg 4; whnf
  refine wpIn_region_invG mixed (by kernel_rfl) (fun d_ a_ w' => a_ = { tmps := #[s0,.pointer (some ⟨bs, 0, none⟩),s2,s3,s4,.pointer (some ⟨bd, 0, none⟩),s6,s7,s8,s9,s10,s11,s12,s13,s14,s15,s16,s17,s18,s19,s20,s21,s22,s23,s24,s25,s26,s27,s28,s29,s30,s31,s32,s33,s34,s35,s36,s37,s38,s39,s40,s41,pk (d_ 0) (.pointer (some ⟨bs, 0, none⟩)) s42,pk (d_ 1) (.pointer (some ⟨bs, 0, none⟩)) s43,pk (d_ 2) (.pointer (some ⟨bs, 1, none⟩)) s44,pk (d_ 3) (.int .i64 (m)) s45,pk (d_ 4) (.pointer (some ⟨bd, 5, none⟩)) s46,pk (d_ 5) (.int .i64 (c)) s47,pk (d_ 6) (.int .i64 (IntKind.i64.wrap (m + c))) s48,pk (d_ 7) (.pointer (some ⟨bs, 0, none⟩)) s49,pk (d_ 8) (.pointer (some ⟨bs, 1, none⟩)) s50],defers := dd } ∧ ch1 P0 P1 (d_ 9) w' ∧ OrdP [[], [0], [1], [2], [], [4], [3, 5], [0, 1, 2, 3, 4, 5, 6], [0, 1, 2, 3, 4, 5, 6, 7], [0, 1, 2, 3, 4, 5, 6, 8]] d_) ?_ ?_ ?_
  · exact ⟨rfl, h0, fun k h => by cases h⟩
  · refine ⟨?_,?_,?_,?_,?_,?_,?_,?_,?_,?_, trivial⟩
    all_goals
      rintro d_ a_ w1 K hd_ hdep ⟨rfl, F, O⟩ HK
      simp [Region.binds] at hdep
    · have HO : Hid (OrdP [[], [0], [1], [2], [], [4], [3, 5], [0, 1, 2, 3, 4, 5, 6], [0, 1, 2, 3, 4, 5, 6, 7], [0, 1, 2, 3, 4, 5, 6, 8]] (upd d_ 0)) := O.step (show ∀ e ∈ ([] : List Nat), d_ e = true by simp [hdep])
      clear O
      have HF := Lib.hid F
      clear F hdep
      go_simp
      refine HK.out _ _ ⟨?_, HF.out, HO.out⟩
      all_goals rfl
    · have HO : Hid (OrdP [[], [0], [1], [2], [], [4], [3, 5], [0, 1, 2, 3, 4, 5, 6], [0, 1, 2, 3, 4, 5, 6, 7], [0, 1, 2, 3, 4, 5, 6, 8]] (upd d_ 1)) := O.step (show ∀ e ∈ ([0] : List Nat), d_ e = true by simp [hdep])
      have q0 : d_ 0 = true := by simp [hdep]
      clear O
      rw [pk_of q0]
      have HF := Lib.hid F
      clear F hdep
      go_simp
      refine HK.out _ _ ⟨?_, HF.out, HO.out⟩
      rw [pk_of (show upd d_ 1 0 = true from q0)]
      all_goals rfl
    · have HO : Hid (OrdP [[], [0], [1], [2], [], [4], [3, 5], [0, 1, 2, 3, 4, 5, 6], [0, 1, 2, 3, 4, 5, 6, 7], [0, 1, 2, 3, 4, 5, 6, 8]] (upd d_ 2)) := O.step (show ∀ e ∈ ([1] : List Nat), d_ e = true by simp [hdep])
      have q1 : d_ 1 = true := by simp [hdep]
      clear O
      rw [pk_of q1]
      have HF := Lib.hid F
      clear F hdep
      go_simp
      refine HK.out _ _ ⟨?_, HF.out, HO.out⟩
      rw [pk_of (show upd d_ 2 1 = true from q1)]
      all_goals rfl
    · have HO : Hid (OrdP [[], [0], [1], [2], [], [4], [3, 5], [0, 1, 2, 3, 4, 5, 6], [0, 1, 2, 3, 4, 5, 6, 7], [0, 1, 2, 3, 4, 5, 6, 8]] (upd d_ 3)) := O.step (show ∀ e ∈ ([2] : List Nat), d_ e = true by simp [hdep])
      have q2 : d_ 2 = true := by simp [hdep]
      have F2 := F
      have n_ : d_ 9 = false := by
        cases e_ : d_ 9 with
        | false => rfl
        | true => have h2 := (O 9 e_ 3 (by decide)); rw [show d_ 3 = false from hd_] at h2; cases h2
      rw [n_] at F2
      have kk := kl3.out w1 (by
        have h3 := ch1_or F2
        simp_all [ch1])
      clear F2
      clear n_
      clear O
      rw [pk_of q2]
      have HF := Lib.hid F
      clear F hdep
      go_simp
      refine HK.out _ _ ⟨?_, HF.out, HO.out⟩
      rw [pk_of (show upd d_ 3 2 = true from q2)]
      all_goals rfl
    · have HO : Hid (OrdP [[], [0], [1], [2], [], [4], [3, 5], [0, 1, 2, 3, 4, 5, 6], [0, 1, 2, 3, 4, 5, 6, 7], [0, 1, 2, 3, 4, 5, 6, 8]] (upd d_ 4)) := O.step (show ∀ e ∈ ([] : List Nat), d_ e = true by simp [hdep])
      clear O
      have HF := Lib.hid F
      clear F hdep
      go_simp
      refine HK.out _ _ ⟨?_, HF.out, HO.out⟩
      all_goals rfl
    · have HO : Hid (OrdP [[], [0], [1], [2], [], [4], [3, 5], [0, 1, 2, 3, 4, 5, 6], [0, 1, 2, 3, 4, 5, 6, 7], [0, 1, 2, 3, 4, 5, 6, 8]] (upd d_ 5)) := O.step (show ∀ e ∈ ([4] : List Nat), d_ e = true by simp [hdep])
      have q4 : d_ 4 = true := by simp [hdep]
      have kk := kl5.out w1 (ch1_or F)
      clear O
      rw [pk_of q4]
      have HF := Lib.hid F
      clear F hdep
      go_simp
      refine HK.out _ _ ⟨?_, HF.out, HO.out⟩
      rw [pk_of (show upd d_ 5 4 = true from q4)]
      all_goals rfl
    · have HO : Hid (OrdP [[], [0], [1], [2], [], [4], [3, 5], [0, 1, 2, 3, 4, 5, 6], [0, 1, 2, 3, 4, 5, 6, 7], [0, 1, 2, 3, 4, 5, 6, 8]] (upd d_ 6)) := O.step (show ∀ e ∈ ([3, 5] : List Nat), d_ e = true by simp [hdep])
      have q3 : d_ 3 = true := by simp [hdep]
      have q5 : d_ 5 = true := by simp [hdep]
      clear O
      rw [pk_of q3, pk_of q5]
      have HF := Lib.hid F
      clear F hdep
      go_simp
      refine HK.out _ _ ⟨?_, HF.out, HO.out⟩
      rw [pk_of (show upd d_ 6 3 = true from q3), pk_of (show upd d_ 6 5 = true from q5)]
      all_goals rfl
    · have HO : Hid (OrdP [[], [0], [1], [2], [], [4], [3, 5], [0, 1, 2, 3, 4, 5, 6], [0, 1, 2, 3, 4, 5, 6, 7], [0, 1, 2, 3, 4, 5, 6, 8]] (upd d_ 7)) := O.step (show ∀ e ∈ ([0, 1, 2, 3, 4, 5, 6] : List Nat), d_ e = true by simp [hdep])
      have q0 : d_ 0 = true := by simp [hdep]
      clear O
      rw [pk_of q0]
      have HF := Lib.hid F
      clear F hdep
      go_simp
      refine HK.out _ _ ⟨?_, HF.out, HO.out⟩
      rw [pk_of (show upd d_ 7 0 = true from q0)]
      all_goals rfl
    · have HO : Hid (OrdP [[], [0], [1], [2], [], [4], [3, 5], [0, 1, 2, 3, 4, 5, 6], [0, 1, 2, 3, 4, 5, 6, 7], [0, 1, 2, 3, 4, 5, 6, 8]] (upd d_ 8)) := O.step (show ∀ e ∈ ([0, 1, 2, 3, 4, 5, 6, 7] : List Nat), d_ e = true by simp [hdep])
      have q7 : d_ 7 = true := by simp [hdep]
      clear O
      rw [pk_of q7]
      have HF := Lib.hid F
      clear F hdep
      go_simp
      refine HK.out _ _ ⟨?_, HF.out, HO.out⟩
      rw [pk_of (show upd d_ 8 7 = true from q7)]
      all_goals rfl
    · have HO : Hid (OrdP [[], [0], [1], [2], [], [4], [3, 5], [0, 1, 2, 3, 4, 5, 6], [0, 1, 2, 3, 4, 5, 6, 7], [0, 1, 2, 3, 4, 5, 6, 8]] (upd d_ 9)) := O.step (show ∀ e ∈ ([0, 1, 2, 3, 4, 5, 6, 8] : List Nat), d_ e = true by simp [hdep])
      have q6 : d_ 6 = true := by simp [hdep]
      have q8 : d_ 8 = true := by simp [hdep]
      clear O
      rw [pk_of q6, pk_of q8]
      obtain ⟨hP, hN⟩ := ch1_s1 F hd_
      obtain ⟨⟨u0, c0⟩, z0, hR⟩ := ks9.out w1 hP
      have HF := Lib.hid (hN _ hR)
      clear F hP hR hN hdep
      go_simp
      have HG := HF.out
      refine HK.out _ _ ⟨?_, HG, HO.out⟩
      rw [pk_of (show upd d_ 9 6 = true from q6), pk_of (show upd d_ 9 8 = true from q8)]
      all_goals rfl
  · rintro d_ a_ w1 hall ⟨rfl, F, O⟩
    have hall' : ∀ k, k < 10 → d_ k = true := hall
    rw [hall' 9 (by decide)] at F
    have HF := Lib.hid F
    clear F
    rw [pk_of (hall' 0 (by decide)), pk_of (hall' 1 (by decide)), pk_of (hall' 2 (by decide)), pk_of (hall' 3 (by decide)), pk_of (hall' 4 (by decide)), pk_of (hall' 5 (by decide)), pk_of (hall' 6 (by decide)), pk_of (hall' 7 (by decide)), pk_of (hall' 8 (by decide))]
    exact HQ.out w1 HF.out
end Go.Proofs.Ytjkhclijmcmdjaa
