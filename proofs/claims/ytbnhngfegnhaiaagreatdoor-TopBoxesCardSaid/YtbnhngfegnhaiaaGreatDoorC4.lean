/- The entries of the reference: drawn regions; rows of entries that grow. Rows of entries that grow; the entries of the reference. The entries of the reference: the walk. Where the star is; a text that is cut at it. What a piece can be left of. What a piece with a star can be left of. What a card fits: drawn regions. Sets; what a card fits. -/
import Derived.Test.YtbnhngfegnhaiaaGreatDoorC3
namespace Go.Proofs.YtbnhngfegnhaiaaGreatDoor
open Go.RowKit
set_option linter.unusedVariables false
set_option linter.unusedSimpArgs false
/-- What a slot holds: the value, once it is done. -/
def pk (b : Bool) (v s : Value) : Value := if b then v else s
theorem pk_of {b : Bool} (h : b = true) (v s : Value) : pk b v s = v := by rw [h]; rfl
theorem pk_no {b : Bool} (h : b = false) (v s : Value) : pk b v s = s := by rw [h]; rfl
/-- What is done waits for nothing. -/
def OrdP (L : List (List Nat)) (d : Nat → Bool) : Prop := ∀ k, d k = true → ∀ e ∈ L.getD k [], d e = true
theorem OrdP.step {L : List (List Nat)} {d : Nat → Bool} {k : Nat} (h : OrdP L d) (hk : ∀ e ∈ L.getD k [], d e = true) : OrdP L (upd d k) := fun j hj e he => by
  unfold upd at hj ⊢
  by_cases h2 : e = k
  · simp [h2]
  · by_cases h1 : j = k
    · subst h1; simp [h2, hk e he]
    · simp [h1] at hj; simp [h2, h j hj e he]
/-- A world at one of 2 stages, by which ones are passed. -/
def ch1 (P0 P1 : World → Prop) : Bool → World → Prop
  | false, w => P0 w
  | true, w => P1 w
theorem ch1_or {P0 P1 : World → Prop} {f1 : Bool} {w : World} (h : ch1 P0 P1 f1 w) : P0 w ∨ P1 w := by
  cases f1 <;> first | exact False.elim h | exact .inl h | exact .inr h
theorem ch1_s1 {P0 P1 : World → Prop} {f1 : Bool} {w : World} (h : ch1 P0 P1 f1 w) (e2 : f1 = false) : P0 w ∧ ∀ w' : World, P1 w' → ch1 P0 P1 true w' := by
  subst e2
  first | exact False.elim h | exact ⟨h, fun _ x => x⟩
/-- A world at one of 3 stages, by which ones are passed. -/
def ch2 (P0 P1 P2 : World → Prop) : Bool → Bool → World → Prop
  | false, false, w => P0 w
  | true, false, w => P1 w
  | true, true, w => P2 w
  | _, _, _ => False
theorem ch2_or {P0 P1 P2 : World → Prop} {f1 f2 : Bool} {w : World} (h : ch2 P0 P1 P2 f1 f2 w) : P0 w ∨ P1 w ∨ P2 w := by
  cases f1 <;> cases f2 <;> first | exact False.elim h | exact .inl h | exact .inr (.inl h) | exact .inr (.inr h)
theorem ch2_s1 {P0 P1 P2 : World → Prop} {f1 f2 : Bool} {w : World} (h : ch2 P0 P1 P2 f1 f2 w) (e2 : f1 = false) : P0 w ∧ ∀ w' : World, P1 w' → ch2 P0 P1 P2 true f2 w' := by
  subst e2
  cases f2 <;> first | exact False.elim h | exact ⟨h, fun _ x => x⟩
theorem ch2_s2 {P0 P1 P2 : World → Prop} {f1 f2 : Bool} {w : World} (h : ch2 P0 P1 P2 f1 f2 w) (e1 : f1 = true) (e2 : f2 = false) : P1 w ∧ ∀ w' : World, P2 w' → ch2 P0 P1 P2 f1 true w' := by
  subst e1 e2
  first | exact False.elim h | exact ⟨h, fun _ x => x⟩
/-- A world at one of 4 stages, by which ones are passed. -/
def ch3 (P0 P1 P2 P3 : World → Prop) : Bool → Bool → Bool → World → Prop
  | false, false, false, w => P0 w
  | true, false, false, w => P1 w
  | true, true, false, w => P2 w
  | true, true, true, w => P3 w
  | _, _, _, _ => False
theorem ch3_or {P0 P1 P2 P3 : World → Prop} {f1 f2 f3 : Bool} {w : World} (h : ch3 P0 P1 P2 P3 f1 f2 f3 w) : P0 w ∨ P1 w ∨ P2 w ∨ P3 w := by
  cases f1 <;> cases f2 <;> cases f3 <;> first | exact False.elim h | exact .inl h | exact .inr (.inl h) | exact .inr (.inr (.inl h)) | exact .inr (.inr (.inr h))
theorem ch3_s1 {P0 P1 P2 P3 : World → Prop} {f1 f2 f3 : Bool} {w : World} (h : ch3 P0 P1 P2 P3 f1 f2 f3 w) (e2 : f1 = false) : P0 w ∧ ∀ w' : World, P1 w' → ch3 P0 P1 P2 P3 true f2 f3 w' := by
  subst e2
  cases f2 <;> cases f3 <;> first | exact False.elim h | exact ⟨h, fun _ x => x⟩
theorem ch3_s2 {P0 P1 P2 P3 : World → Prop} {f1 f2 f3 : Bool} {w : World} (h : ch3 P0 P1 P2 P3 f1 f2 f3 w) (e1 : f1 = true) (e2 : f2 = false) : P1 w ∧ ∀ w' : World, P2 w' → ch3 P0 P1 P2 P3 f1 true f3 w' := by
  subst e1 e2
  cases f3 <;> first | exact False.elim h | exact ⟨h, fun _ x => x⟩
theorem ch3_s3 {P0 P1 P2 P3 : World → Prop} {f1 f2 f3 : Bool} {w : World} (h : ch3 P0 P1 P2 P3 f1 f2 f3 w) (e1 : f2 = true) (e2 : f3 = false) : P2 w ∧ ∀ w' : World, P3 w' → ch3 P0 P1 P2 P3 f1 f2 true w' := by
  subst e1 e2
  cases f1 <;> first | exact False.elim h | exact ⟨h, fun _ x => x⟩
theorem wpInR_append_run {P : Program} {m : Nat} {r : Option Nat} {w : World} {o : Oper} {a : Act} {K : Act → World → Prop} {Q : Exit → Act → World → Prop} (s x : Operand) (t : TypeId)
    (ho : o.op = .call { callee := .builtin .append, args := #[s, x], argTypes := #[t, t] }) (v xv v' : Value) (w' : World) (hs : a.eval s = v) (hx : a.eval x = xv)
    (hr : (Builtin.append_ #[t, t] o.type #[v, xv]).run P w = .ok v' w') (h : K (a.put o.dst v') w') : o.wpIn (wideAt r) m P a w K Q := by
  refine ⟨fun _ _ => trivial, ?_⟩
  show o.uponIn _ _ P a K Q ((o.semAt _ a.eval).run P w)
  have e : (o.semAt (wideAt r).round a.eval).run P w = (execOp a.eval o).run P w := by
    cases r with
    | none => rfl
    | some l => show (o.semAt (some l) a.eval).run P w = _; simp [Oper.semAt_some, ho]
  rw [e]
  unfold execOp
  simp only [ho, resolve, invoke, builtin, Sem.run_bind, Sem.run_pure, Result.andThen_ok, List.map_toArray, List.map_cons, List.map_nil, hs, hx, hr]
  exact h
attribute [local go_sem] Oper.semAt_some
noncomputable def ent8C : Code := (Tryz.f6.body.bind (regionAt 8)).getD .skip
set_option maxRecDepth 100000 in
set_option maxHeartbeats 8000000 in
theorem ent8 {b1 p o q r nb cb nt ct i k k1 n cw cw1 N : Nat} {g g1 : Option Addr} {col : Int} {sn st : ByteArray} {P0 P1 P2 : World → Prop} {Q : Exit → Act → World → Prop} {W1 : World} (hk : IntKind.i64.wrap ((k : Int) + 1) = (k1 : Int)) (hi0 : (0 : Int) ≤ i) (hi1 : (i : Int) < nb) (hk0 : (0 : Int) ≤ k) (hk1 : (k : Int) < nt) (h0 : P0 W1.drew)
    (kl2 : Hid (∀ w : World, (P0 w ∨ P1 w ∨ P2 w) → w.cell? ⟨b1, 0, none⟩ = some (.slice (some ⟨p, o, none⟩) nb cb)))
    (kl6 : Hid (∀ w : World, (P0 w ∨ P1 w ∨ P2 w) → w.cell? ⟨p, o + i * 2, none⟩ = some (.int .i64 (col))))
    (kc9 : Hid (∀ w : World, (P0 w ∨ P1 w ∨ P2 w) → Calls Tryz.prog 21 #[.int .i64 ((k1 : Int))] w fun e w' => e = .returned (.string sn) ∧ w = w'))
    (kl11 : Hid (∀ w : World, (P0 w ∨ P1 w ∨ P2 w) → w.cell? ⟨b1, 0, none⟩ = some (.slice (some ⟨p, o, none⟩) nb cb)))
    (kl15 : Hid (∀ w : World, (P0 w ∨ P1 w ∨ P2 w) → w.cell? ⟨p, o + i * 2 + 1, none⟩ = some (.slice (some ⟨q, r, none⟩) nt ct)))
    (kl18 : Hid (∀ w : World, (P0 w ∨ P1 w ∨ P2 w) → w.cell? ⟨q, r + k, none⟩ = some (.string st)))
    (ka20 : Hid (∀ w : World, P0 w → w.heap.size = N ∧ P1 (w.alloc (.cells #[.int .i64 (col), .string sn, .string st] 64))))
    (kr21 : Hid (∀ w : World, P1 w → ∃ w', (Builtin.append_ #[28, 28] 28 #[.slice g n cw, .slice (some ⟨N, 0, none⟩) 1 1]).run Tryz.prog w = .ok (.slice g1 (n + 1) cw1) w' ∧ P2 w'))
    {s0 s2 s6 s7 s8 s9 s10 s11 s12 s13 s14 s15 s16 s17 s18 s19 s20 s21 s22 s23 s24 s25 s26 s27 s28 s29 s30 s31 s32 s33 s34 s35 s36 s37 s38 s39 s40 s41 s42 s43 s44 s45 s46 : Value} {dd : List Deferred}
    (hQ : ∀ w' : World, P2 w' → Q .normal { tmps := List.toArray (s0 :: .pointer (some ⟨b1, 0, none⟩) :: s2 :: .slice g1 (n + 1) cw1 :: .int .i64 ((i : Int)) :: .int .i64 ((k : Int)) :: s6 :: s7 :: s8 :: s9 :: s10 :: s11 :: s12 :: s13 :: s14 :: s15 :: s16 :: s17 :: s18 :: s19 :: s20 :: s21 :: s22 :: s23 :: .slice g n cw :: .pointer (some ⟨b1, 0, none⟩) :: .slice (some ⟨p, o, none⟩) nb cb :: .int .i64 ((i : Int)) :: .pointer (some ⟨p, o + i * 2, none⟩) :: .pointer (some ⟨p, o + i * 2, none⟩) :: .int .i64 (col) :: .int .i64 ((k : Int)) :: .int .i64 ((k1 : Int)) :: .string sn :: .pointer (some ⟨b1, 0, none⟩) :: .slice (some ⟨p, o, none⟩) nb cb :: .int .i64 ((i : Int)) :: .pointer (some ⟨p, o + i * 2, none⟩) :: .pointer (some ⟨p, o + i * 2 + 1, none⟩) :: .slice (some ⟨q, r, none⟩) nt ct :: .int .i64 ((k : Int)) :: .pointer (some ⟨q, r + k, none⟩) :: .string st :: .agg #[.int .i64 (col), .string sn, .string st] :: .slice (some ⟨N, 0, none⟩) 1 1 :: .slice g1 (n + 1) cw1 :: s46 :: []),defers := dd } w') :
    Code.wpIn (wideAt none) 0 Tryz.prog ent8C Q { tmps := List.toArray (s0 :: .pointer (some ⟨b1, 0, none⟩) :: s2 :: .slice g n cw :: .int .i64 ((i : Int)) :: .int .i64 ((k : Int)) :: s6 :: s7 :: s8 :: s9 :: s10 :: s11 :: s12 :: s13 :: s14 :: s15 :: s16 :: s17 :: s18 :: s19 :: s20 :: s21 :: s22 :: s23 :: s24 :: s25 :: s26 :: s27 :: s28 :: s29 :: s30 :: s31 :: s32 :: s33 :: s34 :: s35 :: s36 :: s37 :: s38 :: s39 :: s40 :: s41 :: s42 :: s43 :: s44 :: s45 :: s46 :: []),defers := dd } W1 := by
  have HQ := Lib.hid hQ
  clear hQ
  conv => arg 4; whnf
  refine wpIn_region_invG mixed (by kernel_rfl) (fun d_ a_ w' => a_ = { tmps := List.toArray (s0 :: .pointer (some ⟨b1, 0, none⟩) :: s2 :: pk (d_ 22) (.slice g1 (n + 1) cw1) (.slice g n cw) :: .int .i64 ((i : Int)) :: .int .i64 ((k : Int)) :: s6 :: s7 :: s8 :: s9 :: s10 :: s11 :: s12 :: s13 :: s14 :: s15 :: s16 :: s17 :: s18 :: s19 :: s20 :: s21 :: s22 :: s23 :: pk (d_ 0) (.slice g n cw) s24 :: pk (d_ 1) (.pointer (some ⟨b1, 0, none⟩)) s25 :: pk (d_ 2) (.slice (some ⟨p, o, none⟩) nb cb) s26 :: pk (d_ 3) (.int .i64 ((i : Int))) s27 :: pk (d_ 4) (.pointer (some ⟨p, o + i * 2, none⟩)) s28 :: pk (d_ 5) (.pointer (some ⟨p, o + i * 2, none⟩)) s29 :: pk (d_ 6) (.int .i64 (col)) s30 :: pk (d_ 7) (.int .i64 ((k : Int))) s31 :: pk (d_ 8) (.int .i64 ((k1 : Int))) s32 :: pk (d_ 9) (.string sn) s33 :: pk (d_ 10) (.pointer (some ⟨b1, 0, none⟩)) s34 :: pk (d_ 11) (.slice (some ⟨p, o, none⟩) nb cb) s35 :: pk (d_ 12) (.int .i64 ((i : Int))) s36 :: pk (d_ 13) (.pointer (some ⟨p, o + i * 2, none⟩)) s37 :: pk (d_ 14) (.pointer (some ⟨p, o + i * 2 + 1, none⟩)) s38 :: pk (d_ 15) (.slice (some ⟨q, r, none⟩) nt ct) s39 :: pk (d_ 16) (.int .i64 ((k : Int))) s40 :: pk (d_ 17) (.pointer (some ⟨q, r + k, none⟩)) s41 :: pk (d_ 18) (.string st) s42 :: pk (d_ 19) (.agg #[.int .i64 (col), .string sn, .string st]) s43 :: pk (d_ 20) (.slice (some ⟨N, 0, none⟩) 1 1) s44 :: pk (d_ 21) (.slice g1 (n + 1) cw1) s45 :: s46 :: []),defers := dd } ∧ ch2 P0 P1 P2 (d_ 20) (d_ 21) w' ∧ OrdP [[], [], [1], [], [2, 3], [4], [5], [], [7], [8], [], [10], [], [11, 12], [13], [14], [], [15, 16], [17], [6, 9, 18], [19], [0, 9, 20], [0, 1, 2, 3, 4, 5, 6, 7, 8, 9, 10, 11, 12, 13, 14, 15, 16, 17, 18, 19, 20, 21]] d_) ?_ ?_ ?_
  · exact ⟨rfl, h0, fun k h => by cases h⟩
  · refine ⟨?_,?_,?_,?_,?_,?_,?_,?_,?_,?_,?_,?_,?_,?_,?_,?_,?_,?_,?_,?_,?_,?_,?_, trivial⟩
    all_goals
      rintro d_ a_ w1 K hd_ hdep ⟨rfl, F, O⟩ HK
      simp [Region.binds] at hdep
    · have HO : Hid (OrdP [[], [], [1], [], [2, 3], [4], [5], [], [7], [8], [], [10], [], [11, 12], [13], [14], [], [15, 16], [17], [6, 9, 18], [19], [0, 9, 20], [0, 1, 2, 3, 4, 5, 6, 7, 8, 9, 10, 11, 12, 13, 14, 15, 16, 17, 18, 19, 20, 21]] (upd d_ 0)) := O.step (show ∀ e ∈ ([] : List Nat), d_ e = true by simp [hdep])
      have n22_ : d_ 22 = false := by
        cases e_ : d_ 22 with
        | false => rfl
        | true => have h2 := (O 22 e_ 0 (by decide)); rw [show d_ 0 = false from hd_] at h2; cases h2
      rw [pk_no n22_]
      clear O
      have HF := Lib.hid F
      clear F hdep
      go_simp
      refine HK.out _ _ ⟨?_, HF.out, HO.out⟩
      rw [pk_no (show upd d_ 0 22 = false from n22_)]
      all_goals rfl
    · have HO : Hid (OrdP [[], [], [1], [], [2, 3], [4], [5], [], [7], [8], [], [10], [], [11, 12], [13], [14], [], [15, 16], [17], [6, 9, 18], [19], [0, 9, 20], [0, 1, 2, 3, 4, 5, 6, 7, 8, 9, 10, 11, 12, 13, 14, 15, 16, 17, 18, 19, 20, 21]] (upd d_ 1)) := O.step (show ∀ e ∈ ([] : List Nat), d_ e = true by simp [hdep])
      clear O
      have HF := Lib.hid F
      clear F hdep
      go_simp
      refine HK.out _ _ ⟨?_, HF.out, HO.out⟩
      all_goals rfl
    · have HO : Hid (OrdP [[], [], [1], [], [2, 3], [4], [5], [], [7], [8], [], [10], [], [11, 12], [13], [14], [], [15, 16], [17], [6, 9, 18], [19], [0, 9, 20], [0, 1, 2, 3, 4, 5, 6, 7, 8, 9, 10, 11, 12, 13, 14, 15, 16, 17, 18, 19, 20, 21]] (upd d_ 2)) := O.step (show ∀ e ∈ ([1] : List Nat), d_ e = true by simp [hdep])
      have q1 : d_ 1 = true := by simp [hdep]
      have kk := kl2.out w1 (ch2_or F)
      clear O
      rw [pk_of q1]
      have HF := Lib.hid F
      clear F hdep
      go_simp
      refine HK.out _ _ ⟨?_, HF.out, HO.out⟩
      rw [pk_of (show upd d_ 2 1 = true from q1)]
      all_goals rfl
    · have HO : Hid (OrdP [[], [], [1], [], [2, 3], [4], [5], [], [7], [8], [], [10], [], [11, 12], [13], [14], [], [15, 16], [17], [6, 9, 18], [19], [0, 9, 20], [0, 1, 2, 3, 4, 5, 6, 7, 8, 9, 10, 11, 12, 13, 14, 15, 16, 17, 18, 19, 20, 21]] (upd d_ 3)) := O.step (show ∀ e ∈ ([] : List Nat), d_ e = true by simp [hdep])
      clear O
      have HF := Lib.hid F
      clear F hdep
      go_simp
      refine HK.out _ _ ⟨?_, HF.out, HO.out⟩
      all_goals rfl
    · have HO : Hid (OrdP [[], [], [1], [], [2, 3], [4], [5], [], [7], [8], [], [10], [], [11, 12], [13], [14], [], [15, 16], [17], [6, 9, 18], [19], [0, 9, 20], [0, 1, 2, 3, 4, 5, 6, 7, 8, 9, 10, 11, 12, 13, 14, 15, 16, 17, 18, 19, 20, 21]] (upd d_ 4)) := O.step (show ∀ e ∈ ([2, 3] : List Nat), d_ e = true by simp [hdep])
      have q2 : d_ 2 = true := by simp [hdep]
      have q3 : d_ 3 = true := by simp [hdep]
      clear O
      have g1 := hi1
      have g2 := hi0
      rw [pk_of q2, pk_of q3]
      have HF := Lib.hid F
      clear F hdep
      go_simp
      refine HK.out _ _ ⟨?_, HF.out, HO.out⟩
      rw [pk_of (show upd d_ 4 2 = true from q2), pk_of (show upd d_ 4 3 = true from q3)]
      all_goals rfl
    · have HO : Hid (OrdP [[], [], [1], [], [2, 3], [4], [5], [], [7], [8], [], [10], [], [11, 12], [13], [14], [], [15, 16], [17], [6, 9, 18], [19], [0, 9, 20], [0, 1, 2, 3, 4, 5, 6, 7, 8, 9, 10, 11, 12, 13, 14, 15, 16, 17, 18, 19, 20, 21]] (upd d_ 5)) := O.step (show ∀ e ∈ ([4] : List Nat), d_ e = true by simp [hdep])
      have q4 : d_ 4 = true := by simp [hdep]
      clear O
      rw [pk_of q4]
      have HF := Lib.hid F
      clear F hdep
      go_simp
      refine HK.out _ _ ⟨?_, HF.out, HO.out⟩
      rw [pk_of (show upd d_ 5 4 = true from q4)]
      all_goals rfl
    · have HO : Hid (OrdP [[], [], [1], [], [2, 3], [4], [5], [], [7], [8], [], [10], [], [11, 12], [13], [14], [], [15, 16], [17], [6, 9, 18], [19], [0, 9, 20], [0, 1, 2, 3, 4, 5, 6, 7, 8, 9, 10, 11, 12, 13, 14, 15, 16, 17, 18, 19, 20, 21]] (upd d_ 6)) := O.step (show ∀ e ∈ ([5] : List Nat), d_ e = true by simp [hdep])
      have q5 : d_ 5 = true := by simp [hdep]
      have kk := kl6.out w1 (ch2_or F)
      clear O
      rw [pk_of q5]
      have HF := Lib.hid F
      clear F hdep
      go_simp
      refine HK.out _ _ ⟨?_, HF.out, HO.out⟩
      rw [pk_of (show upd d_ 6 5 = true from q5)]
      all_goals rfl
    · have HO : Hid (OrdP [[], [], [1], [], [2, 3], [4], [5], [], [7], [8], [], [10], [], [11, 12], [13], [14], [], [15, 16], [17], [6, 9, 18], [19], [0, 9, 20], [0, 1, 2, 3, 4, 5, 6, 7, 8, 9, 10, 11, 12, 13, 14, 15, 16, 17, 18, 19, 20, 21]] (upd d_ 7)) := O.step (show ∀ e ∈ ([] : List Nat), d_ e = true by simp [hdep])
      clear O
      have HF := Lib.hid F
      clear F hdep
      go_simp
      refine HK.out _ _ ⟨?_, HF.out, HO.out⟩
      all_goals rfl
    · have HO : Hid (OrdP [[], [], [1], [], [2, 3], [4], [5], [], [7], [8], [], [10], [], [11, 12], [13], [14], [], [15, 16], [17], [6, 9, 18], [19], [0, 9, 20], [0, 1, 2, 3, 4, 5, 6, 7, 8, 9, 10, 11, 12, 13, 14, 15, 16, 17, 18, 19, 20, 21]] (upd d_ 8)) := O.step (show ∀ e ∈ ([7] : List Nat), d_ e = true by simp [hdep])
      have q7 : d_ 7 = true := by simp [hdep]
      clear O
      have hk2 := hk
      rw [pk_of q7]
      have HF := Lib.hid F
      clear F hdep
      go_simp
      refine HK.out _ _ ⟨?_, HF.out, HO.out⟩
      rw [pk_of (show upd d_ 8 7 = true from q7)]
      all_goals rfl
    · have HO : Hid (OrdP [[], [], [1], [], [2, 3], [4], [5], [], [7], [8], [], [10], [], [11, 12], [13], [14], [], [15, 16], [17], [6, 9, 18], [19], [0, 9, 20], [0, 1, 2, 3, 4, 5, 6, 7, 8, 9, 10, 11, 12, 13, 14, 15, 16, 17, 18, 19, 20, 21]] (upd d_ 9)) := O.step (show ∀ e ∈ ([8] : List Nat), d_ e = true by simp [hdep])
      have q8 : d_ 8 = true := by simp [hdep]
      clear O
      rw [pk_of q8]
      have hc := kc9.out w1 (ch2_or F)
      have HF := Lib.hid F
      clear F hdep
      go_simp
      refine ⟨trivial, rfl, wideAt_calls (hc.mono ?_)⟩
      rintro e w5 ⟨rfl, hw5⟩
      subst hw5
      refine HK.out _ _ ⟨?_, HF.out, HO.out⟩
      rw [pk_of (show upd d_ 9 8 = true from q8)]
      all_goals rfl
    · have HO : Hid (OrdP [[], [], [1], [], [2, 3], [4], [5], [], [7], [8], [], [10], [], [11, 12], [13], [14], [], [15, 16], [17], [6, 9, 18], [19], [0, 9, 20], [0, 1, 2, 3, 4, 5, 6, 7, 8, 9, 10, 11, 12, 13, 14, 15, 16, 17, 18, 19, 20, 21]] (upd d_ 10)) := O.step (show ∀ e ∈ ([] : List Nat), d_ e = true by simp [hdep])
      clear O
      have HF := Lib.hid F
      clear F hdep
      go_simp
      refine HK.out _ _ ⟨?_, HF.out, HO.out⟩
      all_goals rfl
    · have HO : Hid (OrdP [[], [], [1], [], [2, 3], [4], [5], [], [7], [8], [], [10], [], [11, 12], [13], [14], [], [15, 16], [17], [6, 9, 18], [19], [0, 9, 20], [0, 1, 2, 3, 4, 5, 6, 7, 8, 9, 10, 11, 12, 13, 14, 15, 16, 17, 18, 19, 20, 21]] (upd d_ 11)) := O.step (show ∀ e ∈ ([10] : List Nat), d_ e = true by simp [hdep])
      have q10 : d_ 10 = true := by simp [hdep]
      have kk := kl11.out w1 (ch2_or F)
      clear O
      rw [pk_of q10]
      have HF := Lib.hid F
      clear F hdep
      go_simp
      refine HK.out _ _ ⟨?_, HF.out, HO.out⟩
      rw [pk_of (show upd d_ 11 10 = true from q10)]
      all_goals rfl
    · have HO : Hid (OrdP [[], [], [1], [], [2, 3], [4], [5], [], [7], [8], [], [10], [], [11, 12], [13], [14], [], [15, 16], [17], [6, 9, 18], [19], [0, 9, 20], [0, 1, 2, 3, 4, 5, 6, 7, 8, 9, 10, 11, 12, 13, 14, 15, 16, 17, 18, 19, 20, 21]] (upd d_ 12)) := O.step (show ∀ e ∈ ([] : List Nat), d_ e = true by simp [hdep])
      clear O
      have HF := Lib.hid F
      clear F hdep
      go_simp
      refine HK.out _ _ ⟨?_, HF.out, HO.out⟩
      all_goals rfl
    · have HO : Hid (OrdP [[], [], [1], [], [2, 3], [4], [5], [], [7], [8], [], [10], [], [11, 12], [13], [14], [], [15, 16], [17], [6, 9, 18], [19], [0, 9, 20], [0, 1, 2, 3, 4, 5, 6, 7, 8, 9, 10, 11, 12, 13, 14, 15, 16, 17, 18, 19, 20, 21]] (upd d_ 13)) := O.step (show ∀ e ∈ ([11, 12] : List Nat), d_ e = true by simp [hdep])
      have q11 : d_ 11 = true := by simp [hdep]
      have q12 : d_ 12 = true := by simp [hdep]
      clear O
      have g1 := hi1
      have g2 := hi0
      rw [pk_of q11, pk_of q12]
      have HF := Lib.hid F
      clear F hdep
      go_simp
      refine HK.out _ _ ⟨?_, HF.out, HO.out⟩
      rw [pk_of (show upd d_ 13 11 = true from q11), pk_of (show upd d_ 13 12 = true from q12)]
      all_goals rfl
    · have HO : Hid (OrdP [[], [], [1], [], [2, 3], [4], [5], [], [7], [8], [], [10], [], [11, 12], [13], [14], [], [15, 16], [17], [6, 9, 18], [19], [0, 9, 20], [0, 1, 2, 3, 4, 5, 6, 7, 8, 9, 10, 11, 12, 13, 14, 15, 16, 17, 18, 19, 20, 21]] (upd d_ 14)) := O.step (show ∀ e ∈ ([13] : List Nat), d_ e = true by simp [hdep])
      have q13 : d_ 13 = true := by simp [hdep]
      clear O
      rw [pk_of q13]
      have HF := Lib.hid F
      clear F hdep
      go_simp
      refine HK.out _ _ ⟨?_, HF.out, HO.out⟩
      rw [pk_of (show upd d_ 14 13 = true from q13)]
      all_goals rfl
    · have HO : Hid (OrdP [[], [], [1], [], [2, 3], [4], [5], [], [7], [8], [], [10], [], [11, 12], [13], [14], [], [15, 16], [17], [6, 9, 18], [19], [0, 9, 20], [0, 1, 2, 3, 4, 5, 6, 7, 8, 9, 10, 11, 12, 13, 14, 15, 16, 17, 18, 19, 20, 21]] (upd d_ 15)) := O.step (show ∀ e ∈ ([14] : List Nat), d_ e = true by simp [hdep])
      have q14 : d_ 14 = true := by simp [hdep]
      have kk := kl15.out w1 (ch2_or F)
      clear O
      rw [pk_of q14]
      have HF := Lib.hid F
      clear F hdep
      go_simp
      refine HK.out _ _ ⟨?_, HF.out, HO.out⟩
      rw [pk_of (show upd d_ 15 14 = true from q14)]
      all_goals rfl
    · have HO : Hid (OrdP [[], [], [1], [], [2, 3], [4], [5], [], [7], [8], [], [10], [], [11, 12], [13], [14], [], [15, 16], [17], [6, 9, 18], [19], [0, 9, 20], [0, 1, 2, 3, 4, 5, 6, 7, 8, 9, 10, 11, 12, 13, 14, 15, 16, 17, 18, 19, 20, 21]] (upd d_ 16)) := O.step (show ∀ e ∈ ([] : List Nat), d_ e = true by simp [hdep])
      clear O
      have HF := Lib.hid F
      clear F hdep
      go_simp
      refine HK.out _ _ ⟨?_, HF.out, HO.out⟩
      all_goals rfl
    · have HO : Hid (OrdP [[], [], [1], [], [2, 3], [4], [5], [], [7], [8], [], [10], [], [11, 12], [13], [14], [], [15, 16], [17], [6, 9, 18], [19], [0, 9, 20], [0, 1, 2, 3, 4, 5, 6, 7, 8, 9, 10, 11, 12, 13, 14, 15, 16, 17, 18, 19, 20, 21]] (upd d_ 17)) := O.step (show ∀ e ∈ ([15, 16] : List Nat), d_ e = true by simp [hdep])
      have q15 : d_ 15 = true := by simp [hdep]
      have q16 : d_ 16 = true := by simp [hdep]
      clear O
      have g1 := hk1
      have g2 := hk0
      rw [pk_of q15, pk_of q16]
      have HF := Lib.hid F
      clear F hdep
      go_simp
      refine HK.out _ _ ⟨?_, HF.out, HO.out⟩
      rw [pk_of (show upd d_ 17 15 = true from q15), pk_of (show upd d_ 17 16 = true from q16)]
      all_goals rfl
    · have HO : Hid (OrdP [[], [], [1], [], [2, 3], [4], [5], [], [7], [8], [], [10], [], [11, 12], [13], [14], [], [15, 16], [17], [6, 9, 18], [19], [0, 9, 20], [0, 1, 2, 3, 4, 5, 6, 7, 8, 9, 10, 11, 12, 13, 14, 15, 16, 17, 18, 19, 20, 21]] (upd d_ 18)) := O.step (show ∀ e ∈ ([17] : List Nat), d_ e = true by simp [hdep])
      have q17 : d_ 17 = true := by simp [hdep]
      have kk := kl18.out w1 (ch2_or F)
      clear O
      rw [pk_of q17]
      have HF := Lib.hid F
      clear F hdep
      go_simp
      refine HK.out _ _ ⟨?_, HF.out, HO.out⟩
      rw [pk_of (show upd d_ 18 17 = true from q17)]
      all_goals rfl
    · have HO : Hid (OrdP [[], [], [1], [], [2, 3], [4], [5], [], [7], [8], [], [10], [], [11, 12], [13], [14], [], [15, 16], [17], [6, 9, 18], [19], [0, 9, 20], [0, 1, 2, 3, 4, 5, 6, 7, 8, 9, 10, 11, 12, 13, 14, 15, 16, 17, 18, 19, 20, 21]] (upd d_ 19)) := O.step (show ∀ e ∈ ([6, 9, 18] : List Nat), d_ e = true by simp [hdep])
      have q6 : d_ 6 = true := by simp [hdep]
      have q9 : d_ 9 = true := by simp [hdep]
      have q18 : d_ 18 = true := by simp [hdep]
      clear O
      rw [pk_of q6, pk_of q9, pk_of q18]
      have HF := Lib.hid F
      clear F hdep
      go_simp
      refine HK.out _ _ ⟨?_, HF.out, HO.out⟩
      rw [pk_of (show upd d_ 19 6 = true from q6), pk_of (show upd d_ 19 9 = true from q9), pk_of (show upd d_ 19 18 = true from q18)]
      all_goals rfl
    · have HO : Hid (OrdP [[], [], [1], [], [2, 3], [4], [5], [], [7], [8], [], [10], [], [11, 12], [13], [14], [], [15, 16], [17], [6, 9, 18], [19], [0, 9, 20], [0, 1, 2, 3, 4, 5, 6, 7, 8, 9, 10, 11, 12, 13, 14, 15, 16, 17, 18, 19, 20, 21]] (upd d_ 20)) := O.step (show ∀ e ∈ ([19] : List Nat), d_ e = true by simp [hdep])
      have q19 : d_ 19 = true := by simp [hdep]
      clear O
      rw [pk_of q19]
      obtain ⟨hP, hN⟩ := ch2_s1 F hd_
      obtain ⟨hz_, hR⟩ := ka20.out w1 hP
      have HF := Lib.hid (hN _ hR)
      clear F hP hR hN hdep
      go_simp
      try rw [hz_]
      have HG := HF.out
      refine HK.out _ _ ⟨?_, HG, HO.out⟩
      rw [pk_of (show upd d_ 20 19 = true from q19)]
      all_goals rfl
    · have HO : Hid (OrdP [[], [], [1], [], [2, 3], [4], [5], [], [7], [8], [], [10], [], [11, 12], [13], [14], [], [15, 16], [17], [6, 9, 18], [19], [0, 9, 20], [0, 1, 2, 3, 4, 5, 6, 7, 8, 9, 10, 11, 12, 13, 14, 15, 16, 17, 18, 19, 20, 21]] (upd d_ 21)) := O.step (show ∀ e ∈ ([0, 9, 20] : List Nat), d_ e = true by simp [hdep])
      have q0 : d_ 0 = true := by simp [hdep]
      have q20 : d_ 20 = true := by simp [hdep]
      clear O
      rw [pk_of q0, pk_of q20]
      obtain ⟨hP, hN⟩ := ch2_s2 F (show d_ 20 = true by simp [hdep]) hd_
      obtain ⟨w5, kk, hR⟩ := kr21.out w1 hP
      have HF := Lib.hid (hN _ hR)
      clear F hP hR hN hdep
      rw [if_pos (by rfl)]
      refine wpInR_append_run (.tmp 24) (.tmp 44) 28 rfl _ _ _ _ rfl rfl kk ?_
      have HG := HF.out
      refine HK.out _ _ ⟨?_, HG, HO.out⟩
      rw [pk_of (show upd d_ 21 0 = true from q0), pk_of (show upd d_ 21 20 = true from q20)]
      all_goals rfl
    · have HO : Hid (OrdP [[], [], [1], [], [2, 3], [4], [5], [], [7], [8], [], [10], [], [11, 12], [13], [14], [], [15, 16], [17], [6, 9, 18], [19], [0, 9, 20], [0, 1, 2, 3, 4, 5, 6, 7, 8, 9, 10, 11, 12, 13, 14, 15, 16, 17, 18, 19, 20, 21]] (upd d_ 22)) := O.step (show ∀ e ∈ ([0, 1, 2, 3, 4, 5, 6, 7, 8, 9, 10, 11, 12, 13, 14, 15, 16, 17, 18, 19, 20, 21] : List Nat), d_ e = true by simp [hdep])
      have q21 : d_ 21 = true := by simp [hdep]
      clear O
      rw [pk_of q21]
      have HF := Lib.hid F
      clear F hdep
      go_simp
      refine HK.out _ _ ⟨?_, HF.out, HO.out⟩
      rw [pk_of (show upd d_ 22 21 = true from q21)]
      all_goals rfl
  · rintro d_ a_ w1 hall ⟨rfl, F, O⟩
    have hall' : ∀ k, k < 23 → d_ k = true := hall
    rw [hall' 20 (by decide), hall' 21 (by decide)] at F
    have HF := Lib.hid F
    clear F
    rw [pk_of (hall' 0 (by decide)), pk_of (hall' 1 (by decide)), pk_of (hall' 2 (by decide)), pk_of (hall' 3 (by decide)), pk_of (hall' 4 (by decide)), pk_of (hall' 5 (by decide)), pk_of (hall' 6 (by decide)), pk_of (hall' 7 (by decide)), pk_of (hall' 8 (by decide)), pk_of (hall' 9 (by decide)), pk_of (hall' 10 (by decide)), pk_of (hall' 11 (by decide)), pk_of (hall' 12 (by decide)), pk_of (hall' 13 (by decide)), pk_of (hall' 14 (by decide)), pk_of (hall' 15 (by decide)), pk_of (hall' 16 (by decide)), pk_of (hall' 17 (by decide)), pk_of (hall' 18 (by decide)), pk_of (hall' 19 (by decide)), pk_of (hall' 20 (by decide)), pk_of (hall' 21 (by decide)), pk_of (hall' 22 (by decide))]
    exact HQ.out w1 HF.out
end Go.Proofs.YtbnhngfegnhaiaaGreatDoor
namespace Go.Proofs.YtbnhngfegnhaiaaGreatDoor
open Go.RowKit
set_option linter.unusedVariables false
set_option linter.unusedSimpArgs false
abbrev En.arr (x : En) : Array Value := #[.int .i64 x.colour, .string x.number, .string x.title]
def enL (x : En) : List Value := [.int .i64 x.colour, .string x.number, .string x.title]
/-- A row of entries, cell by cell. -/
def ensL (l : List En) : List Value := l.flatMap enL
theorem ensL_add (l : List En) (x : En) : ensL (l ++ [x]) = ensL l ++ enL x := by simp [ensL]
theorem ensL_one (l : List En) : ∀ u ∈ ensL l, u.oneCell' = true := by
  intro u hu
  unfold ensL at hu
  obtain ⟨x, _, hx⟩ := List.mem_flatMap.1 hu
  simp only [enL, List.mem_cons, List.not_mem_nil, or_false] at hx
  rcases hx with rfl | rfl | rfl <;> rfl
theorem ensL_get : ∀ (l : List En) (i j : Nat), i < l.length → j < 3 → (ensL l)[i * 3 + j]? = (enL (ge l i))[j]?
  | [], i, _, h, _ => by simp at h
  | x :: l, 0, j, _, hj => by
    show (enL x ++ ensL l)[0 * 3 + j]? = _
    rw [List.getElem?_append_left (by simp [enL]; omega)]
    simp [ge]
  | x :: l, i + 1, j, h, hj => by
    show (enL x ++ ensL l)[(i + 1) * 3 + j]? = _
    rw [List.getElem?_append_right (by simp [enL]; omega)]
    have e : (i + 1) * 3 + j - (enL x).length = i * 3 + j := by simp [enL]; omega
    rw [e, ensL_get l i j (by simpa using h) hj]
    simp [ge]
theorem own_ens {w : World} {base : Nat} {t : TypeId} {l : List En} {a : Option Addr} {cap : Nat} (h : w.ownsRow base t 3 (.slice a l.length cap) l.length (ensL l)) : IsEns w a l := fun i hi => by
  obtain ⟨g, c, e, _, _, _, _, hc⟩ := own_cell h (by omega)
  simp only [Value.slice.injEq] at e
  obtain ⟨rfl, _, _⟩ := e
  have hx := fun j hj => ensL_get l i j hi hj
  refine ⟨g, 0, rfl, ?_, ?_, ?_⟩
  · exact hc _ _ (by rw [Nat.zero_add]; exact (hx 0 (by omega)))
  · exact hc _ _ (by rw [Nat.zero_add]; exact (hx 1 (by omega)))
  · exact hc _ _ (by rw [Nat.zero_add]; exact (hx 2 (by omega)))
theorem infoE64 : (Tryz.prog.info? 64).map (fun i => (i.zero, i.size, i.bytes)) = some (some (.agg #[.int .i64 0, .string ⟨#[]⟩, .string ⟨#[]⟩]), 3, 40) := by kernel_rfl
theorem infoE123 : (Tryz.prog.info? 123).map (fun i => (i.zero, i.size, i.bytes)) = some (some (.agg #[.int .i64 0, .string ⟨#[]⟩, .string ⟨#[]⟩]), 3, 40) := by kernel_rfl
theorem app_en {t e : TypeId} (ht : Tryz.prog.underlying t = some (.slice e)) (hi : (Tryz.prog.info? e).map (fun i => (i.zero, i.size, i.bytes)) = some (some (.agg #[.int .i64 0, .string ⟨#[]⟩, .string ⟨#[]⟩]), 3, 40))
    {w : World} {base ms : Nat} {l : List En} {x : En} {q : Option Addr × Nat} (hl : l.length ≤ 100) (hb : base ≤ w.heap.size) (hx : w.ownsRow base e 3 (.slice q.1 l.length q.2) l.length (ensL l)) (hm : w.heap[ms]? = some (.cells x.arr e (0, 0))) :
    ∃ (q1 : Option Addr × Nat) (w' : World), (Builtin.append_ #[t, t] t #[.slice q.1 l.length q.2, .slice (some ⟨ms, 0, none⟩) 1 1]).run Tryz.prog w = .ok (.slice q1.1 (l.length + 1) q1.2) w' ∧ w'.ownsRow base e 3 (.slice q1.1 (l.length + 1) q1.2) (l.length + 1) (ensL (l ++ [x])) ∧ w.grownBy w' (Value.slice q.1 l.length q.2).ownBlock ∧
      ((Value.slice q1.1 (l.length + 1) q1.2).ownBlock = (Value.slice q.1 l.length q.2).ownBlock ∨ (Value.slice q1.1 (l.length + 1) q1.2).ownBlock = some w.heap.size) := by
  obtain ⟨i0, hi0, hz0, hz1, hz2⟩ := info_parts hi
  obtain ⟨v', w', hr, hn, hg, hor⟩ := append_rows_at (P := Tryz.prog) (w := w) base t t e i0 _ 3 40 ht hi0 hz0 hz1 hz2 rfl (by decide) _ l.length _ hx (some ⟨ms, 0, none⟩) 1 1 (enL x) rfl
    (fun _ => ⟨_, rfl, fun j u hj => by
      have e : ((⟨ms, 0, none⟩ : Addr).add j) = ⟨ms, j, none⟩ := by unfold Addr.add; split <;> simp_all
      rw [e, cell_of_heap hm, ← hj]
      exact (List.getElem?_toArray (xs := enL x) (i := j))⟩) (by intro u hu; exact ensL_one [x] u (by simpa [ensL] using hu)) (by simp [maxLen]; omega) (by omega) hb
  rw [← ensL_add] at hn
  obtain ⟨a', c', rfl, _⟩ := own_slice hn
  exact ⟨(a', c'), w', hr, hn, hg, hor⟩
theorem entsE_step (l : List Bx) (i k : Nat) : entsE l i ++ boxE (gb l i) (k + 1) = (entsE l i ++ boxE (gb l i) k) ++ [⟨(gb l i).colour, numT (k + 1), gs (gb l i).titles k⟩] := by
  unfold boxE
  rw [List.range_succ, List.map_append, List.append_assoc]
  rfl
theorem ents_part (l : List Bx) (i k : Nat) : (entsE l i ++ boxE (gb l i) k).length = manyB l i + k := by
  rw [List.length_append, ents_len]
  simp [boxE]
/-- What holds while entries are gathered. -/
structure EntI (B : Nat) (w V : World) (L : List En) (q : Option Addr × Nat) : Prop where
  le : Below B w V
  own : V.ownsRow B 64 3 (.slice q.1 L.length q.2) L.length (ensL L)
theorem EntI.more {B : Nat} {w V W2 : World} {L : List En} {q : Option Addr × Nat} {x : En} (h : EntI B w V L q) (hB : B ≤ w.heap.size) (hl : L.length ≤ 99) (hW2 : W2 = V.drew) : ∃ (q1 : Option Addr × Nat) (w9 : World),
    (Builtin.append_ #[28, 28] 28 #[.slice q.1 L.length q.2, .slice (some ⟨V.heap.size, 0, none⟩) 1 1]).run Tryz.prog (W2.alloc (.cells x.arr 64)) = .ok (.slice q1.1 (L.length + 1) q1.2) w9 ∧ EntI B w w9 (L ++ [x]) q1 ∧ W2.heap.size = V.heap.size ∧ Below B w W2 ∧ Below B w (W2.alloc (.cells x.arr 64)) := by
  have hz : W2.heap.size = V.heap.size := by rw [hW2]; rfl
  have hs := h.le.size
  have hA0 := World.alloc_heap_new W2 (.cells x.arr 64)
  rw [hz] at hA0
  have hb2 : Below V.heap.size V W2 := by rw [hW2]; exact (Below.refl _ V).drew
  have hbA : Below V.heap.size V (W2.alloc (.cells x.arr 64)) := by rw [hW2]; exact (Below.refl _ V).drew.alloc (Nat.le_refl _) _
  have hBV : B ≤ V.heap.size := Nat.le_trans hB h.le.size
  obtain ⟨q1, w9, hr, hn, hg, _⟩ := app_en (t := 28) (e := 64) Tryz.underlying28 infoE64 (w := W2.alloc (.cells x.arr 64)) (base := B) (ms := V.heap.size) (l := L) (x := x) (q := q) (by omega) (Nat.le_trans hBV hbA.size) (own_below h.own hbA) hA0
  have hbw : Below B w (W2.alloc (.cells x.arr 64)) := h.le.trans (hbA.mono hBV)
  refine ⟨q1, w9, hr, ⟨hbw.grown hg (Nat.le_trans hBV hbA.size) (fun j e => ?_), ?_⟩, hz, h.le.trans (hb2.mono hBV), hbw⟩
  · rcases h.own.2 with ⟨e0, _⟩ | ⟨g, cap, cur, e0, hb, _⟩
    · rw [e0] at e; cases e
    · rw [e0] at e
      simp only [Value.ownBlock, Option.some.injEq] at e
      omega
  · rw [List.length_append, List.length_singleton]
    exact hn
end Go.Proofs.YtbnhngfegnhaiaaGreatDoor
namespace Go.Proofs.YtbnhngfegnhaiaaGreatDoor
open Go.RowKit
set_option linter.unusedVariables false
set_option linter.unusedSimpArgs false
/-- A slice with so many elements is returned. -/
def LenP (n : Nat) (w : World) (e : Ending) (w' : World) : Prop := (∃ q : Option Addr × Nat, e = .returned (.slice q.1 n q.2)) ∧ Below w.heap.size w w'
theorem LenP.mk {n : Nat} {w w' : World} (q : Option Addr × Nat) (h : Below w.heap.size w w') : LenP n w (.returned (.slice q.1 n q.2)) w' := ⟨⟨q, rfl⟩, h⟩
set_option maxRecDepth 100000 in
set_option maxHeartbeats 16000000 in
theorem entries6 {m : Mx} {ab ac : Option Addr} {cb cc : Nat} {w : World} (hm : m.Ok) (h1 : IsBxs w ab m.boxes) :
    Calls Tryz.prog 6 #[m.v ab cb ac cc] w fun e w' => LenP (manyB m.boxes m.boxes.length) w e w' := by
  have hab := alloc_below w (.cells (m.arr ab cb ac cc) 25)
  have HX := Lib.hid (And.intro (World.alloc_heap_new w (.cells (m.arr ab cb ac cc) 25)) (And.intro hab (h1.mono hab)))
  have HM := Lib.hid hm
  have hn1 : (m.boxes.length : Int) ≤ 12 := by have := hm.nb; omega
  clear hab hm h1
  go_enter Tryz.func6, Tryz.ntmps6
  refine wp_seq_hid ?_
  intro K0 HK0
  go_wp2_with fail
  refine HK0.out _ _ ?_
  clear HK0 K0
  revert HX
  generalize w.alloc (.cells (m.arr ab cb ac cc) 25) = w1
  generalize hb1 : w.heap.size = b1
  intro HX
  have HE := Lib.hid hb1
  have HL : Hid (Below w.heap.size w w1) := by rw [Hid, hb1]; exact HX.out.2.1
  clear hb1
  refine wp_seq_hid ?_
  intro K1 HK1
  go_wp2_with fail
  refine HK1.out _ _ ?_
  clear HK1 K1
  refine wp_seq_hid ?_
  intro K2 HK2
  go_wp2_with fail
  go_loopw [3, 4] (fun v i wo => ∃ (k : Nat) (q : Option Addr × Nat), k ≤ m.boxes.length ∧ i = .int .i64 (k : Int) ∧ v = .slice q.1 (manyB m.boxes k) q.2 ∧ Hid (EntI w1.heap.size w1 wo (entsE m.boxes k) q)) (fun _ i _ => m.boxes.length - (intOf i).toNat)
  case atStart => exact ⟨0, (none, 0), Nat.zero_le _, rfl, rfl, Below.refl _ _, World.ownsRow_nil _ _ _ _⟩
  case round =>
    obtain ⟨i, q, hi, rfl, rfl, HW⟩ := hrel
    rename World => wo
    have HBX := Lib.hid ((HW.out.le.block _ (heap_lt HX.out.1)).trans HX.out.1)
    have m0 : wo.cell? ⟨b1, 0, none⟩ = some (.slice ab m.boxes.length cb) := by rw [cell_of_heap HBX.out]; rfl
    have HMB := Lib.hid (many_at HM.out hi)
    by_cases hlt : i < m.boxes.length
    · have HM1 := Lib.hid (many_at HM.out (k := i + 1) (by omega))
      obtain ⟨b, off, rfl, c0, t, ct, c1, hst⟩ := HX.out.2.2 i hlt
      have HST := Lib.hid (And.intro hst (And.intro c0 c1))
      have HNX : Hid (manyB m.boxes (i + 1) = manyB m.boxes i + (gb m.boxes i).titles.length) := rfl
      have hl12 : (gb m.boxes i).titles.length ≤ 12 := by have := HM1.out; rw [HNX.out] at this; omega
      clear hst c0 c1
      go_upto_region 5 with fail
      clear m0
      go_wp2_with fail
      go_loopw [5, 3] (fun j v wr => ∃ (k : Nat) (q : Option Addr × Nat), k ≤ (gb m.boxes i).titles.length ∧ j = .int .i64 (k : Int) ∧ v = .slice q.1 (manyB m.boxes i + k) q.2 ∧ Hid (EntI w1.heap.size w1 wr (entsE m.boxes i ++ boxE (gb m.boxes i) k) q)) (fun j _ _ => (gb m.boxes i).titles.length - (intOf j).toNat)
      case atStart => exact ⟨0, q, Nat.zero_le _, rfl, rfl, by simpa [Hid, boxE] using HW.out⟩
      case round =>
        obtain ⟨k, q', hk, rfl, rfl, HV⟩ := hrel
        have m0 : wr.cell? ⟨b1, 0, none⟩ = some (.slice (some ⟨b, off, none⟩) m.boxes.length cb) := by rw [cell_of_heap ((HV.out.le.block _ (heap_lt HX.out.1)).trans HX.out.1)]; rfl
        have c1 := cell_stays HV.out.le HST.out.2.2
        by_cases hkt : k < (gb m.boxes i).titles.length
        · obtain ⟨bt2, ot2, rfl, c2⟩ := HST.out.1 k hkt
          have HC2 := Lib.hid c2
          clear c2
          go_upto_region 8 with fail
          clear m0 c1
          have hpl := ents_part m.boxes i k
          have hall : (entsE m.boxes i ++ boxE (gb m.boxes i) k).length ≤ 99 := by rw [hpl]; have := HMB.out; omega
          obtain ⟨W2, hW2⟩ : ∃ W2, W2 = wr.drew := ⟨_, rfl⟩
          obtain ⟨q1, w9, hrun, hI9, hz2, hb2, hbA⟩ := HV.out.more (x := ⟨(gb m.boxes i).colour, numT (k + 1), gs (gb m.boxes i).titles k⟩) (Nat.le_refl _) hall hW2
          rw [hpl] at hrun
          have hst : ∀ v : World, (v = W2 ∨ v = W2.alloc (.cells (En.arr ⟨(gb m.boxes i).colour, numT (k + 1), gs (gb m.boxes i).titles k⟩) 64) ∨ v = w9) → Below w1.heap.size w1 v := by
            rintro v (rfl | rfl | rfl)
            · exact hb2
            · exact hbA
            · exact hI9.le
          rw [← entsE_step] at hI9
          have HG := Lib.hid (And.intro hrun (And.intro hst (And.intro hI9 (And.intro hz2 hW2))))
          clear hrun hst hI9 hz2 hW2 hb2 hbA hpl hall
          refine wpIn_wide.1 (ent8 (b1 := b1) (p := b) (o := off) (q := bt2) (r := ot2) (nb := m.boxes.length) (cb := cb) (nt := (gb m.boxes i).titles.length) (ct := ct) (i := i) (k := k) (k1 := k + 1) (n := manyB m.boxes i + k) (cw := q'.2) (cw1 := q1.2) (N := wr.heap.size) (g := q'.1) (g1 := q1.1) (col := (gb m.boxes i).colour) (sn := numT (k + 1)) (st := gs (gb m.boxes i).titles k)
            (P0 := fun v => v = W2) (P1 := fun v => v = W2.alloc (.cells (En.arr ⟨(gb m.boxes i).colour, numT (k + 1), gs (gb m.boxes i).titles k⟩) 64)) (P2 := fun v => v = w9) ?hk (by omega) (by omega) (by omega) (by omega) HG.out.2.2.2.2.symm ?l2 ?l6 ?c9 ?l11 ?l15 ?l18 ?a20 ?r21 ?hQ)
          case hk => exact (IntWalk.i64_in _ (by omega)).trans (by omega)
          case l2 => exact fun v h => (cell_of_heap (((HG.out.2.1 v h).block _ (heap_lt HX.out.1)).trans HX.out.1)).trans rfl
          case l6 => exact fun v h => cell_stays (HG.out.2.1 v h) HST.out.2.1
          case c9 => exact fun v h => text21 (by omega) v
          case l11 => exact fun v h => (cell_of_heap (((HG.out.2.1 v h).block _ (heap_lt HX.out.1)).trans HX.out.1)).trans rfl
          case l15 => exact fun v h => cell_stays (HG.out.2.1 v h) HST.out.2.2
          case l18 => exact fun v h => cell_stays (HG.out.2.1 v h) HC2.out
          case a20 => rintro v rfl; exact ⟨HG.out.2.2.2.1, rfl⟩
          case r21 => rintro v rfl; exact ⟨w9, HG.out.1, rfl⟩
          intro w' hw'
          have HTN : Hid (EntI w1.heap.size w1 w' (entsE m.boxes i ++ boxE (gb m.boxes i) (k + 1)) q1) := by rw [hw']; exact HG.out.2.2.1
          clear hw' HG
          simp only [Exit.inBlock]
          rename_i K8 hK8
          refine hK8 _ _ ?_
          clear hK8 K8
          go_wp2_with fail
          go_roundw
          case rel => exact ⟨k + 1, q1, by omega, by go_num, by rw [Nat.add_assoc], HTN.out⟩
          case measure => simp [intOf]; omega
        · obtain rfl : k = (gb m.boxes i).titles.length := by omega
          go_wp2_with fail
          clear m0 c1
          go_roundw
          case rel => exact ⟨i + 1, q', by omega, by go_num, by rw [HNX.out], HV.out⟩
          case measure => simp [intOf]; omega
    · obtain rfl : i = m.boxes.length := by omega
      go_wp2_with fail
      refine HK2.out _ _ ?_
      go_wp2_with fail
      go_ret
      exact LenP.mk q (HL.out.trans (HW.out.le.mono HL.out.size))
end Go.Proofs.YtbnhngfegnhaiaaGreatDoor
namespace Go.Proofs.YtbnhngfegnhaiaaGreatDoor
open Go.RowKit
set_option linter.unusedVariables false
set_option linter.unusedSimpArgs false
theorem ext107 (s : ByteArray) (w : World) : (callFunc 107 #[.string s, .int .u8 42]).run Tryz.prog w = .ok (.value (.int .i64 (starI s))) w := by
  have h := Lib.run_indexByteString (P := Tryz.prog) s 42 w
  have hf : Extern.find Tryz.f107 = some Extern.BytealgIndexByte.indexByte := by kernel_rfl
  have hn : Extern.findNext Tryz.f107 = none := by kernel_rfl
  have hnm : Tryz.f107.name ≠ "runtime.NumGoroutine" := by decide
  have hb : Tryz.f107.body = none := by kernel_rfl
  simp [callFunc, Tryz.func107, hf, hn, hnm, hb, h, go_sem, Result.andThen]
  rfl
theorem idx103 (s : ByteArray) (w : World) : Calls Tryz.prog 103 #[.string s, .int .u8 42] w fun e w' => e = .returned (.int .i64 (starI s)) ∧ w = w' := by
  have hx := ext107 s
  go_enter Tryz.func103, Tryz.ntmps103
  go_wp2_with fail
  go_ret
  exact ⟨rfl, rfl⟩
theorem star_eq {s : ByteArray} (h : (([42] : List UInt8) == s.toList) = true) : starI s = 0 := by
  have h1 : [42] = s.toList := by simpa using h
  rw [Lib.toList_data] at h1
  unfold starI
  rw [← h1]
  rfl
theorem idxB_cases (c : UInt8) : ∀ l : List UInt8, Lib.indexByte l c = -1 ∨ (0 ≤ Lib.indexByte l c ∧ Lib.indexByte l c < l.length)
  | [] => .inl rfl
  | b :: l => by
    unfold Lib.indexByte
    split
    · exact .inr ⟨Int.le_refl _, by simp⟩
    · rcases idxB_cases c l with h | ⟨h1, h2⟩
      · rw [h]; exact .inl rfl
      · have hne : (Lib.indexByte l c == -1) = false := by simp; omega
        rw [if_neg (by rw [hne]; simp)]
        refine .inr ⟨by omega, ?_⟩
        rw [List.length_cons]
        omega
theorem star_cases (s : ByteArray) : starI s = -1 ∨ ∃ i : Nat, starI s = (i : Int) ∧ i < s.size := by
  rcases idxB_cases 42 s.data.toList with h | ⟨h1, h2⟩
  · exact .inl h
  · refine .inr ⟨(starI s).toNat, ?_, ?_⟩
    · show starI s = _
      have : 0 ≤ starI s := h1
      omega
    · rw [Lib.size_eq]
      have h3 : starI s < s.data.toList.length := h2
      have : 0 ≤ starI s := h1
      omega
theorem index100 (s : ByteArray) (w : World) : Calls Tryz.prog 100 #[.string s, .string ⟨#[42]⟩] w fun e w' => e = .returned (.int .i64 (starI s)) ∧ w = w' := by
  have hix : ∀ w, (Instr.index 9 (.string ⟨#[42]⟩) (.int .i64 0)).run Tryz.prog w = .ok (.int .u8 42) w := fun w => by kernel_rfl
  have hsz : (ByteArray.mk #[42]).size = 1 := rfl
  cases hq : (([42] : List UInt8) == s.toList)
  · go_enter Tryz.func100, Tryz.ntmps100
    go_wp2_with fail
    refine (idx103 s w).mono ?_
    rintro e w' ⟨rfl, rfl⟩
    go_wp2_with fail
    go_ret
    exact ⟨rfl, rfl⟩
  · have HS := Lib.hid (star_eq hq)
    go_enter Tryz.func100, Tryz.ntmps100
    go_wp2_with fail
    go_ret
    exact ⟨by rw [HS.out]; rfl, rfl⟩
/-- A text that is cut at its star. -/
def cutV (s : ByteArray) : Value := if 0 ≤ starI s then .tuple #[.string (s.extract 0 (starI s).toNat), .string (s.extract ((starI s).toNat + 1) s.size), .bool true] else .tuple #[.string s, .string ⟨#[]⟩, .bool false]
theorem cut94 (s : ByteArray) (hs : s.size ≤ 1000) (w : World) : Calls Tryz.prog 94 #[.string s, .string ⟨#[42]⟩] w fun e w' => e = .returned (cutV s) ∧ Below w.heap.size w w' := by
  have HC := Lib.hid (index100 s w)
  have hsz : (ByteArray.mk #[42]).size = 1 := rfl
  rcases star_cases s with h | ⟨i, h, hi⟩
  · have HV : Hid (cutV s = .tuple #[.string s, .string ⟨#[]⟩, .bool false]) := by unfold cutV; rw [h]; rfl
    rw [HV.out]
    rw [h] at HC
    clear h
    go_enter Tryz.func94, Tryz.ntmps94
    go_wp2_with fail
    refine HC.out.mono ?_
    rintro e w' ⟨rfl, rfl⟩
    go_wp2_with fail
    exact bodyPost_ret (results_tmp3 rfl _ _ _) rfl ⟨rfl, Below.refl _ _⟩
  · have HV : Hid (cutV s = .tuple #[.string (s.extract 0 i), .string (s.extract (i + 1) s.size), .bool true]) := by unfold cutV; rw [h, if_pos (by omega)]; rfl
    rw [HV.out]
    rw [h] at HC
    clear h
    have hi2 : (i : Int) < s.size := by omega
    go_enter Tryz.func94, Tryz.ntmps94
    go_wp2_with fail
    refine HC.out.mono ?_
    rintro e w' ⟨rfl, rfl⟩
    go_wp2_with fail
    refine wp_region_aft mixed (by kernel_rfl) ?_
    repeat (go_big_quiet_step (fail))
    refine wpQuiet_nil ?_
    rintro _ ⟨y, rfl⟩
    rename_i K3 hK3
    refine hK3 _ _ ?_
    go_wp2_with fail
    exact bodyPost_ret (results_tmp3 rfl _ _ _) rfl ⟨rfl, y.h⟩
theorem cut89 (s : ByteArray) (hs : s.size ≤ 1000) (w : World) : Calls Tryz.prog 89 #[.string s, .string ⟨#[42]⟩] w fun e w' => e = .returned (cutV s) ∧ Below w.heap.size w w' := by
  have HC := Lib.hid (cut94 s hs w)
  have HV : Hid (∃ a b c, cutV s = .tuple #[a, b, c]) := by unfold cutV; split <;> exact ⟨_, _, _, rfl⟩
  obtain ⟨a, b, c, hv⟩ := HV.out
  rw [hv] at HC ⊢
  clear HV hv
  go_enter Tryz.func89, Tryz.ntmps89
  go_wp2_with fail
  refine HC.out.mono ?_
  rintro e w' ⟨rfl, hb⟩
  have HB := Lib.hid hb
  clear hb
  go_wp2_with fail
  exact bodyPost_ret (results_tmp3 rfl _ _ _) rfl ⟨rfl, HB.out⟩
/-- A piece as an interface's value. -/
def pieceV (s : ByteArray) : Value := if 0 ≤ starI s then .iface 155 (.agg #[.string (s.extract 0 (starI s).toNat), .string (s.extract ((starI s).toNat + 1) s.size)]) else .iface 153 (.string s)
theorem piece75 (s : ByteArray) (hs : s.size ≤ 1000) (w : World) : Calls Tryz.prog 75 #[.string s] w fun e w' => e = .returned (pieceV s) ∧ Below w.heap.size w w' := by
  have HC := Lib.hid (cut89 s hs w)
  unfold cutV at HC
  unfold pieceV
  by_cases h : 0 ≤ starI s
  · rw [if_pos h] at HC ⊢
    clear h
    revert HC
    generalize s.extract 0 (starI s).toNat = a
    generalize s.extract ((starI s).toNat + 1) s.size = b
    intro HC
    go_enter Tryz.func75, Tryz.ntmps75
    go_wp2_with fail
    refine HC.out.mono ?_
    rintro e w' ⟨rfl, hb⟩
    have HB := Lib.hid hb
    clear hb
    go_wp2_with fail
    go_ret
    exact ⟨rfl, HB.out⟩
  · rw [if_neg h] at HC ⊢
    clear h
    go_enter Tryz.func75, Tryz.ntmps75
    go_wp2_with fail
    refine HC.out.mono ?_
    rintro e w' ⟨rfl, hb⟩
    have HB := Lib.hid hb
    clear hb
    go_wp2_with fail
    go_ret
    exact ⟨rfl, HB.out⟩
end Go.Proofs.YtbnhngfegnhaiaaGreatDoor
namespace Go.Proofs.YtbnhngfegnhaiaaGreatDoor
open Go.RowKit
set_option linter.unusedVariables false
set_option linter.unusedSimpArgs false
theorem whole_yes {p s : ByteArray} (h1 : p.size = s.size) (h2 : ∀ j, j < s.size → (bt p j == 63 || bt p j == bt s j) = true) : wholeB p s = true := by
  unfold wholeB
  rw [Bool.and_eq_true]
  refine ⟨decide_eq_true h1, ?_⟩
  rw [List.all_eq_true]
  intro k hk
  exact h2 k (List.mem_range.1 hk)
theorem whole_no {p s : ByteArray} {k : Nat} (hk : k < s.size) (h : (bt p k == 63 || bt p k == bt s k) = false) : wholeB p s = false := by
  cases hw : wholeB p s
  · rfl
  · unfold wholeB at hw
    rw [Bool.and_eq_true, List.all_eq_true] at hw
    have := hw.2 k (List.mem_range.2 hk)
    rw [h] at this
    cases this
set_option maxRecDepth 100000 in
set_option maxHeartbeats 4000000 in
theorem whole126 {p s : ByteArray} (hs : s.size ≤ 1000) (w : World) : Calls Tryz.prog 126 #[.string p, .string s] w fun e w' => e = .returned (.bool (wholeB p s)) ∧ Below w.heap.size w w' := by
  by_cases hz : p.size = s.size
  · have hz2 : (p.size : Int) = s.size := by omega
    have HY := Lib.hid (whole_yes hz)
    have HN : Hid (∀ k, k < s.size → (bt p k == 63 || bt p k == bt s k) = false → wholeB p s = false) := fun k hk h => whole_no hk h
    revert HY HN
    generalize wholeB p s = b
    intro HY HN
    go_enter Tryz.func126, Tryz.ntmps126
    go_wp2_with fail
    go_loopw [13] (fun i wr => ∃ k : Nat, k ≤ s.size ∧ i = .int .i64 (k : Int) ∧ Hid (Below w.heap.size w wr ∧ ∀ j, j < k → (bt p j == 63 || bt p j == bt s j) = true)) (fun i _ => s.size - (intOf i).toNat)
    case atStart => exact ⟨0, Nat.zero_le _, rfl, Below.refl _ _, fun j hj => by omega⟩
    case round =>
      obtain ⟨k, hk, rfl, HW⟩ := hrel
      by_cases hlt : k < s.size
      · have hix := run_idx9 hlt
        have hip := run_idx153 (s := p) (k := k) (by omega)
        have HK : Hid ((bt p k == 63 || bt p k == bt s k) = true → ∀ j, j < k + 1 → (bt p j == 63 || bt p j == bt s j) = true) := fun h j hj => by
          by_cases hjk : j = k
          · rw [hjk]; exact h
          · exact HW.out.2 j (by omega)
        have HNK := Lib.hid (HN.out k hlt)
        revert hix hip HK HNK
        generalize bt p k = x
        generalize bt s k = y
        intro hix hip HK HNK
        go_upto_region 6 with fail
        by_cases h1 : x = 63
        · have d1 : ((x : Int) != 63) = false := by simp; omega
          have H1 := Lib.hid h1
          clear h1
          refine wp_region_aft mixed (by kernel_rfl) ?_
          repeat (go_big_quiet_step (fail))
          refine wpQuiet_nil ?_
          rintro _ ⟨v, rfl⟩
          clear hix hip d1
          obtain ⟨w1, hw1⟩ : ∃ w1, v.v = w1 := ⟨_, rfl⟩
          have hbb := v.h
          rw [hw1] at hbb ⊢
          clear hw1 v
          have HB := Lib.hid (HW.out.1.trans (hbb.mono HW.out.1.size))
          clear hbb
          have HOK := Lib.hid (HK.out (by simp [H1.out]))
          clear H1 HK HNK
          rename_i K6 hK6
          refine hK6 _ _ ?_
          clear hK6 K6
          go_wp2_with fail
          go_roundw
          case rel => exact ⟨k + 1, by omega, by go_num, HB.out, HOK.out⟩
          case measure => simp [intOf]; omega
        · have d1 : ((x : Int) != 63) = true := by simp; omega
          have H1 := Lib.hid h1
          clear h1
          by_cases h2 : x = y
          · have d2 : ((x : Int) != (y : Int)) = false := by simp; omega
            have H2 := Lib.hid h2
            clear h2
            refine wp_region_aft mixed (by kernel_rfl) ?_
            repeat (go_big_quiet_step (fail))
            refine wpQuiet_nil ?_
            rintro _ ⟨v, rfl⟩
            clear hix hip d1 d2
            obtain ⟨w1, hw1⟩ : ∃ w1, v.v = w1 := ⟨_, rfl⟩
            have hbb := v.h
            rw [hw1] at hbb ⊢
            clear hw1 v
            have HB := Lib.hid (HW.out.1.trans (hbb.mono HW.out.1.size))
            clear hbb
            have HOK := Lib.hid (HK.out (by simp [H2.out]))
            clear H1 H2 HK HNK
            rename_i K6 hK6
            refine hK6 _ _ ?_
            clear hK6 K6
            go_wp2_with fail
            go_roundw
            case rel => exact ⟨k + 1, by omega, by go_num, HB.out, HOK.out⟩
            case measure => simp [intOf]; omega
          · have d2 : ((x : Int) != (y : Int)) = true := by simp; omega
            have H2 := Lib.hid h2
            clear h2
            refine wp_region_aft mixed (by kernel_rfl) ?_
            repeat (go_big_quiet_step (fail))
            refine wpQuiet_nil ?_
            rintro _ ⟨v, rfl⟩
            clear hix hip d1 d2
            obtain ⟨w1, hw1⟩ : ∃ w1, v.v = w1 := ⟨_, rfl⟩
            have hbb := v.h
            rw [hw1] at hbb ⊢
            clear hw1 v
            have HB := Lib.hid (HW.out.1.trans (hbb.mono HW.out.1.size))
            clear hbb
            have HOK := Lib.hid (HNK.out (by simp [H1.out, H2.out]))
            clear H1 H2 HK HNK
            rename_i K6 hK6
            refine hK6 _ _ ?_
            clear hK6 K6
            go_wp2_with fail
            go_ret
            exact ⟨by rw [HOK.out]; rfl, HB.out⟩
      · obtain rfl : k = s.size := by omega
        have HOK := Lib.hid (HY.out HW.out.2)
        go_wp2_with fail
        go_ret
        exact ⟨by rw [HOK.out]; rfl, HW.out.1⟩
  · have hz2 : ¬ (p.size : Int) = s.size := by omega
    have HN : Hid (wholeB p s = false) := by unfold wholeB; rw [decide_eq_false hz]; rfl
    rw [HN.out]
    clear hz HN
    go_enter Tryz.func126, Tryz.ntmps126
    go_wp2_with fail
    go_ret
    exact ⟨rfl, Below.refl _ _⟩
end Go.Proofs.YtbnhngfegnhaiaaGreatDoor
namespace Go.Proofs.YtbnhngfegnhaiaaGreatDoor
open Go.RowKit
set_option linter.unusedVariables false
set_option linter.unusedSimpArgs false
set_option maxRecDepth 100000 in
set_option maxHeartbeats 4000000 in
theorem ends127 {h t s : ByteArray} (hs : s.size ≤ 1000) (hh : h.size ≤ 1000) (ht : t.size ≤ 1000) (w : World) : Calls Tryz.prog 127 #[.agg #[.string h, .string t], .string s] w fun e w' => e = .returned (.bool (endsB h t s)) ∧ Below w.heap.size w w' := by
  have hh2 : (h.size : Int) ≤ 1000 := by omega
  have ht2 : (t.size : Int) ≤ 1000 := by omega
  have C0 : Hid (h.size ≤ s.size → ∀ w, Calls Tryz.prog 126 #[.string h, .string (s.extract 0 h.size)] w fun e w' => e = .returned (.bool (wholeB h (s.extract 0 h.size))) ∧ Below w.heap.size w w') := fun hle w => whole126 (by rw [ByteArray.size_extract]; omega) w
  have C1 : Hid (t.size ≤ s.size → ∀ w, Calls Tryz.prog 126 #[.string t, .string (s.extract (s.size - t.size) s.size)] w fun e w' => e = .returned (.bool (wholeB t (s.extract (s.size - t.size) s.size))) ∧ Below w.heap.size w w') := fun hle w => whole126 (by rw [ByteArray.size_extract]; omega) w
  unfold endsB
  by_cases hz : h.size + t.size ≤ s.size
  · have d1 : (h.size : Int) + t.size ≤ s.size := by omega
    have d2 : (h.size : Int) ≤ s.size := by omega
    have d3 : (t.size : Int) ≤ s.size := by omega
    have C0 := Lib.hid (C0.out (by omega))
    have C1 := Lib.hid (C1.out (by omega))
    rw [decide_eq_true hz, Bool.true_and]
    clear hz
    cases h1 : wholeB h (s.extract 0 h.size)
    · rw [h1] at C0
      clear h1
      have hab := alloc_below w (.cells #[.string h, .string t] 155)
      have HX := Lib.hid (And.intro (World.alloc_heap_new w (.cells #[.string h, .string t] 155)) hab)
      clear hab
      go_enter Tryz.func127, Tryz.ntmps127
      refine wp_seq_hid ?_
      intro K0 HK0
      go_wp2_with fail
      refine HK0.out _ _ ?_
      clear HK0 K0
      revert HX
      generalize w.alloc (.cells #[.string h, .string t] 155) = w1
      generalize hb1 : w.heap.size = b1
      intro HX
      have HE := Lib.hid hb1
      clear hb1
      have v0 : ∀ y : Aft w1.heap.size w1, y.v.cell? ⟨b1, 0, none⟩ = some (.string h) := fun y => by rw [cell_of_heap ((y.h.block _ (heap_lt HX.out.1)).trans HX.out.1)]; rfl
      have v1 : ∀ y : Aft w1.heap.size w1, y.v.cell? ⟨b1, 1, none⟩ = some (.string t) := fun y => by rw [cell_of_heap ((y.h.block _ (heap_lt HX.out.1)).trans HX.out.1)]; rfl
      refine wp_seq_hid ?_
      intro K1 HK1
      refine wp_region_aft mixed (by kernel_rfl) ?_
      repeat (go_big_quiet_step (fail))
      refine wpQuiet_nil ?_
      rintro _ ⟨y, rfl⟩
      refine HK1.out _ _ ?_
      clear HK1 K1 v0 v1
      obtain ⟨w2, hw2⟩ : ∃ w2, y.v = w2 := ⟨_, rfl⟩
      have hbb := y.h
      rw [hw2] at hbb ⊢
      clear hw2 y
      have HB := Lib.hid (And.intro ((hbb.block _ (heap_lt HX.out.1)).trans HX.out.1) (HX.out.2.trans (hbb.mono (by rw [← HE.out]; exact HX.out.2.size))))
      clear hbb HX
      have v0 : ∀ y : Aft w2.heap.size w2, y.v.cell? ⟨b1, 0, none⟩ = some (.string h) := fun y => by rw [cell_of_heap ((y.h.block _ (heap_lt HB.out.1)).trans HB.out.1)]; rfl
      have v1 : ∀ y : Aft w2.heap.size w2, y.v.cell? ⟨b1, 1, none⟩ = some (.string t) := fun y => by rw [cell_of_heap ((y.h.block _ (heap_lt HB.out.1)).trans HB.out.1)]; rfl
      refine wp_seq_hid ?_
      intro K2 HK2
      refine wp_region_aft mixed (by kernel_rfl) ?_
      repeat (go_big_quiet_step (fail))
      go_big_quiet_step ((go_at_call 126; exact calls_aft (C0.out _)))
      repeat (go_big_quiet_step (fail))
      refine wpQuiet_nil ?_
      rintro _ ⟨y, rfl⟩
      clear v0 v1
      obtain ⟨w3, hw3⟩ : ∃ w3, y.v = w3 := ⟨_, rfl⟩
      have hbb := y.h
      rw [hw3] at hbb ⊢
      clear hw3 y
      have HB3 := Lib.hid (HB.out.2.trans (hbb.mono (by rw [← HE.out]; exact HB.out.2.size)))
      clear hbb
      refine HK2.out _ _ ?_
      go_wp2_with fail
      go_ret
      exact ⟨rfl, HB3.out⟩
    · rw [h1] at C0
      clear h1
      rw [Bool.true_and]
      revert C1
      generalize hb2 : wholeB t (s.extract (s.size - t.size) s.size) = b2
      intro C1
      clear hb2
      have hab := alloc_below w (.cells #[.string h, .string t] 155)
      have HX := Lib.hid (And.intro (World.alloc_heap_new w (.cells #[.string h, .string t] 155)) hab)
      clear hab
      go_enter Tryz.func127, Tryz.ntmps127
      refine wp_seq_hid ?_
      intro K0 HK0
      go_wp2_with fail
      refine HK0.out _ _ ?_
      clear HK0 K0
      revert HX
      generalize w.alloc (.cells #[.string h, .string t] 155) = w1
      generalize hb1 : w.heap.size = b1
      intro HX
      have HE := Lib.hid hb1
      clear hb1
      have v0 : ∀ y : Aft w1.heap.size w1, y.v.cell? ⟨b1, 0, none⟩ = some (.string h) := fun y => by rw [cell_of_heap ((y.h.block _ (heap_lt HX.out.1)).trans HX.out.1)]; rfl
      have v1 : ∀ y : Aft w1.heap.size w1, y.v.cell? ⟨b1, 1, none⟩ = some (.string t) := fun y => by rw [cell_of_heap ((y.h.block _ (heap_lt HX.out.1)).trans HX.out.1)]; rfl
      refine wp_seq_hid ?_
      intro K1 HK1
      refine wp_region_aft mixed (by kernel_rfl) ?_
      repeat (go_big_quiet_step (fail))
      refine wpQuiet_nil ?_
      rintro _ ⟨y, rfl⟩
      refine HK1.out _ _ ?_
      clear HK1 K1 v0 v1
      obtain ⟨w2, hw2⟩ : ∃ w2, y.v = w2 := ⟨_, rfl⟩
      have hbb := y.h
      rw [hw2] at hbb ⊢
      clear hw2 y
      have HB := Lib.hid (And.intro ((hbb.block _ (heap_lt HX.out.1)).trans HX.out.1) (HX.out.2.trans (hbb.mono (by rw [← HE.out]; exact HX.out.2.size))))
      clear hbb HX
      have v0 : ∀ y : Aft w2.heap.size w2, y.v.cell? ⟨b1, 0, none⟩ = some (.string h) := fun y => by rw [cell_of_heap ((y.h.block _ (heap_lt HB.out.1)).trans HB.out.1)]; rfl
      have v1 : ∀ y : Aft w2.heap.size w2, y.v.cell? ⟨b1, 1, none⟩ = some (.string t) := fun y => by rw [cell_of_heap ((y.h.block _ (heap_lt HB.out.1)).trans HB.out.1)]; rfl
      refine wp_seq_hid ?_
      intro K2 HK2
      refine wp_region_aft mixed (by kernel_rfl) ?_
      repeat (go_big_quiet_step (fail))
      go_big_quiet_step ((go_at_call 126; exact calls_aft (C0.out _)))
      repeat (go_big_quiet_step (fail))
      go_big_quiet_step ((go_at_call 126; exact calls_aft (C1.out _)))
      repeat (go_big_quiet_step (fail))
      refine wpQuiet_nil ?_
      rintro _ ⟨y, rfl⟩
      clear v0 v1
      obtain ⟨w3, hw3⟩ : ∃ w3, y.v = w3 := ⟨_, rfl⟩
      have hbb := y.h
      rw [hw3] at hbb ⊢
      clear hw3 y
      have HB3 := Lib.hid (HB.out.2.trans (hbb.mono (by rw [← HE.out]; exact HB.out.2.size)))
      clear hbb
      refine HK2.out _ _ ?_
      go_wp2_with fail
      go_ret
      exact ⟨rfl, HB3.out⟩
  · have d1 : decide ((h.size : Int) + t.size ≤ s.size) = false := by simp; omega
    rw [decide_eq_false hz, Bool.false_and, Bool.false_and]
    have d2 := decide_eq_false hz
    clear hz C0 C1
    have hab := alloc_below w (.cells #[.string h, .string t] 155)
    have HX := Lib.hid (And.intro (World.alloc_heap_new w (.cells #[.string h, .string t] 155)) hab)
    clear hab
    go_enter Tryz.func127, Tryz.ntmps127
    refine wp_seq_hid ?_
    intro K0 HK0
    go_wp2_with fail
    refine HK0.out _ _ ?_
    clear HK0 K0
    revert HX
    generalize w.alloc (.cells #[.string h, .string t] 155) = w1
    generalize hb1 : w.heap.size = b1
    intro HX
    have HE := Lib.hid hb1
    clear hb1
    have v0 : ∀ y : Aft w1.heap.size w1, y.v.cell? ⟨b1, 0, none⟩ = some (.string h) := fun y => by rw [cell_of_heap ((y.h.block _ (heap_lt HX.out.1)).trans HX.out.1)]; rfl
    have v1 : ∀ y : Aft w1.heap.size w1, y.v.cell? ⟨b1, 1, none⟩ = some (.string t) := fun y => by rw [cell_of_heap ((y.h.block _ (heap_lt HX.out.1)).trans HX.out.1)]; rfl
    refine wp_seq_hid ?_
    intro K1 HK1
    refine wp_region_aft mixed (by kernel_rfl) ?_
    repeat (go_big_quiet_step (fail))
    refine wpQuiet_nil ?_
    rintro _ ⟨y, rfl⟩
    refine HK1.out _ _ ?_
    clear HK1 K1 v0 v1
    obtain ⟨w2, hw2⟩ : ∃ w2, y.v = w2 := ⟨_, rfl⟩
    have hbb := y.h
    rw [hw2] at hbb ⊢
    clear hw2 y
    have HB := Lib.hid (And.intro ((hbb.block _ (heap_lt HX.out.1)).trans HX.out.1) (HX.out.2.trans (hbb.mono (by rw [← HE.out]; exact HX.out.2.size))))
    clear hbb HX
    have v0 : ∀ y : Aft w2.heap.size w2, y.v.cell? ⟨b1, 0, none⟩ = some (.string h) := fun y => by rw [cell_of_heap ((y.h.block _ (heap_lt HB.out.1)).trans HB.out.1)]; rfl
    have v1 : ∀ y : Aft w2.heap.size w2, y.v.cell? ⟨b1, 1, none⟩ = some (.string t) := fun y => by rw [cell_of_heap ((y.h.block _ (heap_lt HB.out.1)).trans HB.out.1)]; rfl
    refine wp_seq_hid ?_
    intro K2 HK2
    refine wp_region_aft mixed (by kernel_rfl) ?_
    repeat (go_big_quiet_step (fail))
    refine wpQuiet_nil ?_
    rintro _ ⟨y, rfl⟩
    clear v0 v1
    obtain ⟨w3, hw3⟩ : ∃ w3, y.v = w3 := ⟨_, rfl⟩
    have hbb := y.h
    rw [hw3] at hbb ⊢
    clear hw3 y
    have HB3 := Lib.hid (HB.out.2.trans (hbb.mono (by rw [← HE.out]; exact HB.out.2.size)))
    clear hbb
    refine HK2.out _ _ ?_
    go_wp2_with fail
    go_ret
    exact ⟨rfl, HB3.out⟩
end Go.Proofs.YtbnhngfegnhaiaaGreatDoor
namespace Go.Proofs.YtbnhngfegnhaiaaGreatDoor
open Go.RowKit
set_option linter.unusedVariables false
set_option linter.unusedSimpArgs false
theorem cf76 (args : Array Value) (w : World) : (callFunc 76 args).run Tryz.prog w = .ok (.enter 76 args) w := by simp [callFunc, Tryz.func76, Tryz.f76, go_sem]
theorem cf77 (args : Array Value) (w : World) : (callFunc 77 args).run Tryz.prog w = .ok (.enter 77 args) w := by simp [callFunc, Tryz.func77, Tryz.f77, go_sem]
theorem fld76 (x : En) (w : World) : Calls Tryz.prog 76 #[.agg x.arr] w fun e w' => e = .returned (.string x.number) ∧ Below w.heap.size w w' := by
  have hab := alloc_below w (.cells x.arr 123)
  have HX := Lib.hid (And.intro (World.alloc_heap_new w (.cells x.arr 123)) hab)
  clear hab
  go_enter Tryz.func76, Tryz.ntmps76
  refine wp_seq_hid ?_
  intro K0 HK0
  go_wp2_with fail
  refine HK0.out _ _ ?_
  clear HK0 K0
  revert HX
  generalize w.alloc (.cells x.arr 123) = w1
  generalize hb1 : w.heap.size = b1
  intro HX
  have m1 : w1.cell? ⟨b1, 1, none⟩ = some (.string x.number) := by rw [cell_of_heap HX.out.1]; rfl
  go_wp2_with fail
  go_ret
  exact ⟨rfl, HX.out.2⟩
theorem fld77 (x : En) (w : World) : Calls Tryz.prog 77 #[.agg x.arr] w fun e w' => e = .returned (.string x.title) ∧ Below w.heap.size w w' := by
  have hab := alloc_below w (.cells x.arr 123)
  have HX := Lib.hid (And.intro (World.alloc_heap_new w (.cells x.arr 123)) hab)
  clear hab
  go_enter Tryz.func77, Tryz.ntmps77
  refine wp_seq_hid ?_
  intro K0 HK0
  go_wp2_with fail
  refine HK0.out _ _ ?_
  clear HK0 K0
  revert HX
  generalize w.alloc (.cells x.arr 123) = w1
  generalize hb1 : w.heap.size = b1
  intro HX
  have m1 : w1.cell? ⟨b1, 2, none⟩ = some (.string x.title) := by rw [cell_of_heap HX.out.1]; rfl
  go_wp2_with fail
  go_ret
  exact ⟨rfl, HX.out.2⟩
/-- A piece as an interface's value, with its method. -/
structure PieceOk (p : ByteArray) (T : TypeId) (x : Value) (fn : Nat) : Prop where
  v : pieceV p = .iface T x
  meth : ∀ w, (method 291 T x "pairworks/heap.suits").run Tryz.prog w = .ok (fn, x) w
  cf : ∀ args w, (callFunc fn args).run Tryz.prog w = .ok (.enter fn args) w
  call : ∀ (s : ByteArray) (w : World), s.size ≤ 1000 → Calls Tryz.prog fn #[x, .string s] w fun e w' => e = .returned (.bool (suitsB p s)) ∧ Below w.heap.size w w'
theorem meth153 (v : Value) (w : World) : (method 291 153 v "pairworks/heap.suits").run Tryz.prog w = .ok (126, v) w := by kernel_rfl
theorem meth155 (v : Value) (w : World) : (method 291 155 v "pairworks/heap.suits").run Tryz.prog w = .ok (127, v) w := by kernel_rfl
theorem piece_ok {p : ByteArray} (hp : p.size ≤ 1000) : ∃ T x fn, PieceOk p T x fn := by
  by_cases h : 0 ≤ starI p
  · refine ⟨155, _, 127, by unfold pieceV; rw [if_pos h], fun w => meth155 _ w, fun args w => by simp [callFunc, Tryz.func127, Tryz.f127, go_sem], fun s w hs => ?_⟩
    unfold suitsB
    rw [if_pos h]
    exact ends127 hs (by rw [ByteArray.size_extract]; omega) (by rw [ByteArray.size_extract]; omega) w
  · refine ⟨153, _, 126, by unfold pieceV; rw [if_neg h], fun w => meth153 _ w, fun args w => by simp [callFunc, Tryz.func126, Tryz.f126, go_sem], fun s w hs => ?_⟩
    unfold suitsB
    rw [if_neg h]
    exact whole126 hs w
structure fit1F (b3 : Nat) (nm : ByteArray) (tx : ByteArray) (T1 : Nat) (y1 : Value) (T2 : Nat) (y2 : Value) (S0 : Bool → Nat → World → Prop) (S1 : Bool → Nat → Unit → World → Prop) (S2 : Bool → Nat → Unit → Unit → World → Prop) (S3 : Bool → Nat → Unit → Unit → World → Prop) (d : Nat → Bool) (x10 x11 x12 x13 x14 x15 x16 x17 x18 x5 : Value) (ms : Nat) (u1 : Unit) (u2 : Unit) (w : World) : Prop where
  q1 : d 1 = true → d 0 = true
  q2 : d 2 = true → d 1 = true
  q3 : d 3 = true → d 2 = true
  q5 : d 5 = true → d 4 = true
  q6 : d 6 = true → d 2 = true ∧ d 5 = true
  q7 : d 7 = true → d 6 = true
  q8 : d 8 = true → d 3 = true ∧ d 7 = true
  q10 : d 10 = true → d 0 = true ∧ d 1 = true ∧ d 2 = true ∧ d 3 = true ∧ d 4 = true ∧ d 5 = true ∧ d 6 = true ∧ d 7 = true ∧ d 8 = true ∧ d 9 = true
  f0 : d 0 = true → x10 = .pointer (some ⟨b3, 1, none⟩)
  f1 : d 1 = true → x11 = .string nm
  f2 : d 2 = true → x12 = .iface T1 y1
  f3 : d 3 = true → x13 = .agg #[.iface T1 y1, .func (.func 76) #[] #[]]
  f4 : d 4 = true → x14 = .pointer (some ⟨b3, 2, none⟩)
  f5 : d 5 = true → x15 = .string tx
  f6 : d 6 = true → x16 = .iface T2 y2
  f7 : d 7 = true → x17 = .agg #[.iface T2 y2, .func (.func 77) #[] #[]]
  f8 : d 8 = true → x18 = .agg #[.iface T1 y1, .func (.func 76) #[] #[], .iface T2 y2, .func (.func 77) #[] #[]]
  f9 : d 9 = true → x5 = .pointer (some ⟨ms, 0, none⟩)
  st0 : d 2 = false → S0 (d 9) ms w
  st1 : d 2 = true → d 6 = false → S1 (d 9) ms u1 w
  st2 : d 6 = true → d 10 = false → S2 (d 9) ms u1 u2 w
  st3 : d 10 = true → S3 (d 9) ms u1 u2 w
  mz : d 9 = false → ms = 0
noncomputable def fit1C : Code := (Tryz.f56.body.bind (regionAt 1)).getD .skip
set_option maxRecDepth 100000 in
set_option maxHeartbeats 4000000 in
theorem fit1 {b3 : Nat} {nm : ByteArray} {tx : ByteArray} {T1 : Nat} {y1 : Value} {T2 : Nat} {y2 : Value} {S0 : Bool → Nat → World → Prop} {S1 : Bool → Nat → Unit → World → Prop} {S2 : Bool → Nat → Unit → Unit → World → Prop} {S3 : Bool → Nat → Unit → Unit → World → Prop} {Q : Exit → Act → World → Prop} {W1 : World} (h0 : S0 false 0 W1.drew)
    (kl1 : Hid (∀ (fs : Bool) (ms : Nat) (w : World), (S0 fs ms w) → w.cell? ⟨b3, 1, none⟩ = some (.string nm)))
    (kc2 : Hid (∀ (fs : Bool) (ms : Nat) (w : World), S0 fs ms w → Calls Tryz.prog 75 #[.string nm] w fun e w' => ∃ u1 : Unit, e = .returned (.iface T1 y1) ∧ S1 fs ms u1 w'))
    (kl5 : Hid (∀ (fs : Bool) (ms : Nat) (u1 : Unit) (w : World), (S0 fs ms w ∨ S1 fs ms u1 w) → w.cell? ⟨b3, 2, none⟩ = some (.string tx)))
    (kc6 : Hid (∀ (fs : Bool) (ms : Nat) (u1 : Unit) (w : World), S1 fs ms u1 w → Calls Tryz.prog 75 #[.string tx] w fun e w' => ∃ u2 : Unit, e = .returned (.iface T2 y2) ∧ S2 fs ms u1 u2 w'))
    (ks0 : Hid (∀ (w : World), S0 false 0 w → S0 true w.heap.size (w.alloc (.cells #[.nilIface, .nilFunc, .nilIface, .nilFunc] 144))))
    (ks1 : Hid (∀ (u1 : Unit) (w : World), S1 false 0 u1 w → S1 true w.heap.size u1 (w.alloc (.cells #[.nilIface, .nilFunc, .nilIface, .nilFunc] 144))))
    (ks2 : Hid (∀ (u1 : Unit) (u2 : Unit) (w : World), S2 false 0 u1 u2 w → S2 true w.heap.size u1 u2 (w.alloc (.cells #[.nilIface, .nilFunc, .nilIface, .nilFunc] 144))))
    (kc10 : Hid (∀ (ms : Nat) (u1 : Unit) (u2 : Unit) (w : World), S2 true ms u1 u2 w → (∃ u, w.cell? ⟨ms, 0, none⟩ = some u) ∧ w.frozen? ⟨ms, 0, none⟩ = false ∧ (∃ u, w.cell? ⟨ms, 1, none⟩ = some u) ∧ w.frozen? ⟨ms, 1, none⟩ = false ∧ (∃ u, w.cell? ⟨ms, 2, none⟩ = some u) ∧ w.frozen? ⟨ms, 2, none⟩ = false ∧ (∃ u, w.cell? ⟨ms, 3, none⟩ = some u) ∧ w.frozen? ⟨ms, 3, none⟩ = false ∧ S3 true ms u1 u2 ((((w.setCell ⟨ms, 0, none⟩ (.iface T1 y1)).setCell ⟨ms, 1, none⟩ (.func (.func 76) #[] #[])).setCell ⟨ms, 2, none⟩ (.iface T2 y2)).setCell ⟨ms, 3, none⟩ (.func (.func 77) #[] #[]))))
    {s0 s1 s2 s4 s5 s6 s7 s8 s9 s10 s11 s12 s13 s14 s15 s16 s17 s18 s19 s20 s21 s22 s23 s24 s25 s26 s27 s28 s29 s30 s31 s32 s33 s34 s35 s36 s37 s38 s39 s40 s41 s42 s43 s44 s45 s46 s47 s48 s49 s50 s51 s52 s53 s54 s55 s56 s57 s58 s59 s60 : Value} {dd : List Deferred}
    (hQ : ∀ (ms : Nat) (u1 : Unit) (u2 : Unit) (w' : World), S3 true ms u1 u2 w' → Q .normal { tmps := #[s0, s1, s2, .pointer (some ⟨b3, 0, none⟩), s4, .pointer (some ⟨ms, 0, none⟩), s6, s7, s8, s9, .pointer (some ⟨b3, 1, none⟩), .string nm, .iface T1 y1, .agg #[.iface T1 y1, .func (.func 76) #[] #[]], .pointer (some ⟨b3, 2, none⟩), .string tx, .iface T2 y2, .agg #[.iface T2 y2, .func (.func 77) #[] #[]], .agg #[.iface T1 y1, .func (.func 76) #[] #[], .iface T2 y2, .func (.func 77) #[] #[]], s19, s20, s21, s22, s23, s24, s25, s26, s27, s28, s29, s30, s31, s32, s33, s34, s35, s36, s37, s38, s39, s40, s41, s42, s43, s44, s45, s46, s47, s48, s49, s50, s51, s52, s53, s54, s55, s56, s57, s58, s59, s60], defers := dd } w') :
    Code.wpIn (wideAt none) 0 Tryz.prog fit1C Q { tmps := #[s0, s1, s2, .pointer (some ⟨b3, 0, none⟩), s4, s5, s6, s7, s8, s9, s10, s11, s12, s13, s14, s15, s16, s17, s18, s19, s20, s21, s22, s23, s24, s25, s26, s27, s28, s29, s30, s31, s32, s33, s34, s35, s36, s37, s38, s39, s40, s41, s42, s43, s44, s45, s46, s47, s48, s49, s50, s51, s52, s53, s54, s55, s56, s57, s58, s59, s60], defers := dd } W1 := by
  have HQ := Lib.hid hQ
  clear hQ
  conv => arg 4; whnf
  refine wpIn_region_invG mixed (by kernel_rfl) (fun d_ a_ w' => ∃ (x10 : Value) (x11 : Value) (x12 : Value) (x13 : Value) (x14 : Value) (x15 : Value) (x16 : Value) (x17 : Value) (x18 : Value) (x5 : Value) (ms : Nat) (u1 : Unit) (u2 : Unit), a_ = { tmps := #[s0, s1, s2, .pointer (some ⟨b3, 0, none⟩), s4, x5, s6, s7, s8, s9, x10, x11, x12, x13, x14, x15, x16, x17, x18, s19, s20, s21, s22, s23, s24, s25, s26, s27, s28, s29, s30, s31, s32, s33, s34, s35, s36, s37, s38, s39, s40, s41, s42, s43, s44, s45, s46, s47, s48, s49, s50, s51, s52, s53, s54, s55, s56, s57, s58, s59, s60], defers := dd } ∧ fit1F b3 nm tx T1 y1 T2 y2 S0 S1 S2 S3 d_ x10 x11 x12 x13 x14 x15 x16 x17 x18 x5 ms u1 u2 w') ?_ ?_ ?_
  · refine ⟨s10, s11, s12, s13, s14, s15, s16, s17, s18, s5, 0, default, default, rfl, ?_⟩
    constructor <;> first | rfl | (intro _; rfl) | (intro h; cases h; done) | (intro _; exact h0) | exact h0
  · refine ⟨?_, ?_, ?_, ?_, ?_, ?_, ?_, ?_, ?_, ?_, ?_, trivial⟩
    all_goals
      rintro d_ a_ w1 K hd_ hdep ⟨x10, x11, x12, x13, x14, x15, x16, x17, x18, x5, ms, u1, u2, rfl, F⟩ HK
      simp [Region.binds] at hdep
    · have HF : Hid (fit1F b3 nm tx T1 y1 T2 y2 S0 S1 S2 S3 (upd d_ 0) (.pointer (some ⟨b3, 1, none⟩)) x11 x12 x13 x14 x15 x16 x17 x18 x5 ms u1 u2 w1) := ⟨fun h => rfl, F.q2, F.q3, F.q5, F.q6, F.q7, F.q8, fun h => ⟨rfl, (F.q10 h).2.1, (F.q10 h).2.2.1, (F.q10 h).2.2.2.1, (F.q10 h).2.2.2.2.1, (F.q10 h).2.2.2.2.2.1, (F.q10 h).2.2.2.2.2.2.1, (F.q10 h).2.2.2.2.2.2.2.1, (F.q10 h).2.2.2.2.2.2.2.2.1, (F.q10 h).2.2.2.2.2.2.2.2.2⟩, fun _ => rfl, F.f1, F.f2, F.f3, F.f4, F.f5, F.f6, F.f7, F.f8, F.f9, F.st0, F.st1, F.st2, F.st3, F.mz⟩
      clear F
      go_simp
      exact HK.out _ _ ⟨_, _, _, _, _, _, _, _, _, _, _, _, _, rfl, HF.out⟩
    · have hst : S0 (d_ 9) ms w1 := by
        have n_ : d_ 2 = false := by
          cases e_ : d_ 2 with
          | false => rfl
          | true => have h2 := (F.q2 e_); rw [show d_ 1 = false from hd_] at h2; cases h2
        exact (F.st0 n_)
      have kk := kl1.out (d_ 9) ms w1 hst
      clear hst
      obtain rfl := F.f0 (by simp [hdep])
      have HF : Hid (fit1F b3 nm tx T1 y1 T2 y2 S0 S1 S2 S3 (upd d_ 1) (.pointer (some ⟨b3, 1, none⟩)) (.string nm) x12 x13 x14 x15 x16 x17 x18 x5 ms u1 u2 w1) := ⟨fun _ => (show _ from (by simp [hdep] : d_ 0 = true)), fun h => rfl, F.q3, F.q5, F.q6, F.q7, F.q8, fun h => ⟨(F.q10 h).1, rfl, (F.q10 h).2.2.1, (F.q10 h).2.2.2.1, (F.q10 h).2.2.2.2.1, (F.q10 h).2.2.2.2.2.1, (F.q10 h).2.2.2.2.2.2.1, (F.q10 h).2.2.2.2.2.2.2.1, (F.q10 h).2.2.2.2.2.2.2.2.1, (F.q10 h).2.2.2.2.2.2.2.2.2⟩, F.f0, fun _ => rfl, F.f2, F.f3, F.f4, F.f5, F.f6, F.f7, F.f8, F.f9, F.st0, F.st1, F.st2, F.st3, F.mz⟩
      clear F
      go_simp
      exact HK.out _ _ ⟨_, _, _, _, _, _, _, _, _, _, _, _, _, rfl, HF.out⟩
    · have hS := F.st0  hd_
      obtain rfl := F.f1 (by simp [hdep])
      have hc := kc2.out (d_ 9) ms w1 hS
      have HF := Lib.hid F
      clear F
      go_simp
      refine ⟨trivial, rfl, wideAt_calls (hc.mono ?_)⟩
      rintro e w5 ⟨v_, rfl, hres⟩
      exact HK.out _ _ ⟨_, _, _, _, _, _, _, _, _, _, ms, v_, u2, rfl, ⟨HF.out.q1, fun _ => (show _ from (by simp [hdep] : d_ 1 = true)), fun h => rfl, HF.out.q5, fun h => ⟨rfl, (HF.out.q6 h).2⟩, HF.out.q7, HF.out.q8, fun h => ⟨(HF.out.q10 h).1, (HF.out.q10 h).2.1, rfl, (HF.out.q10 h).2.2.2.1, (HF.out.q10 h).2.2.2.2.1, (HF.out.q10 h).2.2.2.2.2.1, (HF.out.q10 h).2.2.2.2.2.2.1, (HF.out.q10 h).2.2.2.2.2.2.2.1, (HF.out.q10 h).2.2.2.2.2.2.2.2.1, (HF.out.q10 h).2.2.2.2.2.2.2.2.2⟩, HF.out.f0, HF.out.f1, fun _ => rfl, HF.out.f3, HF.out.f4, HF.out.f5, HF.out.f6, HF.out.f7, HF.out.f8, HF.out.f9, fun h => (by simp [upd] at h), fun _ _ => hres, fun h _ => (by have h2 : d_ 2 = true := (HF.out.q6 h).1; rw [show d_ 2 = false from hd_] at h2; cases h2), fun h => (by have h2 : d_ 2 = true := (HF.out.q10 h).2.2.1; rw [show d_ 2 = false from hd_] at h2; cases h2), HF.out.mz⟩⟩
    · obtain rfl := F.f2 (by simp [hdep])
      have HF : Hid (fit1F b3 nm tx T1 y1 T2 y2 S0 S1 S2 S3 (upd d_ 3) x10 x11 (.iface T1 y1) (.agg #[.iface T1 y1, .func (.func 76) #[] #[]]) x14 x15 x16 x17 x18 x5 ms u1 u2 w1) := ⟨F.q1, F.q2, fun _ => (show _ from (by simp [hdep] : d_ 2 = true)), F.q5, F.q6, F.q7, fun h => ⟨rfl, (F.q8 h).2⟩, fun h => ⟨(F.q10 h).1, (F.q10 h).2.1, (F.q10 h).2.2.1, rfl, (F.q10 h).2.2.2.2.1, (F.q10 h).2.2.2.2.2.1, (F.q10 h).2.2.2.2.2.2.1, (F.q10 h).2.2.2.2.2.2.2.1, (F.q10 h).2.2.2.2.2.2.2.2.1, (F.q10 h).2.2.2.2.2.2.2.2.2⟩, F.f0, F.f1, F.f2, fun _ => rfl, F.f4, F.f5, F.f6, F.f7, F.f8, F.f9, F.st0, F.st1, F.st2, F.st3, F.mz⟩
      clear F
      go_simp
      exact HK.out _ _ ⟨_, _, _, _, _, _, _, _, _, _, _, _, _, rfl, HF.out⟩
    · have HF : Hid (fit1F b3 nm tx T1 y1 T2 y2 S0 S1 S2 S3 (upd d_ 4) x10 x11 x12 x13 (.pointer (some ⟨b3, 2, none⟩)) x15 x16 x17 x18 x5 ms u1 u2 w1) := ⟨F.q1, F.q2, F.q3, fun h => rfl, F.q6, F.q7, F.q8, fun h => ⟨(F.q10 h).1, (F.q10 h).2.1, (F.q10 h).2.2.1, (F.q10 h).2.2.2.1, rfl, (F.q10 h).2.2.2.2.2.1, (F.q10 h).2.2.2.2.2.2.1, (F.q10 h).2.2.2.2.2.2.2.1, (F.q10 h).2.2.2.2.2.2.2.2.1, (F.q10 h).2.2.2.2.2.2.2.2.2⟩, F.f0, F.f1, F.f2, F.f3, fun _ => rfl, F.f5, F.f6, F.f7, F.f8, F.f9, F.st0, F.st1, F.st2, F.st3, F.mz⟩
      clear F
      go_simp
      exact HK.out _ _ ⟨_, _, _, _, _, _, _, _, _, _, _, _, _, rfl, HF.out⟩
    · have hst : S0 (d_ 9) ms w1 ∨ S1 (d_ 9) ms u1 w1 := by
        cases e1 : d_ 2 with
        | false => exact .inl ((F.st0 e1))
        | true =>
          have n_ : d_ 6 = false := by
            cases e_ : d_ 6 with
            | false => rfl
            | true => have h2 := (F.q6 e_).2; rw [show d_ 5 = false from hd_] at h2; cases h2
          exact .inr ((F.st1 e1 n_))
      have kk := kl5.out (d_ 9) ms u1 w1 hst
      clear hst
      obtain rfl := F.f4 (by simp [hdep])
      have HF : Hid (fit1F b3 nm tx T1 y1 T2 y2 S0 S1 S2 S3 (upd d_ 5) x10 x11 x12 x13 (.pointer (some ⟨b3, 2, none⟩)) (.string tx) x16 x17 x18 x5 ms u1 u2 w1) := ⟨F.q1, F.q2, F.q3, fun _ => (show _ from (by simp [hdep] : d_ 4 = true)), fun h => ⟨(F.q6 h).1, rfl⟩, F.q7, F.q8, fun h => ⟨(F.q10 h).1, (F.q10 h).2.1, (F.q10 h).2.2.1, (F.q10 h).2.2.2.1, (F.q10 h).2.2.2.2.1, rfl, (F.q10 h).2.2.2.2.2.2.1, (F.q10 h).2.2.2.2.2.2.2.1, (F.q10 h).2.2.2.2.2.2.2.2.1, (F.q10 h).2.2.2.2.2.2.2.2.2⟩, F.f0, F.f1, F.f2, F.f3, F.f4, fun _ => rfl, F.f6, F.f7, F.f8, F.f9, F.st0, F.st1, F.st2, F.st3, F.mz⟩
      clear F
      go_simp
      exact HK.out _ _ ⟨_, _, _, _, _, _, _, _, _, _, _, _, _, rfl, HF.out⟩
    · have hS := F.st1 (by simp [hdep] : d_ 2 = true) hd_
      obtain rfl := F.f5 (by simp [hdep])
      have hc := kc6.out (d_ 9) ms u1 w1 hS
      have HF := Lib.hid F
      clear F
      go_simp
      refine ⟨trivial, rfl, wideAt_calls (hc.mono ?_)⟩
      rintro e w5 ⟨v_, rfl, hres⟩
      exact HK.out _ _ ⟨_, _, _, _, _, _, _, _, _, _, ms, u1, v_, rfl, ⟨HF.out.q1, HF.out.q2, HF.out.q3, HF.out.q5, fun _ => ⟨(show _ from (by simp [hdep] : d_ 2 = true)), (show _ from (by simp [hdep] : d_ 5 = true))⟩, fun h => rfl, HF.out.q8, fun h => ⟨(HF.out.q10 h).1, (HF.out.q10 h).2.1, (HF.out.q10 h).2.2.1, (HF.out.q10 h).2.2.2.1, (HF.out.q10 h).2.2.2.2.1, (HF.out.q10 h).2.2.2.2.2.1, rfl, (HF.out.q10 h).2.2.2.2.2.2.2.1, (HF.out.q10 h).2.2.2.2.2.2.2.2.1, (HF.out.q10 h).2.2.2.2.2.2.2.2.2⟩, HF.out.f0, HF.out.f1, HF.out.f2, HF.out.f3, HF.out.f4, HF.out.f5, fun _ => rfl, HF.out.f7, HF.out.f8, HF.out.f9, fun h => (by have h2 : d_ 2 = false := h; rw [(by simp [hdep] : d_ 2 = true)] at h2; cases h2), fun _ h => (by simp [upd] at h), fun _ _ => hres, fun h => (by have h2 : d_ 6 = true := (HF.out.q10 h).2.2.2.2.2.2.1; rw [show d_ 6 = false from hd_] at h2; cases h2), HF.out.mz⟩⟩
    · obtain rfl := F.f6 (by simp [hdep])
      have HF : Hid (fit1F b3 nm tx T1 y1 T2 y2 S0 S1 S2 S3 (upd d_ 7) x10 x11 x12 x13 x14 x15 (.iface T2 y2) (.agg #[.iface T2 y2, .func (.func 77) #[] #[]]) x18 x5 ms u1 u2 w1) := ⟨F.q1, F.q2, F.q3, F.q5, F.q6, fun _ => (show _ from (by simp [hdep] : d_ 6 = true)), fun h => ⟨(F.q8 h).1, rfl⟩, fun h => ⟨(F.q10 h).1, (F.q10 h).2.1, (F.q10 h).2.2.1, (F.q10 h).2.2.2.1, (F.q10 h).2.2.2.2.1, (F.q10 h).2.2.2.2.2.1, (F.q10 h).2.2.2.2.2.2.1, rfl, (F.q10 h).2.2.2.2.2.2.2.2.1, (F.q10 h).2.2.2.2.2.2.2.2.2⟩, F.f0, F.f1, F.f2, F.f3, F.f4, F.f5, F.f6, fun _ => rfl, F.f8, F.f9, F.st0, F.st1, F.st2, F.st3, F.mz⟩
      clear F
      go_simp
      exact HK.out _ _ ⟨_, _, _, _, _, _, _, _, _, _, _, _, _, rfl, HF.out⟩
    · obtain rfl := F.f3 (by simp [hdep])
      obtain rfl := F.f7 (by simp [hdep])
      have HF : Hid (fit1F b3 nm tx T1 y1 T2 y2 S0 S1 S2 S3 (upd d_ 8) x10 x11 x12 (.agg #[.iface T1 y1, .func (.func 76) #[] #[]]) x14 x15 x16 (.agg #[.iface T2 y2, .func (.func 77) #[] #[]]) (.agg #[.iface T1 y1, .func (.func 76) #[] #[], .iface T2 y2, .func (.func 77) #[] #[]]) x5 ms u1 u2 w1) := ⟨F.q1, F.q2, F.q3, F.q5, F.q6, F.q7, fun _ => ⟨(show _ from (by simp [hdep] : d_ 3 = true)), (show _ from (by simp [hdep] : d_ 7 = true))⟩, fun h => ⟨(F.q10 h).1, (F.q10 h).2.1, (F.q10 h).2.2.1, (F.q10 h).2.2.2.1, (F.q10 h).2.2.2.2.1, (F.q10 h).2.2.2.2.2.1, (F.q10 h).2.2.2.2.2.2.1, (F.q10 h).2.2.2.2.2.2.2.1, rfl, (F.q10 h).2.2.2.2.2.2.2.2.2⟩, F.f0, F.f1, F.f2, F.f3, F.f4, F.f5, F.f6, F.f7, fun _ => rfl, F.f9, F.st0, F.st1, F.st2, F.st3, F.mz⟩
      clear F
      go_simp
      exact HK.out _ _ ⟨_, _, _, _, _, _, _, _, _, _, _, _, _, rfl, HF.out⟩
    · have HF : Hid (fit1F b3 nm tx T1 y1 T2 y2 S0 S1 S2 S3 (upd d_ 9) x10 x11 x12 x13 x14 x15 x16 x17 x18 (.pointer (some ⟨w1.heap.size, 0, none⟩)) w1.heap.size u1 u2 (w1.alloc (.cells #[.nilIface, .nilFunc, .nilIface, .nilFunc] 144))) := ⟨F.q1, F.q2, F.q3, F.q5, F.q6, F.q7, F.q8, fun h => ⟨(F.q10 h).1, (F.q10 h).2.1, (F.q10 h).2.2.1, (F.q10 h).2.2.2.1, (F.q10 h).2.2.2.2.1, (F.q10 h).2.2.2.2.2.1, (F.q10 h).2.2.2.2.2.2.1, (F.q10 h).2.2.2.2.2.2.2.1, (F.q10 h).2.2.2.2.2.2.2.2.1, rfl⟩, F.f0, F.f1, F.f2, F.f3, F.f4, F.f5, F.f6, F.f7, F.f8, fun _ => rfl, fun b => ks0.out w1 (by have h := F.st0 b; rw [show d_ 9 = false from hd_, F.mz hd_] at h; exact h), fun a b => ks1.out u1 w1 (by have h := F.st1 a b; rw [show d_ 9 = false from hd_, F.mz hd_] at h; exact h), fun a b => ks2.out u1 u2 w1 (by have h := F.st2 a b; rw [show d_ 9 = false from hd_, F.mz hd_] at h; exact h), fun a => (by have h2 : d_ 9 = true := (F.q10 a).2.2.2.2.2.2.2.2.2; rw [show d_ 9 = false from hd_] at h2; cases h2), fun h => (by simp [upd] at h)⟩
      clear F
      go_simp
      exact HK.out _ _ ⟨_, _, _, _, _, _, _, _, _, _, _, _, _, rfl, HF.out⟩
    · have hS := F.st2 (by simp [hdep] : d_ 6 = true) hd_
      rw [show d_ 9 = true from (by simp [hdep] : d_ 9 = true)] at hS
      obtain rfl := F.f8 (by simp [hdep])
      obtain rfl := F.f9 (by simp [hdep])
      obtain ⟨⟨ku0, kcell0⟩, kfr0, ⟨ku1, kcell1⟩, kfr1, ⟨ku2, kcell2⟩, kfr2, ⟨ku3, kcell3⟩, kfr3, hres⟩ := kc10.out ms u1 u2 w1 hS
      have HF : Hid (fit1F b3 nm tx T1 y1 T2 y2 S0 S1 S2 S3 (upd d_ 10) x10 x11 x12 x13 x14 x15 x16 x17 (.agg #[.iface T1 y1, .func (.func 76) #[] #[], .iface T2 y2, .func (.func 77) #[] #[]]) (.pointer (some ⟨ms, 0, none⟩)) ms u1 u2 ((((w1.setCell ⟨ms, 0, none⟩ (.iface T1 y1)).setCell ⟨ms, 1, none⟩ (.func (.func 76) #[] #[])).setCell ⟨ms, 2, none⟩ (.iface T2 y2)).setCell ⟨ms, 3, none⟩ (.func (.func 77) #[] #[]))) := ⟨F.q1, F.q2, F.q3, F.q5, F.q6, F.q7, F.q8, fun _ => ⟨(show _ from (by simp [hdep] : d_ 0 = true)), (show _ from (by simp [hdep] : d_ 1 = true)), (show _ from (by simp [hdep] : d_ 2 = true)), (show _ from (by simp [hdep] : d_ 3 = true)), (show _ from (by simp [hdep] : d_ 4 = true)), (show _ from (by simp [hdep] : d_ 5 = true)), (show _ from (by simp [hdep] : d_ 6 = true)), (show _ from (by simp [hdep] : d_ 7 = true)), (show _ from (by simp [hdep] : d_ 8 = true)), (show _ from (by simp [hdep] : d_ 9 = true))⟩, F.f0, F.f1, F.f2, F.f3, F.f4, F.f5, F.f6, F.f7, F.f8, F.f9, fun h => (by have h2 : d_ 2 = false := h; rw [(by simp [hdep] : d_ 2 = true)] at h2; cases h2), fun _ h => (by have h2 : d_ 6 = false := h; rw [(by simp [hdep] : d_ 6 = true)] at h2; cases h2), fun _ h => (by simp [upd] at h), fun _ => (by rw [show upd d_ 10 9 = true from (by simp [hdep] : d_ 9 = true)]; exact hres), F.mz⟩
      clear F hS hres
      go_simp
      exact HK.out _ _ ⟨_, _, _, _, _, _, _, _, _, _, _, _, _, rfl, HF.out⟩
  · rintro d_ a_ w1 hall ⟨x10, x11, x12, x13, x14, x15, x16, x17, x18, x5, ms, u1, u2, rfl, F⟩
    have hall' : ∀ k, k < 11 → d_ k = true := hall
    obtain rfl := F.f0 (hall' 0 (by decide))
    obtain rfl := F.f1 (hall' 1 (by decide))
    obtain rfl := F.f2 (hall' 2 (by decide))
    obtain rfl := F.f3 (hall' 3 (by decide))
    obtain rfl := F.f4 (hall' 4 (by decide))
    obtain rfl := F.f5 (hall' 5 (by decide))
    obtain rfl := F.f6 (hall' 6 (by decide))
    obtain rfl := F.f7 (hall' 7 (by decide))
    obtain rfl := F.f8 (hall' 8 (by decide))
    obtain rfl := F.f9 (hall' 9 (by decide))
    have hst := F.st3 (hall' 10 (by decide))
    rw [show d_ 9 = true from hall' 9 (by decide)] at hst
    exact HQ.out ms u1 u2 w1 hst
noncomputable def fit9C : Code := (Tryz.f56.body.bind (regionAt 9)).getD .skip
set_option maxRecDepth 100000 in
set_option maxHeartbeats 8000000 in
theorem fit9 {b7 b9 T fn gf : Nat} {x : Value} {col : Int} {n1 t1 st : ByteArray} {bb nb : Bool} {P0 P1 P2 : World → Prop} {Q : Exit → Act → World → Prop} {W1 : World} (hcf : ∀ args w, (callFunc gf args).run Tryz.prog w = .ok (.enter gf args) w) (hm : ∀ w, (method 291 T x "pairworks/heap.suits").run Tryz.prog w = .ok (fn, x) w) (hcn : ∀ args w, (callFunc fn args).run Tryz.prog w = .ok (.enter fn args) w) (hnb : (!bb) = nb) (h0 : P0 W1.drew)
    (kl1 : Hid (∀ w : World, (P0 w ∨ P1 w ∨ P2 w) → w.cell? ⟨b9, 0, none⟩ = some (.iface T x)))
    (kl3 : Hid (∀ w : World, (P0 w ∨ P1 w ∨ P2 w) → w.cell? ⟨b9, 1, none⟩ = some (.func (.func gf) #[] #[])))
    (kl4 : Hid (∀ w : World, (P0 w ∨ P1 w ∨ P2 w) → w.cell? ⟨b7, 0, none⟩ = some (.int .i64 (col)) ∧ w.cell? ⟨b7, 1, none⟩ = some (.string n1) ∧ w.cell? ⟨b7, 2, none⟩ = some (.string t1)))
    (kc5 : Hid (∀ w : World, P0 w → Calls Tryz.prog gf #[.agg #[.int .i64 (col), .string n1, .string t1]] w fun e w' => e = .returned (.string st) ∧ P1 w'))
    (kc8 : Hid (∀ w : World, P1 w → Calls Tryz.prog fn #[x, .string st] w fun e w' => e = .returned (.bool bb) ∧ P2 w'))
    {s0 s1 s2 s3 s4 s5 s6 s8 s10 s11 s12 s13 s14 s15 s16 s17 s18 s19 s20 s21 s22 s23 s24 s25 s26 s27 s28 s29 s30 s31 s32 s33 s34 s35 s36 s37 s38 s39 s40 s41 s42 s43 s44 s45 s46 s47 s48 s49 s50 s51 s52 s53 s54 s55 s56 s57 s58 s59 s60 : Value} {dd : List Deferred}
    (hQ : ∀ w' : World, P2 w' → Q .normal { tmps := List.toArray (s0 :: s1 :: s2 :: s3 :: s4 :: s5 :: s6 :: .pointer (some ⟨b7, 0, none⟩) :: s8 :: .pointer (some ⟨b9, 0, none⟩) :: s10 :: s11 :: s12 :: s13 :: s14 :: s15 :: s16 :: s17 :: s18 :: s19 :: s20 :: s21 :: s22 :: s23 :: s24 :: s25 :: s26 :: s27 :: s28 :: s29 :: s30 :: s31 :: s32 :: s33 :: s34 :: s35 :: s36 :: s37 :: s38 :: s39 :: s40 :: s41 :: s42 :: .pointer (some ⟨b9, 0, none⟩) :: .iface T x :: .pointer (some ⟨b9, 1, none⟩) :: .func (.func gf) #[] #[] :: .agg #[.int .i64 (col), .string n1, .string t1] :: .string st :: .iface T x :: .iface T x :: .bool bb :: .bool nb :: s53 :: s54 :: s55 :: s56 :: s57 :: s58 :: s59 :: s60 :: []),defers := dd } w') :
    Code.wpIn (wideAt none) 0 Tryz.prog fit9C Q { tmps := List.toArray (s0 :: s1 :: s2 :: s3 :: s4 :: s5 :: s6 :: .pointer (some ⟨b7, 0, none⟩) :: s8 :: .pointer (some ⟨b9, 0, none⟩) :: s10 :: s11 :: s12 :: s13 :: s14 :: s15 :: s16 :: s17 :: s18 :: s19 :: s20 :: s21 :: s22 :: s23 :: s24 :: s25 :: s26 :: s27 :: s28 :: s29 :: s30 :: s31 :: s32 :: s33 :: s34 :: s35 :: s36 :: s37 :: s38 :: s39 :: s40 :: s41 :: s42 :: s43 :: s44 :: s45 :: s46 :: s47 :: s48 :: s49 :: s50 :: s51 :: s52 :: s53 :: s54 :: s55 :: s56 :: s57 :: s58 :: s59 :: s60 :: []),defers := dd } W1 := by
  have HQ := Lib.hid hQ
  clear hQ
  conv => arg 4; whnf
  refine wpIn_region_invG mixed (by kernel_rfl) (fun d_ a_ w' => a_ = { tmps := List.toArray (s0 :: s1 :: s2 :: s3 :: s4 :: s5 :: s6 :: .pointer (some ⟨b7, 0, none⟩) :: s8 :: .pointer (some ⟨b9, 0, none⟩) :: s10 :: s11 :: s12 :: s13 :: s14 :: s15 :: s16 :: s17 :: s18 :: s19 :: s20 :: s21 :: s22 :: s23 :: s24 :: s25 :: s26 :: s27 :: s28 :: s29 :: s30 :: s31 :: s32 :: s33 :: s34 :: s35 :: s36 :: s37 :: s38 :: s39 :: s40 :: s41 :: s42 :: pk (d_ 0) (.pointer (some ⟨b9, 0, none⟩)) s43 :: pk (d_ 1) (.iface T x) s44 :: pk (d_ 2) (.pointer (some ⟨b9, 1, none⟩)) s45 :: pk (d_ 3) (.func (.func gf) #[] #[]) s46 :: pk (d_ 4) (.agg #[.int .i64 (col), .string n1, .string t1]) s47 :: pk (d_ 5) (.string st) s48 :: pk (d_ 6) (.iface T x) s49 :: pk (d_ 7) (.iface T x) s50 :: pk (d_ 8) (.bool bb) s51 :: pk (d_ 9) (.bool nb) s52 :: s53 :: s54 :: s55 :: s56 :: s57 :: s58 :: s59 :: s60 :: []),defers := dd } ∧ ch2 P0 P1 P2 (d_ 5) (d_ 8) w') ?_ ?_ ?_
  · exact ⟨rfl, h0⟩
  · refine ⟨?_,?_,?_,?_,?_,?_,?_,?_,?_,?_, trivial⟩
    all_goals
      rintro d_ a_ w1 K hd_ hdep ⟨rfl, F⟩ HK
      simp [Region.binds] at hdep
    · have HF := Lib.hid F
      clear F hdep
      go_simp
      refine HK.out _ _ ⟨?_, HF.out⟩
      all_goals rfl
    · have q0 : d_ 0 = true := by simp [hdep]
      have kk := kl1.out w1 (ch2_or F)
      rw [pk_of q0]
      have HF := Lib.hid F
      clear F hdep
      go_simp
      refine HK.out _ _ ⟨?_, HF.out⟩
      rw [pk_of (show upd d_ 1 0 = true from q0)]
      all_goals rfl
    · have HF := Lib.hid F
      clear F hdep
      go_simp
      refine HK.out _ _ ⟨?_, HF.out⟩
      all_goals rfl
    · have q2 : d_ 2 = true := by simp [hdep]
      have kk := kl3.out w1 (ch2_or F)
      rw [pk_of q2]
      have HF := Lib.hid F
      clear F hdep
      go_simp
      refine HK.out _ _ ⟨?_, HF.out⟩
      rw [pk_of (show upd d_ 3 2 = true from q2)]
      all_goals rfl
    · have kk := kl4.out w1 (ch2_or F)
      obtain ⟨kk0, kk1, kk2⟩ := kk
      have HF := Lib.hid F
      clear F hdep
      go_simp
      refine HK.out _ _ ⟨?_, HF.out⟩
      all_goals rfl
    · have q3 : d_ 3 = true := by simp [hdep]
      have q4 : d_ 4 = true := by simp [hdep]
      rw [pk_of q3, pk_of q4]
      obtain ⟨hP, hN⟩ := ch2_s1 F hd_
      have hc := kc5.out w1 hP
      have HN := Lib.hid hN
      clear F hP hN hdep
      have hcf2 := hcf
      go_simp
      refine ⟨trivial, rfl, wideAt_calls (hc.mono ?_)⟩
      rintro e w5 ⟨rfl, hR⟩
      have HG := HN.out w5 hR
      refine HK.out _ _ ⟨?_, HG⟩
      rw [pk_of (show upd d_ 5 3 = true from q3), pk_of (show upd d_ 5 4 = true from q4)]
      all_goals rfl
    · have q1 : d_ 1 = true := by simp [hdep]
      rw [pk_of q1]
      have HF := Lib.hid F
      clear F hdep
      go_simp
      refine HK.out _ _ ⟨?_, HF.out⟩
      rw [pk_of (show upd d_ 6 1 = true from q1)]
      all_goals rfl
    · have q1 : d_ 1 = true := by simp [hdep]
      rw [pk_of q1]
      have HF := Lib.hid F
      clear F hdep
      go_simp
      refine HK.out _ _ ⟨?_, HF.out⟩
      rw [pk_of (show upd d_ 7 1 = true from q1)]
      all_goals rfl
    · have q5 : d_ 5 = true := by simp [hdep]
      have q7 : d_ 7 = true := by simp [hdep]
      rw [pk_of q5, pk_of q7]
      obtain ⟨hP, hN⟩ := ch2_s2 F (show d_ 5 = true by simp [hdep]) hd_
      have hc := kc8.out w1 hP
      have HN := Lib.hid hN
      clear F hP hN hdep
      have hm2 := hm
      have hcn2 := hcn
      go_simp
      refine ⟨trivial, rfl, wideAt_calls (hc.mono ?_)⟩
      rintro e w5 ⟨rfl, hR⟩
      have HG := HN.out w5 hR
      refine HK.out _ _ ⟨?_, HG⟩
      rw [pk_of (show upd d_ 8 5 = true from q5), pk_of (show upd d_ 8 7 = true from q7)]
      all_goals rfl
    · have q8 : d_ 8 = true := by simp [hdep]
      have hnb2 := hnb
      rw [pk_of q8]
      have HF := Lib.hid F
      clear F hdep
      go_simp
      refine HK.out _ _ ⟨?_, HF.out⟩
      rw [pk_of (show upd d_ 9 8 = true from q8)]
      all_goals rfl
  · rintro d_ a_ w1 hall ⟨rfl, F⟩
    have hall' : ∀ k, k < 10 → d_ k = true := hall
    rw [hall' 5 (by decide), hall' 8 (by decide)] at F
    have HF := Lib.hid F
    clear F
    rw [pk_of (hall' 0 (by decide)), pk_of (hall' 1 (by decide)), pk_of (hall' 2 (by decide)), pk_of (hall' 3 (by decide)), pk_of (hall' 4 (by decide)), pk_of (hall' 5 (by decide)), pk_of (hall' 6 (by decide)), pk_of (hall' 7 (by decide)), pk_of (hall' 8 (by decide)), pk_of (hall' 9 (by decide))]
    exact HQ.out w1 HF.out
end Go.Proofs.YtbnhngfegnhaiaaGreatDoor
namespace Go.Proofs.YtbnhngfegnhaiaaGreatDoor
open Go.RowKit
set_option linter.unusedVariables false
set_option linter.unusedSimpArgs false
theorem and_u64 (a b : Nat) (ha : a < 2 ^ 62) (hb : b < 2 ^ 62) : bits .and .u64 (a : Int) (b : Int) = ((a &&& b : Nat) : Int) :=
  (bits_nat .u64 62 (by decide) (fun n h1 h2 => by rw [IntKind.wrap_u64]; omega) a b ha hb).1
theorem or_u64 (a b : Nat) (ha : a < 2 ^ 62) (hb : b < 2 ^ 62) : bits .or .u64 (a : Int) (b : Int) = ((a ||| b : Nat) : Int) :=
  (bits_nat .u64 62 (by decide) (fun n h1 h2 => by rw [IntKind.wrap_u64]; omega) a b ha hb).2
theorem bit_test_u (n k : Nat) (hn : n < 2 ^ 62) : (bits .and .u64 ((n : Int) / 2 ^ k) 1 == 1) = n.testBit k := by
  have h1 : ((n : Int) / 2 ^ k) = ((n / 2 ^ k : Nat) : Int) := by simp
  have h2 : n / 2 ^ k < 2 ^ 62 := Nat.lt_of_le_of_lt (Nat.div_le_self _ _) hn
  rw [h1]
  have := and_u64 (n / 2 ^ k) 1 h2 (by decide)
  rw [show ((1 : Nat) : Int) = 1 from rfl] at this
  rw [this, Nat.and_one_is_mod, Nat.testBit_eq_decide_div_mod_eq]
  rw [Bool.eq_iff_iff]
  simp
  omega
theorem two_wrap_u {n : Nat} (h : n ≤ 20) : IntKind.u64.wrap (2 ^ n) = ((2 ^ n : Nat) : Int) := by
  have h1 : 2 ^ n ≤ 2 ^ 20 := Nat.pow_le_pow_right (by omega) h
  have h2 : ((2 : Int) ^ n) = ((2 ^ n : Nat) : Int) := by simp
  rw [h2]
  clear h2
  generalize 2 ^ n = p at h1
  rw [IntKind.wrap_u64]
  omega
theorem two_ltH {f : Nat} (h : f ≤ 20) : 2 ^ f < 2 ^ 62 := Nat.pow_lt_pow_right (by omega) (by omega)
theorem has24 {s k : Nat} (hs : s < 2 ^ 62) (hk : k < 60) (w : World) : Calls Tryz.prog 24 #[.int .u64 s, .int .i64 k] w fun e w' => e = .returned (.bool (s.testBit k)) ∧ w = w' := by
  have HB := Lib.hid (bit_test_u s k hs)
  clear hs
  go_enter Tryz.func24, Tryz.ntmps24
  go_wp2_with fail
  go_ret
  exact ⟨ret_bool HB.out, rfl⟩
set_option maxRecDepth 100000 in
set_option maxHeartbeats 4000000 in
theorem union25 {a c bs : Nat} {w : World} (ha : a < 2 ^ 62) (hc : c < 2 ^ 62) (hq : w.heap[bs]? = some (.cells #[.int .u64 a, .int .u64 c] 71 (0, 0))) : Calls Tryz.prog 25 #[.slice (some ⟨bs, 0, none⟩) 2 2] w fun e w' => e = .returned (.int .u64 ((a ||| c : Nat) : Int)) ∧ w = w' := by
  have h1 : bits .or .u64 0 (a : Int) = (a : Int) := by
    have := or_u64 0 a (by decide) ha
    rw [Nat.zero_or] at this
    exact this
  have h2 : bits .or .u64 (a : Int) (c : Int) = ((a ||| c : Nat) : Int) := or_u64 a c ha hc
  have s0 : w.cell? ⟨bs, 0, none⟩ = some (.int .u64 a) := by rw [cell_of_heap hq]; rfl
  have s1 : w.cell? ⟨bs, 1, none⟩ = some (.int .u64 c) := by rw [cell_of_heap hq]; rfl
  clear hq ha hc
  revert h2
  generalize a ||| c = d
  intro h2
  go_enter Tryz.func25, Tryz.ntmps25
  go_wp2_with fail
  go_loop [2, 7] (fun z i => ∃ k : Int, (k = 0 ∨ k = 1 ∨ k = 2) ∧ i = .int .i64 k ∧ z = .int .u64 (if 1 ≤ k then (if 2 ≤ k then (d : Int) else a) else 0)) (fun _ i => 2 - (intOf i).toNat)
  case atStart => exact ⟨0, .inl rfl, rfl, rfl⟩
  case round =>
    obtain ⟨k, hk, rfl, rfl⟩ := hrel
    rcases hk with rfl | rfl | rfl
    · have e : (if (1 : Int) ≤ 0 then (if (2 : Int) ≤ 0 then (d : Int) else a) else 0) = 0 := by simp
      rw [e]
      clear e
      go_wp2_with fail
      go_round
      case rel => exact ⟨1, .inr (.inl rfl), rfl, by simp⟩
      case measure => simp [intOf]
    · have e : (if (1 : Int) ≤ 1 then (if (2 : Int) ≤ 1 then (d : Int) else a) else 0) = a := by simp
      rw [e]
      clear e
      go_wp2_with fail
      go_round
      case rel => exact ⟨2, .inr (.inr rfl), rfl, by simp⟩
      case measure => simp [intOf]
    · have e : (if (1 : Int) ≤ 2 then (if (2 : Int) ≤ 2 then (d : Int) else a) else 0) = d := by simp
      rw [e]
      clear e
      go_wp2_with fail
      go_ret
      exact ⟨rfl, rfl⟩
/-- What a card is looked at with. -/
structure FitB (b b3 b5 : Nat) (es : List En) (ae : Option Addr) (ce : Nat) (v0 v1 v3 v4 : Value) (t : Tn) (T1 : TypeId) (y1 : Value) (T2 : TypeId) (y2 : Value) (v : World) : Prop where
  h : v.heap[b]? = some (.cells #[v0, v1, .slice ae es.length ce, v3, v4] 76 (0, 0))
  en : IsEns v ae es
  c : v.heap[b3]? = some (.cells #[.int .i64 t.colour, .string t.number, .string t.text] 58 (0, 0))
  k : v.heap[b5]? = some (.cells #[.iface T1 y1, .func (.func 76) #[] #[], .iface T2 y2, .func (.func 77) #[] #[]] 144 (0, 0))
theorem FitB.mono {b b3 b5 : Nat} {es : List En} {ae : Option Addr} {ce : Nat} {v0 v1 v3 v4 : Value} {t : Tn} {T1 : TypeId} {y1 : Value} {T2 : TypeId} {y2 : Value} {v v' : World} (h : FitB b b3 b5 es ae ce v0 v1 v3 v4 t T1 y1 T2 y2 v) (hb : Below v.heap.size v v') : FitB b b3 b5 es ae ce v0 v1 v3 v4 t T1 y1 T2 y2 v' :=
  ⟨(hb.block _ (heap_lt h.h)).trans h.h, h.en.mono hb, (hb.block _ (heap_lt h.c)).trans h.c, (hb.block _ (heap_lt h.k)).trans h.k⟩
end Go.Proofs.YtbnhngfegnhaiaaGreatDoor
