/- CopyTrue: the drawn regions in which a pile is made. -/
import Derived.Test.YtnfhlbmapfoifaaC13
namespace Go.Proofs.Ytnfhlbmapfoifaa
open Go.RowKit
set_option linter.unusedVariables false
set_option linter.unusedSimpArgs false
/-- What a slot holds: the value, once it is done. -/
def pk (b : Bool) (v s : Value) : Value := if b then v else s
theorem pk_of {b : Bool} (h : b = true) (v s : Value) : pk b v s = v := by rw [h]; rfl
/-- A world at one of 2 stages, by which ones are passed. -/
def ch1 (P0 P1 : World → Prop) : Bool → World → Prop
  | false, w => P0 w
  | true, w => P1 w
theorem ch1_or {P0 P1 : World → Prop} {f1 : Bool} {w : World} (h : ch1 P0 P1 f1 w) : P0 w ∨ P1 w := by
  cases f1 <;> first | exact False.elim h | exact .inl h | exact .inr h
theorem ch1_s1 {P0 P1 : World → Prop} {f1 : Bool} {w : World} (h : ch1 P0 P1 f1 w) (e2 : f1 = false) : P0 w ∧ ∀ w' : World, P1 w' → ch1 P0 P1 true w' := by
  subst e2
  first | exact False.elim h | exact ⟨h, fun _ x => x⟩
/-- A world at one of 3 stages, by which ones are passed. -/
def ch2 (P0 P1 P2 : World → Prop) : Bool → Bool → World → Prop
  | false, false, w => P0 w
  | true, false, w => P1 w
  | true, true, w => P2 w
  | _, _, _ => False
theorem ch2_or {P0 P1 P2 : World → Prop} {f1 f2 : Bool} {w : World} (h : ch2 P0 P1 P2 f1 f2 w) : P0 w ∨ P1 w ∨ P2 w := by
  cases f1 <;> cases f2 <;> first | exact False.elim h | exact .inl h | exact .inr (.inl h) | exact .inr (.inr h)
theorem ch2_s1 {P0 P1 P2 : World → Prop} {f1 f2 : Bool} {w : World} (h : ch2 P0 P1 P2 f1 f2 w) (e2 : f1 = false) : P0 w ∧ ∀ w' : World, P1 w' → ch2 P0 P1 P2 true f2 w' := by
  subst e2
  cases f2 <;> first | exact False.elim h | exact ⟨h, fun _ x => x⟩
theorem ch2_s2 {P0 P1 P2 : World → Prop} {f1 f2 : Bool} {w : World} (h : ch2 P0 P1 P2 f1 f2 w) (e1 : f1 = true) (e2 : f2 = false) : P1 w ∧ ∀ w' : World, P2 w' → ch2 P0 P1 P2 f1 true w' := by
  subst e1 e2
  first | exact False.elim h | exact ⟨h, fun _ x => x⟩
/-- A world at one of 4 stages, by which ones are passed. -/
def ch3 (P0 P1 P2 P3 : World → Prop) : Bool → Bool → Bool → World → Prop
  | false, false, false, w => P0 w
  | true, false, false, w => P1 w
  | true, true, false, w => P2 w
  | true, true, true, w => P3 w
  | _, _, _, _ => False
theorem ch3_or {P0 P1 P2 P3 : World → Prop} {f1 f2 f3 : Bool} {w : World} (h : ch3 P0 P1 P2 P3 f1 f2 f3 w) : P0 w ∨ P1 w ∨ P2 w ∨ P3 w := by
  cases f1 <;> cases f2 <;> cases f3 <;> first | exact False.elim h | exact .inl h | exact .inr (.inl h) | exact .inr (.inr (.inl h)) | exact .inr (.inr (.inr h))
theorem ch3_s1 {P0 P1 P2 P3 : World → Prop} {f1 f2 f3 : Bool} {w : World} (h : ch3 P0 P1 P2 P3 f1 f2 f3 w) (e2 : f1 = false) : P0 w ∧ ∀ w' : World, P1 w' → ch3 P0 P1 P2 P3 true f2 f3 w' := by
  subst e2
  cases f2 <;> cases f3 <;> first | exact False.elim h | exact ⟨h, fun _ x => x⟩
theorem ch3_s2 {P0 P1 P2 P3 : World → Prop} {f1 f2 f3 : Bool} {w : World} (h : ch3 P0 P1 P2 P3 f1 f2 f3 w) (e1 : f1 = true) (e2 : f2 = false) : P1 w ∧ ∀ w' : World, P2 w' → ch3 P0 P1 P2 P3 f1 true f3 w' := by
  subst e1 e2
  cases f3 <;> first | exact False.elim h | exact ⟨h, fun _ x => x⟩
theorem ch3_s3 {P0 P1 P2 P3 : World → Prop} {f1 f2 f3 : Bool} {w : World} (h : ch3 P0 P1 P2 P3 f1 f2 f3 w) (e1 : f2 = true) (e2 : f3 = false) : P2 w ∧ ∀ w' : World, P3 w' → ch3 P0 P1 P2 P3 f1 f2 true w' := by
  subst e1 e2
  cases f1 <;> first | exact False.elim h | exact ⟨h, fun _ x => x⟩
/-- A world at one of 5 stages, by which ones are passed. -/
def ch4 (P0 P1 P2 P3 P4 : World → Prop) : Bool → Bool → Bool → Bool → World → Prop
  | false, false, false, false, w => P0 w
  | true, false, false, false, w => P1 w
  | true, true, false, false, w => P2 w
  | true, true, true, false, w => P3 w
  | true, true, true, true, w => P4 w
  | _, _, _, _, _ => False
theorem ch4_or {P0 P1 P2 P3 P4 : World → Prop} {f1 f2 f3 f4 : Bool} {w : World} (h : ch4 P0 P1 P2 P3 P4 f1 f2 f3 f4 w) : P0 w ∨ P1 w ∨ P2 w ∨ P3 w ∨ P4 w := by
  cases f1 <;> cases f2 <;> cases f3 <;> cases f4 <;> first | exact False.elim h | exact .inl h | exact .inr (.inl h) | exact .inr (.inr (.inl h)) | exact .inr (.inr (.inr (.inl h))) | exact .inr (.inr (.inr (.inr h)))
theorem ch4_s1 {P0 P1 P2 P3 P4 : World → Prop} {f1 f2 f3 f4 : Bool} {w : World} (h : ch4 P0 P1 P2 P3 P4 f1 f2 f3 f4 w) (e2 : f1 = false) : P0 w ∧ ∀ w' : World, P1 w' → ch4 P0 P1 P2 P3 P4 true f2 f3 f4 w' := by
  subst e2
  cases f2 <;> cases f3 <;> cases f4 <;> first | exact False.elim h | exact ⟨h, fun _ x => x⟩
theorem ch4_s2 {P0 P1 P2 P3 P4 : World → Prop} {f1 f2 f3 f4 : Bool} {w : World} (h : ch4 P0 P1 P2 P3 P4 f1 f2 f3 f4 w) (e1 : f1 = true) (e2 : f2 = false) : P1 w ∧ ∀ w' : World, P2 w' → ch4 P0 P1 P2 P3 P4 f1 true f3 f4 w' := by
  subst e1 e2
  cases f3 <;> cases f4 <;> first | exact False.elim h | exact ⟨h, fun _ x => x⟩
theorem ch4_s3 {P0 P1 P2 P3 P4 : World → Prop} {f1 f2 f3 f4 : Bool} {w : World} (h : ch4 P0 P1 P2 P3 P4 f1 f2 f3 f4 w) (e1 : f2 = true) (e2 : f3 = false) : P2 w ∧ ∀ w' : World, P3 w' → ch4 P0 P1 P2 P3 P4 f1 f2 true f4 w' := by
  subst e1 e2
  cases f1 <;> cases f4 <;> first | exact False.elim h | exact ⟨h, fun _ x => x⟩
theorem ch4_s4 {P0 P1 P2 P3 P4 : World → Prop} {f1 f2 f3 f4 : Bool} {w : World} (h : ch4 P0 P1 P2 P3 P4 f1 f2 f3 f4 w) (e1 : f3 = true) (e2 : f4 = false) : P3 w ∧ ∀ w' : World, P4 w' → ch4 P0 P1 P2 P3 P4 f1 f2 f3 true w' := by
  subst e1 e2
  cases f1 <;> cases f2 <;> first | exact False.elim h | exact ⟨h, fun _ x => x⟩
/-- A world at one of 6 stages, by which ones are passed. -/
def ch5 (P0 P1 P2 P3 P4 P5 : World → Prop) : Bool → Bool → Bool → Bool → Bool → World → Prop
  | false, false, false, false, false, w => P0 w
  | true, false, false, false, false, w => P1 w
  | true, true, false, false, false, w => P2 w
  | true, true, true, false, false, w => P3 w
  | true, true, true, true, false, w => P4 w
  | true, true, true, true, true, w => P5 w
  | _, _, _, _, _, _ => False
theorem ch5_or {P0 P1 P2 P3 P4 P5 : World → Prop} {f1 f2 f3 f4 f5 : Bool} {w : World} (h : ch5 P0 P1 P2 P3 P4 P5 f1 f2 f3 f4 f5 w) : P0 w ∨ P1 w ∨ P2 w ∨ P3 w ∨ P4 w ∨ P5 w := by
  cases f1 <;> cases f2 <;> cases f3 <;> cases f4 <;> cases f5 <;> first | exact False.elim h | exact .inl h | exact .inr (.inl h) | exact .inr (.inr (.inl h)) | exact .inr (.inr (.inr (.inl h))) | exact .inr (.inr (.inr (.inr (.inl h)))) | exact .inr (.inr (.inr (.inr (.inr h))))
theorem ch5_s1 {P0 P1 P2 P3 P4 P5 : World → Prop} {f1 f2 f3 f4 f5 : Bool} {w : World} (h : ch5 P0 P1 P2 P3 P4 P5 f1 f2 f3 f4 f5 w) (e2 : f1 = false) : P0 w ∧ ∀ w' : World, P1 w' → ch5 P0 P1 P2 P3 P4 P5 true f2 f3 f4 f5 w' := by
  subst e2
  cases f2 <;> cases f3 <;> cases f4 <;> cases f5 <;> first | exact False.elim h | exact ⟨h, fun _ x => x⟩
theorem ch5_s2 {P0 P1 P2 P3 P4 P5 : World → Prop} {f1 f2 f3 f4 f5 : Bool} {w : World} (h : ch5 P0 P1 P2 P3 P4 P5 f1 f2 f3 f4 f5 w) (e1 : f1 = true) (e2 : f2 = false) : P1 w ∧ ∀ w' : World, P2 w' → ch5 P0 P1 P2 P3 P4 P5 f1 true f3 f4 f5 w' := by
  subst e1 e2
  cases f3 <;> cases f4 <;> cases f5 <;> first | exact False.elim h | exact ⟨h, fun _ x => x⟩
theorem ch5_s3 {P0 P1 P2 P3 P4 P5 : World → Prop} {f1 f2 f3 f4 f5 : Bool} {w : World} (h : ch5 P0 P1 P2 P3 P4 P5 f1 f2 f3 f4 f5 w) (e1 : f2 = true) (e2 : f3 = false) : P2 w ∧ ∀ w' : World, P3 w' → ch5 P0 P1 P2 P3 P4 P5 f1 f2 true f4 f5 w' := by
  subst e1 e2
  cases f1 <;> cases f4 <;> cases f5 <;> first | exact False.elim h | exact ⟨h, fun _ x => x⟩
theorem ch5_s4 {P0 P1 P2 P3 P4 P5 : World → Prop} {f1 f2 f3 f4 f5 : Bool} {w : World} (h : ch5 P0 P1 P2 P3 P4 P5 f1 f2 f3 f4 f5 w) (e1 : f3 = true) (e2 : f4 = false) : P3 w ∧ ∀ w' : World, P4 w' → ch5 P0 P1 P2 P3 P4 P5 f1 f2 f3 true f5 w' := by
  subst e1 e2
  cases f1 <;> cases f2 <;> cases f5 <;> first | exact False.elim h | exact ⟨h, fun _ x => x⟩
theorem ch5_s5 {P0 P1 P2 P3 P4 P5 : World → Prop} {f1 f2 f3 f4 f5 : Bool} {w : World} (h : ch5 P0 P1 P2 P3 P4 P5 f1 f2 f3 f4 f5 w) (e1 : f4 = true) (e2 : f5 = false) : P4 w ∧ ∀ w' : World, P5 w' → ch5 P0 P1 P2 P3 P4 P5 f1 f2 f3 f4 true w' := by
  subst e1 e2
  cases f1 <;> cases f2 <;> cases f3 <;> first | exact False.elim h | exact ⟨h, fun _ x => x⟩
/-- A world at one of 7 stages, by which ones are passed. -/
def ch6 (P0 P1 P2 P3 P4 P5 P6 : World → Prop) : Bool → Bool → Bool → Bool → Bool → Bool → World → Prop
  | false, false, false, false, false, false, w => P0 w
  | true, false, false, false, false, false, w => P1 w
  | true, true, false, false, false, false, w => P2 w
  | true, true, true, false, false, false, w => P3 w
  | true, true, true, true, false, false, w => P4 w
  | true, true, true, true, true, false, w => P5 w
  | true, true, true, true, true, true, w => P6 w
  | _, _, _, _, _, _, _ => False
theorem ch6_or {P0 P1 P2 P3 P4 P5 P6 : World → Prop} {f1 f2 f3 f4 f5 f6 : Bool} {w : World} (h : ch6 P0 P1 P2 P3 P4 P5 P6 f1 f2 f3 f4 f5 f6 w) : P0 w ∨ P1 w ∨ P2 w ∨ P3 w ∨ P4 w ∨ P5 w ∨ P6 w := by
  cases f1 <;> cases f2 <;> cases f3 <;> cases f4 <;> cases f5 <;> cases f6 <;> first | exact False.elim h | exact .inl h | exact .inr (.inl h) | exact .inr (.inr (.inl h)) | exact .inr (.inr (.inr (.inl h))) | exact .inr (.inr (.inr (.inr (.inl h)))) | exact .inr (.inr (.inr (.inr (.inr (.inl h))))) | exact .inr (.inr (.inr (.inr (.inr (.inr h)))))
theorem ch6_s1 {P0 P1 P2 P3 P4 P5 P6 : World → Prop} {f1 f2 f3 f4 f5 f6 : Bool} {w : World} (h : ch6 P0 P1 P2 P3 P4 P5 P6 f1 f2 f3 f4 f5 f6 w) (e2 : f1 = false) : P0 w ∧ ∀ w' : World, P1 w' → ch6 P0 P1 P2 P3 P4 P5 P6 true f2 f3 f4 f5 f6 w' := by
  subst e2
  cases f2 <;> cases f3 <;> cases f4 <;> cases f5 <;> cases f6 <;> first | exact False.elim h | exact ⟨h, fun _ x => x⟩
theorem ch6_s2 {P0 P1 P2 P3 P4 P5 P6 : World → Prop} {f1 f2 f3 f4 f5 f6 : Bool} {w : World} (h : ch6 P0 P1 P2 P3 P4 P5 P6 f1 f2 f3 f4 f5 f6 w) (e1 : f1 = true) (e2 : f2 = false) : P1 w ∧ ∀ w' : World, P2 w' → ch6 P0 P1 P2 P3 P4 P5 P6 f1 true f3 f4 f5 f6 w' := by
  subst e1 e2
  cases f3 <;> cases f4 <;> cases f5 <;> cases f6 <;> first | exact False.elim h | exact ⟨h, fun _ x => x⟩
theorem ch6_s3 {P0 P1 P2 P3 P4 P5 P6 : World → Prop} {f1 f2 f3 f4 f5 f6 : Bool} {w : World} (h : ch6 P0 P1 P2 P3 P4 P5 P6 f1 f2 f3 f4 f5 f6 w) (e1 : f2 = true) (e2 : f3 = false) : P2 w ∧ ∀ w' : World, P3 w' → ch6 P0 P1 P2 P3 P4 P5 P6 f1 f2 true f4 f5 f6 w' := by
  subst e1 e2
  cases f1 <;> cases f4 <;> cases f5 <;> cases f6 <;> first | exact False.elim h | exact ⟨h, fun _ x => x⟩
theorem ch6_s4 {P0 P1 P2 P3 P4 P5 P6 : World → Prop} {f1 f2 f3 f4 f5 f6 : Bool} {w : World} (h : ch6 P0 P1 P2 P3 P4 P5 P6 f1 f2 f3 f4 f5 f6 w) (e1 : f3 = true) (e2 : f4 = false) : P3 w ∧ ∀ w' : World, P4 w' → ch6 P0 P1 P2 P3 P4 P5 P6 f1 f2 f3 true f5 f6 w' := by
  subst e1 e2
  cases f1 <;> cases f2 <;> cases f5 <;> cases f6 <;> first | exact False.elim h | exact ⟨h, fun _ x => x⟩
theorem ch6_s5 {P0 P1 P2 P3 P4 P5 P6 : World → Prop} {f1 f2 f3 f4 f5 f6 : Bool} {w : World} (h : ch6 P0 P1 P2 P3 P4 P5 P6 f1 f2 f3 f4 f5 f6 w) (e1 : f4 = true) (e2 : f5 = false) : P4 w ∧ ∀ w' : World, P5 w' → ch6 P0 P1 P2 P3 P4 P5 P6 f1 f2 f3 f4 true f6 w' := by
  subst e1 e2
  cases f1 <;> cases f2 <;> cases f3 <;> cases f6 <;> first | exact False.elim h | exact ⟨h, fun _ x => x⟩
theorem ch6_s6 {P0 P1 P2 P3 P4 P5 P6 : World → Prop} {f1 f2 f3 f4 f5 f6 : Bool} {w : World} (h : ch6 P0 P1 P2 P3 P4 P5 P6 f1 f2 f3 f4 f5 f6 w) (e1 : f5 = true) (e2 : f6 = false) : P5 w ∧ ∀ w' : World, P6 w' → ch6 P0 P1 P2 P3 P4 P5 P6 f1 f2 f3 f4 f5 true w' := by
  subst e1 e2
  cases f1 <;> cases f2 <;> cases f3 <;> cases f4 <;> first | exact False.elim h | exact ⟨h, fun _ x => x⟩
noncomputable def aro1C : Code := (Try.f85.body.bind (regionAt 1)).getD .skip
set_option maxRecDepth 100000 in
set_option maxHeartbeats 8000000 in
theorem aro1 {pa pb b3 bx : Nat} {x u v : Int} {P0 P1 P2 P3 P4 : World → Prop} {Q : Exit → Act → World → Prop} {W1 : World}  (h0 : P0 W1.drew)
    (kl1 : Hid (∀ w : World, (P0 w ∨ P1 w ∨ P2 w ∨ P3 w ∨ P4 w) → w.cell? ⟨b3, 0, none⟩ = some (.func (.func 87) #[] #[.pointer (some ⟨pa, 0, none⟩), .pointer (some ⟨pb, 0, none⟩)])))
    (kc2 : Hid (∀ w : World, P0 w → Calls Try.prog 87 #[.int .i64 6, .pointer (some ⟨pa, 0, none⟩), .pointer (some ⟨pb, 0, none⟩)] w fun e w' => e = .returned (.int .i64 (u)) ∧ P1 w'))
    (kl5 : Hid (∀ w : World, (P0 w ∨ P1 w ∨ P2 w ∨ P3 w ∨ P4 w) → w.cell? ⟨b3, 0, none⟩ = some (.func (.func 87) #[] #[.pointer (some ⟨pa, 0, none⟩), .pointer (some ⟨pb, 0, none⟩)])))
    (kc6 : Hid (∀ w : World, P1 w → Calls Try.prog 87 #[.int .i64 6, .pointer (some ⟨pa, 0, none⟩), .pointer (some ⟨pb, 0, none⟩)] w fun e w' => e = .returned (.int .i64 (v)) ∧ P2 w'))
    (kc8 : Hid (∀ w : World, P2 w → Calls Try.prog 31 #[.int .i64 (IntKind.i64.wrap (x - u)), .int .i64 (IntKind.i64.wrap (x + v))] w fun e w' => e = .returned (.agg #[.int .i64 (IntKind.i64.wrap (x - u)), .int .i64 (IntKind.i64.wrap (x + v))]) ∧ P3 w'))
    (ks9 : Hid (∀ w : World, P3 w → (∃ u, w.cell? ⟨bx, 0, none⟩ = some u) ∧ w.frozen? ⟨bx, 0, none⟩ = false ∧ (∃ u, w.cell? ⟨bx, 1, none⟩ = some u) ∧ w.frozen? ⟨bx, 1, none⟩ = false ∧ P4 ((w.setCell ⟨bx, 0, none⟩ (.int .i64 (IntKind.i64.wrap (x - u)))).setCell ⟨bx, 1, none⟩ (.int .i64 (IntKind.i64.wrap (x + v))))))
    {s2 s4 s5 s6 s7 s8 s9 s10 s11 s12 : Value} {dd : List Deferred}
    (hQ : ∀ w' : World, P4 w' → Q .normal { tmps := #[.int .i64 (x),.pointer (some ⟨b3, 0, none⟩),s2,.pointer (some ⟨bx, 0, none⟩),.int .i64 (x),.func (.func 87) #[] #[.pointer (some ⟨pa, 0, none⟩), .pointer (some ⟨pb, 0, none⟩)],.int .i64 (u),.int .i64 (IntKind.i64.wrap (x - u)),.int .i64 (x),.func (.func 87) #[] #[.pointer (some ⟨pa, 0, none⟩), .pointer (some ⟨pb, 0, none⟩)],.int .i64 (v),.int .i64 (IntKind.i64.wrap (x + v)),.agg #[.int .i64 (IntKind.i64.wrap (x - u)), .int .i64 (IntKind.i64.wrap (x + v))]],defers := dd } w') :
    Code.wpIn (wideAt none) 0 Try.prog aro1C Q { tmps := #[.int .i64 (x),.pointer (some ⟨b3, 0, none⟩),s2,.pointer (some ⟨bx, 0, none⟩),s4,s5,s6,s7,s8,s9,s10,s11,s12],defers := dd } W1 := by
  have HQ := Lib.hid hQ
  clear hQ
  conv => arg 4; whnf
  refine wpIn_region_invG mixed (by kernel_rfl) (fun d_ a_ w' => a_ = { tmps := #[.int .i64 (x),.pointer (some ⟨b3, 0, none⟩),s2,.pointer (some ⟨bx, 0, none⟩),pk (d_ 0) (.int .i64 (x)) s4,pk (d_ 1) (.func (.func 87) #[] #[.pointer (some ⟨pa, 0, none⟩), .pointer (some ⟨pb, 0, none⟩)]) s5,pk (d_ 2) (.int .i64 (u)) s6,pk (d_ 3) (.int .i64 (IntKind.i64.wrap (x - u))) s7,pk (d_ 4) (.int .i64 (x)) s8,pk (d_ 5) (.func (.func 87) #[] #[.pointer (some ⟨pa, 0, none⟩), .pointer (some ⟨pb, 0, none⟩)]) s9,pk (d_ 6) (.int .i64 (v)) s10,pk (d_ 7) (.int .i64 (IntKind.i64.wrap (x + v))) s11,pk (d_ 8) (.agg #[.int .i64 (IntKind.i64.wrap (x - u)), .int .i64 (IntKind.i64.wrap (x + v))]) s12],defers := dd } ∧ ch4 P0 P1 P2 P3 P4 (d_ 2) (d_ 6) (d_ 8) (d_ 9) w') ?_ ?_ ?_
  · exact ⟨rfl, h0⟩
  · refine ⟨?_,?_,?_,?_,?_,?_,?_,?_,?_,?_, trivial⟩
    all_goals
      rintro d_ a_ w1 K hd_ hdep ⟨rfl, F⟩ HK
      simp [Region.binds] at hdep
    · have HF := Lib.hid F
      clear F hdep
      go_simp
      refine HK.out _ _ ⟨?_, HF.out⟩
      all_goals rfl
    · have kk := kl1.out w1 (ch4_or F)
      have HF := Lib.hid F
      clear F hdep
      go_simp
      refine HK.out _ _ ⟨?_, HF.out⟩
      all_goals rfl
    · have q1 : d_ 1 = true := by simp [hdep]
      rw [pk_of q1]
      obtain ⟨hP, hN⟩ := ch4_s1 F hd_
      have hc := kc2.out w1 hP
      have HN := Lib.hid hN
      clear F hP hN hdep
      go_simp
      refine ⟨trivial, rfl, wideAt_calls (hc.mono ?_)⟩
      rintro e w5 ⟨rfl, hR⟩
      have HG := HN.out w5 hR
      refine HK.out _ _ ⟨?_, HG⟩
      rw [pk_of (show upd d_ 2 1 = true from q1)]
      all_goals rfl
    · have q0 : d_ 0 = true := by simp [hdep]
      have q2 : d_ 2 = true := by simp [hdep]
      rw [pk_of q0, pk_of q2]
      have HF := Lib.hid F
      clear F hdep
      go_simp
      refine HK.out _ _ ⟨?_, HF.out⟩
      rw [pk_of (show upd d_ 3 0 = true from q0), pk_of (show upd d_ 3 2 = true from q2)]
      all_goals rfl
    · have HF := Lib.hid F
      clear F hdep
      go_simp
      refine HK.out _ _ ⟨?_, HF.out⟩
      all_goals rfl
    · have kk := kl5.out w1 (ch4_or F)
      have HF := Lib.hid F
      clear F hdep
      go_simp
      refine HK.out _ _ ⟨?_, HF.out⟩
      all_goals rfl
    · have q5 : d_ 5 = true := by simp [hdep]
      rw [pk_of q5]
      obtain ⟨hP, hN⟩ := ch4_s2 F (show d_ 2 = true by simp [hdep]) hd_
      have hc := kc6.out w1 hP
      have HN := Lib.hid hN
      clear F hP hN hdep
      go_simp
      refine ⟨trivial, rfl, wideAt_calls (hc.mono ?_)⟩
      rintro e w5 ⟨rfl, hR⟩
      have HG := HN.out w5 hR
      refine HK.out _ _ ⟨?_, HG⟩
      rw [pk_of (show upd d_ 6 5 = true from q5)]
      all_goals rfl
    · have q4 : d_ 4 = true := by simp [hdep]
      have q6 : d_ 6 = true := by simp [hdep]
      rw [pk_of q4, pk_of q6]
      have HF := Lib.hid F
      clear F hdep
      go_simp
      refine HK.out _ _ ⟨?_, HF.out⟩
      rw [pk_of (show upd d_ 7 4 = true from q4), pk_of (show upd d_ 7 6 = true from q6)]
      all_goals rfl
    · have q3 : d_ 3 = true := by simp [hdep]
      have q7 : d_ 7 = true := by simp [hdep]
      rw [pk_of q3, pk_of q7]
      obtain ⟨hP, hN⟩ := ch4_s3 F (show d_ 6 = true by simp [hdep]) hd_
      have hc := kc8.out w1 hP
      have HN := Lib.hid hN
      clear F hP hN hdep
      go_simp
      refine ⟨trivial, rfl, wideAt_calls (hc.mono ?_)⟩
      rintro e w5 ⟨rfl, hR⟩
      have HG := HN.out w5 hR
      refine HK.out _ _ ⟨?_, HG⟩
      rw [pk_of (show upd d_ 8 3 = true from q3), pk_of (show upd d_ 8 7 = true from q7)]
      all_goals rfl
    · have q8 : d_ 8 = true := by simp [hdep]
      rw [pk_of q8]
      obtain ⟨hP, hN⟩ := ch4_s4 F (show d_ 8 = true by simp [hdep]) hd_
      obtain ⟨⟨u0, c0⟩, z0, ⟨u1, c1⟩, z1, hR⟩ := ks9.out w1 hP
      have HF := Lib.hid (hN _ hR)
      clear F hP hR hN hdep
      go_simp
      have HG := HF.out
      refine HK.out _ _ ⟨?_, HG⟩
      rw [pk_of (show upd d_ 9 8 = true from q8)]
      all_goals rfl
  · rintro d_ a_ w1 hall ⟨rfl, F⟩
    have hall' : ∀ k, k < 10 → d_ k = true := hall
    rw [hall' 2 (by decide), hall' 6 (by decide), hall' 8 (by decide), hall' 9 (by decide)] at F
    have HF := Lib.hid F
    clear F
    rw [pk_of (hall' 0 (by decide)), pk_of (hall' 1 (by decide)), pk_of (hall' 2 (by decide)), pk_of (hall' 3 (by decide)), pk_of (hall' 4 (by decide)), pk_of (hall' 5 (by decide)), pk_of (hall' 6 (by decide)), pk_of (hall' 7 (by decide)), pk_of (hall' 8 (by decide))]
    exact HQ.out w1 HF.out
noncomputable def mad1C : Code := (Try.f41.body.bind (regionAt 1)).getD .skip
set_option maxRecDepth 100000 in
set_option maxHeartbeats 8000000 in
theorem mad1 {pa pb b3 : Nat} {u v : Int} {P0 P1 P2 : World → Prop} {Q : Exit → Act → World → Prop} {W1 : World}  (h0 : P0 W1.drew)
    (kl0 : Hid (∀ w : World, (P0 w ∨ P1 w ∨ P2 w) → w.cell? ⟨b3, 0, none⟩ = some (.func (.func 87) #[] #[.pointer (some ⟨pa, 0, none⟩), .pointer (some ⟨pb, 0, none⟩)])))
    (kc1 : Hid (∀ w : World, P0 w → Calls Try.prog 87 #[.int .i64 5, .pointer (some ⟨pa, 0, none⟩), .pointer (some ⟨pb, 0, none⟩)] w fun e w' => e = .returned (.int .i64 (u)) ∧ P1 w'))
    (kl3 : Hid (∀ w : World, (P0 w ∨ P1 w ∨ P2 w) → w.cell? ⟨b3, 0, none⟩ = some (.func (.func 87) #[] #[.pointer (some ⟨pa, 0, none⟩), .pointer (some ⟨pb, 0, none⟩)])))
    (kc4 : Hid (∀ w : World, P1 w → Calls Try.prog 87 #[.int .i64 9, .pointer (some ⟨pa, 0, none⟩), .pointer (some ⟨pb, 0, none⟩)] w fun e w' => e = .returned (.int .i64 (v)) ∧ P2 w'))
    {s0 s1 s2 s4 s5 s6 s7 s8 s9 s10 s11 s12 s13 s14 s15 s16 s17 s18 s19 s20 s21 s22 s23 s24 s25 s26 s27 s28 s29 s30 s31 s32 s33 s34 s35 s36 s37 s38 s39 s40 s41 s42 s43 s44 s45 s46 s47 s48 s49 s50 s51 s52 s53 s54 s55 s56 s57 s58 s59 s60 s61 s62 s63 s64 s65 s66 s67 s68 s69 s70 s71 s72 s73 s74 s75 s76 s77 s78 s79 s80 s81 s82 s83 s84 s85 s86 s87 s88 s89 s90 s91 s92 s93 s94 s95 s96 s97 s98 s99 s100 s101 s102 s103 s104 s105 s106 s107 s108 s109 s110 s111 s112 s113 s114 s115 s116 s117 s118 s119 s120 s121 s122 s123 s124 s125 s126 s127 s128 s129 s130 s131 s132 s133 s134 s135 s136 s137 s138 s139 s140 s141 s142 s143 s144 s145 s146 s147 s148 s149 s150 s151 s152 s153 s154 s155 s156 s157 s158 s159 s160 s161 s162 s163 s164 s165 s166 s167 s168 s169 s170 s171 s172 s173 s174 s175 s176 s177 s178 s179 s180 s181 s182 s183 s184 s185 s186 s187 s188 s189 s190 s191 s192 s193 s194 s195 s196 s197 s198 s199 s200 s201 s202 s203 s204 s205 s206 s207 s208 s209 s210 s211 s212 s213 s214 s215 : Value} {dd : List Deferred}
    (hQ : ∀ w' : World, P2 w' → Q .normal { tmps := #[s0,s1,s2,.pointer (some ⟨b3, 0, none⟩),s4,s5,.int .i64 (IntKind.i64.wrap (1 + u)),.int .i64 (IntKind.i64.wrap (1 + v)),s8,s9,s10,s11,s12,s13,s14,s15,s16,s17,s18,s19,.func (.func 87) #[] #[.pointer (some ⟨pa, 0, none⟩), .pointer (some ⟨pb, 0, none⟩)],.int .i64 (u),.int .i64 (IntKind.i64.wrap (1 + u)),.func (.func 87) #[] #[.pointer (some ⟨pa, 0, none⟩), .pointer (some ⟨pb, 0, none⟩)],.int .i64 (v),.int .i64 (IntKind.i64.wrap (1 + v)),s26,s27,s28,s29,s30,s31,s32,s33,s34,s35,s36,s37,s38,s39,s40,s41,s42,s43,s44,s45,s46,s47,s48,s49,s50,s51,s52,s53,s54,s55,s56,s57,s58,s59,s60,s61,s62,s63,s64,s65,s66,s67,s68,s69,s70,s71,s72,s73,s74,s75,s76,s77,s78,s79,s80,s81,s82,s83,s84,s85,s86,s87,s88,s89,s90,s91,s92,s93,s94,s95,s96,s97,s98,s99,s100,s101,s102,s103,s104,s105,s106,s107,s108,s109,s110,s111,s112,s113,s114,s115,s116,s117,s118,s119,s120,s121,s122,s123,s124,s125,s126,s127,s128,s129,s130,s131,s132,s133,s134,s135,s136,s137,s138,s139,s140,s141,s142,s143,s144,s145,s146,s147,s148,s149,s150,s151,s152,s153,s154,s155,s156,s157,s158,s159,s160,s161,s162,s163,s164,s165,s166,s167,s168,s169,s170,s171,s172,s173,s174,s175,s176,s177,s178,s179,s180,s181,s182,s183,s184,s185,s186,s187,s188,s189,s190,s191,s192,s193,s194,s195,s196,s197,s198,s199,s200,s201,s202,s203,s204,s205,s206,s207,s208,s209,s210,s211,s212,s213,s214,s215],defers := dd } w') :
    Code.wpIn (wideAt none) 0 Try.prog mad1C Q { tmps := #[s0,s1,s2,.pointer (some ⟨b3, 0, none⟩),s4,s5,s6,s7,s8,s9,s10,s11,s12,s13,s14,s15,s16,s17,s18,s19,s20,s21,s22,s23,s24,s25,s26,s27,s28,s29,s30,s31,s32,s33,s34,s35,s36,s37,s38,s39,s40,s41,s42,s43,s44,s45,s46,s47,s48,s49,s50,s51,s52,s53,s54,s55,s56,s57,s58,s59,s60,s61,s62,s63,s64,s65,s66,s67,s68,s69,s70,s71,s72,s73,s74,s75,s76,s77,s78,s79,s80,s81,s82,s83,s84,s85,s86,s87,s88,s89,s90,s91,s92,s93,s94,s95,s96,s97,s98,s99,s100,s101,s102,s103,s104,s105,s106,s107,s108,s109,s110,s111,s112,s113,s114,s115,s116,s117,s118,s119,s120,s121,s122,s123,s124,s125,s126,s127,s128,s129,s130,s131,s132,s133,s134,s135,s136,s137,s138,s139,s140,s141,s142,s143,s144,s145,s146,s147,s148,s149,s150,s151,s152,s153,s154,s155,s156,s157,s158,s159,s160,s161,s162,s163,s164,s165,s166,s167,s168,s169,s170,s171,s172,s173,s174,s175,s176,s177,s178,s179,s180,s181,s182,s183,s184,s185,s186,s187,s188,s189,s190,s191,s192,s193,s194,s195,s196,s197,s198,s199,s200,s201,s202,s203,s204,s205,s206,s207,s208,s209,s210,s211,s212,s213,s214,s215],defers := dd } W1 := by
  have HQ := Lib.hid hQ
  clear hQ
  conv => arg 4; whnf
  refine wpIn_region_invG mixed (by kernel_rfl) (fun d_ a_ w' => a_ = { tmps := #[s0,s1,s2,.pointer (some ⟨b3, 0, none⟩),s4,s5,pk (d_ 6) (.int .i64 (IntKind.i64.wrap (1 + u))) s6,pk (d_ 7) (.int .i64 (IntKind.i64.wrap (1 + v))) s7,s8,s9,s10,s11,s12,s13,s14,s15,s16,s17,s18,s19,pk (d_ 0) (.func (.func 87) #[] #[.pointer (some ⟨pa, 0, none⟩), .pointer (some ⟨pb, 0, none⟩)]) s20,pk (d_ 1) (.int .i64 (u)) s21,pk (d_ 2) (.int .i64 (IntKind.i64.wrap (1 + u))) s22,pk (d_ 3) (.func (.func 87) #[] #[.pointer (some ⟨pa, 0, none⟩), .pointer (some ⟨pb, 0, none⟩)]) s23,pk (d_ 4) (.int .i64 (v)) s24,pk (d_ 5) (.int .i64 (IntKind.i64.wrap (1 + v))) s25,s26,s27,s28,s29,s30,s31,s32,s33,s34,s35,s36,s37,s38,s39,s40,s41,s42,s43,s44,s45,s46,s47,s48,s49,s50,s51,s52,s53,s54,s55,s56,s57,s58,s59,s60,s61,s62,s63,s64,s65,s66,s67,s68,s69,s70,s71,s72,s73,s74,s75,s76,s77,s78,s79,s80,s81,s82,s83,s84,s85,s86,s87,s88,s89,s90,s91,s92,s93,s94,s95,s96,s97,s98,s99,s100,s101,s102,s103,s104,s105,s106,s107,s108,s109,s110,s111,s112,s113,s114,s115,s116,s117,s118,s119,s120,s121,s122,s123,s124,s125,s126,s127,s128,s129,s130,s131,s132,s133,s134,s135,s136,s137,s138,s139,s140,s141,s142,s143,s144,s145,s146,s147,s148,s149,s150,s151,s152,s153,s154,s155,s156,s157,s158,s159,s160,s161,s162,s163,s164,s165,s166,s167,s168,s169,s170,s171,s172,s173,s174,s175,s176,s177,s178,s179,s180,s181,s182,s183,s184,s185,s186,s187,s188,s189,s190,s191,s192,s193,s194,s195,s196,s197,s198,s199,s200,s201,s202,s203,s204,s205,s206,s207,s208,s209,s210,s211,s212,s213,s214,s215],defers := dd } ∧ ch2 P0 P1 P2 (d_ 1) (d_ 4) w') ?_ ?_ ?_
  · exact ⟨rfl, h0⟩
  · refine ⟨?_,?_,?_,?_,?_,?_,?_,?_, trivial⟩
    all_goals
      rintro d_ a_ w1 K hd_ hdep ⟨rfl, F⟩ HK
      simp [Region.binds] at hdep
    · have kk := kl0.out w1 (ch2_or F)
      have HF := Lib.hid F
      clear F hdep
      go_simp
      refine HK.out _ _ ⟨?_, HF.out⟩
      all_goals rfl
    · have q0 : d_ 0 = true := by simp [hdep]
      rw [pk_of q0]
      obtain ⟨hP, hN⟩ := ch2_s1 F hd_
      have hc := kc1.out w1 hP
      have HN := Lib.hid hN
      clear F hP hN hdep
      go_simp
      refine ⟨trivial, rfl, wideAt_calls (hc.mono ?_)⟩
      rintro e w5 ⟨rfl, hR⟩
      have HG := HN.out w5 hR
      refine HK.out _ _ ⟨?_, HG⟩
      rw [pk_of (show upd d_ 1 0 = true from q0)]
      all_goals rfl
    · have q1 : d_ 1 = true := by simp [hdep]
      rw [pk_of q1]
      have HF := Lib.hid F
      clear F hdep
      go_simp
      refine HK.out _ _ ⟨?_, HF.out⟩
      rw [pk_of (show upd d_ 2 1 = true from q1)]
      all_goals rfl
    · have kk := kl3.out w1 (ch2_or F)
      have HF := Lib.hid F
      clear F hdep
      go_simp
      refine HK.out _ _ ⟨?_, HF.out⟩
      all_goals rfl
    · have q3 : d_ 3 = true := by simp [hdep]
      rw [pk_of q3]
      obtain ⟨hP, hN⟩ := ch2_s2 F (show d_ 1 = true by simp [hdep]) hd_
      have hc := kc4.out w1 hP
      have HN := Lib.hid hN
      clear F hP hN hdep
      go_simp
      refine ⟨trivial, rfl, wideAt_calls (hc.mono ?_)⟩
      rintro e w5 ⟨rfl, hR⟩
      have HG := HN.out w5 hR
      refine HK.out _ _ ⟨?_, HG⟩
      rw [pk_of (show upd d_ 4 3 = true from q3)]
      all_goals rfl
    · have q4 : d_ 4 = true := by simp [hdep]
      rw [pk_of q4]
      have HF := Lib.hid F
      clear F hdep
      go_simp
      refine HK.out _ _ ⟨?_, HF.out⟩
      rw [pk_of (show upd d_ 5 4 = true from q4)]
      all_goals rfl
    · have q2 : d_ 2 = true := by simp [hdep]
      rw [pk_of q2]
      have HF := Lib.hid F
      clear F hdep
      go_simp
      refine HK.out _ _ ⟨?_, HF.out⟩
      rw [pk_of (show upd d_ 6 2 = true from q2)]
      all_goals rfl
    · have q5 : d_ 5 = true := by simp [hdep]
      rw [pk_of q5]
      have HF := Lib.hid F
      clear F hdep
      go_simp
      refine HK.out _ _ ⟨?_, HF.out⟩
      rw [pk_of (show upd d_ 7 5 = true from q5)]
      all_goals rfl
  · rintro d_ a_ w1 hall ⟨rfl, F⟩
    have hall' : ∀ k, k < 8 → d_ k = true := hall
    rw [hall' 1 (by decide), hall' 4 (by decide)] at F
    have HF := Lib.hid F
    clear F
    rw [pk_of (hall' 0 (by decide)), pk_of (hall' 1 (by decide)), pk_of (hall' 2 (by decide)), pk_of (hall' 3 (by decide)), pk_of (hall' 4 (by decide)), pk_of (hall' 5 (by decide)), pk_of (hall' 6 (by decide)), pk_of (hall' 7 (by decide))]
    exact HQ.out w1 HF.out
noncomputable def mad2C : Code := (Try.f41.body.bind (regionAt 2)).getD .skip
set_option maxRecDepth 100000 in
set_option maxHeartbeats 8000000 in
theorem mad2 {pa pb b3 b4 : Nat} {a b u v : Int} {P0 P1 P2 P3 P4 P5 P6 : World → Prop} {Q : Exit → Act → World → Prop} {W1 : World}  (h0 : P0 W1.drew)
    (kl2 : Hid (∀ w : World, (P0 w ∨ P1 w ∨ P2 w ∨ P3 w ∨ P4 w ∨ P5 w ∨ P6 w) → w.cell? ⟨b3, 0, none⟩ = some (.func (.func 87) #[] #[.pointer (some ⟨pa, 0, none⟩), .pointer (some ⟨pb, 0, none⟩)])))
    (kc3 : Hid (∀ w : World, P0 w → Calls Try.prog 87 #[.int .i64 5, .pointer (some ⟨pa, 0, none⟩), .pointer (some ⟨pb, 0, none⟩)] w fun e w' => e = .returned (.int .i64 (u)) ∧ P1 w'))
    (kc5 : Hid (∀ w : World, P1 w → Calls Try.prog 31 #[.int .i64 (a), .int .i64 (IntKind.i64.wrap (a + u))] w fun e w' => e = .returned (.agg #[.int .i64 (a), .int .i64 (IntKind.i64.wrap (a + u))]) ∧ P2 w'))
    (kl8 : Hid (∀ w : World, (P0 w ∨ P1 w ∨ P2 w ∨ P3 w ∨ P4 w ∨ P5 w ∨ P6 w) → w.cell? ⟨b3, 0, none⟩ = some (.func (.func 87) #[] #[.pointer (some ⟨pa, 0, none⟩), .pointer (some ⟨pb, 0, none⟩)])))
    (kc9 : Hid (∀ w : World, P2 w → Calls Try.prog 87 #[.int .i64 9, .pointer (some ⟨pa, 0, none⟩), .pointer (some ⟨pb, 0, none⟩)] w fun e w' => e = .returned (.int .i64 (v)) ∧ P3 w'))
    (kc11 : Hid (∀ w : World, P3 w → Calls Try.prog 31 #[.int .i64 (b), .int .i64 (IntKind.i64.wrap (b + v))] w fun e w' => e = .returned (.agg #[.int .i64 (b), .int .i64 (IntKind.i64.wrap (b + v))]) ∧ P4 w'))
    (ks13 : Hid (∀ w : World, P4 w → (∃ u, w.cell? ⟨b4, 1, none⟩ = some u) ∧ w.frozen? ⟨b4, 1, none⟩ = false ∧ (∃ u, w.cell? ⟨b4, 2, none⟩ = some u) ∧ w.frozen? ⟨b4, 2, none⟩ = false ∧ P5 ((w.setCell ⟨b4, 1, none⟩ (.int .i64 (a))).setCell ⟨b4, 2, none⟩ (.int .i64 (IntKind.i64.wrap (a + u))))))
    (ks15 : Hid (∀ w : World, P5 w → (∃ u, w.cell? ⟨b4, 3, none⟩ = some u) ∧ w.frozen? ⟨b4, 3, none⟩ = false ∧ (∃ u, w.cell? ⟨b4, 4, none⟩ = some u) ∧ w.frozen? ⟨b4, 4, none⟩ = false ∧ P6 ((w.setCell ⟨b4, 3, none⟩ (.int .i64 (b))).setCell ⟨b4, 4, none⟩ (.int .i64 (IntKind.i64.wrap (b + v))))))
    {s0 s1 s2 s5 s8 s9 s10 s11 s12 s13 s14 s15 s16 s17 s18 s19 s20 s21 s22 s23 s24 s25 s26 s27 s28 s29 s30 s31 s32 s33 s34 s35 s36 s37 s38 s39 s40 s41 s42 s43 s44 s45 s46 s47 s48 s49 s50 s51 s52 s53 s54 s55 s56 s57 s58 s59 s60 s61 s62 s63 s64 s65 s66 s67 s68 s69 s70 s71 s72 s73 s74 s75 s76 s77 s78 s79 s80 s81 s82 s83 s84 s85 s86 s87 s88 s89 s90 s91 s92 s93 s94 s95 s96 s97 s98 s99 s100 s101 s102 s103 s104 s105 s106 s107 s108 s109 s110 s111 s112 s113 s114 s115 s116 s117 s118 s119 s120 s121 s122 s123 s124 s125 s126 s127 s128 s129 s130 s131 s132 s133 s134 s135 s136 s137 s138 s139 s140 s141 s142 s143 s144 s145 s146 s147 s148 s149 s150 s151 s152 s153 s154 s155 s156 s157 s158 s159 s160 s161 s162 s163 s164 s165 s166 s167 s168 s169 s170 s171 s172 s173 s174 s175 s176 s177 s178 s179 s180 s181 s182 s183 s184 s185 s186 s187 s188 s189 s190 s191 s192 s193 s194 s195 s196 s197 s198 s199 s200 s201 s202 s203 s204 s205 s206 s207 s208 s209 s210 s211 s212 s213 s214 s215 : Value} {dd : List Deferred}
    (hQ : ∀ w' : World, P6 w' → Q .normal { tmps := #[s0,s1,s2,.pointer (some ⟨b3, 0, none⟩),.pointer (some ⟨b4, 0, none⟩),s5,.int .i64 (a),.int .i64 (b),s8,s9,s10,s11,s12,s13,s14,s15,s16,s17,s18,s19,s20,s21,s22,s23,s24,s25,.int .i64 (a),.int .i64 (a),.func (.func 87) #[] #[.pointer (some ⟨pa, 0, none⟩), .pointer (some ⟨pb, 0, none⟩)],.int .i64 (u),.int .i64 (IntKind.i64.wrap (a + u)),.agg #[.int .i64 (a), .int .i64 (IntKind.i64.wrap (a + u))],.int .i64 (b),.int .i64 (b),.func (.func 87) #[] #[.pointer (some ⟨pa, 0, none⟩), .pointer (some ⟨pb, 0, none⟩)],.int .i64 (v),.int .i64 (IntKind.i64.wrap (b + v)),.agg #[.int .i64 (b), .int .i64 (IntKind.i64.wrap (b + v))],.pointer (some ⟨b4, 1, none⟩),.pointer (some ⟨b4, 3, none⟩),s40,s41,s42,s43,s44,s45,s46,s47,s48,s49,s50,s51,s52,s53,s54,s55,s56,s57,s58,s59,s60,s61,s62,s63,s64,s65,s66,s67,s68,s69,s70,s71,s72,s73,s74,s75,s76,s77,s78,s79,s80,s81,s82,s83,s84,s85,s86,s87,s88,s89,s90,s91,s92,s93,s94,s95,s96,s97,s98,s99,s100,s101,s102,s103,s104,s105,s106,s107,s108,s109,s110,s111,s112,s113,s114,s115,s116,s117,s118,s119,s120,s121,s122,s123,s124,s125,s126,s127,s128,s129,s130,s131,s132,s133,s134,s135,s136,s137,s138,s139,s140,s141,s142,s143,s144,s145,s146,s147,s148,s149,s150,s151,s152,s153,s154,s155,s156,s157,s158,s159,s160,s161,s162,s163,s164,s165,s166,s167,s168,s169,s170,s171,s172,s173,s174,s175,s176,s177,s178,s179,s180,s181,s182,s183,s184,s185,s186,s187,s188,s189,s190,s191,s192,s193,s194,s195,s196,s197,s198,s199,s200,s201,s202,s203,s204,s205,s206,s207,s208,s209,s210,s211,s212,s213,s214,s215],defers := dd } w') :
    Code.wpIn (wideAt none) 0 Try.prog mad2C Q { tmps := #[s0,s1,s2,.pointer (some ⟨b3, 0, none⟩),.pointer (some ⟨b4, 0, none⟩),s5,.int .i64 (a),.int .i64 (b),s8,s9,s10,s11,s12,s13,s14,s15,s16,s17,s18,s19,s20,s21,s22,s23,s24,s25,s26,s27,s28,s29,s30,s31,s32,s33,s34,s35,s36,s37,s38,s39,s40,s41,s42,s43,s44,s45,s46,s47,s48,s49,s50,s51,s52,s53,s54,s55,s56,s57,s58,s59,s60,s61,s62,s63,s64,s65,s66,s67,s68,s69,s70,s71,s72,s73,s74,s75,s76,s77,s78,s79,s80,s81,s82,s83,s84,s85,s86,s87,s88,s89,s90,s91,s92,s93,s94,s95,s96,s97,s98,s99,s100,s101,s102,s103,s104,s105,s106,s107,s108,s109,s110,s111,s112,s113,s114,s115,s116,s117,s118,s119,s120,s121,s122,s123,s124,s125,s126,s127,s128,s129,s130,s131,s132,s133,s134,s135,s136,s137,s138,s139,s140,s141,s142,s143,s144,s145,s146,s147,s148,s149,s150,s151,s152,s153,s154,s155,s156,s157,s158,s159,s160,s161,s162,s163,s164,s165,s166,s167,s168,s169,s170,s171,s172,s173,s174,s175,s176,s177,s178,s179,s180,s181,s182,s183,s184,s185,s186,s187,s188,s189,s190,s191,s192,s193,s194,s195,s196,s197,s198,s199,s200,s201,s202,s203,s204,s205,s206,s207,s208,s209,s210,s211,s212,s213,s214,s215],defers := dd } W1 := by
  have HQ := Lib.hid hQ
  clear hQ
  conv => arg 4; whnf
  refine wpIn_region_invG mixed (by kernel_rfl) (fun d_ a_ w' => a_ = { tmps := #[s0,s1,s2,.pointer (some ⟨b3, 0, none⟩),.pointer (some ⟨b4, 0, none⟩),s5,.int .i64 (a),.int .i64 (b),s8,s9,s10,s11,s12,s13,s14,s15,s16,s17,s18,s19,s20,s21,s22,s23,s24,s25,pk (d_ 0) (.int .i64 (a)) s26,pk (d_ 1) (.int .i64 (a)) s27,pk (d_ 2) (.func (.func 87) #[] #[.pointer (some ⟨pa, 0, none⟩), .pointer (some ⟨pb, 0, none⟩)]) s28,pk (d_ 3) (.int .i64 (u)) s29,pk (d_ 4) (.int .i64 (IntKind.i64.wrap (a + u))) s30,pk (d_ 5) (.agg #[.int .i64 (a), .int .i64 (IntKind.i64.wrap (a + u))]) s31,pk (d_ 6) (.int .i64 (b)) s32,pk (d_ 7) (.int .i64 (b)) s33,pk (d_ 8) (.func (.func 87) #[] #[.pointer (some ⟨pa, 0, none⟩), .pointer (some ⟨pb, 0, none⟩)]) s34,pk (d_ 9) (.int .i64 (v)) s35,pk (d_ 10) (.int .i64 (IntKind.i64.wrap (b + v))) s36,pk (d_ 11) (.agg #[.int .i64 (b), .int .i64 (IntKind.i64.wrap (b + v))]) s37,pk (d_ 12) (.pointer (some ⟨b4, 1, none⟩)) s38,pk (d_ 14) (.pointer (some ⟨b4, 3, none⟩)) s39,s40,s41,s42,s43,s44,s45,s46,s47,s48,s49,s50,s51,s52,s53,s54,s55,s56,s57,s58,s59,s60,s61,s62,s63,s64,s65,s66,s67,s68,s69,s70,s71,s72,s73,s74,s75,s76,s77,s78,s79,s80,s81,s82,s83,s84,s85,s86,s87,s88,s89,s90,s91,s92,s93,s94,s95,s96,s97,s98,s99,s100,s101,s102,s103,s104,s105,s106,s107,s108,s109,s110,s111,s112,s113,s114,s115,s116,s117,s118,s119,s120,s121,s122,s123,s124,s125,s126,s127,s128,s129,s130,s131,s132,s133,s134,s135,s136,s137,s138,s139,s140,s141,s142,s143,s144,s145,s146,s147,s148,s149,s150,s151,s152,s153,s154,s155,s156,s157,s158,s159,s160,s161,s162,s163,s164,s165,s166,s167,s168,s169,s170,s171,s172,s173,s174,s175,s176,s177,s178,s179,s180,s181,s182,s183,s184,s185,s186,s187,s188,s189,s190,s191,s192,s193,s194,s195,s196,s197,s198,s199,s200,s201,s202,s203,s204,s205,s206,s207,s208,s209,s210,s211,s212,s213,s214,s215],defers := dd } ∧ ch6 P0 P1 P2 P3 P4 P5 P6 (d_ 3) (d_ 5) (d_ 9) (d_ 11) (d_ 13) (d_ 15) w') ?_ ?_ ?_
  · exact ⟨rfl, h0⟩
  · refine ⟨?_,?_,?_,?_,?_,?_,?_,?_,?_,?_,?_,?_,?_,?_,?_,?_, trivial⟩
    all_goals
      rintro d_ a_ w1 K hd_ hdep ⟨rfl, F⟩ HK
      simp [Region.binds] at hdep
    · have HF := Lib.hid F
      clear F hdep
      go_simp
      refine HK.out _ _ ⟨?_, HF.out⟩
      all_goals rfl
    · have HF := Lib.hid F
      clear F hdep
      go_simp
      refine HK.out _ _ ⟨?_, HF.out⟩
      all_goals rfl
    · have kk := kl2.out w1 (ch6_or F)
      have HF := Lib.hid F
      clear F hdep
      go_simp
      refine HK.out _ _ ⟨?_, HF.out⟩
      all_goals rfl
    · have q2 : d_ 2 = true := by simp [hdep]
      rw [pk_of q2]
      obtain ⟨hP, hN⟩ := ch6_s1 F hd_
      have hc := kc3.out w1 hP
      have HN := Lib.hid hN
      clear F hP hN hdep
      go_simp
      refine ⟨trivial, rfl, wideAt_calls (hc.mono ?_)⟩
      rintro e w5 ⟨rfl, hR⟩
      have HG := HN.out w5 hR
      refine HK.out _ _ ⟨?_, HG⟩
      rw [pk_of (show upd d_ 3 2 = true from q2)]
      all_goals rfl
    · have q1 : d_ 1 = true := by simp [hdep]
      have q3 : d_ 3 = true := by simp [hdep]
      rw [pk_of q1, pk_of q3]
      have HF := Lib.hid F
      clear F hdep
      go_simp
      refine HK.out _ _ ⟨?_, HF.out⟩
      rw [pk_of (show upd d_ 4 1 = true from q1), pk_of (show upd d_ 4 3 = true from q3)]
      all_goals rfl
    · have q0 : d_ 0 = true := by simp [hdep]
      have q4 : d_ 4 = true := by simp [hdep]
      rw [pk_of q0, pk_of q4]
      obtain ⟨hP, hN⟩ := ch6_s2 F (show d_ 3 = true by simp [hdep]) hd_
      have hc := kc5.out w1 hP
      have HN := Lib.hid hN
      clear F hP hN hdep
      go_simp
      refine ⟨trivial, rfl, wideAt_calls (hc.mono ?_)⟩
      rintro e w5 ⟨rfl, hR⟩
      have HG := HN.out w5 hR
      refine HK.out _ _ ⟨?_, HG⟩
      rw [pk_of (show upd d_ 5 0 = true from q0), pk_of (show upd d_ 5 4 = true from q4)]
      all_goals rfl
    · have HF := Lib.hid F
      clear F hdep
      go_simp
      refine HK.out _ _ ⟨?_, HF.out⟩
      all_goals rfl
    · have HF := Lib.hid F
      clear F hdep
      go_simp
      refine HK.out _ _ ⟨?_, HF.out⟩
      all_goals rfl
    · have kk := kl8.out w1 (ch6_or F)
      have HF := Lib.hid F
      clear F hdep
      go_simp
      refine HK.out _ _ ⟨?_, HF.out⟩
      all_goals rfl
    · have q8 : d_ 8 = true := by simp [hdep]
      rw [pk_of q8]
      obtain ⟨hP, hN⟩ := ch6_s3 F (show d_ 5 = true by simp [hdep]) hd_
      have hc := kc9.out w1 hP
      have HN := Lib.hid hN
      clear F hP hN hdep
      go_simp
      refine ⟨trivial, rfl, wideAt_calls (hc.mono ?_)⟩
      rintro e w5 ⟨rfl, hR⟩
      have HG := HN.out w5 hR
      refine HK.out _ _ ⟨?_, HG⟩
      rw [pk_of (show upd d_ 9 8 = true from q8)]
      all_goals rfl
    · have q7 : d_ 7 = true := by simp [hdep]
      have q9 : d_ 9 = true := by simp [hdep]
      rw [pk_of q7, pk_of q9]
      have HF := Lib.hid F
      clear F hdep
      go_simp
      refine HK.out _ _ ⟨?_, HF.out⟩
      rw [pk_of (show upd d_ 10 7 = true from q7), pk_of (show upd d_ 10 9 = true from q9)]
      all_goals rfl
    · have q6 : d_ 6 = true := by simp [hdep]
      have q10 : d_ 10 = true := by simp [hdep]
      rw [pk_of q6, pk_of q10]
      obtain ⟨hP, hN⟩ := ch6_s4 F (show d_ 9 = true by simp [hdep]) hd_
      have hc := kc11.out w1 hP
      have HN := Lib.hid hN
      clear F hP hN hdep
      go_simp
      refine ⟨trivial, rfl, wideAt_calls (hc.mono ?_)⟩
      rintro e w5 ⟨rfl, hR⟩
      have HG := HN.out w5 hR
      refine HK.out _ _ ⟨?_, HG⟩
      rw [pk_of (show upd d_ 11 6 = true from q6), pk_of (show upd d_ 11 10 = true from q10)]
      all_goals rfl
    · have HF := Lib.hid F
      clear F hdep
      go_simp
      refine HK.out _ _ ⟨?_, HF.out⟩
      all_goals rfl
    · have q5 : d_ 5 = true := by simp [hdep]
      have q12 : d_ 12 = true := by simp [hdep]
      rw [pk_of q5, pk_of q12]
      obtain ⟨hP, hN⟩ := ch6_s5 F (show d_ 11 = true by simp [hdep]) hd_
      obtain ⟨⟨u0, c0⟩, z0, ⟨u1, c1⟩, z1, hR⟩ := ks13.out w1 hP
      have HF := Lib.hid (hN _ hR)
      clear F hP hR hN hdep
      go_simp
      have HG := HF.out
      refine HK.out _ _ ⟨?_, HG⟩
      rw [pk_of (show upd d_ 13 5 = true from q5), pk_of (show upd d_ 13 12 = true from q12)]
      all_goals rfl
    · have HF := Lib.hid F
      clear F hdep
      go_simp
      refine HK.out _ _ ⟨?_, HF.out⟩
      all_goals rfl
    · have q11 : d_ 11 = true := by simp [hdep]
      have q14 : d_ 14 = true := by simp [hdep]
      rw [pk_of q11, pk_of q14]
      obtain ⟨hP, hN⟩ := ch6_s6 F (show d_ 13 = true by simp [hdep]) hd_
      obtain ⟨⟨u0, c0⟩, z0, ⟨u1, c1⟩, z1, hR⟩ := ks15.out w1 hP
      have HF := Lib.hid (hN _ hR)
      clear F hP hR hN hdep
      go_simp
      have HG := HF.out
      refine HK.out _ _ ⟨?_, HG⟩
      rw [pk_of (show upd d_ 15 11 = true from q11), pk_of (show upd d_ 15 14 = true from q14)]
      all_goals rfl
  · rintro d_ a_ w1 hall ⟨rfl, F⟩
    have hall' : ∀ k, k < 16 → d_ k = true := hall
    rw [hall' 3 (by decide), hall' 5 (by decide), hall' 9 (by decide), hall' 11 (by decide), hall' 13 (by decide), hall' 15 (by decide)] at F
    have HF := Lib.hid F
    clear F
    rw [pk_of (hall' 0 (by decide)), pk_of (hall' 1 (by decide)), pk_of (hall' 2 (by decide)), pk_of (hall' 3 (by decide)), pk_of (hall' 4 (by decide)), pk_of (hall' 5 (by decide)), pk_of (hall' 6 (by decide)), pk_of (hall' 7 (by decide)), pk_of (hall' 8 (by decide)), pk_of (hall' 9 (by decide)), pk_of (hall' 10 (by decide)), pk_of (hall' 11 (by decide)), pk_of (hall' 12 (by decide)), pk_of (hall' 14 (by decide))]
    exact HQ.out w1 HF.out
noncomputable def mad11C : Code := (Try.f41.body.bind (regionAt 11)).getD .skip
set_option maxRecDepth 100000 in
set_option maxHeartbeats 8000000 in
theorem mad11 {pa pb b3 g9 g10 g12 i n : Nat} {u v : Int} {P0 P1 P2 P3 P4 P5 : World → Prop} {Q : Exit → Act → World → Prop} {W1 : World} (hin : i < n) (h0 : P0 W1.drew)
    (kl6 : Hid (∀ w : World, (P0 w ∨ P1 w ∨ P2 w ∨ P3 w ∨ P4 w ∨ P5 w) → w.cell? ⟨b3, 0, none⟩ = some (.func (.func 87) #[] #[.pointer (some ⟨pa, 0, none⟩), .pointer (some ⟨pb, 0, none⟩)])))
    (kc7 : Hid (∀ w : World, P0 w → Calls Try.prog 87 #[.int .i64 100, .pointer (some ⟨pa, 0, none⟩), .pointer (some ⟨pb, 0, none⟩)] w fun e w' => e = .returned (.int .i64 (u)) ∧ P1 w'))
    (kl9 : Hid (∀ w : World, (P0 w ∨ P1 w ∨ P2 w ∨ P3 w ∨ P4 w ∨ P5 w) → w.cell? ⟨b3, 0, none⟩ = some (.func (.func 87) #[] #[.pointer (some ⟨pa, 0, none⟩), .pointer (some ⟨pb, 0, none⟩)])))
    (kc10 : Hid (∀ w : World, P1 w → Calls Try.prog 87 #[.int .i64 100, .pointer (some ⟨pa, 0, none⟩), .pointer (some ⟨pb, 0, none⟩)] w fun e w' => e = .returned (.int .i64 (v)) ∧ P2 w'))
    (ks13 : Hid (∀ w : World, P2 w → (∃ u, w.cell? ⟨g9, i, none⟩ = some u) ∧ w.frozen? ⟨g9, i, none⟩ = false ∧ P3 (w.setCell ⟨g9, i, none⟩ (.int .i64 (IntKind.i64.wrap (500 + u))))))
    (ks15 : Hid (∀ w : World, P3 w → (∃ u, w.cell? ⟨g10, i, none⟩ = some u) ∧ w.frozen? ⟨g10, i, none⟩ = false ∧ P4 (w.setCell ⟨g10, i, none⟩ (.int .i64 (IntKind.i64.wrap (2000 + v))))))
    (ks17 : Hid (∀ w : World, P4 w → (∃ u, w.cell? ⟨g12, i, none⟩ = some u) ∧ w.frozen? ⟨g12, i, none⟩ = false ∧ P5 (w.setCell ⟨g12, i, none⟩ (.int .i64 (-1)))))
    {s0 s1 s2 s4 s5 s6 s7 s8 s11 s13 s15 s16 s17 s18 s19 s20 s21 s22 s23 s24 s25 s26 s27 s28 s29 s30 s31 s32 s33 s34 s35 s36 s37 s38 s39 s40 s41 s42 s43 s44 s45 s46 s47 s48 s49 s50 s51 s52 s53 s54 s55 s56 s57 s58 s59 s60 s61 s62 s63 s64 s65 s66 s67 s68 s69 s70 s71 s72 s73 s74 s75 s76 s77 s78 s79 s80 s81 s82 s83 s84 s85 s86 s87 s88 s89 s90 s91 s92 s93 s94 s95 s96 s97 s98 s99 s100 s101 s102 s103 s104 s105 s106 s107 s108 s109 s110 s111 s112 s113 s114 s115 s116 s117 s118 s119 s120 s121 s122 s123 s124 s125 s126 s127 s128 s129 s130 s131 s132 s133 s134 s135 s136 s137 s138 s139 s140 s141 s142 s143 s144 s145 s146 s147 s148 s149 s150 s151 s152 s153 s154 s155 s156 s157 s158 s159 s160 s161 s162 s163 s164 s165 s166 s167 s168 s169 s170 s171 s172 s173 s174 s175 s176 s177 s178 s179 s180 s181 s182 s183 s184 s185 s186 s187 s188 s189 s190 s191 s192 s193 s194 s195 s196 s197 s198 s199 s200 s201 s202 s203 s204 s205 s206 s207 s208 s209 s210 s211 s212 s213 s214 s215 : Value} {dd : List Deferred}
    (hQ : ∀ w' : World, P5 w' → Q .normal { tmps := #[s0,s1,s2,.pointer (some ⟨b3, 0, none⟩),s4,s5,s6,s7,s8,.slice (some ⟨g9, 0, none⟩) n n,.slice (some ⟨g10, 0, none⟩) n n,s11,.slice (some ⟨g12, 0, none⟩) n n,s13,.int .i64 (i),s15,s16,s17,s18,s19,s20,s21,s22,s23,s24,s25,s26,s27,s28,s29,s30,s31,s32,s33,s34,s35,s36,s37,s38,s39,s40,s41,s42,s43,s44,s45,s46,s47,s48,s49,s50,s51,s52,s53,s54,.slice (some ⟨g9, 0, none⟩) n n,.int .i64 (i),.slice (some ⟨g10, 0, none⟩) n n,.int .i64 (i),.slice (some ⟨g12, 0, none⟩) n n,.int .i64 (i),.func (.func 87) #[] #[.pointer (some ⟨pa, 0, none⟩), .pointer (some ⟨pb, 0, none⟩)],.int .i64 (u),.int .i64 (IntKind.i64.wrap (500 + u)),.func (.func 87) #[] #[.pointer (some ⟨pa, 0, none⟩), .pointer (some ⟨pb, 0, none⟩)],.int .i64 (v),.int .i64 (IntKind.i64.wrap (2000 + v)),.pointer (some ⟨g9, i, none⟩),.pointer (some ⟨g10, i, none⟩),.pointer (some ⟨g12, i, none⟩),s70,s71,s72,s73,s74,s75,s76,s77,s78,s79,s80,s81,s82,s83,s84,s85,s86,s87,s88,s89,s90,s91,s92,s93,s94,s95,s96,s97,s98,s99,s100,s101,s102,s103,s104,s105,s106,s107,s108,s109,s110,s111,s112,s113,s114,s115,s116,s117,s118,s119,s120,s121,s122,s123,s124,s125,s126,s127,s128,s129,s130,s131,s132,s133,s134,s135,s136,s137,s138,s139,s140,s141,s142,s143,s144,s145,s146,s147,s148,s149,s150,s151,s152,s153,s154,s155,s156,s157,s158,s159,s160,s161,s162,s163,s164,s165,s166,s167,s168,s169,s170,s171,s172,s173,s174,s175,s176,s177,s178,s179,s180,s181,s182,s183,s184,s185,s186,s187,s188,s189,s190,s191,s192,s193,s194,s195,s196,s197,s198,s199,s200,s201,s202,s203,s204,s205,s206,s207,s208,s209,s210,s211,s212,s213,s214,s215],defers := dd } w') :
    Code.wpIn (wideAt none) 0 Try.prog mad11C Q { tmps := #[s0,s1,s2,.pointer (some ⟨b3, 0, none⟩),s4,s5,s6,s7,s8,.slice (some ⟨g9, 0, none⟩) n n,.slice (some ⟨g10, 0, none⟩) n n,s11,.slice (some ⟨g12, 0, none⟩) n n,s13,.int .i64 (i),s15,s16,s17,s18,s19,s20,s21,s22,s23,s24,s25,s26,s27,s28,s29,s30,s31,s32,s33,s34,s35,s36,s37,s38,s39,s40,s41,s42,s43,s44,s45,s46,s47,s48,s49,s50,s51,s52,s53,s54,s55,s56,s57,s58,s59,s60,s61,s62,s63,s64,s65,s66,s67,s68,s69,s70,s71,s72,s73,s74,s75,s76,s77,s78,s79,s80,s81,s82,s83,s84,s85,s86,s87,s88,s89,s90,s91,s92,s93,s94,s95,s96,s97,s98,s99,s100,s101,s102,s103,s104,s105,s106,s107,s108,s109,s110,s111,s112,s113,s114,s115,s116,s117,s118,s119,s120,s121,s122,s123,s124,s125,s126,s127,s128,s129,s130,s131,s132,s133,s134,s135,s136,s137,s138,s139,s140,s141,s142,s143,s144,s145,s146,s147,s148,s149,s150,s151,s152,s153,s154,s155,s156,s157,s158,s159,s160,s161,s162,s163,s164,s165,s166,s167,s168,s169,s170,s171,s172,s173,s174,s175,s176,s177,s178,s179,s180,s181,s182,s183,s184,s185,s186,s187,s188,s189,s190,s191,s192,s193,s194,s195,s196,s197,s198,s199,s200,s201,s202,s203,s204,s205,s206,s207,s208,s209,s210,s211,s212,s213,s214,s215],defers := dd } W1 := by
  have HQ := Lib.hid hQ
  clear hQ
  conv => arg 4; whnf
  refine wpIn_region_invG mixed (by kernel_rfl) (fun d_ a_ w' => a_ = { tmps := #[s0,s1,s2,.pointer (some ⟨b3, 0, none⟩),s4,s5,s6,s7,s8,.slice (some ⟨g9, 0, none⟩) n n,.slice (some ⟨g10, 0, none⟩) n n,s11,.slice (some ⟨g12, 0, none⟩) n n,s13,.int .i64 (i),s15,s16,s17,s18,s19,s20,s21,s22,s23,s24,s25,s26,s27,s28,s29,s30,s31,s32,s33,s34,s35,s36,s37,s38,s39,s40,s41,s42,s43,s44,s45,s46,s47,s48,s49,s50,s51,s52,s53,s54,pk (d_ 0) (.slice (some ⟨g9, 0, none⟩) n n) s55,pk (d_ 1) (.int .i64 (i)) s56,pk (d_ 2) (.slice (some ⟨g10, 0, none⟩) n n) s57,pk (d_ 3) (.int .i64 (i)) s58,pk (d_ 4) (.slice (some ⟨g12, 0, none⟩) n n) s59,pk (d_ 5) (.int .i64 (i)) s60,pk (d_ 6) (.func (.func 87) #[] #[.pointer (some ⟨pa, 0, none⟩), .pointer (some ⟨pb, 0, none⟩)]) s61,pk (d_ 7) (.int .i64 (u)) s62,pk (d_ 8) (.int .i64 (IntKind.i64.wrap (500 + u))) s63,pk (d_ 9) (.func (.func 87) #[] #[.pointer (some ⟨pa, 0, none⟩), .pointer (some ⟨pb, 0, none⟩)]) s64,pk (d_ 10) (.int .i64 (v)) s65,pk (d_ 11) (.int .i64 (IntKind.i64.wrap (2000 + v))) s66,pk (d_ 12) (.pointer (some ⟨g9, i, none⟩)) s67,pk (d_ 14) (.pointer (some ⟨g10, i, none⟩)) s68,pk (d_ 16) (.pointer (some ⟨g12, i, none⟩)) s69,s70,s71,s72,s73,s74,s75,s76,s77,s78,s79,s80,s81,s82,s83,s84,s85,s86,s87,s88,s89,s90,s91,s92,s93,s94,s95,s96,s97,s98,s99,s100,s101,s102,s103,s104,s105,s106,s107,s108,s109,s110,s111,s112,s113,s114,s115,s116,s117,s118,s119,s120,s121,s122,s123,s124,s125,s126,s127,s128,s129,s130,s131,s132,s133,s134,s135,s136,s137,s138,s139,s140,s141,s142,s143,s144,s145,s146,s147,s148,s149,s150,s151,s152,s153,s154,s155,s156,s157,s158,s159,s160,s161,s162,s163,s164,s165,s166,s167,s168,s169,s170,s171,s172,s173,s174,s175,s176,s177,s178,s179,s180,s181,s182,s183,s184,s185,s186,s187,s188,s189,s190,s191,s192,s193,s194,s195,s196,s197,s198,s199,s200,s201,s202,s203,s204,s205,s206,s207,s208,s209,s210,s211,s212,s213,s214,s215],defers := dd } ∧ ch5 P0 P1 P2 P3 P4 P5 (d_ 7) (d_ 10) (d_ 13) (d_ 15) (d_ 17) w') ?_ ?_ ?_
  · exact ⟨rfl, h0⟩
  · refine ⟨?_,?_,?_,?_,?_,?_,?_,?_,?_,?_,?_,?_,?_,?_,?_,?_,?_,?_, trivial⟩
    all_goals
      rintro d_ a_ w1 K hd_ hdep ⟨rfl, F⟩ HK
      simp [Region.binds] at hdep
    · have HF := Lib.hid F
      clear F hdep
      go_simp
      refine HK.out _ _ ⟨?_, HF.out⟩
      all_goals rfl
    · have HF := Lib.hid F
      clear F hdep
      go_simp
      refine HK.out _ _ ⟨?_, HF.out⟩
      all_goals rfl
    · have HF := Lib.hid F
      clear F hdep
      go_simp
      refine HK.out _ _ ⟨?_, HF.out⟩
      all_goals rfl
    · have HF := Lib.hid F
      clear F hdep
      go_simp
      refine HK.out _ _ ⟨?_, HF.out⟩
      all_goals rfl
    · have HF := Lib.hid F
      clear F hdep
      go_simp
      refine HK.out _ _ ⟨?_, HF.out⟩
      all_goals rfl
    · have HF := Lib.hid F
      clear F hdep
      go_simp
      refine HK.out _ _ ⟨?_, HF.out⟩
      all_goals rfl
    · have kk := kl6.out w1 (ch5_or F)
      have HF := Lib.hid F
      clear F hdep
      go_simp
      refine HK.out _ _ ⟨?_, HF.out⟩
      all_goals rfl
    · have q6 : d_ 6 = true := by simp [hdep]
      rw [pk_of q6]
      obtain ⟨hP, hN⟩ := ch5_s1 F hd_
      have hc := kc7.out w1 hP
      have HN := Lib.hid hN
      clear F hP hN hdep
      go_simp
      refine ⟨trivial, rfl, wideAt_calls (hc.mono ?_)⟩
      rintro e w5 ⟨rfl, hR⟩
      have HG := HN.out w5 hR
      refine HK.out _ _ ⟨?_, HG⟩
      rw [pk_of (show upd d_ 7 6 = true from q6)]
      all_goals rfl
    · have q7 : d_ 7 = true := by simp [hdep]
      rw [pk_of q7]
      have HF := Lib.hid F
      clear F hdep
      go_simp
      refine HK.out _ _ ⟨?_, HF.out⟩
      rw [pk_of (show upd d_ 8 7 = true from q7)]
      all_goals rfl
    · have kk := kl9.out w1 (ch5_or F)
      have HF := Lib.hid F
      clear F hdep
      go_simp
      refine HK.out _ _ ⟨?_, HF.out⟩
      all_goals rfl
    · have q9 : d_ 9 = true := by simp [hdep]
      rw [pk_of q9]
      obtain ⟨hP, hN⟩ := ch5_s2 F (show d_ 7 = true by simp [hdep]) hd_
      have hc := kc10.out w1 hP
      have HN := Lib.hid hN
      clear F hP hN hdep
      go_simp
      refine ⟨trivial, rfl, wideAt_calls (hc.mono ?_)⟩
      rintro e w5 ⟨rfl, hR⟩
      have HG := HN.out w5 hR
      refine HK.out _ _ ⟨?_, HG⟩
      rw [pk_of (show upd d_ 10 9 = true from q9)]
      all_goals rfl
    · have q10 : d_ 10 = true := by simp [hdep]
      rw [pk_of q10]
      have HF := Lib.hid F
      clear F hdep
      go_simp
      refine HK.out _ _ ⟨?_, HF.out⟩
      rw [pk_of (show upd d_ 11 10 = true from q10)]
      all_goals rfl
    · have q0 : d_ 0 = true := by simp [hdep]
      have q1 : d_ 1 = true := by simp [hdep]
      have hin2 : i < n := hin
      rw [pk_of q0, pk_of q1]
      have HF := Lib.hid F
      clear F hdep
      go_simp
      refine HK.out _ _ ⟨?_, HF.out⟩
      rw [pk_of (show upd d_ 12 0 = true from q0), pk_of (show upd d_ 12 1 = true from q1)]
      all_goals rfl
    · have q8 : d_ 8 = true := by simp [hdep]
      have q12 : d_ 12 = true := by simp [hdep]
      rw [pk_of q8, pk_of q12]
      obtain ⟨hP, hN⟩ := ch5_s3 F (show d_ 10 = true by simp [hdep]) hd_
      obtain ⟨⟨u0, c0⟩, z0, hR⟩ := ks13.out w1 hP
      have HF := Lib.hid (hN _ hR)
      clear F hP hR hN hdep
      go_simp
      have HG := HF.out
      refine HK.out _ _ ⟨?_, HG⟩
      rw [pk_of (show upd d_ 13 8 = true from q8), pk_of (show upd d_ 13 12 = true from q12)]
      all_goals rfl
    · have q2 : d_ 2 = true := by simp [hdep]
      have q3 : d_ 3 = true := by simp [hdep]
      have hin2 : i < n := hin
      rw [pk_of q2, pk_of q3]
      have HF := Lib.hid F
      clear F hdep
      go_simp
      refine HK.out _ _ ⟨?_, HF.out⟩
      rw [pk_of (show upd d_ 14 2 = true from q2), pk_of (show upd d_ 14 3 = true from q3)]
      all_goals rfl
    · have q11 : d_ 11 = true := by simp [hdep]
      have q14 : d_ 14 = true := by simp [hdep]
      rw [pk_of q11, pk_of q14]
      obtain ⟨hP, hN⟩ := ch5_s4 F (show d_ 13 = true by simp [hdep]) hd_
      obtain ⟨⟨u0, c0⟩, z0, hR⟩ := ks15.out w1 hP
      have HF := Lib.hid (hN _ hR)
      clear F hP hR hN hdep
      go_simp
      have HG := HF.out
      refine HK.out _ _ ⟨?_, HG⟩
      rw [pk_of (show upd d_ 15 11 = true from q11), pk_of (show upd d_ 15 14 = true from q14)]
      all_goals rfl
    · have q4 : d_ 4 = true := by simp [hdep]
      have q5 : d_ 5 = true := by simp [hdep]
      have hin2 : i < n := hin
      rw [pk_of q4, pk_of q5]
      have HF := Lib.hid F
      clear F hdep
      go_simp
      refine HK.out _ _ ⟨?_, HF.out⟩
      rw [pk_of (show upd d_ 16 4 = true from q4), pk_of (show upd d_ 16 5 = true from q5)]
      all_goals rfl
    · have q16 : d_ 16 = true := by simp [hdep]
      rw [pk_of q16]
      obtain ⟨hP, hN⟩ := ch5_s5 F (show d_ 15 = true by simp [hdep]) hd_
      obtain ⟨⟨u0, c0⟩, z0, hR⟩ := ks17.out w1 hP
      have HF := Lib.hid (hN _ hR)
      clear F hP hR hN hdep
      go_simp
      have HG := HF.out
      refine HK.out _ _ ⟨?_, HG⟩
      rw [pk_of (show upd d_ 17 16 = true from q16)]
      all_goals rfl
  · rintro d_ a_ w1 hall ⟨rfl, F⟩
    have hall' : ∀ k, k < 18 → d_ k = true := hall
    rw [hall' 7 (by decide), hall' 10 (by decide), hall' 13 (by decide), hall' 15 (by decide), hall' 17 (by decide)] at F
    have HF := Lib.hid F
    clear F
    rw [pk_of (hall' 0 (by decide)), pk_of (hall' 1 (by decide)), pk_of (hall' 2 (by decide)), pk_of (hall' 3 (by decide)), pk_of (hall' 4 (by decide)), pk_of (hall' 5 (by decide)), pk_of (hall' 6 (by decide)), pk_of (hall' 7 (by decide)), pk_of (hall' 8 (by decide)), pk_of (hall' 9 (by decide)), pk_of (hall' 10 (by decide)), pk_of (hall' 11 (by decide)), pk_of (hall' 12 (by decide)), pk_of (hall' 14 (by decide)), pk_of (hall' 16 (by decide))]
    exact HQ.out w1 HF.out
noncomputable def mad18C : Code := (Try.f41.body.bind (regionAt 18)).getD .skip
set_option maxRecDepth 100000 in
set_option maxHeartbeats 8000000 in
theorem mad18 {pa pb b3 b4 g9 g10 i j n : Nat} {u v sj dj llo lhi olo ohi : Int} {P0 P1 P2 P3 P4 : World → Prop} {Q : Exit → Act → World → Prop} {W1 : World} (hin : i < n) (hjn : j < n) (h0 : P0 W1.drew)
    (kl7 : Hid (∀ w : World, (P0 w ∨ P1 w ∨ P2 w ∨ P3 w ∨ P4 w) → w.cell? ⟨g9, j, none⟩ = some (.int .i64 (sj))))
    (kl10 : Hid (∀ w : World, (P0 w ∨ P1 w ∨ P2 w ∨ P3 w ∨ P4 w) → w.cell? ⟨b4, 1, none⟩ = some (.int .i64 (llo))))
    (kl12 : Hid (∀ w : World, (P0 w ∨ P1 w ∨ P2 w ∨ P3 w ∨ P4 w) → w.cell? ⟨b3, 0, none⟩ = some (.func (.func 87) #[] #[.pointer (some ⟨pa, 0, none⟩), .pointer (some ⟨pb, 0, none⟩)])))
    (kl15 : Hid (∀ w : World, (P0 w ∨ P1 w ∨ P2 w ∨ P3 w ∨ P4 w) → w.cell? ⟨b4, 2, none⟩ = some (.int .i64 (lhi))))
    (kl18 : Hid (∀ w : World, (P0 w ∨ P1 w ∨ P2 w ∨ P3 w ∨ P4 w) → w.cell? ⟨b4, 1, none⟩ = some (.int .i64 (llo))))
    (kc21 : Hid (∀ w : World, P0 w → Calls Try.prog 87 #[.int .i64 (IntKind.i64.wrap ((IntKind.i64.wrap (lhi - llo)) + 1)), .pointer (some ⟨pa, 0, none⟩), .pointer (some ⟨pb, 0, none⟩)] w fun e w' => e = .returned (.int .i64 (u)) ∧ P1 w'))
    (kl26 : Hid (∀ w : World, (P0 w ∨ P1 w ∨ P2 w ∨ P3 w ∨ P4 w) → w.cell? ⟨g10, j, none⟩ = some (.int .i64 (dj))))
    (kl29 : Hid (∀ w : World, (P0 w ∨ P1 w ∨ P2 w ∨ P3 w ∨ P4 w) → w.cell? ⟨b4, 3, none⟩ = some (.int .i64 (olo))))
    (kl31 : Hid (∀ w : World, (P0 w ∨ P1 w ∨ P2 w ∨ P3 w ∨ P4 w) → w.cell? ⟨b3, 0, none⟩ = some (.func (.func 87) #[] #[.pointer (some ⟨pa, 0, none⟩), .pointer (some ⟨pb, 0, none⟩)])))
    (kl34 : Hid (∀ w : World, (P0 w ∨ P1 w ∨ P2 w ∨ P3 w ∨ P4 w) → w.cell? ⟨b4, 4, none⟩ = some (.int .i64 (ohi))))
    (kl37 : Hid (∀ w : World, (P0 w ∨ P1 w ∨ P2 w ∨ P3 w ∨ P4 w) → w.cell? ⟨b4, 3, none⟩ = some (.int .i64 (olo))))
    (kc40 : Hid (∀ w : World, P1 w → Calls Try.prog 87 #[.int .i64 (IntKind.i64.wrap ((IntKind.i64.wrap (ohi - olo)) + 1)), .pointer (some ⟨pa, 0, none⟩), .pointer (some ⟨pb, 0, none⟩)] w fun e w' => e = .returned (.int .i64 (v)) ∧ P2 w'))
    (ks43 : Hid (∀ w : World, P2 w → (∃ u, w.cell? ⟨g9, i, none⟩ = some u) ∧ w.frozen? ⟨g9, i, none⟩ = false ∧ P3 (w.setCell ⟨g9, i, none⟩ (.int .i64 (IntKind.i64.wrap ((IntKind.i64.wrap (sj - llo)) - u))))))
    (ks45 : Hid (∀ w : World, P3 w → (∃ u, w.cell? ⟨g10, i, none⟩ = some u) ∧ w.frozen? ⟨g10, i, none⟩ = false ∧ P4 (w.setCell ⟨g10, i, none⟩ (.int .i64 (IntKind.i64.wrap ((IntKind.i64.wrap (dj - olo)) - v))))))
    {s0 s1 s2 s5 s6 s7 s8 s11 s12 s13 s15 s17 s18 s19 s20 s21 s22 s23 s24 s25 s26 s27 s28 s29 s30 s31 s32 s33 s34 s35 s36 s37 s38 s39 s40 s41 s42 s43 s44 s45 s46 s47 s48 s49 s50 s51 s52 s53 s54 s55 s56 s57 s58 s59 s60 s61 s62 s63 s64 s65 s66 s67 s68 s69 s70 s71 s72 s73 s74 s75 s76 s77 s78 s79 s80 s81 s82 s83 s84 s85 s86 s87 s88 s89 s90 s91 s92 s93 s94 s95 s96 s97 s98 s99 s100 s101 s102 s103 s104 s105 s106 s107 s108 s109 s110 s111 s112 s113 s114 s115 s116 s117 s118 s119 s120 s121 s122 s123 s124 s125 s126 s127 s128 s129 s130 s131 s132 s133 s134 s135 s136 s137 s138 s139 s140 s141 s142 s143 s144 s145 s146 s147 s148 s149 s150 s151 s152 s153 s154 s155 s156 s157 s158 s159 s160 s161 s162 s163 s164 s165 s166 s167 s168 s169 s170 s171 s172 s173 s174 s175 s176 s177 s178 s179 s180 s181 s182 s183 s184 s185 s186 s187 s188 s189 s190 s191 s192 s193 s194 s195 s196 s197 s198 s199 s200 s201 s202 s203 s204 s205 s206 s207 s208 s209 s210 s211 s212 s213 s214 s215 : Value} {dd : List Deferred}
    (hQ : ∀ w' : World, P4 w' → Q .normal { tmps := #[s0,s1,s2,.pointer (some ⟨b3, 0, none⟩),.pointer (some ⟨b4, 0, none⟩),s5,s6,s7,s8,.slice (some ⟨g9, 0, none⟩) n n,.slice (some ⟨g10, 0, none⟩) n n,s11,s12,s13,.int .i64 (i),s15,.int .i64 (j),s17,s18,s19,s20,s21,s22,s23,s24,s25,s26,s27,s28,s29,s30,s31,s32,s33,s34,s35,s36,s37,s38,s39,s40,s41,s42,s43,s44,s45,s46,s47,s48,s49,s50,s51,s52,s53,s54,s55,s56,s57,s58,s59,s60,s61,s62,s63,s64,s65,s66,s67,s68,s69,s70,s71,s72,s73,s74,s75,s76,s77,s78,s79,s80,s81,s82,s83,s84,s85,s86,s87,s88,s89,s90,.slice (some ⟨g9, 0, none⟩) n n,.int .i64 (i),.slice (some ⟨g10, 0, none⟩) n n,.int .i64 (i),.slice (some ⟨g9, 0, none⟩) n n,.int .i64 (j),.pointer (some ⟨g9, j, none⟩),.int .i64 (sj),.pointer (some ⟨b4, 1, none⟩),.pointer (some ⟨b4, 1, none⟩),.int .i64 (llo),.int .i64 (IntKind.i64.wrap (sj - llo)),.func (.func 87) #[] #[.pointer (some ⟨pa, 0, none⟩), .pointer (some ⟨pb, 0, none⟩)],.pointer (some ⟨b4, 1, none⟩),.pointer (some ⟨b4, 2, none⟩),.int .i64 (lhi),.pointer (some ⟨b4, 1, none⟩),.pointer (some ⟨b4, 1, none⟩),.int .i64 (llo),.int .i64 (IntKind.i64.wrap (lhi - llo)),.int .i64 (IntKind.i64.wrap ((IntKind.i64.wrap (lhi - llo)) + 1)),.int .i64 (u),.int .i64 (IntKind.i64.wrap ((IntKind.i64.wrap (sj - llo)) - u)),.slice (some ⟨g10, 0, none⟩) n n,.int .i64 (j),.pointer (some ⟨g10, j, none⟩),.int .i64 (dj),.pointer (some ⟨b4, 3, none⟩),.pointer (some ⟨b4, 3, none⟩),.int .i64 (olo),.int .i64 (IntKind.i64.wrap (dj - olo)),.func (.func 87) #[] #[.pointer (some ⟨pa, 0, none⟩), .pointer (some ⟨pb, 0, none⟩)],.pointer (some ⟨b4, 3, none⟩),.pointer (some ⟨b4, 4, none⟩),.int .i64 (ohi),.pointer (some ⟨b4, 3, none⟩),.pointer (some ⟨b4, 3, none⟩),.int .i64 (olo),.int .i64 (IntKind.i64.wrap (ohi - olo)),.int .i64 (IntKind.i64.wrap ((IntKind.i64.wrap (ohi - olo)) + 1)),.int .i64 (v),.int .i64 (IntKind.i64.wrap ((IntKind.i64.wrap (dj - olo)) - v)),.pointer (some ⟨g9, i, none⟩),.pointer (some ⟨g10, i, none⟩),s135,s136,s137,s138,s139,s140,s141,s142,s143,s144,s145,s146,s147,s148,s149,s150,s151,s152,s153,s154,s155,s156,s157,s158,s159,s160,s161,s162,s163,s164,s165,s166,s167,s168,s169,s170,s171,s172,s173,s174,s175,s176,s177,s178,s179,s180,s181,s182,s183,s184,s185,s186,s187,s188,s189,s190,s191,s192,s193,s194,s195,s196,s197,s198,s199,s200,s201,s202,s203,s204,s205,s206,s207,s208,s209,s210,s211,s212,s213,s214,s215],defers := dd } w') :
    Code.wpIn (wideAt none) 0 Try.prog mad18C Q { tmps := #[s0,s1,s2,.pointer (some ⟨b3, 0, none⟩),.pointer (some ⟨b4, 0, none⟩),s5,s6,s7,s8,.slice (some ⟨g9, 0, none⟩) n n,.slice (some ⟨g10, 0, none⟩) n n,s11,s12,s13,.int .i64 (i),s15,.int .i64 (j),s17,s18,s19,s20,s21,s22,s23,s24,s25,s26,s27,s28,s29,s30,s31,s32,s33,s34,s35,s36,s37,s38,s39,s40,s41,s42,s43,s44,s45,s46,s47,s48,s49,s50,s51,s52,s53,s54,s55,s56,s57,s58,s59,s60,s61,s62,s63,s64,s65,s66,s67,s68,s69,s70,s71,s72,s73,s74,s75,s76,s77,s78,s79,s80,s81,s82,s83,s84,s85,s86,s87,s88,s89,s90,s91,s92,s93,s94,s95,s96,s97,s98,s99,s100,s101,s102,s103,s104,s105,s106,s107,s108,s109,s110,s111,s112,s113,s114,s115,s116,s117,s118,s119,s120,s121,s122,s123,s124,s125,s126,s127,s128,s129,s130,s131,s132,s133,s134,s135,s136,s137,s138,s139,s140,s141,s142,s143,s144,s145,s146,s147,s148,s149,s150,s151,s152,s153,s154,s155,s156,s157,s158,s159,s160,s161,s162,s163,s164,s165,s166,s167,s168,s169,s170,s171,s172,s173,s174,s175,s176,s177,s178,s179,s180,s181,s182,s183,s184,s185,s186,s187,s188,s189,s190,s191,s192,s193,s194,s195,s196,s197,s198,s199,s200,s201,s202,s203,s204,s205,s206,s207,s208,s209,s210,s211,s212,s213,s214,s215],defers := dd } W1 := by
  have HQ := Lib.hid hQ
  clear hQ
  conv => arg 4; whnf
  refine wpIn_region_invG mixed (by kernel_rfl) (fun d_ a_ w' => a_ = { tmps := #[s0,s1,s2,.pointer (some ⟨b3, 0, none⟩),.pointer (some ⟨b4, 0, none⟩),s5,s6,s7,s8,.slice (some ⟨g9, 0, none⟩) n n,.slice (some ⟨g10, 0, none⟩) n n,s11,s12,s13,.int .i64 (i),s15,.int .i64 (j),s17,s18,s19,s20,s21,s22,s23,s24,s25,s26,s27,s28,s29,s30,s31,s32,s33,s34,s35,s36,s37,s38,s39,s40,s41,s42,s43,s44,s45,s46,s47,s48,s49,s50,s51,s52,s53,s54,s55,s56,s57,s58,s59,s60,s61,s62,s63,s64,s65,s66,s67,s68,s69,s70,s71,s72,s73,s74,s75,s76,s77,s78,s79,s80,s81,s82,s83,s84,s85,s86,s87,s88,s89,s90,pk (d_ 0) (.slice (some ⟨g9, 0, none⟩) n n) s91,pk (d_ 1) (.int .i64 (i)) s92,pk (d_ 2) (.slice (some ⟨g10, 0, none⟩) n n) s93,pk (d_ 3) (.int .i64 (i)) s94,pk (d_ 4) (.slice (some ⟨g9, 0, none⟩) n n) s95,pk (d_ 5) (.int .i64 (j)) s96,pk (d_ 6) (.pointer (some ⟨g9, j, none⟩)) s97,pk (d_ 7) (.int .i64 (sj)) s98,pk (d_ 8) (.pointer (some ⟨b4, 1, none⟩)) s99,pk (d_ 9) (.pointer (some ⟨b4, 1, none⟩)) s100,pk (d_ 10) (.int .i64 (llo)) s101,pk (d_ 11) (.int .i64 (IntKind.i64.wrap (sj - llo))) s102,pk (d_ 12) (.func (.func 87) #[] #[.pointer (some ⟨pa, 0, none⟩), .pointer (some ⟨pb, 0, none⟩)]) s103,pk (d_ 13) (.pointer (some ⟨b4, 1, none⟩)) s104,pk (d_ 14) (.pointer (some ⟨b4, 2, none⟩)) s105,pk (d_ 15) (.int .i64 (lhi)) s106,pk (d_ 16) (.pointer (some ⟨b4, 1, none⟩)) s107,pk (d_ 17) (.pointer (some ⟨b4, 1, none⟩)) s108,pk (d_ 18) (.int .i64 (llo)) s109,pk (d_ 19) (.int .i64 (IntKind.i64.wrap (lhi - llo))) s110,pk (d_ 20) (.int .i64 (IntKind.i64.wrap ((IntKind.i64.wrap (lhi - llo)) + 1))) s111,pk (d_ 21) (.int .i64 (u)) s112,pk (d_ 22) (.int .i64 (IntKind.i64.wrap ((IntKind.i64.wrap (sj - llo)) - u))) s113,pk (d_ 23) (.slice (some ⟨g10, 0, none⟩) n n) s114,pk (d_ 24) (.int .i64 (j)) s115,pk (d_ 25) (.pointer (some ⟨g10, j, none⟩)) s116,pk (d_ 26) (.int .i64 (dj)) s117,pk (d_ 27) (.pointer (some ⟨b4, 3, none⟩)) s118,pk (d_ 28) (.pointer (some ⟨b4, 3, none⟩)) s119,pk (d_ 29) (.int .i64 (olo)) s120,pk (d_ 30) (.int .i64 (IntKind.i64.wrap (dj - olo))) s121,pk (d_ 31) (.func (.func 87) #[] #[.pointer (some ⟨pa, 0, none⟩), .pointer (some ⟨pb, 0, none⟩)]) s122,pk (d_ 32) (.pointer (some ⟨b4, 3, none⟩)) s123,pk (d_ 33) (.pointer (some ⟨b4, 4, none⟩)) s124,pk (d_ 34) (.int .i64 (ohi)) s125,pk (d_ 35) (.pointer (some ⟨b4, 3, none⟩)) s126,pk (d_ 36) (.pointer (some ⟨b4, 3, none⟩)) s127,pk (d_ 37) (.int .i64 (olo)) s128,pk (d_ 38) (.int .i64 (IntKind.i64.wrap (ohi - olo))) s129,pk (d_ 39) (.int .i64 (IntKind.i64.wrap ((IntKind.i64.wrap (ohi - olo)) + 1))) s130,pk (d_ 40) (.int .i64 (v)) s131,pk (d_ 41) (.int .i64 (IntKind.i64.wrap ((IntKind.i64.wrap (dj - olo)) - v))) s132,pk (d_ 42) (.pointer (some ⟨g9, i, none⟩)) s133,pk (d_ 44) (.pointer (some ⟨g10, i, none⟩)) s134,s135,s136,s137,s138,s139,s140,s141,s142,s143,s144,s145,s146,s147,s148,s149,s150,s151,s152,s153,s154,s155,s156,s157,s158,s159,s160,s161,s162,s163,s164,s165,s166,s167,s168,s169,s170,s171,s172,s173,s174,s175,s176,s177,s178,s179,s180,s181,s182,s183,s184,s185,s186,s187,s188,s189,s190,s191,s192,s193,s194,s195,s196,s197,s198,s199,s200,s201,s202,s203,s204,s205,s206,s207,s208,s209,s210,s211,s212,s213,s214,s215],defers := dd } ∧ ch4 P0 P1 P2 P3 P4 (d_ 21) (d_ 40) (d_ 43) (d_ 45) w') ?_ ?_ ?_
  · exact ⟨rfl, h0⟩
  · refine ⟨?_,?_,?_,?_,?_,?_,?_,?_,?_,?_,?_,?_,?_,?_,?_,?_,?_,?_,?_,?_,?_,?_,?_,?_,?_,?_,?_,?_,?_,?_,?_,?_,?_,?_,?_,?_,?_,?_,?_,?_,?_,?_,?_,?_,?_,?_, trivial⟩
    all_goals
      rintro d_ a_ w1 K hd_ hdep ⟨rfl, F⟩ HK
      simp [Region.binds] at hdep
    · have HF := Lib.hid F
      clear F hdep
      go_simp
      refine HK.out _ _ ⟨?_, HF.out⟩
      all_goals rfl
    · have HF := Lib.hid F
      clear F hdep
      go_simp
      refine HK.out _ _ ⟨?_, HF.out⟩
      all_goals rfl
    · have HF := Lib.hid F
      clear F hdep
      go_simp
      refine HK.out _ _ ⟨?_, HF.out⟩
      all_goals rfl
    · have HF := Lib.hid F
      clear F hdep
      go_simp
      refine HK.out _ _ ⟨?_, HF.out⟩
      all_goals rfl
    · have HF := Lib.hid F
      clear F hdep
      go_simp
      refine HK.out _ _ ⟨?_, HF.out⟩
      all_goals rfl
    · have HF := Lib.hid F
      clear F hdep
      go_simp
      refine HK.out _ _ ⟨?_, HF.out⟩
      all_goals rfl
    · have q4 : d_ 4 = true := by simp [hdep]
      have q5 : d_ 5 = true := by simp [hdep]
      have hjn2 : j < n := hjn
      rw [pk_of q4, pk_of q5]
      have HF := Lib.hid F
      clear F hdep
      go_simp
      refine HK.out _ _ ⟨?_, HF.out⟩
      rw [pk_of (show upd d_ 6 4 = true from q4), pk_of (show upd d_ 6 5 = true from q5)]
      all_goals rfl
    · have q6 : d_ 6 = true := by simp [hdep]
      have kk := kl7.out w1 (ch4_or F)
      rw [pk_of q6]
      have HF := Lib.hid F
      clear F hdep
      go_simp
      refine HK.out _ _ ⟨?_, HF.out⟩
      rw [pk_of (show upd d_ 7 6 = true from q6)]
      all_goals rfl
    · have HF := Lib.hid F
      clear F hdep
      go_simp
      refine HK.out _ _ ⟨?_, HF.out⟩
      all_goals rfl
    · have q8 : d_ 8 = true := by simp [hdep]
      rw [pk_of q8]
      have HF := Lib.hid F
      clear F hdep
      go_simp
      refine HK.out _ _ ⟨?_, HF.out⟩
      rw [pk_of (show upd d_ 9 8 = true from q8)]
      all_goals rfl
    · have q9 : d_ 9 = true := by simp [hdep]
      have kk := kl10.out w1 (ch4_or F)
      rw [pk_of q9]
      have HF := Lib.hid F
      clear F hdep
      go_simp
      refine HK.out _ _ ⟨?_, HF.out⟩
      rw [pk_of (show upd d_ 10 9 = true from q9)]
      all_goals rfl
    · have q7 : d_ 7 = true := by simp [hdep]
      have q10 : d_ 10 = true := by simp [hdep]
      rw [pk_of q7, pk_of q10]
      have HF := Lib.hid F
      clear F hdep
      go_simp
      refine HK.out _ _ ⟨?_, HF.out⟩
      rw [pk_of (show upd d_ 11 7 = true from q7), pk_of (show upd d_ 11 10 = true from q10)]
      all_goals rfl
    · have kk := kl12.out w1 (ch4_or F)
      have HF := Lib.hid F
      clear F hdep
      go_simp
      refine HK.out _ _ ⟨?_, HF.out⟩
      all_goals rfl
    · have HF := Lib.hid F
      clear F hdep
      go_simp
      refine HK.out _ _ ⟨?_, HF.out⟩
      all_goals rfl
    · have q13 : d_ 13 = true := by simp [hdep]
      rw [pk_of q13]
      have HF := Lib.hid F
      clear F hdep
      go_simp
      refine HK.out _ _ ⟨?_, HF.out⟩
      rw [pk_of (show upd d_ 14 13 = true from q13)]
      all_goals rfl
    · have q14 : d_ 14 = true := by simp [hdep]
      have kk := kl15.out w1 (ch4_or F)
      rw [pk_of q14]
      have HF := Lib.hid F
      clear F hdep
      go_simp
      refine HK.out _ _ ⟨?_, HF.out⟩
      rw [pk_of (show upd d_ 15 14 = true from q14)]
      all_goals rfl
    · have HF := Lib.hid F
      clear F hdep
      go_simp
      refine HK.out _ _ ⟨?_, HF.out⟩
      all_goals rfl
    · have q16 : d_ 16 = true := by simp [hdep]
      rw [pk_of q16]
      have HF := Lib.hid F
      clear F hdep
      go_simp
      refine HK.out _ _ ⟨?_, HF.out⟩
      rw [pk_of (show upd d_ 17 16 = true from q16)]
      all_goals rfl
    · have q17 : d_ 17 = true := by simp [hdep]
      have kk := kl18.out w1 (ch4_or F)
      rw [pk_of q17]
      have HF := Lib.hid F
      clear F hdep
      go_simp
      refine HK.out _ _ ⟨?_, HF.out⟩
      rw [pk_of (show upd d_ 18 17 = true from q17)]
      all_goals rfl
    · have q15 : d_ 15 = true := by simp [hdep]
      have q18 : d_ 18 = true := by simp [hdep]
      rw [pk_of q15, pk_of q18]
      have HF := Lib.hid F
      clear F hdep
      go_simp
      refine HK.out _ _ ⟨?_, HF.out⟩
      rw [pk_of (show upd d_ 19 15 = true from q15), pk_of (show upd d_ 19 18 = true from q18)]
      all_goals rfl
    · have q19 : d_ 19 = true := by simp [hdep]
      rw [pk_of q19]
      have HF := Lib.hid F
      clear F hdep
      go_simp
      refine HK.out _ _ ⟨?_, HF.out⟩
      rw [pk_of (show upd d_ 20 19 = true from q19)]
      all_goals rfl
    · have q12 : d_ 12 = true := by simp [hdep]
      have q20 : d_ 20 = true := by simp [hdep]
      rw [pk_of q12, pk_of q20]
      obtain ⟨hP, hN⟩ := ch4_s1 F hd_
      have hc := kc21.out w1 hP
      have HN := Lib.hid hN
      clear F hP hN hdep
      go_simp
      refine ⟨trivial, rfl, wideAt_calls (hc.mono ?_)⟩
      rintro e w5 ⟨rfl, hR⟩
      have HG := HN.out w5 hR
      refine HK.out _ _ ⟨?_, HG⟩
      rw [pk_of (show upd d_ 21 12 = true from q12), pk_of (show upd d_ 21 20 = true from q20)]
      all_goals rfl
    · have q11 : d_ 11 = true := by simp [hdep]
      have q21 : d_ 21 = true := by simp [hdep]
      rw [pk_of q11, pk_of q21]
      have HF := Lib.hid F
      clear F hdep
      go_simp
      refine HK.out _ _ ⟨?_, HF.out⟩
      rw [pk_of (show upd d_ 22 11 = true from q11), pk_of (show upd d_ 22 21 = true from q21)]
      all_goals rfl
    · have HF := Lib.hid F
      clear F hdep
      go_simp
      refine HK.out _ _ ⟨?_, HF.out⟩
      all_goals rfl
    · have HF := Lib.hid F
      clear F hdep
      go_simp
      refine HK.out _ _ ⟨?_, HF.out⟩
      all_goals rfl
    · have q23 : d_ 23 = true := by simp [hdep]
      have q24 : d_ 24 = true := by simp [hdep]
      have hjn2 : j < n := hjn
      rw [pk_of q23, pk_of q24]
      have HF := Lib.hid F
      clear F hdep
      go_simp
      refine HK.out _ _ ⟨?_, HF.out⟩
      rw [pk_of (show upd d_ 25 23 = true from q23), pk_of (show upd d_ 25 24 = true from q24)]
      all_goals rfl
    · have q25 : d_ 25 = true := by simp [hdep]
      have kk := kl26.out w1 (ch4_or F)
      rw [pk_of q25]
      have HF := Lib.hid F
      clear F hdep
      go_simp
      refine HK.out _ _ ⟨?_, HF.out⟩
      rw [pk_of (show upd d_ 26 25 = true from q25)]
      all_goals rfl
    · have HF := Lib.hid F
      clear F hdep
      go_simp
      refine HK.out _ _ ⟨?_, HF.out⟩
      all_goals rfl
    · have q27 : d_ 27 = true := by simp [hdep]
      rw [pk_of q27]
      have HF := Lib.hid F
      clear F hdep
      go_simp
      refine HK.out _ _ ⟨?_, HF.out⟩
      rw [pk_of (show upd d_ 28 27 = true from q27)]
      all_goals rfl
    · have q28 : d_ 28 = true := by simp [hdep]
      have kk := kl29.out w1 (ch4_or F)
      rw [pk_of q28]
      have HF := Lib.hid F
      clear F hdep
      go_simp
      refine HK.out _ _ ⟨?_, HF.out⟩
      rw [pk_of (show upd d_ 29 28 = true from q28)]
      all_goals rfl
    · have q26 : d_ 26 = true := by simp [hdep]
      have q29 : d_ 29 = true := by simp [hdep]
      rw [pk_of q26, pk_of q29]
      have HF := Lib.hid F
      clear F hdep
      go_simp
      refine HK.out _ _ ⟨?_, HF.out⟩
      rw [pk_of (show upd d_ 30 26 = true from q26), pk_of (show upd d_ 30 29 = true from q29)]
      all_goals rfl
    · have kk := kl31.out w1 (ch4_or F)
      have HF := Lib.hid F
      clear F hdep
      go_simp
      refine HK.out _ _ ⟨?_, HF.out⟩
      all_goals rfl
    · have HF := Lib.hid F
      clear F hdep
      go_simp
      refine HK.out _ _ ⟨?_, HF.out⟩
      all_goals rfl
    · have q32 : d_ 32 = true := by simp [hdep]
      rw [pk_of q32]
      have HF := Lib.hid F
      clear F hdep
      go_simp
      refine HK.out _ _ ⟨?_, HF.out⟩
      rw [pk_of (show upd d_ 33 32 = true from q32)]
      all_goals rfl
    · have q33 : d_ 33 = true := by simp [hdep]
      have kk := kl34.out w1 (ch4_or F)
      rw [pk_of q33]
      have HF := Lib.hid F
      clear F hdep
      go_simp
      refine HK.out _ _ ⟨?_, HF.out⟩
      rw [pk_of (show upd d_ 34 33 = true from q33)]
      all_goals rfl
    · have HF := Lib.hid F
      clear F hdep
      go_simp
      refine HK.out _ _ ⟨?_, HF.out⟩
      all_goals rfl
    · have q35 : d_ 35 = true := by simp [hdep]
      rw [pk_of q35]
      have HF := Lib.hid F
      clear F hdep
      go_simp
      refine HK.out _ _ ⟨?_, HF.out⟩
      rw [pk_of (show upd d_ 36 35 = true from q35)]
      all_goals rfl
    · have q36 : d_ 36 = true := by simp [hdep]
      have kk := kl37.out w1 (ch4_or F)
      rw [pk_of q36]
      have HF := Lib.hid F
      clear F hdep
      go_simp
      refine HK.out _ _ ⟨?_, HF.out⟩
      rw [pk_of (show upd d_ 37 36 = true from q36)]
      all_goals rfl
    · have q34 : d_ 34 = true := by simp [hdep]
      have q37 : d_ 37 = true := by simp [hdep]
      rw [pk_of q34, pk_of q37]
      have HF := Lib.hid F
      clear F hdep
      go_simp
      refine HK.out _ _ ⟨?_, HF.out⟩
      rw [pk_of (show upd d_ 38 34 = true from q34), pk_of (show upd d_ 38 37 = true from q37)]
      all_goals rfl
    · have q38 : d_ 38 = true := by simp [hdep]
      rw [pk_of q38]
      have HF := Lib.hid F
      clear F hdep
      go_simp
      refine HK.out _ _ ⟨?_, HF.out⟩
      rw [pk_of (show upd d_ 39 38 = true from q38)]
      all_goals rfl
    · have q31 : d_ 31 = true := by simp [hdep]
      have q39 : d_ 39 = true := by simp [hdep]
      rw [pk_of q31, pk_of q39]
      obtain ⟨hP, hN⟩ := ch4_s2 F (show d_ 21 = true by simp [hdep]) hd_
      have hc := kc40.out w1 hP
      have HN := Lib.hid hN
      clear F hP hN hdep
      go_simp
      refine ⟨trivial, rfl, wideAt_calls (hc.mono ?_)⟩
      rintro e w5 ⟨rfl, hR⟩
      have HG := HN.out w5 hR
      refine HK.out _ _ ⟨?_, HG⟩
      rw [pk_of (show upd d_ 40 31 = true from q31), pk_of (show upd d_ 40 39 = true from q39)]
      all_goals rfl
    · have q30 : d_ 30 = true := by simp [hdep]
      have q40 : d_ 40 = true := by simp [hdep]
      rw [pk_of q30, pk_of q40]
      have HF := Lib.hid F
      clear F hdep
      go_simp
      refine HK.out _ _ ⟨?_, HF.out⟩
      rw [pk_of (show upd d_ 41 30 = true from q30), pk_of (show upd d_ 41 40 = true from q40)]
      all_goals rfl
    · have q0 : d_ 0 = true := by simp [hdep]
      have q1 : d_ 1 = true := by simp [hdep]
      have hin2 : i < n := hin
      rw [pk_of q0, pk_of q1]
      have HF := Lib.hid F
      clear F hdep
      go_simp
      refine HK.out _ _ ⟨?_, HF.out⟩
      rw [pk_of (show upd d_ 42 0 = true from q0), pk_of (show upd d_ 42 1 = true from q1)]
      all_goals rfl
    · have q22 : d_ 22 = true := by simp [hdep]
      have q42 : d_ 42 = true := by simp [hdep]
      rw [pk_of q22, pk_of q42]
      obtain ⟨hP, hN⟩ := ch4_s3 F (show d_ 40 = true by simp [hdep]) hd_
      obtain ⟨⟨u0, c0⟩, z0, hR⟩ := ks43.out w1 hP
      have HF := Lib.hid (hN _ hR)
      clear F hP hR hN hdep
      go_simp
      have HG := HF.out
      refine HK.out _ _ ⟨?_, HG⟩
      rw [pk_of (show upd d_ 43 22 = true from q22), pk_of (show upd d_ 43 42 = true from q42)]
      all_goals rfl
    · have q2 : d_ 2 = true := by simp [hdep]
      have q3 : d_ 3 = true := by simp [hdep]
      have hin2 : i < n := hin
      rw [pk_of q2, pk_of q3]
      have HF := Lib.hid F
      clear F hdep
      go_simp
      refine HK.out _ _ ⟨?_, HF.out⟩
      rw [pk_of (show upd d_ 44 2 = true from q2), pk_of (show upd d_ 44 3 = true from q3)]
      all_goals rfl
    · have q41 : d_ 41 = true := by simp [hdep]
      have q44 : d_ 44 = true := by simp [hdep]
      rw [pk_of q41, pk_of q44]
      obtain ⟨hP, hN⟩ := ch4_s4 F (show d_ 43 = true by simp [hdep]) hd_
      obtain ⟨⟨u0, c0⟩, z0, hR⟩ := ks45.out w1 hP
      have HF := Lib.hid (hN _ hR)
      clear F hP hR hN hdep
      go_simp
      have HG := HF.out
      refine HK.out _ _ ⟨?_, HG⟩
      rw [pk_of (show upd d_ 45 41 = true from q41), pk_of (show upd d_ 45 44 = true from q44)]
      all_goals rfl
  · rintro d_ a_ w1 hall ⟨rfl, F⟩
    have hall' : ∀ k, k < 46 → d_ k = true := hall
    rw [hall' 21 (by decide), hall' 40 (by decide), hall' 43 (by decide), hall' 45 (by decide)] at F
    have HF := Lib.hid F
    clear F
    rw [pk_of (hall' 0 (by decide)), pk_of (hall' 1 (by decide)), pk_of (hall' 2 (by decide)), pk_of (hall' 3 (by decide)), pk_of (hall' 4 (by decide)), pk_of (hall' 5 (by decide)), pk_of (hall' 6 (by decide)), pk_of (hall' 7 (by decide)), pk_of (hall' 8 (by decide)), pk_of (hall' 9 (by decide)), pk_of (hall' 10 (by decide)), pk_of (hall' 11 (by decide)), pk_of (hall' 12 (by decide)), pk_of (hall' 13 (by decide)), pk_of (hall' 14 (by decide)), pk_of (hall' 15 (by decide)), pk_of (hall' 16 (by decide)), pk_of (hall' 17 (by decide)), pk_of (hall' 18 (by decide)), pk_of (hall' 19 (by decide)), pk_of (hall' 20 (by decide)), pk_of (hall' 21 (by decide)), pk_of (hall' 22 (by decide)), pk_of (hall' 23 (by decide)), pk_of (hall' 24 (by decide)), pk_of (hall' 25 (by decide)), pk_of (hall' 26 (by decide)), pk_of (hall' 27 (by decide)), pk_of (hall' 28 (by decide)), pk_of (hall' 29 (by decide)), pk_of (hall' 30 (by decide)), pk_of (hall' 31 (by decide)), pk_of (hall' 32 (by decide)), pk_of (hall' 33 (by decide)), pk_of (hall' 34 (by decide)), pk_of (hall' 35 (by decide)), pk_of (hall' 36 (by decide)), pk_of (hall' 37 (by decide)), pk_of (hall' 38 (by decide)), pk_of (hall' 39 (by decide)), pk_of (hall' 40 (by decide)), pk_of (hall' 41 (by decide)), pk_of (hall' 42 (by decide)), pk_of (hall' 44 (by decide))]
    exact HQ.out w1 HF.out
noncomputable def mad22C : Code := (Try.f41.body.bind (regionAt 22)).getD .skip
set_option maxRecDepth 100000 in
set_option maxHeartbeats 8000000 in
theorem mad22 {b3 g9 g10 g11 i n : Nat} {si di m : Int} {x : Prt} {P0 P1 P2 P3 : World → Prop} {Q : Exit → Act → World → Prop} {W1 : World} (hin : i < n) (h0 : P0 W1.drew)
    (kl6 : Hid (∀ w : World, (P0 w ∨ P1 w ∨ P2 w ∨ P3 w) → w.cell? ⟨g9, i, none⟩ = some (.int .i64 (si))))
    (kc7 : Hid (∀ w : World, P0 w → Calls Try.prog 85 #[.int .i64 (si), .pointer (some ⟨b3, 0, none⟩)] w fun e w' => e = .returned (.agg #[.int .i64 (x.slo), .int .i64 (x.shi)]) ∧ P1 w'))
    (kl12 : Hid (∀ w : World, (P0 w ∨ P1 w ∨ P2 w ∨ P3 w) → w.cell? ⟨g10, i, none⟩ = some (.int .i64 (di))))
    (kc13 : Hid (∀ w : World, P1 w → Calls Try.prog 85 #[.int .i64 (di), .pointer (some ⟨b3, 0, none⟩)] w fun e w' => e = .returned (.agg #[.int .i64 (x.wlo), .int .i64 (x.whi)]) ∧ P2 w'))
    (ks17 : Hid (∀ w : World, P2 w → (∃ u, w.cell? ⟨g11, i * 5, none⟩ = some u) ∧ w.frozen? ⟨g11, i * 5, none⟩ = false ∧ (∃ u, w.cell? ⟨g11, i * 5 + 1, none⟩ = some u) ∧ w.frozen? ⟨g11, i * 5 + 1, none⟩ = false ∧ (∃ u, w.cell? ⟨g11, i * 5 + 2, none⟩ = some u) ∧ w.frozen? ⟨g11, i * 5 + 2, none⟩ = false ∧ (∃ u, w.cell? ⟨g11, i * 5 + 3, none⟩ = some u) ∧ w.frozen? ⟨g11, i * 5 + 3, none⟩ = false ∧ (∃ u, w.cell? ⟨g11, i * 5 + 4, none⟩ = some u) ∧ w.frozen? ⟨g11, i * 5 + 4, none⟩ = false ∧ P3 (((((w.setCell ⟨g11, i * 5, none⟩ (.int .i64 (x.slo))).setCell ⟨g11, i * 5 + 1, none⟩ (.int .i64 (x.shi))).setCell ⟨g11, i * 5 + 2, none⟩ (.int .i64 (x.wlo))).setCell ⟨g11, i * 5 + 3, none⟩ (.int .i64 (x.whi))).setCell ⟨g11, i * 5 + 4, none⟩ (.int .i64 (x.marks)))))
    {s0 s1 s2 s3 s4 s5 s6 s7 s8 s12 s16 s17 s18 s19 s20 s21 s22 s23 s24 s25 s26 s27 s28 s29 s30 s31 s32 s33 s34 s35 s36 s37 s38 s39 s40 s41 s42 s43 s44 s45 s46 s47 s48 s49 s50 s51 s52 s53 s54 s55 s56 s57 s58 s59 s60 s61 s62 s63 s64 s65 s66 s67 s68 s69 s70 s71 s72 s73 s74 s75 s76 s77 s78 s79 s80 s81 s82 s83 s84 s85 s86 s87 s88 s89 s90 s91 s92 s93 s94 s95 s96 s97 s98 s99 s100 s101 s102 s103 s104 s105 s106 s107 s108 s109 s110 s111 s112 s113 s114 s115 s116 s117 s118 s119 s120 s121 s122 s123 s124 s125 s126 s127 s128 s129 s130 s131 s132 s133 s134 s135 s136 s137 s138 s139 s140 s141 s142 s143 s144 s145 s146 s147 s148 s149 s150 s151 s152 s153 s154 s155 s156 s157 s158 s159 s160 s161 s162 s163 s164 s165 s166 s167 s168 s169 s170 s171 s172 s173 s174 s175 s176 s177 s178 s179 s180 s181 s182 s183 s184 s185 s186 s187 s188 s189 s190 s191 s192 s193 s194 s195 s196 s197 s198 s199 s200 s201 s202 s203 s204 s205 s206 s207 s208 s209 s210 s211 s212 s213 s214 s215 : Value} {dd : List Deferred}
    (hQ : ∀ w' : World, P3 w' → Q .normal { tmps := #[s0,s1,s2,s3,s4,s5,s6,s7,s8,.slice (some ⟨g9, 0, none⟩) n n,.slice (some ⟨g10, 0, none⟩) n n,.slice (some ⟨g11, 0, none⟩) n n,s12,.func (.func 85) #[] #[.pointer (some ⟨b3, 0, none⟩)],.int .i64 (i),.int .i64 (x.marks),s16,s17,s18,s19,s20,s21,s22,s23,s24,s25,s26,s27,s28,s29,s30,s31,s32,s33,s34,s35,s36,s37,s38,s39,s40,s41,s42,s43,s44,s45,s46,s47,s48,s49,s50,s51,s52,s53,s54,s55,s56,s57,s58,s59,s60,s61,s62,s63,s64,s65,s66,s67,s68,s69,s70,s71,s72,s73,s74,s75,s76,s77,s78,s79,s80,s81,s82,s83,s84,s85,s86,s87,s88,s89,s90,s91,s92,s93,s94,s95,s96,s97,s98,s99,s100,s101,s102,s103,s104,s105,s106,s107,s108,s109,s110,s111,s112,s113,s114,s115,s116,s117,s118,s119,s120,s121,s122,s123,s124,s125,s126,s127,s128,s129,s130,s131,s132,s133,s134,s135,s136,s137,s138,s139,s140,s141,s142,s143,s144,s145,s146,s147,.slice (some ⟨g11, 0, none⟩) n n,.int .i64 (i),.func (.func 85) #[] #[.pointer (some ⟨b3, 0, none⟩)],.slice (some ⟨g9, 0, none⟩) n n,.int .i64 (i),.pointer (some ⟨g9, i, none⟩),.int .i64 (si),.agg #[.int .i64 (x.slo), .int .i64 (x.shi)],.func (.func 85) #[] #[.pointer (some ⟨b3, 0, none⟩)],.slice (some ⟨g10, 0, none⟩) n n,.int .i64 (i),.pointer (some ⟨g10, i, none⟩),.int .i64 (di),.agg #[.int .i64 (x.wlo), .int .i64 (x.whi)],.int .i64 (x.marks),.agg #[.int .i64 (x.slo), .int .i64 (x.shi), .int .i64 (x.wlo), .int .i64 (x.whi), .int .i64 (x.marks)],.pointer (some ⟨g11, i * 5, none⟩),s165,s166,s167,s168,s169,s170,s171,s172,s173,s174,s175,s176,s177,s178,s179,s180,s181,s182,s183,s184,s185,s186,s187,s188,s189,s190,s191,s192,s193,s194,s195,s196,s197,s198,s199,s200,s201,s202,s203,s204,s205,s206,s207,s208,s209,s210,s211,s212,s213,s214,s215],defers := dd } w') :
    Code.wpIn (wideAt none) 0 Try.prog mad22C Q { tmps := #[s0,s1,s2,s3,s4,s5,s6,s7,s8,.slice (some ⟨g9, 0, none⟩) n n,.slice (some ⟨g10, 0, none⟩) n n,.slice (some ⟨g11, 0, none⟩) n n,s12,.func (.func 85) #[] #[.pointer (some ⟨b3, 0, none⟩)],.int .i64 (i),.int .i64 (x.marks),s16,s17,s18,s19,s20,s21,s22,s23,s24,s25,s26,s27,s28,s29,s30,s31,s32,s33,s34,s35,s36,s37,s38,s39,s40,s41,s42,s43,s44,s45,s46,s47,s48,s49,s50,s51,s52,s53,s54,s55,s56,s57,s58,s59,s60,s61,s62,s63,s64,s65,s66,s67,s68,s69,s70,s71,s72,s73,s74,s75,s76,s77,s78,s79,s80,s81,s82,s83,s84,s85,s86,s87,s88,s89,s90,s91,s92,s93,s94,s95,s96,s97,s98,s99,s100,s101,s102,s103,s104,s105,s106,s107,s108,s109,s110,s111,s112,s113,s114,s115,s116,s117,s118,s119,s120,s121,s122,s123,s124,s125,s126,s127,s128,s129,s130,s131,s132,s133,s134,s135,s136,s137,s138,s139,s140,s141,s142,s143,s144,s145,s146,s147,s148,s149,s150,s151,s152,s153,s154,s155,s156,s157,s158,s159,s160,s161,s162,s163,s164,s165,s166,s167,s168,s169,s170,s171,s172,s173,s174,s175,s176,s177,s178,s179,s180,s181,s182,s183,s184,s185,s186,s187,s188,s189,s190,s191,s192,s193,s194,s195,s196,s197,s198,s199,s200,s201,s202,s203,s204,s205,s206,s207,s208,s209,s210,s211,s212,s213,s214,s215],defers := dd } W1 := by
  have HQ := Lib.hid hQ
  clear hQ
  conv => arg 4; whnf
  refine wpIn_region_invG mixed (by kernel_rfl) (fun d_ a_ w' => a_ = { tmps := #[s0,s1,s2,s3,s4,s5,s6,s7,s8,.slice (some ⟨g9, 0, none⟩) n n,.slice (some ⟨g10, 0, none⟩) n n,.slice (some ⟨g11, 0, none⟩) n n,s12,.func (.func 85) #[] #[.pointer (some ⟨b3, 0, none⟩)],.int .i64 (i),.int .i64 (x.marks),s16,s17,s18,s19,s20,s21,s22,s23,s24,s25,s26,s27,s28,s29,s30,s31,s32,s33,s34,s35,s36,s37,s38,s39,s40,s41,s42,s43,s44,s45,s46,s47,s48,s49,s50,s51,s52,s53,s54,s55,s56,s57,s58,s59,s60,s61,s62,s63,s64,s65,s66,s67,s68,s69,s70,s71,s72,s73,s74,s75,s76,s77,s78,s79,s80,s81,s82,s83,s84,s85,s86,s87,s88,s89,s90,s91,s92,s93,s94,s95,s96,s97,s98,s99,s100,s101,s102,s103,s104,s105,s106,s107,s108,s109,s110,s111,s112,s113,s114,s115,s116,s117,s118,s119,s120,s121,s122,s123,s124,s125,s126,s127,s128,s129,s130,s131,s132,s133,s134,s135,s136,s137,s138,s139,s140,s141,s142,s143,s144,s145,s146,s147,pk (d_ 0) (.slice (some ⟨g11, 0, none⟩) n n) s148,pk (d_ 1) (.int .i64 (i)) s149,pk (d_ 2) (.func (.func 85) #[] #[.pointer (some ⟨b3, 0, none⟩)]) s150,pk (d_ 3) (.slice (some ⟨g9, 0, none⟩) n n) s151,pk (d_ 4) (.int .i64 (i)) s152,pk (d_ 5) (.pointer (some ⟨g9, i, none⟩)) s153,pk (d_ 6) (.int .i64 (si)) s154,pk (d_ 7) (.agg #[.int .i64 (x.slo), .int .i64 (x.shi)]) s155,pk (d_ 8) (.func (.func 85) #[] #[.pointer (some ⟨b3, 0, none⟩)]) s156,pk (d_ 9) (.slice (some ⟨g10, 0, none⟩) n n) s157,pk (d_ 10) (.int .i64 (i)) s158,pk (d_ 11) (.pointer (some ⟨g10, i, none⟩)) s159,pk (d_ 12) (.int .i64 (di)) s160,pk (d_ 13) (.agg #[.int .i64 (x.wlo), .int .i64 (x.whi)]) s161,pk (d_ 14) (.int .i64 (x.marks)) s162,pk (d_ 15) (.agg #[.int .i64 (x.slo), .int .i64 (x.shi), .int .i64 (x.wlo), .int .i64 (x.whi), .int .i64 (x.marks)]) s163,pk (d_ 16) (.pointer (some ⟨g11, i * 5, none⟩)) s164,s165,s166,s167,s168,s169,s170,s171,s172,s173,s174,s175,s176,s177,s178,s179,s180,s181,s182,s183,s184,s185,s186,s187,s188,s189,s190,s191,s192,s193,s194,s195,s196,s197,s198,s199,s200,s201,s202,s203,s204,s205,s206,s207,s208,s209,s210,s211,s212,s213,s214,s215],defers := dd } ∧ ch3 P0 P1 P2 P3 (d_ 7) (d_ 13) (d_ 17) w') ?_ ?_ ?_
  · exact ⟨rfl, h0⟩
  · refine ⟨?_,?_,?_,?_,?_,?_,?_,?_,?_,?_,?_,?_,?_,?_,?_,?_,?_,?_, trivial⟩
    all_goals
      rintro d_ a_ w1 K hd_ hdep ⟨rfl, F⟩ HK
      simp [Region.binds] at hdep
    · have HF := Lib.hid F
      clear F hdep
      go_simp
      refine HK.out _ _ ⟨?_, HF.out⟩
      all_goals rfl
    · have HF := Lib.hid F
      clear F hdep
      go_simp
      refine HK.out _ _ ⟨?_, HF.out⟩
      all_goals rfl
    · have HF := Lib.hid F
      clear F hdep
      go_simp
      refine HK.out _ _ ⟨?_, HF.out⟩
      all_goals rfl
    · have HF := Lib.hid F
      clear F hdep
      go_simp
      refine HK.out _ _ ⟨?_, HF.out⟩
      all_goals rfl
    · have HF := Lib.hid F
      clear F hdep
      go_simp
      refine HK.out _ _ ⟨?_, HF.out⟩
      all_goals rfl
    · have q3 : d_ 3 = true := by simp [hdep]
      have q4 : d_ 4 = true := by simp [hdep]
      have hin2 : i < n := hin
      rw [pk_of q3, pk_of q4]
      have HF := Lib.hid F
      clear F hdep
      go_simp
      refine HK.out _ _ ⟨?_, HF.out⟩
      rw [pk_of (show upd d_ 5 3 = true from q3), pk_of (show upd d_ 5 4 = true from q4)]
      all_goals rfl
    · have q5 : d_ 5 = true := by simp [hdep]
      have kk := kl6.out w1 (ch3_or F)
      rw [pk_of q5]
      have HF := Lib.hid F
      clear F hdep
      go_simp
      refine HK.out _ _ ⟨?_, HF.out⟩
      rw [pk_of (show upd d_ 6 5 = true from q5)]
      all_goals rfl
    · have q2 : d_ 2 = true := by simp [hdep]
      have q6 : d_ 6 = true := by simp [hdep]
      rw [pk_of q2, pk_of q6]
      obtain ⟨hP, hN⟩ := ch3_s1 F hd_
      have hc := kc7.out w1 hP
      have HN := Lib.hid hN
      clear F hP hN hdep
      go_simp
      refine ⟨trivial, rfl, wideAt_calls (hc.mono ?_)⟩
      rintro e w5 ⟨rfl, hR⟩
      have HG := HN.out w5 hR
      refine HK.out _ _ ⟨?_, HG⟩
      rw [pk_of (show upd d_ 7 2 = true from q2), pk_of (show upd d_ 7 6 = true from q6)]
      all_goals rfl
    · have HF := Lib.hid F
      clear F hdep
      go_simp
      refine HK.out _ _ ⟨?_, HF.out⟩
      all_goals rfl
    · have HF := Lib.hid F
      clear F hdep
      go_simp
      refine HK.out _ _ ⟨?_, HF.out⟩
      all_goals rfl
    · have HF := Lib.hid F
      clear F hdep
      go_simp
      refine HK.out _ _ ⟨?_, HF.out⟩
      all_goals rfl
    · have q9 : d_ 9 = true := by simp [hdep]
      have q10 : d_ 10 = true := by simp [hdep]
      have hin2 : i < n := hin
      rw [pk_of q9, pk_of q10]
      have HF := Lib.hid F
      clear F hdep
      go_simp
      refine HK.out _ _ ⟨?_, HF.out⟩
      rw [pk_of (show upd d_ 11 9 = true from q9), pk_of (show upd d_ 11 10 = true from q10)]
      all_goals rfl
    · have q11 : d_ 11 = true := by simp [hdep]
      have kk := kl12.out w1 (ch3_or F)
      rw [pk_of q11]
      have HF := Lib.hid F
      clear F hdep
      go_simp
      refine HK.out _ _ ⟨?_, HF.out⟩
      rw [pk_of (show upd d_ 12 11 = true from q11)]
      all_goals rfl
    · have q8 : d_ 8 = true := by simp [hdep]
      have q12 : d_ 12 = true := by simp [hdep]
      rw [pk_of q8, pk_of q12]
      obtain ⟨hP, hN⟩ := ch3_s2 F (show d_ 7 = true by simp [hdep]) hd_
      have hc := kc13.out w1 hP
      have HN := Lib.hid hN
      clear F hP hN hdep
      go_simp
      refine ⟨trivial, rfl, wideAt_calls (hc.mono ?_)⟩
      rintro e w5 ⟨rfl, hR⟩
      have HG := HN.out w5 hR
      refine HK.out _ _ ⟨?_, HG⟩
      rw [pk_of (show upd d_ 13 8 = true from q8), pk_of (show upd d_ 13 12 = true from q12)]
      all_goals rfl
    · have HF := Lib.hid F
      clear F hdep
      go_simp
      refine HK.out _ _ ⟨?_, HF.out⟩
      all_goals rfl
    · have q7 : d_ 7 = true := by simp [hdep]
      have q13 : d_ 13 = true := by simp [hdep]
      have q14 : d_ 14 = true := by simp [hdep]
      rw [pk_of q7, pk_of q13, pk_of q14]
      have HF := Lib.hid F
      clear F hdep
      go_simp
      refine HK.out _ _ ⟨?_, HF.out⟩
      rw [pk_of (show upd d_ 15 7 = true from q7), pk_of (show upd d_ 15 13 = true from q13), pk_of (show upd d_ 15 14 = true from q14)]
      all_goals rfl
    · have q0 : d_ 0 = true := by simp [hdep]
      have q1 : d_ 1 = true := by simp [hdep]
      have hin2 : i < n := hin
      rw [pk_of q0, pk_of q1]
      have HF := Lib.hid F
      clear F hdep
      go_simp
      refine HK.out _ _ ⟨?_, HF.out⟩
      rw [pk_of (show upd d_ 16 0 = true from q0), pk_of (show upd d_ 16 1 = true from q1)]
      all_goals rfl
    · have q15 : d_ 15 = true := by simp [hdep]
      have q16 : d_ 16 = true := by simp [hdep]
      rw [pk_of q15, pk_of q16]
      obtain ⟨hP, hN⟩ := ch3_s3 F (show d_ 13 = true by simp [hdep]) hd_
      obtain ⟨⟨u0, c0⟩, z0, ⟨u1, c1⟩, z1, ⟨u2, c2⟩, z2, ⟨u3, c3⟩, z3, ⟨u4, c4⟩, z4, hR⟩ := ks17.out w1 hP
      have HF := Lib.hid (hN _ hR)
      clear F hP hR hN hdep
      go_simp
      have HG := HF.out
      refine HK.out _ _ ⟨?_, HG⟩
      rw [pk_of (show upd d_ 17 15 = true from q15), pk_of (show upd d_ 17 16 = true from q16)]
      all_goals rfl
  · rintro d_ a_ w1 hall ⟨rfl, F⟩
    have hall' : ∀ k, k < 18 → d_ k = true := hall
    rw [hall' 7 (by decide), hall' 13 (by decide), hall' 17 (by decide)] at F
    have HF := Lib.hid F
    clear F
    rw [pk_of (hall' 0 (by decide)), pk_of (hall' 1 (by decide)), pk_of (hall' 2 (by decide)), pk_of (hall' 3 (by decide)), pk_of (hall' 4 (by decide)), pk_of (hall' 5 (by decide)), pk_of (hall' 6 (by decide)), pk_of (hall' 7 (by decide)), pk_of (hall' 8 (by decide)), pk_of (hall' 9 (by decide)), pk_of (hall' 10 (by decide)), pk_of (hall' 11 (by decide)), pk_of (hall' 12 (by decide)), pk_of (hall' 13 (by decide)), pk_of (hall' 14 (by decide)), pk_of (hall' 15 (by decide)), pk_of (hall' 16 (by decide))]
    exact HQ.out w1 HF.out
noncomputable def mad30C : Code := (Try.f41.body.bind (regionAt 30)).getD .skip
set_option maxRecDepth 100000 in
set_option maxHeartbeats 8000000 in
theorem mad30 {b4 b8 b17 gx gf g11 g12 i m n : Nat} {q : Int} {x : Prt} {P0 P1 P2 : World → Prop} {Q : Exit → Act → World → Prop} {W1 : World} (hin : i < n) (hmn : m < n) (h0 : P0 W1.drew)
    (kl1 : Hid (∀ w : World, (P0 w ∨ P1 w ∨ P2 w) → w.cell? ⟨b4, 0, none⟩ = some (.slice (some ⟨gx, 0, none⟩) n n)))
    (kc4 : Hid (∀ w : World, (P0 w ∨ P1 w ∨ P2 w) → Calls Try.prog 86 #[.int .i64 (i), .pointer (some ⟨b17, 0, none⟩), .pointer (some ⟨b8, 0, none⟩)] w fun e w' => e = .returned (.int .i64 (m : Int)) ∧ w = w'))
    (kc8 : Hid (∀ w : World, (P0 w ∨ P1 w ∨ P2 w) → Calls Try.prog 86 #[.int .i64 (i), .pointer (some ⟨b17, 0, none⟩), .pointer (some ⟨b8, 0, none⟩)] w fun e w' => e = .returned (.int .i64 (m : Int)) ∧ w = w'))
    (kl12 : Hid (∀ w : World, (P0 w ∨ P1 w ∨ P2 w) → w.cell? ⟨g11, i * 5, none⟩ = some (.int .i64 (x.slo)) ∧ w.cell? ⟨g11, i * 5 + 1, none⟩ = some (.int .i64 (x.shi)) ∧ w.cell? ⟨g11, i * 5 + 2, none⟩ = some (.int .i64 (x.wlo)) ∧ w.cell? ⟨g11, i * 5 + 3, none⟩ = some (.int .i64 (x.whi)) ∧ w.cell? ⟨g11, i * 5 + 4, none⟩ = some (.int .i64 (x.marks))))
    (kl16 : Hid (∀ w : World, (P0 w ∨ P1 w ∨ P2 w) → w.cell? ⟨g12, i, none⟩ = some (.int .i64 (q))))
    (ks18 : Hid (∀ w : World, P0 w → (∃ u, w.cell? ⟨gx, m * 5, none⟩ = some u) ∧ w.frozen? ⟨gx, m * 5, none⟩ = false ∧ (∃ u, w.cell? ⟨gx, m * 5 + 1, none⟩ = some u) ∧ w.frozen? ⟨gx, m * 5 + 1, none⟩ = false ∧ (∃ u, w.cell? ⟨gx, m * 5 + 2, none⟩ = some u) ∧ w.frozen? ⟨gx, m * 5 + 2, none⟩ = false ∧ (∃ u, w.cell? ⟨gx, m * 5 + 3, none⟩ = some u) ∧ w.frozen? ⟨gx, m * 5 + 3, none⟩ = false ∧ (∃ u, w.cell? ⟨gx, m * 5 + 4, none⟩ = some u) ∧ w.frozen? ⟨gx, m * 5 + 4, none⟩ = false ∧ P1 (((((w.setCell ⟨gx, m * 5, none⟩ (.int .i64 (x.slo))).setCell ⟨gx, m * 5 + 1, none⟩ (.int .i64 (x.shi))).setCell ⟨gx, m * 5 + 2, none⟩ (.int .i64 (x.wlo))).setCell ⟨gx, m * 5 + 3, none⟩ (.int .i64 (x.whi))).setCell ⟨gx, m * 5 + 4, none⟩ (.int .i64 (x.marks)))))
    (ks20 : Hid (∀ w : World, P1 w → (∃ u, w.cell? ⟨gf, m, none⟩ = some u) ∧ w.frozen? ⟨gf, m, none⟩ = false ∧ P2 (w.setCell ⟨gf, m, none⟩ (.int .i64 (q)))))
    {s0 s1 s2 s3 s6 s7 s8 s9 s10 s13 s14 s15 s16 s17 s20 s21 s22 s23 s24 s25 s26 s27 s28 s29 s30 s31 s32 s33 s34 s35 s36 s37 s38 s39 s40 s41 s42 s43 s44 s45 s46 s47 s48 s49 s50 s51 s52 s53 s54 s55 s56 s57 s58 s59 s60 s61 s62 s63 s64 s65 s66 s67 s68 s69 s70 s71 s72 s73 s74 s75 s76 s77 s78 s79 s80 s81 s82 s83 s84 s85 s86 s87 s88 s89 s90 s91 s92 s93 s94 s95 s96 s97 s98 s99 s100 s101 s102 s103 s104 s105 s106 s107 s108 s109 s110 s111 s112 s113 s114 s115 s116 s117 s118 s119 s120 s121 s122 s123 s124 s125 s126 s127 s128 s129 s130 s131 s132 s133 s134 s135 s136 s137 s138 s139 s140 s141 s142 s143 s144 s145 s146 s147 s148 s149 s150 s151 s152 s153 s154 s155 s156 s157 s158 s159 s160 s161 s162 s163 s164 s165 s166 s167 s168 s169 s170 s171 s172 s173 s174 s175 s176 s177 s178 s179 s180 s181 s182 s183 s184 s185 s186 s187 s188 s189 s190 s191 s192 s193 s194 s195 s196 s197 s198 s199 s200 s201 s202 s203 s204 s205 s206 s207 s208 s209 s210 s211 s212 s213 s214 s215 : Value} {dd : List Deferred}
    (hQ : ∀ w' : World, P2 w' → Q .normal { tmps := #[s0,s1,s2,s3,.pointer (some ⟨b4, 0, none⟩),.slice (some ⟨gf, 0, none⟩) n n,s6,s7,s8,s9,s10,.slice (some ⟨g11, 0, none⟩) n n,.slice (some ⟨g12, 0, none⟩) n n,s13,s14,s15,s16,s17,.func (.func 86) #[] #[.pointer (some ⟨b17, 0, none⟩), .pointer (some ⟨b8, 0, none⟩)],.int .i64 (i),s20,s21,s22,s23,s24,s25,s26,s27,s28,s29,s30,s31,s32,s33,s34,s35,s36,s37,s38,s39,s40,s41,s42,s43,s44,s45,s46,s47,s48,s49,s50,s51,s52,s53,s54,s55,s56,s57,s58,s59,s60,s61,s62,s63,s64,s65,s66,s67,s68,s69,s70,s71,s72,s73,s74,s75,s76,s77,s78,s79,s80,s81,s82,s83,s84,s85,s86,s87,s88,s89,s90,s91,s92,s93,s94,s95,s96,s97,s98,s99,s100,s101,s102,s103,s104,s105,s106,s107,s108,s109,s110,s111,s112,s113,s114,s115,s116,s117,s118,s119,s120,s121,s122,s123,s124,s125,s126,s127,s128,s129,s130,s131,s132,s133,s134,s135,s136,s137,s138,s139,s140,s141,s142,s143,s144,s145,s146,s147,s148,s149,s150,s151,s152,s153,s154,s155,s156,s157,s158,s159,s160,s161,s162,s163,s164,s165,s166,s167,s168,s169,s170,s171,s172,s173,s174,s175,s176,s177,.pointer (some ⟨b4, 0, none⟩),.slice (some ⟨gx, 0, none⟩) n n,.func (.func 86) #[] #[.pointer (some ⟨b17, 0, none⟩), .pointer (some ⟨b8, 0, none⟩)],.int .i64 (i),.int .i64 (m : Int),.slice (some ⟨gf, 0, none⟩) n n,.func (.func 86) #[] #[.pointer (some ⟨b17, 0, none⟩), .pointer (some ⟨b8, 0, none⟩)],.int .i64 (i),.int .i64 (m : Int),.slice (some ⟨g11, 0, none⟩) n n,.int .i64 (i),.pointer (some ⟨g11, i * 5, none⟩),.agg #[.int .i64 (x.slo), .int .i64 (x.shi), .int .i64 (x.wlo), .int .i64 (x.whi), .int .i64 (x.marks)],.slice (some ⟨g12, 0, none⟩) n n,.int .i64 (i),.pointer (some ⟨g12, i, none⟩),.int .i64 (q),.pointer (some ⟨gx, m * 5, none⟩),.pointer (some ⟨gf, m, none⟩),s197,s198,s199,s200,s201,s202,s203,s204,s205,s206,s207,s208,s209,s210,s211,s212,s213,s214,s215],defers := dd } w') :
    Code.wpIn (wideAt none) 0 Try.prog mad30C Q { tmps := #[s0,s1,s2,s3,.pointer (some ⟨b4, 0, none⟩),.slice (some ⟨gf, 0, none⟩) n n,s6,s7,s8,s9,s10,.slice (some ⟨g11, 0, none⟩) n n,.slice (some ⟨g12, 0, none⟩) n n,s13,s14,s15,s16,s17,.func (.func 86) #[] #[.pointer (some ⟨b17, 0, none⟩), .pointer (some ⟨b8, 0, none⟩)],.int .i64 (i),s20,s21,s22,s23,s24,s25,s26,s27,s28,s29,s30,s31,s32,s33,s34,s35,s36,s37,s38,s39,s40,s41,s42,s43,s44,s45,s46,s47,s48,s49,s50,s51,s52,s53,s54,s55,s56,s57,s58,s59,s60,s61,s62,s63,s64,s65,s66,s67,s68,s69,s70,s71,s72,s73,s74,s75,s76,s77,s78,s79,s80,s81,s82,s83,s84,s85,s86,s87,s88,s89,s90,s91,s92,s93,s94,s95,s96,s97,s98,s99,s100,s101,s102,s103,s104,s105,s106,s107,s108,s109,s110,s111,s112,s113,s114,s115,s116,s117,s118,s119,s120,s121,s122,s123,s124,s125,s126,s127,s128,s129,s130,s131,s132,s133,s134,s135,s136,s137,s138,s139,s140,s141,s142,s143,s144,s145,s146,s147,s148,s149,s150,s151,s152,s153,s154,s155,s156,s157,s158,s159,s160,s161,s162,s163,s164,s165,s166,s167,s168,s169,s170,s171,s172,s173,s174,s175,s176,s177,s178,s179,s180,s181,s182,s183,s184,s185,s186,s187,s188,s189,s190,s191,s192,s193,s194,s195,s196,s197,s198,s199,s200,s201,s202,s203,s204,s205,s206,s207,s208,s209,s210,s211,s212,s213,s214,s215],defers := dd } W1 := by
  have HQ := Lib.hid hQ
  clear hQ
  conv => arg 4; whnf
  refine wpIn_region_invG mixed (by kernel_rfl) (fun d_ a_ w' => a_ = { tmps := #[s0,s1,s2,s3,.pointer (some ⟨b4, 0, none⟩),.slice (some ⟨gf, 0, none⟩) n n,s6,s7,s8,s9,s10,.slice (some ⟨g11, 0, none⟩) n n,.slice (some ⟨g12, 0, none⟩) n n,s13,s14,s15,s16,s17,.func (.func 86) #[] #[.pointer (some ⟨b17, 0, none⟩), .pointer (some ⟨b8, 0, none⟩)],.int .i64 (i),s20,s21,s22,s23,s24,s25,s26,s27,s28,s29,s30,s31,s32,s33,s34,s35,s36,s37,s38,s39,s40,s41,s42,s43,s44,s45,s46,s47,s48,s49,s50,s51,s52,s53,s54,s55,s56,s57,s58,s59,s60,s61,s62,s63,s64,s65,s66,s67,s68,s69,s70,s71,s72,s73,s74,s75,s76,s77,s78,s79,s80,s81,s82,s83,s84,s85,s86,s87,s88,s89,s90,s91,s92,s93,s94,s95,s96,s97,s98,s99,s100,s101,s102,s103,s104,s105,s106,s107,s108,s109,s110,s111,s112,s113,s114,s115,s116,s117,s118,s119,s120,s121,s122,s123,s124,s125,s126,s127,s128,s129,s130,s131,s132,s133,s134,s135,s136,s137,s138,s139,s140,s141,s142,s143,s144,s145,s146,s147,s148,s149,s150,s151,s152,s153,s154,s155,s156,s157,s158,s159,s160,s161,s162,s163,s164,s165,s166,s167,s168,s169,s170,s171,s172,s173,s174,s175,s176,s177,pk (d_ 0) (.pointer (some ⟨b4, 0, none⟩)) s178,pk (d_ 1) (.slice (some ⟨gx, 0, none⟩) n n) s179,pk (d_ 2) (.func (.func 86) #[] #[.pointer (some ⟨b17, 0, none⟩), .pointer (some ⟨b8, 0, none⟩)]) s180,pk (d_ 3) (.int .i64 (i)) s181,pk (d_ 4) (.int .i64 (m : Int)) s182,pk (d_ 5) (.slice (some ⟨gf, 0, none⟩) n n) s183,pk (d_ 6) (.func (.func 86) #[] #[.pointer (some ⟨b17, 0, none⟩), .pointer (some ⟨b8, 0, none⟩)]) s184,pk (d_ 7) (.int .i64 (i)) s185,pk (d_ 8) (.int .i64 (m : Int)) s186,pk (d_ 9) (.slice (some ⟨g11, 0, none⟩) n n) s187,pk (d_ 10) (.int .i64 (i)) s188,pk (d_ 11) (.pointer (some ⟨g11, i * 5, none⟩)) s189,pk (d_ 12) (.agg #[.int .i64 (x.slo), .int .i64 (x.shi), .int .i64 (x.wlo), .int .i64 (x.whi), .int .i64 (x.marks)]) s190,pk (d_ 13) (.slice (some ⟨g12, 0, none⟩) n n) s191,pk (d_ 14) (.int .i64 (i)) s192,pk (d_ 15) (.pointer (some ⟨g12, i, none⟩)) s193,pk (d_ 16) (.int .i64 (q)) s194,pk (d_ 17) (.pointer (some ⟨gx, m * 5, none⟩)) s195,pk (d_ 19) (.pointer (some ⟨gf, m, none⟩)) s196,s197,s198,s199,s200,s201,s202,s203,s204,s205,s206,s207,s208,s209,s210,s211,s212,s213,s214,s215],defers := dd } ∧ ch2 P0 P1 P2 (d_ 18) (d_ 20) w') ?_ ?_ ?_
  · exact ⟨rfl, h0⟩
  · refine ⟨?_,?_,?_,?_,?_,?_,?_,?_,?_,?_,?_,?_,?_,?_,?_,?_,?_,?_,?_,?_,?_, trivial⟩
    all_goals
      rintro d_ a_ w1 K hd_ hdep ⟨rfl, F⟩ HK
      simp [Region.binds] at hdep
    · have HF := Lib.hid F
      clear F hdep
      go_simp
      refine HK.out _ _ ⟨?_, HF.out⟩
      all_goals rfl
    · have q0 : d_ 0 = true := by simp [hdep]
      have kk := kl1.out w1 (ch2_or F)
      rw [pk_of q0]
      have HF := Lib.hid F
      clear F hdep
      go_simp
      refine HK.out _ _ ⟨?_, HF.out⟩
      rw [pk_of (show upd d_ 1 0 = true from q0)]
      all_goals rfl
    · have HF := Lib.hid F
      clear F hdep
      go_simp
      refine HK.out _ _ ⟨?_, HF.out⟩
      all_goals rfl
    · have HF := Lib.hid F
      clear F hdep
      go_simp
      refine HK.out _ _ ⟨?_, HF.out⟩
      all_goals rfl
    · have q2 : d_ 2 = true := by simp [hdep]
      have q3 : d_ 3 = true := by simp [hdep]
      rw [pk_of q2, pk_of q3]
      have hc := kc4.out w1 (ch2_or F)
      have HF := Lib.hid F
      clear F hdep
      go_simp
      refine ⟨trivial, rfl, wideAt_calls (hc.mono ?_)⟩
      rintro e w5 ⟨rfl, hw5⟩
      subst hw5
      refine HK.out _ _ ⟨?_, HF.out⟩
      rw [pk_of (show upd d_ 4 2 = true from q2), pk_of (show upd d_ 4 3 = true from q3)]
      all_goals rfl
    · have HF := Lib.hid F
      clear F hdep
      go_simp
      refine HK.out _ _ ⟨?_, HF.out⟩
      all_goals rfl
    · have HF := Lib.hid F
      clear F hdep
      go_simp
      refine HK.out _ _ ⟨?_, HF.out⟩
      all_goals rfl
    · have HF := Lib.hid F
      clear F hdep
      go_simp
      refine HK.out _ _ ⟨?_, HF.out⟩
      all_goals rfl
    · have q6 : d_ 6 = true := by simp [hdep]
      have q7 : d_ 7 = true := by simp [hdep]
      rw [pk_of q6, pk_of q7]
      have hc := kc8.out w1 (ch2_or F)
      have HF := Lib.hid F
      clear F hdep
      go_simp
      refine ⟨trivial, rfl, wideAt_calls (hc.mono ?_)⟩
      rintro e w5 ⟨rfl, hw5⟩
      subst hw5
      refine HK.out _ _ ⟨?_, HF.out⟩
      rw [pk_of (show upd d_ 8 6 = true from q6), pk_of (show upd d_ 8 7 = true from q7)]
      all_goals rfl
    · have HF := Lib.hid F
      clear F hdep
      go_simp
      refine HK.out _ _ ⟨?_, HF.out⟩
      all_goals rfl
    · have HF := Lib.hid F
      clear F hdep
      go_simp
      refine HK.out _ _ ⟨?_, HF.out⟩
      all_goals rfl
    · have q9 : d_ 9 = true := by simp [hdep]
      have q10 : d_ 10 = true := by simp [hdep]
      have hin2 : i < n := hin
      rw [pk_of q9, pk_of q10]
      have HF := Lib.hid F
      clear F hdep
      go_simp
      refine HK.out _ _ ⟨?_, HF.out⟩
      rw [pk_of (show upd d_ 11 9 = true from q9), pk_of (show upd d_ 11 10 = true from q10)]
      all_goals rfl
    · have q11 : d_ 11 = true := by simp [hdep]
      have kk := kl12.out w1 (ch2_or F)
      obtain ⟨kk0, kk1, kk2, kk3, kk4⟩ := kk
      rw [pk_of q11]
      have HF := Lib.hid F
      clear F hdep
      go_simp
      refine HK.out _ _ ⟨?_, HF.out⟩
      rw [pk_of (show upd d_ 12 11 = true from q11)]
      all_goals rfl
    · have HF := Lib.hid F
      clear F hdep
      go_simp
      refine HK.out _ _ ⟨?_, HF.out⟩
      all_goals rfl
    · have HF := Lib.hid F
      clear F hdep
      go_simp
      refine HK.out _ _ ⟨?_, HF.out⟩
      all_goals rfl
    · have q13 : d_ 13 = true := by simp [hdep]
      have q14 : d_ 14 = true := by simp [hdep]
      have hin2 : i < n := hin
      rw [pk_of q13, pk_of q14]
      have HF := Lib.hid F
      clear F hdep
      go_simp
      refine HK.out _ _ ⟨?_, HF.out⟩
      rw [pk_of (show upd d_ 15 13 = true from q13), pk_of (show upd d_ 15 14 = true from q14)]
      all_goals rfl
    · have q15 : d_ 15 = true := by simp [hdep]
      have kk := kl16.out w1 (ch2_or F)
      rw [pk_of q15]
      have HF := Lib.hid F
      clear F hdep
      go_simp
      refine HK.out _ _ ⟨?_, HF.out⟩
      rw [pk_of (show upd d_ 16 15 = true from q15)]
      all_goals rfl
    · have q1 : d_ 1 = true := by simp [hdep]
      have q4 : d_ 4 = true := by simp [hdep]
      have hmn2 : m < n := hmn
      rw [pk_of q1, pk_of q4]
      have HF := Lib.hid F
      clear F hdep
      go_simp
      refine HK.out _ _ ⟨?_, HF.out⟩
      rw [pk_of (show upd d_ 17 1 = true from q1), pk_of (show upd d_ 17 4 = true from q4)]
      all_goals rfl
    · have q12 : d_ 12 = true := by simp [hdep]
      have q17 : d_ 17 = true := by simp [hdep]
      rw [pk_of q12, pk_of q17]
      obtain ⟨hP, hN⟩ := ch2_s1 F hd_
      obtain ⟨⟨u0, c0⟩, z0, ⟨u1, c1⟩, z1, ⟨u2, c2⟩, z2, ⟨u3, c3⟩, z3, ⟨u4, c4⟩, z4, hR⟩ := ks18.out w1 hP
      have HF := Lib.hid (hN _ hR)
      clear F hP hR hN hdep
      go_simp
      have HG := HF.out
      refine HK.out _ _ ⟨?_, HG⟩
      rw [pk_of (show upd d_ 18 12 = true from q12), pk_of (show upd d_ 18 17 = true from q17)]
      all_goals rfl
    · have q5 : d_ 5 = true := by simp [hdep]
      have q8 : d_ 8 = true := by simp [hdep]
      have hmn2 : m < n := hmn
      rw [pk_of q5, pk_of q8]
      have HF := Lib.hid F
      clear F hdep
      go_simp
      refine HK.out _ _ ⟨?_, HF.out⟩
      rw [pk_of (show upd d_ 19 5 = true from q5), pk_of (show upd d_ 19 8 = true from q8)]
      all_goals rfl
    · have q16 : d_ 16 = true := by simp [hdep]
      have q19 : d_ 19 = true := by simp [hdep]
      rw [pk_of q16, pk_of q19]
      obtain ⟨hP, hN⟩ := ch2_s2 F (show d_ 18 = true by simp [hdep]) hd_
      obtain ⟨⟨u0, c0⟩, z0, hR⟩ := ks20.out w1 hP
      have HF := Lib.hid (hN _ hR)
      clear F hP hR hN hdep
      go_simp
      have HG := HF.out
      refine HK.out _ _ ⟨?_, HG⟩
      rw [pk_of (show upd d_ 20 16 = true from q16), pk_of (show upd d_ 20 19 = true from q19)]
      all_goals rfl
  · rintro d_ a_ w1 hall ⟨rfl, F⟩
    have hall' : ∀ k, k < 21 → d_ k = true := hall
    rw [hall' 18 (by decide), hall' 20 (by decide)] at F
    have HF := Lib.hid F
    clear F
    rw [pk_of (hall' 0 (by decide)), pk_of (hall' 1 (by decide)), pk_of (hall' 2 (by decide)), pk_of (hall' 3 (by decide)), pk_of (hall' 4 (by decide)), pk_of (hall' 5 (by decide)), pk_of (hall' 6 (by decide)), pk_of (hall' 7 (by decide)), pk_of (hall' 8 (by decide)), pk_of (hall' 9 (by decide)), pk_of (hall' 10 (by decide)), pk_of (hall' 11 (by decide)), pk_of (hall' 12 (by decide)), pk_of (hall' 13 (by decide)), pk_of (hall' 14 (by decide)), pk_of (hall' 15 (by decide)), pk_of (hall' 16 (by decide)), pk_of (hall' 17 (by decide)), pk_of (hall' 19 (by decide))]
    exact HQ.out w1 HF.out
noncomputable def mad32C : Code := (Try.f41.body.bind (regionAt 32)).getD .skip
set_option maxRecDepth 100000 in
set_option maxHeartbeats 8000000 in
theorem mad32 {b8 b17 gf g12 i j m mj n : Nat} {P0 P1 : World → Prop} {Q : Exit → Act → World → Prop} {W1 : World} (hin : i < n) (hmn : m < n) (h0 : P0 W1.drew)
    (kc3 : Hid (∀ w : World, (P0 w ∨ P1 w) → Calls Try.prog 86 #[.int .i64 (i), .pointer (some ⟨b17, 0, none⟩), .pointer (some ⟨b8, 0, none⟩)] w fun e w' => e = .returned (.int .i64 (m : Int)) ∧ w = w'))
    (kl8 : Hid (∀ w : World, (P0 w ∨ P1 w) → w.cell? ⟨g12, i, none⟩ = some (.int .i64 (j : Int))))
    (kc9 : Hid (∀ w : World, (P0 w ∨ P1 w) → Calls Try.prog 86 #[.int .i64 (j : Int), .pointer (some ⟨b17, 0, none⟩), .pointer (some ⟨b8, 0, none⟩)] w fun e w' => e = .returned (.int .i64 (mj : Int)) ∧ w = w'))
    (ks11 : Hid (∀ w : World, P0 w → (∃ u, w.cell? ⟨gf, m, none⟩ = some u) ∧ w.frozen? ⟨gf, m, none⟩ = false ∧ P1 (w.setCell ⟨gf, m, none⟩ (.int .i64 (mj : Int)))))
    {s0 s1 s2 s3 s4 s6 s7 s8 s9 s10 s11 s13 s14 s15 s16 s17 s20 s21 s22 s23 s24 s25 s26 s27 s28 s29 s30 s31 s32 s33 s34 s35 s36 s37 s38 s39 s40 s41 s42 s43 s44 s45 s46 s47 s48 s49 s50 s51 s52 s53 s54 s55 s56 s57 s58 s59 s60 s61 s62 s63 s64 s65 s66 s67 s68 s69 s70 s71 s72 s73 s74 s75 s76 s77 s78 s79 s80 s81 s82 s83 s84 s85 s86 s87 s88 s89 s90 s91 s92 s93 s94 s95 s96 s97 s98 s99 s100 s101 s102 s103 s104 s105 s106 s107 s108 s109 s110 s111 s112 s113 s114 s115 s116 s117 s118 s119 s120 s121 s122 s123 s124 s125 s126 s127 s128 s129 s130 s131 s132 s133 s134 s135 s136 s137 s138 s139 s140 s141 s142 s143 s144 s145 s146 s147 s148 s149 s150 s151 s152 s153 s154 s155 s156 s157 s158 s159 s160 s161 s162 s163 s164 s165 s166 s167 s168 s169 s170 s171 s172 s173 s174 s175 s176 s177 s178 s179 s180 s181 s182 s183 s184 s185 s186 s187 s188 s189 s190 s191 s192 s193 s194 s195 s196 s197 s198 s199 s200 s201 s202 s203 s204 s205 s206 s207 s208 s209 s210 s211 s212 s213 s214 s215 : Value} {dd : List Deferred}
    (hQ : ∀ w' : World, P1 w' → Q .normal { tmps := #[s0,s1,s2,s3,s4,.slice (some ⟨gf, 0, none⟩) n n,s6,s7,s8,s9,s10,s11,.slice (some ⟨g12, 0, none⟩) n n,s13,s14,s15,s16,s17,.func (.func 86) #[] #[.pointer (some ⟨b17, 0, none⟩), .pointer (some ⟨b8, 0, none⟩)],.int .i64 (i),s20,s21,s22,s23,s24,s25,s26,s27,s28,s29,s30,s31,s32,s33,s34,s35,s36,s37,s38,s39,s40,s41,s42,s43,s44,s45,s46,s47,s48,s49,s50,s51,s52,s53,s54,s55,s56,s57,s58,s59,s60,s61,s62,s63,s64,s65,s66,s67,s68,s69,s70,s71,s72,s73,s74,s75,s76,s77,s78,s79,s80,s81,s82,s83,s84,s85,s86,s87,s88,s89,s90,s91,s92,s93,s94,s95,s96,s97,s98,s99,s100,s101,s102,s103,s104,s105,s106,s107,s108,s109,s110,s111,s112,s113,s114,s115,s116,s117,s118,s119,s120,s121,s122,s123,s124,s125,s126,s127,s128,s129,s130,s131,s132,s133,s134,s135,s136,s137,s138,s139,s140,s141,s142,s143,s144,s145,s146,s147,s148,s149,s150,s151,s152,s153,s154,s155,s156,s157,s158,s159,s160,s161,s162,s163,s164,s165,s166,s167,s168,s169,s170,s171,s172,s173,s174,s175,s176,s177,s178,s179,s180,s181,s182,s183,s184,s185,s186,s187,s188,s189,s190,s191,s192,s193,s194,s195,s196,s197,s198,s199,s200,s201,.slice (some ⟨gf, 0, none⟩) n n,.func (.func 86) #[] #[.pointer (some ⟨b17, 0, none⟩), .pointer (some ⟨b8, 0, none⟩)],.int .i64 (i),.int .i64 (m : Int),.func (.func 86) #[] #[.pointer (some ⟨b17, 0, none⟩), .pointer (some ⟨b8, 0, none⟩)],.slice (some ⟨g12, 0, none⟩) n n,.int .i64 (i),.pointer (some ⟨g12, i, none⟩),.int .i64 (j : Int),.int .i64 (mj : Int),.pointer (some ⟨gf, m, none⟩),s213,s214,s215],defers := dd } w') :
    Code.wpIn (wideAt none) 0 Try.prog mad32C Q { tmps := #[s0,s1,s2,s3,s4,.slice (some ⟨gf, 0, none⟩) n n,s6,s7,s8,s9,s10,s11,.slice (some ⟨g12, 0, none⟩) n n,s13,s14,s15,s16,s17,.func (.func 86) #[] #[.pointer (some ⟨b17, 0, none⟩), .pointer (some ⟨b8, 0, none⟩)],.int .i64 (i),s20,s21,s22,s23,s24,s25,s26,s27,s28,s29,s30,s31,s32,s33,s34,s35,s36,s37,s38,s39,s40,s41,s42,s43,s44,s45,s46,s47,s48,s49,s50,s51,s52,s53,s54,s55,s56,s57,s58,s59,s60,s61,s62,s63,s64,s65,s66,s67,s68,s69,s70,s71,s72,s73,s74,s75,s76,s77,s78,s79,s80,s81,s82,s83,s84,s85,s86,s87,s88,s89,s90,s91,s92,s93,s94,s95,s96,s97,s98,s99,s100,s101,s102,s103,s104,s105,s106,s107,s108,s109,s110,s111,s112,s113,s114,s115,s116,s117,s118,s119,s120,s121,s122,s123,s124,s125,s126,s127,s128,s129,s130,s131,s132,s133,s134,s135,s136,s137,s138,s139,s140,s141,s142,s143,s144,s145,s146,s147,s148,s149,s150,s151,s152,s153,s154,s155,s156,s157,s158,s159,s160,s161,s162,s163,s164,s165,s166,s167,s168,s169,s170,s171,s172,s173,s174,s175,s176,s177,s178,s179,s180,s181,s182,s183,s184,s185,s186,s187,s188,s189,s190,s191,s192,s193,s194,s195,s196,s197,s198,s199,s200,s201,s202,s203,s204,s205,s206,s207,s208,s209,s210,s211,s212,s213,s214,s215],defers := dd } W1 := by
  have HQ := Lib.hid hQ
  clear hQ
  conv => arg 4; whnf
  refine wpIn_region_invG mixed (by kernel_rfl) (fun d_ a_ w' => a_ = { tmps := #[s0,s1,s2,s3,s4,.slice (some ⟨gf, 0, none⟩) n n,s6,s7,s8,s9,s10,s11,.slice (some ⟨g12, 0, none⟩) n n,s13,s14,s15,s16,s17,.func (.func 86) #[] #[.pointer (some ⟨b17, 0, none⟩), .pointer (some ⟨b8, 0, none⟩)],.int .i64 (i),s20,s21,s22,s23,s24,s25,s26,s27,s28,s29,s30,s31,s32,s33,s34,s35,s36,s37,s38,s39,s40,s41,s42,s43,s44,s45,s46,s47,s48,s49,s50,s51,s52,s53,s54,s55,s56,s57,s58,s59,s60,s61,s62,s63,s64,s65,s66,s67,s68,s69,s70,s71,s72,s73,s74,s75,s76,s77,s78,s79,s80,s81,s82,s83,s84,s85,s86,s87,s88,s89,s90,s91,s92,s93,s94,s95,s96,s97,s98,s99,s100,s101,s102,s103,s104,s105,s106,s107,s108,s109,s110,s111,s112,s113,s114,s115,s116,s117,s118,s119,s120,s121,s122,s123,s124,s125,s126,s127,s128,s129,s130,s131,s132,s133,s134,s135,s136,s137,s138,s139,s140,s141,s142,s143,s144,s145,s146,s147,s148,s149,s150,s151,s152,s153,s154,s155,s156,s157,s158,s159,s160,s161,s162,s163,s164,s165,s166,s167,s168,s169,s170,s171,s172,s173,s174,s175,s176,s177,s178,s179,s180,s181,s182,s183,s184,s185,s186,s187,s188,s189,s190,s191,s192,s193,s194,s195,s196,s197,s198,s199,s200,s201,pk (d_ 0) (.slice (some ⟨gf, 0, none⟩) n n) s202,pk (d_ 1) (.func (.func 86) #[] #[.pointer (some ⟨b17, 0, none⟩), .pointer (some ⟨b8, 0, none⟩)]) s203,pk (d_ 2) (.int .i64 (i)) s204,pk (d_ 3) (.int .i64 (m : Int)) s205,pk (d_ 4) (.func (.func 86) #[] #[.pointer (some ⟨b17, 0, none⟩), .pointer (some ⟨b8, 0, none⟩)]) s206,pk (d_ 5) (.slice (some ⟨g12, 0, none⟩) n n) s207,pk (d_ 6) (.int .i64 (i)) s208,pk (d_ 7) (.pointer (some ⟨g12, i, none⟩)) s209,pk (d_ 8) (.int .i64 (j : Int)) s210,pk (d_ 9) (.int .i64 (mj : Int)) s211,pk (d_ 10) (.pointer (some ⟨gf, m, none⟩)) s212,s213,s214,s215],defers := dd } ∧ ch1 P0 P1 (d_ 11) w') ?_ ?_ ?_
  · exact ⟨rfl, h0⟩
  · refine ⟨?_,?_,?_,?_,?_,?_,?_,?_,?_,?_,?_,?_, trivial⟩
    all_goals
      rintro d_ a_ w1 K hd_ hdep ⟨rfl, F⟩ HK
      simp [Region.binds] at hdep
    · have HF := Lib.hid F
      clear F hdep
      go_simp
      refine HK.out _ _ ⟨?_, HF.out⟩
      all_goals rfl
    · have HF := Lib.hid F
      clear F hdep
      go_simp
      refine HK.out _ _ ⟨?_, HF.out⟩
      all_goals rfl
    · have HF := Lib.hid F
      clear F hdep
      go_simp
      refine HK.out _ _ ⟨?_, HF.out⟩
      all_goals rfl
    · have q1 : d_ 1 = true := by simp [hdep]
      have q2 : d_ 2 = true := by simp [hdep]
      rw [pk_of q1, pk_of q2]
      have hc := kc3.out w1 (ch1_or F)
      have HF := Lib.hid F
      clear F hdep
      go_simp
      refine ⟨trivial, rfl, wideAt_calls (hc.mono ?_)⟩
      rintro e w5 ⟨rfl, hw5⟩
      subst hw5
      refine HK.out _ _ ⟨?_, HF.out⟩
      rw [pk_of (show upd d_ 3 1 = true from q1), pk_of (show upd d_ 3 2 = true from q2)]
      all_goals rfl
    · have HF := Lib.hid F
      clear F hdep
      go_simp
      refine HK.out _ _ ⟨?_, HF.out⟩
      all_goals rfl
    · have HF := Lib.hid F
      clear F hdep
      go_simp
      refine HK.out _ _ ⟨?_, HF.out⟩
      all_goals rfl
    · have HF := Lib.hid F
      clear F hdep
      go_simp
      refine HK.out _ _ ⟨?_, HF.out⟩
      all_goals rfl
    · have q5 : d_ 5 = true := by simp [hdep]
      have q6 : d_ 6 = true := by simp [hdep]
      have hin2 : i < n := hin
      rw [pk_of q5, pk_of q6]
      have HF := Lib.hid F
      clear F hdep
      go_simp
      refine HK.out _ _ ⟨?_, HF.out⟩
      rw [pk_of (show upd d_ 7 5 = true from q5), pk_of (show upd d_ 7 6 = true from q6)]
      all_goals rfl
    · have q7 : d_ 7 = true := by simp [hdep]
      have kk := kl8.out w1 (ch1_or F)
      rw [pk_of q7]
      have HF := Lib.hid F
      clear F hdep
      go_simp
      refine HK.out _ _ ⟨?_, HF.out⟩
      rw [pk_of (show upd d_ 8 7 = true from q7)]
      all_goals rfl
    · have q4 : d_ 4 = true := by simp [hdep]
      have q8 : d_ 8 = true := by simp [hdep]
      rw [pk_of q4, pk_of q8]
      have hc := kc9.out w1 (ch1_or F)
      have HF := Lib.hid F
      clear F hdep
      go_simp
      refine ⟨trivial, rfl, wideAt_calls (hc.mono ?_)⟩
      rintro e w5 ⟨rfl, hw5⟩
      subst hw5
      refine HK.out _ _ ⟨?_, HF.out⟩
      rw [pk_of (show upd d_ 9 4 = true from q4), pk_of (show upd d_ 9 8 = true from q8)]
      all_goals rfl
    · have q0 : d_ 0 = true := by simp [hdep]
      have q3 : d_ 3 = true := by simp [hdep]
      have hmn2 : m < n := hmn
      rw [pk_of q0, pk_of q3]
      have HF := Lib.hid F
      clear F hdep
      go_simp
      refine HK.out _ _ ⟨?_, HF.out⟩
      rw [pk_of (show upd d_ 10 0 = true from q0), pk_of (show upd d_ 10 3 = true from q3)]
      all_goals rfl
    · have q9 : d_ 9 = true := by simp [hdep]
      have q10 : d_ 10 = true := by simp [hdep]
      rw [pk_of q9, pk_of q10]
      obtain ⟨hP, hN⟩ := ch1_s1 F hd_
      obtain ⟨⟨u0, c0⟩, z0, hR⟩ := ks11.out w1 hP
      have HF := Lib.hid (hN _ hR)
      clear F hP hR hN hdep
      go_simp
      have HG := HF.out
      refine HK.out _ _ ⟨?_, HG⟩
      rw [pk_of (show upd d_ 11 9 = true from q9), pk_of (show upd d_ 11 10 = true from q10)]
      all_goals rfl
  · rintro d_ a_ w1 hall ⟨rfl, F⟩
    have hall' : ∀ k, k < 12 → d_ k = true := hall
    rw [hall' 11 (by decide)] at F
    have HF := Lib.hid F
    clear F
    rw [pk_of (hall' 0 (by decide)), pk_of (hall' 1 (by decide)), pk_of (hall' 2 (by decide)), pk_of (hall' 3 (by decide)), pk_of (hall' 4 (by decide)), pk_of (hall' 5 (by decide)), pk_of (hall' 6 (by decide)), pk_of (hall' 7 (by decide)), pk_of (hall' 8 (by decide)), pk_of (hall' 9 (by decide)), pk_of (hall' 10 (by decide))]
    exact HQ.out w1 HF.out
end Go.Proofs.Ytnfhlbmapfoifaa
