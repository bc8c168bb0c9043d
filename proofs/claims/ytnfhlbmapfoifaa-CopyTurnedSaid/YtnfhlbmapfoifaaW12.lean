/- All ways: one card more. -/
import Derived.Test.YtnfhlbmapfoifaaW11
namespace Go.Proofs.Ytnfhlbmapfoifaa
open Go.RowKit
set_option linter.unusedVariables false

theorem wpIn_append_run {P : Program} {m : Nat} {w : World} {o : Oper} {a : Act} {K : Act → World → Prop} {Q : Exit → Act → World → Prop} (s x : Operand) (t : TypeId)
    (ho : o.op = .call { callee := .builtin .append, args := #[s, x], argTypes := #[t, t] }) (v xv v' : Value) (w' : World) (hs : a.eval s = v) (hx : a.eval x = xv)
    (hr : (Builtin.append_ #[t, t] o.type #[v, xv]).run P w = .ok v' w') (h : K (a.put o.dst v') w') : o.wpIn (wideAt none) m P a w K Q := by
  refine ⟨fun _ _ => trivial, ?_⟩
  show o.uponIn _ _ P a K Q ((execOp a.eval o).run P w)
  unfold execOp
  simp only [ho, resolve, invoke, builtin, Sem.run_bind, Sem.run_pure, Result.andThen_ok, List.map_toArray, List.map_cons, List.map_nil, hs, hx, hr]
  exact h
noncomputable def onC : Code := (Try.f98.body.bind (regionAt 6)).getD .skip

structure SkipN (A : World) (av : Option Addr) (k cv : Nat) (f : Int) (d : Nat → Bool) (x36 x37 x38 x39 x40 x41 x42 x43 x44 x45 x46 x47 x48 : Value) (w : World) : Prop where
  same : Below A.heap.size A w
  f0 : d 0 = true → x36 = .int .i64 f
  f1 : d 1 = true → x37 = .slice av k cv
  f2 : d 2 = true → x38 = .int .i64 k
  f3 : d 3 = true → x39 = .bool false
  f4 : d 4 = true → x40 = .bool false
  f12 : d 12 = true → x48 = .bool false
set_option maxRecDepth 100000 in
set_option maxHeartbeats 2000000 in
theorem onSkip {A : World} {av : Option Addr} {k cv ob : Nat} {f : Int} {Q : Exit → Act → World → Prop} (hk : k ≤ 16) (hf : (f != (k : Int)) = false)
    {s1 s2 s4 s5 s7 s8 s9 s10 s11 s12 s13 s14 s15 s16 s17 s18 s19 s20 s21 s22 s23 s24 s25 s26 s27 s28 s29 s30 s31 s32 s33 s34 s35 s36 s37 s38 s39 s40 s41 s42 s43 s44 s45 s46 s47 s48 : Value} {dd : List Deferred}
    (hQ : ∀ (x36 x37 x38 x39 x40 x41 x42 x43 x44 x45 x46 x47 x48 : Value) (w' : World), Below A.heap.size A w' → x48 = .bool false → Q .normal { tmps := #[.slice av k cv, s1, s2, .pointer (some ⟨ob, 0, none⟩), s4, s5, .int .i64 f, s7, s8, s9, s10, s11, s12, s13, s14, s15, s16, s17, s18, s19, s20, s21, s22, s23, s24, s25, s26, s27, s28, s29, s30, s31, s32, s33, s34, s35, x36, x37, x38, x39, x40, x41, x42, x43, x44, x45, x46, x47, x48], defers := dd } w') :
    Code.wpIn (wideAt none) 0 Try.prog onC Q { tmps := #[.slice av k cv, s1, s2, .pointer (some ⟨ob, 0, none⟩), s4, s5, .int .i64 f, s7, s8, s9, s10, s11, s12, s13, s14, s15, s16, s17, s18, s19, s20, s21, s22, s23, s24, s25, s26, s27, s28, s29, s30, s31, s32, s33, s34, s35, s36, s37, s38, s39, s40, s41, s42, s43, s44, s45, s46, s47, s48], defers := dd } A := by
  have HQ := Lib.hid hQ
  clear hQ
  conv => arg 4; whnf
  refine wpIn_region_invG mixed (by kernel_rfl) (fun d_ a_ w' => ∃ x36 x37 x38 x39 x40 x41 x42 x43 x44 x45 x46 x47 x48, a_ = { tmps := #[.slice av k cv, s1, s2, .pointer (some ⟨ob, 0, none⟩), s4, s5, .int .i64 f, s7, s8, s9, s10, s11, s12, s13, s14, s15, s16, s17, s18, s19, s20, s21, s22, s23, s24, s25, s26, s27, s28, s29, s30, s31, s32, s33, s34, s35, x36, x37, x38, x39, x40, x41, x42, x43, x44, x45, x46, x47, x48], defers := dd } ∧ SkipN A av k cv f d_ x36 x37 x38 x39 x40 x41 x42 x43 x44 x45 x46 x47 x48 w') ?_ ?_ ?_
  · refine ⟨s36, s37, s38, s39, s40, s41, s42, s43, s44, s45, s46, s47, s48, rfl, (Below.refl _ A).drew, ?_, ?_, ?_, ?_, ?_, ?_⟩ <;> (intro h; cases h)
  · refine ⟨?_, ?_, ?_, ?_, ?_, ?_, ?_, ?_, ?_, ?_, ?_, ?_, ?_, trivial⟩
    all_goals
      rintro d_ a_ w1 K hd_ hdep ⟨x36, x37, x38, x39, x40, x41, x42, x43, x44, x45, x46, x47, x48, rfl, F⟩ HK
      simp [Region.binds] at hdep
    · have HF : Hid (SkipN A av k cv f (upd d_ 0) (.int .i64 f) x37 x38 x39 x40 x41 x42 x43 x44 x45 x46 x47 x48 w1) := ⟨F.same, fun _ => rfl, F.f1, F.f2, F.f3, F.f4, F.f12⟩
      clear F
      go_simp
      exact HK.out _ _ ⟨_, _, _, _, _, _, _, _, _, _, _, _, _, rfl, HF.out⟩
    · have HF : Hid (SkipN A av k cv f (upd d_ 1) x36 (.slice av k cv) x38 x39 x40 x41 x42 x43 x44 x45 x46 x47 x48 w1) := ⟨F.same, F.f0, fun _ => rfl, F.f2, F.f3, F.f4, F.f12⟩
      clear F
      go_simp
      exact HK.out _ _ ⟨_, _, _, _, _, _, _, _, _, _, _, _, _, rfl, HF.out⟩
    · obtain rfl := F.f1 (by simp [hdep])
      have HF : Hid (SkipN A av k cv f (upd d_ 2) x36 (.slice av k cv) (.int .i64 k) x39 x40 x41 x42 x43 x44 x45 x46 x47 x48 w1) := ⟨F.same, F.f0, F.f1, fun _ => rfl, F.f3, F.f4, F.f12⟩
      clear F
      go_simp
      exact HK.out _ _ ⟨_, _, _, _, _, _, _, _, _, _, _, _, _, rfl, HF.out⟩
    · obtain rfl := F.f0 (by simp [hdep])
      obtain rfl := F.f2 (by simp [hdep])
      have HF : Hid (SkipN A av k cv f (upd d_ 3) (.int .i64 f) x37 (.int .i64 k) (.bool false) x40 x41 x42 x43 x44 x45 x46 x47 x48 w1) := ⟨F.same, F.f0, F.f1, F.f2, fun _ => rfl, F.f4, F.f12⟩
      clear F
      go_simp
      exact HK.out _ _ ⟨_, _, _, _, _, _, _, _, _, _, _, _, _, rfl, HF.out⟩
    · obtain rfl := F.f3 (by simp [hdep])
      have HF : Hid (SkipN A av k cv f (upd d_ 4) x36 x37 x38 (.bool false) (.bool false) x41 x42 x43 x44 x45 x46 x47 x48 w1) := ⟨F.same, F.f0, F.f1, F.f2, F.f3, fun _ => rfl, F.f12⟩
      clear F
      go_simp
      exact HK.out _ _ ⟨_, _, _, _, _, _, _, _, _, _, _, _, _, rfl, HF.out⟩
    · obtain rfl := F.f4 (by simp [hdep])
      have HF : Hid (SkipN A av k cv f (upd d_ 5) x36 x37 x38 x39 (.bool false) (undef) x42 x43 x44 x45 x46 x47 x48 w1) := ⟨F.same, F.f0, F.f1, F.f2, F.f3, F.f4, F.f12⟩
      clear F
      go_simp
      exact HK.out _ _ ⟨_, _, _, _, _, _, _, _, _, _, _, _, _, rfl, HF.out⟩
    · obtain rfl := F.f4 (by simp [hdep])
      have HF : Hid (SkipN A av k cv f (upd d_ 6) x36 x37 x38 x39 (.bool false) x41 (undef) x43 x44 x45 x46 x47 x48 w1) := ⟨F.same, F.f0, F.f1, F.f2, F.f3, F.f4, F.f12⟩
      clear F
      go_simp
      exact HK.out _ _ ⟨_, _, _, _, _, _, _, _, _, _, _, _, _, rfl, HF.out⟩
    · obtain rfl := F.f4 (by simp [hdep])
      have HF : Hid (SkipN A av k cv f (upd d_ 7) x36 x37 x38 x39 (.bool false) x41 x42 (undef) x44 x45 x46 x47 x48 w1) := ⟨F.same, F.f0, F.f1, F.f2, F.f3, F.f4, F.f12⟩
      clear F
      go_simp
      exact HK.out _ _ ⟨_, _, _, _, _, _, _, _, _, _, _, _, _, rfl, HF.out⟩
    · obtain rfl := F.f4 (by simp [hdep])
      have HF : Hid (SkipN A av k cv f (upd d_ 8) x36 x37 x38 x39 (.bool false) x41 x42 x43 (undef) x45 x46 x47 x48 w1) := ⟨F.same, F.f0, F.f1, F.f2, F.f3, F.f4, F.f12⟩
      clear F
      go_simp
      exact HK.out _ _ ⟨_, _, _, _, _, _, _, _, _, _, _, _, _, rfl, HF.out⟩
    · obtain rfl := F.f4 (by simp [hdep])
      have HF : Hid (SkipN A av k cv f (upd d_ 9) x36 x37 x38 x39 (.bool false) x41 x42 x43 x44 (undef) x46 x47 x48 w1) := ⟨F.same, F.f0, F.f1, F.f2, F.f3, F.f4, F.f12⟩
      clear F
      go_simp
      exact HK.out _ _ ⟨_, _, _, _, _, _, _, _, _, _, _, _, _, rfl, HF.out⟩
    · obtain rfl := F.f4 (by simp [hdep])
      have HF : Hid (SkipN A av k cv f (upd d_ 10) x36 x37 x38 x39 (.bool false) x41 x42 x43 x44 x45 (undef) x47 x48 w1) := ⟨F.same, F.f0, F.f1, F.f2, F.f3, F.f4, F.f12⟩
      clear F
      go_simp
      exact HK.out _ _ ⟨_, _, _, _, _, _, _, _, _, _, _, _, _, rfl, HF.out⟩
    · obtain rfl := F.f4 (by simp [hdep])
      have HF : Hid (SkipN A av k cv f (upd d_ 11) x36 x37 x38 x39 (.bool false) x41 x42 x43 x44 x45 x46 (undef) x48 w1) := ⟨F.same, F.f0, F.f1, F.f2, F.f3, F.f4, F.f12⟩
      clear F
      go_simp
      exact HK.out _ _ ⟨_, _, _, _, _, _, _, _, _, _, _, _, _, rfl, HF.out⟩
    · obtain rfl := F.f4 (by simp [hdep])
      have HF : Hid (SkipN A av k cv f (upd d_ 12) x36 x37 x38 x39 (.bool false) x41 x42 x43 x44 x45 x46 x47 (.bool false) w1) := ⟨F.same, F.f0, F.f1, F.f2, F.f3, F.f4, fun _ => rfl⟩
      clear F
      go_simp
      exact HK.out _ _ ⟨_, _, _, _, _, _, _, _, _, _, _, _, _, rfl, HF.out⟩
  · rintro d_ a_ w1 hall ⟨x36, x37, x38, x39, x40, x41, x42, x43, x44, x45, x46, x47, x48, rfl, F⟩
    have hall' : ∀ k, k < 13 → d_ k = true := hall
    exact HQ.out _ _ _ _ _ _ _ _ _ _ _ _ _ w1 F.same (F.f12 (hall' 12 (by decide)))

structure OnF (A : World) (av : Option Addr) (k cv : Nat) (f : Int) (sf : Value) (App : Value → World → Prop) (Res : Bool → World → Prop) (d : Nat → Bool) (x36 x37 x38 x39 x40 x41 x42 x43 x44 x45 x46 x47 x48 : Value) (w : World) : Prop where
  o10 : d 10 = true → d 9 = true ∧ d 5 = true
  o9 : d 9 = true → d 8 = true ∧ d 6 = true
  o8 : d 8 = true → d 7 = true
  o11 : d 11 = true → d 10 = true
  o12 : d 12 = true → d 11 = true
  f0 : d 0 = true → x36 = .int .i64 f
  f1 : d 1 = true → x37 = .slice av k cv
  f2 : d 2 = true → x38 = .int .i64 k
  f3 : d 3 = true → x39 = .bool true
  f4 : d 4 = true → x40 = .bool true
  f5 : d 5 = true → x41 = sf
  f6 : d 6 = true → x42 = .slice av k cv
  f7 : d 7 = true → x43 = .int .i64 f
  f8 : d 8 = true → d 9 = false → ∃ g : Nat, x44 = .slice (some ⟨g, 0, none⟩) 1 1 ∧ w.heap[g]? = some (.cells #[.int .i64 f] 3 (0, 0))
  bl : d 9 = false → Below A.heap.size A w
  ap : d 9 = true → d 10 = false → App x45 w
  f10 : d 10 = true → ∃ r, x46 = .bool r ∧ Res r w
  f11 : d 11 = true → ∃ r, x46 = .bool r ∧ x47 = .bool (!r)
  f12 : d 12 = true → x47 = x48
theorem OnF.n10 {A : World} {av : Option Addr} {k cv : Nat} {f : Int} {sf : Value} {App : Value → World → Prop} {Res : Bool → World → Prop} {d : Nat → Bool} {x36 x37 x38 x39 x40 x41 x42 x43 x44 x45 x46 x47 x48 : Value} {w : World} (F : OnF A av k cv f sf App Res d x36 x37 x38 x39 x40 x41 x42 x43 x44 x45 x46 x47 x48 w) (h : d 5 = false ∨ d 9 = false ∨ d 10 = false) : d 10 = false := by
  cases e : d 10 with
  | false => rfl
  | true =>
    have h1 := F.o10 e
    rcases h with h | h | h
    · rw [h1.2] at h; cases h
    · rw [h1.1] at h; cases h
    · rw [e] at h; cases h
theorem OnF.n9 {A : World} {av : Option Addr} {k cv : Nat} {f : Int} {sf : Value} {App : Value → World → Prop} {Res : Bool → World → Prop} {d : Nat → Bool} {x36 x37 x38 x39 x40 x41 x42 x43 x44 x45 x46 x47 x48 : Value} {w : World} (F : OnF A av k cv f sf App Res d x36 x37 x38 x39 x40 x41 x42 x43 x44 x45 x46 x47 x48 w) (h : d 8 = false) : d 9 = false := by
  cases e : d 9 with
  | false => rfl
  | true => have h1 := F.o9 e; rw [h1.1] at h; cases h
set_option maxRecDepth 100000 in
set_option maxHeartbeats 4000000 in
theorem onMore {A : World} {av : Option Addr} {k cv ob pb yb : Nat} {f : Int} {App : Value → World → Prop} {Res : Bool → World → Prop} {Q : Exit → Act → World → Prop} (hk : k ≤ 16) (hf : (f != (k : Int)) = true)
    (ko : Hid (∀ w, Below A.heap.size A w → w.cell? ⟨ob, 0, none⟩ = some (.func (.func 98) #[] #[.pointer (some ⟨pb, 0, none⟩), .pointer (some ⟨yb, 0, none⟩), .pointer (some ⟨ob, 0, none⟩)]))) (ko' : Hid (∀ v w, App v w → w.cell? ⟨ob, 0, none⟩ = some (.func (.func 98) #[] #[.pointer (some ⟨pb, 0, none⟩), .pointer (some ⟨yb, 0, none⟩), .pointer (some ⟨ob, 0, none⟩)])))
    (kap : Hid (∀ (w : World) (g : Nat), Below A.heap.size A w → w.heap[g]? = some (.cells #[.int .i64 f] 3 (0, 0)) → ∃ v' w', (Builtin.append_ #[76, 76] 76 #[.slice av k cv, .slice (some ⟨g, 0, none⟩) 1 1]).run Try.prog w = .ok v' w' ∧ App v' w'))
    (kon : Hid (∀ v w, App v w → CallsIn Fence.wide 0 Try.prog 98 #[v, .pointer (some ⟨pb, 0, none⟩), .pointer (some ⟨yb, 0, none⟩), .pointer (some ⟨ob, 0, none⟩)] w fun e w' => ∃ r, e = .returned (.bool r) ∧ Res r w'))
    {s1 s2 s4 s5 s7 s8 s9 s10 s11 s12 s13 s14 s15 s16 s17 s18 s19 s20 s21 s22 s23 s24 s25 s26 s27 s28 s29 s30 s31 s32 s33 s34 s35 s36 s37 s38 s39 s40 s41 s42 s43 s44 s45 s46 s47 s48 : Value} {dd : List Deferred}
    (hQ : ∀ (x36 x37 x38 x39 x40 x41 x42 x43 x44 x45 x46 x47 x48 : Value) (r : Bool) (w' : World), Res r w' → x48 = .bool (!r) → Q .normal { tmps := #[.slice av k cv, s1, s2, .pointer (some ⟨ob, 0, none⟩), s4, s5, .int .i64 f, s7, s8, s9, s10, s11, s12, s13, s14, s15, s16, s17, s18, s19, s20, s21, s22, s23, s24, s25, s26, s27, s28, s29, s30, s31, s32, s33, s34, s35, x36, x37, x38, x39, x40, x41, x42, x43, x44, x45, x46, x47, x48], defers := dd } w') :
    Code.wpIn (wideAt none) 0 Try.prog onC Q { tmps := #[.slice av k cv, s1, s2, .pointer (some ⟨ob, 0, none⟩), s4, s5, .int .i64 f, s7, s8, s9, s10, s11, s12, s13, s14, s15, s16, s17, s18, s19, s20, s21, s22, s23, s24, s25, s26, s27, s28, s29, s30, s31, s32, s33, s34, s35, s36, s37, s38, s39, s40, s41, s42, s43, s44, s45, s46, s47, s48], defers := dd } A := by
  have HQ := Lib.hid hQ
  clear hQ
  conv => arg 4; whnf
  refine wpIn_region_invG mixed (by kernel_rfl) (fun d_ a_ w' => ∃ x36 x37 x38 x39 x40 x41 x42 x43 x44 x45 x46 x47 x48, a_ = { tmps := #[.slice av k cv, s1, s2, .pointer (some ⟨ob, 0, none⟩), s4, s5, .int .i64 f, s7, s8, s9, s10, s11, s12, s13, s14, s15, s16, s17, s18, s19, s20, s21, s22, s23, s24, s25, s26, s27, s28, s29, s30, s31, s32, s33, s34, s35, x36, x37, x38, x39, x40, x41, x42, x43, x44, x45, x46, x47, x48], defers := dd } ∧ OnF A av k cv f (.func (.func 98) #[] #[.pointer (some ⟨pb, 0, none⟩), .pointer (some ⟨yb, 0, none⟩), .pointer (some ⟨ob, 0, none⟩)]) App Res d_ x36 x37 x38 x39 x40 x41 x42 x43 x44 x45 x46 x47 x48 w') ?_ ?_ ?_
  · refine ⟨s36, s37, s38, s39, s40, s41, s42, s43, s44, s45, s46, s47, s48, rfl, ?_⟩
    constructor <;> first | (intro h; cases h; done) | (intro _; exact (Below.refl _ A).drew)
  · refine ⟨?_, ?_, ?_, ?_, ?_, ?_, ?_, ?_, ?_, ?_, ?_, ?_, ?_, trivial⟩
    all_goals
      rintro d_ a_ w1 K hd_ hdep ⟨x36, x37, x38, x39, x40, x41, x42, x43, x44, x45, x46, x47, x48, rfl, F⟩ HK
      simp [Region.binds] at hdep
    · have HF : Hid (OnF A av k cv f (.func (.func 98) #[] #[.pointer (some ⟨pb, 0, none⟩), .pointer (some ⟨yb, 0, none⟩), .pointer (some ⟨ob, 0, none⟩)]) App Res (upd d_ 0) (.int .i64 f) x37 x38 x39 x40 x41 x42 x43 x44 x45 x46 x47 x48 w1) := ⟨F.o10, F.o9, F.o8, F.o11, F.o12, fun _ => rfl, F.f1, F.f2, F.f3, F.f4, F.f5, F.f6, F.f7, F.f8, F.bl, F.ap, F.f10, F.f11, F.f12⟩
      clear F
      go_simp
      exact HK.out _ _ ⟨_, _, _, _, _, _, _, _, _, _, _, _, _, rfl, HF.out⟩
    · have HF : Hid (OnF A av k cv f (.func (.func 98) #[] #[.pointer (some ⟨pb, 0, none⟩), .pointer (some ⟨yb, 0, none⟩), .pointer (some ⟨ob, 0, none⟩)]) App Res (upd d_ 1) x36 (.slice av k cv) x38 x39 x40 x41 x42 x43 x44 x45 x46 x47 x48 w1) := ⟨F.o10, F.o9, F.o8, F.o11, F.o12, F.f0, fun _ => rfl, F.f2, F.f3, F.f4, F.f5, F.f6, F.f7, F.f8, F.bl, F.ap, F.f10, F.f11, F.f12⟩
      clear F
      go_simp
      exact HK.out _ _ ⟨_, _, _, _, _, _, _, _, _, _, _, _, _, rfl, HF.out⟩
    · obtain rfl := F.f1 (by simp [hdep])
      have HF : Hid (OnF A av k cv f (.func (.func 98) #[] #[.pointer (some ⟨pb, 0, none⟩), .pointer (some ⟨yb, 0, none⟩), .pointer (some ⟨ob, 0, none⟩)]) App Res (upd d_ 2) x36 (.slice av k cv) (.int .i64 k) x39 x40 x41 x42 x43 x44 x45 x46 x47 x48 w1) := ⟨F.o10, F.o9, F.o8, F.o11, F.o12, F.f0, F.f1, fun _ => rfl, F.f3, F.f4, F.f5, F.f6, F.f7, F.f8, F.bl, F.ap, F.f10, F.f11, F.f12⟩
      clear F
      go_simp
      exact HK.out _ _ ⟨_, _, _, _, _, _, _, _, _, _, _, _, _, rfl, HF.out⟩
    · obtain rfl := F.f0 (by simp [hdep])
      obtain rfl := F.f2 (by simp [hdep])
      have HF : Hid (OnF A av k cv f (.func (.func 98) #[] #[.pointer (some ⟨pb, 0, none⟩), .pointer (some ⟨yb, 0, none⟩), .pointer (some ⟨ob, 0, none⟩)]) App Res (upd d_ 3) (.int .i64 f) x37 (.int .i64 k) (.bool true) x40 x41 x42 x43 x44 x45 x46 x47 x48 w1) := ⟨F.o10, F.o9, F.o8, F.o11, F.o12, F.f0, F.f1, F.f2, fun _ => rfl, F.f4, F.f5, F.f6, F.f7, F.f8, F.bl, F.ap, F.f10, F.f11, F.f12⟩
      clear F
      go_simp
      exact HK.out _ _ ⟨_, _, _, _, _, _, _, _, _, _, _, _, _, rfl, HF.out⟩
    · obtain rfl := F.f3 (by simp [hdep])
      have HF : Hid (OnF A av k cv f (.func (.func 98) #[] #[.pointer (some ⟨pb, 0, none⟩), .pointer (some ⟨yb, 0, none⟩), .pointer (some ⟨ob, 0, none⟩)]) App Res (upd d_ 4) x36 x37 x38 (.bool true) (.bool true) x41 x42 x43 x44 x45 x46 x47 x48 w1) := ⟨F.o10, F.o9, F.o8, F.o11, F.o12, F.f0, F.f1, F.f2, F.f3, fun _ => rfl, F.f5, F.f6, F.f7, F.f8, F.bl, F.ap, F.f10, F.f11, F.f12⟩
      clear F
      go_simp
      exact HK.out _ _ ⟨_, _, _, _, _, _, _, _, _, _, _, _, _, rfl, HF.out⟩
    · have n10 := F.n10 (.inl hd_)
      have kc : w1.cell? ⟨ob, 0, none⟩ = some (.func (.func 98) #[] #[.pointer (some ⟨pb, 0, none⟩), .pointer (some ⟨yb, 0, none⟩), .pointer (some ⟨ob, 0, none⟩)]) := by
        cases e9 : d_ 9 with
        | false => exact ko.out w1 (F.bl e9)
        | true => exact ko'.out _ w1 (F.ap e9 n10)
      obtain rfl := F.f4 (by simp [hdep])
      have HF : Hid (OnF A av k cv f (.func (.func 98) #[] #[.pointer (some ⟨pb, 0, none⟩), .pointer (some ⟨yb, 0, none⟩), .pointer (some ⟨ob, 0, none⟩)]) App Res (upd d_ 5) x36 x37 x38 x39 (.bool true) (.func (.func 98) #[] #[.pointer (some ⟨pb, 0, none⟩), .pointer (some ⟨yb, 0, none⟩), .pointer (some ⟨ob, 0, none⟩)]) x42 x43 x44 x45 x46 x47 x48 w1) := ⟨fun h => ⟨(F.o10 h).1, rfl⟩, F.o9, F.o8, F.o11, F.o12, F.f0, F.f1, F.f2, F.f3, F.f4, fun _ => rfl, F.f6, F.f7, F.f8, F.bl, F.ap, F.f10, F.f11, F.f12⟩
      clear F
      go_simp
      exact HK.out _ _ ⟨_, _, _, _, _, _, _, _, _, _, _, _, _, rfl, HF.out⟩
    · obtain rfl := F.f4 (by simp [hdep])
      have HF : Hid (OnF A av k cv f (.func (.func 98) #[] #[.pointer (some ⟨pb, 0, none⟩), .pointer (some ⟨yb, 0, none⟩), .pointer (some ⟨ob, 0, none⟩)]) App Res (upd d_ 6) x36 x37 x38 x39 (.bool true) x41 (.slice av k cv) x43 x44 x45 x46 x47 x48 w1) := ⟨F.o10, fun h => ⟨(F.o9 h).1, rfl⟩, F.o8, F.o11, F.o12, F.f0, F.f1, F.f2, F.f3, F.f4, F.f5, fun _ => rfl, F.f7, F.f8, F.bl, F.ap, F.f10, F.f11, F.f12⟩
      clear F
      go_simp
      exact HK.out _ _ ⟨_, _, _, _, _, _, _, _, _, _, _, _, _, rfl, HF.out⟩
    · obtain rfl := F.f4 (by simp [hdep])
      have HF : Hid (OnF A av k cv f (.func (.func 98) #[] #[.pointer (some ⟨pb, 0, none⟩), .pointer (some ⟨yb, 0, none⟩), .pointer (some ⟨ob, 0, none⟩)]) App Res (upd d_ 7) x36 x37 x38 x39 (.bool true) x41 x42 (.int .i64 f) x44 x45 x46 x47 x48 w1) := ⟨F.o10, F.o9, fun _ => rfl, F.o11, F.o12, F.f0, F.f1, F.f2, F.f3, F.f4, F.f5, F.f6, fun _ => rfl, F.f8, F.bl, F.ap, F.f10, F.f11, F.f12⟩
      clear F
      go_simp
      exact HK.out _ _ ⟨_, _, _, _, _, _, _, _, _, _, _, _, _, rfl, HF.out⟩
    · have n9 := F.n9 hd_
      have n10 := F.n10 (.inr (.inl n9))
      obtain rfl := F.f4 (by simp [hdep])
      obtain rfl := F.f7 (by simp [hdep])
      have HF : Hid (OnF A av k cv f (.func (.func 98) #[] #[.pointer (some ⟨pb, 0, none⟩), .pointer (some ⟨yb, 0, none⟩), .pointer (some ⟨ob, 0, none⟩)]) App Res (upd d_ 8) x36 x37 x38 x39 (.bool true) x41 x42 (.int .i64 f) (.slice (some ⟨w1.heap.size, 0, none⟩) 1 1) x45 x46 x47 x48 (w1.alloc (.cells #[.int .i64 f] 3))) := ⟨F.o10, fun h => ⟨rfl, (F.o9 h).2⟩, fun _ => (show _ from (by simp [hdep] : d_ 7 = true)), F.o11, F.o12, F.f0, F.f1, F.f2, F.f3, F.f4, F.f5, F.f6, F.f7, fun _ _ => ⟨_, rfl, World.alloc_heap_new w1 _⟩, fun h => (F.bl n9).alloc (F.bl n9).size _, fun h => (by have h2 : d_ 9 = true := h; rw [n9] at h2; cases h2), fun h => (by have h2 : d_ 10 = true := h; rw [n10] at h2; cases h2), F.f11, F.f12⟩
      clear F
      go_simp
      exact HK.out _ _ ⟨_, _, _, _, _, _, _, _, _, _, _, _, _, rfl, HF.out⟩
    · have n9 : d_ 9 = false := hd_
      have n10 := F.n10 (.inr (.inl n9))
      obtain rfl := F.f4 (by simp [hdep])
      obtain rfl := F.f6 (by simp [hdep])
      obtain ⟨g, e44, hg⟩ := F.f8 (by simp [hdep]) n9
      subst e44
      obtain ⟨v', w', hr, hap⟩ := kap.out w1 g (F.bl n9) hg
      rw [if_pos (by rfl)]
      refine wpIn_append_run (.tmp 42) (.tmp 44) 76 rfl _ _ _ _ rfl rfl hr ?_
      exact HK.out _ _ ⟨_, _, _, _, _, _, _, _, _, _, _, _, _, rfl, ⟨fun h => ⟨rfl, (F.o10 h).2⟩, fun _ => ⟨(show _ from (by simp [hdep] : d_ 8 = true)), (show _ from (by simp [hdep] : d_ 6 = true))⟩, F.o8, F.o11, F.o12, F.f0, F.f1, F.f2, F.f3, F.f4, F.f5, F.f6, F.f7, fun _ h => (by simp [upd] at h), fun h => (by simp [upd] at h), fun _ _ => hap, fun h => (by have h2 : d_ 10 = true := h; rw [n10] at h2; cases h2), F.f11, F.f12⟩⟩
    · have n10 : d_ 10 = false := hd_
      obtain rfl := F.f4 (by simp [hdep])
      obtain rfl := F.f5 (by simp [hdep])
      have hc := kon.out _ w1 (F.ap (by simp [hdep]) n10)
      have HF := Lib.hid F
      clear F
      go_simp
      refine ⟨trivial, rfl, hc.mono ?_⟩
      rintro e w5 ⟨r, rfl, hres⟩
      exact HK.out _ _ ⟨_, _, _, _, _, _, _, _, _, _, _, _, _, rfl, ⟨fun _ => ⟨(show _ from (by simp [hdep] : d_ 9 = true)), (show _ from (by simp [hdep] : d_ 5 = true))⟩, HF.out.o9, HF.out.o8, fun _ => rfl, HF.out.o12, HF.out.f0, HF.out.f1, HF.out.f2, HF.out.f3, HF.out.f4, HF.out.f5, HF.out.f6, HF.out.f7, fun _ h => (by have h2 : d_ 9 = false := h; simp [hdep] at h2), fun h => (by have h2 : d_ 9 = false := h; simp [hdep] at h2), fun _ h => (by simp [upd] at h), fun _ => ⟨r, rfl, hres⟩, fun h => (by have h2 : d_ 10 = true := HF.out.o11 h; rw [n10] at h2; cases h2), HF.out.f12⟩⟩
    · obtain rfl := F.f4 (by simp [hdep])
      obtain ⟨r, e46, hres⟩ := F.f10 (by simp [hdep])
      subst e46
      have HF : Hid (OnF A av k cv f (.func (.func 98) #[] #[.pointer (some ⟨pb, 0, none⟩), .pointer (some ⟨yb, 0, none⟩), .pointer (some ⟨ob, 0, none⟩)]) App Res (upd d_ 11) x36 x37 x38 x39 (.bool true) x41 x42 x43 x44 x45 (.bool r) (.bool (!r)) x48 w1) := ⟨F.o10, F.o9, F.o8, fun _ => (show _ from (by simp [hdep] : d_ 10 = true)), fun _ => rfl, F.f0, F.f1, F.f2, F.f3, F.f4, F.f5, F.f6, F.f7, F.f8, F.bl, F.ap, F.f10, fun _ => ⟨r, rfl, rfl⟩, fun h => (by have h2 : d_ 11 = true := F.o12 h; have h3 : d_ 11 = false := hd_; rw [h3] at h2; cases h2)⟩
      clear F hres
      go_simp
      exact HK.out _ _ ⟨_, _, _, _, _, _, _, _, _, _, _, _, _, rfl, HF.out⟩
    · obtain rfl := F.f4 (by simp [hdep])
      obtain ⟨r, e46, e47⟩ := F.f11 (by simp [hdep])
      subst e47
      have HF : Hid (OnF A av k cv f (.func (.func 98) #[] #[.pointer (some ⟨pb, 0, none⟩), .pointer (some ⟨yb, 0, none⟩), .pointer (some ⟨ob, 0, none⟩)]) App Res (upd d_ 12) x36 x37 x38 x39 (.bool true) x41 x42 x43 x44 x45 x46 (.bool (!r)) (.bool (!r)) w1) := ⟨F.o10, F.o9, F.o8, F.o11, fun _ => (show _ from (by simp [hdep] : d_ 11 = true)), F.f0, F.f1, F.f2, F.f3, F.f4, F.f5, F.f6, F.f7, F.f8, F.bl, F.ap, F.f10, F.f11, fun _ => rfl⟩
      clear F e46
      go_simp
      exact HK.out _ _ ⟨_, _, _, _, _, _, _, _, _, _, _, _, _, rfl, HF.out⟩
  · rintro d_ a_ w1 hall ⟨x36, x37, x38, x39, x40, x41, x42, x43, x44, x45, x46, x47, x48, rfl, F⟩
    have hall' : ∀ k, k < 13 → d_ k = true := hall
    obtain ⟨r, e46, hres⟩ := F.f10 (hall' 10 (by decide))
    obtain ⟨r', e46', e47⟩ := F.f11 (hall' 11 (by decide))
    rw [e46] at e46'
    cases e46'
    exact HQ.out _ _ _ _ _ _ _ _ _ _ _ _ _ r w1 hres ((F.f12 (hall' 12 (by decide))).symm.trans e47)

end Go.Proofs.Ytnfhlbmapfoifaa
