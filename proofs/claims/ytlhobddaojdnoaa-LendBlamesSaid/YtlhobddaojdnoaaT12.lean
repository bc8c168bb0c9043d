/- The reference: Misplaced. -/
import Derived.Test.YtlhobddaojdnoaaTC
import Derived.Deep.DeepCutAuto
namespace Go.Proofs.Ytlhobddaojdnoaa
open Go.RowKit
set_option linter.unusedVariables false

theorem res_c37t {fn : Func} {p u : Tmp} (h : fn.results = #[.cell p 37, .tmp u]) (tmps : Array Value) {w : World} {bp : Nat} {x y : Int} {v : Value} (hp : tmps.getD p undef = .pointer (some ⟨bp, 0, none⟩)) (hu : tmps.getD u undef = v)
    (h0 : w.cell? ⟨bp, 0, none⟩ = some (.int .i64 x)) (h1 : w.cell? ⟨bp, 1, none⟩ = some (.int .i64 y)) : (results fn tmps).run Try.prog w = .ok (.tuple #[.agg #[.int .i64 x, .int .i64 y], v]) w := by
  have hp' : tmps[p]?.getD undef = .pointer (some ⟨bp, 0, none⟩) := by simpa using hp
  have hu' : tmps[u]?.getD undef = v := by simpa using hu
  simp [results, h, hp', hu', h0, h1, go_sem]
theorem bl_alloc {w u : World} (h : Below w.heap.size w u) (o : Obj) : Below w.heap.size w (u.alloc o) := h.alloc h.size _
theorem away_lt {c : Cab} {s : List Int} (h : s.length = c.homes.length) (h5 : c.homes.length ≤ 5) : away c s ≤ 5 := by
  rw [← awayTo_all h]; exact awayTo_le c s _ (by omega)
theorem fold_min_le : ∀ (l : List Nat) (a b : Nat), a ≤ b → l.foldl min a ≤ b
  | [], a, b, h => h
  | x :: l, a, b, h => fold_min_le l (min a x) b (by omega)
theorem fold_max_le : ∀ (l : List Nat) (a b : Nat), a ≤ b → (∀ x ∈ l, x ≤ b) → l.foldl max a ≤ b
  | [], a, b, h, _ => h
  | x :: l, a, b, h, hl => fold_max_le l (max a x) b (by have := hl x (by simp); omega) (fun y hy => hl y (by simp [hy]))
theorem headD_le {l : List Nat} {b : Nat} (h : ∀ x ∈ l, x ≤ b) : l.headD 0 ≤ b := by
  cases l with
  | nil => simp
  | cons x l => exact h x (by simp)
theorem awayL_le {c : Cab} (hv : c.valid = true) : ∀ x ∈ awayL c, x ≤ 5 := by
  intro x hx
  obtain ⟨y, hy, rfl⟩ := List.mem_map.1 hx
  have hs := truth_st hv (r := anyRule) (ls := c.loans) (W := c.wrong) (t := y.1) (bs := y.2) hy
  exact away_lt hs.len (valid_homes hv)
theorem lohi_le {c : Cab} (hv : c.valid = true) (k : Nat) : loU (awayL c) k ≤ 5 ∧ hiU (awayL c) k ≤ 5 := by
  have h := awayL_le hv
  have h0 := headD_le h
  exact ⟨fold_min_le _ _ _ h0, fold_max_le _ _ _ h0 (fun x hx => h x (List.mem_of_mem_take hx))⟩
/-- What is known in the midst of the region. -/
structure MisF (W : World) (vc vl vs : Value) (g : Nat) (A : Nat) (d : Nat → Bool) (x6 x18 x19 x20 x21 x22 x23 x24 x25 x26 x27 x28 x29 x30 : Value) (w : World) : Prop where
  same : Below W.heap.size W w
  f0 : d 0 = true → x18 = vc
  f1 : d 1 = true → x19 = vl
  f2 : d 2 = true → x20 = .pointer (some ⟨g, 0, none⟩)
  f3 : d 3 = true → x21 = .pointer (some ⟨g, 0, none⟩)
  f4 : d 4 = true → x22 = vs
  f5 : d 5 = true → x23 = .int .i64 A
  f6 : d 6 = true → x24 = vc
  f7 : d 7 = true → x25 = vl
  f8 : d 8 = true → x26 = .pointer (some ⟨g, 0, none⟩)
  f9 : d 9 = true → x27 = .pointer (some ⟨g, 0, none⟩)
  f10 : d 10 = true → x28 = vs
  f11 : d 11 = true → x29 = .int .i64 A
  f12 : d 12 = true → x30 = .agg #[.int .i64 A, .int .i64 A]
  o14 : d 14 = true → d 13 = true
  f13 : d 13 = true → ∃ b, x6 = .pointer (some ⟨b, 0, none⟩) ∧ W.heap.size ≤ b ∧ w.heap[b]? = some (.cells (if d 14 then #[.int .i64 A, .int .i64 A] else #[.int .i64 0, .int .i64 0]) 37 (0, 0))
section
variable {W : World} {vc vl vs : Value} {g A : Nat} {d : Nat → Bool} {x6 x18 x19 x20 x21 x22 x23 x24 x25 x26 x27 x28 x29 x30 : Value} {w w' : World}
theorem MisF.below (F : MisF W vc vl vs g A d x6 x18 x19 x20 x21 x22 x23 x24 x25 x26 x27 x28 x29 x30 w) (hb : Below w.heap.size w w') : MisF W vc vl vs g A d x6 x18 x19 x20 x21 x22 x23 x24 x25 x26 x27 x28 x29 x30 w' := by
  refine ⟨F.same.trans (hb.mono F.same.size), F.f0, F.f1, F.f2, F.f3, F.f4, F.f5, F.f6, F.f7, F.f8, F.f9, F.f10, F.f11, F.f12, F.o14, fun h => ?_⟩
  obtain ⟨b, h1, h2, h3⟩ := F.f13 h
  exact ⟨b, h1, h2, (hb.block b (heap_lt h3)).trans h3⟩
theorem MisF.s0 (F : MisF W vc vl vs g A d x6 x18 x19 x20 x21 x22 x23 x24 x25 x26 x27 x28 x29 x30 w) : MisF W vc vl vs g A (upd d 0) x6 (vc) x19 x20 x21 x22 x23 x24 x25 x26 x27 x28 x29 x30 w :=
  ⟨F.same, fun _ => rfl, F.f1, F.f2, F.f3, F.f4, F.f5, F.f6, F.f7, F.f8, F.f9, F.f10, F.f11, F.f12, F.o14, F.f13⟩
theorem MisF.s1 (F : MisF W vc vl vs g A d x6 x18 x19 x20 x21 x22 x23 x24 x25 x26 x27 x28 x29 x30 w) : MisF W vc vl vs g A (upd d 1) x6 x18 (vl) x20 x21 x22 x23 x24 x25 x26 x27 x28 x29 x30 w :=
  ⟨F.same, F.f0, fun _ => rfl, F.f2, F.f3, F.f4, F.f5, F.f6, F.f7, F.f8, F.f9, F.f10, F.f11, F.f12, F.o14, F.f13⟩
theorem MisF.s2 (F : MisF W vc vl vs g A d x6 x18 x19 x20 x21 x22 x23 x24 x25 x26 x27 x28 x29 x30 w) : MisF W vc vl vs g A (upd d 2) x6 x18 x19 (.pointer (some ⟨g, 0, none⟩)) x21 x22 x23 x24 x25 x26 x27 x28 x29 x30 w :=
  ⟨F.same, F.f0, F.f1, fun _ => rfl, F.f3, F.f4, F.f5, F.f6, F.f7, F.f8, F.f9, F.f10, F.f11, F.f12, F.o14, F.f13⟩
theorem MisF.s3 (F : MisF W vc vl vs g A d x6 x18 x19 x20 x21 x22 x23 x24 x25 x26 x27 x28 x29 x30 w) : MisF W vc vl vs g A (upd d 3) x6 x18 x19 x20 (.pointer (some ⟨g, 0, none⟩)) x22 x23 x24 x25 x26 x27 x28 x29 x30 w :=
  ⟨F.same, F.f0, F.f1, F.f2, fun _ => rfl, F.f4, F.f5, F.f6, F.f7, F.f8, F.f9, F.f10, F.f11, F.f12, F.o14, F.f13⟩
theorem MisF.s4 (F : MisF W vc vl vs g A d x6 x18 x19 x20 x21 x22 x23 x24 x25 x26 x27 x28 x29 x30 w) : MisF W vc vl vs g A (upd d 4) x6 x18 x19 x20 x21 (vs) x23 x24 x25 x26 x27 x28 x29 x30 w :=
  ⟨F.same, F.f0, F.f1, F.f2, F.f3, fun _ => rfl, F.f5, F.f6, F.f7, F.f8, F.f9, F.f10, F.f11, F.f12, F.o14, F.f13⟩
theorem MisF.s5 (F : MisF W vc vl vs g A d x6 x18 x19 x20 x21 x22 x23 x24 x25 x26 x27 x28 x29 x30 w) : MisF W vc vl vs g A (upd d 5) x6 x18 x19 x20 x21 x22 (.int .i64 A) x24 x25 x26 x27 x28 x29 x30 w :=
  ⟨F.same, F.f0, F.f1, F.f2, F.f3, F.f4, fun _ => rfl, F.f6, F.f7, F.f8, F.f9, F.f10, F.f11, F.f12, F.o14, F.f13⟩
theorem MisF.s6 (F : MisF W vc vl vs g A d x6 x18 x19 x20 x21 x22 x23 x24 x25 x26 x27 x28 x29 x30 w) : MisF W vc vl vs g A (upd d 6) x6 x18 x19 x20 x21 x22 x23 (vc) x25 x26 x27 x28 x29 x30 w :=
  ⟨F.same, F.f0, F.f1, F.f2, F.f3, F.f4, F.f5, fun _ => rfl, F.f7, F.f8, F.f9, F.f10, F.f11, F.f12, F.o14, F.f13⟩
theorem MisF.s7 (F : MisF W vc vl vs g A d x6 x18 x19 x20 x21 x22 x23 x24 x25 x26 x27 x28 x29 x30 w) : MisF W vc vl vs g A (upd d 7) x6 x18 x19 x20 x21 x22 x23 x24 (vl) x26 x27 x28 x29 x30 w :=
  ⟨F.same, F.f0, F.f1, F.f2, F.f3, F.f4, F.f5, F.f6, fun _ => rfl, F.f8, F.f9, F.f10, F.f11, F.f12, F.o14, F.f13⟩
theorem MisF.s8 (F : MisF W vc vl vs g A d x6 x18 x19 x20 x21 x22 x23 x24 x25 x26 x27 x28 x29 x30 w) : MisF W vc vl vs g A (upd d 8) x6 x18 x19 x20 x21 x22 x23 x24 x25 (.pointer (some ⟨g, 0, none⟩)) x27 x28 x29 x30 w :=
  ⟨F.same, F.f0, F.f1, F.f2, F.f3, F.f4, F.f5, F.f6, F.f7, fun _ => rfl, F.f9, F.f10, F.f11, F.f12, F.o14, F.f13⟩
theorem MisF.s9 (F : MisF W vc vl vs g A d x6 x18 x19 x20 x21 x22 x23 x24 x25 x26 x27 x28 x29 x30 w) : MisF W vc vl vs g A (upd d 9) x6 x18 x19 x20 x21 x22 x23 x24 x25 x26 (.pointer (some ⟨g, 0, none⟩)) x28 x29 x30 w :=
  ⟨F.same, F.f0, F.f1, F.f2, F.f3, F.f4, F.f5, F.f6, F.f7, F.f8, fun _ => rfl, F.f10, F.f11, F.f12, F.o14, F.f13⟩
theorem MisF.s10 (F : MisF W vc vl vs g A d x6 x18 x19 x20 x21 x22 x23 x24 x25 x26 x27 x28 x29 x30 w) : MisF W vc vl vs g A (upd d 10) x6 x18 x19 x20 x21 x22 x23 x24 x25 x26 x27 (vs) x29 x30 w :=
  ⟨F.same, F.f0, F.f1, F.f2, F.f3, F.f4, F.f5, F.f6, F.f7, F.f8, F.f9, fun _ => rfl, F.f11, F.f12, F.o14, F.f13⟩
theorem MisF.s11 (F : MisF W vc vl vs g A d x6 x18 x19 x20 x21 x22 x23 x24 x25 x26 x27 x28 x29 x30 w) : MisF W vc vl vs g A (upd d 11) x6 x18 x19 x20 x21 x22 x23 x24 x25 x26 x27 x28 (.int .i64 A) x30 w :=
  ⟨F.same, F.f0, F.f1, F.f2, F.f3, F.f4, F.f5, F.f6, F.f7, F.f8, F.f9, F.f10, fun _ => rfl, F.f12, F.o14, F.f13⟩
theorem MisF.s12 (F : MisF W vc vl vs g A d x6 x18 x19 x20 x21 x22 x23 x24 x25 x26 x27 x28 x29 x30 w) : MisF W vc vl vs g A (upd d 12) x6 x18 x19 x20 x21 x22 x23 x24 x25 x26 x27 x28 x29 (.agg #[.int .i64 A, .int .i64 A]) w :=
  ⟨F.same, F.f0, F.f1, F.f2, F.f3, F.f4, F.f5, F.f6, F.f7, F.f8, F.f9, F.f10, F.f11, fun _ => rfl, F.o14, F.f13⟩
theorem MisF.s13 (F : MisF W vc vl vs g A d x6 x18 x19 x20 x21 x22 x23 x24 x25 x26 x27 x28 x29 x30 w) (h14 : d 14 = false) : MisF W vc vl vs g A (upd d 13) (.pointer (some ⟨w.heap.size, 0, none⟩)) x18 x19 x20 x21 x22 x23 x24 x25 x26 x27 x28 x29 x30 (w.alloc (.cells #[.int .i64 0, .int .i64 0] 37)) := by
  refine ⟨F.same.alloc F.same.size _, F.f0, F.f1, F.f2, F.f3, F.f4, F.f5, F.f6, F.f7, F.f8, F.f9, F.f10, F.f11, F.f12, fun _ => rfl, fun _ => ⟨w.heap.size, rfl, F.same.size, ?_⟩⟩
  have e : upd d 13 14 = false := h14
  rw [e]
  exact World.alloc_heap_new w _
theorem MisF.s14 {b : Nat} (F : MisF W vc vl vs g A d (.pointer (some ⟨b, 0, none⟩)) x18 x19 x20 x21 x22 x23 x24 x25 x26 x27 x28 x29 x30 w) (h13 : d 13 = true) (hb : W.heap.size ≤ b) (hh : w.heap[b]? = some (.cells #[.int .i64 0, .int .i64 0] 37 (0, 0))) :
    MisF W vc vl vs g A (upd d 14) (.pointer (some ⟨b, 0, none⟩)) x18 x19 x20 x21 x22 x23 x24 x25 x26 x27 x28 x29 x30 ((w.setCell ⟨b, 0, none⟩ (.int .i64 A)).setCell ⟨b, 1, none⟩ (.int .i64 A)) := by
  refine ⟨(F.same.setCell hb _).setCell hb _, F.f0, F.f1, F.f2, F.f3, F.f4, F.f5, F.f6, F.f7, F.f8, F.f9, F.f10, F.f11, F.f12, fun _ => h13, fun _ => ⟨b, rfl, hb, ?_⟩⟩
  rw [heap_setCell_at (heap_setCell_at hh _) _]
  simp [upd]
end
set_option maxRecDepth 100000 in
set_option maxHeartbeats 2000000 in
theorem rmisplaced_any {c : Cab} {ah : Option Addr} {ch : Nat} {al : Option Addr} {cl : Nat} {w : World} (hg : Given w c ah ch al cl) (hb : c.valid = true → backN c.loans ≤ 4) :
    Calls Try.prog 28 #[c.v ah ch al cl] w fun e w' => e = .returned (.tuple #[.agg #[.int .i64 (misplacedE c).1.1, .int .i64 (misplacedE c).1.2], .int .i64 (misplacedE c).2]) ∧ Below w.heap.size w w' := by
  have hb1 : Below w.heap.size w ((w.alloc (.cells (c.cells ah ch al cl) 25)).alloc (.cells #[.int .i64 0, .int .i64 0] 37)) := ((Below.refl _ w).alloc (Nat.le_refl _) _).alloc (by simp) _
  have HB1 := Lib.hid hb1
  have HG1 := Lib.hid (hg.mono hb1)
  have HBK := Lib.hid hb
  have hA := Lib.hid (heap_alloc2_0 w (.cells (c.cells ah ch al cl) 25) (.cells #[.int .i64 0, .int .i64 0] 37))
  have hA2 : Hid (((w.alloc (.cells (c.cells ah ch al cl) 25)).alloc (.cells #[.int .i64 0, .int .i64 0] 37)).heap[w.heap.size + 1]? = some (.cells #[.int .i64 0, .int .i64 0] 37 (0, 0))) := by
    have := World.alloc_heap_new (w.alloc (.cells (c.cells ah ch al cl) 25)) (.cells #[.int .i64 0, .int .i64 0] 37)
    rwa [World.size_alloc] at this
  have hn16 := hg.hh
  have hl30 := hg.hl
  clear hb1 hg hb
  by_cases h0 : openE c true = 0
  · have hq : (openE c true == 0) = true := by simp [h0]
    have hq' : (openE c true != 0) = false := by simp [h0]
    have H0 := Lib.hid h0
    obtain ⟨hv, _, hT⟩ := openE_zero h0
    have HV := Lib.hid hv
    have HT0 : Hid (truths c ≠ []) := hT
    have hnh := valid_homes hv
    have hnl := valid_loans hv
    have HVS := Lib.hid (valid_slots hv)
    have hE : Hid (misplacedE c = (((loU (awayL c) (awayL c).length : Int), (hiU (awayL c) (awayL c).length : Int)), 0)) := by
      have hne : awayL c ≠ [] := by simp [awayL, hT]
      rw [Hid, loU_all hne, hiU_all hne]; exact misplaced_yes hv hT
    have HTP : Hid (0 < (truths c).length) := List.length_pos_iff.2 hT
    have hTl := truths_count (c := c) HVS.out.2 (HBK.out hv)
    clear h0 hv hT
    go_enter Try.func28, Try.ntmps28
    go_wp2_with fail
    refine (ropen_any HG1.out HBK.out true).mono ?_
    rintro e w4 ⟨v, rfl, hO, hb4⟩
    have hO := hO H0.out
    obtain ⟨c0, c1, c2, c3⟩ := cellsN ((hb4.block _ (by simp; omega)).trans hA.out)
    obtain ⟨g, cap, rfl, hcap, hmax⟩ := hO.some HT0.out
    have HO := Lib.hid hO
    have HB4 := Lib.hid hb4
    clear hO hb4
    go_wp2_with fail
    have hz4 := HB4.out.size
    have h2 : w4.heap[w.heap.size + 1]? = some (.cells #[.int .i64 0, .int .i64 0] 37 (0, 0)) := (HB4.out.block _ (by simp)).trans hA2.out
    obtain ⟨x, hx⟩ : ∃ x, (truths c)[0]? = some x := ⟨_, List.getElem?_eq_getElem HTP.out⟩
    obtain ⟨p, q1, q2, hp⟩ := HO.out.at rfl hx
    have hst := truth_at HV.out hx
    obtain ⟨a, cp, hpa, hpi⟩ := own_ints hp.1 rfl
    rw [hpa] at q1
    have hcap0 : 0 < (truths c).length := HTP.out
    have hGI : IsInts w4 ah c.homes := (HG1.out.mono HB4.out).hi
    have ha0 : Hid ((awayL c).headD 0 = away c x.1) := by
      have : (awayL c)[0]? = some (away c x.1) := by simp [awayL, hx]
      cases hl : awayL c with
      | nil => rw [hl] at this; simp at this
      | cons y l => rw [hl] at this; simp at this; exact this
    obtain ⟨A0, hA0⟩ : ∃ A0, away c x.1 = A0 := ⟨_, rfl⟩
    have HC : Hid (∀ W', Below w4.heap.size w4 W' → Calls Try.prog 73 #[c.v ah ch al cl, .slice a x.1.length cp] W' fun e w' => e = .returned (.int .i64 A0) ∧ Below W'.heap.size W' w') := fun W' h => hA0 ▸ away_any (hGI.mono h) (hpi.mono h) hst.len hnh
    rw [hA0] at ha0
    have KP : Hid (∀ w', Below w4.heap.size w4 w' → (w'.cell? ⟨w.heap.size, 0, none⟩ = some (.int .i64 c.slots) ∧ w'.cell? ⟨w.heap.size, 1, none⟩ = some (.slice ah c.homes.length ch) ∧ w'.cell? ⟨w.heap.size, 2, none⟩ = some (.int .i64 c.wrong) ∧ w'.cell? ⟨w.heap.size, 3, none⟩ = some (.slice al c.loans.length cl) ∧ w'.cell? ⟨g, 0, none⟩ = some (.slice a x.1.length cp) ∧ Below w4.heap.size w4 w')) :=
      fun w' h => ⟨cell_stays h c0, cell_stays h c1, cell_stays h c2, cell_stays h c3, cell_stays h (by simpa using q1), h⟩
    have HM := Lib.hid (And.intro c0 (And.intro c1 (And.intro c2 c3)))
    have H2 := Lib.hid h2
    have HGI := Lib.hid hGI
    clear c0 c1 c2 c3 h2 q1 q2 hpa hpi hp hst hx hA0 hGI
    go_cut [6] (fun s6 wx => ∃ b6 : Nat, s6 = .pointer (some ⟨b6, 0, none⟩) ∧ w4.heap.size ≤ b6 ∧ Hid (wx.heap[b6]? = some (.cells #[.int .i64 A0, .int .i64 A0] 37 (0, 0))) ∧ Below w4.heap.size w4 wx)
    case first =>
      refine wp_region_inv mixed (by kernel_rfl) (fun d a_ w' => ∃ x6 x18 x19 x20 x21 x22 x23 x24 x25 x26 x27 x28 x29 x30, a_ = { tmps := #[c.v ah ch al cl, .pointer (some ⟨w.heap.size, 0, none⟩), .pointer (some ⟨w.heap.size + 1, 0, none⟩), .int .i64 0, .slice (some ⟨g, 0, none⟩) (truths c).length cap, .int .i64 (openE c true), x6, undef, undef, .tuple #[.slice (some ⟨g, 0, none⟩) (truths c).length cap, .int .i64 (openE c true)], (.agg #[.int .i64 c.slots, .slice ah c.homes.length ch, .int .i64 c.wrong, .slice al c.loans.length cl]), .tuple #[.slice (some ⟨g, 0, none⟩) (truths c).length cap, .int .i64 (openE c true)], .slice (some ⟨g, 0, none⟩) (truths c).length cap, .int .i64 (openE c true), .int .i64 (openE c true), .bool false, undef, undef, x18, x19, x20, x21, x22, x23, x24, x25, x26, x27, x28, x29, x30, undef, undef, undef, undef, undef, undef, undef, undef, undef, undef, undef, undef, undef, undef, undef, undef, undef, undef, undef, undef, undef, undef, undef], defers := [] } ∧ MisF w4 (.agg #[.int .i64 c.slots, .slice ah c.homes.length ch, .int .i64 c.wrong, .slice al c.loans.length cl]) (.slice (some ⟨g, 0, none⟩) (truths c).length cap) (.slice a x.1.length cp) g A0 d x6 x18 x19 x20 x21 x22 x23 x24 x25 x26 x27 x28 x29 x30 w') ?_ ?_ ?_
      · exact ⟨undef, undef, undef, undef, undef, undef, undef, undef, undef, undef, undef, undef, undef, undef, rfl, by constructor <;> first | exact (Below.refl _ w4).drew | (intro h; cases h)⟩
      · refine ⟨?_, ?_, ?_, ?_, ?_, ?_, ?_, ?_, ?_, ?_, ?_, ?_, ?_, ?_, ?_, trivial⟩
        all_goals
          rintro d a_ w1 K hd hdep ⟨x6, x18, x19, x20, x21, x22, x23, x24, x25, x26, x27, x28, x29, x30, rfl, F⟩ HK
          simp [Region.binds] at hdep
          obtain ⟨q0, q1, q2, q3, q4, _⟩ := KP.out w1 F.same
        · have HF := Lib.hid (MisF.s0 F)
          clear F
          go_simp
          exact HK.out _ _ ⟨_, _, _, _, _, _, _, _, _, _, _, _, _, _, rfl, HF.out⟩
        · have HF := Lib.hid (MisF.s1 F)
          clear F
          go_simp
          exact HK.out _ _ ⟨_, _, _, _, _, _, _, _, _, _, _, _, _, _, rfl, HF.out⟩
        · obtain rfl := F.f1 hdep
          have HF := Lib.hid (MisF.s2 F)
          clear F
          go_simp
          exact HK.out _ _ ⟨_, _, _, _, _, _, _, _, _, _, _, _, _, _, rfl, HF.out⟩
        · obtain rfl := F.f2 hdep
          have HF := Lib.hid (MisF.s3 F)
          clear F
          go_simp
          exact HK.out _ _ ⟨_, _, _, _, _, _, _, _, _, _, _, _, _, _, rfl, HF.out⟩
        · obtain rfl := F.f3 hdep
          have HF := Lib.hid (MisF.s4 F)
          clear F
          go_simp
          exact HK.out _ _ ⟨_, _, _, _, _, _, _, _, _, _, _, _, _, _, rfl, HF.out⟩
        · obtain rfl := F.f0 hdep.1
          obtain rfl := F.f4 hdep.2
          have HF := Lib.hid F
          clear F q0 q1 q2 q3 q4
          go_simp
          refine (HC.out w1 HF.out.same).mono ?_
          rintro e w5 ⟨rfl, hb5⟩
          exact HK.out _ _ ⟨_, _, _, _, _, _, _, _, _, _, _, _, _, _, rfl, (HF.out.below hb5).s5⟩
        · have HF := Lib.hid (MisF.s6 F)
          clear F
          go_simp
          exact HK.out _ _ ⟨_, _, _, _, _, _, _, _, _, _, _, _, _, _, rfl, HF.out⟩
        · have HF := Lib.hid (MisF.s7 F)
          clear F
          go_simp
          exact HK.out _ _ ⟨_, _, _, _, _, _, _, _, _, _, _, _, _, _, rfl, HF.out⟩
        · obtain rfl := F.f7 hdep
          have HF := Lib.hid (MisF.s8 F)
          clear F
          go_simp
          exact HK.out _ _ ⟨_, _, _, _, _, _, _, _, _, _, _, _, _, _, rfl, HF.out⟩
        · obtain rfl := F.f8 hdep
          have HF := Lib.hid (MisF.s9 F)
          clear F
          go_simp
          exact HK.out _ _ ⟨_, _, _, _, _, _, _, _, _, _, _, _, _, _, rfl, HF.out⟩
        · obtain rfl := F.f9 hdep
          have HF := Lib.hid (MisF.s10 F)
          clear F
          go_simp
          exact HK.out _ _ ⟨_, _, _, _, _, _, _, _, _, _, _, _, _, _, rfl, HF.out⟩
        · obtain rfl := F.f6 hdep.1
          obtain rfl := F.f10 hdep.2.1
          have HF := Lib.hid F
          clear F q0 q1 q2 q3 q4
          go_simp
          refine (HC.out w1 HF.out.same).mono ?_
          rintro e w5 ⟨rfl, hb5⟩
          exact HK.out _ _ ⟨_, _, _, _, _, _, _, _, _, _, _, _, _, _, rfl, (HF.out.below hb5).s11⟩
        · obtain rfl := F.f5 hdep.1
          obtain rfl := F.f11 hdep.2
          have HF := Lib.hid (MisF.s12 F)
          clear F
          go_simp
          exact HK.out _ _ ⟨_, _, _, _, _, _, _, _, _, _, _, _, _, _, rfl, HF.out⟩
        · have h14 : d 14 = false := by
            cases e : d 14 with
            | false => rfl
            | true => have := F.o14 e; rw [hd] at this; cases this
          have HF := Lib.hid (F.s13 h14)
          clear F
          go_simp
          exact HK.out _ _ ⟨_, _, _, _, _, _, _, _, _, _, _, _, _, _, rfl, HF.out⟩
        · have h13 : d 13 = true := by simp [hdep]
          obtain ⟨b, rfl, hWb, hh⟩ := F.f13 h13
          obtain rfl := F.f12 (by simp [hdep])
          rw [hd] at hh
          have hh' : w1.heap[b]? = some (.cells #[.int .i64 0, .int .i64 0] 37 (0, 0)) := hh
          have k0 : w1.cell? ⟨b, 0, none⟩ = some (.int .i64 0) := by rw [cell_of_heap hh']; rfl
          have k1 : w1.cell? ⟨b, 1, none⟩ = some (.int .i64 0) := by rw [cell_of_heap hh']; rfl
          have r0 : ∀ k, w1.frozen? ⟨b, k, none⟩ = false := fun k => frozen_of_heap hh'
          have HF := Lib.hid (F.s14 h13 hWb hh')
          clear F hh hh' hdep
          go_simp
          exact HK.out _ _ ⟨_, _, _, _, _, _, _, _, _, _, _, _, _, _, rfl, HF.out⟩
      · rintro d a_ w1 hall ⟨x6, x18, x19, x20, x21, x22, x23, x24, x25, x26, x27, x28, x29, x30, rfl, F⟩
        have hall' : ∀ k, k < 15 → d k = true := hall
        obtain ⟨b, rfl, hWb, hh⟩ := F.f13 (hall' 13 (by decide))
        rw [hall' 14 (by decide)] at hh
        have HF := Lib.hid (And.intro F.same hh)
        clear F hall hall' hh
        go_wp2_with fail
        go_meet
        exact ⟨b, rfl, hWb, HF.out.2, HF.out.1⟩
    case rest =>
      obtain ⟨b6, rfl, hb6, hX6, hbc⟩ := hcut
      obtain ⟨wz, rfl⟩ : ∃ wz : World, wz = wc := ⟨_, rfl⟩
      go_wp2_with fail
      go_loopw [7] (fun i wr => ∃ k : Nat, k ≤ (truths c).length ∧ i = .int .i64 k ∧ Hid (wr.heap[b6]? = some (.cells #[.int .i64 (loU (awayL c) k : Nat), .int .i64 (hiU (awayL c) k : Nat)] 37 (0, 0))) ∧ Below w4.heap.size w4 wr) (fun i _ => (truths c).length - (intOf i).toNat)
      case atStart =>
        refine ⟨0, by omega, rfl, ?_, hbc⟩
        have e1 : loU (awayL c) 0 = A0 := ha0.out
        have e2 : hiU (awayL c) 0 = A0 := ha0.out
        rw [Hid, e1, e2]
        exact hX6.out
      case round =>
        obtain ⟨k, hk, rfl, HX, hbr⟩ := hrel
        obtain ⟨lo, hlo⟩ : ∃ lo, loU (awayL c) k = lo := ⟨_, rfl⟩
        obtain ⟨hi, hhi⟩ : ∃ hi, hiU (awayL c) k = hi := ⟨_, rfl⟩
        have hle := lohi_le HV.out k
        have hle1 := lohi_le HV.out (k + 1)
        have hX := HX.out
        rw [hlo, hhi] at hX hle
        have HLH := Lib.hid (And.intro hlo hhi)
        clear hlo hhi
        by_cases hlt : k < (truths c).length
        · obtain ⟨x2, hx2⟩ : ∃ x, (truths c)[k]? = some x := ⟨_, List.getElem?_eq_getElem hlt⟩
          obtain ⟨p, q1, q2, hp⟩ := (HO.out.below hbr).at rfl hx2
          have hst := truth_at HV.out hx2
          obtain ⟨a2, cp2, hpa, hpi⟩ := own_ints hp.1 rfl
          rw [hpa] at q1
          obtain ⟨A2, hA2⟩ : ∃ A2, away c x2.1 = A2 := ⟨_, rfl⟩
          have hA5 : A2 ≤ 5 := by rw [← hA2]; exact away_lt hst.len hnh
          have haw : (awayL c)[k]? = some A2 := by simp [awayL, hx2, hA2]
          have HC2 : Hid (∀ y : Aft wr.heap.size wr, Calls Try.prog 73 #[c.v ah ch al cl, .slice a2 x2.1.length cp2] y.v fun e w' => e = .returned (.int .i64 A2) ∧ Below y.v.heap.size y.v w') := fun y => hA2 ▸ away_any ((HGI.out.mono hbr).mono y.h) (hpi.mono y.h) hst.len hnh
          have HS := Lib.hid (And.intro (loU_succ haw) (hiU_succ haw))
          obtain ⟨c0, c1, c2, c3⟩ := HM.out
          have c0 := cell_stays hbr c0
          have c1 := cell_stays hbr c1
          have c2 := cell_stays hbr c2
          have c3 := cell_stays hbr c3
          have x0 := fun y : Aft wr.heap.size wr => cell_stays y.h c0
          have x1 := fun y : Aft wr.heap.size wr => cell_stays y.h c1
          have x2 := fun y : Aft wr.heap.size wr => cell_stays y.h c2
          have x3 := fun y : Aft wr.heap.size wr => cell_stays y.h c3
          have x4 := fun y : Aft wr.heap.size wr => cell_stays y.h q1
          clear hx2 hp hst hpa hpi hA2 haw q2
          have HXK := Lib.hid hX
          clear hX
          go_wp2_with fail
          refine wp_region_aft mixed (by kernel_rfl) ?_
          repeat (go_big_quiet_step ((go_at_call 73; exact calls_aft (HC2.out _))))
          refine wpQuiet_nil ?_
          rintro _ ⟨y, rfl⟩
          clear x0 x1 x2 x3 x4 c0 c1 c2 c3 q1
          have hX := (y.h.block b6 (heap_lt HXK.out)).trans HXK.out
          have k0 : y.v.cell? ⟨b6, 0, none⟩ = some (.int .i64 lo) := by rw [cell_of_heap hX]; rfl
          have k1 : y.v.cell? ⟨b6, 1, none⟩ = some (.int .i64 hi) := by rw [cell_of_heap hX]; rfl
          have r0 : ∀ k, y.v.frozen? ⟨b6, k, none⟩ = false := fun k => frozen_of_heap hX
          have HXY := Lib.hid hX
          clear hX
          go_wp2_with fail
          go_roundw
          case rel =>
            refine ⟨k + 1, by omega, by go_num, ?_, (((hbr.trans (y.h.mono hbr.size)).setCell (p := ⟨b6, 0, none⟩) hb6 _).setCell (p := ⟨b6, 1, none⟩) hb6 _)⟩
            have e1 := heap_setCell_at (k := 0) HXY.out (.int .i64 (if A2 < lo then (A2 : Int) else (lo : Int)))
            have e2 := heap_setCell_at (k := 1) e1 (.int .i64 (if hi < A2 then (A2 : Int) else (hi : Int)))
            rw [Hid, e2, HS.out.1, HS.out.2, HLH.out.1, HLH.out.2]
            have m1 : ((min lo A2 : Nat) : Int) = if A2 < lo then (A2 : Int) else (lo : Int) := by split <;> omega
            have m2 : ((max hi A2 : Nat) : Int) = if hi < A2 then (A2 : Int) else (hi : Int) := by split <;> omega
            rw [m1, m2]
            rfl
          case measure => simp [intOf]; omega
        · obtain rfl : k = (truths c).length := by omega
          have k0 : wr.cell? ⟨b6, 0, none⟩ = some (.int .i64 lo) := by rw [cell_of_heap hX]; rfl
          have k1 : wr.cell? ⟨b6, 1, none⟩ = some (.int .i64 hi) := by rw [cell_of_heap hX]; rfl
          have h2 := (hbr.block (w.heap.size + 1) (heap_lt H2.out)).trans H2.out
          have p0 : wr.cell? ⟨w.heap.size + 1, 0, none⟩ = some (.int .i64 0) := by rw [cell_of_heap h2]; rfl
          have p1 : wr.cell? ⟨w.heap.size + 1, 1, none⟩ = some (.int .i64 0) := by rw [cell_of_heap h2]; rfl
          have r0 : ∀ k, wr.frozen? ⟨w.heap.size + 1, k, none⟩ = false := fun k => frozen_of_heap h2
          clear h2 hX
          go_wp2_with fail
          refine bodyPost_ret (res_c37t (bp := w.heap.size + 1) (x := lo) (y := hi) rfl _ rfl rfl ?_ ?_) rfl ⟨?_, ?_⟩
          · go_simp
          · go_simp
          · have e : (awayL c).length = (truths c).length := by simp [awayL]
            rw [hE.out, e, HLH.out.1, HLH.out.2]
            rfl
          · exact ((bst HB1.out (bst HB4.out hbr)).setCell (p := ⟨w.heap.size + 1, 0, none⟩) (by simp) _).setCell (p := ⟨w.heap.size + 1, 1, none⟩) (by simp) _
  · have hq : (openE c true == 0) = false := by simpa using h0
    have hq' : (openE c true != 0) = true := by simpa using h0
    have hE : Hid (misplacedE c = ((0, 0), openE c true)) := by
      unfold Hid misplacedE
      simp only [h0, if_false]
    clear h0
    go_enter Try.func28, Try.ntmps28
    go_wp2_with fail
    refine (ropen_any HG1.out HBK.out true).mono ?_
    rintro e w4 ⟨v, rfl, hO, hb4⟩
    obtain ⟨c0, c1, c2, c3⟩ := cellsN ((hb4.block _ (by simp; omega)).trans hA.out)
    have HO := Lib.hid hO
    have h2 : w4.heap[w.heap.size + 1]? = some (.cells #[.int .i64 0, .int .i64 0] 37 (0, 0)) := (hb4.block _ (by simp)).trans hA2.out
    have p0 : w4.cell? ⟨w.heap.size + 1, 0, none⟩ = some (.int .i64 0) := by rw [cell_of_heap h2]; rfl
    have p1 : w4.cell? ⟨w.heap.size + 1, 1, none⟩ = some (.int .i64 0) := by rw [cell_of_heap h2]; rfl
    have r0 : ∀ k, w4.frozen? ⟨w.heap.size + 1, k, none⟩ = false := fun k => frozen_of_heap h2
    clear h2
    clear hO
    go_wp2_with fail
    have hcs := World.cell?_setCell_same
    refine bodyPost_ret (res_c37t (bp := w.heap.size + 1) (x := 0) (y := 0) rfl _ rfl rfl ?_ ?_) rfl ⟨?_, ?_⟩
    · go_simp
    · go_simp
    · rw [hE.out]; rfl
    · exact ((bst HB1.out hb4).setCell (p := ⟨w.heap.size + 1, 0, none⟩) (by simp) _).setCell (p := ⟨w.heap.size + 1, 1, none⟩) (by simp) _
end Go.Proofs.Ytlhobddaojdnoaa
