/- A pair that has a truth; the power of a pair. How far away a thing is: the drawn regions. How far away a thing is. Years: small functions. -/
import Derived.Test.YtbnhngfegnhaiaaC8
import Derived.Deep.QuietTactic
namespace Go.Proofs.Ytbnhngfegnhaiaa
open Go.RowKit
set_option linter.unusedVariables false
set_option linter.unusedSimpArgs false
/-- The error of a pair whose numbers of things are asked. -/
def errT (p : Par) (l : List Int) : Int := if p.valid then (if okN p l then (match p.look p.things p.all with | some _ => 0 | none => 4) else 2) else 1
set_option maxRecDepth 100000 in
set_option maxHeartbeats 4000000 in
theorem truths21 {p : Par} {a al : Option Addr} {c cl : Nat} {l : List Int} {w : World} (ha : IsThs w a p.things) (hl : p.things.length ≤ 1000000) (hi : IsInts w al l) (hll : l.length ≤ 1000) :
    Calls Try.prog 21 #[p.v a c, .slice al l.length cl] w fun e w' => Below w.heap.size w w' ∧ ((errT p l ≠ 0 ∧ e = .panicked [{ v := .iface 96 (.agg #[.int .i64 (errT p l)]), recovered := false }]) ∨ (errT p l = 0 ∧ p.valid = true ∧ okN p l = true ∧ ∃ q bv, p.look p.things p.all = some q ∧ e = .returned (.pointer (some ⟨bv, 0, none⟩)) ∧ w.heap.size ≤ bv ∧ IsView w' bv p a c q)) := by
  have HX : Hid ((w.alloc (.cells (p.arr a c) 26)).heap[w.heap.size]? = some (.cells (p.arr a c) 26 (0, 0)) ∧ Below w.heap.size w (w.alloc (.cells (p.arr a c) 26)) ∧ IsThs (w.alloc (.cells (p.arr a c) 26)) a p.things ∧ IsInts (w.alloc (.cells (p.arr a c) 26)) al l) := ⟨World.alloc_heap_new w _, alloc_below _ _, ha.mono (alloc_below _ _), hi.mono (alloc_below _ _)⟩
  clear ha hi
  go_enter Try.func21, Try.ntmps21
  refine wp_seq_hid ?_
  intro K0 HK0
  go_wp2_with fail
  refine HK0.out _ _ ?_
  clear HK0 K0
  revert HX
  generalize w.alloc (.cells (p.arr a c) 26) = w1
  intro HX
  obtain ⟨k0, k1, k2, k3, k4, k5, k6, k7⟩ := par_cells HX.out.1
  refine wp_seq_hid ?_
  intro K1 HK1
  go_wp2_with fail
  refine (open40 HX.out.2.2.1 hl HX.out.2.2.2 hll).mono ?_
  clear k0 k1 k2 k3 k4 k5 k6 k7
  rintro e w2 ⟨hb, hcase⟩
  have HB := Lib.hid (HX.out.2.1.trans (hb.mono HX.out.2.1.size))
  have HBT := Lib.hid (HX.out.2.2.1.mono hb)
  have HBS := Lib.hid (Nat.le_trans HX.out.2.1.size hb.size)
  rcases hcase with ⟨hv, rfl⟩ | ⟨hv, ho, rfl⟩ | ⟨hv, ho, bv, rfl, hbv, hV⟩
  · have HE : Hid (errT p l = 1) := by unfold errT; rw [Hid, hv]; rfl
    clear hb hv
    unfold panE
    go_wp2_with fail
    exact ⟨rfl, HB.out, .inl ⟨by rw [HE.out]; decide, by rw [HE.out]⟩⟩
  · have HE : Hid (errT p l = 2) := by unfold errT; rw [Hid, hv, ho]; rfl
    clear hb hv ho
    unfold panE
    go_wp2_with fail
    exact ⟨rfl, HB.out, .inl ⟨by rw [HE.out]; decide, by rw [HE.out]⟩⟩
  · have HV := Lib.hid (And.intro hv ho)
    have HBV : Hid (w1.heap.size ≤ bv) := hbv
    have HWV := Lib.hid (Nat.le_trans HX.out.2.1.size hbv)
    have HI : Hid (LookI w1 bv p a c ⟨0, 0⟩ w2) := ⟨hb, hV.h⟩
    have HN := Lib.hid (nums_of hv)
    have HT := Lib.hid HX.out.2.2.1
    clear hb hv ho hV hbv
    go_wp2_with fail
    refine HK1.out _ _ ?_
    clear HK1 K1
    refine wp_seq_hid ?_
    intro K2 HK2
    go_wp2_with fail
    refine (look41 HT HN HBV HI).mono ?_
    rintro e w3 (⟨q, hq, rfl, hL⟩ | ⟨hq, rfl, hb⟩)
    · have HE : Hid (errT p l = 0) := by unfold errT; rw [Hid, HV.out.1, HV.out.2, hq]; rfl
      have HQ := Lib.hid (And.intro hq hL)
      clear hq hL
      go_wp2_with fail
      refine HK2.out _ _ ?_
      go_wp2_with fail
      go_ret
      exact ⟨HX.out.2.1.trans (HQ.out.2.below.mono HX.out.2.1.size), .inr ⟨HE.out, HV.out.1, HV.out.2, q, bv, HQ.out.1, rfl, HWV.out, HQ.out.2.view HT.out⟩⟩
    · have HE : Hid (errT p l = 4) := by unfold errT; rw [Hid, HV.out.1, HV.out.2, hq]; rfl
      have HB3 := Lib.hid hb
      clear hb hq
      unfold panE
      go_wp2_with fail
      exact ⟨rfl, HX.out.2.1.trans (HB3.out.mono HX.out.2.1.size), .inl ⟨by rw [HE.out]; decide, by rw [HE.out]⟩⟩
/-- A span and an error put into their blocks. -/
theorem door_put {B : Nat} {A v : World} {bs be : Nat} {x0 x1 y0 : Value} (q : Spn) (x : Int) (hs : v.heap[bs]? = some (.cells #[x0, x1] 23 (0, 0))) (he : v.heap[be]? = some (.cells #[y0] 36 (0, 0))) (hne : bs ≠ be) (hb : Below B A v) (h1 : B ≤ bs) (h2 : B ≤ be) :
    (((v.setCell ⟨bs, 0, none⟩ (.int .i64 q.lo)).setCell ⟨bs, 1, none⟩ (.int .i64 q.hi)).setCell ⟨be, 0, none⟩ (.int .i64 x)).heap[bs]? = some (.cells q.arr 23 (0, 0)) ∧
    (((v.setCell ⟨bs, 0, none⟩ (.int .i64 q.lo)).setCell ⟨bs, 1, none⟩ (.int .i64 q.hi)).setCell ⟨be, 0, none⟩ (.int .i64 x)).heap[be]? = some (.cells #[.int .i64 x] 36 (0, 0)) ∧
    Below B A (((v.setCell ⟨bs, 0, none⟩ (.int .i64 q.lo)).setCell ⟨bs, 1, none⟩ (.int .i64 q.hi)).setCell ⟨be, 0, none⟩ (.int .i64 x)) := by
  have h3 := heap_setCell_at (k := 1) (heap_setCell_at (k := 0) hs (.int .i64 q.lo)) (.int .i64 q.hi)
  have h4 : ((v.setCell ⟨bs, 0, none⟩ (.int .i64 q.lo)).setCell ⟨bs, 1, none⟩ (.int .i64 q.hi)).heap[be]? = some (.cells #[y0] 36 (0, 0)) := by
    rw [Below.heap_setCell _ _ _ _ (Ne.symm hne), Below.heap_setCell _ _ _ _ (Ne.symm hne)]
    exact he
  refine ⟨?_, heap_setCell_at (k := 0) h4 _, ((hb.setCell (p := ⟨bs, _, none⟩) h1 _).setCell (p := ⟨bs, _, none⟩) h1 _).setCell (p := ⟨be, _, none⟩) h2 _⟩
  rw [Below.heap_setCell _ _ _ _ hne]
  exact h3
theorem powerE_err (p : Par) : (powerE p).2 = errT p [] := by
  unfold powerE errT
  have h : okN p [] = true := rfl
  rw [h]
  cases p.valid
  · rfl
  · simp only [if_true]
    cases p.look p.things p.all <;> rfl
theorem powerE_no {p : Par} (h : errT p [] ≠ 0) : (powerE p).1 = ⟨0, 0⟩ := by
  unfold errT at h
  unfold powerE
  cases hv : p.valid
  · rfl
  · rw [hv] at h
    have h2 : okN p [] = true := rfl
    rw [h2] at h
    cases hl : p.look p.things p.all
    · rfl
    · rw [hl] at h
      exact absurd rfl h
theorem powerE_yes {p : Par} {q : Spn} (hv : p.valid = true) (h : p.look p.things p.all = some q) : powerE p = (q, 0) := by
  unfold powerE
  rw [hv, h]
  rfl
set_option maxRecDepth 100000 in
set_option maxHeartbeats 4000000 in
theorem power9 {p : Par} {a : Option Addr} {c : Nat} {w : World} (ha : IsThs w a p.things) (hl : p.things.length ≤ 1000000) :
    Calls Try.prog 9 #[p.v a c] w fun e w' => e = .returned (.tuple #[(powerE p).1.v, .int .i64 (powerE p).2]) ∧ Below w.heap.size w w' := by
  have HX := Lib.hid (alloc3 w (p.arr a c) #[.int .i64 0, .int .i64 0] #[.int .i64 0] 26 23 36 _ rfl)
  have HT := Lib.hid (And.intro (ha.mono HX.out.2.2.2) HX.out.2.2.2.size)
  clear ha
  refine calls_of_wp_x Try.func9 rfl ?_
  simp only [Try.ntmps9, List.size_toArray, List.length_cons, List.length_nil, Nat.reduceAdd, Nat.reduceSub, Array.replicate_succ, Array.replicate_zero, List.push_toArray, List.append_toArray, List.nil_append, List.cons_append]
  conv => arg 2; whnf
  refine wp_seq_hid ?_
  intro K0 HK0
  go_wp2_with fail
  refine HK0.out _ _ ?_
  clear HK0 K0
  revert HX HT
  generalize ((w.alloc (.cells (p.arr a c) 26)).alloc (.cells #[.int .i64 0, .int .i64 0] 23)).alloc (.cells #[.int .i64 0] 36) = w1
  generalize hbe : w.heap.size + 2 = be
  generalize hbs : w.heap.size + 1 = bs
  generalize hbp : w.heap.size = bp
  intro HX HT
  refine wp_seq_hid ?_
  intro K1 HK1
  go_wp2_with fail
  refine HK1.out _ _ ?_
  clear HK1 K1
  have HA := Lib.hid (And.intro hbe (And.intro hbs hbp))
  have HI : Hid (IsInts w1 none []) := fun i hi => absurd hi (by simp)
  clear hbe hbs hbp
  obtain ⟨k0, k1, k2, k3, k4, k5, k6, k7⟩ := par_cells HX.out.1
  refine wp_seq_hid ?_
  intro K2 HK2
  go_wp2_with fail
  refine (truths21 (l := []) HT.out.1 hl HI.out (by simp)).mono ?_
  clear k0 k1 k2 k3 k4 k5 k6 k7
  rintro e w2 ⟨hb, hcase⟩
  have HB := Lib.hid hb
  clear hb
  have HS := Lib.hid ((HB.out.block _ (heap_lt HX.out.2.1)).trans HX.out.2.1)
  have HE := Lib.hid ((HB.out.block _ (heap_lt HX.out.2.2.1)).trans HX.out.2.2.1)
  have HBB := Lib.hid (HX.out.2.2.2.trans (HB.out.mono HT.out.2))
  rcases hcase with ⟨hz, rfl⟩ | ⟨hz, hv, _, q, bv, hq, rfl, hbv, hV⟩
  · have HZ := Lib.hid hz
    clear hz
    go_wp2_with fail
    have h1 := HA.out.1
    have h2 := HA.out.2.1
    have h3 := HA.out.2.2
    have hlt := heap_lt HS.out
    have hc := (caught_other (be := be) (x := errT p []) hlt (by omega)).trans HS.out
    have h5 := HB.out.size
    have h6 := HT.out.2
    exact door_no HE.out (res_c2e rfl _ rfl rfl (by rw [cell_of_heap hc]; rfl) (by rw [cell_of_heap hc]; rfl) (by rw [cell_of_heap (caught_heap HE.out)]; rfl)) ⟨by rw [powerE_no HZ.out, powerE_err]; rfl, caught_below HBB.out (by omega) (by omega)⟩
  · have HZ := Lib.hid (And.intro (powerE_yes hv hq) hV)
    clear hz hv hq hV hbv
    have m8 : w2.cell? ⟨bv, 8, none⟩ = some (.int .i64 q.lo) := by rw [cell_of_heap HZ.out.2.h]; rfl
    have m9 : w2.cell? ⟨bv, 9, none⟩ = some (.int .i64 q.hi) := by rw [cell_of_heap HZ.out.2.h]; rfl
    go_wp2_with fail
    refine (span26 q w2).mono ?_
    clear m8 m9
    rintro e w3 ⟨rfl, hb⟩
    have HS3 := Lib.hid ((hb.block _ (heap_lt HS.out)).trans HS.out)
    have HE3 := Lib.hid ((hb.block _ (heap_lt HE.out)).trans HE.out)
    have HB3 := Lib.hid (HBB.out.trans (hb.mono (Nat.le_trans HT.out.2 HB.out.size)))
    clear hb
    have s0 : w3.cell? ⟨bs, 0, none⟩ = some (.int .i64 0) := by rw [cell_of_heap HS3.out]; rfl
    have s1 : w3.cell? ⟨bs, 1, none⟩ = some (.int .i64 0) := by rw [cell_of_heap HS3.out]; rfl
    have f0 : ∀ k, w3.frozen? ⟨bs, k, none⟩ = false := fun k => frozen_of_heap HS3.out
    have e0 : w3.cell? ⟨be, 0, none⟩ = some (.int .i64 0) := by rw [cell_of_heap HE3.out]; rfl
    have f1 : ∀ k, w3.frozen? ⟨be, k, none⟩ = false := fun k => frozen_of_heap HE3.out
    have hne : bs ≠ be := by
      have h1 := HA.out.1
      have h2 := HA.out.2.1
      omega
    go_wp2_with fail
    refine HK2.out _ _ ?_
    go_wp2_with fail
    have h1 := HA.out.1
    have h2 := HA.out.2.1
    have h3 := HA.out.2.2
    obtain ⟨p1, p2, p3⟩ := door_put q 0 HS3.out HE3.out hne HB3.out (by omega) (by omega)
    exact door_ok (res_c2e rfl _ rfl rfl (by rw [cell_of_heap p1]; rfl) (by rw [cell_of_heap p1]; rfl) (by rw [cell_of_heap p2]; rfl)) ⟨by rw [HZ.out.1]; rfl, p3⟩
end Go.Proofs.Ytbnhngfegnhaiaa
namespace Go.Proofs.Ytbnhngfegnhaiaa
open Go.RowKit
set_option linter.unusedVariables false
set_option linter.unusedSimpArgs false
structure dis4F (bv : Nat) (b3 : Nat) (x : Int) (y : Int) (z1 : Int) (z2 : Int) (zb : Bool) (t0 : Int) (t1 : Int) (t2 : Int) (t3 : Int) (t4 : Int) (t5 : Int) (t6 : Int) (t7 : Int) (t8 : Int) (S0 : Bool → Nat → World → Prop) (S1 : Bool → Nat → Unit → World → Prop) (S2 : Bool → Nat → Unit → World → Prop) (d : Nat → Bool) (x28 x29 x30 x31 x32 x33 x34 x27 x35 x36 x8 x9 : Value) (ms : Nat) (u1 : Unit) (w : World) : Prop where
  q3 : d 3 = true → d 2 = true
  q4 : d 4 = true → d 3 = true
  q5 : d 5 = true → d 4 = true
  q6 : d 6 = true → d 0 = true ∧ d 1 = true ∧ d 5 = true
  q7 : d 7 = true → d 6 = true
  q8 : d 8 = true → d 7 = true
  q9 : d 9 = true → d 7 = true
  q11 : d 11 = true → d 0 = true ∧ d 1 = true ∧ d 2 = true ∧ d 3 = true ∧ d 4 = true ∧ d 5 = true ∧ d 6 = true ∧ d 7 = true ∧ d 8 = true ∧ d 10 = true
  q12 : d 12 = true → d 0 = true ∧ d 1 = true ∧ d 2 = true ∧ d 3 = true ∧ d 4 = true ∧ d 5 = true ∧ d 6 = true ∧ d 7 = true ∧ d 8 = true ∧ d 9 = true ∧ d 10 = true ∧ d 11 = true
  f0 : d 0 = true → x28 = .pointer (some ⟨bv, 0, none⟩)
  f1 : d 1 = true → x29 = .agg #[.int .i64 t0, .int .i64 t1, .int .i64 t2, .int .i64 t3, .int .i64 t4, .int .i64 t5, .int .i64 t6, .int .i64 t7, .int .i64 t8]
  f2 : d 2 = true → x30 = .pointer (some ⟨bv, 0, none⟩)
  f3 : d 3 = true → x31 = .pointer (some ⟨bv, 0, none⟩)
  f4 : d 4 = true → x32 = .pointer (some ⟨bv, 8, none⟩)
  f5 : d 5 = true → x33 = .agg #[.int .i64 x, .int .i64 y]
  f6 : d 6 = true → x34 = .tuple #[.agg #[.int .i64 z1, .int .i64 z2], .bool zb]
  f7 : d 7 = true → x27 = .tuple #[.agg #[.int .i64 z1, .int .i64 z2], .bool zb]
  f8 : d 8 = true → x35 = .agg #[.int .i64 z1, .int .i64 z2]
  f9 : d 9 = true → x36 = .bool zb
  f10 : d 10 = true → x8 = .pointer (some ⟨ms, 0, none⟩)
  f12 : d 12 = true → x9 = .bool zb
  st0 : d 6 = false → S0 (d 10) ms w
  st1 : d 6 = true → d 11 = false → S1 (d 10) ms u1 w
  st2 : d 11 = true → S2 (d 10) ms u1 w
  mz : d 10 = false → ms = 0
noncomputable def dis4C : Code := (Try.f7.body.bind (regionAt 4)).getD .skip
set_option maxRecDepth 100000 in
set_option maxHeartbeats 4000000 in
theorem dis4 {bv : Nat} {b3 : Nat} {x : Int} {y : Int} {z1 : Int} {z2 : Int} {zb : Bool} {t0 : Int} {t1 : Int} {t2 : Int} {t3 : Int} {t4 : Int} {t5 : Int} {t6 : Int} {t7 : Int} {t8 : Int} {S0 : Bool → Nat → World → Prop} {S1 : Bool → Nat → Unit → World → Prop} {S2 : Bool → Nat → Unit → World → Prop} {Q : Exit → Act → World → Prop} {W1 : World} (h0 : S0 false 0 W1.drew)
    (kl1 : Hid (∀ (fs : Bool) (ms : Nat) (w : World), (S0 fs ms w) → w.cell? ⟨b3, 0, none⟩ = some (.int .i64 t0) ∧ w.cell? ⟨b3, 1, none⟩ = some (.int .i64 t1) ∧ w.cell? ⟨b3, 2, none⟩ = some (.int .i64 t2) ∧ w.cell? ⟨b3, 3, none⟩ = some (.int .i64 t3) ∧ w.cell? ⟨b3, 4, none⟩ = some (.int .i64 t4) ∧ w.cell? ⟨b3, 5, none⟩ = some (.int .i64 t5) ∧ w.cell? ⟨b3, 6, none⟩ = some (.int .i64 t6) ∧ w.cell? ⟨b3, 7, none⟩ = some (.int .i64 t7) ∧ w.cell? ⟨b3, 8, none⟩ = some (.int .i64 t8)))
    (kl5 : Hid (∀ (fs : Bool) (ms : Nat) (w : World), (S0 fs ms w) → w.cell? ⟨bv, 8, none⟩ = some (.int .i64 x) ∧ w.cell? ⟨bv, 9, none⟩ = some (.int .i64 y)))
    (kc6 : Hid (∀ (fs : Bool) (ms : Nat) (w : World), S0 fs ms w → Calls Try.prog 22 #[.pointer (some ⟨bv, 0, none⟩), .agg #[.int .i64 t0, .int .i64 t1, .int .i64 t2, .int .i64 t3, .int .i64 t4, .int .i64 t5, .int .i64 t6, .int .i64 t7, .int .i64 t8], .agg #[.int .i64 x, .int .i64 y]] w fun e w' => ∃ u1 : Unit, e = .returned (.tuple #[.agg #[.int .i64 z1, .int .i64 z2], .bool zb]) ∧ S1 fs ms u1 w'))
    (ks0 : Hid (∀ (w : World), S0 false 0 w → S0 true w.heap.size (w.alloc (.cells #[.int .i64 0, .int .i64 0] 59))))
    (ks1 : Hid (∀ (u1 : Unit) (w : World), S1 false 0 u1 w → S1 true w.heap.size u1 (w.alloc (.cells #[.int .i64 0, .int .i64 0] 59))))
    (kc11 : Hid (∀ (ms : Nat) (u1 : Unit) (w : World), S1 true ms u1 w → (∃ u, w.cell? ⟨ms, 0, none⟩ = some u) ∧ w.frozen? ⟨ms, 0, none⟩ = false ∧ (∃ u, w.cell? ⟨ms, 1, none⟩ = some u) ∧ w.frozen? ⟨ms, 1, none⟩ = false ∧ S2 true ms u1 ((w.setCell ⟨ms, 0, none⟩ (.int .i64 z1)).setCell ⟨ms, 1, none⟩ (.int .i64 z2))))
    {s0 s1 s2 s3 s4 s5 s8 s9 s10 s11 s12 s13 s14 s15 s16 s17 s18 s19 s20 s21 s22 s23 s24 s25 s26 s27 s28 s29 s30 s31 s32 s33 s34 s35 s36 s37 s38 s39 s40 s41 s42 s43 s44 s45 s46 s47 s48 s49 s50 s51 s52 s53 s54 s55 s56 s57 s58 s59 s60 s61 s62 s63 s64 s65 s66 s67 s68 s69 s70 s71 s72 s73 s74 s75 s76 s77 s78 s79 s80 s81 s82 s83 s84 s85 s86 s87 s88 s89 s90 s91 s92 s93 s94 s95 s96 s97 : Value} {dd : List Deferred}
    (hQ : ∀ (ms : Nat) (u1 : Unit) (w' : World), S2 true ms u1 w' → Q .normal { tmps := List.toArray (s0 :: s1 :: s2 :: s3 :: s4 :: s5 :: .pointer (some ⟨bv, 0, none⟩) :: .pointer (some ⟨b3, 0, none⟩) :: .pointer (some ⟨ms, 0, none⟩) :: .bool zb :: s10 :: s11 :: s12 :: s13 :: s14 :: s15 :: s16 :: s17 :: s18 :: s19 :: s20 :: s21 :: s22 :: s23 :: s24 :: s25 :: s26 :: .tuple #[.agg #[.int .i64 z1, .int .i64 z2], .bool zb] :: .pointer (some ⟨bv, 0, none⟩) :: .agg #[.int .i64 t0, .int .i64 t1, .int .i64 t2, .int .i64 t3, .int .i64 t4, .int .i64 t5, .int .i64 t6, .int .i64 t7, .int .i64 t8] :: .pointer (some ⟨bv, 0, none⟩) :: .pointer (some ⟨bv, 0, none⟩) :: .pointer (some ⟨bv, 8, none⟩) :: .agg #[.int .i64 x, .int .i64 y] :: .tuple #[.agg #[.int .i64 z1, .int .i64 z2], .bool zb] :: .agg #[.int .i64 z1, .int .i64 z2] :: .bool zb :: s37 :: s38 :: s39 :: s40 :: s41 :: s42 :: s43 :: s44 :: s45 :: s46 :: s47 :: s48 :: s49 :: s50 :: s51 :: s52 :: s53 :: s54 :: s55 :: s56 :: s57 :: s58 :: s59 :: s60 :: s61 :: s62 :: s63 :: s64 :: s65 :: s66 :: s67 :: s68 :: s69 :: s70 :: s71 :: s72 :: s73 :: s74 :: s75 :: s76 :: s77 :: s78 :: s79 :: s80 :: s81 :: s82 :: s83 :: s84 :: s85 :: s86 :: s87 :: s88 :: s89 :: s90 :: s91 :: s92 :: s93 :: s94 :: s95 :: s96 :: s97 :: []), defers := dd } w') :
    Code.wpIn (wideAt none) 0 Try.prog dis4C Q { tmps := List.toArray (s0 :: s1 :: s2 :: s3 :: s4 :: s5 :: .pointer (some ⟨bv, 0, none⟩) :: .pointer (some ⟨b3, 0, none⟩) :: s8 :: s9 :: s10 :: s11 :: s12 :: s13 :: s14 :: s15 :: s16 :: s17 :: s18 :: s19 :: s20 :: s21 :: s22 :: s23 :: s24 :: s25 :: s26 :: s27 :: s28 :: s29 :: s30 :: s31 :: s32 :: s33 :: s34 :: s35 :: s36 :: s37 :: s38 :: s39 :: s40 :: s41 :: s42 :: s43 :: s44 :: s45 :: s46 :: s47 :: s48 :: s49 :: s50 :: s51 :: s52 :: s53 :: s54 :: s55 :: s56 :: s57 :: s58 :: s59 :: s60 :: s61 :: s62 :: s63 :: s64 :: s65 :: s66 :: s67 :: s68 :: s69 :: s70 :: s71 :: s72 :: s73 :: s74 :: s75 :: s76 :: s77 :: s78 :: s79 :: s80 :: s81 :: s82 :: s83 :: s84 :: s85 :: s86 :: s87 :: s88 :: s89 :: s90 :: s91 :: s92 :: s93 :: s94 :: s95 :: s96 :: s97 :: []), defers := dd } W1 := by
  have HQ := Lib.hid hQ
  clear hQ
  conv => arg 4; whnf
  refine wpIn_region_invG mixed (by kernel_rfl) (fun d_ a_ w' => ∃ (x28 : Value) (x29 : Value) (x30 : Value) (x31 : Value) (x32 : Value) (x33 : Value) (x34 : Value) (x27 : Value) (x35 : Value) (x36 : Value) (x8 : Value) (x9 : Value) (ms : Nat) (u1 : Unit), a_ = { tmps := List.toArray (s0 :: s1 :: s2 :: s3 :: s4 :: s5 :: .pointer (some ⟨bv, 0, none⟩) :: .pointer (some ⟨b3, 0, none⟩) :: x8 :: x9 :: s10 :: s11 :: s12 :: s13 :: s14 :: s15 :: s16 :: s17 :: s18 :: s19 :: s20 :: s21 :: s22 :: s23 :: s24 :: s25 :: s26 :: x27 :: x28 :: x29 :: x30 :: x31 :: x32 :: x33 :: x34 :: x35 :: x36 :: s37 :: s38 :: s39 :: s40 :: s41 :: s42 :: s43 :: s44 :: s45 :: s46 :: s47 :: s48 :: s49 :: s50 :: s51 :: s52 :: s53 :: s54 :: s55 :: s56 :: s57 :: s58 :: s59 :: s60 :: s61 :: s62 :: s63 :: s64 :: s65 :: s66 :: s67 :: s68 :: s69 :: s70 :: s71 :: s72 :: s73 :: s74 :: s75 :: s76 :: s77 :: s78 :: s79 :: s80 :: s81 :: s82 :: s83 :: s84 :: s85 :: s86 :: s87 :: s88 :: s89 :: s90 :: s91 :: s92 :: s93 :: s94 :: s95 :: s96 :: s97 :: []), defers := dd } ∧ dis4F bv b3 x y z1 z2 zb t0 t1 t2 t3 t4 t5 t6 t7 t8 S0 S1 S2 d_ x28 x29 x30 x31 x32 x33 x34 x27 x35 x36 x8 x9 ms u1 w') ?_ ?_ ?_
  · refine ⟨s28, s29, s30, s31, s32, s33, s34, s27, s35, s36, s8, s9, 0, default, rfl, ?_⟩
    constructor <;> first | rfl | (intro _; rfl) | (intro h; cases h; done) | (intro _; exact h0) | exact h0
  · refine ⟨?_, ?_, ?_, ?_, ?_, ?_, ?_, ?_, ?_, ?_, ?_, ?_, ?_, trivial⟩
    all_goals
      rintro d_ a_ w1 K hd_ hdep ⟨x28, x29, x30, x31, x32, x33, x34, x27, x35, x36, x8, x9, ms, u1, rfl, F⟩ HK
      simp [Region.binds] at hdep
    · have HF : Hid (dis4F bv b3 x y z1 z2 zb t0 t1 t2 t3 t4 t5 t6 t7 t8 S0 S1 S2 (upd d_ 0) (.pointer (some ⟨bv, 0, none⟩)) x29 x30 x31 x32 x33 x34 x27 x35 x36 x8 x9 ms u1 w1) := ⟨F.q3, F.q4, F.q5, fun h => andM0 (F.q6 h) rfl, F.q7, F.q8, F.q9, fun h => andM0 (F.q11 h) rfl, fun h => andM0 (F.q12 h) rfl, fun _ => rfl, F.f1, F.f2, F.f3, F.f4, F.f5, F.f6, F.f7, F.f8, F.f9, F.f10, F.f12, F.st0, F.st1, F.st2, F.mz⟩
      clear F
      go_simp
      exact HK.out _ _ ⟨_, _, _, _, _, _, _, _, _, _, _, _, _, _, rfl, HF.out⟩
    · have hst : S0 (d_ 10) ms w1 := by
        have n_ : d_ 6 = false := by
          cases e_ : d_ 6 with
          | false => rfl
          | true => have h2 := (F.q6 e_).2.1; rw [show d_ 1 = false from hd_] at h2; cases h2
        exact (F.st0 n_)
      have kk := kl1.out (d_ 10) ms w1 hst
      obtain ⟨kk0, kk1, kk2, kk3, kk4, kk5, kk6, kk7, kk8⟩ := kk
      clear hst
      have HF : Hid (dis4F bv b3 x y z1 z2 zb t0 t1 t2 t3 t4 t5 t6 t7 t8 S0 S1 S2 (upd d_ 1) x28 (.agg #[.int .i64 t0, .int .i64 t1, .int .i64 t2, .int .i64 t3, .int .i64 t4, .int .i64 t5, .int .i64 t6, .int .i64 t7, .int .i64 t8]) x30 x31 x32 x33 x34 x27 x35 x36 x8 x9 ms u1 w1) := ⟨F.q3, F.q4, F.q5, fun h => andM1 (F.q6 h) rfl, F.q7, F.q8, F.q9, fun h => andM1 (F.q11 h) rfl, fun h => andM1 (F.q12 h) rfl, F.f0, fun _ => rfl, F.f2, F.f3, F.f4, F.f5, F.f6, F.f7, F.f8, F.f9, F.f10, F.f12, F.st0, F.st1, F.st2, F.mz⟩
      clear F
      go_simp
      exact HK.out _ _ ⟨_, _, _, _, _, _, _, _, _, _, _, _, _, _, rfl, HF.out⟩
    · have HF : Hid (dis4F bv b3 x y z1 z2 zb t0 t1 t2 t3 t4 t5 t6 t7 t8 S0 S1 S2 (upd d_ 2) x28 x29 (.pointer (some ⟨bv, 0, none⟩)) x31 x32 x33 x34 x27 x35 x36 x8 x9 ms u1 w1) := ⟨fun h => rfl, F.q4, F.q5, F.q6, F.q7, F.q8, F.q9, fun h => andM2 (F.q11 h) rfl, fun h => andM2 (F.q12 h) rfl, F.f0, F.f1, fun _ => rfl, F.f3, F.f4, F.f5, F.f6, F.f7, F.f8, F.f9, F.f10, F.f12, F.st0, F.st1, F.st2, F.mz⟩
      clear F
      go_simp
      exact HK.out _ _ ⟨_, _, _, _, _, _, _, _, _, _, _, _, _, _, rfl, HF.out⟩
    · obtain rfl := F.f2 (by simp [hdep])
      have HF : Hid (dis4F bv b3 x y z1 z2 zb t0 t1 t2 t3 t4 t5 t6 t7 t8 S0 S1 S2 (upd d_ 3) x28 x29 (.pointer (some ⟨bv, 0, none⟩)) (.pointer (some ⟨bv, 0, none⟩)) x32 x33 x34 x27 x35 x36 x8 x9 ms u1 w1) := ⟨fun _ => (show _ from (by simp [hdep] : d_ 2 = true)), fun h => rfl, F.q5, F.q6, F.q7, F.q8, F.q9, fun h => andM3 (F.q11 h) rfl, fun h => andM3 (F.q12 h) rfl, F.f0, F.f1, F.f2, fun _ => rfl, F.f4, F.f5, F.f6, F.f7, F.f8, F.f9, F.f10, F.f12, F.st0, F.st1, F.st2, F.mz⟩
      clear F
      go_simp
      exact HK.out _ _ ⟨_, _, _, _, _, _, _, _, _, _, _, _, _, _, rfl, HF.out⟩
    · obtain rfl := F.f3 (by simp [hdep])
      have HF : Hid (dis4F bv b3 x y z1 z2 zb t0 t1 t2 t3 t4 t5 t6 t7 t8 S0 S1 S2 (upd d_ 4) x28 x29 x30 (.pointer (some ⟨bv, 0, none⟩)) (.pointer (some ⟨bv, 8, none⟩)) x33 x34 x27 x35 x36 x8 x9 ms u1 w1) := ⟨F.q3, fun _ => (show _ from (by simp [hdep] : d_ 3 = true)), fun h => rfl, F.q6, F.q7, F.q8, F.q9, fun h => andM4 (F.q11 h) rfl, fun h => andM4 (F.q12 h) rfl, F.f0, F.f1, F.f2, F.f3, fun _ => rfl, F.f5, F.f6, F.f7, F.f8, F.f9, F.f10, F.f12, F.st0, F.st1, F.st2, F.mz⟩
      clear F
      go_simp
      exact HK.out _ _ ⟨_, _, _, _, _, _, _, _, _, _, _, _, _, _, rfl, HF.out⟩
    · have hst : S0 (d_ 10) ms w1 := by
        have n_ : d_ 6 = false := by
          cases e_ : d_ 6 with
          | false => rfl
          | true => have h2 := (F.q6 e_).2.2; rw [show d_ 5 = false from hd_] at h2; cases h2
        exact (F.st0 n_)
      have kk := kl5.out (d_ 10) ms w1 hst
      obtain ⟨kk0, kk1⟩ := kk
      clear hst
      obtain rfl := F.f4 (by simp [hdep])
      have HF : Hid (dis4F bv b3 x y z1 z2 zb t0 t1 t2 t3 t4 t5 t6 t7 t8 S0 S1 S2 (upd d_ 5) x28 x29 x30 x31 (.pointer (some ⟨bv, 8, none⟩)) (.agg #[.int .i64 x, .int .i64 y]) x34 x27 x35 x36 x8 x9 ms u1 w1) := ⟨F.q3, F.q4, fun _ => (show _ from (by simp [hdep] : d_ 4 = true)), fun h => andL2 (F.q6 h) rfl, F.q7, F.q8, F.q9, fun h => andM5 (F.q11 h) rfl, fun h => andM5 (F.q12 h) rfl, F.f0, F.f1, F.f2, F.f3, F.f4, fun _ => rfl, F.f6, F.f7, F.f8, F.f9, F.f10, F.f12, F.st0, F.st1, F.st2, F.mz⟩
      clear F
      go_simp
      exact HK.out _ _ ⟨_, _, _, _, _, _, _, _, _, _, _, _, _, _, rfl, HF.out⟩
    · have hS := F.st0  hd_
      obtain rfl := F.f0 (by simp [hdep])
      obtain rfl := F.f1 (by simp [hdep])
      obtain rfl := F.f5 (by simp [hdep])
      have hc := kc6.out (d_ 10) ms w1 hS
      have HF := Lib.hid F
      clear F
      go_simp
      refine ⟨trivial, rfl, wideAt_calls (hc.mono ?_)⟩
      rintro e w5 ⟨v_, rfl, hres⟩
      exact HK.out _ _ ⟨_, _, _, _, _, _, _, _, _, _, _, _, ms, v_, rfl, ⟨HF.out.q3, HF.out.q4, HF.out.q5, fun _ => ⟨(show _ from (by simp [hdep] : d_ 0 = true)), (show _ from (by simp [hdep] : d_ 1 = true)), (show _ from (by simp [hdep] : d_ 5 = true))⟩, fun h => rfl, HF.out.q8, HF.out.q9, fun h => ⟨(HF.out.q11 h).1, (HF.out.q11 h).2.1, (HF.out.q11 h).2.2.1, (HF.out.q11 h).2.2.2.1, (HF.out.q11 h).2.2.2.2.1, (HF.out.q11 h).2.2.2.2.2.1, rfl, (HF.out.q11 h).2.2.2.2.2.2.2.1, (HF.out.q11 h).2.2.2.2.2.2.2.2.1, (HF.out.q11 h).2.2.2.2.2.2.2.2.2⟩, fun h => ⟨(HF.out.q12 h).1, (HF.out.q12 h).2.1, (HF.out.q12 h).2.2.1, (HF.out.q12 h).2.2.2.1, (HF.out.q12 h).2.2.2.2.1, (HF.out.q12 h).2.2.2.2.2.1, rfl, (HF.out.q12 h).2.2.2.2.2.2.2.1, (HF.out.q12 h).2.2.2.2.2.2.2.2.1, (HF.out.q12 h).2.2.2.2.2.2.2.2.2.1, (HF.out.q12 h).2.2.2.2.2.2.2.2.2.2.1, (HF.out.q12 h).2.2.2.2.2.2.2.2.2.2.2⟩, HF.out.f0, HF.out.f1, HF.out.f2, HF.out.f3, HF.out.f4, HF.out.f5, fun _ => rfl, HF.out.f7, HF.out.f8, HF.out.f9, HF.out.f10, HF.out.f12, fun h => (by simp [upd] at h), fun _ _ => hres, fun h => (by have h2 : d_ 6 = true := (HF.out.q11 h).2.2.2.2.2.2.1; rw [show d_ 6 = false from hd_] at h2; cases h2), HF.out.mz⟩⟩
    · obtain rfl := F.f6 (by simp [hdep])
      have HF : Hid (dis4F bv b3 x y z1 z2 zb t0 t1 t2 t3 t4 t5 t6 t7 t8 S0 S1 S2 (upd d_ 7) x28 x29 x30 x31 x32 x33 (.tuple #[.agg #[.int .i64 z1, .int .i64 z2], .bool zb]) (.tuple #[.agg #[.int .i64 z1, .int .i64 z2], .bool zb]) x35 x36 x8 x9 ms u1 w1) := ⟨F.q3, F.q4, F.q5, F.q6, fun _ => (show _ from (by simp [hdep] : d_ 6 = true)), fun h => rfl, fun h => rfl, fun h => andM7 (F.q11 h) rfl, fun h => andM7 (F.q12 h) rfl, F.f0, F.f1, F.f2, F.f3, F.f4, F.f5, F.f6, fun _ => rfl, F.f8, F.f9, F.f10, F.f12, F.st0, F.st1, F.st2, F.mz⟩
      clear F
      go_simp
      exact HK.out _ _ ⟨_, _, _, _, _, _, _, _, _, _, _, _, _, _, rfl, HF.out⟩
    · obtain rfl := F.f7 (by simp [hdep])
      have HF : Hid (dis4F bv b3 x y z1 z2 zb t0 t1 t2 t3 t4 t5 t6 t7 t8 S0 S1 S2 (upd d_ 8) x28 x29 x30 x31 x32 x33 x34 (.tuple #[.agg #[.int .i64 z1, .int .i64 z2], .bool zb]) (.agg #[.int .i64 z1, .int .i64 z2]) x36 x8 x9 ms u1 w1) := ⟨F.q3, F.q4, F.q5, F.q6, F.q7, fun _ => (show _ from (by simp [hdep] : d_ 7 = true)), F.q9, fun h => andM8 (F.q11 h) rfl, fun h => andM8 (F.q12 h) rfl, F.f0, F.f1, F.f2, F.f3, F.f4, F.f5, F.f6, F.f7, fun _ => rfl, F.f9, F.f10, F.f12, F.st0, F.st1, F.st2, F.mz⟩
      clear F
      go_simp
      exact HK.out _ _ ⟨_, _, _, _, _, _, _, _, _, _, _, _, _, _, rfl, HF.out⟩
    · obtain rfl := F.f7 (by simp [hdep])
      have HF : Hid (dis4F bv b3 x y z1 z2 zb t0 t1 t2 t3 t4 t5 t6 t7 t8 S0 S1 S2 (upd d_ 9) x28 x29 x30 x31 x32 x33 x34 (.tuple #[.agg #[.int .i64 z1, .int .i64 z2], .bool zb]) x35 (.bool zb) x8 x9 ms u1 w1) := ⟨F.q3, F.q4, F.q5, F.q6, F.q7, F.q8, fun _ => (show _ from (by simp [hdep] : d_ 7 = true)), F.q11, fun h => andM9 (F.q12 h) rfl, F.f0, F.f1, F.f2, F.f3, F.f4, F.f5, F.f6, F.f7, F.f8, fun _ => rfl, F.f10, F.f12, F.st0, F.st1, F.st2, F.mz⟩
      clear F
      go_simp
      exact HK.out _ _ ⟨_, _, _, _, _, _, _, _, _, _, _, _, _, _, rfl, HF.out⟩
    · have HF : Hid (dis4F bv b3 x y z1 z2 zb t0 t1 t2 t3 t4 t5 t6 t7 t8 S0 S1 S2 (upd d_ 10) x28 x29 x30 x31 x32 x33 x34 x27 x35 x36 (.pointer (some ⟨w1.heap.size, 0, none⟩)) x9 w1.heap.size u1 (w1.alloc (.cells #[.int .i64 0, .int .i64 0] 59))) := ⟨F.q3, F.q4, F.q5, F.q6, F.q7, F.q8, F.q9, fun h => andL9 (F.q11 h) rfl, fun h => andM10 (F.q12 h) rfl, F.f0, F.f1, F.f2, F.f3, F.f4, F.f5, F.f6, F.f7, F.f8, F.f9, fun _ => rfl, F.f12, fun b => ks0.out w1 (by have h := F.st0 b; rw [show d_ 10 = false from hd_, F.mz hd_] at h; exact h), fun a b => ks1.out u1 w1 (by have h := F.st1 a b; rw [show d_ 10 = false from hd_, F.mz hd_] at h; exact h), fun a => (by have h2 : d_ 10 = true := (F.q11 a).2.2.2.2.2.2.2.2.2; rw [show d_ 10 = false from hd_] at h2; cases h2), fun h => (by simp [upd] at h)⟩
      clear F
      go_simp
      exact HK.out _ _ ⟨_, _, _, _, _, _, _, _, _, _, _, _, _, _, rfl, HF.out⟩
    · have hS := F.st1 (by simp [hdep] : d_ 6 = true) hd_
      rw [show d_ 10 = true from (by simp [hdep] : d_ 10 = true)] at hS
      obtain rfl := F.f8 (by simp [hdep])
      obtain rfl := F.f10 (by simp [hdep])
      obtain ⟨⟨ku0, kcell0⟩, kfr0, ⟨ku1, kcell1⟩, kfr1, hres⟩ := kc11.out ms u1 w1 hS
      have HF : Hid (dis4F bv b3 x y z1 z2 zb t0 t1 t2 t3 t4 t5 t6 t7 t8 S0 S1 S2 (upd d_ 11) x28 x29 x30 x31 x32 x33 x34 x27 (.agg #[.int .i64 z1, .int .i64 z2]) x36 (.pointer (some ⟨ms, 0, none⟩)) x9 ms u1 ((w1.setCell ⟨ms, 0, none⟩ (.int .i64 z1)).setCell ⟨ms, 1, none⟩ (.int .i64 z2))) := ⟨F.q3, F.q4, F.q5, F.q6, F.q7, F.q8, F.q9, fun _ => ⟨(show _ from (by simp [hdep] : d_ 0 = true)), (show _ from (by simp [hdep] : d_ 1 = true)), (show _ from (by simp [hdep] : d_ 2 = true)), (show _ from (by simp [hdep] : d_ 3 = true)), (show _ from (by simp [hdep] : d_ 4 = true)), (show _ from (by simp [hdep] : d_ 5 = true)), (show _ from (by simp [hdep] : d_ 6 = true)), (show _ from (by simp [hdep] : d_ 7 = true)), (show _ from (by simp [hdep] : d_ 8 = true)), (show _ from (by simp [hdep] : d_ 10 = true))⟩, fun h => andL11 (F.q12 h) rfl, F.f0, F.f1, F.f2, F.f3, F.f4, F.f5, F.f6, F.f7, F.f8, F.f9, F.f10, F.f12, fun h => (by have h2 : d_ 6 = false := h; rw [(by simp [hdep] : d_ 6 = true)] at h2; cases h2), fun _ h => (by simp [upd] at h), fun _ => (by rw [show upd d_ 11 10 = true from (by simp [hdep] : d_ 10 = true)]; exact hres), F.mz⟩
      clear F hS hres
      go_simp
      exact HK.out _ _ ⟨_, _, _, _, _, _, _, _, _, _, _, _, _, _, rfl, HF.out⟩
    · obtain rfl := F.f9 (by simp [hdep])
      have HF : Hid (dis4F bv b3 x y z1 z2 zb t0 t1 t2 t3 t4 t5 t6 t7 t8 S0 S1 S2 (upd d_ 12) x28 x29 x30 x31 x32 x33 x34 x27 x35 (.bool zb) x8 (.bool zb) ms u1 w1) := ⟨F.q3, F.q4, F.q5, F.q6, F.q7, F.q8, F.q9, F.q11, fun _ => ⟨(show _ from (by simp [hdep] : d_ 0 = true)), (show _ from (by simp [hdep] : d_ 1 = true)), (show _ from (by simp [hdep] : d_ 2 = true)), (show _ from (by simp [hdep] : d_ 3 = true)), (show _ from (by simp [hdep] : d_ 4 = true)), (show _ from (by simp [hdep] : d_ 5 = true)), (show _ from (by simp [hdep] : d_ 6 = true)), (show _ from (by simp [hdep] : d_ 7 = true)), (show _ from (by simp [hdep] : d_ 8 = true)), (show _ from (by simp [hdep] : d_ 9 = true)), (show _ from (by simp [hdep] : d_ 10 = true)), (show _ from (by simp [hdep] : d_ 11 = true))⟩, F.f0, F.f1, F.f2, F.f3, F.f4, F.f5, F.f6, F.f7, F.f8, F.f9, F.f10, fun _ => rfl, F.st0, F.st1, F.st2, F.mz⟩
      clear F
      go_simp
      exact HK.out _ _ ⟨_, _, _, _, _, _, _, _, _, _, _, _, _, _, rfl, HF.out⟩
  · rintro d_ a_ w1 hall ⟨x28, x29, x30, x31, x32, x33, x34, x27, x35, x36, x8, x9, ms, u1, rfl, F⟩
    have hall' : ∀ k, k < 13 → d_ k = true := hall
    obtain rfl := F.f0 (hall' 0 (by decide))
    obtain rfl := F.f1 (hall' 1 (by decide))
    obtain rfl := F.f2 (hall' 2 (by decide))
    obtain rfl := F.f3 (hall' 3 (by decide))
    obtain rfl := F.f4 (hall' 4 (by decide))
    obtain rfl := F.f5 (hall' 5 (by decide))
    obtain rfl := F.f6 (hall' 6 (by decide))
    obtain rfl := F.f7 (hall' 7 (by decide))
    obtain rfl := F.f8 (hall' 8 (by decide))
    obtain rfl := F.f9 (hall' 9 (by decide))
    obtain rfl := F.f10 (hall' 10 (by decide))
    obtain rfl := F.f12 (hall' 12 (by decide))
    have hst := F.st2 (hall' 11 (by decide))
    rw [show d_ 10 = true from hall' 10 (by decide)] at hst
    exact HQ.out ms u1 w1 hst
structure dis12F (bv : Nat) (b8 : Nat) (x : Int) (nz : Int) (fz : Int) (sb : Int) (sc : Int) (dv : Int) (dw : Int) (mo : Int) (z1 : Int) (z2 : Int) (zb : Bool) (S0 : Bool → Nat → World → Prop) (S1 : Bool → Nat → Nat → World → Prop) (S2 : Bool → Nat → Nat → Unit → World → Prop) (S3 : Bool → Nat → Nat → Unit → World → Prop) (d : Nat → Bool) (x69 x70 x71 x72 x73 x74 x75 x76 x77 x78 x79 x80 x81 x82 x83 x84 x85 x86 x87 x88 x89 x90 x91 x92 x93 x68 x94 x95 x13 x14 : Value) (ms : Nat) (g : Nat) (u : Unit) (w : World) : Prop where
  q1 : d 1 = true → d 0 = true
  q2 : d 2 = true → d 1 = true
  q3 : d 3 = true → d 2 = true
  q4 : d 4 = true → d 3 = true
  q6 : d 6 = true → d 5 = true
  q7 : d 7 = true → d 6 = true
  q8 : d 8 = true → d 7 = true
  q9 : d 9 = true → d 8 = true
  q10 : d 10 = true → d 4 = true ∧ d 9 = true
  q12 : d 12 = true → d 11 = true
  q13 : d 13 = true → d 12 = true
  q14 : d 14 = true → d 13 = true
  q15 : d 15 = true → d 14 = true
  q17 : d 17 = true → d 16 = true
  q18 : d 18 = true → d 17 = true
  q19 : d 19 = true → d 15 = true ∧ d 18 = true
  q20 : d 20 = true → d 19 = true
  q22 : d 22 = true → d 20 = true ∧ d 21 = true
  q23 : d 23 = true → d 22 = true
  q24 : d 24 = true → d 10 = true ∧ d 23 = true
  q25 : d 25 = true → d 24 = true
  q26 : d 26 = true → d 25 = true
  q27 : d 27 = true → d 25 = true
  q29 : d 29 = true → d 0 = true ∧ d 1 = true ∧ d 2 = true ∧ d 3 = true ∧ d 4 = true ∧ d 5 = true ∧ d 6 = true ∧ d 7 = true ∧ d 8 = true ∧ d 9 = true ∧ d 10 = true ∧ d 11 = true ∧ d 12 = true ∧ d 13 = true ∧ d 14 = true ∧ d 15 = true ∧ d 16 = true ∧ d 17 = true ∧ d 18 = true ∧ d 19 = true ∧ d 20 = true ∧ d 21 = true ∧ d 22 = true ∧ d 23 = true ∧ d 24 = true ∧ d 25 = true ∧ d 26 = true ∧ d 28 = true
  q30 : d 30 = true → d 0 = true ∧ d 1 = true ∧ d 2 = true ∧ d 3 = true ∧ d 4 = true ∧ d 5 = true ∧ d 6 = true ∧ d 7 = true ∧ d 8 = true ∧ d 9 = true ∧ d 10 = true ∧ d 11 = true ∧ d 12 = true ∧ d 13 = true ∧ d 14 = true ∧ d 15 = true ∧ d 16 = true ∧ d 17 = true ∧ d 18 = true ∧ d 19 = true ∧ d 20 = true ∧ d 21 = true ∧ d 22 = true ∧ d 23 = true ∧ d 24 = true ∧ d 25 = true ∧ d 26 = true ∧ d 27 = true ∧ d 28 = true ∧ d 29 = true
  f0 : d 0 = true → x69 = .pointer (some ⟨bv, 0, none⟩)
  f1 : d 1 = true → x70 = .pointer (some ⟨bv, 0, none⟩)
  f2 : d 2 = true → x71 = .pointer (some ⟨bv, 0, none⟩)
  f3 : d 3 = true → x72 = .pointer (some ⟨bv, 5, none⟩)
  f4 : d 4 = true → x73 = .int .i64 nz
  f5 : d 5 = true → x74 = .pointer (some ⟨bv, 0, none⟩)
  f6 : d 6 = true → x75 = .pointer (some ⟨bv, 0, none⟩)
  f7 : d 7 = true → x76 = .pointer (some ⟨bv, 0, none⟩)
  f8 : d 8 = true → x77 = .pointer (some ⟨bv, 6, none⟩)
  f9 : d 9 = true → x78 = .int .i64 fz
  f10 : d 10 = true → x79 = .agg #[.int .i64 nz, .int .i64 fz]
  f11 : d 11 = true → x80 = .pointer (some ⟨bv, 0, none⟩)
  f12 : d 12 = true → x81 = .pointer (some ⟨bv, 0, none⟩)
  f13 : d 13 = true → x82 = .pointer (some ⟨bv, 8, none⟩)
  f14 : d 14 = true → x83 = .pointer (some ⟨bv, 8, none⟩)
  f15 : d 15 = true → x84 = .int .i64 x
  f16 : d 16 = true → x85 = .pointer (some ⟨b8, 1, none⟩)
  f17 : d 17 = true → x86 = .int .i64 sb
  f18 : d 18 = true → x87 = .int .i64 sc
  f19 : d 19 = true → x88 = .int .i64 dv
  f20 : d 20 = true → x89 = .int .i64 dw
  f21 : d 21 = true → x90 = .int .i64 mo
  f22 : d 22 = true → x91 = .agg #[.int .i64 dw, .int .i64 mo]
  f23 : d 23 = true → x92 = .slice (some ⟨g, 0, none⟩) 1 1
  f24 : d 24 = true → x93 = .tuple #[.agg #[.int .i64 z1, .int .i64 z2], .bool zb]
  f25 : d 25 = true → x68 = .tuple #[.agg #[.int .i64 z1, .int .i64 z2], .bool zb]
  f26 : d 26 = true → x94 = .agg #[.int .i64 z1, .int .i64 z2]
  f27 : d 27 = true → x95 = .bool zb
  f28 : d 28 = true → x13 = .pointer (some ⟨ms, 0, none⟩)
  f30 : d 30 = true → x14 = .bool zb
  st0 : d 23 = false → S0 (d 28) ms w
  st1 : d 23 = true → d 24 = false → S1 (d 28) ms g w
  st2 : d 24 = true → d 29 = false → S2 (d 28) ms g u w
  st3 : d 29 = true → S3 (d 28) ms g u w
  mz : d 28 = false → ms = 0
noncomputable def dis12C : Code := (Try.f7.body.bind (regionAt 12)).getD .skip
set_option maxRecDepth 100000 in
set_option maxHeartbeats 4000000 in
theorem dis12 {bv : Nat} {b8 : Nat} {x : Int} {nz : Int} {fz : Int} {sb : Int} {sc : Int} {dv : Int} {dw : Int} {mo : Int} {z1 : Int} {z2 : Int} {zb : Bool} {S0 : Bool → Nat → World → Prop} {S1 : Bool → Nat → Nat → World → Prop} {S2 : Bool → Nat → Nat → Unit → World → Prop} {S3 : Bool → Nat → Nat → Unit → World → Prop} {Q : Exit → Act → World → Prop} {W1 : World} (hm1 : IntKind.i64.wrap (sb + 1) = sc) (hm2 : IntKind.i64.wrap (x.tdiv sc) = dv) (hm3 : ¬ sc = 0) (hm4 : IntKind.i64.wrap (dv + 1) = dw) (h0 : S0 false 0 W1.drew)
    (kl4 : Hid (∀ (fs : Bool) (ms : Nat) (g : Nat) (w : World), (S0 fs ms w ∨ S1 fs ms g w) → w.cell? ⟨bv, 5, none⟩ = some (.int .i64 nz)))
    (kl9 : Hid (∀ (fs : Bool) (ms : Nat) (g : Nat) (w : World), (S0 fs ms w ∨ S1 fs ms g w) → w.cell? ⟨bv, 6, none⟩ = some (.int .i64 fz)))
    (kl15 : Hid (∀ (fs : Bool) (ms : Nat) (w : World), (S0 fs ms w) → w.cell? ⟨bv, 8, none⟩ = some (.int .i64 x)))
    (kl17 : Hid (∀ (fs : Bool) (ms : Nat) (w : World), (S0 fs ms w) → w.cell? ⟨b8, 1, none⟩ = some (.int .i64 sb)))
    (kc23 : Hid (∀ (fs : Bool) (ms : Nat) (w : World), S0 fs ms w → S1 fs ms w.heap.size (w.alloc (.cells #[.int .i64 dw, .int .i64 mo] 59))))
    (kc24 : Hid (∀ (fs : Bool) (ms : Nat) (g : Nat) (w : World), S1 fs ms g w → Calls Try.prog 25 #[.agg #[.int .i64 nz, .int .i64 fz], .slice (some ⟨g, 0, none⟩) 1 1] w fun e w' => ∃ u : Unit, e = .returned (.tuple #[.agg #[.int .i64 z1, .int .i64 z2], .bool zb]) ∧ S2 fs ms g u w'))
    (ks0 : Hid (∀ (w : World), S0 false 0 w → S0 true w.heap.size (w.alloc (.cells #[.int .i64 0, .int .i64 0] 59))))
    (ks1 : Hid (∀ (g : Nat) (w : World), S1 false 0 g w → S1 true w.heap.size g (w.alloc (.cells #[.int .i64 0, .int .i64 0] 59))))
    (ks2 : Hid (∀ (g : Nat) (u : Unit) (w : World), S2 false 0 g u w → S2 true w.heap.size g u (w.alloc (.cells #[.int .i64 0, .int .i64 0] 59))))
    (kc29 : Hid (∀ (ms : Nat) (g : Nat) (u : Unit) (w : World), S2 true ms g u w → (∃ u, w.cell? ⟨ms, 0, none⟩ = some u) ∧ w.frozen? ⟨ms, 0, none⟩ = false ∧ (∃ u, w.cell? ⟨ms, 1, none⟩ = some u) ∧ w.frozen? ⟨ms, 1, none⟩ = false ∧ S3 true ms g u ((w.setCell ⟨ms, 0, none⟩ (.int .i64 z1)).setCell ⟨ms, 1, none⟩ (.int .i64 z2))))
    {s0 s1 s2 s3 s4 s5 s7 s8 s9 s11 s13 s14 s15 s16 s17 s18 s19 s20 s21 s22 s23 s24 s25 s26 s27 s28 s29 s30 s31 s32 s33 s34 s35 s36 s37 s38 s39 s40 s41 s42 s43 s44 s45 s46 s47 s48 s49 s50 s51 s52 s53 s54 s55 s56 s57 s58 s59 s60 s61 s62 s63 s64 s65 s66 s67 s68 s69 s70 s71 s72 s73 s74 s75 s76 s77 s78 s79 s80 s81 s82 s83 s84 s85 s86 s87 s88 s89 s90 s91 s92 s93 s94 s95 s96 s97 : Value} {dd : List Deferred}
    (hQ : ∀ (ms : Nat) (g : Nat) (u : Unit) (w' : World), S3 true ms g u w' → Q .normal { tmps := List.toArray (s0 :: s1 :: s2 :: s3 :: s4 :: s5 :: .pointer (some ⟨bv, 0, none⟩) :: s7 :: s8 :: s9 :: .pointer (some ⟨b8, 0, none⟩) :: s11 :: .int .i64 mo :: .pointer (some ⟨ms, 0, none⟩) :: .bool zb :: s15 :: s16 :: s17 :: s18 :: s19 :: s20 :: s21 :: s22 :: s23 :: s24 :: s25 :: s26 :: s27 :: s28 :: s29 :: s30 :: s31 :: s32 :: s33 :: s34 :: s35 :: s36 :: s37 :: s38 :: s39 :: s40 :: s41 :: s42 :: s43 :: s44 :: s45 :: s46 :: s47 :: s48 :: s49 :: s50 :: s51 :: s52 :: s53 :: s54 :: s55 :: s56 :: s57 :: s58 :: s59 :: s60 :: s61 :: s62 :: s63 :: s64 :: s65 :: s66 :: s67 :: .tuple #[.agg #[.int .i64 z1, .int .i64 z2], .bool zb] :: .pointer (some ⟨bv, 0, none⟩) :: .pointer (some ⟨bv, 0, none⟩) :: .pointer (some ⟨bv, 0, none⟩) :: .pointer (some ⟨bv, 5, none⟩) :: .int .i64 nz :: .pointer (some ⟨bv, 0, none⟩) :: .pointer (some ⟨bv, 0, none⟩) :: .pointer (some ⟨bv, 0, none⟩) :: .pointer (some ⟨bv, 6, none⟩) :: .int .i64 fz :: .agg #[.int .i64 nz, .int .i64 fz] :: .pointer (some ⟨bv, 0, none⟩) :: .pointer (some ⟨bv, 0, none⟩) :: .pointer (some ⟨bv, 8, none⟩) :: .pointer (some ⟨bv, 8, none⟩) :: .int .i64 x :: .pointer (some ⟨b8, 1, none⟩) :: .int .i64 sb :: .int .i64 sc :: .int .i64 dv :: .int .i64 dw :: .int .i64 mo :: .agg #[.int .i64 dw, .int .i64 mo] :: .slice (some ⟨g, 0, none⟩) 1 1 :: .tuple #[.agg #[.int .i64 z1, .int .i64 z2], .bool zb] :: .agg #[.int .i64 z1, .int .i64 z2] :: .bool zb :: s96 :: s97 :: []), defers := dd } w') :
    Code.wpIn (wideAt none) 0 Try.prog dis12C Q { tmps := List.toArray (s0 :: s1 :: s2 :: s3 :: s4 :: s5 :: .pointer (some ⟨bv, 0, none⟩) :: s7 :: s8 :: s9 :: .pointer (some ⟨b8, 0, none⟩) :: s11 :: .int .i64 mo :: s13 :: s14 :: s15 :: s16 :: s17 :: s18 :: s19 :: s20 :: s21 :: s22 :: s23 :: s24 :: s25 :: s26 :: s27 :: s28 :: s29 :: s30 :: s31 :: s32 :: s33 :: s34 :: s35 :: s36 :: s37 :: s38 :: s39 :: s40 :: s41 :: s42 :: s43 :: s44 :: s45 :: s46 :: s47 :: s48 :: s49 :: s50 :: s51 :: s52 :: s53 :: s54 :: s55 :: s56 :: s57 :: s58 :: s59 :: s60 :: s61 :: s62 :: s63 :: s64 :: s65 :: s66 :: s67 :: s68 :: s69 :: s70 :: s71 :: s72 :: s73 :: s74 :: s75 :: s76 :: s77 :: s78 :: s79 :: s80 :: s81 :: s82 :: s83 :: s84 :: s85 :: s86 :: s87 :: s88 :: s89 :: s90 :: s91 :: s92 :: s93 :: s94 :: s95 :: s96 :: s97 :: []), defers := dd } W1 := by
  have HQ := Lib.hid hQ
  clear hQ
  conv => arg 4; whnf
  refine wpIn_region_invG mixed (by kernel_rfl) (fun d_ a_ w' => ∃ (x69 : Value) (x70 : Value) (x71 : Value) (x72 : Value) (x73 : Value) (x74 : Value) (x75 : Value) (x76 : Value) (x77 : Value) (x78 : Value) (x79 : Value) (x80 : Value) (x81 : Value) (x82 : Value) (x83 : Value) (x84 : Value) (x85 : Value) (x86 : Value) (x87 : Value) (x88 : Value) (x89 : Value) (x90 : Value) (x91 : Value) (x92 : Value) (x93 : Value) (x68 : Value) (x94 : Value) (x95 : Value) (x13 : Value) (x14 : Value) (ms : Nat) (g : Nat) (u : Unit), a_ = { tmps := List.toArray (s0 :: s1 :: s2 :: s3 :: s4 :: s5 :: .pointer (some ⟨bv, 0, none⟩) :: s7 :: s8 :: s9 :: .pointer (some ⟨b8, 0, none⟩) :: s11 :: .int .i64 mo :: x13 :: x14 :: s15 :: s16 :: s17 :: s18 :: s19 :: s20 :: s21 :: s22 :: s23 :: s24 :: s25 :: s26 :: s27 :: s28 :: s29 :: s30 :: s31 :: s32 :: s33 :: s34 :: s35 :: s36 :: s37 :: s38 :: s39 :: s40 :: s41 :: s42 :: s43 :: s44 :: s45 :: s46 :: s47 :: s48 :: s49 :: s50 :: s51 :: s52 :: s53 :: s54 :: s55 :: s56 :: s57 :: s58 :: s59 :: s60 :: s61 :: s62 :: s63 :: s64 :: s65 :: s66 :: s67 :: x68 :: x69 :: x70 :: x71 :: x72 :: x73 :: x74 :: x75 :: x76 :: x77 :: x78 :: x79 :: x80 :: x81 :: x82 :: x83 :: x84 :: x85 :: x86 :: x87 :: x88 :: x89 :: x90 :: x91 :: x92 :: x93 :: x94 :: x95 :: s96 :: s97 :: []), defers := dd } ∧ dis12F bv b8 x nz fz sb sc dv dw mo z1 z2 zb S0 S1 S2 S3 d_ x69 x70 x71 x72 x73 x74 x75 x76 x77 x78 x79 x80 x81 x82 x83 x84 x85 x86 x87 x88 x89 x90 x91 x92 x93 x68 x94 x95 x13 x14 ms g u w') ?_ ?_ ?_
  · refine ⟨s69, s70, s71, s72, s73, s74, s75, s76, s77, s78, s79, s80, s81, s82, s83, s84, s85, s86, s87, s88, s89, s90, s91, s92, s93, s68, s94, s95, s13, s14, 0, 0, default, rfl, ?_⟩
    constructor <;> first | rfl | (intro _; rfl) | (intro h; cases h; done) | (intro _; exact h0) | exact h0
  · refine ⟨?_, ?_, ?_, ?_, ?_, ?_, ?_, ?_, ?_, ?_, ?_, ?_, ?_, ?_, ?_, ?_, ?_, ?_, ?_, ?_, ?_, ?_, ?_, ?_, ?_, ?_, ?_, ?_, ?_, ?_, ?_, trivial⟩
    all_goals
      rintro d_ a_ w1 K hd_ hdep ⟨x69, x70, x71, x72, x73, x74, x75, x76, x77, x78, x79, x80, x81, x82, x83, x84, x85, x86, x87, x88, x89, x90, x91, x92, x93, x68, x94, x95, x13, x14, ms, g, u, rfl, F⟩ HK
      simp [Region.binds] at hdep
    · have HF : Hid (dis12F bv b8 x nz fz sb sc dv dw mo z1 z2 zb S0 S1 S2 S3 (upd d_ 0) (.pointer (some ⟨bv, 0, none⟩)) x70 x71 x72 x73 x74 x75 x76 x77 x78 x79 x80 x81 x82 x83 x84 x85 x86 x87 x88 x89 x90 x91 x92 x93 x68 x94 x95 x13 x14 ms g u w1) := ⟨fun h => rfl, F.q2, F.q3, F.q4, F.q6, F.q7, F.q8, F.q9, F.q10, F.q12, F.q13, F.q14, F.q15, F.q17, F.q18, F.q19, F.q20, F.q22, F.q23, F.q24, F.q25, F.q26, F.q27, fun h => andM0 (F.q29 h) rfl, fun h => andM0 (F.q30 h) rfl, fun _ => rfl, F.f1, F.f2, F.f3, F.f4, F.f5, F.f6, F.f7, F.f8, F.f9, F.f10, F.f11, F.f12, F.f13, F.f14, F.f15, F.f16, F.f17, F.f18, F.f19, F.f20, F.f21, F.f22, F.f23, F.f24, F.f25, F.f26, F.f27, F.f28, F.f30, F.st0, F.st1, F.st2, F.st3, F.mz⟩
      clear F
      go_simp
      exact HK.out _ _ ⟨_, _, _, _, _, _, _, _, _, _, _, _, _, _, _, _, _, _, _, _, _, _, _, _, _, _, _, _, _, _, _, _, _, rfl, HF.out⟩
    · obtain rfl := F.f0 (by simp [hdep])
      have HF : Hid (dis12F bv b8 x nz fz sb sc dv dw mo z1 z2 zb S0 S1 S2 S3 (upd d_ 1) (.pointer (some ⟨bv, 0, none⟩)) (.pointer (some ⟨bv, 0, none⟩)) x71 x72 x73 x74 x75 x76 x77 x78 x79 x80 x81 x82 x83 x84 x85 x86 x87 x88 x89 x90 x91 x92 x93 x68 x94 x95 x13 x14 ms g u w1) := ⟨fun _ => (show _ from (by simp [hdep] : d_ 0 = true)), fun h => rfl, F.q3, F.q4, F.q6, F.q7, F.q8, F.q9, F.q10, F.q12, F.q13, F.q14, F.q15, F.q17, F.q18, F.q19, F.q20, F.q22, F.q23, F.q24, F.q25, F.q26, F.q27, fun h => andM1 (F.q29 h) rfl, fun h => andM1 (F.q30 h) rfl, F.f0, fun _ => rfl, F.f2, F.f3, F.f4, F.f5, F.f6, F.f7, F.f8, F.f9, F.f10, F.f11, F.f12, F.f13, F.f14, F.f15, F.f16, F.f17, F.f18, F.f19, F.f20, F.f21, F.f22, F.f23, F.f24, F.f25, F.f26, F.f27, F.f28, F.f30, F.st0, F.st1, F.st2, F.st3, F.mz⟩
      clear F
      go_simp
      exact HK.out _ _ ⟨_, _, _, _, _, _, _, _, _, _, _, _, _, _, _, _, _, _, _, _, _, _, _, _, _, _, _, _, _, _, _, _, _, rfl, HF.out⟩
    · obtain rfl := F.f1 (by simp [hdep])
      have HF : Hid (dis12F bv b8 x nz fz sb sc dv dw mo z1 z2 zb S0 S1 S2 S3 (upd d_ 2) x69 (.pointer (some ⟨bv, 0, none⟩)) (.pointer (some ⟨bv, 0, none⟩)) x72 x73 x74 x75 x76 x77 x78 x79 x80 x81 x82 x83 x84 x85 x86 x87 x88 x89 x90 x91 x92 x93 x68 x94 x95 x13 x14 ms g u w1) := ⟨F.q1, fun _ => (show _ from (by simp [hdep] : d_ 1 = true)), fun h => rfl, F.q4, F.q6, F.q7, F.q8, F.q9, F.q10, F.q12, F.q13, F.q14, F.q15, F.q17, F.q18, F.q19, F.q20, F.q22, F.q23, F.q24, F.q25, F.q26, F.q27, fun h => andM2 (F.q29 h) rfl, fun h => andM2 (F.q30 h) rfl, F.f0, F.f1, fun _ => rfl, F.f3, F.f4, F.f5, F.f6, F.f7, F.f8, F.f9, F.f10, F.f11, F.f12, F.f13, F.f14, F.f15, F.f16, F.f17, F.f18, F.f19, F.f20, F.f21, F.f22, F.f23, F.f24, F.f25, F.f26, F.f27, F.f28, F.f30, F.st0, F.st1, F.st2, F.st3, F.mz⟩
      clear F
      go_simp
      exact HK.out _ _ ⟨_, _, _, _, _, _, _, _, _, _, _, _, _, _, _, _, _, _, _, _, _, _, _, _, _, _, _, _, _, _, _, _, _, rfl, HF.out⟩
    · obtain rfl := F.f2 (by simp [hdep])
      have HF : Hid (dis12F bv b8 x nz fz sb sc dv dw mo z1 z2 zb S0 S1 S2 S3 (upd d_ 3) x69 x70 (.pointer (some ⟨bv, 0, none⟩)) (.pointer (some ⟨bv, 5, none⟩)) x73 x74 x75 x76 x77 x78 x79 x80 x81 x82 x83 x84 x85 x86 x87 x88 x89 x90 x91 x92 x93 x68 x94 x95 x13 x14 ms g u w1) := ⟨F.q1, F.q2, fun _ => (show _ from (by simp [hdep] : d_ 2 = true)), fun h => rfl, F.q6, F.q7, F.q8, F.q9, F.q10, F.q12, F.q13, F.q14, F.q15, F.q17, F.q18, F.q19, F.q20, F.q22, F.q23, F.q24, F.q25, F.q26, F.q27, fun h => andM3 (F.q29 h) rfl, fun h => andM3 (F.q30 h) rfl, F.f0, F.f1, F.f2, fun _ => rfl, F.f4, F.f5, F.f6, F.f7, F.f8, F.f9, F.f10, F.f11, F.f12, F.f13, F.f14, F.f15, F.f16, F.f17, F.f18, F.f19, F.f20, F.f21, F.f22, F.f23, F.f24, F.f25, F.f26, F.f27, F.f28, F.f30, F.st0, F.st1, F.st2, F.st3, F.mz⟩
      clear F
      go_simp
      exact HK.out _ _ ⟨_, _, _, _, _, _, _, _, _, _, _, _, _, _, _, _, _, _, _, _, _, _, _, _, _, _, _, _, _, _, _, _, _, rfl, HF.out⟩
    · have hst : S0 (d_ 28) ms w1 ∨ S1 (d_ 28) ms g w1 := by
        cases e1 : d_ 23 with
        | false => exact .inl ((F.st0 e1))
        | true =>
          have n_ : d_ 24 = false := by
            cases e_ : d_ 24 with
            | false => rfl
            | true => have h2 := (F.q10 (F.q24 e_).1).1; rw [show d_ 4 = false from hd_] at h2; cases h2
          exact .inr ((F.st1 e1 n_))
      have kk := kl4.out (d_ 28) ms g w1 hst
      clear hst
      obtain rfl := F.f3 (by simp [hdep])
      have HF : Hid (dis12F bv b8 x nz fz sb sc dv dw mo z1 z2 zb S0 S1 S2 S3 (upd d_ 4) x69 x70 x71 (.pointer (some ⟨bv, 5, none⟩)) (.int .i64 nz) x74 x75 x76 x77 x78 x79 x80 x81 x82 x83 x84 x85 x86 x87 x88 x89 x90 x91 x92 x93 x68 x94 x95 x13 x14 ms g u w1) := ⟨F.q1, F.q2, F.q3, fun _ => (show _ from (by simp [hdep] : d_ 3 = true)), F.q6, F.q7, F.q8, F.q9, fun h => andM0 (F.q10 h) rfl, F.q12, F.q13, F.q14, F.q15, F.q17, F.q18, F.q19, F.q20, F.q22, F.q23, F.q24, F.q25, F.q26, F.q27, fun h => andM4 (F.q29 h) rfl, fun h => andM4 (F.q30 h) rfl, F.f0, F.f1, F.f2, F.f3, fun _ => rfl, F.f5, F.f6, F.f7, F.f8, F.f9, F.f10, F.f11, F.f12, F.f13, F.f14, F.f15, F.f16, F.f17, F.f18, F.f19, F.f20, F.f21, F.f22, F.f23, F.f24, F.f25, F.f26, F.f27, F.f28, F.f30, F.st0, F.st1, F.st2, F.st3, F.mz⟩
      clear F
      go_simp
      exact HK.out _ _ ⟨_, _, _, _, _, _, _, _, _, _, _, _, _, _, _, _, _, _, _, _, _, _, _, _, _, _, _, _, _, _, _, _, _, rfl, HF.out⟩
    · have HF : Hid (dis12F bv b8 x nz fz sb sc dv dw mo z1 z2 zb S0 S1 S2 S3 (upd d_ 5) x69 x70 x71 x72 x73 (.pointer (some ⟨bv, 0, none⟩)) x75 x76 x77 x78 x79 x80 x81 x82 x83 x84 x85 x86 x87 x88 x89 x90 x91 x92 x93 x68 x94 x95 x13 x14 ms g u w1) := ⟨F.q1, F.q2, F.q3, F.q4, fun h => rfl, F.q7, F.q8, F.q9, F.q10, F.q12, F.q13, F.q14, F.q15, F.q17, F.q18, F.q19, F.q20, F.q22, F.q23, F.q24, F.q25, F.q26, F.q27, fun h => andM5 (F.q29 h) rfl, fun h => andM5 (F.q30 h) rfl, F.f0, F.f1, F.f2, F.f3, F.f4, fun _ => rfl, F.f6, F.f7, F.f8, F.f9, F.f10, F.f11, F.f12, F.f13, F.f14, F.f15, F.f16, F.f17, F.f18, F.f19, F.f20, F.f21, F.f22, F.f23, F.f24, F.f25, F.f26, F.f27, F.f28, F.f30, F.st0, F.st1, F.st2, F.st3, F.mz⟩
      clear F
      go_simp
      exact HK.out _ _ ⟨_, _, _, _, _, _, _, _, _, _, _, _, _, _, _, _, _, _, _, _, _, _, _, _, _, _, _, _, _, _, _, _, _, rfl, HF.out⟩
    · obtain rfl := F.f5 (by simp [hdep])
      have HF : Hid (dis12F bv b8 x nz fz sb sc dv dw mo z1 z2 zb S0 S1 S2 S3 (upd d_ 6) x69 x70 x71 x72 x73 (.pointer (some ⟨bv, 0, none⟩)) (.pointer (some ⟨bv, 0, none⟩)) x76 x77 x78 x79 x80 x81 x82 x83 x84 x85 x86 x87 x88 x89 x90 x91 x92 x93 x68 x94 x95 x13 x14 ms g u w1) := ⟨F.q1, F.q2, F.q3, F.q4, fun _ => (show _ from (by simp [hdep] : d_ 5 = true)), fun h => rfl, F.q8, F.q9, F.q10, F.q12, F.q13, F.q14, F.q15, F.q17, F.q18, F.q19, F.q20, F.q22, F.q23, F.q24, F.q25, F.q26, F.q27, fun h => andM6 (F.q29 h) rfl, fun h => andM6 (F.q30 h) rfl, F.f0, F.f1, F.f2, F.f3, F.f4, F.f5, fun _ => rfl, F.f7, F.f8, F.f9, F.f10, F.f11, F.f12, F.f13, F.f14, F.f15, F.f16, F.f17, F.f18, F.f19, F.f20, F.f21, F.f22, F.f23, F.f24, F.f25, F.f26, F.f27, F.f28, F.f30, F.st0, F.st1, F.st2, F.st3, F.mz⟩
      clear F
      go_simp
      exact HK.out _ _ ⟨_, _, _, _, _, _, _, _, _, _, _, _, _, _, _, _, _, _, _, _, _, _, _, _, _, _, _, _, _, _, _, _, _, rfl, HF.out⟩
    · obtain rfl := F.f6 (by simp [hdep])
      have HF : Hid (dis12F bv b8 x nz fz sb sc dv dw mo z1 z2 zb S0 S1 S2 S3 (upd d_ 7) x69 x70 x71 x72 x73 x74 (.pointer (some ⟨bv, 0, none⟩)) (.pointer (some ⟨bv, 0, none⟩)) x77 x78 x79 x80 x81 x82 x83 x84 x85 x86 x87 x88 x89 x90 x91 x92 x93 x68 x94 x95 x13 x14 ms g u w1) := ⟨F.q1, F.q2, F.q3, F.q4, F.q6, fun _ => (show _ from (by simp [hdep] : d_ 6 = true)), fun h => rfl, F.q9, F.q10, F.q12, F.q13, F.q14, F.q15, F.q17, F.q18, F.q19, F.q20, F.q22, F.q23, F.q24, F.q25, F.q26, F.q27, fun h => andM7 (F.q29 h) rfl, fun h => andM7 (F.q30 h) rfl, F.f0, F.f1, F.f2, F.f3, F.f4, F.f5, F.f6, fun _ => rfl, F.f8, F.f9, F.f10, F.f11, F.f12, F.f13, F.f14, F.f15, F.f16, F.f17, F.f18, F.f19, F.f20, F.f21, F.f22, F.f23, F.f24, F.f25, F.f26, F.f27, F.f28, F.f30, F.st0, F.st1, F.st2, F.st3, F.mz⟩
      clear F
      go_simp
      exact HK.out _ _ ⟨_, _, _, _, _, _, _, _, _, _, _, _, _, _, _, _, _, _, _, _, _, _, _, _, _, _, _, _, _, _, _, _, _, rfl, HF.out⟩
    · obtain rfl := F.f7 (by simp [hdep])
      have HF : Hid (dis12F bv b8 x nz fz sb sc dv dw mo z1 z2 zb S0 S1 S2 S3 (upd d_ 8) x69 x70 x71 x72 x73 x74 x75 (.pointer (some ⟨bv, 0, none⟩)) (.pointer (some ⟨bv, 6, none⟩)) x78 x79 x80 x81 x82 x83 x84 x85 x86 x87 x88 x89 x90 x91 x92 x93 x68 x94 x95 x13 x14 ms g u w1) := ⟨F.q1, F.q2, F.q3, F.q4, F.q6, F.q7, fun _ => (show _ from (by simp [hdep] : d_ 7 = true)), fun h => rfl, F.q10, F.q12, F.q13, F.q14, F.q15, F.q17, F.q18, F.q19, F.q20, F.q22, F.q23, F.q24, F.q25, F.q26, F.q27, fun h => andM8 (F.q29 h) rfl, fun h => andM8 (F.q30 h) rfl, F.f0, F.f1, F.f2, F.f3, F.f4, F.f5, F.f6, F.f7, fun _ => rfl, F.f9, F.f10, F.f11, F.f12, F.f13, F.f14, F.f15, F.f16, F.f17, F.f18, F.f19, F.f20, F.f21, F.f22, F.f23, F.f24, F.f25, F.f26, F.f27, F.f28, F.f30, F.st0, F.st1, F.st2, F.st3, F.mz⟩
      clear F
      go_simp
      exact HK.out _ _ ⟨_, _, _, _, _, _, _, _, _, _, _, _, _, _, _, _, _, _, _, _, _, _, _, _, _, _, _, _, _, _, _, _, _, rfl, HF.out⟩
    · have hst : S0 (d_ 28) ms w1 ∨ S1 (d_ 28) ms g w1 := by
        cases e1 : d_ 23 with
        | false => exact .inl ((F.st0 e1))
        | true =>
          have n_ : d_ 24 = false := by
            cases e_ : d_ 24 with
            | false => rfl
            | true => have h2 := (F.q10 (F.q24 e_).1).2; rw [show d_ 9 = false from hd_] at h2; cases h2
          exact .inr ((F.st1 e1 n_))
      have kk := kl9.out (d_ 28) ms g w1 hst
      clear hst
      obtain rfl := F.f8 (by simp [hdep])
      have HF : Hid (dis12F bv b8 x nz fz sb sc dv dw mo z1 z2 zb S0 S1 S2 S3 (upd d_ 9) x69 x70 x71 x72 x73 x74 x75 x76 (.pointer (some ⟨bv, 6, none⟩)) (.int .i64 fz) x79 x80 x81 x82 x83 x84 x85 x86 x87 x88 x89 x90 x91 x92 x93 x68 x94 x95 x13 x14 ms g u w1) := ⟨F.q1, F.q2, F.q3, F.q4, F.q6, F.q7, F.q8, fun _ => (show _ from (by simp [hdep] : d_ 8 = true)), fun h => andL1 (F.q10 h) rfl, F.q12, F.q13, F.q14, F.q15, F.q17, F.q18, F.q19, F.q20, F.q22, F.q23, F.q24, F.q25, F.q26, F.q27, fun h => andM9 (F.q29 h) rfl, fun h => andM9 (F.q30 h) rfl, F.f0, F.f1, F.f2, F.f3, F.f4, F.f5, F.f6, F.f7, F.f8, fun _ => rfl, F.f10, F.f11, F.f12, F.f13, F.f14, F.f15, F.f16, F.f17, F.f18, F.f19, F.f20, F.f21, F.f22, F.f23, F.f24, F.f25, F.f26, F.f27, F.f28, F.f30, F.st0, F.st1, F.st2, F.st3, F.mz⟩
      clear F
      go_simp
      exact HK.out _ _ ⟨_, _, _, _, _, _, _, _, _, _, _, _, _, _, _, _, _, _, _, _, _, _, _, _, _, _, _, _, _, _, _, _, _, rfl, HF.out⟩
    · obtain rfl := F.f4 (by simp [hdep])
      obtain rfl := F.f9 (by simp [hdep])
      have HF : Hid (dis12F bv b8 x nz fz sb sc dv dw mo z1 z2 zb S0 S1 S2 S3 (upd d_ 10) x69 x70 x71 x72 (.int .i64 nz) x74 x75 x76 x77 (.int .i64 fz) (.agg #[.int .i64 nz, .int .i64 fz]) x80 x81 x82 x83 x84 x85 x86 x87 x88 x89 x90 x91 x92 x93 x68 x94 x95 x13 x14 ms g u w1) := ⟨F.q1, F.q2, F.q3, F.q4, F.q6, F.q7, F.q8, F.q9, fun _ => ⟨(show _ from (by simp [hdep] : d_ 4 = true)), (show _ from (by simp [hdep] : d_ 9 = true))⟩, F.q12, F.q13, F.q14, F.q15, F.q17, F.q18, F.q19, F.q20, F.q22, F.q23, fun h => andM0 (F.q24 h) rfl, F.q25, F.q26, F.q27, fun h => andM10 (F.q29 h) rfl, fun h => andM10 (F.q30 h) rfl, F.f0, F.f1, F.f2, F.f3, F.f4, F.f5, F.f6, F.f7, F.f8, F.f9, fun _ => rfl, F.f11, F.f12, F.f13, F.f14, F.f15, F.f16, F.f17, F.f18, F.f19, F.f20, F.f21, F.f22, F.f23, F.f24, F.f25, F.f26, F.f27, F.f28, F.f30, F.st0, F.st1, F.st2, F.st3, F.mz⟩
      clear F
      go_simp
      exact HK.out _ _ ⟨_, _, _, _, _, _, _, _, _, _, _, _, _, _, _, _, _, _, _, _, _, _, _, _, _, _, _, _, _, _, _, _, _, rfl, HF.out⟩
    · have HF : Hid (dis12F bv b8 x nz fz sb sc dv dw mo z1 z2 zb S0 S1 S2 S3 (upd d_ 11) x69 x70 x71 x72 x73 x74 x75 x76 x77 x78 x79 (.pointer (some ⟨bv, 0, none⟩)) x81 x82 x83 x84 x85 x86 x87 x88 x89 x90 x91 x92 x93 x68 x94 x95 x13 x14 ms g u w1) := ⟨F.q1, F.q2, F.q3, F.q4, F.q6, F.q7, F.q8, F.q9, F.q10, fun h => rfl, F.q13, F.q14, F.q15, F.q17, F.q18, F.q19, F.q20, F.q22, F.q23, F.q24, F.q25, F.q26, F.q27, fun h => andM11 (F.q29 h) rfl, fun h => andM11 (F.q30 h) rfl, F.f0, F.f1, F.f2, F.f3, F.f4, F.f5, F.f6, F.f7, F.f8, F.f9, F.f10, fun _ => rfl, F.f12, F.f13, F.f14, F.f15, F.f16, F.f17, F.f18, F.f19, F.f20, F.f21, F.f22, F.f23, F.f24, F.f25, F.f26, F.f27, F.f28, F.f30, F.st0, F.st1, F.st2, F.st3, F.mz⟩
      clear F
      go_simp
      exact HK.out _ _ ⟨_, _, _, _, _, _, _, _, _, _, _, _, _, _, _, _, _, _, _, _, _, _, _, _, _, _, _, _, _, _, _, _, _, rfl, HF.out⟩
    · obtain rfl := F.f11 (by simp [hdep])
      have HF : Hid (dis12F bv b8 x nz fz sb sc dv dw mo z1 z2 zb S0 S1 S2 S3 (upd d_ 12) x69 x70 x71 x72 x73 x74 x75 x76 x77 x78 x79 (.pointer (some ⟨bv, 0, none⟩)) (.pointer (some ⟨bv, 0, none⟩)) x82 x83 x84 x85 x86 x87 x88 x89 x90 x91 x92 x93 x68 x94 x95 x13 x14 ms g u w1) := ⟨F.q1, F.q2, F.q3, F.q4, F.q6, F.q7, F.q8, F.q9, F.q10, fun _ => (show _ from (by simp [hdep] : d_ 11 = true)), fun h => rfl, F.q14, F.q15, F.q17, F.q18, F.q19, F.q20, F.q22, F.q23, F.q24, F.q25, F.q26, F.q27, fun h => andM12 (F.q29 h) rfl, fun h => andM12 (F.q30 h) rfl, F.f0, F.f1, F.f2, F.f3, F.f4, F.f5, F.f6, F.f7, F.f8, F.f9, F.f10, F.f11, fun _ => rfl, F.f13, F.f14, F.f15, F.f16, F.f17, F.f18, F.f19, F.f20, F.f21, F.f22, F.f23, F.f24, F.f25, F.f26, F.f27, F.f28, F.f30, F.st0, F.st1, F.st2, F.st3, F.mz⟩
      clear F
      go_simp
      exact HK.out _ _ ⟨_, _, _, _, _, _, _, _, _, _, _, _, _, _, _, _, _, _, _, _, _, _, _, _, _, _, _, _, _, _, _, _, _, rfl, HF.out⟩
    · obtain rfl := F.f12 (by simp [hdep])
      have HF : Hid (dis12F bv b8 x nz fz sb sc dv dw mo z1 z2 zb S0 S1 S2 S3 (upd d_ 13) x69 x70 x71 x72 x73 x74 x75 x76 x77 x78 x79 x80 (.pointer (some ⟨bv, 0, none⟩)) (.pointer (some ⟨bv, 8, none⟩)) x83 x84 x85 x86 x87 x88 x89 x90 x91 x92 x93 x68 x94 x95 x13 x14 ms g u w1) := ⟨F.q1, F.q2, F.q3, F.q4, F.q6, F.q7, F.q8, F.q9, F.q10, F.q12, fun _ => (show _ from (by simp [hdep] : d_ 12 = true)), fun h => rfl, F.q15, F.q17, F.q18, F.q19, F.q20, F.q22, F.q23, F.q24, F.q25, F.q26, F.q27, fun h => andM13 (F.q29 h) rfl, fun h => andM13 (F.q30 h) rfl, F.f0, F.f1, F.f2, F.f3, F.f4, F.f5, F.f6, F.f7, F.f8, F.f9, F.f10, F.f11, F.f12, fun _ => rfl, F.f14, F.f15, F.f16, F.f17, F.f18, F.f19, F.f20, F.f21, F.f22, F.f23, F.f24, F.f25, F.f26, F.f27, F.f28, F.f30, F.st0, F.st1, F.st2, F.st3, F.mz⟩
      clear F
      go_simp
      exact HK.out _ _ ⟨_, _, _, _, _, _, _, _, _, _, _, _, _, _, _, _, _, _, _, _, _, _, _, _, _, _, _, _, _, _, _, _, _, rfl, HF.out⟩
    · obtain rfl := F.f13 (by simp [hdep])
      have HF : Hid (dis12F bv b8 x nz fz sb sc dv dw mo z1 z2 zb S0 S1 S2 S3 (upd d_ 14) x69 x70 x71 x72 x73 x74 x75 x76 x77 x78 x79 x80 x81 (.pointer (some ⟨bv, 8, none⟩)) (.pointer (some ⟨bv, 8, none⟩)) x84 x85 x86 x87 x88 x89 x90 x91 x92 x93 x68 x94 x95 x13 x14 ms g u w1) := ⟨F.q1, F.q2, F.q3, F.q4, F.q6, F.q7, F.q8, F.q9, F.q10, F.q12, F.q13, fun _ => (show _ from (by simp [hdep] : d_ 13 = true)), fun h => rfl, F.q17, F.q18, F.q19, F.q20, F.q22, F.q23, F.q24, F.q25, F.q26, F.q27, fun h => andM14 (F.q29 h) rfl, fun h => andM14 (F.q30 h) rfl, F.f0, F.f1, F.f2, F.f3, F.f4, F.f5, F.f6, F.f7, F.f8, F.f9, F.f10, F.f11, F.f12, F.f13, fun _ => rfl, F.f15, F.f16, F.f17, F.f18, F.f19, F.f20, F.f21, F.f22, F.f23, F.f24, F.f25, F.f26, F.f27, F.f28, F.f30, F.st0, F.st1, F.st2, F.st3, F.mz⟩
      clear F
      go_simp
      exact HK.out _ _ ⟨_, _, _, _, _, _, _, _, _, _, _, _, _, _, _, _, _, _, _, _, _, _, _, _, _, _, _, _, _, _, _, _, _, rfl, HF.out⟩
    · have hst : S0 (d_ 28) ms w1 := by
        have n_ : d_ 23 = false := by
          cases e_ : d_ 23 with
          | false => rfl
          | true => have h2 := (F.q19 (F.q20 (F.q22 (F.q23 e_)).1)).1; rw [show d_ 15 = false from hd_] at h2; cases h2
        exact (F.st0 n_)
      have kk := kl15.out (d_ 28) ms w1 hst
      clear hst
      obtain rfl := F.f14 (by simp [hdep])
      have HF : Hid (dis12F bv b8 x nz fz sb sc dv dw mo z1 z2 zb S0 S1 S2 S3 (upd d_ 15) x69 x70 x71 x72 x73 x74 x75 x76 x77 x78 x79 x80 x81 x82 (.pointer (some ⟨bv, 8, none⟩)) (.int .i64 x) x85 x86 x87 x88 x89 x90 x91 x92 x93 x68 x94 x95 x13 x14 ms g u w1) := ⟨F.q1, F.q2, F.q3, F.q4, F.q6, F.q7, F.q8, F.q9, F.q10, F.q12, F.q13, F.q14, fun _ => (show _ from (by simp [hdep] : d_ 14 = true)), F.q17, F.q18, fun h => andM0 (F.q19 h) rfl, F.q20, F.q22, F.q23, F.q24, F.q25, F.q26, F.q27, fun h => andM15 (F.q29 h) rfl, fun h => andM15 (F.q30 h) rfl, F.f0, F.f1, F.f2, F.f3, F.f4, F.f5, F.f6, F.f7, F.f8, F.f9, F.f10, F.f11, F.f12, F.f13, F.f14, fun _ => rfl, F.f16, F.f17, F.f18, F.f19, F.f20, F.f21, F.f22, F.f23, F.f24, F.f25, F.f26, F.f27, F.f28, F.f30, F.st0, F.st1, F.st2, F.st3, F.mz⟩
      clear F
      go_simp
      exact HK.out _ _ ⟨_, _, _, _, _, _, _, _, _, _, _, _, _, _, _, _, _, _, _, _, _, _, _, _, _, _, _, _, _, _, _, _, _, rfl, HF.out⟩
    · have HF : Hid (dis12F bv b8 x nz fz sb sc dv dw mo z1 z2 zb S0 S1 S2 S3 (upd d_ 16) x69 x70 x71 x72 x73 x74 x75 x76 x77 x78 x79 x80 x81 x82 x83 x84 (.pointer (some ⟨b8, 1, none⟩)) x86 x87 x88 x89 x90 x91 x92 x93 x68 x94 x95 x13 x14 ms g u w1) := ⟨F.q1, F.q2, F.q3, F.q4, F.q6, F.q7, F.q8, F.q9, F.q10, F.q12, F.q13, F.q14, F.q15, fun h => rfl, F.q18, F.q19, F.q20, F.q22, F.q23, F.q24, F.q25, F.q26, F.q27, fun h => andM16 (F.q29 h) rfl, fun h => andM16 (F.q30 h) rfl, F.f0, F.f1, F.f2, F.f3, F.f4, F.f5, F.f6, F.f7, F.f8, F.f9, F.f10, F.f11, F.f12, F.f13, F.f14, F.f15, fun _ => rfl, F.f17, F.f18, F.f19, F.f20, F.f21, F.f22, F.f23, F.f24, F.f25, F.f26, F.f27, F.f28, F.f30, F.st0, F.st1, F.st2, F.st3, F.mz⟩
      clear F
      go_simp
      exact HK.out _ _ ⟨_, _, _, _, _, _, _, _, _, _, _, _, _, _, _, _, _, _, _, _, _, _, _, _, _, _, _, _, _, _, _, _, _, rfl, HF.out⟩
    · have hst : S0 (d_ 28) ms w1 := by
        have n_ : d_ 23 = false := by
          cases e_ : d_ 23 with
          | false => rfl
          | true => have h2 := (F.q18 (F.q19 (F.q20 (F.q22 (F.q23 e_)).1)).2); rw [show d_ 17 = false from hd_] at h2; cases h2
        exact (F.st0 n_)
      have kk := kl17.out (d_ 28) ms w1 hst
      clear hst
      obtain rfl := F.f16 (by simp [hdep])
      have HF : Hid (dis12F bv b8 x nz fz sb sc dv dw mo z1 z2 zb S0 S1 S2 S3 (upd d_ 17) x69 x70 x71 x72 x73 x74 x75 x76 x77 x78 x79 x80 x81 x82 x83 x84 (.pointer (some ⟨b8, 1, none⟩)) (.int .i64 sb) x87 x88 x89 x90 x91 x92 x93 x68 x94 x95 x13 x14 ms g u w1) := ⟨F.q1, F.q2, F.q3, F.q4, F.q6, F.q7, F.q8, F.q9, F.q10, F.q12, F.q13, F.q14, F.q15, fun _ => (show _ from (by simp [hdep] : d_ 16 = true)), fun h => rfl, F.q19, F.q20, F.q22, F.q23, F.q24, F.q25, F.q26, F.q27, fun h => andM17 (F.q29 h) rfl, fun h => andM17 (F.q30 h) rfl, F.f0, F.f1, F.f2, F.f3, F.f4, F.f5, F.f6, F.f7, F.f8, F.f9, F.f10, F.f11, F.f12, F.f13, F.f14, F.f15, F.f16, fun _ => rfl, F.f18, F.f19, F.f20, F.f21, F.f22, F.f23, F.f24, F.f25, F.f26, F.f27, F.f28, F.f30, F.st0, F.st1, F.st2, F.st3, F.mz⟩
      clear F
      go_simp
      exact HK.out _ _ ⟨_, _, _, _, _, _, _, _, _, _, _, _, _, _, _, _, _, _, _, _, _, _, _, _, _, _, _, _, _, _, _, _, _, rfl, HF.out⟩
    · obtain rfl := F.f17 (by simp [hdep])
      have HF : Hid (dis12F bv b8 x nz fz sb sc dv dw mo z1 z2 zb S0 S1 S2 S3 (upd d_ 18) x69 x70 x71 x72 x73 x74 x75 x76 x77 x78 x79 x80 x81 x82 x83 x84 x85 (.int .i64 sb) (.int .i64 sc) x88 x89 x90 x91 x92 x93 x68 x94 x95 x13 x14 ms g u w1) := ⟨F.q1, F.q2, F.q3, F.q4, F.q6, F.q7, F.q8, F.q9, F.q10, F.q12, F.q13, F.q14, F.q15, F.q17, fun _ => (show _ from (by simp [hdep] : d_ 17 = true)), fun h => andL1 (F.q19 h) rfl, F.q20, F.q22, F.q23, F.q24, F.q25, F.q26, F.q27, fun h => andM18 (F.q29 h) rfl, fun h => andM18 (F.q30 h) rfl, F.f0, F.f1, F.f2, F.f3, F.f4, F.f5, F.f6, F.f7, F.f8, F.f9, F.f10, F.f11, F.f12, F.f13, F.f14, F.f15, F.f16, F.f17, fun _ => rfl, F.f19, F.f20, F.f21, F.f22, F.f23, F.f24, F.f25, F.f26, F.f27, F.f28, F.f30, F.st0, F.st1, F.st2, F.st3, F.mz⟩
      clear F
      go_simp
      exact HK.out _ _ ⟨_, _, _, _, _, _, _, _, _, _, _, _, _, _, _, _, _, _, _, _, _, _, _, _, _, _, _, _, _, _, _, _, _, rfl, HF.out⟩
    · obtain rfl := F.f15 (by simp [hdep])
      obtain rfl := F.f18 (by simp [hdep])
      have HF : Hid (dis12F bv b8 x nz fz sb sc dv dw mo z1 z2 zb S0 S1 S2 S3 (upd d_ 19) x69 x70 x71 x72 x73 x74 x75 x76 x77 x78 x79 x80 x81 x82 x83 (.int .i64 x) x85 x86 (.int .i64 sc) (.int .i64 dv) x89 x90 x91 x92 x93 x68 x94 x95 x13 x14 ms g u w1) := ⟨F.q1, F.q2, F.q3, F.q4, F.q6, F.q7, F.q8, F.q9, F.q10, F.q12, F.q13, F.q14, F.q15, F.q17, F.q18, fun _ => ⟨(show _ from (by simp [hdep] : d_ 15 = true)), (show _ from (by simp [hdep] : d_ 18 = true))⟩, fun h => rfl, F.q22, F.q23, F.q24, F.q25, F.q26, F.q27, fun h => andM19 (F.q29 h) rfl, fun h => andM19 (F.q30 h) rfl, F.f0, F.f1, F.f2, F.f3, F.f4, F.f5, F.f6, F.f7, F.f8, F.f9, F.f10, F.f11, F.f12, F.f13, F.f14, F.f15, F.f16, F.f17, F.f18, fun _ => rfl, F.f20, F.f21, F.f22, F.f23, F.f24, F.f25, F.f26, F.f27, F.f28, F.f30, F.st0, F.st1, F.st2, F.st3, F.mz⟩
      clear F
      go_simp
      exact HK.out _ _ ⟨_, _, _, _, _, _, _, _, _, _, _, _, _, _, _, _, _, _, _, _, _, _, _, _, _, _, _, _, _, _, _, _, _, rfl, HF.out⟩
    · obtain rfl := F.f19 (by simp [hdep])
      have HF : Hid (dis12F bv b8 x nz fz sb sc dv dw mo z1 z2 zb S0 S1 S2 S3 (upd d_ 20) x69 x70 x71 x72 x73 x74 x75 x76 x77 x78 x79 x80 x81 x82 x83 x84 x85 x86 x87 (.int .i64 dv) (.int .i64 dw) x90 x91 x92 x93 x68 x94 x95 x13 x14 ms g u w1) := ⟨F.q1, F.q2, F.q3, F.q4, F.q6, F.q7, F.q8, F.q9, F.q10, F.q12, F.q13, F.q14, F.q15, F.q17, F.q18, F.q19, fun _ => (show _ from (by simp [hdep] : d_ 19 = true)), fun h => andM0 (F.q22 h) rfl, F.q23, F.q24, F.q25, F.q26, F.q27, fun h => andM20 (F.q29 h) rfl, fun h => andM20 (F.q30 h) rfl, F.f0, F.f1, F.f2, F.f3, F.f4, F.f5, F.f6, F.f7, F.f8, F.f9, F.f10, F.f11, F.f12, F.f13, F.f14, F.f15, F.f16, F.f17, F.f18, F.f19, fun _ => rfl, F.f21, F.f22, F.f23, F.f24, F.f25, F.f26, F.f27, F.f28, F.f30, F.st0, F.st1, F.st2, F.st3, F.mz⟩
      clear F
      go_simp
      exact HK.out _ _ ⟨_, _, _, _, _, _, _, _, _, _, _, _, _, _, _, _, _, _, _, _, _, _, _, _, _, _, _, _, _, _, _, _, _, rfl, HF.out⟩
    · have HF : Hid (dis12F bv b8 x nz fz sb sc dv dw mo z1 z2 zb S0 S1 S2 S3 (upd d_ 21) x69 x70 x71 x72 x73 x74 x75 x76 x77 x78 x79 x80 x81 x82 x83 x84 x85 x86 x87 x88 x89 (.int .i64 mo) x91 x92 x93 x68 x94 x95 x13 x14 ms g u w1) := ⟨F.q1, F.q2, F.q3, F.q4, F.q6, F.q7, F.q8, F.q9, F.q10, F.q12, F.q13, F.q14, F.q15, F.q17, F.q18, F.q19, F.q20, fun h => andL1 (F.q22 h) rfl, F.q23, F.q24, F.q25, F.q26, F.q27, fun h => andM21 (F.q29 h) rfl, fun h => andM21 (F.q30 h) rfl, F.f0, F.f1, F.f2, F.f3, F.f4, F.f5, F.f6, F.f7, F.f8, F.f9, F.f10, F.f11, F.f12, F.f13, F.f14, F.f15, F.f16, F.f17, F.f18, F.f19, F.f20, fun _ => rfl, F.f22, F.f23, F.f24, F.f25, F.f26, F.f27, F.f28, F.f30, F.st0, F.st1, F.st2, F.st3, F.mz⟩
      clear F
      go_simp
      exact HK.out _ _ ⟨_, _, _, _, _, _, _, _, _, _, _, _, _, _, _, _, _, _, _, _, _, _, _, _, _, _, _, _, _, _, _, _, _, rfl, HF.out⟩
    · obtain rfl := F.f20 (by simp [hdep])
      obtain rfl := F.f21 (by simp [hdep])
      have HF : Hid (dis12F bv b8 x nz fz sb sc dv dw mo z1 z2 zb S0 S1 S2 S3 (upd d_ 22) x69 x70 x71 x72 x73 x74 x75 x76 x77 x78 x79 x80 x81 x82 x83 x84 x85 x86 x87 x88 (.int .i64 dw) (.int .i64 mo) (.agg #[.int .i64 dw, .int .i64 mo]) x92 x93 x68 x94 x95 x13 x14 ms g u w1) := ⟨F.q1, F.q2, F.q3, F.q4, F.q6, F.q7, F.q8, F.q9, F.q10, F.q12, F.q13, F.q14, F.q15, F.q17, F.q18, F.q19, F.q20, fun _ => ⟨(show _ from (by simp [hdep] : d_ 20 = true)), (show _ from (by simp [hdep] : d_ 21 = true))⟩, fun h => rfl, F.q24, F.q25, F.q26, F.q27, fun h => andM22 (F.q29 h) rfl, fun h => andM22 (F.q30 h) rfl, F.f0, F.f1, F.f2, F.f3, F.f4, F.f5, F.f6, F.f7, F.f8, F.f9, F.f10, F.f11, F.f12, F.f13, F.f14, F.f15, F.f16, F.f17, F.f18, F.f19, F.f20, F.f21, fun _ => rfl, F.f23, F.f24, F.f25, F.f26, F.f27, F.f28, F.f30, F.st0, F.st1, F.st2, F.st3, F.mz⟩
      clear F
      go_simp
      exact HK.out _ _ ⟨_, _, _, _, _, _, _, _, _, _, _, _, _, _, _, _, _, _, _, _, _, _, _, _, _, _, _, _, _, _, _, _, _, rfl, HF.out⟩
    · have hS := F.st0  hd_
      obtain rfl := F.f22 (by simp [hdep])
      have hres := kc23.out (d_ 28) ms w1 hS
      have HF : Hid (dis12F bv b8 x nz fz sb sc dv dw mo z1 z2 zb S0 S1 S2 S3 (upd d_ 23) x69 x70 x71 x72 x73 x74 x75 x76 x77 x78 x79 x80 x81 x82 x83 x84 x85 x86 x87 x88 x89 x90 (.agg #[.int .i64 dw, .int .i64 mo]) ((.slice (some ⟨w1.heap.size, 0, none⟩) 1 1)) x93 x68 x94 x95 x13 x14 ms w1.heap.size u (w1.alloc (.cells #[.int .i64 dw, .int .i64 mo] 59))) := ⟨F.q1, F.q2, F.q3, F.q4, F.q6, F.q7, F.q8, F.q9, F.q10, F.q12, F.q13, F.q14, F.q15, F.q17, F.q18, F.q19, F.q20, F.q22, fun _ => (show _ from (by simp [hdep] : d_ 22 = true)), fun h => andL1 (F.q24 h) rfl, F.q25, F.q26, F.q27, fun h => andM23 (F.q29 h) rfl, fun h => andM23 (F.q30 h) rfl, F.f0, F.f1, F.f2, F.f3, F.f4, F.f5, F.f6, F.f7, F.f8, F.f9, F.f10, F.f11, F.f12, F.f13, F.f14, F.f15, F.f16, F.f17, F.f18, F.f19, F.f20, F.f21, F.f22, fun _ => rfl, F.f24, F.f25, F.f26, F.f27, F.f28, F.f30, fun h => (by simp [upd] at h), fun _ _ => hres, fun h _ => (by have h2 : d_ 23 = true := (F.q24 h).2; rw [show d_ 23 = false from hd_] at h2; cases h2), fun h => (by have h2 : d_ 23 = true := (F.q29 h).2.2.2.2.2.2.2.2.2.2.2.2.2.2.2.2.2.2.2.2.2.2.2.1; rw [show d_ 23 = false from hd_] at h2; cases h2), F.mz⟩
      clear F hS hres
      go_simp
      exact HK.out _ _ ⟨_, _, _, _, _, _, _, _, _, _, _, _, _, _, _, _, _, _, _, _, _, _, _, _, _, _, _, _, _, _, _, _, _, rfl, HF.out⟩
    · have hS := F.st1 (by simp [hdep] : d_ 23 = true) hd_
      obtain rfl := F.f10 (by simp [hdep])
      obtain rfl := F.f23 (by simp [hdep])
      have hc := kc24.out (d_ 28) ms g w1 hS
      have HF := Lib.hid F
      clear F
      go_simp
      refine ⟨trivial, rfl, wideAt_calls (hc.mono ?_)⟩
      rintro e w5 ⟨v_, rfl, hres⟩
      exact HK.out _ _ ⟨_, _, _, _, _, _, _, _, _, _, _, _, _, _, _, _, _, _, _, _, _, _, _, _, _, _, _, _, _, _, ms, g, v_, rfl, ⟨HF.out.q1, HF.out.q2, HF.out.q3, HF.out.q4, HF.out.q6, HF.out.q7, HF.out.q8, HF.out.q9, HF.out.q10, HF.out.q12, HF.out.q13, HF.out.q14, HF.out.q15, HF.out.q17, HF.out.q18, HF.out.q19, HF.out.q20, HF.out.q22, HF.out.q23, fun _ => ⟨(show _ from (by simp [hdep] : d_ 10 = true)), (show _ from (by simp [hdep] : d_ 23 = true))⟩, fun h => rfl, HF.out.q26, HF.out.q27, fun h => ⟨(HF.out.q29 h).1, (HF.out.q29 h).2.1, (HF.out.q29 h).2.2.1, (HF.out.q29 h).2.2.2.1, (HF.out.q29 h).2.2.2.2.1, (HF.out.q29 h).2.2.2.2.2.1, (HF.out.q29 h).2.2.2.2.2.2.1, (HF.out.q29 h).2.2.2.2.2.2.2.1, (HF.out.q29 h).2.2.2.2.2.2.2.2.1, (HF.out.q29 h).2.2.2.2.2.2.2.2.2.1, (HF.out.q29 h).2.2.2.2.2.2.2.2.2.2.1, (HF.out.q29 h).2.2.2.2.2.2.2.2.2.2.2.1, (HF.out.q29 h).2.2.2.2.2.2.2.2.2.2.2.2.1, (HF.out.q29 h).2.2.2.2.2.2.2.2.2.2.2.2.2.1, (HF.out.q29 h).2.2.2.2.2.2.2.2.2.2.2.2.2.2.1, (HF.out.q29 h).2.2.2.2.2.2.2.2.2.2.2.2.2.2.2.1, (HF.out.q29 h).2.2.2.2.2.2.2.2.2.2.2.2.2.2.2.2.1, (HF.out.q29 h).2.2.2.2.2.2.2.2.2.2.2.2.2.2.2.2.2.1, (HF.out.q29 h).2.2.2.2.2.2.2.2.2.2.2.2.2.2.2.2.2.2.1, (HF.out.q29 h).2.2.2.2.2.2.2.2.2.2.2.2.2.2.2.2.2.2.2.1, (HF.out.q29 h).2.2.2.2.2.2.2.2.2.2.2.2.2.2.2.2.2.2.2.2.1, (HF.out.q29 h).2.2.2.2.2.2.2.2.2.2.2.2.2.2.2.2.2.2.2.2.2.1, (HF.out.q29 h).2.2.2.2.2.2.2.2.2.2.2.2.2.2.2.2.2.2.2.2.2.2.1, (HF.out.q29 h).2.2.2.2.2.2.2.2.2.2.2.2.2.2.2.2.2.2.2.2.2.2.2.1, rfl, (HF.out.q29 h).2.2.2.2.2.2.2.2.2.2.2.2.2.2.2.2.2.2.2.2.2.2.2.2.2.1, (HF.out.q29 h).2.2.2.2.2.2.2.2.2.2.2.2.2.2.2.2.2.2.2.2.2.2.2.2.2.2.1, (HF.out.q29 h).2.2.2.2.2.2.2.2.2.2.2.2.2.2.2.2.2.2.2.2.2.2.2.2.2.2.2⟩, fun h => ⟨(HF.out.q30 h).1, (HF.out.q30 h).2.1, (HF.out.q30 h).2.2.1, (HF.out.q30 h).2.2.2.1, (HF.out.q30 h).2.2.2.2.1, (HF.out.q30 h).2.2.2.2.2.1, (HF.out.q30 h).2.2.2.2.2.2.1, (HF.out.q30 h).2.2.2.2.2.2.2.1, (HF.out.q30 h).2.2.2.2.2.2.2.2.1, (HF.out.q30 h).2.2.2.2.2.2.2.2.2.1, (HF.out.q30 h).2.2.2.2.2.2.2.2.2.2.1, (HF.out.q30 h).2.2.2.2.2.2.2.2.2.2.2.1, (HF.out.q30 h).2.2.2.2.2.2.2.2.2.2.2.2.1, (HF.out.q30 h).2.2.2.2.2.2.2.2.2.2.2.2.2.1, (HF.out.q30 h).2.2.2.2.2.2.2.2.2.2.2.2.2.2.1, (HF.out.q30 h).2.2.2.2.2.2.2.2.2.2.2.2.2.2.2.1, (HF.out.q30 h).2.2.2.2.2.2.2.2.2.2.2.2.2.2.2.2.1, (HF.out.q30 h).2.2.2.2.2.2.2.2.2.2.2.2.2.2.2.2.2.1, (HF.out.q30 h).2.2.2.2.2.2.2.2.2.2.2.2.2.2.2.2.2.2.1, (HF.out.q30 h).2.2.2.2.2.2.2.2.2.2.2.2.2.2.2.2.2.2.2.1, (HF.out.q30 h).2.2.2.2.2.2.2.2.2.2.2.2.2.2.2.2.2.2.2.2.1, (HF.out.q30 h).2.2.2.2.2.2.2.2.2.2.2.2.2.2.2.2.2.2.2.2.2.1, (HF.out.q30 h).2.2.2.2.2.2.2.2.2.2.2.2.2.2.2.2.2.2.2.2.2.2.1, (HF.out.q30 h).2.2.2.2.2.2.2.2.2.2.2.2.2.2.2.2.2.2.2.2.2.2.2.1, rfl, (HF.out.q30 h).2.2.2.2.2.2.2.2.2.2.2.2.2.2.2.2.2.2.2.2.2.2.2.2.2.1, (HF.out.q30 h).2.2.2.2.2.2.2.2.2.2.2.2.2.2.2.2.2.2.2.2.2.2.2.2.2.2.1, (HF.out.q30 h).2.2.2.2.2.2.2.2.2.2.2.2.2.2.2.2.2.2.2.2.2.2.2.2.2.2.2.1, (HF.out.q30 h).2.2.2.2.2.2.2.2.2.2.2.2.2.2.2.2.2.2.2.2.2.2.2.2.2.2.2.2.1, (HF.out.q30 h).2.2.2.2.2.2.2.2.2.2.2.2.2.2.2.2.2.2.2.2.2.2.2.2.2.2.2.2.2⟩, HF.out.f0, HF.out.f1, HF.out.f2, HF.out.f3, HF.out.f4, HF.out.f5, HF.out.f6, HF.out.f7, HF.out.f8, HF.out.f9, HF.out.f10, HF.out.f11, HF.out.f12, HF.out.f13, HF.out.f14, HF.out.f15, HF.out.f16, HF.out.f17, HF.out.f18, HF.out.f19, HF.out.f20, HF.out.f21, HF.out.f22, HF.out.f23, fun _ => rfl, HF.out.f25, HF.out.f26, HF.out.f27, HF.out.f28, HF.out.f30, fun h => (by have h2 : d_ 23 = false := h; rw [(by simp [hdep] : d_ 23 = true)] at h2; cases h2), fun _ h => (by simp [upd] at h), fun _ _ => hres, fun h => (by have h2 : d_ 24 = true := (HF.out.q29 h).2.2.2.2.2.2.2.2.2.2.2.2.2.2.2.2.2.2.2.2.2.2.2.2.1; rw [show d_ 24 = false from hd_] at h2; cases h2), HF.out.mz⟩⟩
    · obtain rfl := F.f24 (by simp [hdep])
      have HF : Hid (dis12F bv b8 x nz fz sb sc dv dw mo z1 z2 zb S0 S1 S2 S3 (upd d_ 25) x69 x70 x71 x72 x73 x74 x75 x76 x77 x78 x79 x80 x81 x82 x83 x84 x85 x86 x87 x88 x89 x90 x91 x92 (.tuple #[.agg #[.int .i64 z1, .int .i64 z2], .bool zb]) (.tuple #[.agg #[.int .i64 z1, .int .i64 z2], .bool zb]) x94 x95 x13 x14 ms g u w1) := ⟨F.q1, F.q2, F.q3, F.q4, F.q6, F.q7, F.q8, F.q9, F.q10, F.q12, F.q13, F.q14, F.q15, F.q17, F.q18, F.q19, F.q20, F.q22, F.q23, F.q24, fun _ => (show _ from (by simp [hdep] : d_ 24 = true)), fun h => rfl, fun h => rfl, fun h => andM25 (F.q29 h) rfl, fun h => andM25 (F.q30 h) rfl, F.f0, F.f1, F.f2, F.f3, F.f4, F.f5, F.f6, F.f7, F.f8, F.f9, F.f10, F.f11, F.f12, F.f13, F.f14, F.f15, F.f16, F.f17, F.f18, F.f19, F.f20, F.f21, F.f22, F.f23, F.f24, fun _ => rfl, F.f26, F.f27, F.f28, F.f30, F.st0, F.st1, F.st2, F.st3, F.mz⟩
      clear F
      go_simp
      exact HK.out _ _ ⟨_, _, _, _, _, _, _, _, _, _, _, _, _, _, _, _, _, _, _, _, _, _, _, _, _, _, _, _, _, _, _, _, _, rfl, HF.out⟩
    · obtain rfl := F.f25 (by simp [hdep])
      have HF : Hid (dis12F bv b8 x nz fz sb sc dv dw mo z1 z2 zb S0 S1 S2 S3 (upd d_ 26) x69 x70 x71 x72 x73 x74 x75 x76 x77 x78 x79 x80 x81 x82 x83 x84 x85 x86 x87 x88 x89 x90 x91 x92 x93 (.tuple #[.agg #[.int .i64 z1, .int .i64 z2], .bool zb]) (.agg #[.int .i64 z1, .int .i64 z2]) x95 x13 x14 ms g u w1) := ⟨F.q1, F.q2, F.q3, F.q4, F.q6, F.q7, F.q8, F.q9, F.q10, F.q12, F.q13, F.q14, F.q15, F.q17, F.q18, F.q19, F.q20, F.q22, F.q23, F.q24, F.q25, fun _ => (show _ from (by simp [hdep] : d_ 25 = true)), F.q27, fun h => andM26 (F.q29 h) rfl, fun h => andM26 (F.q30 h) rfl, F.f0, F.f1, F.f2, F.f3, F.f4, F.f5, F.f6, F.f7, F.f8, F.f9, F.f10, F.f11, F.f12, F.f13, F.f14, F.f15, F.f16, F.f17, F.f18, F.f19, F.f20, F.f21, F.f22, F.f23, F.f24, F.f25, fun _ => rfl, F.f27, F.f28, F.f30, F.st0, F.st1, F.st2, F.st3, F.mz⟩
      clear F
      go_simp
      exact HK.out _ _ ⟨_, _, _, _, _, _, _, _, _, _, _, _, _, _, _, _, _, _, _, _, _, _, _, _, _, _, _, _, _, _, _, _, _, rfl, HF.out⟩
    · obtain rfl := F.f25 (by simp [hdep])
      have HF : Hid (dis12F bv b8 x nz fz sb sc dv dw mo z1 z2 zb S0 S1 S2 S3 (upd d_ 27) x69 x70 x71 x72 x73 x74 x75 x76 x77 x78 x79 x80 x81 x82 x83 x84 x85 x86 x87 x88 x89 x90 x91 x92 x93 (.tuple #[.agg #[.int .i64 z1, .int .i64 z2], .bool zb]) x94 (.bool zb) x13 x14 ms g u w1) := ⟨F.q1, F.q2, F.q3, F.q4, F.q6, F.q7, F.q8, F.q9, F.q10, F.q12, F.q13, F.q14, F.q15, F.q17, F.q18, F.q19, F.q20, F.q22, F.q23, F.q24, F.q25, F.q26, fun _ => (show _ from (by simp [hdep] : d_ 25 = true)), F.q29, fun h => andM27 (F.q30 h) rfl, F.f0, F.f1, F.f2, F.f3, F.f4, F.f5, F.f6, F.f7, F.f8, F.f9, F.f10, F.f11, F.f12, F.f13, F.f14, F.f15, F.f16, F.f17, F.f18, F.f19, F.f20, F.f21, F.f22, F.f23, F.f24, F.f25, F.f26, fun _ => rfl, F.f28, F.f30, F.st0, F.st1, F.st2, F.st3, F.mz⟩
      clear F
      go_simp
      exact HK.out _ _ ⟨_, _, _, _, _, _, _, _, _, _, _, _, _, _, _, _, _, _, _, _, _, _, _, _, _, _, _, _, _, _, _, _, _, rfl, HF.out⟩
    · have HF : Hid (dis12F bv b8 x nz fz sb sc dv dw mo z1 z2 zb S0 S1 S2 S3 (upd d_ 28) x69 x70 x71 x72 x73 x74 x75 x76 x77 x78 x79 x80 x81 x82 x83 x84 x85 x86 x87 x88 x89 x90 x91 x92 x93 x68 x94 x95 (.pointer (some ⟨w1.heap.size, 0, none⟩)) x14 w1.heap.size g u (w1.alloc (.cells #[.int .i64 0, .int .i64 0] 59))) := ⟨F.q1, F.q2, F.q3, F.q4, F.q6, F.q7, F.q8, F.q9, F.q10, F.q12, F.q13, F.q14, F.q15, F.q17, F.q18, F.q19, F.q20, F.q22, F.q23, F.q24, F.q25, F.q26, F.q27, fun h => andL27 (F.q29 h) rfl, fun h => andM28 (F.q30 h) rfl, F.f0, F.f1, F.f2, F.f3, F.f4, F.f5, F.f6, F.f7, F.f8, F.f9, F.f10, F.f11, F.f12, F.f13, F.f14, F.f15, F.f16, F.f17, F.f18, F.f19, F.f20, F.f21, F.f22, F.f23, F.f24, F.f25, F.f26, F.f27, fun _ => rfl, F.f30, fun b => ks0.out w1 (by have h := F.st0 b; rw [show d_ 28 = false from hd_, F.mz hd_] at h; exact h), fun a b => ks1.out g w1 (by have h := F.st1 a b; rw [show d_ 28 = false from hd_, F.mz hd_] at h; exact h), fun a b => ks2.out g u w1 (by have h := F.st2 a b; rw [show d_ 28 = false from hd_, F.mz hd_] at h; exact h), fun a => (by have h2 : d_ 28 = true := (F.q29 a).2.2.2.2.2.2.2.2.2.2.2.2.2.2.2.2.2.2.2.2.2.2.2.2.2.2.2; rw [show d_ 28 = false from hd_] at h2; cases h2), fun h => (by simp [upd] at h)⟩
      clear F
      go_simp
      exact HK.out _ _ ⟨_, _, _, _, _, _, _, _, _, _, _, _, _, _, _, _, _, _, _, _, _, _, _, _, _, _, _, _, _, _, _, _, _, rfl, HF.out⟩
    · have hS := F.st2 (by simp [hdep] : d_ 24 = true) hd_
      rw [show d_ 28 = true from (by simp [hdep] : d_ 28 = true)] at hS
      obtain rfl := F.f26 (by simp [hdep])
      obtain rfl := F.f28 (by simp [hdep])
      obtain ⟨⟨ku0, kcell0⟩, kfr0, ⟨ku1, kcell1⟩, kfr1, hres⟩ := kc29.out ms g u w1 hS
      have HF : Hid (dis12F bv b8 x nz fz sb sc dv dw mo z1 z2 zb S0 S1 S2 S3 (upd d_ 29) x69 x70 x71 x72 x73 x74 x75 x76 x77 x78 x79 x80 x81 x82 x83 x84 x85 x86 x87 x88 x89 x90 x91 x92 x93 x68 (.agg #[.int .i64 z1, .int .i64 z2]) x95 (.pointer (some ⟨ms, 0, none⟩)) x14 ms g u ((w1.setCell ⟨ms, 0, none⟩ (.int .i64 z1)).setCell ⟨ms, 1, none⟩ (.int .i64 z2))) := ⟨F.q1, F.q2, F.q3, F.q4, F.q6, F.q7, F.q8, F.q9, F.q10, F.q12, F.q13, F.q14, F.q15, F.q17, F.q18, F.q19, F.q20, F.q22, F.q23, F.q24, F.q25, F.q26, F.q27, fun _ => ⟨(show _ from (by simp [hdep] : d_ 0 = true)), (show _ from (by simp [hdep] : d_ 1 = true)), (show _ from (by simp [hdep] : d_ 2 = true)), (show _ from (by simp [hdep] : d_ 3 = true)), (show _ from (by simp [hdep] : d_ 4 = true)), (show _ from (by simp [hdep] : d_ 5 = true)), (show _ from (by simp [hdep] : d_ 6 = true)), (show _ from (by simp [hdep] : d_ 7 = true)), (show _ from (by simp [hdep] : d_ 8 = true)), (show _ from (by simp [hdep] : d_ 9 = true)), (show _ from (by simp [hdep] : d_ 10 = true)), (show _ from (by simp [hdep] : d_ 11 = true)), (show _ from (by simp [hdep] : d_ 12 = true)), (show _ from (by simp [hdep] : d_ 13 = true)), (show _ from (by simp [hdep] : d_ 14 = true)), (show _ from (by simp [hdep] : d_ 15 = true)), (show _ from (by simp [hdep] : d_ 16 = true)), (show _ from (by simp [hdep] : d_ 17 = true)), (show _ from (by simp [hdep] : d_ 18 = true)), (show _ from (by simp [hdep] : d_ 19 = true)), (show _ from (by simp [hdep] : d_ 20 = true)), (show _ from (by simp [hdep] : d_ 21 = true)), (show _ from (by simp [hdep] : d_ 22 = true)), (show _ from (by simp [hdep] : d_ 23 = true)), (show _ from (by simp [hdep] : d_ 24 = true)), (show _ from (by simp [hdep] : d_ 25 = true)), (show _ from (by simp [hdep] : d_ 26 = true)), (show _ from (by simp [hdep] : d_ 28 = true))⟩, fun h => andL29 (F.q30 h) rfl, F.f0, F.f1, F.f2, F.f3, F.f4, F.f5, F.f6, F.f7, F.f8, F.f9, F.f10, F.f11, F.f12, F.f13, F.f14, F.f15, F.f16, F.f17, F.f18, F.f19, F.f20, F.f21, F.f22, F.f23, F.f24, F.f25, F.f26, F.f27, F.f28, F.f30, fun h => (by have h2 : d_ 23 = false := h; rw [(by simp [hdep] : d_ 23 = true)] at h2; cases h2), fun _ h => (by have h2 : d_ 24 = false := h; rw [(by simp [hdep] : d_ 24 = true)] at h2; cases h2), fun _ h => (by simp [upd] at h), fun _ => (by rw [show upd d_ 29 28 = true from (by simp [hdep] : d_ 28 = true)]; exact hres), F.mz⟩
      clear F hS hres
      go_simp
      exact HK.out _ _ ⟨_, _, _, _, _, _, _, _, _, _, _, _, _, _, _, _, _, _, _, _, _, _, _, _, _, _, _, _, _, _, _, _, _, rfl, HF.out⟩
    · obtain rfl := F.f27 (by simp [hdep])
      have HF : Hid (dis12F bv b8 x nz fz sb sc dv dw mo z1 z2 zb S0 S1 S2 S3 (upd d_ 30) x69 x70 x71 x72 x73 x74 x75 x76 x77 x78 x79 x80 x81 x82 x83 x84 x85 x86 x87 x88 x89 x90 x91 x92 x93 x68 x94 (.bool zb) x13 (.bool zb) ms g u w1) := ⟨F.q1, F.q2, F.q3, F.q4, F.q6, F.q7, F.q8, F.q9, F.q10, F.q12, F.q13, F.q14, F.q15, F.q17, F.q18, F.q19, F.q20, F.q22, F.q23, F.q24, F.q25, F.q26, F.q27, F.q29, fun _ => ⟨(show _ from (by simp [hdep] : d_ 0 = true)), (show _ from (by simp [hdep] : d_ 1 = true)), (show _ from (by simp [hdep] : d_ 2 = true)), (show _ from (by simp [hdep] : d_ 3 = true)), (show _ from (by simp [hdep] : d_ 4 = true)), (show _ from (by simp [hdep] : d_ 5 = true)), (show _ from (by simp [hdep] : d_ 6 = true)), (show _ from (by simp [hdep] : d_ 7 = true)), (show _ from (by simp [hdep] : d_ 8 = true)), (show _ from (by simp [hdep] : d_ 9 = true)), (show _ from (by simp [hdep] : d_ 10 = true)), (show _ from (by simp [hdep] : d_ 11 = true)), (show _ from (by simp [hdep] : d_ 12 = true)), (show _ from (by simp [hdep] : d_ 13 = true)), (show _ from (by simp [hdep] : d_ 14 = true)), (show _ from (by simp [hdep] : d_ 15 = true)), (show _ from (by simp [hdep] : d_ 16 = true)), (show _ from (by simp [hdep] : d_ 17 = true)), (show _ from (by simp [hdep] : d_ 18 = true)), (show _ from (by simp [hdep] : d_ 19 = true)), (show _ from (by simp [hdep] : d_ 20 = true)), (show _ from (by simp [hdep] : d_ 21 = true)), (show _ from (by simp [hdep] : d_ 22 = true)), (show _ from (by simp [hdep] : d_ 23 = true)), (show _ from (by simp [hdep] : d_ 24 = true)), (show _ from (by simp [hdep] : d_ 25 = true)), (show _ from (by simp [hdep] : d_ 26 = true)), (show _ from (by simp [hdep] : d_ 27 = true)), (show _ from (by simp [hdep] : d_ 28 = true)), (show _ from (by simp [hdep] : d_ 29 = true))⟩, F.f0, F.f1, F.f2, F.f3, F.f4, F.f5, F.f6, F.f7, F.f8, F.f9, F.f10, F.f11, F.f12, F.f13, F.f14, F.f15, F.f16, F.f17, F.f18, F.f19, F.f20, F.f21, F.f22, F.f23, F.f24, F.f25, F.f26, F.f27, F.f28, fun _ => rfl, F.st0, F.st1, F.st2, F.st3, F.mz⟩
      clear F
      go_simp
      exact HK.out _ _ ⟨_, _, _, _, _, _, _, _, _, _, _, _, _, _, _, _, _, _, _, _, _, _, _, _, _, _, _, _, _, _, _, _, _, rfl, HF.out⟩
  · rintro d_ a_ w1 hall ⟨x69, x70, x71, x72, x73, x74, x75, x76, x77, x78, x79, x80, x81, x82, x83, x84, x85, x86, x87, x88, x89, x90, x91, x92, x93, x68, x94, x95, x13, x14, ms, g, u, rfl, F⟩
    have hall' : ∀ k, k < 31 → d_ k = true := hall
    obtain rfl := F.f0 (hall' 0 (by decide))
    obtain rfl := F.f1 (hall' 1 (by decide))
    obtain rfl := F.f2 (hall' 2 (by decide))
    obtain rfl := F.f3 (hall' 3 (by decide))
    obtain rfl := F.f4 (hall' 4 (by decide))
    obtain rfl := F.f5 (hall' 5 (by decide))
    obtain rfl := F.f6 (hall' 6 (by decide))
    obtain rfl := F.f7 (hall' 7 (by decide))
    obtain rfl := F.f8 (hall' 8 (by decide))
    obtain rfl := F.f9 (hall' 9 (by decide))
    obtain rfl := F.f10 (hall' 10 (by decide))
    obtain rfl := F.f11 (hall' 11 (by decide))
    obtain rfl := F.f12 (hall' 12 (by decide))
    obtain rfl := F.f13 (hall' 13 (by decide))
    obtain rfl := F.f14 (hall' 14 (by decide))
    obtain rfl := F.f15 (hall' 15 (by decide))
    obtain rfl := F.f16 (hall' 16 (by decide))
    obtain rfl := F.f17 (hall' 17 (by decide))
    obtain rfl := F.f18 (hall' 18 (by decide))
    obtain rfl := F.f19 (hall' 19 (by decide))
    obtain rfl := F.f20 (hall' 20 (by decide))
    obtain rfl := F.f21 (hall' 21 (by decide))
    obtain rfl := F.f22 (hall' 22 (by decide))
    obtain rfl := F.f23 (hall' 23 (by decide))
    obtain rfl := F.f24 (hall' 24 (by decide))
    obtain rfl := F.f25 (hall' 25 (by decide))
    obtain rfl := F.f26 (hall' 26 (by decide))
    obtain rfl := F.f27 (hall' 27 (by decide))
    obtain rfl := F.f28 (hall' 28 (by decide))
    obtain rfl := F.f30 (hall' 30 (by decide))
    have hst := F.st3 (hall' 29 (by decide))
    rw [show d_ 28 = true from hall' 28 (by decide)] at hst
    exact HQ.out ms g u w1 hst
end Go.Proofs.Ytbnhngfegnhaiaa
namespace Go.Proofs.Ytbnhngfegnhaiaa
open Go.RowKit
set_option linter.unusedVariables false
set_option linter.unusedSimpArgs false
theorem below_drewN {B : Nat} {a w : World} (h : Below B a w) (n : Nat) : Below B a (w.drewN n) := ⟨h.os, h.tape, h.output, h.size, h.block⟩
theorem distE_no {p : Par} {n : Int} (h : errT p [n] ≠ 0) : distE p n = (⟨0, 0⟩, errT p [n]) := by
  unfold errT okN at *
  unfold distE
  simp only [List.all_cons, List.all_nil, Bool.and_true] at h ⊢
  cases hv : p.valid <;> cases hr : inR n 0 ((p.things.length : Int) - 1) <;> rw [hv, hr] at h <;> simp at h ⊢
  cases hl : p.look p.things p.all <;> rw [hl] at h <;> simp at h ⊢
theorem distE_yes {p : Par} {k : Nat} {q : Spn} (hv : p.valid = true) (hk : k < p.things.length) (hq : p.look p.things p.all = some q) : distE p k = (if (p.still (gt p.things k) q).2 then (p.away (gt p.things k) q, 0) else (⟨0, 0⟩, 11)) := by
  unfold distE
  have h : inR (k : Int) 0 ((p.things.length : Int) - 1) = true := by simp [inR]; omega
  rw [hv, h, hq]
  rfl
theorem okN_one {p : Par} {n : Int} (h : okN p [n] = true) : ∃ k : Nat, n = k ∧ k < p.things.length := by
  unfold okN inR at h
  simp only [List.all_cons, List.all_nil, Bool.and_true, Bool.and_eq_true, decide_eq_true_eq] at h
  exact ⟨n.toNat, by omega, by omega⟩
theorem away_cut {p : Par} {t : Thg} {q : Spn} (h : t.far = 0) : p.away t q = (⟨p.near, p.far⟩ : Spn).cut ⟨q.lo / (t.shown.hi + 1) + 1, if 0 < t.shown.lo then q.hi / t.shown.lo else p.far⟩ := by
  unfold Par.away
  rw [if_pos h]
theorem away_far {p : Par} {t : Thg} {q : Spn} (h : ¬ t.far = 0) : p.away t q = ⟨t.far, t.far⟩ := by
  unfold Par.away
  rw [if_neg h]
theorem tdiv_in {a b : Int} (h1 : 1 ≤ a ∧ a ≤ 500000000) (h2 : 1 ≤ b) : IntKind.i64.wrap (a.tdiv b) = a / b ∧ 0 ≤ a / b ∧ a / b ≤ 500000000 := by
  have e : a.tdiv b = a / b := Int.tdiv_eq_ediv_of_nonneg (by omega)
  have h3 : 0 ≤ a / b := Int.ediv_nonneg (by omega) (by omega)
  have h4 : a / b ≤ a := Int.ediv_le_self b (by omega)
  rw [e]
  exact ⟨IntWalk.i64_in _ (by omega), h3, by omega⟩
set_option maxRecDepth 100000 in
set_option maxHeartbeats 8000000 in
theorem distance7 {p : Par} {a : Option Addr} {c : Nat} {n : Int} {w : World} (ha : IsThs w a p.things) (hl : p.things.length ≤ 1000000) :
    Calls Try.prog 7 #[p.v a c, .int .i64 n] w fun e w' => e = .returned (.tuple #[(distE p n).1.v, .int .i64 (distE p n).2]) ∧ Below w.heap.size w w' := by
  have HX := Lib.hid (alloc3 w (p.arr a c) #[.int .i64 0, .int .i64 0] #[.int .i64 0] 26 23 36 _ rfl)
  have HT := Lib.hid (And.intro (ha.mono HX.out.2.2.2) HX.out.2.2.2.size)
  clear ha
  refine calls_of_wp_x Try.func7 rfl ?_
  simp only [Try.ntmps7, List.size_toArray, List.length_cons, List.length_nil, Nat.reduceAdd, Nat.reduceSub, Array.replicate_succ, Array.replicate_zero, List.push_toArray, List.append_toArray, List.nil_append, List.cons_append]
  conv => arg 2; whnf
  refine wp_seq_hid ?_
  intro K0 HK0
  go_wp2_with fail
  refine HK0.out _ _ ?_
  clear HK0 K0
  revert HX HT
  generalize ((w.alloc (.cells (p.arr a c) 26)).alloc (.cells #[.int .i64 0, .int .i64 0] 23)).alloc (.cells #[.int .i64 0] 36) = w1
  generalize hbe : w.heap.size + 2 = be
  generalize hbs : w.heap.size + 1 = bs
  generalize hbp : w.heap.size = bp
  intro HX HT
  refine wp_seq_hid ?_
  intro K1 HK1
  go_wp2_with fail
  refine HK1.out _ _ ?_
  clear HK1 K1
  have HA : Hid (bp ≤ bs ∧ bp ≤ be ∧ bs ≠ be) := ⟨by omega, by omega, by omega⟩
  clear hbe hbs hbp
  have HI := Lib.hid (World.alloc_heap_new w1 (.cells #[.int .i64 n] 3))
  have HIB := Lib.hid (alloc_below w1 (.cells #[.int .i64 n] 3))
  obtain ⟨k0, k1, k2, k3, k4, k5, k6, k7⟩ := par_cells HX.out.1
  have HIN : Hid (IsInts (w1.alloc (.cells #[.int .i64 n] 3)) (some ⟨w1.heap.size, 0, none⟩) [n]) := fun i hi => by
    have h0 : i = 0 := by simpa using hi
    subst h0
    exact ⟨w1.heap.size, 0, rfl, by rw [cell_of_heap HI.out]; rfl⟩
  refine wp_seq_hid ?_
  intro K2 HK2
  go_wp2_with fail
  refine (truths21 (l := [n]) (HT.out.1.mono HIB.out) hl HIN.out (by simp)).mono ?_
  clear k0 k1 k2 k3 k4 k5 k6 k7
  rintro e w2 ⟨hb, hcase⟩
  have HB := Lib.hid (HIB.out.trans (hb.mono HIB.out.size))
  clear hb HI HIB HIN
  have HS := Lib.hid ((HB.out.block _ (heap_lt HX.out.2.1)).trans HX.out.2.1)
  have HE := Lib.hid ((HB.out.block _ (heap_lt HX.out.2.2.1)).trans HX.out.2.2.1)
  have HBB := Lib.hid (And.intro (HX.out.2.2.2.trans (HB.out.mono HT.out.2)) (Nat.le_trans HT.out.2 HB.out.size))
  rcases hcase with ⟨hz, rfl⟩ | ⟨hz, hv, hok, q, bv, hq, rfl, hbv, hV⟩
  · have HZ := Lib.hid hz
    clear hz
    go_wp2_with fail
    have hc := (caught_other (be := be) (x := errT p [n]) (heap_lt HS.out) HA.out.2.2).trans HS.out
    exact door_no HE.out (res_c2e rfl _ rfl rfl (by rw [cell_of_heap hc]; rfl) (by rw [cell_of_heap hc]; rfl) (by rw [cell_of_heap (caught_heap HE.out)]; rfl)) ⟨by rw [distE_no HZ.out]; rfl, caught_below HBB.out.1 HA.out.2.1 HBB.out.2⟩
  · obtain ⟨k, rfl, hk⟩ := okN_one hok
    have HD := Lib.hid (distE_yes hv hk hq)
    have HN := Lib.hid (nums_of hv)
    have HQ := Lib.hid (look_bd HN.out hq)
    have HS2 := Lib.hid (thg_small (HN.out.things _ (gt_mem hk)) (by have := HN.out.n1; omega) HN.out.n3)
    clear hz hv hok hq hbv
    go_wp2_with fail
    refine HK2.out _ _ ?_
    clear HK2 K2
    obtain ⟨b, off, hab, c0, c1, c2, c3, c4, c5, c6, c7, c8⟩ := hV.things k hk
    have v7 : w2.cell? ⟨bv, 7, none⟩ = some (.slice a p.things.length c) := by rw [cell_of_heap hV.h]; rfl
    subst hab
    have HV := Lib.hid hV
    clear hV
    revert HD HS2 c0 c1 c2 c3 c4 c5 c6 c7 c8
    generalize gt p.things k = t
    intro HD HS2 c0 c1 c2 c3 c4 c5 c6 c7 c8
    have KF : Hid (∀ v, Below (w2.alloc (.cells t.arr 34)).heap.size (w2.alloc (.cells t.arr 34)) v → IsView v bv p (some ⟨b, off, none⟩) c q ∧ v.heap[w2.heap.size]? = some (.cells t.arr 34 (0, 0)) ∧ v.heap[bs]? = some (.cells #[.int .i64 0, .int .i64 0] 23 (0, 0)) ∧ v.heap[be]? = some (.cells #[.int .i64 0] 36 (0, 0)) ∧ Below bp w v ∧ bp ≤ v.heap.size) := fun v hv => by
      have h1 := (alloc_below w2 (.cells t.arr 34)).trans (hv.mono (alloc_below w2 (.cells t.arr 34)).size)
      exact ⟨HV.out.mono h1, (hv.block _ (heap_lt (World.alloc_heap_new w2 (.cells t.arr 34)))).trans (World.alloc_heap_new w2 (.cells t.arr 34)), (h1.block _ (heap_lt HS.out)).trans HS.out, (h1.block _ (heap_lt HE.out)).trans HE.out, HBB.out.1.trans (h1.mono HBB.out.2), Nat.le_trans HBB.out.2 h1.size⟩
    refine wp_seq_hid ?_
    intro K3 HK3
    go_wp2_with fail
    refine HK3.out _ _ ?_
    clear HK3 K3 HS HE HBB HB HX HT HV c0 c1 c2 c3 c4 c5 c6 c7 c8 v7
    revert KF
    generalize w2.alloc (.cells t.arr 34) = w3
    generalize w2.heap.size = b7
    intro KF
    refine wp_seq_hid ?_
    intro K4 HK4
    go_upto_region 4 with fail
    have HTB : Hid ((0 ≤ p.tilt ∧ p.tilt ≤ 1000) ∧ (0 ≤ p.near ∧ p.near ≤ 1073741824) ∧ (0 ≤ p.far ∧ p.far ≤ 1073741824)) := by
      have h1 := HN.out.n1
      have h2 := HN.out.n2
      have h3 := HN.out.n3
      exact ⟨⟨HN.out.t1, HN.out.t2⟩, ⟨by omega, by omega⟩, ⟨by omega, h3⟩⟩
    refine wpIn_wide.1 (dis4 (bv := bv) (b3 := b7) (x := q.lo) (y := q.hi) (z1 := (p.still t q).1.lo) (z2 := (p.still t q).1.hi) (zb := (p.still t q).2) (t0 := t.left.x.lo) (t1 := t.left.x.hi) (t2 := t.left.y.lo) (t3 := t.left.y.hi) (t4 := t.right.x.lo) (t5 := t.right.x.hi) (t6 := t.right.y.lo) (t7 := t.right.y.hi) (t8 := t.far)
      (S0 := fun fs ms v => Below w3.heap.size w3 v ∧ Fresh w3 fs ms v) (S1 := fun fs ms _ v => Below w3.heap.size w3 v ∧ Fresh w3 fs ms v) (S2 := fun fs ms _ v => Below w3.heap.size w3 v)
      ?h0 ?l1 ?l5 ?c6 ?s0 ?s1 ?c11 ?hQ)
    case h0 => exact ⟨(Below.refl _ _).drew, Fresh.no _ _ _⟩
    case l1 =>
      intro fs ms v h
      have hq := (KF.out v h.1).2.1
      refine ⟨?_, ?_, ?_, ?_, ?_, ?_, ?_, ?_, ?_⟩ <;> (rw [cell_of_heap hq]; rfl)
    case l5 => exact fun fs ms v h => ⟨by rw [cell_of_heap (KF.out v h.1).1.h]; rfl, by rw [cell_of_heap (KF.out v h.1).1.h]; rfl⟩
    case c6 =>
      intro fs ms v h
      refine (still22 (q := q) HS2.out HTB.out.1 HTB.out.2.1 HTB.out.2.2 (KF.out v h.1).1).mono ?_
      rintro e v' ⟨rfl, hb⟩
      exact ⟨(), rfl, h.1.trans (hb.mono h.1.size), h.2.mono hb⟩
    case s0 => exact fun v h => ⟨h.1.trans ((alloc_below _ _).mono h.1.size), Fresh.yes h.1.size⟩
    case s1 => exact fun _ v h => ⟨h.1.trans ((alloc_below _ _).mono h.1.size), Fresh.yes h.1.size⟩
    case c11 =>
      intro ms _ v h
      obtain ⟨g1, g2, g3, g4, g5, g6⟩ := h.2.put h.1 (.int .i64 (p.still t q).1.lo) (.int .i64 (p.still t q).1.hi)
      exact ⟨g1, g2, g3, g4, g5⟩
    intro ms _ w4 h
    have KG : Hid (∀ v, Below w4.heap.size w4 v → IsView v bv p (some ⟨b, off, none⟩) c q ∧ v.heap[b7]? = some (.cells t.arr 34 (0, 0)) ∧ v.heap[bs]? = some (.cells #[.int .i64 0, .int .i64 0] 23 (0, 0)) ∧ v.heap[be]? = some (.cells #[.int .i64 0] 36 (0, 0)) ∧ Below bp w v ∧ bp ≤ v.heap.size) := fun v hv => KF.out v (h.trans (hv.mono h.size))
    clear h KF
    go_wp2_with fail
    refine HK4.out _ _ ?_
    clear HK4 K4
    cases hz : (p.still t q).2
    · have HZ := Lib.hid hz
      clear hz
      refine wp_seq_hid ?_
      intro K5 HK5
      go_wp2_with fail
      refine (need23_no 11 _).mono ?_
      rintro e w5 ⟨rfl, rfl⟩
      go_wp2_with fail
      obtain ⟨_, _, g1, g2, g3, g4⟩ := KG.out w4 (Below.refl _ _)
      have hc := (caught_other (be := be) (x := 11) (heap_lt g1) HA.out.2.2).trans g1
      exact door_no g2 (res_c2e rfl _ rfl rfl (by rw [cell_of_heap hc]; rfl) (by rw [cell_of_heap hc]; rfl) (by rw [cell_of_heap (caught_heap g2)]; rfl)) ⟨by rw [HD.out, HZ.out]; rfl, caught_below g3 HA.out.2.1 g4⟩
    · have HZ : Hid (distE p k = (p.away t q, 0) ∧ p.can t = true ∧ 0 ≤ t.shown.lo ∧ t.shown.lo ≤ t.shown.hi ∧ t.shown.hi ≤ 2000) := by
        have hc := (still_one hz).1
        exact ⟨by rw [HD.out, hz]; rfl, hc, shown_bd hc⟩
      clear hz HD
      refine wp_seq_hid ?_
      intro K5 HK5
      go_wp2_with fail
      refine (need23_yes 11 _).mono ?_
      rintro e w5 ⟨rfl, rfl⟩
      go_wp2_with fail
      refine HK5.out _ _ ?_
      clear HK5 K5
      obtain ⟨_, g0, g1, g2, g3, g4⟩ := KG.out w4 (Below.refl _ _)
      have d8 : w4.cell? ⟨b7, 8, none⟩ = some (.int .i64 t.far) := by rw [cell_of_heap g0]; rfl
      clear g0
      refine wp_seq_hid ?_
      intro K6 HK6
      by_cases hf : t.far = 0
      · have HF := Lib.hid hf
        have hfb : (t.far != 0) = false := by simp [hf]
        clear hf g1 g2 g3 g4
        go_wp2_with fail
        refine HK6.out _ _ ?_
        clear HK6 K6 d8 hfb
        have hq := (KG.out w4 (Below.refl _ _)).2.1
        have k0 : w4.cell? ⟨b7, 0, none⟩ = some (.int .i64 t.left.x.lo) := by rw [cell_of_heap hq]; rfl
        have k1 : w4.cell? ⟨b7, 1, none⟩ = some (.int .i64 t.left.x.hi) := by rw [cell_of_heap hq]; rfl
        have k2 : w4.cell? ⟨b7, 2, none⟩ = some (.int .i64 t.left.y.lo) := by rw [cell_of_heap hq]; rfl
        have k3 : w4.cell? ⟨b7, 3, none⟩ = some (.int .i64 t.left.y.hi) := by rw [cell_of_heap hq]; rfl
        have k4 : w4.cell? ⟨b7, 4, none⟩ = some (.int .i64 t.right.x.lo) := by rw [cell_of_heap hq]; rfl
        have k5 : w4.cell? ⟨b7, 5, none⟩ = some (.int .i64 t.right.x.hi) := by rw [cell_of_heap hq]; rfl
        have k6 : w4.cell? ⟨b7, 6, none⟩ = some (.int .i64 t.right.y.lo) := by rw [cell_of_heap hq]; rfl
        have k7 : w4.cell? ⟨b7, 7, none⟩ = some (.int .i64 t.right.y.hi) := by rw [cell_of_heap hq]; rfl
        have k8 : w4.cell? ⟨b7, 8, none⟩ = some (.int .i64 t.far) := by rw [cell_of_heap hq]; rfl
        clear hq
        refine wp_seq_hid ?_
        intro K8 HK8
        go_wp2_with fail
        refine (shown24 t HS2.out _).mono ?_
        clear k0 k1 k2 k3 k4 k5 k6 k7 k8
        rintro e w5 ⟨rfl, hb⟩
        have KH : Hid (∀ v, Below (w5.alloc (.cells t.shown.arr 59)).heap.size (w5.alloc (.cells t.shown.arr 59)) v → (IsView v bv p (some ⟨b, off, none⟩) c q ∧ v.heap[b7]? = some (.cells t.arr 34 (0, 0)) ∧ v.heap[bs]? = some (.cells #[.int .i64 0, .int .i64 0] 23 (0, 0)) ∧ v.heap[be]? = some (.cells #[.int .i64 0] 36 (0, 0)) ∧ Below bp w v ∧ bp ≤ v.heap.size) ∧ v.heap[w5.heap.size]? = some (.cells t.shown.arr 59 (0, 0))) := fun v hv => by
          have h1 := (alloc_below w5 (.cells t.shown.arr 59)).trans (hv.mono (alloc_below w5 (.cells t.shown.arr 59)).size)
          exact ⟨KG.out v (hb.trans (h1.mono hb.size)), (hv.block _ (heap_lt (World.alloc_heap_new w5 _))).trans (World.alloc_heap_new w5 _)⟩
        clear hb KG
        go_wp2_with fail
        refine HK8.out _ _ ?_
        clear HK8 K8
        revert KH
        generalize w5.alloc (.cells t.shown.arr 59) = w6
        generalize w5.heap.size = b8
        intro KH
        have HVW := Lib.hid (KH.out w6 (Below.refl _ _)).1.1.h
        have HS8 := Lib.hid (KH.out w6 (Below.refl _ _)).2
        have v6 : w6.cell? ⟨bv, 6, none⟩ = some (.int .i64 p.far) := by rw [cell_of_heap HVW.out]; rfl
        have v9 : w6.cell? ⟨bv, 9, none⟩ = some (.int .i64 q.hi) := by rw [cell_of_heap HVW.out]; rfl
        have y0 : w6.cell? ⟨b8, 0, none⟩ = some (.int .i64 t.shown.lo) := by rw [cell_of_heap HS8.out]; rfl
        refine wp_seq_hid ?_
        intro K9 HK9
        go_wp2_with fail
        refine HK9.out _ _ ?_
        clear HK9 K9 HVW HS8
        refine wp_seq_hid ?_
        intro K10 HK10
        have HR : Hid (∃ mo, mo = (if 0 < t.shown.lo then q.hi / t.shown.lo else p.far)) := ⟨_, rfl⟩
        by_cases h0 : 0 < t.shown.lo
        · obtain ⟨hd1, hd2, hd3⟩ := tdiv_in (a := q.hi) (b := t.shown.lo) (by have := HQ.out; omega) (by omega)
          have HMO : Hid (q.hi / t.shown.lo = (if 0 < t.shown.lo then q.hi / t.shown.lo else p.far)) := by rw [Hid, if_pos h0]
          have hnz : ¬ t.shown.lo = 0 := by omega
          have hgb : decide (0 < t.shown.lo) = true := decide_eq_true h0
          go_upto_region 11 with fail
          go_quiet (fail)
          clear hd1 hd2 hd3 hnz hgb h0
          have KI : Hid (∀ v, Below (w6.drewN nq).heap.size (w6.drewN nq) v → (IsView v bv p (some ⟨b, off, none⟩) c q ∧ v.heap[b7]? = some (.cells t.arr 34 (0, 0)) ∧ v.heap[bs]? = some (.cells #[.int .i64 0, .int .i64 0] 23 (0, 0)) ∧ v.heap[be]? = some (.cells #[.int .i64 0] 36 (0, 0)) ∧ Below bp w v ∧ bp ≤ v.heap.size) ∧ v.heap[b8]? = some (.cells t.shown.arr 59 (0, 0))) := fun v hv => KH.out v ((below_drewN (Below.refl _ w6) nq).trans hv)
          have HAW : Hid (p.away t q = (⟨p.near, p.far⟩ : Spn).cut ⟨q.lo / (t.shown.hi + 1) + 1, q.hi / t.shown.lo⟩) := by rw [Hid, away_cut HF.out, ← HMO.out]
          clear KH HMO
          go_wp2_with fail
          clear v6 v9 y0
          refine HK10.out _ _ ?_
          clear HK10 K10
          refine wp_seq_hid ?_
          intro K12 HK12
          go_upto_region 12 with fail
          obtain ⟨he1, he2, he3⟩ := tdiv_in (a := q.lo) (b := t.shown.hi + 1) (by have := HQ.out; omega) (by have := HZ.out; omega)
          refine wpIn_wide.1 (dis12 (bv := bv) (b8 := b8) (x := q.lo) (nz := p.near) (fz := p.far) (sb := t.shown.hi) (sc := t.shown.hi + 1) (dv := q.lo / (t.shown.hi + 1)) (dw := q.lo / (t.shown.hi + 1) + 1) (mo := (q.hi / t.shown.lo)) (z1 := (p.away t q).lo) (z2 := (p.away t q).hi) (zb := ((⟨p.near, p.far⟩ : Spn).cut ⟨q.lo / (t.shown.hi + 1) + 1, q.hi / t.shown.lo⟩).is)
            (S0 := fun fs ms v => Below (w6.drewN nq).heap.size (w6.drewN nq) v ∧ Fresh (w6.drewN nq) fs ms v) (S1 := fun fs ms g v => Below (w6.drewN nq).heap.size (w6.drewN nq) v ∧ Fresh (w6.drewN nq) fs ms v ∧ v.heap[g]? = some (.cells #[.int .i64 (q.lo / (t.shown.hi + 1) + 1), .int .i64 (q.hi / t.shown.lo)] 59 (0, 0))) (S2 := fun fs ms g u v => Below (w6.drewN nq).heap.size (w6.drewN nq) v ∧ Fresh (w6.drewN nq) fs ms v) (S3 := fun fs ms g u v => Below (w6.drewN nq).heap.size (w6.drewN nq) v ∧ v.heap[ms]? = some (.cells (p.away t q).arr 59 (0, 0)))
            (IntWalk.i64_in _ (by have := HZ.out; omega)) he1 (by have := HZ.out; omega) (IntWalk.i64_in _ (by omega)) ?h0_b_x ?l4_x ?l9_x ?l15_x ?l17_x ?c23_x ?c24_x ?s0_x ?s1_x ?s2_x ?c29_x ?hQ_b_x)
          case h0_b_x => exact ⟨(Below.refl _ _).drew, Fresh.no _ _ _⟩
          case l4_x =>
            rintro fs ms g v (h | h)
            · rw [cell_of_heap (KI.out v h.1).1.1.h]; rfl
            · rw [cell_of_heap (KI.out v h.1).1.1.h]; rfl
          case l9_x =>
            rintro fs ms g v (h | h)
            · rw [cell_of_heap (KI.out v h.1).1.1.h]; rfl
            · rw [cell_of_heap (KI.out v h.1).1.1.h]; rfl
          case l15_x => exact fun fs ms v h => by rw [cell_of_heap (KI.out v h.1).1.1.h]; rfl
          case l17_x => exact fun fs ms v h => by rw [cell_of_heap (KI.out v h.1).2]; rfl
          case c23_x => exact fun fs ms v h => ⟨h.1.alloc h.1.size _, h.2.mono (alloc_below _ _), World.alloc_heap_new _ _⟩
          case c24_x =>
            intro fs ms g v h
            refine (narrowed25 (q := ⟨p.near, p.far⟩) (s := ⟨q.lo / (t.shown.hi + 1) + 1, q.hi / t.shown.lo⟩) (by rw [cell_of_heap h.2.2]; rfl) (by rw [cell_of_heap h.2.2]; rfl)).mono ?_
            rintro e v' ⟨rfl, hb⟩
            exact ⟨(), by rw [HAW.out], h.1.trans (hb.mono h.1.size), h.2.1.mono hb⟩
          case s0_x => exact fun v h => ⟨h.1.alloc h.1.size _, Fresh.yes h.1.size⟩
          case s1_x => exact fun g v h => ⟨h.1.alloc h.1.size _, Fresh.yes h.1.size, ((alloc_below _ _).block _ (heap_lt h.2.2)).trans h.2.2⟩
          case s2_x => exact fun g u v h => ⟨h.1.alloc h.1.size _, Fresh.yes h.1.size⟩
          case c29_x =>
            intro ms g u v h
            obtain ⟨g1, g2, g3, g4, g5, g6⟩ := h.2.put h.1 (.int .i64 (p.away t q).lo) (.int .i64 (p.away t q).hi)
            exact ⟨g1, g2, g3, g4, g5, g6⟩
          clear he1 he2 he3
          intro ms2 g u w8 h
          have HM := Lib.hid h.2
          have HL := Lib.hid (KI.out w8 h.1).1
          clear h KI
          go_wp2_with fail
          refine HK12.out _ _ ?_
          clear HK12 K12
          have m0 : w8.cell? ⟨ms2, 0, none⟩ = some (.int .i64 (p.away t q).lo) := by rw [cell_of_heap HM.out]; rfl
          have m1 : w8.cell? ⟨ms2, 1, none⟩ = some (.int .i64 (p.away t q).hi) := by rw [cell_of_heap HM.out]; rfl
          refine wp_seq_hid ?_
          intro K13 HK13
          go_wp2_with fail
          refine (span26 (p.away t q) w8).mono ?_
          clear m0 m1
          rintro e w9 ⟨rfl, hb⟩
          have HS9 := Lib.hid ((hb.block _ (heap_lt HL.out.2.2.1)).trans HL.out.2.2.1)
          have HE9 := Lib.hid ((hb.block _ (heap_lt HL.out.2.2.2.1)).trans HL.out.2.2.2.1)
          have HB9 := Lib.hid (HL.out.2.2.2.2.1.trans (hb.mono HL.out.2.2.2.2.2))
          clear hb HL HM
          have s0 : w9.cell? ⟨bs, 0, none⟩ = some (.int .i64 0) := by rw [cell_of_heap HS9.out]; rfl
          have s1 : w9.cell? ⟨bs, 1, none⟩ = some (.int .i64 0) := by rw [cell_of_heap HS9.out]; rfl
          have f0 : ∀ k, w9.frozen? ⟨bs, k, none⟩ = false := fun k => frozen_of_heap HS9.out
          have e0 : w9.cell? ⟨be, 0, none⟩ = some (.int .i64 0) := by rw [cell_of_heap HE9.out]; rfl
          have f1 : ∀ k, w9.frozen? ⟨be, k, none⟩ = false := fun k => frozen_of_heap HE9.out
          have hne := HA.out.2.2
          go_wp2_with fail
          refine HK13.out _ _ ?_
          go_wp2_with fail
          obtain ⟨p1, p2, p3⟩ := door_put (p.away t q) 0 HS9.out HE9.out hne HB9.out HA.out.1 HA.out.2.1
          exact door_ok (res_c2e rfl _ rfl rfl (by rw [cell_of_heap p1]; rfl) (by rw [cell_of_heap p1]; rfl) (by rw [cell_of_heap p2]; rfl)) ⟨by rw [HZ.out.1]; rfl, p3⟩
        · have HMO : Hid (p.far = (if 0 < t.shown.lo then q.hi / t.shown.lo else p.far)) := by rw [Hid, if_neg h0]
          go_wp2_with fail
          clear h0
          have KI := Lib.hid KH.out
          have HAW : Hid (p.away t q = (⟨p.near, p.far⟩ : Spn).cut ⟨q.lo / (t.shown.hi + 1) + 1, p.far⟩) := by rw [Hid, away_cut HF.out, ← HMO.out]
          clear KH HMO
          clear v6 v9 y0
          refine HK10.out _ _ ?_
          clear HK10 K10
          refine wp_seq_hid ?_
          intro K12 HK12
          go_upto_region 12 with fail
          obtain ⟨he1, he2, he3⟩ := tdiv_in (a := q.lo) (b := t.shown.hi + 1) (by have := HQ.out; omega) (by have := HZ.out; omega)
          refine wpIn_wide.1 (dis12 (bv := bv) (b8 := b8) (x := q.lo) (nz := p.near) (fz := p.far) (sb := t.shown.hi) (sc := t.shown.hi + 1) (dv := q.lo / (t.shown.hi + 1)) (dw := q.lo / (t.shown.hi + 1) + 1) (mo := p.far) (z1 := (p.away t q).lo) (z2 := (p.away t q).hi) (zb := ((⟨p.near, p.far⟩ : Spn).cut ⟨q.lo / (t.shown.hi + 1) + 1, p.far⟩).is)
            (S0 := fun fs ms v => Below w6.heap.size w6 v ∧ Fresh w6 fs ms v) (S1 := fun fs ms g v => Below w6.heap.size w6 v ∧ Fresh w6 fs ms v ∧ v.heap[g]? = some (.cells #[.int .i64 (q.lo / (t.shown.hi + 1) + 1), .int .i64 p.far] 59 (0, 0))) (S2 := fun fs ms g u v => Below w6.heap.size w6 v ∧ Fresh w6 fs ms v) (S3 := fun fs ms g u v => Below w6.heap.size w6 v ∧ v.heap[ms]? = some (.cells (p.away t q).arr 59 (0, 0)))
            (IntWalk.i64_in _ (by have := HZ.out; omega)) he1 (by have := HZ.out; omega) (IntWalk.i64_in _ (by omega)) ?h0_b_y ?l4_y ?l9_y ?l15_y ?l17_y ?c23_y ?c24_y ?s0_y ?s1_y ?s2_y ?c29_y ?hQ_b_y)
          case h0_b_y => exact ⟨(Below.refl _ _).drew, Fresh.no _ _ _⟩
          case l4_y =>
            rintro fs ms g v (h | h)
            · rw [cell_of_heap (KI.out v h.1).1.1.h]; rfl
            · rw [cell_of_heap (KI.out v h.1).1.1.h]; rfl
          case l9_y =>
            rintro fs ms g v (h | h)
            · rw [cell_of_heap (KI.out v h.1).1.1.h]; rfl
            · rw [cell_of_heap (KI.out v h.1).1.1.h]; rfl
          case l15_y => exact fun fs ms v h => by rw [cell_of_heap (KI.out v h.1).1.1.h]; rfl
          case l17_y => exact fun fs ms v h => by rw [cell_of_heap (KI.out v h.1).2]; rfl
          case c23_y => exact fun fs ms v h => ⟨h.1.alloc h.1.size _, h.2.mono (alloc_below _ _), World.alloc_heap_new _ _⟩
          case c24_y =>
            intro fs ms g v h
            refine (narrowed25 (q := ⟨p.near, p.far⟩) (s := ⟨q.lo / (t.shown.hi + 1) + 1, p.far⟩) (by rw [cell_of_heap h.2.2]; rfl) (by rw [cell_of_heap h.2.2]; rfl)).mono ?_
            rintro e v' ⟨rfl, hb⟩
            exact ⟨(), by rw [HAW.out], h.1.trans (hb.mono h.1.size), h.2.1.mono hb⟩
          case s0_y => exact fun v h => ⟨h.1.alloc h.1.size _, Fresh.yes h.1.size⟩
          case s1_y => exact fun g v h => ⟨h.1.alloc h.1.size _, Fresh.yes h.1.size, ((alloc_below _ _).block _ (heap_lt h.2.2)).trans h.2.2⟩
          case s2_y => exact fun g u v h => ⟨h.1.alloc h.1.size _, Fresh.yes h.1.size⟩
          case c29_y =>
            intro ms g u v h
            obtain ⟨g1, g2, g3, g4, g5, g6⟩ := h.2.put h.1 (.int .i64 (p.away t q).lo) (.int .i64 (p.away t q).hi)
            exact ⟨g1, g2, g3, g4, g5, g6⟩
          clear he1 he2 he3
          intro ms2 g u w8 h
          have HM := Lib.hid h.2
          have HL := Lib.hid (KI.out w8 h.1).1
          clear h KI
          go_wp2_with fail
          refine HK12.out _ _ ?_
          clear HK12 K12
          have m0 : w8.cell? ⟨ms2, 0, none⟩ = some (.int .i64 (p.away t q).lo) := by rw [cell_of_heap HM.out]; rfl
          have m1 : w8.cell? ⟨ms2, 1, none⟩ = some (.int .i64 (p.away t q).hi) := by rw [cell_of_heap HM.out]; rfl
          refine wp_seq_hid ?_
          intro K13 HK13
          go_wp2_with fail
          refine (span26 (p.away t q) w8).mono ?_
          clear m0 m1
          rintro e w9 ⟨rfl, hb⟩
          have HS9 := Lib.hid ((hb.block _ (heap_lt HL.out.2.2.1)).trans HL.out.2.2.1)
          have HE9 := Lib.hid ((hb.block _ (heap_lt HL.out.2.2.2.1)).trans HL.out.2.2.2.1)
          have HB9 := Lib.hid (HL.out.2.2.2.2.1.trans (hb.mono HL.out.2.2.2.2.2))
          clear hb HL HM
          have s0 : w9.cell? ⟨bs, 0, none⟩ = some (.int .i64 0) := by rw [cell_of_heap HS9.out]; rfl
          have s1 : w9.cell? ⟨bs, 1, none⟩ = some (.int .i64 0) := by rw [cell_of_heap HS9.out]; rfl
          have f0 : ∀ k, w9.frozen? ⟨bs, k, none⟩ = false := fun k => frozen_of_heap HS9.out
          have e0 : w9.cell? ⟨be, 0, none⟩ = some (.int .i64 0) := by rw [cell_of_heap HE9.out]; rfl
          have f1 : ∀ k, w9.frozen? ⟨be, k, none⟩ = false := fun k => frozen_of_heap HE9.out
          have hne := HA.out.2.2
          go_wp2_with fail
          refine HK13.out _ _ ?_
          go_wp2_with fail
          obtain ⟨p1, p2, p3⟩ := door_put (p.away t q) 0 HS9.out HE9.out hne HB9.out HA.out.1 HA.out.2.1
          exact door_ok (res_c2e rfl _ rfl rfl (by rw [cell_of_heap p1]; rfl) (by rw [cell_of_heap p1]; rfl) (by rw [cell_of_heap p2]; rfl)) ⟨by rw [HZ.out.1]; rfl, p3⟩
      · have HF := Lib.hid hf
        have hfb : (t.far != 0) = true := by simp [hf]
        clear hf
        have s0 : w4.cell? ⟨bs, 0, none⟩ = some (.int .i64 0) := by rw [cell_of_heap g1]; rfl
        have s1 : w4.cell? ⟨bs, 1, none⟩ = some (.int .i64 0) := by rw [cell_of_heap g1]; rfl
        have f0 : ∀ k, w4.frozen? ⟨bs, k, none⟩ = false := fun k => frozen_of_heap g1
        have e0 : w4.cell? ⟨be, 0, none⟩ = some (.int .i64 0) := by rw [cell_of_heap g2]; rfl
        have f1 : ∀ k, w4.frozen? ⟨be, k, none⟩ = false := fun k => frozen_of_heap g2
        have hne := HA.out.2.2
        have HP := Lib.hid (door_put (⟨t.far, t.far⟩ : Spn) 0 g1 g2 hne g3 HA.out.1 HA.out.2.1)
        clear g1 g2 g3 g4
        go_wp2_with fail
        obtain ⟨p1, p2, p3⟩ := HP.out
        exact door_ok (res_c2e rfl _ rfl rfl (by rw [cell_of_heap p1]; rfl) (by rw [cell_of_heap p1]; rfl) (by rw [cell_of_heap p2]; rfl)) ⟨by rw [HZ.out.1, away_far HF.out]; rfl, p3⟩
end Go.Proofs.Ytbnhngfegnhaiaa
namespace Go.Proofs.Ytbnhngfegnhaiaa
open Go.RowKit
set_option linter.unusedVariables false
set_option linter.unusedSimpArgs false
abbrev Gla.arr (g : Gla) (a1 : Option Addr) (c1 : Nat) (a2 : Option Addr) (c2 : Nat) : Array Value := #[.int .i64 g.first.focal.lo, .int .i64 g.first.focal.hi, .int .i64 g.first.base.lo, .int .i64 g.first.base.hi, .int .i64 g.first.tilt, .int .i64 g.first.near, .int .i64 g.first.far, .slice a1 g.first.things.length c1, .int .i64 g.second.focal.lo, .int .i64 g.second.focal.hi, .int .i64 g.second.base.lo, .int .i64 g.second.base.hi, .int .i64 g.second.tilt, .int .i64 g.second.near, .int .i64 g.second.far, .slice a2 g.second.things.length c2, .int .i64 g.day1, .int .i64 g.day2]
abbrev Gla.v (g : Gla) (a1 : Option Addr) (c1 : Nat) (a2 : Option Addr) (c2 : Nat) : Value := .agg (g.arr a1 c1 a2 c2)
/-- A glacier's cells in a block. -/
structure GlaC (w : World) (b : Nat) (g : Gla) (a1 : Option Addr) (c1 : Nat) (a2 : Option Addr) (c2 : Nat) : Prop where
  q0 : w.cell? ⟨b, 0, none⟩ = some (.int .i64 g.first.focal.lo)
  q1 : w.cell? ⟨b, 1, none⟩ = some (.int .i64 g.first.focal.hi)
  q2 : w.cell? ⟨b, 2, none⟩ = some (.int .i64 g.first.base.lo)
  q3 : w.cell? ⟨b, 3, none⟩ = some (.int .i64 g.first.base.hi)
  q4 : w.cell? ⟨b, 4, none⟩ = some (.int .i64 g.first.tilt)
  q5 : w.cell? ⟨b, 5, none⟩ = some (.int .i64 g.first.near)
  q6 : w.cell? ⟨b, 6, none⟩ = some (.int .i64 g.first.far)
  q7 : w.cell? ⟨b, 7, none⟩ = some (.slice a1 g.first.things.length c1)
  q8 : w.cell? ⟨b, 8, none⟩ = some (.int .i64 g.second.focal.lo)
  q9 : w.cell? ⟨b, 9, none⟩ = some (.int .i64 g.second.focal.hi)
  q10 : w.cell? ⟨b, 10, none⟩ = some (.int .i64 g.second.base.lo)
  q11 : w.cell? ⟨b, 11, none⟩ = some (.int .i64 g.second.base.hi)
  q12 : w.cell? ⟨b, 12, none⟩ = some (.int .i64 g.second.tilt)
  q13 : w.cell? ⟨b, 13, none⟩ = some (.int .i64 g.second.near)
  q14 : w.cell? ⟨b, 14, none⟩ = some (.int .i64 g.second.far)
  q15 : w.cell? ⟨b, 15, none⟩ = some (.slice a2 g.second.things.length c2)
  q16 : w.cell? ⟨b, 16, none⟩ = some (.int .i64 g.day1)
  q17 : w.cell? ⟨b, 17, none⟩ = some (.int .i64 g.day2)
theorem gla_cells {w : World} {b : Nat} {g : Gla} {a1 a2 : Option Addr} {c1 c2 : Nat} {ty : TypeId} (hq : w.heap[b]? = some (.cells (g.arr a1 c1 a2 c2) ty (0, 0))) : GlaC w b g a1 c1 a2 c2 := by
  refine ⟨?_, ?_, ?_, ?_, ?_, ?_, ?_, ?_, ?_, ?_, ?_, ?_, ?_, ?_, ?_, ?_, ?_, ?_⟩ <;> (rw [cell_of_heap hq]; rfl)
/-- A glacier that is looked at. -/
structure IsGla (w : World) (bg : Nat) (g : Gla) (a1 : Option Addr) (c1 : Nat) (a2 : Option Addr) (c2 : Nat) : Prop where
  h : w.heap[bg]? = some (.cells (g.arr a1 c1 a2 c2) 84 (0, 0))
  first : IsThs w a1 g.first.things
  second : IsThs w a2 g.second.things
theorem IsGla.mono {w w' : World} {bg : Nat} {g : Gla} {a1 a2 : Option Addr} {c1 c2 : Nat} (h : IsGla w bg g a1 c1 a2 c2) (hb : Below w.heap.size w w') : IsGla w' bg g a1 c1 a2 c2 := ⟨(hb.block _ (heap_lt h.h)).trans h.h, h.first.mono hb, h.second.mono hb⟩
theorem res_c8 {fn : Func} {u : Tmp} (h : fn.results = #[.cell u 26]) (tmps : Array Value) {w : World} {b : Nat} {p : Par} {a : Option Addr} {c : Nat} (hp : tmps.getD u undef = .pointer (some ⟨b, 0, none⟩)) (hq : w.heap[b]? = some (.cells (p.arr a c) 26 (0, 0))) :
    (results fn tmps).run Try.prog w = .ok (p.v a c) w := by
  have hp' : tmps[u]?.getD undef = .pointer (some ⟨b, 0, none⟩) := by simpa using hp
  obtain ⟨k0, k1, k2, k3, k4, k5, k6, k7⟩ := par_cells hq
  simp only [Nat.zero_add] at k0 k1 k2 k3 k4 k5 k6 k7
  simp [results, h, hp', k0, k1, k2, k3, k4, k5, k6, k7, go_sem]
theorem res_c2y {fn : Func} {u : Tmp} {ty : TypeId} (hty : ty = 87 ∨ ty = 49) (h : fn.results = #[.cell u ty]) (tmps : Array Value) {w : World} {b : Nat} {x y : Value} (hp : tmps.getD u undef = .pointer (some ⟨b, 0, none⟩)) (hx : w.cell? ⟨b, 0, none⟩ = some x) (hy : w.cell? ⟨b, 1, none⟩ = some y) :
    (results fn tmps).run Try.prog w = .ok (.agg #[x, y]) w := by
  have hp' : tmps[u]?.getD undef = .pointer (some ⟨b, 0, none⟩) := by simpa using hp
  rcases hty with rfl | rfl <;> simp [results, h, hp', hx, hy, go_sem]
def par0A : Array Value := #[.int .i64 0, .int .i64 0, .int .i64 0, .int .i64 0, .int .i64 0, .int .i64 0, .int .i64 0, .slice none 0 0]
/-- Eight cells put. -/
theorem put8 {w : World} {b : Nat} {ty : TypeId} {x0 x1 x2 x3 x4 x5 x6 x7 : Value} (y0 y1 y2 y3 y4 y5 y6 y7 : Value) (h : w.heap[b]? = some (.cells #[x0, x1, x2, x3, x4, x5, x6, x7] ty (0, 0))) :
    ((((((((w.setCell ⟨b, 0, none⟩ y0).setCell ⟨b, 1, none⟩ y1).setCell ⟨b, 2, none⟩ y2).setCell ⟨b, 3, none⟩ y3).setCell ⟨b, 4, none⟩ y4).setCell ⟨b, 5, none⟩ y5).setCell ⟨b, 6, none⟩ y6).setCell ⟨b, 7, none⟩ y7).heap[b]? = some (.cells #[y0, y1, y2, y3, y4, y5, y6, y7] ty (0, 0)) := by
  have h0 : (w.setCell ⟨b, 0, none⟩ y0).heap[b]? = some (.cells #[y0, x1, x2, x3, x4, x5, x6, x7] ty (0, 0)) := heap_setCell_at (k := 0) h y0
  have h1 : ((w.setCell ⟨b, 0, none⟩ y0).setCell ⟨b, 1, none⟩ y1).heap[b]? = some (.cells #[y0, y1, x2, x3, x4, x5, x6, x7] ty (0, 0)) := heap_setCell_at (k := 1) h0 y1
  have h2 : (((w.setCell ⟨b, 0, none⟩ y0).setCell ⟨b, 1, none⟩ y1).setCell ⟨b, 2, none⟩ y2).heap[b]? = some (.cells #[y0, y1, y2, x3, x4, x5, x6, x7] ty (0, 0)) := heap_setCell_at (k := 2) h1 y2
  have h3 : ((((w.setCell ⟨b, 0, none⟩ y0).setCell ⟨b, 1, none⟩ y1).setCell ⟨b, 2, none⟩ y2).setCell ⟨b, 3, none⟩ y3).heap[b]? = some (.cells #[y0, y1, y2, y3, x4, x5, x6, x7] ty (0, 0)) := heap_setCell_at (k := 3) h2 y3
  have h4 : (((((w.setCell ⟨b, 0, none⟩ y0).setCell ⟨b, 1, none⟩ y1).setCell ⟨b, 2, none⟩ y2).setCell ⟨b, 3, none⟩ y3).setCell ⟨b, 4, none⟩ y4).heap[b]? = some (.cells #[y0, y1, y2, y3, y4, x5, x6, x7] ty (0, 0)) := heap_setCell_at (k := 4) h3 y4
  have h5 : ((((((w.setCell ⟨b, 0, none⟩ y0).setCell ⟨b, 1, none⟩ y1).setCell ⟨b, 2, none⟩ y2).setCell ⟨b, 3, none⟩ y3).setCell ⟨b, 4, none⟩ y4).setCell ⟨b, 5, none⟩ y5).heap[b]? = some (.cells #[y0, y1, y2, y3, y4, y5, x6, x7] ty (0, 0)) := heap_setCell_at (k := 5) h4 y5
  have h6 : (((((((w.setCell ⟨b, 0, none⟩ y0).setCell ⟨b, 1, none⟩ y1).setCell ⟨b, 2, none⟩ y2).setCell ⟨b, 3, none⟩ y3).setCell ⟨b, 4, none⟩ y4).setCell ⟨b, 5, none⟩ y5).setCell ⟨b, 6, none⟩ y6).heap[b]? = some (.cells #[y0, y1, y2, y3, y4, y5, y6, x7] ty (0, 0)) := heap_setCell_at (k := 6) h5 y6
  have h7 : ((((((((w.setCell ⟨b, 0, none⟩ y0).setCell ⟨b, 1, none⟩ y1).setCell ⟨b, 2, none⟩ y2).setCell ⟨b, 3, none⟩ y3).setCell ⟨b, 4, none⟩ y4).setCell ⟨b, 5, none⟩ y5).setCell ⟨b, 6, none⟩ y6).setCell ⟨b, 7, none⟩ y7).heap[b]? = some (.cells #[y0, y1, y2, y3, y4, y5, y6, y7] ty (0, 0)) := heap_setCell_at (k := 7) h6 y7
  exact h7
theorem below8 {B : Nat} {A w : World} {b : Nat} (y0 y1 y2 y3 y4 y5 y6 y7 : Value) (h : Below B A w) (hB : B ≤ b) :
    Below B A ((((((((w.setCell ⟨b, 0, none⟩ y0).setCell ⟨b, 1, none⟩ y1).setCell ⟨b, 2, none⟩ y2).setCell ⟨b, 3, none⟩ y3).setCell ⟨b, 4, none⟩ y4).setCell ⟨b, 5, none⟩ y5).setCell ⟨b, 6, none⟩ y6).setCell ⟨b, 7, none⟩ y7) :=
  (((((((h.setCell (p := ⟨b, 0, none⟩) hB _).setCell (p := ⟨b, 1, none⟩) hB _).setCell (p := ⟨b, 2, none⟩) hB _).setCell (p := ⟨b, 3, none⟩) hB _).setCell (p := ⟨b, 4, none⟩) hB _).setCell (p := ⟨b, 5, none⟩) hB _).setCell (p := ⟨b, 6, none⟩) hB _).setCell (p := ⟨b, 7, none⟩) hB _
set_option maxRecDepth 100000 in
set_option maxHeartbeats 2000000 in
theorem first55 {w : World} {bg : Nat} {g : Gla} {a1 a2 : Option Addr} {c1 c2 : Nat} (hG : IsGla w bg g a1 c1 a2 c2) :
    Calls Try.prog 55 #[.pointer (some ⟨bg, 0, none⟩)] w fun e w' => e = .returned (g.first.v a1 c1) ∧ Below w.heap.size w w' := by
  have HX := Lib.hid (And.intro (World.alloc_heap_new w (.cells #[.int .i64 0, .int .i64 0, .int .i64 0, .int .i64 0, .int .i64 0, .int .i64 0, .int .i64 0, .slice none 0 0] 26)) (alloc_below w (.cells #[.int .i64 0, .int .i64 0, .int .i64 0, .int .i64 0, .int .i64 0, .int .i64 0, .int .i64 0, .slice none 0 0] 26)))
  have HG := Lib.hid (hG.mono HX.out.2)
  clear hG
  go_enter Try.func55, Try.ntmps55
  refine wp_seq_hid ?_
  intro K0 HK0
  go_wp2_with fail
  refine HK0.out _ _ ?_
  clear HK0 K0
  revert HX HG
  generalize w.alloc (.cells #[.int .i64 0, .int .i64 0, .int .i64 0, .int .i64 0, .int .i64 0, .int .i64 0, .int .i64 0, .slice none 0 0] 26) = w1
  intro HX HG
  obtain ⟨k0, k1, k2, k3, k4, k5, k6, k7, k8, k9, k10, k11, k12, k13, k14, k15, k16, k17⟩ := gla_cells HG.out.h
  have y0 : ∃ u, w1.cell? ⟨w.heap.size, 0, none⟩ = some u := ⟨_, by rw [cell_of_heap HX.out.1]; rfl⟩
  obtain ⟨u0, y0⟩ := y0
  have y1 : ∃ u, w1.cell? ⟨w.heap.size, 1, none⟩ = some u := ⟨_, by rw [cell_of_heap HX.out.1]; rfl⟩
  obtain ⟨u1, y1⟩ := y1
  have y2 : ∃ u, w1.cell? ⟨w.heap.size, 2, none⟩ = some u := ⟨_, by rw [cell_of_heap HX.out.1]; rfl⟩
  obtain ⟨u2, y2⟩ := y2
  have y3 : ∃ u, w1.cell? ⟨w.heap.size, 3, none⟩ = some u := ⟨_, by rw [cell_of_heap HX.out.1]; rfl⟩
  obtain ⟨u3, y3⟩ := y3
  have y4 : ∃ u, w1.cell? ⟨w.heap.size, 4, none⟩ = some u := ⟨_, by rw [cell_of_heap HX.out.1]; rfl⟩
  obtain ⟨u4, y4⟩ := y4
  have y5 : ∃ u, w1.cell? ⟨w.heap.size, 5, none⟩ = some u := ⟨_, by rw [cell_of_heap HX.out.1]; rfl⟩
  obtain ⟨u5, y5⟩ := y5
  have y6 : ∃ u, w1.cell? ⟨w.heap.size, 6, none⟩ = some u := ⟨_, by rw [cell_of_heap HX.out.1]; rfl⟩
  obtain ⟨u6, y6⟩ := y6
  have y7 : ∃ u, w1.cell? ⟨w.heap.size, 7, none⟩ = some u := ⟨_, by rw [cell_of_heap HX.out.1]; rfl⟩
  obtain ⟨u7, y7⟩ := y7
  have f0 : ∀ k, w1.frozen? ⟨w.heap.size, k, none⟩ = false := fun k => frozen_of_heap HX.out.1
  go_wp2_with fail
  exact bodyPost_ret (res_c8 (p := g.first) (a := a1) (c := c1) rfl _ rfl (put8 _ _ _ _ _ _ _ _ HX.out.1)) rfl ⟨rfl, below8 _ _ _ _ _ _ _ _ HX.out.2 (Nat.le_refl _)⟩
set_option maxRecDepth 100000 in
set_option maxHeartbeats 2000000 in
theorem second56 {w : World} {bg : Nat} {g : Gla} {a1 a2 : Option Addr} {c1 c2 : Nat} (hG : IsGla w bg g a1 c1 a2 c2) :
    Calls Try.prog 56 #[.pointer (some ⟨bg, 0, none⟩)] w fun e w' => e = .returned (g.second.v a2 c2) ∧ Below w.heap.size w w' := by
  have HX := Lib.hid (And.intro (World.alloc_heap_new w (.cells #[.int .i64 0, .int .i64 0, .int .i64 0, .int .i64 0, .int .i64 0, .int .i64 0, .int .i64 0, .slice none 0 0] 26)) (alloc_below w (.cells #[.int .i64 0, .int .i64 0, .int .i64 0, .int .i64 0, .int .i64 0, .int .i64 0, .int .i64 0, .slice none 0 0] 26)))
  have HG := Lib.hid (hG.mono HX.out.2)
  clear hG
  go_enter Try.func56, Try.ntmps56
  refine wp_seq_hid ?_
  intro K0 HK0
  go_wp2_with fail
  refine HK0.out _ _ ?_
  clear HK0 K0
  revert HX HG
  generalize w.alloc (.cells #[.int .i64 0, .int .i64 0, .int .i64 0, .int .i64 0, .int .i64 0, .int .i64 0, .int .i64 0, .slice none 0 0] 26) = w1
  intro HX HG
  obtain ⟨k0, k1, k2, k3, k4, k5, k6, k7, k8, k9, k10, k11, k12, k13, k14, k15, k16, k17⟩ := gla_cells HG.out.h
  have y0 : ∃ u, w1.cell? ⟨w.heap.size, 0, none⟩ = some u := ⟨_, by rw [cell_of_heap HX.out.1]; rfl⟩
  obtain ⟨u0, y0⟩ := y0
  have y1 : ∃ u, w1.cell? ⟨w.heap.size, 1, none⟩ = some u := ⟨_, by rw [cell_of_heap HX.out.1]; rfl⟩
  obtain ⟨u1, y1⟩ := y1
  have y2 : ∃ u, w1.cell? ⟨w.heap.size, 2, none⟩ = some u := ⟨_, by rw [cell_of_heap HX.out.1]; rfl⟩
  obtain ⟨u2, y2⟩ := y2
  have y3 : ∃ u, w1.cell? ⟨w.heap.size, 3, none⟩ = some u := ⟨_, by rw [cell_of_heap HX.out.1]; rfl⟩
  obtain ⟨u3, y3⟩ := y3
  have y4 : ∃ u, w1.cell? ⟨w.heap.size, 4, none⟩ = some u := ⟨_, by rw [cell_of_heap HX.out.1]; rfl⟩
  obtain ⟨u4, y4⟩ := y4
  have y5 : ∃ u, w1.cell? ⟨w.heap.size, 5, none⟩ = some u := ⟨_, by rw [cell_of_heap HX.out.1]; rfl⟩
  obtain ⟨u5, y5⟩ := y5
  have y6 : ∃ u, w1.cell? ⟨w.heap.size, 6, none⟩ = some u := ⟨_, by rw [cell_of_heap HX.out.1]; rfl⟩
  obtain ⟨u6, y6⟩ := y6
  have y7 : ∃ u, w1.cell? ⟨w.heap.size, 7, none⟩ = some u := ⟨_, by rw [cell_of_heap HX.out.1]; rfl⟩
  obtain ⟨u7, y7⟩ := y7
  have f0 : ∀ k, w1.frozen? ⟨w.heap.size, k, none⟩ = false := fun k => frozen_of_heap HX.out.1
  go_wp2_with fail
  exact bodyPost_ret (res_c8 (p := g.second) (a := a2) (c := c2) rfl _ rfl (put8 _ _ _ _ _ _ _ _ HX.out.1)) rfl ⟨rfl, below8 _ _ _ _ _ _ _ _ HX.out.2 (Nat.le_refl _)⟩
set_option maxRecDepth 100000 in
set_option maxHeartbeats 2000000 in
theorem views36 (w : World) : Calls Try.prog 36 #[] w fun e w' => e = .returned (.agg #[.func (.func 55) #[] #[], .func (.func 56) #[] #[]]) ∧ Below w.heap.size w w' := by
  have HX := Lib.hid (And.intro (World.alloc_heap_new w (.cells #[.func (.func 55) #[] #[], .func (.func 56) #[] #[]] 87)) (alloc_below w (.cells #[.func (.func 55) #[] #[], .func (.func 56) #[] #[]] 87)))
  go_enter Try.func36, Try.ntmps36
  go_wp2_with fail
  revert HX
  generalize w.alloc (.cells #[.func (.func 55) #[] #[], .func (.func 56) #[] #[]] 87) = w1
  intro HX
  exact bodyPost_ret (res_c2y (by decide) rfl _ rfl (by rw [cell_of_heap HX.out.1]; rfl) (by rw [cell_of_heap HX.out.1]; rfl)) rfl ⟨rfl, HX.out.2⟩
/-- All differences of two spans' numbers. -/
def Spn.less (a b : Spn) : Spn := ⟨a.lo - b.hi, a.hi - b.lo⟩
/-- A span within limits. -/
def Spn.Far (a : Spn) : Prop := (-2147483648 ≤ a.lo ∧ a.lo ≤ 2147483648) ∧ (-2147483648 ≤ a.hi ∧ a.hi ≤ 2147483648)
set_option maxRecDepth 100000 in
set_option maxHeartbeats 2000000 in
theorem less104 {a b : Spn} (ha : a.Far) (hb : b.Far) (w : World) : Calls Try.prog 104 #[a.v, b.v] w fun e w' => e = .returned (a.less b).v ∧ Below w.heap.size w w' := by
  obtain ⟨a1, a2⟩ := ha
  obtain ⟨b1, b2⟩ := hb
  have x1 : IntKind.i64.wrap (a.lo - b.hi) = a.lo - b.hi := IntWalk.i64_in _ (by omega)
  have x2 : IntKind.i64.wrap (a.hi - b.lo) = a.hi - b.lo := IntWalk.i64_in _ (by omega)
  clear a1 a2 b1 b2
  have HX := Lib.hid (alloc3 w a.arr b.arr #[.int .i64 0, .int .i64 0] 49 49 49 _ rfl)
  go_enter Try.func104, Try.ntmps104
  refine wp_seq_hid ?_
  intro K0 HK0
  go_wp2_with fail
  refine HK0.out _ _ ?_
  clear HK0 K0
  revert HX
  generalize (((w.alloc (.cells a.arr 49)).alloc (.cells b.arr 49)).alloc (.cells #[.int .i64 0, .int .i64 0] 49)) = w1
  intro HX
  have b0_0 : w1.cell? ⟨w.heap.size, 0, none⟩ = some (.int .i64 a.lo) := by rw [cell_of_heap HX.out.1]; rfl
  have b0_1 : w1.cell? ⟨w.heap.size, 1, none⟩ = some (.int .i64 a.hi) := by rw [cell_of_heap HX.out.1]; rfl
  have b1_0 : w1.cell? ⟨w.heap.size + 1, 0, none⟩ = some (.int .i64 b.lo) := by rw [cell_of_heap HX.out.2.1]; rfl
  have b1_1 : w1.cell? ⟨w.heap.size + 1, 1, none⟩ = some (.int .i64 b.hi) := by rw [cell_of_heap HX.out.2.1]; rfl
  have HR := Lib.hid HX.out.2.2.1
  have y0 : w1.cell? ⟨w.heap.size + 2, 0, none⟩ = some (.int .i64 0) := by rw [cell_of_heap HR.out]; rfl
  have y1 : w1.cell? ⟨w.heap.size + 2, 1, none⟩ = some (.int .i64 0) := by rw [cell_of_heap HR.out]; rfl
  have f0 : ∀ k, w1.frozen? ⟨w.heap.size + 2, k, none⟩ = false := fun k => frozen_of_heap HR.out
  go_wp2_with fail
  have h4 := (heap_setCell_at (k := 1) (heap_setCell_at (k := 0) HR.out (.int .i64 (a.lo - b.hi))) (.int .i64 (a.hi - b.lo)))
  exact bodyPost_ret (res_c2y (by decide) rfl _ rfl (by rw [cell_of_heap h4]; rfl) (by rw [cell_of_heap h4]; rfl)) rfl ⟨rfl, ((HX.out.2.2.2.setCell (p := ⟨w.heap.size + 2, _, none⟩) (by show w.heap.size ≤ w.heap.size + 2; omega) _).setCell (p := ⟨w.heap.size + 2, _, none⟩) (by show w.heap.size ≤ w.heap.size + 2; omega) _)⟩
set_option maxRecDepth 100000 in
set_option maxHeartbeats 2000000 in
theorem moved103 {a b : Spn} (ha : a.Far) (hb : b.Far) (y z : Value) (w : World) : Calls Try.prog 103 #[.agg #[], y, z, .agg #[.int .i64 a.lo, .int .i64 a.hi, .int .i64 b.lo, .int .i64 b.hi]] w fun e w' => e = .returned (b.less a).v ∧ Below w.heap.size w w' := by
  have HA := Lib.hid (And.intro ha hb)
  clear ha hb
  have HX := Lib.hid (alloc3 w #[] #[.int .i64 a.lo, .int .i64 a.hi, .int .i64 b.lo, .int .i64 b.hi] #[.int .i64 0, .int .i64 0] 55 91 49 _ rfl)
  go_enter Try.func103, Try.ntmps103
  refine wp_seq_hid ?_
  intro K0 HK0
  go_wp2_with fail
  refine HK0.out _ _ ?_
  clear HK0 K0
  revert HX
  generalize (((w.alloc (.cells #[] 55)).alloc (.cells #[.int .i64 a.lo, .int .i64 a.hi, .int .i64 b.lo, .int .i64 b.hi] 91)).alloc (.cells #[.int .i64 0, .int .i64 0] 49)) = w1
  intro HX
  have b1_0 : w1.cell? ⟨w.heap.size + 1, 0, none⟩ = some (.int .i64 a.lo) := by rw [cell_of_heap HX.out.2.1]; rfl
  have b1_1 : w1.cell? ⟨w.heap.size + 1, 1, none⟩ = some (.int .i64 a.hi) := by rw [cell_of_heap HX.out.2.1]; rfl
  have b1_2 : w1.cell? ⟨w.heap.size + 1, 2, none⟩ = some (.int .i64 b.lo) := by rw [cell_of_heap HX.out.2.1]; rfl
  have b1_3 : w1.cell? ⟨w.heap.size + 1, 3, none⟩ = some (.int .i64 b.hi) := by rw [cell_of_heap HX.out.2.1]; rfl
  go_wp2_with fail
  refine (less104 HA.out.2 HA.out.1 w1).mono ?_
  clear b1_0 b1_1 b1_2 b1_3
  rintro e w2 ⟨rfl, hb⟩
  have HB := Lib.hid hb
  clear hb
  have HR := Lib.hid ((HB.out.block _ (heap_lt HX.out.2.2.1)).trans HX.out.2.2.1)
  have y0 : w2.cell? ⟨w.heap.size + 2, 0, none⟩ = some (.int .i64 0) := by rw [cell_of_heap HR.out]; rfl
  have y1 : w2.cell? ⟨w.heap.size + 2, 1, none⟩ = some (.int .i64 0) := by rw [cell_of_heap HR.out]; rfl
  have f0 : ∀ k, w2.frozen? ⟨w.heap.size + 2, k, none⟩ = false := fun k => frozen_of_heap HR.out
  go_wp2_with fail
  have h4 := (heap_setCell_at (k := 1) (heap_setCell_at (k := 0) HR.out (.int .i64 (b.less a).lo)) (.int .i64 (b.less a).hi))
  have hbb := HX.out.2.2.2.trans (HB.out.mono HX.out.2.2.2.size)
  exact bodyPost_ret (res_c2y (by decide) rfl _ rfl (by rw [cell_of_heap h4]; rfl) (by rw [cell_of_heap h4]; rfl)) rfl ⟨rfl, ((hbb.setCell (p := ⟨w.heap.size + 2, _, none⟩) (by show w.heap.size ≤ w.heap.size + 2; omega) _).setCell (p := ⟨w.heap.size + 2, _, none⟩) (by show w.heap.size ≤ w.heap.size + 2; omega) _)⟩
set_option maxRecDepth 100000 in
set_option maxHeartbeats 2000000 in
theorem isThing18 {g : Gla} {a1 a2 : Option Addr} {c1 c2 : Nat} {n : Int} (hl : g.first.things.length ≤ 1000000) (w : World) : Calls Try.prog 18 #[g.v a1 c1 a2 c2, .int .i64 n] w fun e w' => e = .returned (.bool (inR n 0 ((g.first.things.length : Int) - 1))) ∧ Below w.heap.size w w' := by
  have HX := Lib.hid (And.intro (World.alloc_heap_new w (.cells (g.arr a1 c1 a2 c2) 28)) (alloc_below w (.cells (g.arr a1 c1 a2 c2) 28)))
  go_enter Try.func18, Try.ntmps18
  refine wp_seq_hid ?_
  intro K0 HK0
  go_wp2_with fail
  refine HK0.out _ _ ?_
  clear HK0 K0
  revert HX
  generalize w.alloc (.cells (g.arr a1 c1 a2 c2) 28) = w1
  intro HX
  have k7 : w1.cell? ⟨w.heap.size, 7, none⟩ = some (.slice a1 g.first.things.length c1) := by rw [cell_of_heap HX.out.1]; rfl
  have x1 : IntKind.i64.wrap ((g.first.things.length : Int) - 1) = (g.first.things.length : Int) - 1 := IntWalk.i64_in _ (by omega)
  go_wp2_with fail
  refine (within37 _ _ _ _).mono ?_
  clear k7
  rintro e w2 ⟨rfl, rfl⟩
  go_wp2_with fail
  go_ret
  exact ⟨rfl, HX.out.2⟩
end Go.Proofs.Ytbnhngfegnhaiaa
