/- The cheapest plan: behind the range. The cheapest plan: what a round keeps. The cheapest plan. Lists gathered by append, handed on and returned; the drawn region of the reference's slots. The reference's formes: how many sheets suffice, and lists of formes that grow. The reference's formes. The reference's Best. The laws' span and forme. The laws' sample. The sample's best plan. -/
import Derived.Test.YtjkhclijmcmdjaaC12
namespace Go.Proofs.Ytjkhclijmcmdjaa
open Go.RowKit
set_option linter.unusedVariables false
set_option linter.unusedSimpArgs false
/-- A plan, where the consumer keeps it. -/
def PlanAt (p : Prs) (A : World) (lb : Nat) (x : List Fme) (c : Array Value) : Prop :=
  (x = [] ∧ c = #[.slice none 0 0, .int .i64 0]) ∨
  ∃ g rs, c = #[.slice (some ⟨g, 0, none⟩) x.length x.length, .int .i64 (p.cost x)] ∧ PlM A g x rs ∧ lb < g ∧ ∀ r ∈ rs, ∀ b o, r.1 = some ⟨b, o, none⟩ → lb < b ∧ b ≠ g
def BestAt (p : Prs) (A : World) (lb : Nat) : Option (List Fme) → Array Value → Prop
  | none, c => c = #[.slice none 0 0, .int .i64 0]
  | some x, c => PlanAt p A lb x c
/-- What is kept while the best plan is sought. -/
structure BestS (p : Prs) (W : World) (be b5 b6 lb : Nat) (o : Option (List Fme)) (A : World) : Prop where
  le : Below W.heap.size W A
  he : A.heap[be]? = some (.cells #[.int .i64 0] 34 (0, 0))
  h6 : A.heap[b6]? = some (.cells #[.bool o.isSome] 4 (0, 0))
  best : ∃ c, A.heap[b5]? = some (.cells c 81 (0, 0)) ∧ BestAt p A lb o c
theorem below_putObj {B : Nat} {A v : World} {D : Nat} (h : Below B A v) (hB : B ≤ D) (hv : B ≤ v.heap.size) (o : Obj) : Below B A (v.putObj D o) := h.grown (grownBy_putObj' v D o) hv (fun k e => by cases e; exact hB)
theorem fmes_put {v : World} {D : Nat} {a : Option Addr} {x : List Fme} (h : IsFmes v a x) (hD : ∀ k c t f, v.heap[k]? = some (.cells c t f) → k ≠ D) (o : Obj) : IsFmes (v.putObj D o) a x := by
  have hc : ∀ {b k : Nat} {u : Value}, v.cell? ⟨b, k, none⟩ = some u → (v.putObj D o).cell? ⟨b, k, none⟩ = some u := fun {b k u} hu => by
    have hne : b ≠ D := by
      cases hb : v.heap[b]? with
      | none => simp [World.cell?, hb] at hu
      | some ob =>
        cases ob with
        | cells c t f => exact hD b c t f hb
        | _ => simp [World.cell?, hb] at hu
    rw [cell_eq (World.putObj_heap_other hne)]; exact hu
  intro i hi
  obtain ⟨b, off, ha, ai, ci, h0, h1, h2⟩ := h i hi
  refine ⟨b, off, ha, ai, ci, hc h0, hc h1, fun j hj => ?_⟩
  obtain ⟨b', o', ha', h3⟩ := h2 j hj
  exact ⟨b', o', ha', hc h3⟩
/-- While the slots of the best plan are laid anew. -/
structure BestL (p : Prs) (W : World) (be b5 D g : Nat) (x : List Fme) (rs : List Row) (A : World) : Prop where
  le : Below W.heap.size W A
  he : A.heap[be]? = some (.cells #[.int .i64 0] 34 (0, 0))
  h5 : A.heap[b5]? = some (.cells #[.slice (some ⟨g, 0, none⟩) x.length x.length, .int .i64 (p.cost x)] 81 (0, 0))
  hD : A.heap[D]? = some (.deferred (some []))
  pm : PlM A g x rs
  rb : ∀ r ∈ rs, ∀ b o, r.1 = some ⟨b, o, none⟩ → b ≠ g ∧ be < b
  ne : be ≠ g ∧ b5 ≠ g ∧ D ≠ g ∧ W.heap.size ≤ g
theorem BestL.mono {p : Prs} {W : World} {be b5 D g : Nat} {x : List Fme} {rs : List Row} {A B : World} (h : BestL p W be b5 D g x rs A) (hb : Below A.heap.size A B) : BestL p W be b5 D g x rs B :=
  ⟨h.le.trans (hb.mono h.le.size), (hb.block _ (heap_lt h.he)).trans h.he, (hb.block _ (heap_lt h.h5)).trans h.h5, (hb.block _ (heap_lt h.hD)).trans h.hD, h.pm.mono hb, h.rb, h.ne⟩
theorem BestL.set {p : Prs} {W : World} {be b5 D g i : Nat} {x : List Fme} {rs : List Row} {r : Row} {A : World} (h : BestL p W be b5 D g x rs A) (hi : i < x.length) (hr : IsInts A r.1 (gf x i).slots) (hrb : ∀ b o, r.1 = some ⟨b, o, none⟩ → b ≠ g ∧ be < b) :
    BestL p W be b5 D g x (rs.set i r) (A.setCell ⟨g, i * 2, none⟩ (.slice r.1 (gf x i).slots.length r.2)) :=
  ⟨h.le.setCell (p := ⟨g, i * 2, none⟩) h.ne.2.2.2 _, (Below.heap_setCell _ _ _ _ h.ne.1).trans h.he, (Below.heap_setCell _ _ _ _ h.ne.2.1).trans h.h5, (Below.heap_setCell _ _ _ _ h.ne.2.2.1).trans h.hD, h.pm.set hi hr (fun b o e => (hrb b o e).1) (fun q hq b o e => (h.rb q hq b o e).1),
    fun q hq b o e => by
      rcases List.mem_or_eq_of_mem_set hq with hq | hq
      · exact h.rb q hq b o e
      · subst hq; exact hrb b o e, h.ne⟩
theorem set_same_err {v : World} {be : Nat} (he : v.heap[be]? = some (.cells #[.int .i64 0] 34 (0, 0))) : (v.setCell ⟨be, 0, none⟩ (.int .i64 0)).heap[be]? = some (.cells #[.int .i64 0] 34 (0, 0)) := heap_setCell_at (k := 0) he (.int .i64 0)
theorem BestL.err {p : Prs} {W : World} {be b5 D g : Nat} {x : List Fme} {rs : List Row} {A : World} (h : BestL p W be b5 D g x rs A) (n5 : b5 ≠ be) (nD : D ≠ be) (hbe : W.heap.size ≤ be) : BestL p W be b5 D g x rs (A.setCell ⟨be, 0, none⟩ (.int .i64 0)) :=
  ⟨h.le.setCell (p := ⟨be, 0, none⟩) hbe _, set_same_err h.he, (Below.heap_setCell _ _ _ _ n5).trans h.h5, (Below.heap_setCell _ _ _ _ nD).trans h.hD,
    ⟨(Below.heap_setCell _ _ _ _ (Ne.symm h.ne.1)).trans h.pm.h, h.pm.len, fun i r hr => ints_set (h.pm.slots i r hr) (fun b o e => by have := (h.rb r (List.mem_of_getElem? hr) b o e).2; omega)⟩, h.rb, h.ne⟩
noncomputable def bes9C : Code := (Try.f23.body.bind (fromRegion 9)).getD .skip
set_option maxRecDepth 100000 in
set_option maxHeartbeats 4000000 in
theorem best9 {p : Prs} {W v : World} {be b5 b6 lb D : Nat} {o : Option (List Fme)} (hV : p.valid = true) (HX : Hid (BestS p W be b5 b6 lb o v)) (HD : Hid (v.heap[D]? = some (.deferred (some [])))) (HL : Hid (W.heap.size ≤ be ∧ be < b5 ∧ b5 < b6 ∧ b6 < D ∧ D < lb)) (HO : Hid (o = p.pickF none p.plans))
    {s0 s1 s7 s8 s9 s10 s11 s12 s13 s14 s15 s16 s17 s18 s19 s20 s21 s22 s23 s24 s25 s26 s27 s28 s29 s30 s31 s32 s33 s34 s35 s36 s37 s38 s39 s40 s41 s42 s43 s44 s45 s46 s47 : Value} :
    Code.wp Try.prog bes9C (bodyPostX Try.prog Try.f23 fun e w' => ∃ a c, e = .returned (.tuple #[.slice a (bestE p).1.length c, .int .i64 (bestE p).2.1, .int .i64 (bestE p).2.2]) ∧ IsFmes w' a (bestE p).1 ∧ Below W.heap.size W w') { tmps := #[s0, s1, .slice none 0 0, .int .i64 0, .pointer (some ⟨be, 0, none⟩), .pointer (some ⟨b5, 0, none⟩), .pointer (some ⟨b6, 0, none⟩), s7, s8, s9, s10, s11, s12, s13, s14, s15, s16, s17, s18, s19, s20, s21, s22, s23, s24, s25, s26, s27, s28, s29, s30, s31, s32, s33, s34, s35, s36, s37, s38, s39, s40, s41, s42, s43, s44, s45, s46, s47], defers := markOf D :: dfr be } v := by
  conv => arg 2; whnf
  have HV := Lib.hid hV
  clear hV
  have hE : p.openE true = 0 := by unfold Prs.openE; rw [HV.out]; rfl
  have HE : Hid ((∀ l, o = some l → bestE p = (l, p.cost l, 0)) ∧ (o = none → bestE p = ([], 0, 10))) := by
    constructor
    · intro l hl
      unfold bestE; simp only; rw [if_pos hE, ← HO.out, hl]
    · intro hl
      unfold bestE; simp only; rw [if_pos hE, ← HO.out, hl]
  clear hE
  have c6 : v.cell? ⟨b6, 0, none⟩ = some (.bool o.isSome) := by rw [cell_of_heap HX.out.h6]; rfl
  cases o with
  | none =>
    go_wp2_with fail
    refine (need_no _ _).mono ?_
    rintro e w3 ⟨rfl, rfl⟩
    go_wp2_with fail
    have hl := HL.out
    have hbd : be ≠ D := by omega
    have hq := (World.putObj_heap_other (o := .deferred none) (w := v) hbd).trans HX.out.he
    have hb2 : Below W.heap.size W (v.putObj D (.deferred none)) := below_putObj HX.out.le (by omega) HX.out.le.size _
    refine ⟨[D], dfr be, rfl, by simp, _, run_takeDeferred HD.out, leaves41_no (y := .int .i64 0) (by rw [cell_of_heap hq]; rfl) (frozen_of_heap hq) (res30 rfl _ rfl rfl rfl (by rw [cell_of_heap (caught_heap hq)]; rfl)) ?_⟩
    rw [HE.out.2 trivial]
    exact ⟨none, 0, rfl, fun i hi => by simp at hi, caught_below hb2 (by omega) hb2.size⟩
  | some x =>
    have hxm : x ∈ p.plans := by
      rcases pickF_mem p p.plans none HO.out.symm with h | h
      · exact h
      · cases h
    have hok := plans_ok HV.out hxm
    have hfo := formes_of HV.out
    have hxl : x.length ≤ 2 := by omega
    have hw4 := wanted_of HV.out
    have HOK := Lib.hid hok
    have HEX := Lib.hid (HE.out.1 x rfl)
    obtain ⟨c, h5, hpl⟩ := HX.out.best
    have hpl : PlanAt p v lb x c := hpl
    clear hxm hok HE HO
    refine wp_seq_hid ?_
    intro K1 HK1
    go_wp2_with fail
    refine (need_yes _ _).mono ?_
    rintro e w3 ⟨rfl, rfl⟩
    go_wp2_with fail
    refine HK1.out _ _ ?_
    clear HK1 K1 c6
    rcases hpl with ⟨rfl, rfl⟩ | ⟨g, rs, rfl, hpm, hlg, hrb⟩
    · have HX5 := Lib.hid (And.intro HX.out (And.intro h5 HD.out))
      have z0 : v.cell? ⟨b5, 0, none⟩ = some (.slice none 0 0) := by rw [cell_of_heap h5]; rfl
      refine wp_seq_hid ?_
      intro K2 HK2
      refine wp_seq_hid ?_
      intro K3 HK3
      go_wp2_with fail
      refine HK3.out _ _ ?_
      clear HK3 K3 z0 h5
      refine wp_block ?_
      go_loopw [30] (fun q wr => q = .int .i64 0 ∧ wr = v) (fun _ _ => 0)
      case atStart => exact ⟨rfl, rfl⟩
      case round =>
        obtain ⟨rfl, rfl⟩ := hrel
        go_wp2_with fail
        refine HK2.out _ _ ?_
        refine wp_seq_hid ?_
        intro K5 HK5
        have hl := HL.out
        refine wpIn_wide.1 (bes15 (er := 0) (b5 := b5) (be := be) (n := 0) (c := 0) (a := none) (x := 0)
          (P0 := fun u => Below W.heap.size W u ∧ u.heap[be]? = some (.cells #[.int .i64 0] 34 (0, 0)) ∧ u.heap[b5]? = some (.cells #[.slice none 0 0, .int .i64 0] 81 (0, 0)) ∧ u.heap[D]? = some (.deferred (some [])))
          (P1 := fun u => Below W.heap.size W u ∧ u.heap[be]? = some (.cells #[.int .i64 0] 34 (0, 0)) ∧ u.heap[b5]? = some (.cells #[.slice none 0 0, .int .i64 0] 81 (0, 0)) ∧ u.heap[D]? = some (.deferred (some []))) ?h0_2 ?l1_2 ?l3_2 ?s6_2 ?hQ2)
        case h0_2 => exact ⟨HX5.out.1.le.drew, HX5.out.1.he, HX5.out.2.1, HX5.out.2.2⟩
        case l1_2 => rintro u (h | h) <;> (rw [cell_of_heap h.2.2.1]; rfl)
        case l3_2 => rintro u (h | h) <;> (rw [cell_of_heap h.2.2.1]; rfl)
        case s6_2 =>
          intro u h
          exact ⟨⟨_, by rw [cell_of_heap h.2.1]; rfl⟩, frozen_of_heap h.2.1, h.1.setCell (p := ⟨be, 0, none⟩) (by show W.heap.size ≤ be; omega) _, set_same_err h.2.1, (Below.heap_setCell _ _ _ _ (by show b5 ≠ be; omega)).trans h.2.2.1, (Below.heap_setCell _ _ _ _ (by show D ≠ be; omega)).trans h.2.2.2⟩
        intro u hu
        have HU := Lib.hid hu
        clear hu
        refine HK5.out _ _ ?_
        go_wp2_with fail
        have hl := HL.out
        have hbD : be ≠ D := by omega
        have hq := (World.putObj_heap_other (o := .deferred none) (w := u) hbD).trans HU.out.2.1
        have hbp : Below W.heap.size W (u.putObj D (.deferred none)) := below_putObj HU.out.1 (by omega) HU.out.1.size _
        refine ⟨[D], dfr be, rfl, by simp, _, run_takeDeferred HU.out.2.2.2, leaves41_ok (res30 rfl _ rfl rfl rfl (by rw [cell_of_heap hq]; rfl)) ⟨none, ⟨0, by rw [HEX.out]; rfl⟩, ?_, hbp⟩⟩
        rw [HEX.out]
        exact fun i hi => by simp at hi
    · have HP := Lib.hid (And.intro hpm (And.intro hlg hrb))
      have H5 := Lib.hid h5
      have z0 : v.cell? ⟨b5, 0, none⟩ = some (.slice (some ⟨g, 0, none⟩) x.length x.length) := by rw [cell_of_heap h5]; rfl
      clear hpm hlg hrb h5
      refine wp_seq_hid ?_
      intro K2 HK2
      refine wp_seq_hid ?_
      intro K3 HK3
      go_wp2_with fail
      refine HK3.out _ _ ?_
      clear HK3 K3 z0
      refine wp_block ?_
      have HL0 : Hid (BestL p W be b5 D g x rs v) := ⟨HX.out.le, HX.out.he, H5.out, HD.out, HP.out.1, fun r hr b o e => ⟨(HP.out.2.2 r hr b o e).2, by have := (HP.out.2.2 r hr b o e).1; have := HL.out; omega⟩, by have := HL.out; have := HP.out.2.1; omega⟩
      clear HP H5 HX HD
      go_loopw [30] (fun q wr => ∃ (i : Nat) (rsk : List Row), i ≤ x.length ∧ q = .int .i64 (i : Int) ∧ Hid (BestL p W be b5 D g x rsk wr)) (fun q _ => x.length - (intOf q).toNat)
      case atStart => exact ⟨0, rs, by omega, rfl, HL0.out⟩
      case round =>
        obtain ⟨i, rsk, hi, rfl, HR⟩ := hrel
        by_cases hlt : i < x.length
        · obtain ⟨r, hr, hc1, hc2⟩ := fmC_at HR.out.pm.len hlt
          have q1 : wr.cell? ⟨g, i * 2, none⟩ = some (.slice r.1 (gf x i).slots.length r.2) := by rw [cell_of_heap HR.out.pm.h, List.getElem?_toArray]; exact hc1
          have q2 : wr.cell? ⟨g, i * 2 + 1, none⟩ = some (.int .i64 (gf x i).times) := by rw [cell_of_heap HR.out.pm.h, List.getElem?_toArray]; exact hc2
          have hba : Below wr.heap.size wr (wr.alloc (.cells #[.slice r.1 (gf x i).slots.length r.2, .int .i64 (gf x i).times] 29)) := (Below.refl _ _).alloc (Nat.le_refl _) _
          have hq10 := World.alloc_heap_new wr (.cells #[.slice r.1 (gf x i).slots.length r.2, .int .i64 (gf x i).times] 29)
          have hsl : (gf x i).slots.length = p.wanted.length := by
            have := HOK.out.2 (gf x i) (by simp [gf, hlt]); unfold fmeOk at this; simp only [Bool.and_eq_true, decide_eq_true_eq] at this; exact this.1.1.1
          have H7 := Lib.hid (And.intro (HR.out.mono hba) (And.intro hq10 (And.intro ((HR.out.pm.slots i r hr).mono hba) (And.intro (heap_lt HR.out.pm.h) hsl))))
          clear hr hc1 hc2 hba hq10 hsl HR
          go_upto_region 13 with fail
          revert H7
          generalize wr.alloc (.cells #[.slice r.1 (gf x i).slots.length r.2, .int .i64 (gf x i).times] 29) = w5
          generalize wr.heap.size = b10
          intro H7
          refine wpIn_wide.1 (bes13 (b5 := b5) (b10 := b10) (g := g) (i := i) (n := x.length) (ai := r.1) (ns := (gf x i).slots.length) (ci := r.2)
            (S0 := fun u => Below w5.heap.size w5 u) (S1 := fun r1 u => Below w5.heap.size w5 u ∧ IsInts u r1.1 (gf x i).slots ∧ ∀ b o, r1.1 = some ⟨b, o, none⟩ → w5.heap.size ≤ b)
            (S2 := fun r1 u => BestL p W be b5 D g x (rsk.set i r1) u) hlt (by omega) ?h0 ?l1 ?l4 ?c5 ?c8 ?hQ)
          case h0 => exact (Below.refl _ _).drew
          case l1 =>
            intro r1 u h
            have hu : Below w5.heap.size w5 u := by rcases h with h | h <;> first | exact h | exact h.1
            rw [cell_of_heap (H7.out.1.mono hu).h5]; rfl
          case l4 => exact fun u h => by rw [cell_of_heap ((h.block _ (heap_lt H7.out.2.1)).trans H7.out.2.1)]; rfl
          case c5 =>
            intro u h
            refine (clone55i (c := r.2) (H7.out.2.2.1.mono h) (by rw [H7.out.2.2.2.2]; omega) (by rw [H7.out.2.2.2.2]; omega)).mono ?_
            rintro e w' ⟨g', c', rfl, hg, hi2, hb⟩
            exact ⟨(some ⟨g', 0, none⟩, c'), rfl, h.trans (hb.mono h.size), hi2, fun b o e => by cases e; exact Nat.le_trans h.size hg⟩
          case c8 =>
            intro r1 u h
            have hL := H7.out.1.mono h.1
            obtain ⟨r', hr', hc1, hc2⟩ := fmC_at hL.pm.len hlt
            refine ⟨⟨_, by rw [cell_of_heap hL.pm.h, List.getElem?_toArray]; exact hc1⟩, frozen_of_heap hL.pm.h, hL.set hlt h.2.1 (fun b o e => ?_)⟩
            have h1 := h.2.2 b o e
            have h2 := heap_lt H7.out.1.pm.h
            have h3 := heap_lt H7.out.1.he
            omega
          intro r1 u hu
          have HU : Hid (BestL p W be b5 D g x (rsk.set i r1) u) := hu
          clear hu q1 q2 H7
          go_wp2_with fail
          go_roundw
          case rel => exact ⟨i + 1, rsk.set i r1, by omega, by go_num, HU.out⟩
          case measure => simp [intOf]; omega
        · go_wp2_with fail
          refine HK2.out _ _ ?_
          refine wp_seq_hid ?_
          intro K5 HK5
          have hl := HL.out
          refine wpIn_wide.1 (bes15 (er := 0) (b5 := b5) (be := be) (n := x.length) (c := x.length) (a := some ⟨g, 0, none⟩) (x := p.cost x)
            (P0 := fun u => BestL p W be b5 D g x rsk u) (P1 := fun u => BestL p W be b5 D g x rsk u) ?h0_1 ?l1_1 ?l3_1 ?s6 ?hQ1)
          case h0_1 => exact HR.out.mono (Below.refl _ _).drew
          case l1_1 => rintro u (h | h) <;> (rw [cell_of_heap h.h5]; rfl)
          case l3_1 => rintro u (h | h) <;> (rw [cell_of_heap h.h5]; rfl)
          case s6 =>
            intro u h
            refine ⟨⟨_, by rw [cell_of_heap h.he]; rfl⟩, frozen_of_heap h.he, h.err (by omega) (by omega) (by omega)⟩
          intro u hu
          have HU : Hid (BestL p W be b5 D g x rsk u) := hu
          clear hu HR
          refine HK5.out _ _ ?_
          go_wp2_with fail
          have hl := HL.out
          have hbD : be ≠ D := by omega
          have hq := (World.putObj_heap_other (o := .deferred none) (w := u) hbD).trans HU.out.he
          have hbp : Below W.heap.size W (u.putObj D (.deferred none)) := below_putObj HU.out.le (by omega) HU.out.le.size _
          refine ⟨[D], dfr be, rfl, by simp, _, run_takeDeferred HU.out.hD, leaves41_ok (res30 rfl _ rfl rfl rfl (by rw [cell_of_heap hq]; rfl)) ⟨some ⟨g, 0, none⟩, ⟨x.length, by rw [HEX.out]; rfl⟩, ?_, hbp⟩⟩
          rw [HEX.out]
          exact fmes_put HU.out.pm.fmes (fun k c t f hk e => by subst e; rw [HU.out.hD] at hk; cases hk) _
end Go.Proofs.Ytjkhclijmcmdjaa
namespace Go.Proofs.Ytjkhclijmcmdjaa
open Go.RowKit
set_option linter.unusedVariables false
set_option linter.unusedSimpArgs false
theorem PlanAt.keep {p : Prs} {A B : World} {lb : Nat} {x : List Fme} {c : Array Value} (h : PlanAt p A lb x c) (hk : ∀ k, lb < k → k < A.heap.size → B.heap[k]? = A.heap[k]?) : PlanAt p B lb x c := by
  rcases h with h | ⟨g, rs, hc, hm, hg, hr⟩
  · exact .inl h
  · refine .inr ⟨g, rs, hc, ⟨(hk g hg (heap_lt hm.h)).trans hm.h, hm.len, fun i r hi => ?_⟩, hg, hr⟩
    intro j hj
    obtain ⟨b, o, he, h0⟩ := hm.slots i r hi j hj
    exact ⟨b, o, he, (cell_eq (hk b ((hr r (List.mem_of_getElem? hi) b o he).1) (lt_of_cell h0))).trans h0⟩
theorem BestS.keep {p : Prs} {W : World} {be b5 b6 lb : Nat} {o : Option (List Fme)} {A B : World} (h : BestS p W be b5 b6 lb o A) (hl : be < lb ∧ b5 < lb ∧ b6 < lb) (hb : Below W.heap.size W B) (hk : ∀ k, k ≠ lb → k < A.heap.size → B.heap[k]? = A.heap[k]?) : BestS p W be b5 b6 lb o B := by
  obtain ⟨c, h5, hp⟩ := h.best
  refine ⟨hb, (hk be (by omega) (heap_lt h.he)).trans h.he, (hk b6 (by omega) (heap_lt h.h6)).trans h.h6, c, (hk b5 (by omega) (heap_lt h5)).trans h5, ?_⟩
  cases o with
  | none => exact hp
  | some x => exact PlanAt.keep hp (fun k h1 h2 => hk k (by omega) h2)
theorem plan_of {p : Prs} {lb : Nat} {x : List Fme} {v : Array Value} {A : World} {K : Nat → Prop} (h : PlOk p (lb + 1) x v A K) : ∃ a cc, v = #[.agg #[.slice a x.length cc, .int .i64 (p.cost x)]] ∧ PlanAt p A lb x #[.slice a x.length cc, .int .i64 (p.cost x)] := by
  rcases h with ⟨rfl, rfl, _⟩ | ⟨g, rs, rfl, hm, hg, hr, _⟩
  · exact ⟨none, 0, rfl, .inl ⟨rfl, rfl⟩⟩
  · exact ⟨some ⟨g, 0, none⟩, x.length, rfl, .inr ⟨g, rs, rfl, hm, by omega, fun r hr' b o e => ⟨by have := (hr r hr' b o e).1; omega, (hr r hr' b o e).2⟩⟩⟩
theorem PlanAt.fmes {p : Prs} {A : World} {lb : Nat} {x : List Fme} {a : Option Addr} {n cc : Nat} {q : Int} (h : PlanAt p A lb x #[.slice a n cc, .int .i64 q]) : IsFmes A a x ∧ n = x.length ∧ q = p.cost x := by
  rcases h with ⟨rfl, hc⟩ | ⟨g, rs, hc, hm, _⟩
  · injection hc with hc; injection hc with h1 h2; injection h1 with h3 h4 h5; injection h2 with h6; injection h6 with _ h7
    subst h3 h4 h7
    exact ⟨fun i hi => by simp at hi, rfl, rfl⟩
  · injection hc with hc; injection hc with h1 h2; injection h1 with h3 h4 h5; injection h2 with h6; injection h6 with _ h7
    subst h3 h4 h7
    exact ⟨hm.fmes, rfl, rfl⟩
theorem best_fmes {p : Prs} {A : World} {lb : Nat} {x : List Fme} {c : Array Value} (h : PlanAt p A lb x c) : ∃ a cc, c = #[.slice a x.length cc, .int .i64 (p.cost x)] ∧ IsFmes A a x := by
  rcases h with ⟨rfl, rfl⟩ | ⟨g, rs, rfl, hm, _⟩
  · exact ⟨none, 0, rfl, fun i hi => by simp at hi⟩
  · exact ⟨some ⟨g, 0, none⟩, x.length, rfl, hm.fmes⟩
theorem BestS.put {p : Prs} {W : World} {be b5 b6 lb : Nat} {o : Option (List Fme)} {A : World} (h : BestS p W be b5 b6 lb o A) (hl : W.heap.size ≤ be ∧ be < b5 ∧ b5 < b6 ∧ b6 < lb) {x : List Fme} {a : Option Addr} {cc : Nat} {u0 u1 : Value} (h5 : A.heap[b5]? = some (.cells #[u0, u1] 81 (0, 0))) (hp : PlanAt p A lb x #[.slice a x.length cc, .int .i64 (p.cost x)]) :
    BestS p W be b5 b6 lb (some x) (((A.setCell ⟨b5, 0, none⟩ (.slice a x.length cc)).setCell ⟨b5, 1, none⟩ (.int .i64 (p.cost x))).setCell ⟨b6, 0, none⟩ (.bool true)) := by
  have hk : ∀ k, k ≠ b5 → k ≠ b6 → (((A.setCell ⟨b5, 0, none⟩ (.slice a x.length cc)).setCell ⟨b5, 1, none⟩ (.int .i64 (p.cost x))).setCell ⟨b6, 0, none⟩ (.bool true)).heap[k]? = A.heap[k]? := fun k n5 n6 => (Below.heap_setCell _ _ _ _ n6).trans ((Below.heap_setCell _ _ _ _ n5).trans (Below.heap_setCell _ _ _ _ n5))
  have q5 := heap_setCell_at (k := 1) (heap_setCell_at (k := 0) h5 (.slice a x.length cc)) (.int .i64 (p.cost x))
  have q6 : ((A.setCell ⟨b5, 0, none⟩ (.slice a x.length cc)).setCell ⟨b5, 1, none⟩ (.int .i64 (p.cost x))).heap[b6]? = some (.cells #[.bool o.isSome] 4 (0, 0)) := (Below.heap_setCell _ _ _ _ (by show b6 ≠ b5; omega)).trans ((Below.heap_setCell _ _ _ _ (by show b6 ≠ b5; omega)).trans h.h6)
  refine ⟨((h.le.setCell (p := ⟨b5, 0, none⟩) (by show W.heap.size ≤ b5; omega) _).setCell (p := ⟨b5, 1, none⟩) (by show W.heap.size ≤ b5; omega) _).setCell (p := ⟨b6, 0, none⟩) (by show W.heap.size ≤ b6; omega) _, (hk be (by omega) (by omega)).trans h.he, heap_setCell_at (k := 0) q6 (.bool true), _, (Below.heap_setCell _ _ _ _ (by show b5 ≠ b6; omega)).trans q5, ?_⟩
  exact hp.keep (fun k h1 _ => hk k (by omega) (by omega))
theorem same56 {A : World} {b5 b6 : Nat} {u v q : Value} : Same (fun k => k = b5 ∨ k = b6) A (((A.setCell ⟨b5, 0, none⟩ u).setCell ⟨b5, 1, none⟩ v).setCell ⟨b6, 0, none⟩ q) :=
  (((Same.refl _ A).setCell (p := ⟨b5, 0, none⟩) (.inl (.inl rfl)) _).setCell (p := ⟨b5, 1, none⟩) (.inl (.inl rfl)) _).setCell (p := ⟨b6, 0, none⟩) (.inl (.inr rfl)) _
end Go.Proofs.Ytjkhclijmcmdjaa
namespace Go.Proofs.Ytjkhclijmcmdjaa
open Go.RowKit
set_option linter.unusedVariables false
set_option linter.unusedSimpArgs false
attribute [local go_sem] Oper.semAt_some
set_option maxRecDepth 100000 in
set_option maxHeartbeats 4000000 in
theorem best23 {p : Prs} {A : PrsA} {w : World} (hP : IsPrs w p A) (hS : p.Small) :
    Calls Try.prog 23 #[p.v A] w fun e w' => ∃ a c, e = .returned (.tuple #[.slice a (bestE p).1.length c, .int .i64 (bestE p).2.1, .int .i64 (bestE p).2.2]) ∧ IsFmes w' a (bestE p).1 ∧ Below w.heap.size w w' := by
  have HX := Lib.hid (alloc4 w (p.arr A) #[.int .i64 0] #[.slice none 0 0, .int .i64 0] #[.bool false] 27 34 81 4 _ rfl)
  have HF := Lib.hid hP
  have HS := Lib.hid hS
  have hsz : Hid (((((w.alloc (.cells (p.arr A) 27)).alloc (.cells #[.int .i64 0] 34)).alloc (.cells #[.slice none 0 0, .int .i64 0] 81)).alloc (.cells #[.bool false] 4)).heap.size = w.heap.size + 4) := by show _ = _; simp
  clear hP hS
  refine calls_of_wp_x Try.func23 rfl ?_
  simp only [Try.ntmps23, List.size_toArray, List.length_cons, List.length_nil, Nat.reduceAdd, Nat.reduceSub, Array.replicate_succ, Array.replicate_zero, List.push_toArray, List.append_toArray, List.nil_append, List.cons_append]
  conv => arg 2; whnf
  refine wp_seq_hid ?_
  intro K0 HK0
  go_wp2_with fail
  refine HK0.out _ _ ?_
  clear HK0 K0
  refine wp_seq_hid ?_
  intro K1 HK1
  go_wp2_with fail
  refine HK1.out _ _ ?_
  clear HK1 K1
  refine wp_seq_hid ?_
  intro K2 HK2
  go_wp2_with fail
  refine HK2.out _ _ ?_
  clear HK2 K2
  refine wp_seq_hid ?_
  intro K3 HK3
  go_wp2_with fail
  refine HK3.out _ _ ?_
  clear HK3 K3
  revert HX hsz
  generalize (((w.alloc (.cells (p.arr A) 27)).alloc (.cells #[.int .i64 0] 34)).alloc (.cells #[.slice none 0 0, .int .i64 0] 81)).alloc (.cells #[.bool false] 4) = w1
  generalize h6 : w.heap.size + 3 = b6
  generalize h5 : w.heap.size + 2 = b5
  generalize h4 : w.heap.size + 1 = be
  generalize h3 : w.heap.size = bp
  intro HX hsz
  have HL := Lib.hid (And.intro h3 (And.intro h4 (And.intro h5 h6)))
  clear h3 h4 h5 h6
  have HB1 : Hid (Below w.heap.size w w1) := by have h := HX.out.2.2.2.2; rw [← HL.out.1] at h; exact h
  refine wp_seq_hid ?_
  intro KE HKE
  obtain ⟨m0, m1, m2, m3, m4, m5, m6, m7, m8, m9⟩ := prs_cells HX.out.1
  cases hv : p.valid with
  | false =>
    go_wp2_with fail
    refine (open_no (HF.out.mono HB1.out) HS.out hv).mono ?_
    rintro e w2 ⟨rfl, hb⟩
    have HB := Lib.hid hb
    clear hb
    go_wp2_with fail
    have hq := (HB.out.block _ (heap_lt HX.out.2.1)).trans HX.out.2.1
    have hE : p.openE true = 1 := by unfold Prs.openE; rw [hv]; rfl
    have HE : bestE p = ([], 0, 1) := by unfold bestE; simp only; rw [hE]; rfl
    have hb2 : Below w.heap.size w w2 := HB1.out.trans (HB.out.mono HB1.out.size)
    have hl := HL.out
    refine door_no hq (res30 rfl _ rfl rfl rfl (by rw [cell_of_heap (caught_heap hq)]; rfl)) ?_
    rw [HE]
    exact ⟨none, 0, rfl, fun i hi => by simp at hi, by rw [← HL.out.1]; exact caught_below hb2 (by omega) hb2.size⟩
  | true =>
    have HV := Lib.hid hv
    refine wp_seq_hid ?_
    intro K2 HK2
    go_wp2_with fail
    refine (open_yes (HF.out.mono HB1.out) HS.out hv).mono ?_
    rintro e w2 ⟨bq, rfl, hPR, hbq, hb⟩
    have HB := Lib.hid (And.intro hPR (And.intro hbq hb))
    clear hb hPR hbq hv m0 m1 m2 m3 m4 m5 m6 m7 m8 m9
    go_wp2_with fail
    refine plans53.mono ?_
    rintro e w3 ⟨rfl, hw3⟩
    have hb3 : Below w2.heap.size w2 w3 := by rw [hw3]; exact (Below.refl _ _).alloc (Nat.le_refl _) _
    have hk3 : w3.heap[w2.heap.size]? = some (.cells #[.pointer (some ⟨bq, 0, none⟩)] 71 (0, 0)) := by rw [hw3]; exact World.alloc_heap_new w2 _
    have HB3 := Lib.hid (And.intro hb3 hk3)
    clear hw3 hb3 hk3
    go_wp2_with fail
    refine HK2.out _ _ ?_
    clear HK2 K2
    have hl := HL.out
    have hz1 : w1.heap.size = bp + 4 := hsz.out
    have hz2 := HB.out.2.2.size
    have hz3 := HB3.out.1.size
    have hz32 := heap_lt HB3.out.2
    have HB13 : Hid (Below w1.heap.size w1 w3) := HB.out.2.2.trans (HB3.out.1.mono HB.out.2.2.size)
    have HB03 : Hid (Below w.heap.size w w3) := HB1.out.trans (HB13.out.mono HB1.out.size)
    refine wp_block ?_
    refine wp_rangeFuncM (gf := 75) (lb := #[.pointer (some ⟨w2.heap.size, 0, none⟩)]) rfl (fun args w => by simp [callFunc, Try.func75, Try.f75, go_sem]) p.plans (PlOk p (w3.heap.size + 2)) (fun q => q = b5 ∨ q = b6 ∨ q = w3.heap.size + 1) ?hps (by omega) (by omega) ?hit
      (fun rem V C => ∃ dn, p.plans = dn ++ rem ∧ BestS p w be b5 b6 (w3.heap.size + 1) (p.pickF none dn) V ∧ ∀ k, k < w3.heap.size + 2 → C k) (fun _ _ _ _ => False) ?hI ?hIx ?h0 ?hround ?hdone ?hstop
    case hps =>
      intro x v V K h
      obtain ⟨a, cc, rfl, _⟩ := plan_of h
      rfl
    case hit =>
      intro V hb hs
      rw [← hs]
      refine plans_iter (A0 := A) (bp := bq) HV.out (fun V' hV' => ?_)
      have hbV : Below w3.heap.size w3 V := hb
      have hn : ∀ k, k < w3.heap.size → k ≠ b5 → k ≠ b6 → V'.heap[k]? = w3.heap[k]? := fun k h1 h2 h3 => (hV'.block k (by omega) (fun e => by rcases e with e | e | e <;> omega)).trans (hb.block k h1)
      have hbelow : Below w.heap.size w V' := (HB03.out.trans (hb.mono (by omega))).trans (hV'.below (by omega) (fun k hk e => by rcases e with e | e | e <;> omega))
      refine ⟨by rw [cell_of_heap ((hn _ (by omega) (by omega) (by omega)).trans HB3.out.2)]; rfl, ⟨?_, HF.out.mono hbelow⟩⟩
      have hq := heap_lt HB.out.1.h
      exact (hn bq (by omega) (by have := HB.out.2.1; omega) (by have := HB.out.2.1; omega)).trans ((HB3.out.1.block _ hq).trans HB.out.1.h)
    case hI =>
      rintro i V V' C ⟨dn, h1, h2, h3⟩ hs
      exact ⟨dn, h1, h2.keep (by omega) (h2.le.trans (hs.below h2.le.size (fun k hk e => by omega))) (fun k hk hlt => hs.block k hlt hk), h3⟩
    case hIx =>
      intro c i V V' C h _
      exact h
    case h0 =>
      intro V hb hs
      have hbW := HB03.out.trans (hb.mono (by omega))
      have hn : ∀ k, k < w1.heap.size → V.heap[k]? = w1.heap[k]? := fun k hk => (hb.block k (by omega)).trans (HB13.out.block k hk)
      exact ⟨[], rfl, ⟨hbW, (hn _ (heap_lt HX.out.2.1)).trans HX.out.2.1, (hn _ (heap_lt HX.out.2.2.2.1)).trans HX.out.2.2.2.1, _, (hn _ (heap_lt HX.out.2.2.1)).trans HX.out.2.2.1, rfl⟩, fun k hk => hk⟩
    case hround =>
      rintro x rem v V C K hok hKC hC ⟨dn, hdn, hbs, _⟩ hlt
      obtain ⟨a, cc, rfl, hpl⟩ := plan_of hok
      have HH := Lib.hid (And.intro hdn (And.intro hbs (And.intro hpl (And.intro hC (And.intro hlt hKC)))))
      clear hdn hbs hpl hC hlt hKC
      gi_wp2_with fail
      refine ⟨(Below.refl _ _).alloc (Nat.le_refl _) _, fun V2 hS2 hsz2 => ?_⟩
      obtain ⟨hdn, hbs, hpl, hC, hlt, hKC⟩ := HH.out
      have hszV : (V.alloc (.cells #[.slice a x.length cc, .int .i64 (p.cost x)] 81)).heap.size = V.heap.size + 1 := by simp
      have hv2 : ∀ k, k ≠ w3.heap.size + 1 → k < V.heap.size → V2.heap[k]? = V.heap[k]? := fun k h1 h2 => (hS2.block k (by omega) h1).trans (Below.heap_alloc _ _ _ h2)
      have hnew : V2.heap[V.heap.size]? = some (.cells #[.slice a x.length cc, .int .i64 (p.cost x)] 81 (0, 0)) := (hS2.block _ (by omega) (by omega)).trans (World.alloc_heap_new V _)
      have hb2 : Below w.heap.size w V2 := (hbs.le.alloc hbs.le.size _).trans (hS2.below (by have := hbs.le.size; omega) (fun k hk e => by omega))
      have hbs2 := hbs.keep (by omega) hb2 hv2
      have hpl2 := hpl.keep (fun k h1 h2 => hv2 k (by omega) h2)
      have hxm : x ∈ p.plans := by rw [hdn]; simp
      have hdm : ∀ y, p.pickF none dn = some y → y ∈ p.plans := fun y hy => by
        rcases pickF_mem p dn none hy with h | h
        · rw [hdn]; simp [h]
        · cases h
      have hfin : ∀ V3, Same (fun k => k = b5 ∨ k = b6) V2 V3 → BestS p w be b5 b6 (w3.heap.size + 1) (p.pickF none (dn ++ [x])) V3 →
          Same (mayC (fun q => q = b5 ∨ q = b6 ∨ q = w3.heap.size + 1) (w3.heap.size + 2) C) V2 V3 ∧ V3.heap[w3.heap.size + 1]? = V2.heap[w3.heap.size + 1]? ∧ ∃ C' : Nat → Prop, (∀ k, k < w3.heap.size + 2 → C' k) ∧ (∀ k, C' k → k < V3.heap.size) ∧ (∀ k, C' k → C k ∨ K k ∨ V2.heap.size ≤ k) ∧
            ∃ dn', p.plans = dn' ++ rem ∧ BestS p w be b5 b6 (w3.heap.size + 1) (p.pickF none dn') V3 ∧ ∀ k, k < w3.heap.size + 2 → C' k := fun V3 hs3 hb3 => by
        have hz := hs3.size
        have hC' : ∀ k, k < w3.heap.size + 2 → (C k ∨ K k) ∧ k < V3.heap.size := fun k hk => ⟨.inl (hC k hk), by omega⟩
        refine ⟨hs3.mono (fun k _ e => ?_), hs3.block _ (by omega) (fun e => by omega), fun k => (C k ∨ K k) ∧ k < V3.heap.size, hC', fun k hk => hk.2, fun k hk => hk.1.imp (fun h => h) (fun h => .inl h), dn ++ [x], by rw [hdn]; simp, hb3, hC'⟩
        rcases e with e | e
        · exact ⟨hC k (by omega), fun _ => .inl e⟩
        · exact ⟨hC k (by omega), fun _ => .inr (.inl e)⟩
      have HFIN := Lib.hid hfin
      have hmf : ∀ (fn : Fn) (first cap : Array Value) (w : World), (Instr.makeFunc fn first cap).run Try.prog w = .ok (.func fn first cap) w := fun _ _ _ _ => rfl
      have t0 : V2.cell? ⟨V.heap.size, 0, none⟩ = some (.slice a x.length cc) := by rw [cell_of_heap hnew]; rfl
      have t1 : V2.cell? ⟨V.heap.size, 1, none⟩ = some (.int .i64 (p.cost x)) := by rw [cell_of_heap hnew]; rfl
      obtain ⟨o, ho⟩ : ∃ o, p.pickF none dn = o := ⟨_, rfl⟩
      rw [ho] at hbs2
      have hsn := pickF_snoc p x dn none
      rw [ho] at hsn
      have x6 : V2.cell? ⟨b6, 0, none⟩ = some (.bool o.isSome) := by rw [cell_of_heap hbs2.h6]; rfl
      have f6 : V2.frozen? ⟨b6, 0, none⟩ = false := frozen_of_heap hbs2.h6
      obtain ⟨c5, h5c, hc5⟩ := hbs2.best
      have HQ := Lib.hid (And.intro hbs2 (And.intro hpl2 (And.intro hnew (And.intro hxm (And.intro hdm (And.intro hsn ho))))))
      have HLT := Lib.hid hlt
      clear hdn hbs hpl hC hlt hKC hszV hv2 hb2 hbs2 hpl2 hxm hdm hfin hnew HH hsn ho hS2 hsz2
      cases o with
      | none =>
        have hc5 : c5 = #[.slice none 0 0, .int .i64 0] := hc5
        subst hc5
        have y0 : V2.cell? ⟨b5, 0, none⟩ = some (.slice none 0 0) := by rw [cell_of_heap h5c]; rfl
        have y1 : V2.cell? ⟨b5, 1, none⟩ = some (.int .i64 0) := by rw [cell_of_heap h5c]; rfl
        have g0 : V2.frozen? ⟨b5, 0, none⟩ = false := frozen_of_heap h5c
        have g1 : V2.frozen? ⟨b5, 1, none⟩ = false := frozen_of_heap h5c
        have hne56 : b5 ≠ b6 := by omega
        have hne65 : b6 ≠ b5 := by omega
        have H5C := Lib.hid h5c
        clear h5c
        gi_wp2_with fail
        refine ⟨fun _ _ => trivial, ?_⟩
        gi_wp2_with fail
        refine HFIN.out _ same56 ?_
        rw [HQ.out.2.2.2.2.2.1]
        exact HQ.out.1.put (by omega) H5C.out HQ.out.2.1
      | some y =>
        have hc5 : PlanAt p V2 (w3.heap.size + 1) y c5 := hc5
        obtain ⟨ay, cy, rfl, hfy⟩ := best_fmes hc5
        have y0 : V2.cell? ⟨b5, 0, none⟩ = some (.slice ay y.length cy) := by rw [cell_of_heap h5c]; rfl
        have y1 : V2.cell? ⟨b5, 1, none⟩ = some (.int .i64 (p.cost y)) := by rw [cell_of_heap h5c]; rfl
        have hoy := plans_ok HV.out (HQ.out.2.2.2.2.1 y HQ.out.2.2.2.2.2.2)
        have hox := plans_ok HV.out HQ.out.2.2.2.1
        have hfo := formes_of HV.out
        have HB54 := Lib.hid (before54 (c := cc) (e := cy) (x := p.cost x) (y := p.cost y) HQ.out.2.1.fmes.1 hfy (by omega) (by omega) (fun f hf => by have := fmeOk_len HV.out (hox.2 f hf); omega) (fun f hf => by have := fmeOk_len HV.out (hoy.2 f hf); omega))
        have HCY := Lib.hid (And.intro hc5 h5c)
        clear hoy hox hfo hc5 h5c hfy
        have hbf : decide (orL [cmpI (p.cost x) (p.cost y), cmpI x.length y.length, cmpL (numsL x) (numsL y)] < 0) = p.before x y := rfl
        rw [hbf] at HB54
        obtain ⟨bb, hbb⟩ : ∃ b, p.before x y = b := ⟨_, rfl⟩
        rw [hbb] at HB54
        have HBB := Lib.hid hbb
        clear hbb hbf
        gi_wp2_with fail
        refine ⟨trivial, rfl, wideAt_calls (HB54.out.mono ?_)⟩
        rintro e V3 ⟨rfl, hb⟩
        have hbs3 := HQ.out.1.keep (by omega) (HQ.out.1.le.trans (hb.mono HQ.out.1.le.size)) (fun k _ hlt => hb.block k hlt)
        have HB3 := Lib.hid (And.intro hb hbs3)
        cases bb with
        | false =>
          clear hb hbs3
          gi_wp2_with fail
          refine HFIN.out _ (Same.of_below _ HB3.out.1) ?_
          rw [HQ.out.2.2.2.2.2.1]
          simp only [HBB.out, Bool.false_eq_true, if_false]
          exact HB3.out.2
        | true =>
          have x6' := cell_stays hb x6
          have t0' := cell_stays hb t0
          have t1' := cell_stays hb t1
          have y0' := cell_stays hb y0
          have y1' := cell_stays hb y1
          have h5' := (hb.block _ (heap_lt HCY.out.2)).trans HCY.out.2
          have g0 : V3.frozen? ⟨b5, 0, none⟩ = false := frozen_of_heap h5'
          have g1 : V3.frozen? ⟨b5, 1, none⟩ = false := frozen_of_heap h5'
          have f6' : V3.frozen? ⟨b6, 0, none⟩ = false := frozen_of_heap hbs3.h6
          have hne56 : b5 ≠ b6 := by omega
          have hne65 : b6 ≠ b5 := by omega
          have H5C := Lib.hid h5'
          clear hb hbs3 h5'
          gi_wp2_with fail
          refine HFIN.out _ ((Same.of_below _ HB3.out.1).trans same56) ?_
          rw [HQ.out.2.2.2.2.2.1]
          simp only [HBB.out, if_true]
          exact HB3.out.2.put (by omega) H5C.out (HQ.out.2.1.keep (fun k _ hlt => HB3.out.1.block k hlt))
    case hdone =>
      rintro V C ⟨dn, h1, h2, h3⟩ hdef
      rw [List.append_nil] at h1
      refine HKE.out _ _ ?_
      rw [← HL.out.1]
      exact best9 HV.out (Lib.hid h2) (Lib.hid hdef) (Lib.hid (by omega)) (Lib.hid (by rw [h1]))
    case hstop =>
      intro c i V C h
      exact h.elim
end Go.Proofs.Ytjkhclijmcmdjaa
namespace Go.Proofs.Ytjkhclijmcmdjaa
open Go.RowKit
set_option linter.unusedVariables false
set_option linter.unusedSimpArgs false
/-- Lists that lie in memory of their own. -/
def RowsAt (w : World) (B : Nat) (v : Value) (l : List (List Int)) : Prop := ∃ vs, w.ownsRow B 24 1 v l.length vs ∧ RowsOf w B vs l
theorem RowsAt.below {w w' : World} {B : Nat} {v : Value} {l : List (List Int)} (h : RowsAt w B v l) (hb : Below w.heap.size w w') : RowsAt w' B v l := by
  obtain ⟨vs, h1, h2⟩ := h
  exact ⟨vs, own_below h1 hb, h2.blocks (fun vc hvc g hg => hb.block _ (rows_lt h2 hvc hg).2)⟩
theorem RowsAt.base {w : World} {B B' : Nat} {v : Value} {l : List (List Int)} (h : RowsAt w B v l) (hB : B' ≤ B) : RowsAt w B' v l := by
  obtain ⟨vs, h1, h2⟩ := h
  exact ⟨vs, own_base h1 hB, h2.1, fun i x hx => by
    obtain ⟨vc, e1, e2⟩ := h2.2 i x hx
    exact ⟨vc, e1, own_base e2 hB⟩⟩
theorem RowsAt.blocks {w w' : World} {B : Nat} {v : Value} {l : List (List Int)} (h : RowsAt w B v l) (hb : ∀ k, B ≤ k → w'.heap[k]? = w.heap[k]?) : RowsAt w' B v l := by
  obtain ⟨vs, h1, h2⟩ := h
  exact ⟨vs, own_blocks h1 (fun g hg => hb g (h1.lt g hg).1), h2.blocks (fun vc hvc g hg => hb g (rows_lt h2 hvc hg).1)⟩
/-- What has become of the lists so far (vo, in world A): v', in world A'. -/
structure WyPost (B : Nat) (l : List (List Int)) (A : World) (vo v' : Value) (A' : World) : Prop where
  rows : RowsAt A' B v' l
  grown : A.grownBy A' vo.ownBlock
  own : ∀ g, v'.ownBlock = some g → vo.ownBlock = some g ∨ A.heap.size ≤ g
theorem WyPost.refl {B : Nat} {l : List (List Int)} {A : World} {vo : Value} (h : RowsAt A B vo l) : WyPost B l A vo vo A :=
  ⟨h, ⟨rfl, rfl, rfl, Nat.le_refl _, fun _ _ _ => rfl⟩, fun g hg => .inl hg⟩
theorem WyPost.trans {B : Nat} {l l2 : List (List Int)} {A A1 A2 : World} {vo v1 v2 : Value} (h1 : WyPost B l A vo v1 A1) (h2 : WyPost B l2 A1 v1 v2 A2) : WyPost B l2 A vo v2 A2 :=
  ⟨h2.rows, ⟨h2.grown.os.trans h1.grown.os, h2.grown.tape.trans h1.grown.tape, h2.grown.output.trans h1.grown.output, Nat.le_trans h1.grown.size h2.grown.size, fun k hk hne =>
    (h2.grown.block k (Nat.lt_of_lt_of_le hk h1.grown.size) (fun e => by
      rcases h1.own k e.symm with h | h
      · exact hne h.symm
      · omega)).trans (h1.grown.block k hk hne)⟩, fun g hg => by
    rcases h2.own g hg with h | h
    · exact h1.own g h
    · exact .inr (Nat.le_trans h1.grown.size h)⟩
theorem WyPost.after {B : Nat} {l : List (List Int)} {A V A' : World} {vo v' : Value} (hb : Below A.heap.size A V) (h : WyPost B l V vo v' A') : WyPost B l A vo v' A' :=
  ⟨h.rows, ⟨h.grown.os.trans hb.os, h.grown.tape.trans hb.tape, h.grown.output.trans hb.output, Nat.le_trans hb.size h.grown.size, fun k hk hne => (h.grown.block k (Nat.lt_of_lt_of_le hk hb.size) hne).trans (hb.block k hk)⟩, fun g hg => by
    rcases h.own g hg with h' | h'
    · exact .inl h'
    · exact .inr (Nat.le_trans hb.size h')⟩
theorem WyPost.then {B : Nat} {l : List (List Int)} {A A1 A2 : World} {vo v1 : Value} (h : WyPost B l A vo v1 A1) (hb : Below A1.heap.size A1 A2) : WyPost B l A vo v1 A2 :=
  ⟨h.rows.below hb, ⟨hb.os.trans h.grown.os, hb.tape.trans h.grown.tape, hb.output.trans h.grown.output, Nat.le_trans h.grown.size hb.size, fun k hk hne => (hb.block k (Nat.lt_of_lt_of_le hk h.grown.size)).trans (h.grown.block k hk hne)⟩, h.own⟩
theorem RowsAt.lt {w : World} {B : Nat} {v : Value} {l : List (List Int)} (h : RowsAt w B v l) {g : Nat} (hg : v.ownBlock = some g) : B ≤ g ∧ g < w.heap.size := by
  obtain ⟨vs, h1, _⟩ := h
  exact h1.lt g hg
/-- What lies below B stays. -/
theorem WyPost.below {B : Nat} {l l0 : List (List Int)} {A A' : World} {vo v' : Value} (h : WyPost B l A vo v' A') (hr : RowsAt A B vo l0) (hB : B ≤ A.heap.size) : Below B A A' :=
  (Below.refl B A).grown h.grown hB (fun k hk => (hr.lt hk).1)
end Go.Proofs.Ytjkhclijmcmdjaa
namespace Go.Proofs.Ytjkhclijmcmdjaa
open Go.RowKit
set_option linter.unusedVariables false
set_option linter.unusedSimpArgs false
/-- The least number of sheets suffices. -/
theorem enough_ok {p : Prs} (S : Spoil p) {n : Int} (h0 : 0 ≤ n) : n ≤ (p.good (p.enoughN n : Int)).lo := by
  obtain ⟨h1, h2, h3⟩ := enough_spec p n
  by_cases h : p.enoughN n < 4 * n.toNat + 4
  · exact h3 h
  · exfalso
    have h4 := h2 (2 * n.toNat + 2) (by omega)
    apply h4
    show n ≤ ((2 * n.toNat + 2 : Nat) : Int) - (((2 * n.toNat + 2 : Nat) : Int) * p.shi + 99) / 100
    have h5 : ((2 * n.toNat + 2 : Nat) : Int) * p.shi ≤ ((2 * n.toNat + 2 : Nat) : Int) * 50 := Int.mul_le_mul_of_nonneg_left S.hi (by omega)
    omega
theorem maxL_mem : ∀ {l : List Int}, l ≠ [] → (∃ v, v < l.length ∧ maxL l = gi l v) ∧ ∀ v, v < l.length → gi l v ≤ maxL l := by
  intro l hl
  have h : ∀ k, 0 < k → k ≤ l.length → (∃ v, v < k ∧ maxL (l.take k) = gi l v) ∧ ∀ v, v < k → gi l v ≤ maxL (l.take k) := by
    intro k
    induction k with
    | zero => intro h; omega
    | succ k ih =>
      intro _ hk
      by_cases h0 : k = 0
      · subst h0
        have e : maxL (l.take 1) = gi l 0 := by
          cases l with
          | nil => exact absurd rfl hl
          | cons x r => simp [maxL, gi]
        exact ⟨⟨0, by omega, e⟩, fun v hv => by obtain rfl : v = 0 := by omega
                                                rw [show (0 + 1) = 1 from rfl, e]; exact Int.le_refl _⟩
      · obtain ⟨⟨u, hu, e⟩, h1⟩ := ih (by omega) (by omega)
        rw [maxL_take (by omega) (by omega)]
        refine ⟨?_, fun v hv => ?_⟩
        · by_cases hm : maxL (l.take k) ≤ gi l k
          · exact ⟨k, by omega, by omega⟩
          · exact ⟨u, by omega, by omega⟩
        · by_cases hvk : v = k
          · subst hvk; omega
          · have := h1 v (by omega); omega
  have := h l.length (by cases l with | nil => exact absurd rfl hl | cons x r => simp) (Nat.le_refl _)
  rwa [List.take_length] at this
theorem wants_ne {p : Prs} (hV : p.valid = true) : 1 ≤ p.wanted.length ∧ p.wanted.length ≤ 4 := by
  simp [Prs.valid, Prs.sizeOk, inR] at hV
  omega
/-- So many sheets suffice, and no fewer. -/
theorem most_good {p : Prs} (hV : p.valid = true) {v : Nat} (hv : v < p.wanted.length) : gi p.wanted v ≤ (p.good p.most).lo := by
  have h0 := wants_ne hV
  have h1 := (maxL_mem (l := p.wanted) (by intro e; rw [e] at h0; simp at h0)).2 v hv
  have h2 := enough_ok (spoil_of hV) (maxL_bd hV).1
  have h3 : p.enoughN (maxL p.wanted) ≤ p.most.toNat := by unfold Prs.most; rw [enough_eq]; omega
  have h4 := good_le (spoil_of hV) h3
  have h5 : ((p.most.toNat : Nat) : Int) = p.most := by have := most_bd hV; omega
  rw [h5] at h4
  omega
/-- All formes that the reference looks at. -/
def gl (L : List (List Int)) (i : Nat) : List Int := L.getD i []
/-- Formes that are gathered by append: their slots lie in an elder world. -/
def FmsI (W : World) (l : List Fme) (v : Value) (w : World) : Prop :=
  Below W.heap.size W w ∧ ∃ rs : List Row, rs.length = l.length ∧ w.ownsRow W.heap.size 29 2 v l.length (fmC l rs) ∧ ∀ i r, rs[i]? = some r → IsInts W r.1 (gf l i).slots
theorem infoF : (Try.prog.info? 29).map (fun i => (i.zero, i.size, i.bytes)) = some (some (.agg #[.slice none 0 0, .int .i64 0]), 2, 32) := by kernel_rfl
theorem fmC_snoc : ∀ (l : List Fme) (rs : List Row) (f : Fme) (r : Row), rs.length = l.length → fmC (l ++ [f]) (rs ++ [r]) = fmC l rs ++ [.slice r.1 f.slots.length r.2, .int .i64 f.times]
  | [], [], f, r, _ => rfl
  | [], _ :: _, _, _, h => by simp at h
  | _ :: _, [], _, _, h => by simp at h
  | x :: l, q :: rs, f, r, h => by
    simp only [List.cons_append, fmC]
    rw [fmC_snoc l rs f r (by simpa using h)]
theorem FmsI.nil (W : World) : FmsI W [] (.slice none 0 0) W := ⟨Below.refl _ W, [], rfl, World.ownsRow_nil W _ _ _, fun i r h => by simp at h⟩
theorem FmsI.below {W w w' : World} {l : List Fme} {v : Value} (h : FmsI W l v w) (hb : Below w.heap.size w w') : FmsI W l v w' := by
  obtain ⟨h0, rs, h1, h2, h3⟩ := h
  exact ⟨h0.trans (hb.mono h0.size), rs, h1, own_below h2 hb, h3⟩
theorem FmsI.more {W w : World} {l : List Fme} {v : Value} {s : List Int} {n : Int} {ax : Option Addr} {cx ms : Nat} (h : FmsI W l v w) (hl : l.length ≤ 700000) (hm : w.heap[ms]? = some (.cells #[.slice ax s.length cx, .int .i64 n] 29 (0, 0))) (hs : IsInts W ax s) :
    ∃ (a' : Option Addr) (c' : Nat) (w' : World), (Builtin.append_ #[30, 30] 30 #[v, .slice (some ⟨ms, 0, none⟩) 1 1]).run Try.prog w = .ok (.slice a' (l.length + 1) c') w' ∧ FmsI W (l ++ [⟨s, n⟩]) (.slice a' (l.length + 1) c') w' := by
  obtain ⟨h0, rs, h1, h2, h3⟩ := h
  obtain ⟨i0, hi0, hz0, hz1, hz2⟩ := info_parts infoF
  obtain ⟨v', w', hr, hn, hg, _⟩ := append_rows_at (P := Try.prog) (w := w) W.heap.size 30 30 29 i0 _ 2 32 Try.underlying30 hi0 hz0 hz1 hz2 rfl (by decide) v l.length _ h2 (some ⟨ms, 0, none⟩) 1 1 [.slice ax s.length cx, .int .i64 n] rfl
    (fun _ => ⟨_, rfl, fun j u hj => by
      have e : ((⟨ms, 0, none⟩ : Addr).add j) = ⟨ms, j, none⟩ := by unfold Addr.add; split <;> simp_all
      rw [e, cell_of_heap hm]
      rw [← hj]
      simp⟩) (by intro u hu; simp at hu; rcases hu with rfl | rfl <;> rfl) (by simp [maxLen]; omega) (by omega) h0.size
  obtain ⟨a', c', rfl, _⟩ := own_slice hn
  refine ⟨a', c', w', hr, h0.grown hg h0.size (fun k hk => (h2.lt k hk).1), rs ++ [(ax, cx)], by simp [h1], ?_, fun i r hi => ?_⟩
  · rw [fmC_snoc l rs ⟨s, n⟩ (ax, cx) h1]
    have e1 : (l ++ [(⟨s, n⟩ : Fme)]).length = l.length + 1 := by simp
    rw [e1]
    exact hn
  · rcases Nat.lt_trichotomy i rs.length with hj | hj | hj
    · rw [List.getElem?_append_left hj] at hi
      have e : gf (l ++ [(⟨s, n⟩ : Fme)]) i = gf l i := by unfold gf; rw [List.getD_eq_getElem?_getD, List.getD_eq_getElem?_getD, List.getElem?_append_left (by omega)]
      rw [e]
      exact h3 i r hi
    · subst hj
      simp at hi
      subst hi
      have e : gf (l ++ [(⟨s, n⟩ : Fme)]) rs.length = ⟨s, n⟩ := by unfold gf; rw [List.getD_eq_getElem?_getD, h1]; simp
      rw [e]
      exact hs
    · rw [List.getElem?_eq_none (by simp; omega)] at hi
      cases hi
theorem FmsI.fmes {W w : World} {l : List Fme} {a : Option Addr} {n c : Nat} (h : FmsI W l (.slice a n c) w) : IsFmes w a l := by
  obtain ⟨h0, rs, h1, h2, h3⟩ := h
  intro i hi
  obtain ⟨r, e1, e2, e3⟩ := fmC_at h1 hi
  obtain ⟨g, cap, e, _, _, _, _, hc⟩ := own_cell h2 (by omega)
  cases e
  exact ⟨g, 0, rfl, r.1, r.2, by rw [Nat.zero_add]; exact hc _ _ e2, by rw [Nat.zero_add]; exact hc _ _ e3, (h3 i r e1).mono h0⟩
end Go.Proofs.Ytjkhclijmcmdjaa
namespace Go.Proofs.Ytjkhclijmcmdjaa
open Go.RowKit
set_option linter.unusedVariables false
set_option linter.unusedSimpArgs false
theorem AllI.at {B : Nat} {A : World} {a : Option Addr} {L : List (List Int)} (h : AllI B A a L) {i : Nat} (hi : i < L.length) : ∃ b off ai ci, a = some ⟨b, off, none⟩ ∧ A.cell? ⟨b, off + i, none⟩ = some (.slice ai (gl L i).length ci) ∧ IsInts A ai (gl L i) := by
  obtain ⟨b, off, ha, ai, ci, h1, h2⟩ := h i hi
  have e : gl L i = L[i] := by simp [gl, hi]
  rw [e]
  exact ⟨b, off, ai, ci, ha, h1, h2.1⟩
end Go.Proofs.Ytjkhclijmcmdjaa
namespace Go.Proofs.Ytjkhclijmcmdjaa
open Go.RowKit
set_option linter.unusedVariables false
set_option linter.unusedSimpArgs false
theorem fmes_nil (w : World) : IsFmes w none [] := fun i hi => by simp at hi
theorem fmes_one {w : World} {g : Nat} {f : Fme} {ai : Option Addr} {ci : Nat} (h : w.heap[g]? = some (.cells #[.slice ai f.slots.length ci, .int .i64 f.times] 29 (0, 0))) (hi : IsInts w ai f.slots) : IsFmes w (some ⟨g, 0, none⟩) [f] :=
  PlM.fmes (rs := [(ai, ci)]) ⟨h, rfl, fun i r hr => by
    cases i with
    | zero => simp at hr; subst hr; exact hi
    | succ i => simp at hr⟩
theorem fmes_two {w : World} {g : Nat} {f f2 : Fme} {ai ai2 : Option Addr} {ci ci2 : Nat} (h : w.heap[g]? = some (.cells #[.slice ai f.slots.length ci, .int .i64 f.times, .slice ai2 f2.slots.length ci2, .int .i64 f2.times] 29 (0, 0))) (hi : IsInts w ai f.slots) (hi2 : IsInts w ai2 f2.slots) : IsFmes w (some ⟨g, 0, none⟩) [f, f2] :=
  PlM.fmes (rs := [(ai, ci), (ai2, ci2)]) ⟨h, rfl, fun i r hr => by
    match i, hr with
    | 0, hr => simp at hr; subst hr; exact hi
    | 1, hr => simp at hr; subst hr; exact hi2
    | i + 2, hr => simp at hr⟩
end Go.Proofs.Ytjkhclijmcmdjaa
namespace Go.Proofs.Ytjkhclijmcmdjaa
open Go.RowKit
set_option linter.unusedVariables false
set_option linter.unusedSimpArgs false
theorem res_fme {fn : Func} {u : Tmp} (h : fn.results = #[.cell u 29]) (tmps : Array Value) {w : World} {b : Nat} {x y : Value} (hp : tmps.getD u undef = .pointer (some ⟨b, 0, none⟩)) (hx : w.cell? ⟨b, 0, none⟩ = some x) (hy : w.cell? ⟨b, 1, none⟩ = some y) :
    (results fn tmps).run Try.prog w = .ok (.agg #[x, y]) w := by
  have hp' : tmps[u]?.getD undef = .pointer (some ⟨b, 0, none⟩) := by simpa using hp
  simp [results, h, hp', hx, hy, go_sem]
set_option maxRecDepth 100000 in
set_option maxHeartbeats 1000000 in
theorem span35 {x y : Int} {w : World} :
    Calls Try.prog 35 #[.int .i64 x, .int .i64 y] w fun e w' => e = .returned (.agg #[.int .i64 x, .int .i64 y]) ∧ Below w.heap.size w w' := by
  have HX : Hid ((w.alloc (.cells #[.int .i64 0, .int .i64 0] 23)).heap[w.heap.size]? = some (.cells #[.int .i64 0, .int .i64 0] 23 (0, 0)) ∧ Below w.heap.size w (w.alloc (.cells #[.int .i64 0, .int .i64 0] 23))) := ⟨World.alloc_heap_new w _, (Below.refl _ w).alloc (Nat.le_refl _) _⟩
  go_enter Try.func35, Try.ntmps35
  refine wp_seq_hid ?_
  intro K0 HK0
  go_wp2_with fail
  refine HK0.out _ _ ?_
  clear HK0 K0
  revert HX
  generalize w.alloc (.cells #[.int .i64 0, .int .i64 0] 23) = w1
  generalize w.heap.size = bx
  intro HX
  have y0 : w1.cell? ⟨bx, 0, none⟩ = some (.int .i64 0) := by rw [cell_of_heap HX.out.1]; rfl
  have y1 : w1.cell? ⟨bx, 1, none⟩ = some (.int .i64 0) := by rw [cell_of_heap HX.out.1]; rfl
  have f0 : ∀ k, w1.frozen? ⟨bx, k, none⟩ = false := fun k => frozen_of_heap HX.out.1
  go_wp2_with fail
  have h4 := (heap_setCell_at (k := 1) (heap_setCell_at (k := 0) HX.out.1 (.int .i64 x)) (.int .i64 y))
  exact bodyPost_ret (res_spn rfl _ rfl (by rw [cell_of_heap h4]; rfl) (by rw [cell_of_heap h4]; rfl)) rfl ⟨rfl, ((HX.out.2.setCell (p := ⟨bx, _, none⟩) (by show bx ≤ bx; omega) _).setCell (p := ⟨bx, _, none⟩) (by show bx ≤ bx; omega) _)⟩
set_option maxRecDepth 100000 in
set_option maxHeartbeats 1000000 in
theorem forme40 {n : Int} {a : Option Addr} {m c : Nat} {w : World} :
    Calls Try.prog 40 #[.int .i64 n, .slice a m c] w fun e w' => e = .returned (.agg #[.slice a m c, .int .i64 n]) ∧ Below w.heap.size w w' := by
  have HX : Hid ((w.alloc (.cells #[.slice none 0 0, .int .i64 0] 29)).heap[w.heap.size]? = some (.cells #[.slice none 0 0, .int .i64 0] 29 (0, 0)) ∧ Below w.heap.size w (w.alloc (.cells #[.slice none 0 0, .int .i64 0] 29))) := ⟨World.alloc_heap_new w _, (Below.refl _ w).alloc (Nat.le_refl _) _⟩
  go_enter Try.func40, Try.ntmps40
  refine wp_seq_hid ?_
  intro K0 HK0
  go_wp2_with fail
  refine HK0.out _ _ ?_
  clear HK0 K0
  revert HX
  generalize w.alloc (.cells #[.slice none 0 0, .int .i64 0] 29) = w1
  generalize w.heap.size = bx
  intro HX
  have y0 : w1.cell? ⟨bx, 0, none⟩ = some (.slice none 0 0) := by rw [cell_of_heap HX.out.1]; rfl
  have y1 : w1.cell? ⟨bx, 1, none⟩ = some (.int .i64 0) := by rw [cell_of_heap HX.out.1]; rfl
  have f0 : ∀ k, w1.frozen? ⟨bx, k, none⟩ = false := fun k => frozen_of_heap HX.out.1
  go_wp2_with fail
  have h4 := (heap_setCell_at (k := 1) (heap_setCell_at (k := 0) HX.out.1 (.slice a m c)) (.int .i64 n))
  exact bodyPost_ret (res_fme rfl _ rfl (by rw [cell_of_heap h4]; rfl) (by rw [cell_of_heap h4]; rfl)) rfl ⟨rfl, ((HX.out.2.setCell (p := ⟨bx, _, none⟩) (by show bx ≤ bx; omega) _).setCell (p := ⟨bx, _, none⟩) (by show bx ≤ bx; omega) _)⟩
end Go.Proofs.Ytjkhclijmcmdjaa
namespace Go.Proofs.Ytjkhclijmcmdjaa
open Go.RowKit
set_option linter.unusedVariables false
set_option linter.unusedSimpArgs false
theorem res_prs {fn : Func} {u : Tmp} (h : fn.results = #[.cell u 27]) (tmps : Array Value) {w : World} {b : Nat} {p : Prs} {A : PrsA} (hp : tmps.getD u undef = .pointer (some ⟨b, 0, none⟩)) (hh : w.heap[b]? = some (.cells (p.arr A) 27 (0, 0))) :
    (results fn tmps).run Try.prog w = .ok (p.v A) w := by
  obtain ⟨h0, h1, h2, h3, h4, h5, h6, h7, h8, h9⟩ := prs_cells hh
  have hp' : tmps[u]?.getD undef = .pointer (some ⟨b, 0, none⟩) := by simpa using hp
  simp [results, h, hp', h0, h1, h2, h3, h4, h5, h6, h7, h8, h9, go_sem]
theorem ints_three {w : World} {g : Nat} {x y z : Int} (h : w.heap[g]? = some (.cells #[.int .i64 x, .int .i64 y, .int .i64 z] 3 (0, 0))) : IsInts w (some ⟨g, 0, none⟩) [x, y, z] := fun i hi => by
  refine ⟨g, 0, rfl, ?_⟩
  rw [cell_of_heap h]
  match i, hi with
  | 0, _ => rfl
  | 1, _ => rfl
  | 2, _ => rfl
  | i + 3, hi => have h3 : i + 3 < 3 := hi; omega
theorem ints_empty {w : World} : IsInts w none [] := fun i hi => by simp at hi
abbrev dealsC (ga : Nat) : Array Value := #[.int .i64 0, .slice none 0 0, .int .i64 0, .int .i64 0, .int .i64 10, .int .i64 50, .int .i64 1, .slice (some ⟨ga, 0, none⟩) 3 3, .int .i64 12, .int .i64 0, .int .i64 0, .int .i64 0, .int .i64 2, .slice none 0 0, .int .i64 0, .int .i64 0, .int .i64 15, .int .i64 400]
theorem dls_sample {w : World} {ga gk : Nat} (h : w.heap[gk]? = some (.cells (dealsC ga) 62 (0, 0))) (ha : w.heap[ga]? = some (.cells #[.int .i64 2, .int .i64 1, .int .i64 1] 3 (0, 0))) : IsDls w (some ⟨gk, 0, none⟩) sampleP.deals := fun i hi => by
  match i, hi with
  | 0, _ => exact ⟨gk, 0, rfl, none, 0, by rw [cell_of_heap h]; rfl, by rw [cell_of_heap h]; rfl, by rw [cell_of_heap h]; rfl, by rw [cell_of_heap h]; rfl, by rw [cell_of_heap h]; rfl, by rw [cell_of_heap h]; rfl, ints_empty⟩
  | 1, _ => exact ⟨gk, 0, rfl, some ⟨ga, 0, none⟩, 3, by rw [cell_of_heap h]; rfl, by rw [cell_of_heap h]; rfl, by rw [cell_of_heap h]; rfl, by rw [cell_of_heap h]; rfl, by rw [cell_of_heap h]; rfl, by rw [cell_of_heap h]; rfl, ints_three ha⟩
  | 2, _ => exact ⟨gk, 0, rfl, none, 0, by rw [cell_of_heap h]; rfl, by rw [cell_of_heap h]; rfl, by rw [cell_of_heap h]; rfl, by rw [cell_of_heap h]; rfl, by rw [cell_of_heap h]; rfl, by rw [cell_of_heap h]; rfl, ints_empty⟩
  | i + 3, hi => have h3 : i + 3 < 3 := hi; omega
theorem set10 {w : World} {b k : Nat} (h : k ≠ b) (v0 v1 v2 v3 v4 v5 v6 v7 v8 v9 : Value) : ((((((((((w.setCell ⟨b, 0, none⟩ v0).setCell ⟨b, 1, none⟩ v1).setCell ⟨b, 2, none⟩ v2).setCell ⟨b, 3, none⟩ v3).setCell ⟨b, 4, none⟩ v4).setCell ⟨b, 5, none⟩ v5).setCell ⟨b, 6, none⟩ v6).setCell ⟨b, 7, none⟩ v7).setCell ⟨b, 8, none⟩ v8).setCell ⟨b, 9, none⟩ v9).heap[k]? = w.heap[k]? :=
  (Below.heap_setCell _ _ _ _ h).trans ((Below.heap_setCell _ _ _ _ h).trans ((Below.heap_setCell _ _ _ _ h).trans ((Below.heap_setCell _ _ _ _ h).trans ((Below.heap_setCell _ _ _ _ h).trans ((Below.heap_setCell _ _ _ _ h).trans ((Below.heap_setCell _ _ _ _ h).trans ((Below.heap_setCell _ _ _ _ h).trans ((Below.heap_setCell _ _ _ _ h).trans ((Below.heap_setCell _ _ _ _ h).trans (rfl))))))))))
set_option maxRecDepth 100000 in
set_option maxHeartbeats 2000000 in
theorem sample39 {w : World} :
    Calls Try.prog 39 #[] w fun e w' => ∃ A, e = .returned (sampleP.v A) ∧ IsPrs w' sampleP A ∧ sampleP.deals.length ≤ A.cd ∧ Below w.heap.size w w' := by
  have HX : Hid ((w.alloc (.cells #[.int .i64 0, .int .i64 0, .int .i64 0, .int .i64 0, .int .i64 0, .int .i64 0, .slice none 0 0, .int .i64 0, .int .i64 0, .slice none 0 0] 27)).heap[w.heap.size]? = some (.cells #[.int .i64 0, .int .i64 0, .int .i64 0, .int .i64 0, .int .i64 0, .int .i64 0, .slice none 0 0, .int .i64 0, .int .i64 0, .slice none 0 0] 27 (0, 0)) ∧ Below w.heap.size w (w.alloc (.cells #[.int .i64 0, .int .i64 0, .int .i64 0, .int .i64 0, .int .i64 0, .int .i64 0, .slice none 0 0, .int .i64 0, .int .i64 0, .slice none 0 0] 27))) := ⟨World.alloc_heap_new w _, (Below.refl _ w).alloc (Nat.le_refl _) _⟩
  go_enter Try.func39, Try.ntmps39
  refine wp_seq_hid ?_
  intro K0 HK0
  go_wp2_with fail
  refine HK0.out _ _ ?_
  clear HK0 K0
  revert HX
  generalize w.alloc (.cells #[.int .i64 0, .int .i64 0, .int .i64 0, .int .i64 0, .int .i64 0, .int .i64 0, .slice none 0 0, .int .i64 0, .int .i64 0, .slice none 0 0] 27) = w1
  generalize w.heap.size = bx
  intro HX
  have HC := Lib.hid (fun (u : World) => forme40 (n := 12) (a := some ⟨w1.heap.size, 0, none⟩) (m := 3) (c := 3) (w := u))
  go_wp2_with fail
  refine (HC.out _).mono ?_
  rintro e w2 ⟨rfl, hb2⟩
  have HA := Lib.hid (World.alloc_heap_new w1 (.cells #[.int .i64 2, .int .i64 1, .int .i64 1] 3))
  have HB1 : Hid (Below w1.heap.size w1 (w1.alloc (.cells #[.int .i64 2, .int .i64 1, .int .i64 1] 3))) := (Below.refl _ w1).alloc (Nat.le_refl _) _
  revert hb2 HA HB1
  generalize w1.alloc (.cells #[.int .i64 2, .int .i64 1, .int .i64 1] 3) = wa
  intro hb2 HA HB1
  have HB2 := Lib.hid hb2
  clear hb2 HC
  have HD := Lib.hid (World.alloc_heap_new w2 (.cells (dealsC w1.heap.size) 62))
  have HB3 : Hid (Below w2.heap.size w2 (w2.alloc (.cells (dealsC w1.heap.size) 62))) := (Below.refl _ w2).alloc (Nat.le_refl _) _
  have HC := Lib.hid (fun (u : World) => span35 (x := 5) (y := 10) (w := u))
  go_wp2_with fail
  refine (HC.out _).mono ?_
  rintro e w3 ⟨rfl, hb3⟩
  revert hb3 HD HB3
  generalize hga : w1.heap.size = ga
  generalize hgk : w2.heap.size = gk
  generalize w2.alloc (.cells (dealsC ga) 62) = wd
  intro HD HB3 hb3
  have HB4 := Lib.hid hb3
  have HW := Lib.hid (World.alloc_heap_new w3 (.cells #[.int .i64 20, .int .i64 9, .int .i64 3] 3))
  have HB5 : Hid (Below w3.heap.size w3 (w3.alloc (.cells #[.int .i64 20, .int .i64 9, .int .i64 3] 3))) := (Below.refl _ w3).alloc (Nat.le_refl _) _
  clear hb3 HC
  have c12 := HB1.out.trans (HB2.out.mono HB1.out.size)
  have b3 : Below w2.heap.size w2 wd := by rw [hgk]; exact HB3.out
  have c13 := c12.trans (b3.mono c12.size)
  have c14 := c13.trans (HB4.out.mono c13.size)
  have c45 := HB4.out.trans (HB5.out.mono HB4.out.size)
  have c35 := b3.trans (c45.mono b3.size)
  have c25 := HB2.out.trans (c35.mono HB2.out.size)
  have c15 := HB1.out.trans (c25.mono HB1.out.size)
  have hbx := heap_lt HX.out.1
  have s12 := c12.size
  have s14 := c14.size
  have HF0 : Hid (Below bx w1 (w3.alloc (.cells #[.int .i64 20, .int .i64 9, .int .i64 3] 3))) := by
    exact c15.mono (Nat.le_of_lt hbx)
  have HAF : Hid ((w3.alloc (.cells #[.int .i64 20, .int .i64 9, .int .i64 3] 3)).heap[ga]? = some (.cells #[.int .i64 2, .int .i64 1, .int .i64 1] 3 (0, 0))) := by
    rw [← hga]; exact (c25.block _ (heap_lt HA.out)).trans HA.out
  have HDF : Hid ((w3.alloc (.cells #[.int .i64 20, .int .i64 9, .int .i64 3] 3)).heap[gk]? = some (.cells (dealsC ga) 62 (0, 0))) := by
    exact (c45.block _ (heap_lt HD.out)).trans HD.out
  have HQF : Hid ((w3.alloc (.cells #[.int .i64 20, .int .i64 9, .int .i64 3] 3)).heap[bx]? = some (.cells #[.int .i64 0, .int .i64 0, .int .i64 0, .int .i64 0, .int .i64 0, .int .i64 0, .slice none 0 0, .int .i64 0, .int .i64 0, .slice none 0 0] 27 (0, 0))) := by
    exact (c15.block _ hbx).trans HX.out.1
  have HNE : Hid (ga ≠ bx ∧ gk ≠ bx ∧ w3.heap.size ≠ bx) := by
    exact ⟨by omega, by omega, by omega⟩
  have y0 : ∀ k v, (#[.int .i64 0, .int .i64 0, .int .i64 0, .int .i64 0, .int .i64 0, .int .i64 0, .slice none 0 0, .int .i64 0, .int .i64 0, .slice none 0 0] : Array Value)[k]? = some v → (w3.alloc (.cells #[.int .i64 20, .int .i64 9, .int .i64 3] 3)).cell? ⟨bx, k, none⟩ = some v := fun k v h => by rw [cell_of_heap HQF.out]; exact h
  have z0 := y0 0 _ rfl
  have z1 := y0 1 _ rfl
  have z2 := y0 2 _ rfl
  have z3 := y0 3 _ rfl
  have z4 := y0 4 _ rfl
  have z5 := y0 5 _ rfl
  have z6 := y0 6 _ rfl
  have z7 := y0 7 _ rfl
  have z8 := y0 8 _ rfl
  have z9 := y0 9 _ rfl
  have f0 : ∀ k, (w3.alloc (.cells #[.int .i64 20, .int .i64 9, .int .i64 3] 3)).frozen? ⟨bx, k, none⟩ = false := fun k => frozen_of_heap HQF.out
  clear y0 c12 b3 c13 c14 c45 c35 c25 c15 hbx s12 s14
  go_wp2_with fail
  have h4 := (heap_setCell_at (k := 9) (heap_setCell_at (k := 8) (heap_setCell_at (k := 7) (heap_setCell_at (k := 6) (heap_setCell_at (k := 5) (heap_setCell_at (k := 4) (heap_setCell_at (k := 3) (heap_setCell_at (k := 2) (heap_setCell_at (k := 1) (heap_setCell_at (k := 0) HQF.out (.int .i64 4)) (.int .i64 2)) (.int .i64 5)) (.int .i64 10)) (.int .i64 300)) (.int .i64 10)) (.slice (some ⟨w3.heap.size, 0, none⟩) 3 3)) (.int .i64 20)) (.int .i64 500)) (.slice (some ⟨gk, 0, none⟩) 3 3))
  refine bodyPost_ret (v := sampleP.v ⟨some ⟨w3.heap.size, 0, none⟩, 3, some ⟨gk, 0, none⟩, 3⟩) (res_prs (p := sampleP) (A := ⟨some ⟨w3.heap.size, 0, none⟩, 3, some ⟨gk, 0, none⟩, 3⟩) rfl _ rfl h4) rfl ⟨⟨some ⟨w3.heap.size, 0, none⟩, 3, some ⟨gk, 0, none⟩, 3⟩, rfl, ⟨?_, ?_⟩, Nat.le_refl 3, ?_⟩
  · exact ints_three (x := 20) (y := 9) (z := 3) ((set10 HNE.out.2.2 _ _ _ _ _ _ _ _ _ _).trans HW.out)
  · exact dls_sample ((set10 HNE.out.2.1 _ _ _ _ _ _ _ _ _ _).trans HDF.out) ((set10 HNE.out.1 _ _ _ _ _ _ _ _ _ _).trans HAF.out)
  · exact HX.out.2.trans ((((((((((HF0.out.setCell (p := ⟨bx, _, none⟩) (by show bx ≤ bx; omega) _).setCell (p := ⟨bx, _, none⟩) (by show bx ≤ bx; omega) _).setCell (p := ⟨bx, _, none⟩) (by show bx ≤ bx; omega) _).setCell (p := ⟨bx, _, none⟩) (by show bx ≤ bx; omega) _).setCell (p := ⟨bx, _, none⟩) (by show bx ≤ bx; omega) _).setCell (p := ⟨bx, _, none⟩) (by show bx ≤ bx; omega) _).setCell (p := ⟨bx, _, none⟩) (by show bx ≤ bx; omega) _).setCell (p := ⟨bx, _, none⟩) (by show bx ≤ bx; omega) _).setCell (p := ⟨bx, _, none⟩) (by show bx ≤ bx; omega) _).setCell (p := ⟨bx, _, none⟩) (by show bx ≤ bx; omega) _)
end Go.Proofs.Ytjkhclijmcmdjaa
namespace Go.Proofs.Ytjkhclijmcmdjaa
open Go.RowKit
set_option linter.unusedVariables false
set_option linter.unusedSimpArgs false
theorem pickF_app (p : Prs) : ∀ (l m : List (List Fme)) (b : Option (List Fme)), p.pickF b (l ++ m) = p.pickF (p.pickF b l) m
  | [], m, b => by cases b <;> rfl
  | x :: l, m, none => by
    show p.pickF (some x) (l ++ m) = p.pickF (p.pickF (some x) l) m
    exact pickF_app p l m (some x)
  | x :: l, m, some b => by
    show p.pickF (some (if p.before x b then x else b)) (l ++ m) = p.pickF (p.pickF (some (if p.before x b then x else b)) l) m
    exact pickF_app p l m _
theorem before_dear {p : Prs} {x b : List Fme} (h : p.cost b < p.cost x) : p.before x b = false := by
  have e : cmpI (p.cost x) (p.cost b) = 1 := by
    unfold cmpI
    rw [if_neg (by omega), if_pos h]
  unfold Prs.before
  rw [e]
  simp [orL]
theorem pickF_keep {p : Prs} {b : List Fme} : ∀ (l : List (List Fme)), (∀ x ∈ l, p.cost b < p.cost x) → p.pickF (some b) l = some b
  | [], _ => rfl
  | x :: l, h => by
    show p.pickF (some (if p.before x b then x else b)) l = some b
    rw [before_dear (h x (by simp))]
    exact pickF_keep l (fun y hy => h y (by simp [hy]))
theorem sample_valid : sampleP.valid = true := by decide
theorem best_sample : bestE sampleP = ([⟨[2, 1, 1], 12⟩], 420, 0) := by
  have h0 : sampleP.openE true = 0 := by decide
  have h1 : sampleP.plans0 = [] := by decide +kernel
  have h2 : sampleP.pickF none sampleP.plans1 = some [⟨[2, 1, 1], 12⟩] := by decide +kernel
  have h3 : sampleP.pickF none sampleP.plans = some [⟨[2, 1, 1], 12⟩] := by
    unfold Prs.plans
    rw [h1, List.nil_append, pickF_app, h2]
    refine pickF_keep _ (fun x hx => ?_)
    obtain ⟨_, s, hs, n, hn, t, ht, hx⟩ := plans2_mem hx
    have hm := most_bd sample_valid
    obtain ⟨m, _, hm0, _, rfl⟩ := two_mem sample_valid (slots_fme sample_valid hs (t := (n : Int) + 1) (by omega) (by omega)) ht hx
    have e1 : sampleP.cost [⟨[2, 1, 1], 12⟩] = 420 := by decide
    rw [e1]
    unfold Prs.cost
    simp only [List.map_cons, List.map_nil, sumL]
    have e2 : sampleP.make = 300 := rfl
    have e3 : sampleP.sheet = 10 := rfl
    rw [e2, e3]
    have h5 : (1 : Int) ≤ max 1 (sampleP.enough m) := by omega
    omega
  unfold bestE
  simp only [h0, if_true, h3]
  decide
theorem startsS : startsE sampleP = ((2, 350), 0) := by decide
theorem givesS : givesE sampleP ⟨[2, 1, 1], 12⟩ = ([⟨20, 24⟩, ⟨10, 12⟩, ⟨10, 12⟩], 0) := by decide
theorem checkS : checkE sampleP [⟨[1, 2, 1], 11⟩] = (0, 10) := by decide
theorem costS : costE sampleP [⟨[2, 1, 1], 11⟩] = (410, 0) := by decide
theorem playS : playE sampleP = (3, 0) := by decide
theorem onS : onE sampleP 3 = (⟨18, 550, [⟨5, 9⟩, ⟨10, 12⟩, ⟨10, 12⟩]⟩, 0) := by decide
end Go.Proofs.Ytjkhclijmcmdjaa
