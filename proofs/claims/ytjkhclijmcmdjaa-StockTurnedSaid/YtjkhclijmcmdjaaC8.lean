/- The program's Starts: from the loop on. The program's Starts. What a deal leaves, in the reference: what lies in memory. The reference's play. The reference's Starts. What is enough at first does not hang on how much more than enough there is. Are two rows of spans the same? Two shelves? Are two rows of formes the same? -/
import Derived.Test.YtjkhclijmcmdjaaC7
namespace Go.Proofs.Ytjkhclijmcmdjaa
open Go.RowKit
set_option linter.unusedVariables false
set_option linter.unusedSimpArgs false
theorem spns_lt {v : World} {g off : Nat} {l : List Spn} (h : IsSpns v (some ⟨g, off, none⟩) l) (hl : 0 < l.length) : g < v.heap.size := by
  obtain ⟨b, o, he, h0, _⟩ := h 0 hl
  cases he
  rcases Nat.lt_or_ge g v.heap.size with h2 | h2
  · exact h2
  · simp [World.cell?, Array.getElem?_eq_none h2] at h0
theorem PlX.other {W : World} {p : Prs} {A : PrsA} {bq be b k : Nat} {er : Int} {w : World} (h : PlX W p A bq be er w) (hP : IsPrs W p A) (hB : W.heap.size ≤ b) (n1 : be ≠ b) (n2 : bq ≠ b) (v : Value) : PlX W p A bq be er (w.setCell ⟨b, k, none⟩ v) := by
  have hle : Below W.heap.size W (w.setCell ⟨b, k, none⟩ v) := h.le.setCell (p := ⟨b, k, none⟩) hB _
  exact ⟨(Below.heap_setCell _ _ _ _ n1).trans h.be, ⟨(Below.heap_setCell _ _ _ _ n2).trans h.pr.h, hP.mono hle⟩, hle⟩
theorem meas_lt {k n : Nat} (h : k < n) : n - (intOf (.int .i64 ((k : Int) + 1))).toNat < n - (intOf (.int .i64 (k : Int))).toNat := by simp [intOf]; omega
noncomputable def sta6C : Code := (Try.f30.body.bind (fromRegion 6)).getD .skip
set_option maxRecDepth 100000 in
set_option maxHeartbeats 4000000 in
theorem sta6 {p : Prs} {A : PrsA} {w w6 : World} {bp be bq b6 b7 g : Nat} (HP0 : Hid (IsPrs w p A)) (HS : Hid p.Small) (HV : Hid (p.valid = true)) (HBE : Hid (w.heap.size = bp ∧ bp < be)) (HB67 : Hid (b6 < b7 ∧ be < b6 ∧ w.heap.size ≤ b6))
    (HI : Hid (StaI w b6 b7 be p A bq p.deals (p.lows 1125899906842624) 0 ⟨1125899906842624, 1125899906842624, List.replicate p.wanted.length ⟨0, 0⟩⟩ 1125899906842624 1125899906842624 g p.wanted.length w6))
    {s0 s1 s8 s9 s10 s11 s12 s13 s14 s15 s16 s17 s18 s19 s20 s21 s22 s23 s24 s25 s26 s27 s28 s29 s30 s31 s32 s33 s34 s35 s36 s37 s38 s39 s40 s41 s42 s43 s44 s45 s46 s47 s48 s49 s50 s51 s52 s53 s54 s55 s56 s57 : Value} :
    Code.wp Try.prog sta6C (bodyPostX Try.prog Try.f30 fun e w' => e = .returned (.tuple #[.int .i64 (startsE p).1.1, .int .i64 (startsE p).1.2, .int .i64 (startsE p).2]) ∧ Below bp w w') { tmps := #[s0,s1,.int .i64 0,.int .i64 0,.pointer (some ⟨be, 0, none⟩),.pointer (some ⟨bq, 0, none⟩),.pointer (some ⟨b6, 0, none⟩),.pointer (some ⟨b7, 0, none⟩),s8,s9,s10,s11,s12,s13,s14,s15,s16,s17,s18,s19,s20,s21,s22,s23,s24,s25,s26,s27,s28,s29,s30,s31,s32,s33,s34,s35,s36,s37,s38,s39,s40,s41,s42,s43,s44,s45,s46,s47,s48,s49,s50,s51,s52,s53,s54,s55,s56,s57],defers := dfr be } w6 := by
  conv => arg 2; whnf
  have m9 := HI.out.x.pr.c.c9
  refine wp_seq_hid ?_
  intro K6 HK6
  go_wp2_with fail
  clear m9
  go_loopw [25] (fun i wr => ∃ (k : Nat) (sk : Shf) (a b : Int) (g' cg : Nat), k ≤ p.deals.length ∧ i = .int .i64 k ∧ Hid (StaI w b6 b7 be p A bq p.deals (p.lows 1125899906842624) k sk a b g' cg wr)) (fun i _ => p.deals.length - (intOf i).toNat)
  case atStart => exact ⟨0, _, _, _, _, _, by omega, rfl, HI.out⟩
  case round =>
    obtain ⟨k, sk, a, b, g', cg, hk, rfl, HW⟩ := hrel
    by_cases hlk : k < p.deals.length
    · obtain ⟨bb, o', hab, ai, ci, c0, c1, c2, c3, c4, c5, c6⟩ := HW.out.x.pr.prs.deals k hlk
      rw [hab]
      have HAB := Lib.hid hab
      have HLK := Lib.hid hlk
      have HM : Hid (k < p.deals.length) := hlk
      have HDR := Lib.hid (drop_gd hlk)
      have hmem : gd p.deals k ∈ p.deals := by simp [gd, hlk]
      have HDO := Lib.hid (And.intro (deals_of HV.out _ hmem) (HS.out.slots _ hmem))
      have hb5 : Below wr.heap.size wr (wr.alloc (.cells ((gd p.deals k).arr ai ci) 62)) := (Below.refl _ wr).alloc (Nat.le_refl _) _
      have q5 := World.alloc_heap_new wr (.cells ((gd p.deals k).arr ai ci) 62)
      have H5 : Hid ((wr.alloc (.cells ((gd p.deals k).arr ai ci) 62)).heap[wr.heap.size]? = some (.cells ((gd p.deals k).arr ai ci) 62 (0, 0)) ∧ StaI w b6 b7 be p A bq p.deals (p.lows 1125899906842624) k sk a b g' cg (wr.alloc (.cells ((gd p.deals k).arr ai ci) 62)) ∧ IsInts (wr.alloc (.cells ((gd p.deals k).arr ai ci) 62)) ai (gd p.deals k).forme.slots) :=
        ⟨q5, ⟨(hb5.block _ (heap_lt HW.out.h6)).trans HW.out.h6, (hb5.block _ (heap_lt HW.out.h7)).trans HW.out.h7, HW.out.x.mono hb5, HW.out.sp.mono hb5, HW.out.n6, HW.out.n7, HW.out.ne, HW.out.run, HW.out.len, HW.out.bd, HW.out.lo⟩, c6.mono hb5⟩
      clear hab q5 hb5 c6 hmem HW
      revert c0 c1 c2 c3 c4 c5 HDR HDO H5
      generalize gd p.deals k = d
      intro c0 c1 c2 c3 c4 c5 HDR HDO H5
      go_upto_region 9 with fail
      clear c0 c1 c2 c3 c4 c5
      revert H5
      generalize wr.alloc (.cells (d.arr ai ci) 62) = w5
      generalize wr.heap.size = bd
      intro H5
      have x0 : w5.cell? ⟨b6, 0, none⟩ = some (.int .i64 sk.paper) := by rw [cell_of_heap H5.out.2.1.h6]; rfl
      have x1 : w5.cell? ⟨b6, 1, none⟩ = some (.int .i64 sk.money) := by rw [cell_of_heap H5.out.2.1.h6]; rfl
      have x2 : w5.cell? ⟨b6, 2, none⟩ = some (.slice (some ⟨g', 0, none⟩) sk.cards.length cg) := by rw [cell_of_heap H5.out.2.1.h6]; rfl
      obtain ⟨k0, k1, k2, k3, k4, k5⟩ := dl_cells H5.out.1
      have HC := Lib.hid (done62 (A := A) (cs := cg) (c := ci) H5.out.2.1.x.pr HV.out H5.out.2.1.sp H5.out.2.2 (by have := HDO.out.2; omega) HDO.out.1 H5.out.2.1.len (H5.out.2.1.bd.le (by have := HS.out.deals; have := HLK.out; omega)))
      go_wp2_with fail
      refine HC.out.mono ?_
      clear HC x0 x1 x2 k0 k1 k2 k3 k4 k5
      rintro e w6 ⟨he, hb6⟩
      have HB6 := Lib.hid (And.intro ((hb6.block _ (heap_lt H5.out.2.1.h6)).trans H5.out.2.1.h6) (And.intro ((hb6.block _ (heap_lt H5.out.2.1.h7)).trans H5.out.2.1.h7) (And.intro (H5.out.2.1.x.mono hb6) (And.intro hb6.size (And.intro (heap_lt H5.out.2.1.h6) (heap_lt H5.out.2.1.h7))))))
      clear hb6
      cases hdl : p.deal sk d with
      | none =>
        rw [hdl] at he
        have hrun := H5.out.2.1.run
        rw [HDR.out, lowF_none hdl] at hrun
        have HR := Lib.hid hrun
        obtain ⟨s', gg, he⟩ := he
        subst he
        clear hdl hrun H5
        go_wp2_with fail
        refine (need_no _ _).mono ?_
        rintro e w7 ⟨rfl, rfl⟩
        go_wp2_with fail
        have hba : Below w6.heap.size w6 (w6.alloc (.cells #[.int .i64 s'.paper, .int .i64 s'.money, .slice (some ⟨gg, 0, none⟩) s'.cards.length s'.cards.length] 48)) := (Below.refl _ _).alloc (Nat.le_refl _) _
        have hX7 := HB6.out.2.2.1.mono hba
        have hE : p.openE true = 0 := by unfold Prs.openE; rw [HV.out]; rfl
        have HE : startsE p = ((0, 0), 10) := by unfold startsE; simp only; rw [if_pos hE, HR.out]
        refine door_no hX7.be (res30 rfl _ rfl rfl rfl (by rw [cell_of_heap (caught_heap hX7.be)]; rfl)) ⟨by rw [HE]; rfl, by have hc := caught_below (x := 10) (be := be) hX7.le (by have := HBE.out; omega) hX7.le.size; rw [HBE.out.1] at hc; exact hc⟩
      | some t =>
        rw [hdl] at he
        have hrun := H5.out.2.1.run
        rw [HDR.out, lowF_some hdl] at hrun
        have HR := Lib.hid (And.intro hrun (And.intro ((deal_len hdl).trans H5.out.2.1.len) (And.intro (deal_bd HV.out HDO.out.1 H5.out.2.1.len H5.out.2.1.bd hdl) H5.out.2.1.lo)))
        obtain ⟨gg, hg, he, hsp⟩ := he
        subst he
        have HSP := Lib.hid (And.intro hsp hg)
        clear hdl hrun hsp hg
        have y0 : w6.cell? ⟨b6, 0, none⟩ = some (.int .i64 sk.paper) := by rw [cell_of_heap HB6.out.1]; rfl
        have y1 : w6.cell? ⟨b6, 1, none⟩ = some (.int .i64 sk.money) := by rw [cell_of_heap HB6.out.1]; rfl
        have y2 : w6.cell? ⟨b6, 2, none⟩ = some (.slice (some ⟨g', 0, none⟩) sk.cards.length cg) := by rw [cell_of_heap HB6.out.1]; rfl
        have f0 : w6.frozen? ⟨b6, 0, none⟩ = false := frozen_of_heap HB6.out.1
        have f1 : w6.frozen? ⟨b6, 1, none⟩ = false := frozen_of_heap HB6.out.1
        have f2 : w6.frozen? ⟨b6, 2, none⟩ = false := frozen_of_heap HB6.out.1
        have z0 : w6.cell? ⟨b7, 0, none⟩ = some (.int .i64 a) := by rw [cell_of_heap HB6.out.2.1]; rfl
        have z1 : w6.cell? ⟨b7, 1, none⟩ = some (.int .i64 b) := by rw [cell_of_heap HB6.out.2.1]; rfl
        have e0 : w6.frozen? ⟨b7, 0, none⟩ = false := frozen_of_heap HB6.out.2.1
        have e1 : w6.frozen? ⟨b7, 1, none⟩ = false := frozen_of_heap HB6.out.2.1
        have hl6 := heap_lt HB6.out.1
        have hl7 := heap_lt HB6.out.2.1
        have hlt67 := HB67.out.1
        have hne67 : b6 ≠ b7 := by omega
        have hne76 : b7 ≠ b6 := by omega
        go_wp2_with fail
        refine (need_yes _ _).mono ?_
        rintro e w7 ⟨rfl, rfl⟩
        have hkk := HLK.out
        have hds := HS.out.deals
        go_wp2_with fail
        have na : min a t.paper = if t.paper < a then t.paper else a := by split <;> omega
        have nb : min b t.money = if t.money < b then t.money else b := by split <;> omega
        have hrun := HR.out.1
        rw [na, nb] at hrun
        have hlo := HR.out.2.2.2
        have hpp := HR.out.2.2.1.paper
        have hmm := HR.out.2.2.1.money
        have hg6 : gg ≠ b6 := by have := HSP.out.2; have := HB6.out.2.2.2.2.1; omega
        have hg7 : gg ≠ b7 := by have := HSP.out.2; have := HB6.out.2.2.2.2.2; omega
        have hge : gg ≠ be := by have := HSP.out.2; have := HB6.out.2.2.2.2.1; have := HB67.out.2.1; omega
        have hbq6 : bq ≠ b6 := fun e => by have h1 := HB6.out.2.2.1.pr.h; rw [e, HB6.out.1] at h1; simp at h1
        have hbq7 : bq ≠ b7 := fun e => by have h1 := HB6.out.2.2.1.pr.h; rw [e, HB6.out.2.1] at h1; simp at h1
        have hbe6 : be ≠ b6 := by have := HB67.out.2.1; omega
        have hbe7 : be ≠ b7 := by have := HB67.out.2.1; omega
        have hW6 := HB67.out.2.2
        have hW7 : w.heap.size ≤ b7 := by omega
        obtain ⟨na', hna⟩ : ∃ z, (if t.paper < a then t.paper else a) = z := ⟨_, rfl⟩
        obtain ⟨nb', hnb⟩ : ∃ z, (if t.money < b then t.money else b) = z := ⟨_, rfl⟩
        rw [hna, hnb] at hrun ⊢
        have hlo2 : (-4611686018427387904 ≤ na' ∧ na' ≤ 1125899906842624) ∧ -4611686018427387904 ≤ nb' ∧ nb' ≤ 1125899906842624 := by
          rw [← hna, ← hnb]; constructor <;> split <;> omega
        have x7 := ((((HB6.out.2.2.1.other (k := 0) HP0.out hW6 hbe6 hbq6 (.int .i64 t.paper)).other (k := 1) HP0.out hW6 hbe6 hbq6 (.int .i64 t.money)).other (k := 2) HP0.out hW6 hbe6 hbq6 (.slice (some ⟨gg, 0, none⟩) t.cards.length t.cards.length)).other (k := 0) HP0.out hW7 hbe7 hbq7 (.int .i64 na')).other (k := 1) HP0.out hW7 hbe7 hbq7 (.int .i64 nb')
        have p6 : ((((((w6.setCell ⟨b6, 0, none⟩ (.int .i64 t.paper)).setCell ⟨b6, 1, none⟩ (.int .i64 t.money)).setCell ⟨b6, 2, none⟩ (.slice (some ⟨gg, 0, none⟩) t.cards.length t.cards.length)).setCell ⟨b7, 0, none⟩ (.int .i64 na')).setCell ⟨b7, 1, none⟩ (.int .i64 nb')).heap[b6]?) = some (.cells #[.int .i64 t.paper, .int .i64 t.money, .slice (some ⟨gg, 0, none⟩) t.cards.length t.cards.length] 48 (0, 0)) :=
          (Below.heap_setCell _ _ _ _ hne67).trans ((Below.heap_setCell _ _ _ _ hne67).trans (set3_at HB6.out.1))
        have p7 : ((((((w6.setCell ⟨b6, 0, none⟩ (.int .i64 t.paper)).setCell ⟨b6, 1, none⟩ (.int .i64 t.money)).setCell ⟨b6, 2, none⟩ (.slice (some ⟨gg, 0, none⟩) t.cards.length t.cards.length)).setCell ⟨b7, 0, none⟩ (.int .i64 na')).setCell ⟨b7, 1, none⟩ (.int .i64 nb')).heap[b7]?) = some (.cells #[.int .i64 na', .int .i64 nb'] 96 (0, 0)) := by
          have h3 : (set3 w6 b6 (.int .i64 t.paper) (.int .i64 t.money) (.slice (some ⟨gg, 0, none⟩) t.cards.length t.cards.length)).heap[b7]? = _ := (set3_other hne76).trans HB6.out.2.1
          simpa using heap_setCell_at (k := 1) (heap_setCell_at (k := 0) h3 (.int .i64 na')) (.int .i64 nb')
        have s7 := spns_set (n := 0) (k := 1) (v := .int .i64 nb') (spns_set (n := 0) (k := 0) (v := .int .i64 na') (set3_spns (x := .int .i64 t.paper) (y := .int .i64 t.money) (z := .slice (some ⟨gg, 0, none⟩) t.cards.length t.cards.length) HSP.out.1 hg6) hg7) hg7
        revert x7 p6 p7 s7
        generalize ((((w6.setCell ⟨b6, 0, none⟩ (.int .i64 t.paper)).setCell ⟨b6, 1, none⟩ (.int .i64 t.money)).setCell ⟨b6, 2, none⟩ (.slice (some ⟨gg, 0, none⟩) t.cards.length t.cards.length)).setCell ⟨b7, 0, none⟩ (.int .i64 na')).setCell ⟨b7, 1, none⟩ (.int .i64 nb') = w8
        intro x7 p6 p7 s7
        have hb8 : ∀ o, Below w8.heap.size w8 (w8.alloc o) := fun o => (Below.refl _ _).alloc (Nat.le_refl _) _
        refine ⟨⟨k + 1, t, na', nb', gg, t.cards.length, HLK.out, by go_num, ?_⟩, ?_⟩
        · exact ⟨((hb8 _).block _ (heap_lt p6)).trans p6, ((hb8 _).block _ (heap_lt p7)).trans p7, x7.mono (hb8 _), s7.mono (hb8 _), hg6, hg7, hge, hrun, HR.out.2.1, HR.out.2.2.1.le (by omega), hlo2⟩
        · exact meas_lt HM.out
    · have hke : p.deals.drop k = [] := List.drop_eq_nil_of_le (by omega)
      have hrun := HW.out.run
      rw [hke] at hrun
      have HL : Hid (startsE p = ((1125899906842624 - a, 1125899906842624 - b), 0)) := by
        have hE : p.openE true = 0 := by unfold Prs.openE; rw [HV.out]; rfl
        show startsE p = _; unfold startsE; simp only; rw [if_pos hE, hrun]; rfl
      have ha := HW.out.lo
      clear hke hrun
      go_wp2_with fail
      refine HK6.out _ _ ?_
      refine wp_seq_hid ?_
      intro K7 HK7
      refine wpIn_wide.1 (sta14 (er := 0) (b7 := b7) (be := be) (a := a) (b := b) (P0 := fun v => v.heap[b7]? = some (.cells #[.int .i64 a, .int .i64 b] 96 (0, 0)) ∧ PlX w p A bq be 0 v) (P1 := fun v => v.heap[b7]? = some (.cells #[.int .i64 a, .int .i64 b] 96 (0, 0)) ∧ PlX w p A bq be 0 v) ?h0 ?l1 ?l4 ?s8 ?hQ)
      case h0 => exact ⟨((Below.refl _ wr).drew.block _ (heap_lt HW.out.h7)).trans HW.out.h7, HW.out.x.mono (Below.refl _ _).drew⟩
      case l1 => rintro v (h | h) <;> (rw [cell_of_heap h.1]; rfl)
      case l4 => rintro v (h | h) <;> (rw [cell_of_heap h.1]; rfl)
      case s8 =>
        intro v h
        exact ⟨⟨_, by rw [cell_of_heap h.2.be]; rfl⟩, frozen_of_heap h.2.be, (Below.heap_setCell _ _ _ _ (by show b7 ≠ be; have := HB67.out; omega)).trans h.1, h.2.set HP0.out (by have := HB67.out; have := HBE.out; omega) 0⟩
      intro v2 hv2
      have HV5 := Lib.hid hv2
      clear hv2
      refine HK7.out _ _ ?_
      clear HK7 K7
      go_wp2_with fail
      have e1 : IntKind.i64.wrap (1125899906842624 - a) = 1125899906842624 - a := IntWalk.i64_in _ (by omega)
      have e2 : IntKind.i64.wrap (1125899906842624 - b) = 1125899906842624 - b := IntWalk.i64_in _ (by omega)
      refine door_ok (res30 rfl _ rfl rfl rfl (by rw [cell_of_heap HV5.out.2.be]; rfl)) ⟨by rw [HL.out]; simp only [e1, e2]; rfl, by have hc := HV5.out.2.le; rw [HBE.out.1] at hc; exact hc⟩
end Go.Proofs.Ytjkhclijmcmdjaa
namespace Go.Proofs.Ytjkhclijmcmdjaa
open Go.RowKit
set_option linter.unusedVariables false
set_option linter.unusedSimpArgs false
set_option maxRecDepth 100000 in
set_option maxHeartbeats 4000000 in
theorem starts30 {p : Prs} {A : PrsA} {w : World} (hP : IsPrs w p A) (hS : p.Small) :
    Calls Try.prog 30 #[p.v A] w fun e w' => e = .returned (.tuple #[.int .i64 (startsE p).1.1, .int .i64 (startsE p).1.2, .int .i64 (startsE p).2]) ∧ Below w.heap.size w w' := by
  have HX := Lib.hid (alloc2 w (p.arr A) #[.int .i64 0] 27 34)
  have HF := Lib.hid (hP.mono (alloc2 w (p.arr A) #[.int .i64 0] 27 34).2.2)
  have HS := Lib.hid hS
  have HP0 := Lib.hid hP
  clear hP hS
  refine calls_of_wp_x Try.func30 rfl ?_
  simp only [Try.ntmps30, List.size_toArray, List.length_cons, List.length_nil, Nat.reduceAdd, Nat.reduceSub, Array.replicate_succ, Array.replicate_zero, List.push_toArray, List.append_toArray, List.nil_append, List.cons_append]
  conv => arg 2; whnf
  refine wp_seq_hid ?_
  intro K0 HK0
  go_wp2_with fail
  refine HK0.out _ _ ?_
  clear HK0 K0
  revert HX HF
  generalize (w.alloc (.cells (p.arr A) 27)).alloc (.cells #[.int .i64 0] 34) = w1
  generalize hbe : w.heap.size + 1 = be
  generalize hbp : w.heap.size = bp
  intro HX HF
  have HBE : Hid (w.heap.size = bp ∧ bp < be) := ⟨hbp, by omega⟩
  clear hbe hbp
  refine wp_seq_hid ?_
  intro K1 HK1
  go_wp2_with fail
  refine HK1.out _ _ ?_
  clear HK1 K1
  obtain ⟨m0, m1, m2, m3, m4, m5, m6, m7, m8, m9⟩ := prs_cells HX.out.1
  cases hv : p.valid with
  | false =>
    go_wp2_with fail
    refine (open_no HF.out HS.out hv).mono ?_
    rintro e w2 ⟨rfl, hb⟩
    have HB := Lib.hid hb
    clear hb
    go_wp2_with fail
    have hq := (HB.out.block _ (heap_lt HX.out.2.1)).trans HX.out.2.1
    have hE : p.openE true = 1 := by unfold Prs.openE; rw [hv]; rfl
    have HE : startsE p = ((0, 0), 1) := by unfold startsE; simp only; rw [hE]; rfl
    have hlt := heap_lt HX.out.1
    have hsz := HB.out.size
    refine door_no hq (res30 rfl _ rfl rfl rfl (by rw [cell_of_heap (caught_heap hq)]; rfl)) ⟨by rw [HE]; rfl, caught_below (HX.out.2.2.trans (HB.out.mono (by omega))) (by have := HBE.out; omega) (by omega)⟩
  | true =>
    have HV := Lib.hid hv
    refine wp_seq_hid ?_
    intro K2 HK2
    go_wp2_with fail
    refine (open_yes HF.out HS.out hv).mono ?_
    rintro e w2 ⟨bq, rfl, hPR, hbq, hb⟩
    have HB : Hid (PlX w p A bq be 0 w2) := ⟨(hb.block _ (heap_lt HX.out.2.1)).trans HX.out.2.1, hPR, by have h2 := HX.out.2.2.trans (hb.mono (Nat.le_of_lt (heap_lt HX.out.1))); rw [HBE.out.1]; exact h2⟩
    clear hb hPR hbq hv m0 m1 m2 m3 m4 m5 m6 m7 m8 m9 HX HF
    go_wp2_with fail
    refine HK2.out _ _ ?_
    clear HK2 K2
    refine wp_seq_hid ?_
    intro K3 HK3
    have HC := Lib.hid (shelf58 HB.out.pr (by have := wanted_of HV.out; omega))
    go_wp2_with fail
    refine HC.out.mono ?_
    rintro e w3 ⟨rfl, hsp, hb⟩
    have HB3 := Lib.hid (And.intro (HB.out.mono hb) (And.intro hsp hb))
    clear hsp hb HC
    go_wp2_with fail
    refine HK3.out _ _ ?_
    clear HK3 K3
    have HGB : w2.heap.size + 1 < w3.heap.size := spns_lt HB3.out.2.1 (by simp; have := wanted_of HV.out; omega)
    have q4 := World.alloc_heap_new w3 (.cells #[.int .i64 p.paper, .int .i64 p.money, .slice (some ⟨w2.heap.size + 1, 0, none⟩) p.wanted.length p.wanted.length] 48)
    have hb4 : Below w3.heap.size w3 (w3.alloc (.cells #[.int .i64 p.paper, .int .i64 p.money, .slice (some ⟨w2.heap.size + 1, 0, none⟩) p.wanted.length p.wanted.length] 48)) := (Below.refl _ _).alloc (Nat.le_refl _) _
    have H4 := Lib.hid (And.intro q4 (And.intro (HB3.out.1.mono hb4) (And.intro (HB3.out.2.1.mono hb4) (And.intro HGB (heap_lt HB3.out.1.be)))))
    clear q4 hb4 HGB
    revert H4
    generalize w3.alloc (.cells #[.int .i64 p.paper, .int .i64 p.money, .slice (some ⟨w2.heap.size + 1, 0, none⟩) p.wanted.length p.wanted.length] 48) = w4
    generalize w3.heap.size = b6
    intro H4
    have hbe2 := heap_lt HB.out.be
    have c0 : w4.cell? ⟨b6, 0, none⟩ = some (.int .i64 p.paper) := by rw [cell_of_heap H4.out.1]; rfl
    have c1 : w4.cell? ⟨b6, 1, none⟩ = some (.int .i64 p.money) := by rw [cell_of_heap H4.out.1]; rfl
    have f0 : w4.frozen? ⟨b6, 0, none⟩ = false := frozen_of_heap H4.out.1
    have f1 : w4.frozen? ⟨b6, 1, none⟩ = false := frozen_of_heap H4.out.1
    refine wp_seq_hid ?_
    intro K4 HK4
    go_wp2_with fail
    refine HK4.out _ _ ?_
    clear HK4 K4 c0 c1 f0 f1
    refine wp_seq_hid ?_
    intro K5 HK5
    go_wp2_with fail
    refine HK5.out _ _ ?_
    clear HK5 K5
    have hbq : bq ≠ b6 := fun e => by have h1 := H4.out.2.1.pr.h; rw [e, H4.out.1] at h1; simp at h1
    have hbb : be ≠ b6 := fun e => by have h1 := H4.out.2.1.be; rw [e, H4.out.1] at h1; simp at h1
    have hWb : w.heap.size ≤ b6 := by have := H4.out.2.2.2.1; have := HB.out.le.size; omega
    have x5 := (H4.out.2.1.other (k := 0) HP0.out hWb hbb hbq (.int .i64 1125899906842624)).other (k := 1) HP0.out hWb hbb hbq (.int .i64 1125899906842624)
    have h5 := heap_setCell_at (k := 1) (heap_setCell_at (k := 0) H4.out.1 (.int .i64 1125899906842624)) (.int .i64 1125899906842624)
    have s5 : IsSpns ((w4.setCell ⟨b6, 0, none⟩ (.int .i64 1125899906842624)).setCell ⟨b6, 1, none⟩ (.int .i64 1125899906842624)) (some ⟨w2.heap.size + 1, 0, none⟩) (List.replicate p.wanted.length ⟨0, 0⟩) :=
      spns_set (n := 0) (spns_set (n := 0) H4.out.2.2.1 (by have := H4.out.2.2.2.1; omega)) (by have := H4.out.2.2.2.1; omega)
    have z5 : ((w4.setCell ⟨b6, 0, none⟩ (.int .i64 1125899906842624)).setCell ⟨b6, 1, none⟩ (.int .i64 1125899906842624)).heap.size = w4.heap.size := by simp
    revert x5 h5 s5 z5
    generalize (w4.setCell ⟨b6, 0, none⟩ (.int .i64 1125899906842624)).setCell ⟨b6, 1, none⟩ (.int .i64 1125899906842624) = w5
    intro x5 h5 s5 z5
    have hb6 := heap_lt h5
    have q6 := World.alloc_heap_new w5 (.cells #[.int .i64 1125899906842624, .int .i64 1125899906842624] 96)
    have hb : Below w5.heap.size w5 (w5.alloc (.cells #[.int .i64 1125899906842624, .int .i64 1125899906842624] 96)) := (Below.refl _ _).alloc (Nat.le_refl _) _
    rw [z5] at q6
    have HI : Hid (StaI w b6 w4.heap.size be p A bq p.deals (p.lows 1125899906842624) 0 ⟨1125899906842624, 1125899906842624, List.replicate p.wanted.length ⟨0, 0⟩⟩ 1125899906842624 1125899906842624 (w2.heap.size + 1) p.wanted.length (w5.alloc (.cells #[.int .i64 1125899906842624, .int .i64 1125899906842624] 96))) := by
      refine ⟨(hb.block _ hb6).trans (by simpa using h5), q6, x5.mono hb, s5.mono hb, by have := H4.out.2.2.2.1; omega, by have := H4.out.2.2.2.1; have := heap_lt H4.out.1; omega, by have := heap_lt HB.out.be; omega, by simp [Prs.lows], by simp, ?_, by omega⟩
      refine ⟨by show _ ∧ _; simp only; omega, by show _ ∧ _; simp only; omega, ?_⟩
      intro v hv2
      have e : gs (List.replicate p.wanted.length (⟨0, 0⟩ : Spn)) v = ⟨0, 0⟩ := by rw [gs_get hv2]; simp
      simp only [e]
      omega
    have HB67 : Hid (b6 < w4.heap.size ∧ be < b6 ∧ w.heap.size ≤ b6) := ⟨by omega, by have := H4.out.2.2.2.1; have := heap_lt HB.out.be; omega, hWb⟩
    clear x5 h5 s5 z5 hb6 q6 hb hbq hbb hWb H4 hbe2 HB3
    revert HI
    generalize w5.alloc (.cells #[.int .i64 1125899906842624, .int .i64 1125899906842624] 96) = w6
    generalize w4.heap.size = b7 at HB67 ⊢
    generalize w2.heap.size + 1 = g
    intro HI
    exact sta6 HP0 HS HV HBE HB67 HI
end Go.Proofs.Ytjkhclijmcmdjaa
namespace Go.Proofs.Ytjkhclijmcmdjaa
open Go.RowKit
set_option linter.unusedVariables false
set_option linter.unusedSimpArgs false
/-- While a deal is done, in the reference: arguments, the shelf of one's own, its cards. -/
structure RaX (W : World) (b3 b4 b5 b6 b8 g : Nat) (p : Prs) (A : PrsA) (s : Shf) (a : Option Addr) (cs : Nat) (d : Dl) (ad : Option Addr) (cd : Nat) (t : Shf) (cg : Nat) (rest : List Value) (w : World) : Prop where
  h3 : w.heap[b3]? = some (.cells (p.arr A) 27 (0, 0))
  h4 : w.heap[b4]? = some (.cells #[.int .i64 s.paper, .int .i64 s.money, .slice a s.cards.length cs] 48 (0, 0))
  h5 : w.heap[b5]? = some (.cells (d.arr ad cd) 62 (0, 0))
  h6 : w.heap[b6]? = some (.cells #[.int .i64 0, .int .i64 0, .slice none 0 0] 48 (0, 0))
  h8 : w.heap[b8]? = some (.cells #[.int .i64 t.paper, .int .i64 t.money, .slice (some ⟨g, 0, none⟩) t.cards.length cg] 48 (0, 0))
  k : w.heap[g]? = some (.cells (spV t.cards ++ rest).toArray 23 (0, 0))
  le : Below W.heap.size W w
  lay : W.heap.size ≤ b3 ∧ b3 < b4 ∧ b4 < b5 ∧ b5 < b6 ∧ b6 < b8 ∧ b8 < g
theorem RaX.mono {p : Prs} {A : PrsA} {s t : Shf} {d : Dl} {a ad : Option Addr} {cs cd cg b3 b4 b5 b6 b8 g : Nat} {rest : List Value} {W w w' : World} (h : RaX W b3 b4 b5 b6 b8 g p A s a cs d ad cd t cg rest w) (hb : Below w.heap.size w w') : RaX W b3 b4 b5 b6 b8 g p A s a cs d ad cd t cg rest w' :=
  ⟨(hb.block _ (heap_lt h.h3)).trans h.h3, (hb.block _ (heap_lt h.h4)).trans h.h4, (hb.block _ (heap_lt h.h5)).trans h.h5, (hb.block _ (heap_lt h.h6)).trans h.h6, (hb.block _ (heap_lt h.h8)).trans h.h8, (hb.block _ (heap_lt h.k)).trans h.k, h.le.trans (hb.mono h.le.size), h.lay⟩
theorem RaX.money {p : Prs} {A : PrsA} {s t : Shf} {d : Dl} {a ad : Option Addr} {cs cd cg b3 b4 b5 b6 b8 g : Nat} {rest : List Value} {W w : World} (h : RaX W b3 b4 b5 b6 b8 g p A s a cs d ad cd t cg rest w) (x : Int) : RaX W b3 b4 b5 b6 b8 g p A s a cs d ad cd { t with money := x } cg rest (w.setCell ⟨b8, 1, none⟩ (.int .i64 x)) := by
  have hl := h.lay
  exact ⟨(Below.heap_setCell _ _ _ _ (by show b3 ≠ b8; omega)).trans h.h3, (Below.heap_setCell _ _ _ _ (by show b4 ≠ b8; omega)).trans h.h4, (Below.heap_setCell _ _ _ _ (by show b5 ≠ b8; omega)).trans h.h5, (Below.heap_setCell _ _ _ _ (by show b6 ≠ b8; omega)).trans h.h6, by simpa using heap_setCell_at (k := 1) h.h8 (.int .i64 x), (Below.heap_setCell _ _ _ _ (by show g ≠ b8; omega)).trans h.k, h.le.setCell (p := ⟨b8, 1, none⟩) (by show W.heap.size ≤ b8; omega) _, hl⟩
theorem RaX.paper {p : Prs} {A : PrsA} {s t : Shf} {d : Dl} {a ad : Option Addr} {cs cd cg b3 b4 b5 b6 b8 g : Nat} {rest : List Value} {W w : World} (h : RaX W b3 b4 b5 b6 b8 g p A s a cs d ad cd t cg rest w) (x : Int) : RaX W b3 b4 b5 b6 b8 g p A s a cs d ad cd { t with paper := x } cg rest (w.setCell ⟨b8, 0, none⟩ (.int .i64 x)) := by
  have hl := h.lay
  exact ⟨(Below.heap_setCell _ _ _ _ (by show b3 ≠ b8; omega)).trans h.h3, (Below.heap_setCell _ _ _ _ (by show b4 ≠ b8; omega)).trans h.h4, (Below.heap_setCell _ _ _ _ (by show b5 ≠ b8; omega)).trans h.h5, (Below.heap_setCell _ _ _ _ (by show b6 ≠ b8; omega)).trans h.h6, by simpa using heap_setCell_at (k := 0) h.h8 (.int .i64 x), (Below.heap_setCell _ _ _ _ (by show g ≠ b8; omega)).trans h.k, h.le.setCell (p := ⟨b8, 0, none⟩) (by show W.heap.size ≤ b8; omega) _, hl⟩
theorem spV_two {l : List Spn} {i : Nat} (h : i < l.length) (x : Spn) (rest : List Value) : (((spV l ++ rest).toArray.setIfInBounds (i * 2) (.int .i64 x.lo)).setIfInBounds (i * 2 + 1) (.int .i64 x.hi)) = (spV (l.set i x) ++ rest).toArray := by
  have h1 : i * 2 < (spV l).length := by rw [spV_len]; omega
  have h2 : i * 2 + 1 < (spV l).length := by rw [spV_len]; omega
  rw [List.setIfInBounds_toArray, List.setIfInBounds_toArray, List.set_append_left _ _ h1, List.set_append_left _ _ (by simpa using h2), spV_set l i x.lo x.hi h]
theorem RaX.cards {p : Prs} {A : PrsA} {s t : Shf} {d : Dl} {a ad : Option Addr} {cs cd cg b3 b4 b5 b6 b8 g : Nat} {rest : List Value} {W w : World} (h : RaX W b3 b4 b5 b6 b8 g p A s a cs d ad cd t cg rest w) {i : Nat} (hi : i < t.cards.length) (x : Spn) : RaX W b3 b4 b5 b6 b8 g p A s a cs d ad cd { t with cards := t.cards.set i x } cg rest ((w.setCell ⟨g, i * 2, none⟩ (.int .i64 x.lo)).setCell ⟨g, i * 2 + 1, none⟩ (.int .i64 x.hi)) := by
  have hl := h.lay
  have hk := heap_setCell_at (k := i * 2 + 1) (heap_setCell_at (k := i * 2) h.k (.int .i64 x.lo)) (.int .i64 x.hi)
  rw [spV_two hi] at hk
  exact ⟨(Below.heap_setCell _ _ _ _ (by show b3 ≠ g; omega)).trans ((Below.heap_setCell _ _ _ _ (by show b3 ≠ g; omega)).trans h.h3), (Below.heap_setCell _ _ _ _ (by show b4 ≠ g; omega)).trans ((Below.heap_setCell _ _ _ _ (by show b4 ≠ g; omega)).trans h.h4), (Below.heap_setCell _ _ _ _ (by show b5 ≠ g; omega)).trans ((Below.heap_setCell _ _ _ _ (by show b5 ≠ g; omega)).trans h.h5), (Below.heap_setCell _ _ _ _ (by show b6 ≠ g; omega)).trans ((Below.heap_setCell _ _ _ _ (by show b6 ≠ g; omega)).trans h.h6),
    (Below.heap_setCell _ _ _ _ (by show b8 ≠ g; omega)).trans ((Below.heap_setCell _ _ _ _ (by show b8 ≠ g; omega)).trans (by simpa using h.h8)), hk, (h.le.setCell (p := ⟨g, _, none⟩) (by show W.heap.size ≤ g; omega) _).setCell (p := ⟨g, _, none⟩) (by show W.heap.size ≤ g; omega) _, hl⟩
theorem RaX.clo {p : Prs} {A : PrsA} {s t : Shf} {d : Dl} {a ad : Option Addr} {cs cd cg b3 b4 b5 b6 b8 g : Nat} {rest : List Value} {W w : World} (h : RaX W b3 b4 b5 b6 b8 g p A s a cs d ad cd t cg rest w) {i : Nat} (hi : i < t.cards.length) : w.cell? ⟨g, i * 2, none⟩ = some (.int .i64 (gs t.cards i).lo) ∧ w.cell? ⟨g, i * 2 + 1, none⟩ = some (.int .i64 (gs t.cards i).hi) := by
  have h1 : i * 2 < (spV t.cards).length := by rw [spV_len]; omega
  have h2 : i * 2 + 1 < (spV t.cards).length := by rw [spV_len]; omega
  constructor
  · rw [cell_of_heap h.k, List.getElem?_toArray, List.getElem?_append_left h1]; exact (spV_at hi).1
  · rw [cell_of_heap h.k, List.getElem?_toArray, List.getElem?_append_left h2]; exact (spV_at hi).2
theorem RaX.spns {p : Prs} {A : PrsA} {s t : Shf} {d : Dl} {a ad : Option Addr} {cs cd cg b3 b4 b5 b6 b8 g : Nat} {rest : List Value} {W w : World} (h : RaX W b3 b4 b5 b6 b8 g p A s a cs d ad cd t cg rest w) : IsSpns w (some ⟨g, 0, none⟩) t.cards := fun i hi => ⟨g, 0, rfl, by rw [Nat.zero_add]; exact (h.clo hi).1, by rw [Nat.zero_add]; exact (h.clo hi).2⟩
theorem sh_cells {w : World} {b : Nat} {x y z : Value} (h : w.heap[b]? = some (.cells #[x, y, z] 48 (0, 0))) : w.cell? ⟨b, 0, none⟩ = some x ∧ w.cell? ⟨b, 1, none⟩ = some y ∧ w.cell? ⟨b, 2, none⟩ = some z := by
  refine ⟨?_, ?_, ?_⟩ <;> (rw [cell_of_heap h]; rfl)
end Go.Proofs.Ytjkhclijmcmdjaa
namespace Go.Proofs.Ytjkhclijmcmdjaa
open Go.RowKit
set_option linter.unusedVariables false
set_option linter.unusedSimpArgs false
/-- While the reference plays. -/
structure PlyI (W : World) (bp b4 b7 : Nat) (p : Prs) (A : PrsA) (L : List Dl) (i : Nat) (s : Shf) (a : Option Addr) (cs : Nat) (w : World) : Prop where
  h2 : w.heap[bp]? = some (.cells (p.arr A) 27 (0, 0))
  h4 : w.heap[b4]? = some (.cells #[.int .i64 0, .int .i64 0, .slice none 0 0] 48 (0, 0))
  h7 : w.heap[b7]? = some (.cells #[.int .i64 s.paper, .int .i64 s.money, .slice a s.cards.length cs] 48 (0, 0))
  sp : IsSpns w a s.cards
  le : Below W.heap.size W w
  lay : W.heap.size ≤ bp ∧ bp < b4 ∧ b4 < b7
  run : p.runF p.first L 0 = p.runF s (L.drop i) i
  len : s.cards.length = p.wanted.length
  bd : SBd s (2251799813685248 + i * 2199023255552)
  ne : ∀ gb off, a = some ⟨gb, off, none⟩ → gb ≠ b4 ∧ gb ≠ b7 ∧ W.heap.size ≤ gb
theorem PlyI.mono {W : World} {bp b4 b7 : Nat} {p : Prs} {A : PrsA} {L : List Dl} {i : Nat} {s : Shf} {a : Option Addr} {cs : Nat} {w w' : World} (h : PlyI W bp b4 b7 p A L i s a cs w) (hb : Below w.heap.size w w') : PlyI W bp b4 b7 p A L i s a cs w' :=
  ⟨(hb.block _ (heap_lt h.h2)).trans h.h2, (hb.block _ (heap_lt h.h4)).trans h.h4, (hb.block _ (heap_lt h.h7)).trans h.h7, h.sp.mono hb, h.le.trans (hb.mono h.le.size), h.lay, h.run, h.len, h.bd, h.ne⟩
theorem PlyI.out {W : World} {bp b4 b7 : Nat} {p : Prs} {A : PrsA} {L : List Dl} {i : Nat} {s : Shf} {a : Option Addr} {cs : Nat} {w : World} (h : PlyI W bp b4 b7 p A L i s a cs w) (h0 : 0 < s.cards.length) :
    IsSpns (set3 w b4 (.int .i64 s.paper) (.int .i64 s.money) (.slice a s.cards.length cs)) a s.cards ∧ ((set3 w b4 (.int .i64 s.paper) (.int .i64 s.money) (.slice a s.cards.length cs)).heap[b4]? = some (.cells #[.int .i64 s.paper, .int .i64 s.money, .slice a s.cards.length cs] 48 (0, 0))) ∧ Below W.heap.size W (set3 w b4 (.int .i64 s.paper) (.int .i64 s.money) (.slice a s.cards.length cs)) :=
  ⟨spns_other h.sp fun gb o hg => set3_other (h.ne gb o hg).1, set3_at h.h4, set3_below h.le (by have := h.lay; omega)⟩
end Go.Proofs.Ytjkhclijmcmdjaa
namespace Go.Proofs.Ytjkhclijmcmdjaa
open Go.RowKit
set_option linter.unusedVariables false
set_option linter.unusedSimpArgs false
/-- While the reference counts what is enough. -/
structure RsI (W : World) (bp b6 : Nat) (p : Prs) (A : PrsA) (R : Option (Int × Int)) (i : Nat) (s : Shf) (x y : Int) (a : Option Addr) (cs : Nat) (w : World) : Prop where
  h1 : w.heap[bp]? = some (.cells (p.arr A) 27 (0, 0))
  h6 : w.heap[b6]? = some (.cells #[.int .i64 s.paper, .int .i64 s.money, .slice a s.cards.length cs] 48 (0, 0))
  sp : IsSpns w a s.cards
  le : Below W.heap.size W w
  lay : W.heap.size ≤ bp ∧ bp < b6
  run : R = p.lowF s (p.deals.drop i) x y
  len : s.cards.length = p.wanted.length
  bd : SBd s (38280596832649216 + i * 2199023255552)
  lo : (-4611686018427387904 ≤ x ∧ x ≤ 36028797018963968) ∧ -4611686018427387904 ≤ y ∧ y ≤ 36028797018963968
  ne : ∀ gb off, a = some ⟨gb, off, none⟩ → gb ≠ b6
theorem RsI.mono {W : World} {bp b6 : Nat} {p : Prs} {A : PrsA} {R : Option (Int × Int)} {i : Nat} {s : Shf} {x y : Int} {a : Option Addr} {cs : Nat} {w w' : World} (h : RsI W bp b6 p A R i s x y a cs w) (hb : Below w.heap.size w w') : RsI W bp b6 p A R i s x y a cs w' :=
  ⟨(hb.block _ (heap_lt h.h1)).trans h.h1, (hb.block _ (heap_lt h.h6)).trans h.h6, h.sp.mono hb, h.le.trans (hb.mono h.le.size), h.lay, h.run, h.len, h.bd, h.lo, h.ne⟩
end Go.Proofs.Ytjkhclijmcmdjaa
namespace Go.Proofs.Ytjkhclijmcmdjaa
open Go.RowKit
set_option linter.unusedVariables false
set_option linter.unusedSimpArgs false
def Shf.more (s : Shf) (x : Int) : Shf := ⟨s.paper + x, s.money + x, s.cards⟩
end Go.Proofs.Ytjkhclijmcmdjaa
namespace Go.Proofs.Ytjkhclijmcmdjaa
open Go.RowKit
set_option linter.unusedVariables false
set_option linter.unusedSimpArgs false
theorem eq_gs {l m : List Spn} (hl : l.length = m.length) (h : ∀ j, j < l.length → gs l j = gs m j) : l = m := by
  refine List.ext_getElem hl (fun i h1 h2 => ?_)
  have := h i h1
  simpa [gs, h1, h2] using this
theorem eq23 (a b c e : Int) (w : World) : (Op.equalIn 10000 23 (.agg #[.int .i64 a, .int .i64 b]) (.agg #[.int .i64 c, .int .i64 e])).run Try.prog w = .ok (a == c && b == e) w := by
  have hu3 : Try.prog.underlying 3 = some (.int .i64) := by kernel_rfl
  have hs : Try.prog.stoodInHeld 23 = false := by kernel_rfl
  have hp : ∀ (x y : Int) (w : World), (part 3 #[.int .i64 x, .int .i64 y] 0).run Try.prog w = .ok (.int .i64 x) w := fun x y w => by simp [part, run_underlying hu3, Result.andThen, isAgg]
  have hp1 : ∀ (x y : Int) (w : World), (part 3 #[.int .i64 x, .int .i64 y] 1).run Try.prog w = .ok (.int .i64 y) w := fun x y w => by simp [part, run_underlying hu3, Result.andThen, isAgg]
  have he : ∀ (x y : Int) (w : World), (Op.equalIn 9999 3 (.int .i64 x) (.int .i64 y)).run Try.prog w = .ok (x == y) w := fun x y w => by
    rw [Op.equalIn]; simp [run_underlying hu3, Result.andThen]
  rw [Op.equalIn]
  simp [run_underlying Try.underlying23, Result.andThen, hs, hp, he]
  by_cases h1 : a = c <;> by_cases h2 : b = e <;> simp [h1, h2, hp1, he, Result.andThen]
theorem neq23 (s r : Spn) (w : World) : (binOp .neq 23 (.agg #[.int .i64 s.lo, .int .i64 s.hi]) (.agg #[.int .i64 r.lo, .int .i64 r.hi])).run Try.prog w = .ok (.bool (!decide (s = r))) w := by
  have h := eq23 s.lo s.hi r.lo r.hi w
  have e : (s.lo == r.lo && s.hi == r.hi) = decide (s = r) := by
    rw [Bool.eq_iff_iff]; cases s; cases r; simp
  rw [e] at h
  simp [binOp, go_sem, Op.equal, Op.maxDepth, h, Result.andThen]
set_option maxRecDepth 100000 in
set_option maxHeartbeats 1000000 in
theorem spans_eq {l m : List Spn} {a b : Option Addr} {ca cb : Nat} {w : World} (ha : IsSpns w a l) (hb : IsSpns w b m) (hl : l.length = m.length) (h5 : l.length ≤ 30) :
    Calls Try.prog 21 #[.slice a l.length ca, .slice b l.length cb] w fun e w' => e = .returned (.bool (decide (l = m))) ∧ Below w.heap.size w w' := by
  have HL := Lib.hid (And.intro hl (And.intro ha hb))
  have hlb : ((l.length : Int) == (l.length : Int)) = true := by simp
  clear ha hb hl
  go_enter Try.func21, Try.ntmps21
  go_wp2_with fail
  go_loopw [5] (fun i wr => ∃ k : Nat, k ≤ l.length ∧ i = .int .i64 k ∧ Hid (∀ j, j < k → gs l j = gs m j) ∧ Below w.heap.size w wr) (fun i _ => l.length - (intOf i).toNat)
  case atStart => exact ⟨0, by omega, rfl, fun j hj => by omega, Below.refl _ _⟩
  case round =>
    obtain ⟨k, hk, rfl, HK, hbr⟩ := hrel
    by_cases hlt : k < l.length
    · obtain ⟨hlm, ha, hb⟩ := HL.out
      obtain ⟨b1, o1, rfl, q1, r1⟩ := ha.mono hbr k hlt
      obtain ⟨b2, o2, rfl, q2, r2⟩ := hb.mono hbr k (by omega)
      have x0 := fun y : Aft wr.heap.size wr => cell_stays y.h q1
      have x1 := fun y : Aft wr.heap.size wr => cell_stays y.h q2
      have x2 := fun y : Aft wr.heap.size wr => cell_stays y.h r1
      have x3 := fun y : Aft wr.heap.size wr => cell_stays y.h r2
      clear ha hb hlm q1 q2 r1 r2
      by_cases he : gs l k = gs m k
      · have hne : ∀ w, (binOp .neq 23 (.agg #[.int .i64 (gs l k).lo, .int .i64 (gs l k).hi]) (.agg #[.int .i64 (gs m k).lo, .int .i64 (gs m k).hi])).run Try.prog w = .ok (.bool false) w := fun w => by rw [neq23]; simp [he]
        have HE := Lib.hid he
        clear he
        go_wp2_with fail
        refine wp_region_aft mixed (by kernel_rfl) ?_
        repeat (go_big_quiet_step (fail))
        refine wpQuiet_nil ?_
        rintro _ ⟨y, rfl⟩
        go_wp2_with fail
        go_roundw
        case rel => exact ⟨k + 1, by omega, by go_num, fun j hj => by
          by_cases e : j = k
          · subst e; exact HE.out
          · exact HK.out j (by omega), hbr.trans (y.h.mono hbr.size)⟩
        case measure => simp [intOf]; omega
      · have hne : ∀ w, (binOp .neq 23 (.agg #[.int .i64 (gs l k).lo, .int .i64 (gs l k).hi]) (.agg #[.int .i64 (gs m k).lo, .int .i64 (gs m k).hi])).run Try.prog w = .ok (.bool true) w := fun w => by rw [neq23]; simp [he]
        have HE := Lib.hid he
        clear he
        go_wp2_with fail
        refine wp_region_aft mixed (by kernel_rfl) ?_
        repeat (go_big_quiet_step (fail))
        refine wpQuiet_nil ?_
        rintro _ ⟨y, rfl⟩
        go_wp2_with fail
        go_ret
        refine ⟨ret_bool ?_, hbr.trans (y.h.mono hbr.size)⟩
        have : l ≠ m := fun e => HE.out (by rw [e])
        simp [this]
    · obtain rfl : k = l.length := by omega
      go_wp2_with fail
      go_ret
      refine ⟨ret_bool ?_, hbr⟩
      have : l = m := eq_gs HL.out.1 HK.out
      simp [this]
set_option maxHeartbeats 1000000 in
theorem spans_ne {l m : List Spn} {a b : Option Addr} {ca cb : Nat} {w : World} (hl : l.length ≠ m.length) (h5 : l.length ≤ 1000000) (h6 : m.length ≤ 1000000) :
    Calls Try.prog 21 #[.slice a l.length ca, .slice b m.length cb] w fun e w' => e = .returned (.bool (decide (l = m))) ∧ Below w.heap.size w w' := by
  have HE : Hid (decide (l = m) = false) := by rw [Hid]; simp; intro e; exact hl (by rw [e])
  have hlb : ((l.length : Int) != (m.length : Int)) = true := by simp; omega
  clear hl
  go_enter Try.func21, Try.ntmps21
  go_wp2_with fail
  go_ret
  exact ⟨ret_bool HE.out.symm, Below.refl _ _⟩
theorem spans21 {l m : List Spn} {a b : Option Addr} {ca cb : Nat} {w : World} (ha : IsSpns w a l) (hb : IsSpns w b m) (h5 : l.length ≤ 30) (h6 : m.length ≤ 30) :
    Calls Try.prog 21 #[.slice a l.length ca, .slice b m.length cb] w fun e w' => e = .returned (.bool (decide (l = m))) ∧ Below w.heap.size w w' := by
  by_cases hl : l.length = m.length
  · rw [← hl]; exact spans_eq ha hb hl h5
  · exact spans_ne hl (by omega) (by omega)
def shfSame (s t : Shf) : Bool := (s.paper == t.paper) && (s.money == t.money) && decide (s.cards = t.cards)
set_option maxHeartbeats 2000000 in
theorem shelf32 {s t : Shf} {a b : Option Addr} {ca cb : Nat} {w : World} (ha : IsSpns w a s.cards) (hb : IsSpns w b t.cards) (h5 : s.cards.length ≤ 30) (h6 : t.cards.length ≤ 30) :
    Calls Try.prog 32 #[.agg #[.int .i64 s.paper, .int .i64 s.money, .slice a s.cards.length ca], .agg #[.int .i64 t.paper, .int .i64 t.money, .slice b t.cards.length cb]] w fun e w' => e = .returned (.bool (shfSame s t)) ∧ Below w.heap.size w w' := by
  have HX := Lib.hid (alloc2 w #[.int .i64 s.paper, .int .i64 s.money, .slice a s.cards.length ca] #[.int .i64 t.paper, .int .i64 t.money, .slice b t.cards.length cb] 48 48)
  have HC := Lib.hid (spans21 (ca := ca) (cb := cb) (ha.mono (alloc2 w #[.int .i64 s.paper, .int .i64 s.money, .slice a s.cards.length ca] #[.int .i64 t.paper, .int .i64 t.money, .slice b t.cards.length cb] 48 48).2.2) (hb.mono (alloc2 w #[.int .i64 s.paper, .int .i64 s.money, .slice a s.cards.length ca] #[.int .i64 t.paper, .int .i64 t.money, .slice b t.cards.length cb] 48 48).2.2) h5 h6)
  clear ha hb
  go_enter Try.func32, Try.ntmps32
  refine wp_seq_hid ?_
  intro K0 HK0
  go_wp2_with fail
  refine HK0.out _ _ ?_
  clear HK0 K0
  revert HX HC
  generalize (w.alloc (.cells #[.int .i64 s.paper, .int .i64 s.money, .slice a s.cards.length ca] 48)).alloc (.cells #[.int .i64 t.paper, .int .i64 t.money, .slice b t.cards.length cb] 48) = w1
  generalize hb3 : w.heap.size + 1 = b3
  generalize hb2 : w.heap.size = b2
  intro HX HC
  have HB2 := Lib.hid hb2
  clear hb2 hb3
  obtain ⟨x0, x1, x2⟩ := sh_cells HX.out.1
  obtain ⟨y0, y1, y2⟩ := sh_cells HX.out.2.1
  have HR : Hid (shfSame s t = ((s.paper == t.paper) && (s.money == t.money) && decide (s.cards = t.cards))) := rfl
  obtain ⟨e1, he1⟩ : ∃ e, (s.paper == t.paper) = e := ⟨_, rfl⟩
  obtain ⟨e2, he2⟩ : ∃ e, (s.money == t.money) = e := ⟨_, rfl⟩
  obtain ⟨e3, he3⟩ : ∃ e, decide (s.cards = t.cards) = e := ⟨_, rfl⟩
  rw [he1, he2, he3] at HR
  rw [he3] at HC
  clear he3
  cases e1 <;> cases e2
  all_goals
    go_wp2_with fail
    first
      | (go_ret; exact ⟨ret_bool (by rw [HR.out]; rfl), HX.out.2.2⟩)
      | (refine ⟨fun _ _ => trivial, ?_⟩; go_wp2_with fail; go_ret; exact ⟨ret_bool (by rw [HR.out]; rfl), HX.out.2.2⟩)
      | (refine HC.out.mono ?_
         rintro e w3 ⟨rfl, hb⟩
         have HB3 := Lib.hid (HX.out.2.2.trans (hb.mono (Nat.le_of_lt (heap_lt HX.out.1))))
         clear hb
         go_wp2_with fail
         go_ret
         exact ⟨ret_bool (by rw [HR.out]; cases e3 <;> rfl), HB3.out⟩)
end Go.Proofs.Ytjkhclijmcmdjaa
namespace Go.Proofs.Ytjkhclijmcmdjaa
open Go.RowKit
set_option linter.unusedVariables false
set_option linter.unusedSimpArgs false
theorem eq_gf {l m : List Fme} (hl : l.length = m.length) (h : ∀ j, j < l.length → gf l j = gf m j) : l = m := by
  refine List.ext_getElem hl (fun i h1 h2 => ?_)
  have := h i h1
  simpa [gf, h1, h2] using this
theorem eq_gi' {l m : List Int} (hl : l.length = m.length) (h : ∀ j, j < l.length → gi l j = gi m j) : l = m := by
  refine List.ext_getElem hl (fun i h1 h2 => ?_)
  have := h i h1
  simpa [gi, h1, h2] using this
set_option maxRecDepth 100000 in
set_option maxHeartbeats 4000000 in
theorem formes_eq {l m : List Fme} {a b : Option Addr} {ca cb : Nat} {w : World} (ha : IsFmes w a l) (hb : IsFmes w b m) (hl : l.length = m.length) (h5 : l.length ≤ 30) (hs : ∀ f ∈ l, f.slots.length ≤ 1000) (hs' : ∀ f ∈ m, f.slots.length ≤ 1000) :
    Calls Try.prog 25 #[.slice a l.length ca, .slice b l.length cb] w fun e w' => e = .returned (.bool (decide (l = m))) ∧ Below w.heap.size w w' := by
  have HL := Lib.hid (And.intro hl (And.intro ha (And.intro hb (And.intro hs hs'))))
  have hlb : ((l.length : Int) == (l.length : Int)) = true := by simp
  clear ha hb hl hs hs'
  go_enter Try.func25, Try.ntmps25
  go_wp2_with fail
  go_loopw [5] (fun i wr => ∃ k : Nat, k ≤ l.length ∧ i = .int .i64 k ∧ Hid (∀ j, j < k → gf l j = gf m j) ∧ Hid (Below w.heap.size w wr)) (fun i _ => l.length - (intOf i).toNat)
  case atStart => exact ⟨0, by omega, rfl, fun j hj => by omega, Below.refl _ _⟩
  case round =>
    obtain ⟨k, hk, rfl, HK, hbr⟩ := hrel
    obtain ⟨wo, rfl⟩ : ∃ x : World, x = wr := ⟨_, rfl⟩
    by_cases hlt : k < l.length
    · obtain ⟨hlm, ha, hb, hs, hs'⟩ := HL.out
      obtain ⟨b1, o1, rfl, ai, ci, q1, r1, z1⟩ := ha.mono hbr.out k hlt
      obtain ⟨b2, o2, rfl, bi, di, q2, r2, z2⟩ := hb.mono hbr.out k (by omega)
      have hm1 := hs (gf l k) (by simp [gf, hlt])
      have hm2 := hs' (gf m k) (by simp [gf, show k < m.length by omega])
      have HLT := Lib.hid hlt
      have HNE : Hid (gf l k ≠ gf m k → l ≠ m) := fun h e => h (by rw [e])
      clear ha hb hlm hs hs'
      revert q1 q2 r1 r2 z1 z2 hm1 hm2 HNE
      generalize hf : gf l k = f
      generalize hg : gf m k = g
      have HFG := Lib.hid (And.intro hf hg)
      clear hf hg
      obtain ⟨fs, ft⟩ := f
      obtain ⟨gs', gt⟩ := g
      simp only
      intro q1 r1 z1 q2 r2 z2 hm1 hm2 HNE
      have x0 := fun y : Aft wo.heap.size wo => cell_stays y.h q1
      have x1 := fun y : Aft wo.heap.size wo => cell_stays y.h r1
      have y0 := fun y : Aft wo.heap.size wo => cell_stays y.h q2
      have y1 := fun y : Aft wo.heap.size wo => cell_stays y.h r2
      have HZ := Lib.hid (And.intro z1 z2)
      have HQ := Lib.hid (And.intro q1 (And.intro r1 (And.intro q2 r2)))
      clear q1 q2 r1 r2 z1 z2
      obtain ⟨e1, he1⟩ : ∃ e, (ft != gt) = e := ⟨_, rfl⟩
      obtain ⟨e2, he2⟩ : ∃ e, ((fs.length : Int) != (gs'.length : Int)) = e := ⟨_, rfl⟩
      cases e1 with
      | true =>
        have HE : Hid (l ≠ m) := HNE.out fun e => by simp at e he1; exact he1 e.2
        have HE1 : Hid ((ft != gt) = true) := he1
        go_upto_region 6 with fail
        refine wp_region_aft mixed (by kernel_rfl) ?_
        repeat (go_big_quiet_step (fail))
        refine wpQuiet_nil ?_
        rintro _ ⟨y, rfl⟩
        have HB := Lib.hid (hbr.out.trans (y.h.mono hbr.out.size))
        go_wp2_with fail
        go_ret
        exact ⟨ret_bool (by simp [HE.out]), HB.out⟩
      | false =>
        cases e2 with
        | true =>
          have HE : Hid (l ≠ m) := HNE.out fun e => by simp at e he2; exact he2 (by rw [e.1])
          go_upto_region 6 with fail
          refine wp_region_aft mixed (by kernel_rfl) ?_
          repeat (go_big_quiet_step (fail))
          refine wpQuiet_nil ?_
          rintro _ ⟨y, rfl⟩
          have HB := Lib.hid (hbr.out.trans (y.h.mono hbr.out.size))
          go_wp2_with fail
          go_ret
          exact ⟨ret_bool (by simp [HE.out]), HB.out⟩
        | false =>
          have HFT : Hid (ft = gt) := by show ft = gt; simpa using he1
          have HFL : Hid (fs.length = gs'.length) := by simp at he2; show _ = _; omega
          go_upto_region 6 with fail
          refine wp_region_aft mixed (by kernel_rfl) ?_
          repeat (go_big_quiet_step (fail))
          refine wpQuiet_nil ?_
          rintro _ ⟨y, rfl⟩
          have HB := Lib.hid (And.intro y.h (hbr.out.trans (y.h.mono hbr.out.size)))
          clear x0 x1 y0 y1 he1 he2
          revert HB
          generalize y.v = w3
          intro HB
          go_wp2_with fail
          go_loopw [6] (fun i wr => ∃ j : Nat, j ≤ fs.length ∧ i = .int .i64 j ∧ Hid (∀ u, u < j → gi fs u = gi gs' u) ∧ Hid (Below wo.heap.size wo wr)) (fun i _ => fs.length - (intOf i).toNat)
          case atStart => exact ⟨0, by omega, rfl, fun j hj => by omega, HB.out.1⟩
          case round =>
            obtain ⟨j, hj, rfl, HJ, HW⟩ := hrel
            have q1 := cell_stays HW.out HQ.out.1
            have r1 := cell_stays HW.out HQ.out.2.2.1
            by_cases hlj : j < fs.length
            · obtain ⟨b3, o3, hab, c3⟩ := (HZ.out.1.mono HW.out) j hlj
              obtain ⟨b4, o4, hab4, c4⟩ := (HZ.out.2.mono HW.out) j (by have := HFL.out; omega)
              rw [hab] at q1
              rw [hab4, ← HFL.out] at r1
              have x0 := fun y : Aft wr.heap.size wr => cell_stays y.h q1
              have y0 := fun y : Aft wr.heap.size wr => cell_stays y.h r1
              have x3 := fun y : Aft wr.heap.size wr => cell_stays y.h c3
              have y3 := fun y : Aft wr.heap.size wr => cell_stays y.h c4
              have HAB := Lib.hid (And.intro hab hab4)
              clear hab hab4 c3 c4 r1
              by_cases he : gi fs j = gi gs' j
              · have hb : (gi fs j != gi gs' j) = false := by simpa using he
                have HE := Lib.hid he
                clear he
                go_upto_region 11 with fail
                refine wp_region_aft mixed (by kernel_rfl) ?_
                repeat (go_big_quiet_step (fail))
                refine wpQuiet_nil ?_
                rintro _ ⟨y, rfl⟩
                have HB5 := Lib.hid (HW.out.trans (y.h.mono HW.out.size))
                clear x0 y0 x3 y3 q1
                go_wp2_with fail
                go_roundw
                case rel => exact ⟨j + 1, by omega, by go_num, fun u hu => by
                  by_cases e : u = j
                  · subst e; exact HE.out
                  · exact HJ.out u (by omega), HB5.out⟩
                case measure => simp [intOf]; omega
              · have hb : (gi fs j != gi gs' j) = true := by simpa using he
                have HE : Hid (l ≠ m) := HNE.out fun e => by simp at e; exact he (by rw [e.1])
                clear he
                go_upto_region 11 with fail
                refine wp_region_aft mixed (by kernel_rfl) ?_
                repeat (go_big_quiet_step (fail))
                refine wpQuiet_nil ?_
                rintro _ ⟨y, rfl⟩
                have HB5 := Lib.hid (hbr.out.trans ((HW.out.trans (y.h.mono HW.out.size)).mono hbr.out.size))
                go_wp2_with fail
                go_ret
                exact ⟨ret_bool (by simp [HE.out]), HB5.out⟩
            · have HE : Hid (gf l k = gf m k) := by
                have e := eq_gi' HFL.out (fun u hu => HJ.out u (by omega))
                rw [Hid, HFG.out.1, HFG.out.2, e, HFT.out]
              have HB5 := Lib.hid (hbr.out.trans (HW.out.mono hbr.out.size))
              go_wp2_with fail
              go_roundw
              case rel => exact ⟨k + 1, by omega, by go_num, fun u hu => by
                by_cases e : u = k
                · subst e; exact HE.out
                · exact HK.out u (by omega), HB5.out⟩
              case measure => simp [intOf]; omega
    · obtain rfl : k = l.length := by omega
      go_wp2_with fail
      go_ret
      refine ⟨ret_bool ?_, hbr.out⟩
      have : l = m := eq_gf HL.out.1 HK.out
      simp [this]
set_option maxHeartbeats 1000000 in
theorem formes_ne {l m : List Fme} {a b : Option Addr} {ca cb : Nat} {w : World} (hl : l.length ≠ m.length) (h5 : l.length ≤ 1000000) (h6 : m.length ≤ 1000000) :
    Calls Try.prog 25 #[.slice a l.length ca, .slice b m.length cb] w fun e w' => e = .returned (.bool (decide (l = m))) ∧ Below w.heap.size w w' := by
  have HE : Hid (decide (l = m) = false) := by rw [Hid]; simp; intro e; exact hl (by rw [e])
  have hlb : ((l.length : Int) != (m.length : Int)) = true := by simp; omega
  clear hl
  go_enter Try.func25, Try.ntmps25
  go_wp2_with fail
  go_ret
  exact ⟨ret_bool HE.out.symm, Below.refl _ _⟩
theorem formes25 {l m : List Fme} {a b : Option Addr} {ca cb : Nat} {w : World} (ha : IsFmes w a l) (hb : IsFmes w b m) (h5 : l.length ≤ 30) (h6 : m.length ≤ 30) (hs : ∀ f ∈ l, f.slots.length ≤ 1000) (hs' : ∀ f ∈ m, f.slots.length ≤ 1000) :
    Calls Try.prog 25 #[.slice a l.length ca, .slice b m.length cb] w fun e w' => e = .returned (.bool (decide (l = m))) ∧ Below w.heap.size w w' := by
  by_cases hl : l.length = m.length
  · rw [← hl]; exact formes_eq ha hb hl h5 hs hs'
  · exact formes_ne hl (by omega) (by omega)
end Go.Proofs.Ytjkhclijmcmdjaa
