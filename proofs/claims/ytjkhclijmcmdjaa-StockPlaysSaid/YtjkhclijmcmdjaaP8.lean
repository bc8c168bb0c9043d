/- The program's Starts: from the loop on. The program's Starts. The reference's shelf at first. What a deal leaves, in the reference: what lies in memory. What a deal leaves, in the reference: paper is bought. What a deal leaves, in the reference: cards are sold. What a deal leaves, in the reference: a forme is printed. What a deal leaves, in the reference. -/
import Derived.Test.YtjkhclijmcmdjaaP7
namespace Go.Proofs.Ytjkhclijmcmdjaa
open Go.RowKit
set_option linter.unusedVariables false
set_option linter.unusedSimpArgs false
theorem spns_lt {v : World} {g off : Nat} {l : List Spn} (h : IsSpns v (some ⟨g, off, none⟩) l) (hl : 0 < l.length) : g < v.heap.size := by
  obtain ⟨b, o, he, h0, _⟩ := h 0 hl
  cases he
  rcases Nat.lt_or_ge g v.heap.size with h2 | h2
  · exact h2
  · simp [World.cell?, Array.getElem?_eq_none h2] at h0
theorem PlX.other {W : World} {p : Prs} {A : PrsA} {bq be b k : Nat} {er : Int} {w : World} (h : PlX W p A bq be er w) (hP : IsPrs W p A) (hB : W.heap.size ≤ b) (n1 : be ≠ b) (n2 : bq ≠ b) (v : Value) : PlX W p A bq be er (w.setCell ⟨b, k, none⟩ v) := by
  have hle : Below W.heap.size W (w.setCell ⟨b, k, none⟩ v) := h.le.setCell (p := ⟨b, k, none⟩) hB _
  exact ⟨(Below.heap_setCell _ _ _ _ n1).trans h.be, ⟨(Below.heap_setCell _ _ _ _ n2).trans h.pr.h, hP.mono hle⟩, hle⟩
theorem meas_lt {k n : Nat} (h : k < n) : n - (intOf (.int .i64 ((k : Int) + 1))).toNat < n - (intOf (.int .i64 (k : Int))).toNat := by simp [intOf]; omega
noncomputable def sta6C : Code := (Try.f30.body.bind (fromRegion 6)).getD .skip
set_option maxRecDepth 100000 in
set_option maxHeartbeats 4000000 in
theorem sta6 {p : Prs} {A : PrsA} {w w6 : World} {bp be bq b6 b7 g : Nat} (HP0 : Hid (IsPrs w p A)) (HS : Hid p.Small) (HV : Hid (p.valid = true)) (HBE : Hid (w.heap.size = bp ∧ bp < be)) (HB67 : Hid (b6 < b7 ∧ be < b6 ∧ w.heap.size ≤ b6))
    (HI : Hid (StaI w b6 b7 be p A bq p.deals (p.lows 1125899906842624) 0 ⟨1125899906842624, 1125899906842624, List.replicate p.wanted.length ⟨0, 0⟩⟩ 1125899906842624 1125899906842624 g p.wanted.length w6))
    {s0 s1 s8 s9 s10 s11 s12 s13 s14 s15 s16 s17 s18 s19 s20 s21 s22 s23 s24 s25 s26 s27 s28 s29 s30 s31 s32 s33 s34 s35 s36 s37 s38 s39 s40 s41 s42 s43 s44 s45 s46 s47 s48 s49 s50 s51 s52 s53 s54 s55 s56 s57 : Value} :
    Code.wp Try.prog sta6C (bodyPostX Try.prog Try.f30 fun e w' => e = .returned (.tuple #[.int .i64 (startsE p).1.1, .int .i64 (startsE p).1.2, .int .i64 (startsE p).2]) ∧ Below bp w w') { tmps := #[s0,s1,.int .i64 0,.int .i64 0,.pointer (some ⟨be, 0, none⟩),.pointer (some ⟨bq, 0, none⟩),.pointer (some ⟨b6, 0, none⟩),.pointer (some ⟨b7, 0, none⟩),s8,s9,s10,s11,s12,s13,s14,s15,s16,s17,s18,s19,s20,s21,s22,s23,s24,s25,s26,s27,s28,s29,s30,s31,s32,s33,s34,s35,s36,s37,s38,s39,s40,s41,s42,s43,s44,s45,s46,s47,s48,s49,s50,s51,s52,s53,s54,s55,s56,s57],defers := dfr be } w6 := by
  conv => arg 2; whnf
  have m9 := HI.out.x.pr.c.c9
  refine wp_seq_hid ?_
  intro K6 HK6
  go_wp2_with fail
  clear m9
  go_loopw [25] (fun i wr => ∃ (k : Nat) (sk : Shf) (a b : Int) (g' cg : Nat), k ≤ p.deals.length ∧ i = .int .i64 k ∧ Hid (StaI w b6 b7 be p A bq p.deals (p.lows 1125899906842624) k sk a b g' cg wr)) (fun i _ => p.deals.length - (intOf i).toNat)
  case atStart => exact ⟨0, _, _, _, _, _, by omega, rfl, HI.out⟩
  case round =>
    obtain ⟨k, sk, a, b, g', cg, hk, rfl, HW⟩ := hrel
    by_cases hlk : k < p.deals.length
    · obtain ⟨bb, o', hab, ai, ci, c0, c1, c2, c3, c4, c5, c6⟩ := HW.out.x.pr.prs.deals k hlk
      rw [hab]
      have HAB := Lib.hid hab
      have HLK := Lib.hid hlk
      have HM : Hid (k < p.deals.length) := hlk
      have HDR := Lib.hid (drop_gd hlk)
      have hmem : gd p.deals k ∈ p.deals := by simp [gd, hlk]
      have HDO := Lib.hid (And.intro (deals_of HV.out _ hmem) (HS.out.slots _ hmem))
      have hb5 : Below wr.heap.size wr (wr.alloc (.cells ((gd p.deals k).arr ai ci) 62)) := (Below.refl _ wr).alloc (Nat.le_refl _) _
      have q5 := World.alloc_heap_new wr (.cells ((gd p.deals k).arr ai ci) 62)
      have H5 : Hid ((wr.alloc (.cells ((gd p.deals k).arr ai ci) 62)).heap[wr.heap.size]? = some (.cells ((gd p.deals k).arr ai ci) 62 (0, 0)) ∧ StaI w b6 b7 be p A bq p.deals (p.lows 1125899906842624) k sk a b g' cg (wr.alloc (.cells ((gd p.deals k).arr ai ci) 62)) ∧ IsInts (wr.alloc (.cells ((gd p.deals k).arr ai ci) 62)) ai (gd p.deals k).forme.slots) :=
        ⟨q5, ⟨(hb5.block _ (heap_lt HW.out.h6)).trans HW.out.h6, (hb5.block _ (heap_lt HW.out.h7)).trans HW.out.h7, HW.out.x.mono hb5, HW.out.sp.mono hb5, HW.out.n6, HW.out.n7, HW.out.ne, HW.out.run, HW.out.len, HW.out.bd, HW.out.lo⟩, c6.mono hb5⟩
      clear hab q5 hb5 c6 hmem HW
      revert c0 c1 c2 c3 c4 c5 HDR HDO H5
      generalize gd p.deals k = d
      intro c0 c1 c2 c3 c4 c5 HDR HDO H5
      go_upto_region 9 with fail
      clear c0 c1 c2 c3 c4 c5
      revert H5
      generalize wr.alloc (.cells (d.arr ai ci) 62) = w5
      generalize wr.heap.size = bd
      intro H5
      have x0 : w5.cell? ⟨b6, 0, none⟩ = some (.int .i64 sk.paper) := by rw [cell_of_heap H5.out.2.1.h6]; rfl
      have x1 : w5.cell? ⟨b6, 1, none⟩ = some (.int .i64 sk.money) := by rw [cell_of_heap H5.out.2.1.h6]; rfl
      have x2 : w5.cell? ⟨b6, 2, none⟩ = some (.slice (some ⟨g', 0, none⟩) sk.cards.length cg) := by rw [cell_of_heap H5.out.2.1.h6]; rfl
      obtain ⟨k0, k1, k2, k3, k4, k5⟩ := dl_cells H5.out.1
      have HC := Lib.hid (done62 (A := A) (cs := cg) (c := ci) H5.out.2.1.x.pr HV.out H5.out.2.1.sp H5.out.2.2 (by have := HDO.out.2; omega) HDO.out.1 H5.out.2.1.len (H5.out.2.1.bd.le (by have := HS.out.deals; have := HLK.out; omega)))
      go_wp2_with fail
      refine HC.out.mono ?_
      clear HC x0 x1 x2 k0 k1 k2 k3 k4 k5
      rintro e w6 ⟨he, hb6⟩
      have HB6 := Lib.hid (And.intro ((hb6.block _ (heap_lt H5.out.2.1.h6)).trans H5.out.2.1.h6) (And.intro ((hb6.block _ (heap_lt H5.out.2.1.h7)).trans H5.out.2.1.h7) (And.intro (H5.out.2.1.x.mono hb6) (And.intro hb6.size (And.intro (heap_lt H5.out.2.1.h6) (heap_lt H5.out.2.1.h7))))))
      clear hb6
      cases hdl : p.deal sk d with
      | none =>
        rw [hdl] at he
        have hrun := H5.out.2.1.run
        rw [HDR.out, lowF_none hdl] at hrun
        have HR := Lib.hid hrun
        obtain ⟨s', gg, he⟩ := he
        subst he
        clear hdl hrun H5
        go_wp2_with fail
        refine (need_no _ _).mono ?_
        rintro e w7 ⟨rfl, rfl⟩
        go_wp2_with fail
        have hba : Below w6.heap.size w6 (w6.alloc (.cells #[.int .i64 s'.paper, .int .i64 s'.money, .slice (some ⟨gg, 0, none⟩) s'.cards.length s'.cards.length] 48)) := (Below.refl _ _).alloc (Nat.le_refl _) _
        have hX7 := HB6.out.2.2.1.mono hba
        have hE : p.openE true = 0 := by unfold Prs.openE; rw [HV.out]; rfl
        have HE : startsE p = ((0, 0), 10) := by unfold startsE; simp only; rw [if_pos hE, HR.out]
        refine door_no hX7.be (res30 rfl _ rfl rfl rfl (by rw [cell_of_heap (caught_heap hX7.be)]; rfl)) ⟨by rw [HE]; rfl, by have hc := caught_below (x := 10) (be := be) hX7.le (by have := HBE.out; omega) hX7.le.size; rw [HBE.out.1] at hc; exact hc⟩
      | some t =>
        rw [hdl] at he
        have hrun := H5.out.2.1.run
        rw [HDR.out, lowF_some hdl] at hrun
        have HR := Lib.hid (And.intro hrun (And.intro ((deal_len hdl).trans H5.out.2.1.len) (And.intro (deal_bd HV.out HDO.out.1 H5.out.2.1.len H5.out.2.1.bd hdl) H5.out.2.1.lo)))
        obtain ⟨gg, hg, he, hsp⟩ := he
        subst he
        have HSP := Lib.hid (And.intro hsp hg)
        clear hdl hrun hsp hg
        have y0 : w6.cell? ⟨b6, 0, none⟩ = some (.int .i64 sk.paper) := by rw [cell_of_heap HB6.out.1]; rfl
        have y1 : w6.cell? ⟨b6, 1, none⟩ = some (.int .i64 sk.money) := by rw [cell_of_heap HB6.out.1]; rfl
        have y2 : w6.cell? ⟨b6, 2, none⟩ = some (.slice (some ⟨g', 0, none⟩) sk.cards.length cg) := by rw [cell_of_heap HB6.out.1]; rfl
        have f0 : w6.frozen? ⟨b6, 0, none⟩ = false := frozen_of_heap HB6.out.1
        have f1 : w6.frozen? ⟨b6, 1, none⟩ = false := frozen_of_heap HB6.out.1
        have f2 : w6.frozen? ⟨b6, 2, none⟩ = false := frozen_of_heap HB6.out.1
        have z0 : w6.cell? ⟨b7, 0, none⟩ = some (.int .i64 a) := by rw [cell_of_heap HB6.out.2.1]; rfl
        have z1 : w6.cell? ⟨b7, 1, none⟩ = some (.int .i64 b) := by rw [cell_of_heap HB6.out.2.1]; rfl
        have e0 : w6.frozen? ⟨b7, 0, none⟩ = false := frozen_of_heap HB6.out.2.1
        have e1 : w6.frozen? ⟨b7, 1, none⟩ = false := frozen_of_heap HB6.out.2.1
        have hl6 := heap_lt HB6.out.1
        have hl7 := heap_lt HB6.out.2.1
        have hlt67 := HB67.out.1
        have hne67 : b6 ≠ b7 := by omega
        have hne76 : b7 ≠ b6 := by omega
        go_wp2_with fail
        refine (need_yes _ _).mono ?_
        rintro e w7 ⟨rfl, rfl⟩
        have hkk := HLK.out
        have hds := HS.out.deals
        go_wp2_with fail
        have na : min a t.paper = if t.paper < a then t.paper else a := by split <;> omega
        have nb : min b t.money = if t.money < b then t.money else b := by split <;> omega
        have hrun := HR.out.1
        rw [na, nb] at hrun
        have hlo := HR.out.2.2.2
        have hpp := HR.out.2.2.1.paper
        have hmm := HR.out.2.2.1.money
        have hg6 : gg ≠ b6 := by have := HSP.out.2; have := HB6.out.2.2.2.2.1; omega
        have hg7 : gg ≠ b7 := by have := HSP.out.2; have := HB6.out.2.2.2.2.2; omega
        have hge : gg ≠ be := by have := HSP.out.2; have := HB6.out.2.2.2.2.1; have := HB67.out.2.1; omega
        have hbq6 : bq ≠ b6 := fun e => by have h1 := HB6.out.2.2.1.pr.h; rw [e, HB6.out.1] at h1; simp at h1
        have hbq7 : bq ≠ b7 := fun e => by have h1 := HB6.out.2.2.1.pr.h; rw [e, HB6.out.2.1] at h1; simp at h1
        have hbe6 : be ≠ b6 := by have := HB67.out.2.1; omega
        have hbe7 : be ≠ b7 := by have := HB67.out.2.1; omega
        have hW6 := HB67.out.2.2
        have hW7 : w.heap.size ≤ b7 := by omega
        obtain ⟨na', hna⟩ : ∃ z, (if t.paper < a then t.paper else a) = z := ⟨_, rfl⟩
        obtain ⟨nb', hnb⟩ : ∃ z, (if t.money < b then t.money else b) = z := ⟨_, rfl⟩
        rw [hna, hnb] at hrun ⊢
        have hlo2 : (-4611686018427387904 ≤ na' ∧ na' ≤ 1125899906842624) ∧ -4611686018427387904 ≤ nb' ∧ nb' ≤ 1125899906842624 := by
          rw [← hna, ← hnb]; constructor <;> split <;> omega
        have x7 := ((((HB6.out.2.2.1.other (k := 0) HP0.out hW6 hbe6 hbq6 (.int .i64 t.paper)).other (k := 1) HP0.out hW6 hbe6 hbq6 (.int .i64 t.money)).other (k := 2) HP0.out hW6 hbe6 hbq6 (.slice (some ⟨gg, 0, none⟩) t.cards.length t.cards.length)).other (k := 0) HP0.out hW7 hbe7 hbq7 (.int .i64 na')).other (k := 1) HP0.out hW7 hbe7 hbq7 (.int .i64 nb')
        have p6 : ((((((w6.setCell ⟨b6, 0, none⟩ (.int .i64 t.paper)).setCell ⟨b6, 1, none⟩ (.int .i64 t.money)).setCell ⟨b6, 2, none⟩ (.slice (some ⟨gg, 0, none⟩) t.cards.length t.cards.length)).setCell ⟨b7, 0, none⟩ (.int .i64 na')).setCell ⟨b7, 1, none⟩ (.int .i64 nb')).heap[b6]?) = some (.cells #[.int .i64 t.paper, .int .i64 t.money, .slice (some ⟨gg, 0, none⟩) t.cards.length t.cards.length] 48 (0, 0)) :=
          (Below.heap_setCell _ _ _ _ hne67).trans ((Below.heap_setCell _ _ _ _ hne67).trans (set3_at HB6.out.1))
        have p7 : ((((((w6.setCell ⟨b6, 0, none⟩ (.int .i64 t.paper)).setCell ⟨b6, 1, none⟩ (.int .i64 t.money)).setCell ⟨b6, 2, none⟩ (.slice (some ⟨gg, 0, none⟩) t.cards.length t.cards.length)).setCell ⟨b7, 0, none⟩ (.int .i64 na')).setCell ⟨b7, 1, none⟩ (.int .i64 nb')).heap[b7]?) = some (.cells #[.int .i64 na', .int .i64 nb'] 96 (0, 0)) := by
          have h3 : (set3 w6 b6 (.int .i64 t.paper) (.int .i64 t.money) (.slice (some ⟨gg, 0, none⟩) t.cards.length t.cards.length)).heap[b7]? = _ := (set3_other hne76).trans HB6.out.2.1
          simpa using heap_setCell_at (k := 1) (heap_setCell_at (k := 0) h3 (.int .i64 na')) (.int .i64 nb')
        have s7 := spns_set (n := 0) (k := 1) (v := .int .i64 nb') (spns_set (n := 0) (k := 0) (v := .int .i64 na') (set3_spns (x := .int .i64 t.paper) (y := .int .i64 t.money) (z := .slice (some ⟨gg, 0, none⟩) t.cards.length t.cards.length) HSP.out.1 hg6) hg7) hg7
        revert x7 p6 p7 s7
        generalize ((((w6.setCell ⟨b6, 0, none⟩ (.int .i64 t.paper)).setCell ⟨b6, 1, none⟩ (.int .i64 t.money)).setCell ⟨b6, 2, none⟩ (.slice (some ⟨gg, 0, none⟩) t.cards.length t.cards.length)).setCell ⟨b7, 0, none⟩ (.int .i64 na')).setCell ⟨b7, 1, none⟩ (.int .i64 nb') = w8
        intro x7 p6 p7 s7
        have hb8 : ∀ o, Below w8.heap.size w8 (w8.alloc o) := fun o => (Below.refl _ _).alloc (Nat.le_refl _) _
        refine ⟨⟨k + 1, t, na', nb', gg, t.cards.length, HLK.out, by go_num, ?_⟩, ?_⟩
        · exact ⟨((hb8 _).block _ (heap_lt p6)).trans p6, ((hb8 _).block _ (heap_lt p7)).trans p7, x7.mono (hb8 _), s7.mono (hb8 _), hg6, hg7, hge, hrun, HR.out.2.1, HR.out.2.2.1.le (by omega), hlo2⟩
        · exact meas_lt HM.out
    · have hke : p.deals.drop k = [] := List.drop_eq_nil_of_le (by omega)
      have hrun := HW.out.run
      rw [hke] at hrun
      have HL : Hid (startsE p = ((1125899906842624 - a, 1125899906842624 - b), 0)) := by
        have hE : p.openE true = 0 := by unfold Prs.openE; rw [HV.out]; rfl
        show startsE p = _; unfold startsE; simp only; rw [if_pos hE, hrun]; rfl
      have ha := HW.out.lo
      clear hke hrun
      go_wp2_with fail
      refine HK6.out _ _ ?_
      refine wp_seq_hid ?_
      intro K7 HK7
      refine wpIn_wide.1 (sta14 (er := 0) (b7 := b7) (be := be) (a := a) (b := b) (P0 := fun v => v.heap[b7]? = some (.cells #[.int .i64 a, .int .i64 b] 96 (0, 0)) ∧ PlX w p A bq be 0 v) (P1 := fun v => v.heap[b7]? = some (.cells #[.int .i64 a, .int .i64 b] 96 (0, 0)) ∧ PlX w p A bq be 0 v) ?h0 ?l1 ?l4 ?s8 ?hQ)
      case h0 => exact ⟨((Below.refl _ wr).drew.block _ (heap_lt HW.out.h7)).trans HW.out.h7, HW.out.x.mono (Below.refl _ _).drew⟩
      case l1 => rintro v (h | h) <;> (rw [cell_of_heap h.1]; rfl)
      case l4 => rintro v (h | h) <;> (rw [cell_of_heap h.1]; rfl)
      case s8 =>
        intro v h
        exact ⟨⟨_, by rw [cell_of_heap h.2.be]; rfl⟩, frozen_of_heap h.2.be, (Below.heap_setCell _ _ _ _ (by show b7 ≠ be; have := HB67.out; omega)).trans h.1, h.2.set HP0.out (by have := HB67.out; have := HBE.out; omega) 0⟩
      intro v2 hv2
      have HV5 := Lib.hid hv2
      clear hv2
      refine HK7.out _ _ ?_
      clear HK7 K7
      go_wp2_with fail
      have e1 : IntKind.i64.wrap (1125899906842624 - a) = 1125899906842624 - a := IntWalk.i64_in _ (by omega)
      have e2 : IntKind.i64.wrap (1125899906842624 - b) = 1125899906842624 - b := IntWalk.i64_in _ (by omega)
      refine door_ok (res30 rfl _ rfl rfl rfl (by rw [cell_of_heap HV5.out.2.be]; rfl)) ⟨by rw [HL.out]; simp only [e1, e2]; rfl, by have hc := HV5.out.2.le; rw [HBE.out.1] at hc; exact hc⟩
end Go.Proofs.Ytjkhclijmcmdjaa
namespace Go.Proofs.Ytjkhclijmcmdjaa
open Go.RowKit
set_option linter.unusedVariables false
set_option linter.unusedSimpArgs false
set_option maxRecDepth 100000 in
set_option maxHeartbeats 4000000 in
theorem starts30 {p : Prs} {A : PrsA} {w : World} (hP : IsPrs w p A) (hS : p.Small) :
    Calls Try.prog 30 #[p.v A] w fun e w' => e = .returned (.tuple #[.int .i64 (startsE p).1.1, .int .i64 (startsE p).1.2, .int .i64 (startsE p).2]) ∧ Below w.heap.size w w' := by
  have HX := Lib.hid (alloc2 w (p.arr A) #[.int .i64 0] 27 34)
  have HF := Lib.hid (hP.mono (alloc2 w (p.arr A) #[.int .i64 0] 27 34).2.2)
  have HS := Lib.hid hS
  have HP0 := Lib.hid hP
  clear hP hS
  refine calls_of_wp_x Try.func30 rfl ?_
  simp only [Try.ntmps30, List.size_toArray, List.length_cons, List.length_nil, Nat.reduceAdd, Nat.reduceSub, Array.replicate_succ, Array.replicate_zero, List.push_toArray, List.append_toArray, List.nil_append, List.cons_append]
  conv => arg 2; whnf
  refine wp_seq_hid ?_
  intro K0 HK0
  go_wp2_with fail
  refine HK0.out _ _ ?_
  clear HK0 K0
  revert HX HF
  generalize (w.alloc (.cells (p.arr A) 27)).alloc (.cells #[.int .i64 0] 34) = w1
  generalize hbe : w.heap.size + 1 = be
  generalize hbp : w.heap.size = bp
  intro HX HF
  have HBE : Hid (w.heap.size = bp ∧ bp < be) := ⟨hbp, by omega⟩
  clear hbe hbp
  refine wp_seq_hid ?_
  intro K1 HK1
  go_wp2_with fail
  refine HK1.out _ _ ?_
  clear HK1 K1
  obtain ⟨m0, m1, m2, m3, m4, m5, m6, m7, m8, m9⟩ := prs_cells HX.out.1
  cases hv : p.valid with
  | false =>
    go_wp2_with fail
    refine (open_no HF.out HS.out hv).mono ?_
    rintro e w2 ⟨rfl, hb⟩
    have HB := Lib.hid hb
    clear hb
    go_wp2_with fail
    have hq := (HB.out.block _ (heap_lt HX.out.2.1)).trans HX.out.2.1
    have hE : p.openE true = 1 := by unfold Prs.openE; rw [hv]; rfl
    have HE : startsE p = ((0, 0), 1) := by unfold startsE; simp only; rw [hE]; rfl
    have hlt := heap_lt HX.out.1
    have hsz := HB.out.size
    refine door_no hq (res30 rfl _ rfl rfl rfl (by rw [cell_of_heap (caught_heap hq)]; rfl)) ⟨by rw [HE]; rfl, caught_below (HX.out.2.2.trans (HB.out.mono (by omega))) (by have := HBE.out; omega) (by omega)⟩
  | true =>
    have HV := Lib.hid hv
    refine wp_seq_hid ?_
    intro K2 HK2
    go_wp2_with fail
    refine (open_yes HF.out HS.out hv).mono ?_
    rintro e w2 ⟨bq, rfl, hPR, hbq, hb⟩
    have HB : Hid (PlX w p A bq be 0 w2) := ⟨(hb.block _ (heap_lt HX.out.2.1)).trans HX.out.2.1, hPR, by have h2 := HX.out.2.2.trans (hb.mono (Nat.le_of_lt (heap_lt HX.out.1))); rw [HBE.out.1]; exact h2⟩
    clear hb hPR hbq hv m0 m1 m2 m3 m4 m5 m6 m7 m8 m9 HX HF
    go_wp2_with fail
    refine HK2.out _ _ ?_
    clear HK2 K2
    refine wp_seq_hid ?_
    intro K3 HK3
    have HC := Lib.hid (shelf58 HB.out.pr (by have := wanted_of HV.out; omega))
    go_wp2_with fail
    refine HC.out.mono ?_
    rintro e w3 ⟨rfl, hsp, hb⟩
    have HB3 := Lib.hid (And.intro (HB.out.mono hb) (And.intro hsp hb))
    clear hsp hb HC
    go_wp2_with fail
    refine HK3.out _ _ ?_
    clear HK3 K3
    have HGB : w2.heap.size + 1 < w3.heap.size := spns_lt HB3.out.2.1 (by simp; have := wanted_of HV.out; omega)
    have q4 := World.alloc_heap_new w3 (.cells #[.int .i64 p.paper, .int .i64 p.money, .slice (some ⟨w2.heap.size + 1, 0, none⟩) p.wanted.length p.wanted.length] 48)
    have hb4 : Below w3.heap.size w3 (w3.alloc (.cells #[.int .i64 p.paper, .int .i64 p.money, .slice (some ⟨w2.heap.size + 1, 0, none⟩) p.wanted.length p.wanted.length] 48)) := (Below.refl _ _).alloc (Nat.le_refl _) _
    have H4 := Lib.hid (And.intro q4 (And.intro (HB3.out.1.mono hb4) (And.intro (HB3.out.2.1.mono hb4) (And.intro HGB (heap_lt HB3.out.1.be)))))
    clear q4 hb4 HGB
    revert H4
    generalize w3.alloc (.cells #[.int .i64 p.paper, .int .i64 p.money, .slice (some ⟨w2.heap.size + 1, 0, none⟩) p.wanted.length p.wanted.length] 48) = w4
    generalize w3.heap.size = b6
    intro H4
    have hbe2 := heap_lt HB.out.be
    have c0 : w4.cell? ⟨b6, 0, none⟩ = some (.int .i64 p.paper) := by rw [cell_of_heap H4.out.1]; rfl
    have c1 : w4.cell? ⟨b6, 1, none⟩ = some (.int .i64 p.money) := by rw [cell_of_heap H4.out.1]; rfl
    have f0 : w4.frozen? ⟨b6, 0, none⟩ = false := frozen_of_heap H4.out.1
    have f1 : w4.frozen? ⟨b6, 1, none⟩ = false := frozen_of_heap H4.out.1
    refine wp_seq_hid ?_
    intro K4 HK4
    go_wp2_with fail
    refine HK4.out _ _ ?_
    clear HK4 K4 c0 c1 f0 f1
    refine wp_seq_hid ?_
    intro K5 HK5
    go_wp2_with fail
    refine HK5.out _ _ ?_
    clear HK5 K5
    have hbq : bq ≠ b6 := fun e => by have h1 := H4.out.2.1.pr.h; rw [e, H4.out.1] at h1; simp at h1
    have hbb : be ≠ b6 := fun e => by have h1 := H4.out.2.1.be; rw [e, H4.out.1] at h1; simp at h1
    have hWb : w.heap.size ≤ b6 := by have := H4.out.2.2.2.1; have := HB.out.le.size; omega
    have x5 := (H4.out.2.1.other (k := 0) HP0.out hWb hbb hbq (.int .i64 1125899906842624)).other (k := 1) HP0.out hWb hbb hbq (.int .i64 1125899906842624)
    have h5 := heap_setCell_at (k := 1) (heap_setCell_at (k := 0) H4.out.1 (.int .i64 1125899906842624)) (.int .i64 1125899906842624)
    have s5 : IsSpns ((w4.setCell ⟨b6, 0, none⟩ (.int .i64 1125899906842624)).setCell ⟨b6, 1, none⟩ (.int .i64 1125899906842624)) (some ⟨w2.heap.size + 1, 0, none⟩) (List.replicate p.wanted.length ⟨0, 0⟩) :=
      spns_set (n := 0) (spns_set (n := 0) H4.out.2.2.1 (by have := H4.out.2.2.2.1; omega)) (by have := H4.out.2.2.2.1; omega)
    have z5 : ((w4.setCell ⟨b6, 0, none⟩ (.int .i64 1125899906842624)).setCell ⟨b6, 1, none⟩ (.int .i64 1125899906842624)).heap.size = w4.heap.size := by simp
    revert x5 h5 s5 z5
    generalize (w4.setCell ⟨b6, 0, none⟩ (.int .i64 1125899906842624)).setCell ⟨b6, 1, none⟩ (.int .i64 1125899906842624) = w5
    intro x5 h5 s5 z5
    have hb6 := heap_lt h5
    have q6 := World.alloc_heap_new w5 (.cells #[.int .i64 1125899906842624, .int .i64 1125899906842624] 96)
    have hb : Below w5.heap.size w5 (w5.alloc (.cells #[.int .i64 1125899906842624, .int .i64 1125899906842624] 96)) := (Below.refl _ _).alloc (Nat.le_refl _) _
    rw [z5] at q6
    have HI : Hid (StaI w b6 w4.heap.size be p A bq p.deals (p.lows 1125899906842624) 0 ⟨1125899906842624, 1125899906842624, List.replicate p.wanted.length ⟨0, 0⟩⟩ 1125899906842624 1125899906842624 (w2.heap.size + 1) p.wanted.length (w5.alloc (.cells #[.int .i64 1125899906842624, .int .i64 1125899906842624] 96))) := by
      refine ⟨(hb.block _ hb6).trans (by simpa using h5), q6, x5.mono hb, s5.mono hb, by have := H4.out.2.2.2.1; omega, by have := H4.out.2.2.2.1; have := heap_lt H4.out.1; omega, by have := heap_lt HB.out.be; omega, by simp [Prs.lows], by simp, ?_, by omega⟩
      refine ⟨by show _ ∧ _; simp only; omega, by show _ ∧ _; simp only; omega, ?_⟩
      intro v hv2
      have e : gs (List.replicate p.wanted.length (⟨0, 0⟩ : Spn)) v = ⟨0, 0⟩ := by rw [gs_get hv2]; simp
      simp only [e]
      omega
    have HB67 : Hid (b6 < w4.heap.size ∧ be < b6 ∧ w.heap.size ≤ b6) := ⟨by omega, by have := H4.out.2.2.2.1; have := heap_lt HB.out.be; omega, hWb⟩
    clear x5 h5 s5 z5 hb6 q6 hb hbq hbb hWb H4 hbe2 HB3
    revert HI
    generalize w5.alloc (.cells #[.int .i64 1125899906842624, .int .i64 1125899906842624] 96) = w6
    generalize w4.heap.size = b7 at HB67 ⊢
    generalize w2.heap.size + 1 = g
    intro HI
    exact sta6 HP0 HS HV HBE HB67 HI
end Go.Proofs.Ytjkhclijmcmdjaa
namespace Go.Proofs.Ytjkhclijmcmdjaa
open Go.RowKit
set_option linter.unusedVariables false
set_option linter.unusedSimpArgs false
noncomputable def fir1C : Code := (Try.f63.body.bind (regionAt 1)).getD .skip
set_option maxRecDepth 100000 in
set_option maxHeartbeats 8000000 in
theorem fir1 {bp b2 N n cw : Nat} {aw : Option Addr} {q m : Int} {P0 P1 P2 : World → Prop} {Q : Exit → Act → World → Prop} {W1 : World}  (h0 : P0 W1.drew)
    (kl1 : Hid (∀ w : World, (P0 w ∨ P1 w ∨ P2 w) → w.cell? ⟨bp, 7, none⟩ = some (.int .i64 (q))))
    (kl3 : Hid (∀ w : World, (P0 w ∨ P1 w ∨ P2 w) → w.cell? ⟨bp, 8, none⟩ = some (.int .i64 (m))))
    (kl5 : Hid (∀ w : World, (P0 w ∨ P1 w ∨ P2 w) → w.cell? ⟨bp, 6, none⟩ = some (.slice aw n cw)))
    (kr7 : Hid (∀ w : World, P0 w → ∃ w', (Instr.makeSlice 33 (.int .i64 (n : Int)) (.int .i64 (n : Int))).run Try.prog w = .ok (.slice (some ⟨N, 0, none⟩) n n) w' ∧ P1 w'))
    (ks9 : Hid (∀ w : World, P1 w → (∃ u, w.cell? ⟨b2, 0, none⟩ = some u) ∧ w.frozen? ⟨b2, 0, none⟩ = false ∧ (∃ u, w.cell? ⟨b2, 1, none⟩ = some u) ∧ w.frozen? ⟨b2, 1, none⟩ = false ∧ (∃ u, w.cell? ⟨b2, 2, none⟩ = some u) ∧ w.frozen? ⟨b2, 2, none⟩ = false ∧ P2 (((w.setCell ⟨b2, 0, none⟩ (.int .i64 (q))).setCell ⟨b2, 1, none⟩ (.int .i64 (m))).setCell ⟨b2, 2, none⟩ (.slice (some ⟨N, 0, none⟩) n n))))
    {s0 s3 s4 s5 s6 s7 s8 s9 s10 s11 : Value} {dd : List Deferred}
    (hQ : ∀ w' : World, P2 w' → Q .normal { tmps := #[s0,.pointer (some ⟨bp, 0, none⟩),.pointer (some ⟨b2, 0, none⟩),.pointer (some ⟨bp, 7, none⟩),.int .i64 (q),.pointer (some ⟨bp, 8, none⟩),.int .i64 (m),.pointer (some ⟨bp, 6, none⟩),.slice aw n cw,.int .i64 (n : Int),.slice (some ⟨N, 0, none⟩) n n,.agg #[.int .i64 (q), .int .i64 (m), .slice (some ⟨N, 0, none⟩) n n]],defers := dd } w') :
    Code.wpIn (wideAt none) 0 Try.prog fir1C Q { tmps := #[s0,.pointer (some ⟨bp, 0, none⟩),.pointer (some ⟨b2, 0, none⟩),s3,s4,s5,s6,s7,s8,s9,s10,s11],defers := dd } W1 := by
  have HQ := Lib.hid hQ
  clear hQ
  conv => arg 4; whnf
  refine wpIn_region_invG mixed (by kernel_rfl) (fun d_ a_ w' => a_ = { tmps := #[s0,.pointer (some ⟨bp, 0, none⟩),.pointer (some ⟨b2, 0, none⟩),pk (d_ 0) (.pointer (some ⟨bp, 7, none⟩)) s3,pk (d_ 1) (.int .i64 (q)) s4,pk (d_ 2) (.pointer (some ⟨bp, 8, none⟩)) s5,pk (d_ 3) (.int .i64 (m)) s6,pk (d_ 4) (.pointer (some ⟨bp, 6, none⟩)) s7,pk (d_ 5) (.slice aw n cw) s8,pk (d_ 6) (.int .i64 (n : Int)) s9,pk (d_ 7) (.slice (some ⟨N, 0, none⟩) n n) s10,pk (d_ 8) (.agg #[.int .i64 (q), .int .i64 (m), .slice (some ⟨N, 0, none⟩) n n]) s11],defers := dd } ∧ ch2 P0 P1 P2 (d_ 7) (d_ 9) w') ?_ ?_ ?_
  · exact ⟨rfl, h0⟩
  · refine ⟨?_,?_,?_,?_,?_,?_,?_,?_,?_,?_, trivial⟩
    all_goals
      rintro d_ a_ w1 K hd_ hdep ⟨rfl, F⟩ HK
      simp [Region.binds] at hdep
    · have HF := Lib.hid F
      clear F hdep
      go_simp
      refine HK.out _ _ ⟨?_, HF.out⟩
      all_goals rfl
    · have q0 : d_ 0 = true := by simp [hdep]
      have kk := kl1.out w1 (ch2_or F)
      rw [pk_of q0]
      have HF := Lib.hid F
      clear F hdep
      go_simp
      refine HK.out _ _ ⟨?_, HF.out⟩
      rw [pk_of (show upd d_ 1 0 = true from q0)]
      all_goals rfl
    · have HF := Lib.hid F
      clear F hdep
      go_simp
      refine HK.out _ _ ⟨?_, HF.out⟩
      all_goals rfl
    · have q2 : d_ 2 = true := by simp [hdep]
      have kk := kl3.out w1 (ch2_or F)
      rw [pk_of q2]
      have HF := Lib.hid F
      clear F hdep
      go_simp
      refine HK.out _ _ ⟨?_, HF.out⟩
      rw [pk_of (show upd d_ 3 2 = true from q2)]
      all_goals rfl
    · have HF := Lib.hid F
      clear F hdep
      go_simp
      refine HK.out _ _ ⟨?_, HF.out⟩
      all_goals rfl
    · have q4 : d_ 4 = true := by simp [hdep]
      have kk := kl5.out w1 (ch2_or F)
      rw [pk_of q4]
      have HF := Lib.hid F
      clear F hdep
      go_simp
      refine HK.out _ _ ⟨?_, HF.out⟩
      rw [pk_of (show upd d_ 5 4 = true from q4)]
      all_goals rfl
    · have q5 : d_ 5 = true := by simp [hdep]
      rw [pk_of q5]
      have HF := Lib.hid F
      clear F hdep
      go_simp
      refine HK.out _ _ ⟨?_, HF.out⟩
      rw [pk_of (show upd d_ 6 5 = true from q5)]
      all_goals rfl
    · have q6 : d_ 6 = true := by simp [hdep]
      rw [pk_of q6]
      obtain ⟨hP, hN⟩ := ch2_s1 F hd_
      obtain ⟨w5, kk, hR⟩ := kr7.out w1 hP
      have HF := Lib.hid (hN _ hR)
      clear F hP hR hN hdep
      go_simp
      have HG := HF.out
      refine HK.out _ _ ⟨?_, HG⟩
      rw [pk_of (show upd d_ 7 6 = true from q6)]
      all_goals rfl
    · have q1 : d_ 1 = true := by simp [hdep]
      have q3 : d_ 3 = true := by simp [hdep]
      have q7 : d_ 7 = true := by simp [hdep]
      rw [pk_of q1, pk_of q3, pk_of q7]
      have HF := Lib.hid F
      clear F hdep
      go_simp
      refine HK.out _ _ ⟨?_, HF.out⟩
      rw [pk_of (show upd d_ 8 1 = true from q1), pk_of (show upd d_ 8 3 = true from q3), pk_of (show upd d_ 8 7 = true from q7)]
      all_goals rfl
    · have q8 : d_ 8 = true := by simp [hdep]
      rw [pk_of q8]
      obtain ⟨hP, hN⟩ := ch2_s2 F (show d_ 7 = true by simp [hdep]) hd_
      obtain ⟨⟨u0, c0⟩, z0, ⟨u1, c1⟩, z1, ⟨u2, c2⟩, z2, hR⟩ := ks9.out w1 hP
      have HF := Lib.hid (hN _ hR)
      clear F hP hR hN hdep
      go_simp
      have HG := HF.out
      refine HK.out _ _ ⟨?_, HG⟩
      rw [pk_of (show upd d_ 9 8 = true from q8)]
      all_goals rfl
  · rintro d_ a_ w1 hall ⟨rfl, F⟩
    have hall' : ∀ k, k < 10 → d_ k = true := hall
    rw [hall' 7 (by decide), hall' 9 (by decide)] at F
    have HF := Lib.hid F
    clear F
    rw [pk_of (hall' 0 (by decide)), pk_of (hall' 1 (by decide)), pk_of (hall' 2 (by decide)), pk_of (hall' 3 (by decide)), pk_of (hall' 4 (by decide)), pk_of (hall' 5 (by decide)), pk_of (hall' 6 (by decide)), pk_of (hall' 7 (by decide)), pk_of (hall' 8 (by decide))]
    exact HQ.out w1 HF.out
/-- While the reference's shelf is made. -/
structure FirX (W : World) (bp b2 : Nat) (p : Prs) (A : PrsA) (c : Array Value) (w : World) : Prop where
  h1 : w.heap[bp]? = some (.cells (p.arr A) 27 (0, 0))
  h : w.heap[b2]? = some (.cells c 48 (0, 0))
  le : Below W.heap.size W w
set_option maxHeartbeats 2000000 in
theorem rfirst63 {p : Prs} {A : PrsA} {w : World} (hw4 : p.wanted.length ≤ 1000) :
    Calls Try.prog 63 #[p.v A] w fun e w' => e = .returned (.agg #[.int .i64 p.paper, .int .i64 p.money, .slice (some ⟨w.heap.size + 2, 0, none⟩) p.wanted.length p.wanted.length]) ∧ IsSpns w' (some ⟨w.heap.size + 2, 0, none⟩) (List.replicate p.wanted.length ⟨0, 0⟩) ∧ Below w.heap.size w w' := by
  have ha := alloc2 w (p.arr A) #[.int .i64 0, .int .i64 0, .slice none 0 0] 27 48
  have HX : Hid (FirX w w.heap.size (w.heap.size + 1) p A #[.int .i64 0, .int .i64 0, .slice none 0 0] ((w.alloc (.cells (p.arr A) 27)).alloc (.cells #[.int .i64 0, .int .i64 0, .slice none 0 0] 48))) := ⟨ha.1, ha.2.1, ha.2.2⟩
  have hsz : Hid (((w.alloc (.cells (p.arr A) 27)).alloc (.cells #[.int .i64 0, .int .i64 0, .slice none 0 0] 48)).heap.size = w.heap.size + 2) := by show _ = _; simp
  clear ha
  go_enter Try.func63, Try.ntmps63
  refine wp_seq_hid ?_
  intro K0 HK0
  go_wp2_with fail
  refine HK0.out _ _ ?_
  clear HK0 K0
  revert HX hsz
  generalize (w.alloc (.cells (p.arr A) 27)).alloc (.cells #[.int .i64 0, .int .i64 0, .slice none 0 0] 48) = w1
  generalize hb2 : w.heap.size + 1 = b2
  generalize hbp : w.heap.size = bp
  intro HX hsz
  have HB := Lib.hid (And.intro hb2 hbp)
  clear hb2 hbp
  refine wp_seq_hid ?_
  intro K1 HK1
  refine wpIn_wide.1 (fir1 (bp := bp) (b2 := b2) (N := w1.heap.size) (n := p.wanted.length) (cw := A.cw) (aw := A.aw) (q := p.paper) (m := p.money)
    (P0 := fun v => v.heap.size = w1.heap.size ∧ FirX w bp b2 p A #[.int .i64 0, .int .i64 0, .slice none 0 0] v)
    (P1 := fun v => v.heap[w1.heap.size]? = some (.cells (madeCells #[.int .i64 0, .int .i64 0] (p.wanted.length * 2)) 23 (0, 0)) ∧ FirX w bp b2 p A #[.int .i64 0, .int .i64 0, .slice none 0 0] v)
    (P2 := fun v => v.heap[w1.heap.size]? = some (.cells (madeCells #[.int .i64 0, .int .i64 0] (p.wanted.length * 2)) 23 (0, 0)) ∧ FirX w bp b2 p A #[.int .i64 p.paper, .int .i64 p.money, .slice (some ⟨w1.heap.size, 0, none⟩) p.wanted.length p.wanted.length] v) ?h0 ?l1 ?l3 ?l5 ?r7 ?s9 ?hQ)
  case h0 => exact ⟨rfl, HX.out.h1, HX.out.h, HX.out.le.drew⟩
  case l1 => rintro v (h | h | h) <;> exact (prs_cells h.2.h1).c7
  case l3 => rintro v (h | h | h) <;> exact (prs_cells h.2.h1).c8
  case l5 => rintro v (h | h | h) <;> exact (prs_cells h.2.h1).c6
  case r7 =>
    intro v h
    have hm := make33 (n := p.wanted.length) (m := p.wanted.length) (Nat.le_refl _) hw4 v
    rw [h.1] at hm
    have hb : Below v.heap.size v (v.alloc (.cells (madeCells #[.int .i64 0, .int .i64 0] (p.wanted.length * 2)) 23)) := (Below.refl _ _).alloc (Nat.le_refl _) _
    have hq := World.alloc_heap_new v (.cells (madeCells #[.int .i64 0, .int .i64 0] (p.wanted.length * 2)) 23)
    rw [h.1] at hq
    exact ⟨_, hm, hq, (hb.block _ (heap_lt h.2.h1)).trans h.2.h1, (hb.block _ (heap_lt h.2.h)).trans h.2.h, h.2.le.trans (hb.mono h.2.le.size)⟩
  case s9 =>
    intro v h
    have c0 : v.cell? ⟨b2, 0, none⟩ = some (.int .i64 0) := by rw [cell_of_heap h.2.h]; rfl
    have c1 : v.cell? ⟨b2, 1, none⟩ = some (.int .i64 0) := by rw [cell_of_heap h.2.h]; rfl
    have c2 : v.cell? ⟨b2, 2, none⟩ = some (.slice none 0 0) := by rw [cell_of_heap h.2.h]; rfl
    have fz : ∀ k, v.frozen? ⟨b2, k, none⟩ = false := fun k => frozen_of_heap h.2.h
    have h3 := heap_setCell_at (k := 2) (heap_setCell_at (k := 1) (heap_setCell_at (k := 0) h.2.h (.int .i64 p.paper)) (.int .i64 p.money)) (.slice (some ⟨w1.heap.size, 0, none⟩) p.wanted.length p.wanted.length)
    have hne : w1.heap.size ≠ b2 := by have h1 := hsz.out; have h2 := HB.out.1; have h3 := HB.out.2; omega
    have hnp : bp ≠ b2 := by have h1 := HB.out.1; have h2 := HB.out.2; omega
    have hle : w.heap.size ≤ b2 := by have h1 := HB.out.1; have h2 := HB.out.2; omega
    exact ⟨⟨_, c0⟩, fz 0, ⟨_, c1⟩, fz 1, ⟨_, c2⟩, fz 2, (Below.heap_setCell _ _ _ _ hne).trans ((Below.heap_setCell _ _ _ _ hne).trans ((Below.heap_setCell _ _ _ _ hne).trans h.1)),
      (Below.heap_setCell _ _ _ _ hnp).trans ((Below.heap_setCell _ _ _ _ hnp).trans ((Below.heap_setCell _ _ _ _ hnp).trans h.2.h1)), h3,
      ((h.2.le.setCell (p := ⟨b2, 0, none⟩) hle _).setCell (p := ⟨b2, 1, none⟩) hle _).setCell (p := ⟨b2, 2, none⟩) hle _⟩
  intro v hv
  have HV := Lib.hid hv
  clear hv
  refine HK1.out _ _ ?_
  clear HK1 K1
  go_wp2_with fail
  refine bodyPost_ret (v := .agg #[.int .i64 p.paper, .int .i64 p.money, .slice (some ⟨w1.heap.size, 0, none⟩) p.wanted.length p.wanted.length]) (res48' rfl _ rfl (by rw [cell_of_heap HV.out.2.h]; rfl) (by rw [cell_of_heap HV.out.2.h]; rfl) (by rw [cell_of_heap HV.out.2.h]; rfl)) rfl ⟨by rw [hsz.out], by rw [← hsz.out]; exact made_spns HV.out.1, by have hh := HV.out.2.le; rw [HB.out.2] at hh; exact hh⟩
end Go.Proofs.Ytjkhclijmcmdjaa
namespace Go.Proofs.Ytjkhclijmcmdjaa
open Go.RowKit
set_option linter.unusedVariables false
set_option linter.unusedSimpArgs false
/-- How a deal ends, in the reference. -/
def AftR (W : World) (s : Shf) (o : Option Shf) (e : Ending) (w' : World) : Prop :=
  ∃ a' c', e = .returned (.tuple #[.agg #[.int .i64 (o.getD s).paper, .int .i64 (o.getD s).money, .slice a' (o.getD s).cards.length c'], .bool o.isSome]) ∧ IsSpns w' a' (o.getD s).cards ∧ Below W.heap.size W w' ∧ (o.isSome = true → ∀ gb off, a' = some ⟨gb, off, none⟩ → W.heap.size ≤ gb)
/-- While a deal is done, in the reference: arguments, the shelf of one's own, its cards. -/
structure RaX (W : World) (b3 b4 b5 b6 b8 g : Nat) (p : Prs) (A : PrsA) (s : Shf) (a : Option Addr) (cs : Nat) (d : Dl) (ad : Option Addr) (cd : Nat) (t : Shf) (cg : Nat) (rest : List Value) (w : World) : Prop where
  h3 : w.heap[b3]? = some (.cells (p.arr A) 27 (0, 0))
  h4 : w.heap[b4]? = some (.cells #[.int .i64 s.paper, .int .i64 s.money, .slice a s.cards.length cs] 48 (0, 0))
  h5 : w.heap[b5]? = some (.cells (d.arr ad cd) 62 (0, 0))
  h6 : w.heap[b6]? = some (.cells #[.int .i64 0, .int .i64 0, .slice none 0 0] 48 (0, 0))
  h8 : w.heap[b8]? = some (.cells #[.int .i64 t.paper, .int .i64 t.money, .slice (some ⟨g, 0, none⟩) t.cards.length cg] 48 (0, 0))
  k : w.heap[g]? = some (.cells (spV t.cards ++ rest).toArray 23 (0, 0))
  le : Below W.heap.size W w
  lay : W.heap.size ≤ b3 ∧ b3 < b4 ∧ b4 < b5 ∧ b5 < b6 ∧ b6 < b8 ∧ b8 < g
theorem RaX.mono {p : Prs} {A : PrsA} {s t : Shf} {d : Dl} {a ad : Option Addr} {cs cd cg b3 b4 b5 b6 b8 g : Nat} {rest : List Value} {W w w' : World} (h : RaX W b3 b4 b5 b6 b8 g p A s a cs d ad cd t cg rest w) (hb : Below w.heap.size w w') : RaX W b3 b4 b5 b6 b8 g p A s a cs d ad cd t cg rest w' :=
  ⟨(hb.block _ (heap_lt h.h3)).trans h.h3, (hb.block _ (heap_lt h.h4)).trans h.h4, (hb.block _ (heap_lt h.h5)).trans h.h5, (hb.block _ (heap_lt h.h6)).trans h.h6, (hb.block _ (heap_lt h.h8)).trans h.h8, (hb.block _ (heap_lt h.k)).trans h.k, h.le.trans (hb.mono h.le.size), h.lay⟩
theorem RaX.money {p : Prs} {A : PrsA} {s t : Shf} {d : Dl} {a ad : Option Addr} {cs cd cg b3 b4 b5 b6 b8 g : Nat} {rest : List Value} {W w : World} (h : RaX W b3 b4 b5 b6 b8 g p A s a cs d ad cd t cg rest w) (x : Int) : RaX W b3 b4 b5 b6 b8 g p A s a cs d ad cd { t with money := x } cg rest (w.setCell ⟨b8, 1, none⟩ (.int .i64 x)) := by
  have hl := h.lay
  exact ⟨(Below.heap_setCell _ _ _ _ (by show b3 ≠ b8; omega)).trans h.h3, (Below.heap_setCell _ _ _ _ (by show b4 ≠ b8; omega)).trans h.h4, (Below.heap_setCell _ _ _ _ (by show b5 ≠ b8; omega)).trans h.h5, (Below.heap_setCell _ _ _ _ (by show b6 ≠ b8; omega)).trans h.h6, by simpa using heap_setCell_at (k := 1) h.h8 (.int .i64 x), (Below.heap_setCell _ _ _ _ (by show g ≠ b8; omega)).trans h.k, h.le.setCell (p := ⟨b8, 1, none⟩) (by show W.heap.size ≤ b8; omega) _, hl⟩
theorem RaX.paper {p : Prs} {A : PrsA} {s t : Shf} {d : Dl} {a ad : Option Addr} {cs cd cg b3 b4 b5 b6 b8 g : Nat} {rest : List Value} {W w : World} (h : RaX W b3 b4 b5 b6 b8 g p A s a cs d ad cd t cg rest w) (x : Int) : RaX W b3 b4 b5 b6 b8 g p A s a cs d ad cd { t with paper := x } cg rest (w.setCell ⟨b8, 0, none⟩ (.int .i64 x)) := by
  have hl := h.lay
  exact ⟨(Below.heap_setCell _ _ _ _ (by show b3 ≠ b8; omega)).trans h.h3, (Below.heap_setCell _ _ _ _ (by show b4 ≠ b8; omega)).trans h.h4, (Below.heap_setCell _ _ _ _ (by show b5 ≠ b8; omega)).trans h.h5, (Below.heap_setCell _ _ _ _ (by show b6 ≠ b8; omega)).trans h.h6, by simpa using heap_setCell_at (k := 0) h.h8 (.int .i64 x), (Below.heap_setCell _ _ _ _ (by show g ≠ b8; omega)).trans h.k, h.le.setCell (p := ⟨b8, 0, none⟩) (by show W.heap.size ≤ b8; omega) _, hl⟩
theorem spV_two {l : List Spn} {i : Nat} (h : i < l.length) (x : Spn) (rest : List Value) : (((spV l ++ rest).toArray.setIfInBounds (i * 2) (.int .i64 x.lo)).setIfInBounds (i * 2 + 1) (.int .i64 x.hi)) = (spV (l.set i x) ++ rest).toArray := by
  have h1 : i * 2 < (spV l).length := by rw [spV_len]; omega
  have h2 : i * 2 + 1 < (spV l).length := by rw [spV_len]; omega
  rw [List.setIfInBounds_toArray, List.setIfInBounds_toArray, List.set_append_left _ _ h1, List.set_append_left _ _ (by simpa using h2), spV_set l i x.lo x.hi h]
theorem RaX.cards {p : Prs} {A : PrsA} {s t : Shf} {d : Dl} {a ad : Option Addr} {cs cd cg b3 b4 b5 b6 b8 g : Nat} {rest : List Value} {W w : World} (h : RaX W b3 b4 b5 b6 b8 g p A s a cs d ad cd t cg rest w) {i : Nat} (hi : i < t.cards.length) (x : Spn) : RaX W b3 b4 b5 b6 b8 g p A s a cs d ad cd { t with cards := t.cards.set i x } cg rest ((w.setCell ⟨g, i * 2, none⟩ (.int .i64 x.lo)).setCell ⟨g, i * 2 + 1, none⟩ (.int .i64 x.hi)) := by
  have hl := h.lay
  have hk := heap_setCell_at (k := i * 2 + 1) (heap_setCell_at (k := i * 2) h.k (.int .i64 x.lo)) (.int .i64 x.hi)
  rw [spV_two hi] at hk
  exact ⟨(Below.heap_setCell _ _ _ _ (by show b3 ≠ g; omega)).trans ((Below.heap_setCell _ _ _ _ (by show b3 ≠ g; omega)).trans h.h3), (Below.heap_setCell _ _ _ _ (by show b4 ≠ g; omega)).trans ((Below.heap_setCell _ _ _ _ (by show b4 ≠ g; omega)).trans h.h4), (Below.heap_setCell _ _ _ _ (by show b5 ≠ g; omega)).trans ((Below.heap_setCell _ _ _ _ (by show b5 ≠ g; omega)).trans h.h5), (Below.heap_setCell _ _ _ _ (by show b6 ≠ g; omega)).trans ((Below.heap_setCell _ _ _ _ (by show b6 ≠ g; omega)).trans h.h6),
    (Below.heap_setCell _ _ _ _ (by show b8 ≠ g; omega)).trans ((Below.heap_setCell _ _ _ _ (by show b8 ≠ g; omega)).trans (by simpa using h.h8)), hk, (h.le.setCell (p := ⟨g, _, none⟩) (by show W.heap.size ≤ g; omega) _).setCell (p := ⟨g, _, none⟩) (by show W.heap.size ≤ g; omega) _, hl⟩
theorem RaX.clo {p : Prs} {A : PrsA} {s t : Shf} {d : Dl} {a ad : Option Addr} {cs cd cg b3 b4 b5 b6 b8 g : Nat} {rest : List Value} {W w : World} (h : RaX W b3 b4 b5 b6 b8 g p A s a cs d ad cd t cg rest w) {i : Nat} (hi : i < t.cards.length) : w.cell? ⟨g, i * 2, none⟩ = some (.int .i64 (gs t.cards i).lo) ∧ w.cell? ⟨g, i * 2 + 1, none⟩ = some (.int .i64 (gs t.cards i).hi) := by
  have h1 : i * 2 < (spV t.cards).length := by rw [spV_len]; omega
  have h2 : i * 2 + 1 < (spV t.cards).length := by rw [spV_len]; omega
  constructor
  · rw [cell_of_heap h.k, List.getElem?_toArray, List.getElem?_append_left h1]; exact (spV_at hi).1
  · rw [cell_of_heap h.k, List.getElem?_toArray, List.getElem?_append_left h2]; exact (spV_at hi).2
theorem RaX.spns {p : Prs} {A : PrsA} {s t : Shf} {d : Dl} {a ad : Option Addr} {cs cd cg b3 b4 b5 b6 b8 g : Nat} {rest : List Value} {W w : World} (h : RaX W b3 b4 b5 b6 b8 g p A s a cs d ad cd t cg rest w) : IsSpns w (some ⟨g, 0, none⟩) t.cards := fun i hi => ⟨g, 0, rfl, by rw [Nat.zero_add]; exact (h.clo hi).1, by rw [Nat.zero_add]; exact (h.clo hi).2⟩
theorem sh_cells {w : World} {b : Nat} {x y z : Value} (h : w.heap[b]? = some (.cells #[x, y, z] 48 (0, 0))) : w.cell? ⟨b, 0, none⟩ = some x ∧ w.cell? ⟨b, 1, none⟩ = some y ∧ w.cell? ⟨b, 2, none⟩ = some z := by
  refine ⟨?_, ?_, ?_⟩ <;> (rw [cell_of_heap h]; rfl)
theorem res_48t {fn : Func} {u v : Tmp} (h : fn.results = #[.cell u 48, .tmp v]) (tmps : Array Value) {w : World} {b : Nat} {x y z r : Value} (hp : tmps.getD u undef = .pointer (some ⟨b, 0, none⟩)) (hv : tmps.getD v undef = r)
    (hh : w.heap[b]? = some (.cells #[x, y, z] 48 (0, 0))) :
    (results fn tmps).run Try.prog w = .ok (.tuple #[.agg #[x, y, z], r]) w := by
  subst hv
  obtain ⟨hx, hy, hz⟩ := sh_cells hh
  have hp' : tmps[u]?.getD undef = .pointer (some ⟨b, 0, none⟩) := by simpa using hp
  simp [results, h, hp', hx, hy, hz, go_sem]
noncomputable def aft23C : Code := (Try.f64.body.bind (fromRegion 23)).getD .skip
set_option maxRecDepth 100000 in
set_option maxHeartbeats 4000000 in
theorem aft23 {p : Prs} {A : PrsA} {s t : Shf} {d : Dl} {a ad : Option Addr} {cs cd cg b3 b4 b5 b6 b8 g : Nat} {rest : List Value} {W w : World} (HX : Hid (RaX W b3 b4 b5 b6 b8 g p A s a cs d ad cd t cg rest w)) {s0 s1 s2 s9 s10 s11 s12 s13 s14 s15 s16 s17 s18 s19 s20 s21 s22 s23 s24 s25 s26 s27 s28 s29 s30 s31 s32 s33 s34 s35 s36 s37 s38 s39 s40 s41 s42 s43 s44 s45 s46 s47 s48 s49 s50 s51 s52 s53 s54 s55 s56 s57 s58 s59 s60 s61 s62 s63 s64 s65 s66 s67 s68 s69 s70 s71 s72 s73 s74 s75 s76 s77 s78 s79 s80 s81 s82 s83 s84 s85 s86 s87 s88 s89 s90 s91 s92 s93 s94 s95 s96 s97 s98 s99 s100 s101 s102 s103 s104 s105 s106 s107 s108 s109 s110 s111 s112 s113 s114 s115 s116 s117 s118 s119 s120 s121 s122 s123 s124 s125 s126 s127 s128 s129 s130 s131 s132 s133 s134 s135 s136 s137 s138 s139 s140 s141 s142 s143 s144 s145 s146 : Value} :
    Code.wp Try.prog aft23C (bodyPost Try.prog Try.f64 (AftR W s (some t))) { tmps := #[s0,s1,s2,.pointer (some ⟨b3, 0, none⟩),.pointer (some ⟨b4, 0, none⟩),.pointer (some ⟨b5, 0, none⟩),.pointer (some ⟨b6, 0, none⟩),.bool false,.pointer (some ⟨b8, 0, none⟩),s9,s10,s11,s12,s13,s14,s15,s16,s17,s18,s19,s20,s21,s22,s23,s24,s25,s26,s27,s28,s29,s30,s31,s32,s33,s34,s35,s36,s37,s38,s39,s40,s41,s42,s43,s44,s45,s46,s47,s48,s49,s50,s51,s52,s53,s54,s55,s56,s57,s58,s59,s60,s61,s62,s63,s64,s65,s66,s67,s68,s69,s70,s71,s72,s73,s74,s75,s76,s77,s78,s79,s80,s81,s82,s83,s84,s85,s86,s87,s88,s89,s90,s91,s92,s93,s94,s95,s96,s97,s98,s99,s100,s101,s102,s103,s104,s105,s106,s107,s108,s109,s110,s111,s112,s113,s114,s115,s116,s117,s118,s119,s120,s121,s122,s123,s124,s125,s126,s127,s128,s129,s130,s131,s132,s133,s134,s135,s136,s137,s138,s139,s140,s141,s142,s143,s144,s145,s146],defers := [] } w := by
  conv => arg 2; whnf
  obtain ⟨x0, x1, x2⟩ := sh_cells HX.out.h8
  obtain ⟨y0, y1, y2⟩ := sh_cells HX.out.h6
  have f0 : ∀ k, w.frozen? ⟨b6, k, none⟩ = false := fun k => frozen_of_heap HX.out.h6
  have f1 := f0 0
  have f2 := f0 1
  have f3 := f0 2
  clear f0
  go_wp2_with fail
  have h3 := heap_setCell_at (k := 2) (heap_setCell_at (k := 1) (heap_setCell_at (k := 0) HX.out.h6 (.int .i64 t.paper)) (.int .i64 t.money)) (.slice (some ⟨g, 0, none⟩) t.cards.length cg)
  have hl := HX.out.lay
  have hsp := spns_set (n := 0) (k := 2) (v := .slice (some ⟨g, 0, none⟩) t.cards.length cg) (spns_set (n := 0) (k := 1) (v := .int .i64 t.money) (spns_set (n := 0) (k := 0) (v := .int .i64 t.paper) HX.out.spns (by omega : g ≠ b6)) (by omega : g ≠ b6)) (by omega : g ≠ b6)
  have hle := ((HX.out.le.setCell (p := ⟨b6, 0, none⟩) (by show W.heap.size ≤ b6; omega) (.int .i64 t.paper)).setCell (p := ⟨b6, 1, none⟩) (by show W.heap.size ≤ b6; omega) (.int .i64 t.money)).setCell (p := ⟨b6, 2, none⟩) (by show W.heap.size ≤ b6; omega) (.slice (some ⟨g, 0, none⟩) t.cards.length cg)
  exact bodyPost_ret (res_48t rfl _ rfl rfl h3) rfl ⟨_, _, rfl, hsp, hle, fun _ gb off e => by cases e; omega⟩
end Go.Proofs.Ytjkhclijmcmdjaa
namespace Go.Proofs.Ytjkhclijmcmdjaa
open Go.RowKit
set_option linter.unusedVariables false
set_option linter.unusedSimpArgs false
noncomputable def aft3C : Code := (Try.f64.body.bind (fromRegion 3)).getD .skip
set_option maxRecDepth 100000 in
set_option maxHeartbeats 4000000 in
theorem aft3_buy {p : Prs} {A : PrsA} {s : Shf} {d : Dl} {a ad : Option Addr} {cs cd cg b3 b4 b5 b6 b8 g : Nat} {rest : List Value} {W w : World} (HX : Hid (RaX W b3 b4 b5 b6 b8 g p A s a cs d ad cd s cg rest w)) (HA : Hid (IsSpns W a s.cards ∧ IsInts W ad d.forme.slots ∧ p.valid = true ∧ s.cards.length = p.wanted.length)) (hS : SBd s 4611686018427387904) (hk : d.kind = 0) (hd : dealOk p d = true) {s0 s1 s2 s9 s10 s11 s12 s13 s14 s15 s16 s17 s18 s19 s20 s21 s22 s23 s24 s25 s26 s27 s28 s29 s30 s31 s32 s33 s34 s35 s36 s37 s38 s39 s40 s41 s42 s43 s44 s45 s46 s47 s48 s49 s50 s51 s52 s53 s54 s55 s56 s57 s58 s59 s60 s61 s62 s63 s64 s65 s66 s67 s68 s69 s70 s71 s72 s73 s74 s75 s76 s77 s78 s79 s80 s81 s82 s83 s84 s85 s86 s87 s88 s89 s90 s91 s92 s93 s94 s95 s96 s97 s98 s99 s100 s101 s102 s103 s104 s105 s106 s107 s108 s109 s110 s111 s112 s113 s114 s115 s116 s117 s118 s119 s120 s121 s122 s123 s124 s125 s126 s127 s128 s129 s130 s131 s132 s133 s134 s135 s136 s137 s138 s139 s140 s141 s142 s143 s144 s145 s146 : Value} :
    Code.wp Try.prog aft3C (bodyPost Try.prog Try.f64 (AftR W s (p.deal s d))) { tmps := #[s0,s1,s2,.pointer (some ⟨b3, 0, none⟩),.pointer (some ⟨b4, 0, none⟩),.pointer (some ⟨b5, 0, none⟩),.pointer (some ⟨b6, 0, none⟩),.bool false,.pointer (some ⟨b8, 0, none⟩),s9,s10,s11,s12,s13,s14,s15,s16,s17,s18,s19,s20,s21,s22,s23,s24,s25,s26,s27,s28,s29,s30,s31,s32,s33,s34,s35,s36,s37,s38,s39,s40,s41,s42,s43,s44,s45,s46,s47,s48,s49,s50,s51,s52,s53,s54,s55,s56,s57,s58,s59,s60,s61,s62,s63,s64,s65,s66,s67,s68,s69,s70,s71,s72,s73,s74,s75,s76,s77,s78,s79,s80,s81,s82,s83,s84,s85,s86,s87,s88,s89,s90,s91,s92,s93,s94,s95,s96,s97,s98,s99,s100,s101,s102,s103,s104,s105,s106,s107,s108,s109,s110,s111,s112,s113,s114,s115,s116,s117,s118,s119,s120,s121,s122,s123,s124,s125,s126,s127,s128,s129,s130,s131,s132,s133,s134,s135,s136,s137,s138,s139,s140,s141,s142,s143,s144,s145,s146],defers := [] } w := by
  have hbd : (1 ≤ d.many ∧ d.many ≤ 1048576) ∧ 0 ≤ d.pence ∧ d.pence ≤ 1099511627776 := by
    unfold dealOk at hd; rw [if_pos hk] at hd; simpa [inR] using hd
  have HE : Hid (p.deal s d = if s.money < d.pence then none else some ⟨s.paper + d.many, s.money - d.pence, s.cards⟩) := by
    show p.deal s d = _; unfold Prs.deal; rw [if_pos hk]
  conv => arg 2; whnf
  have hl := HX.out.lay
  obtain ⟨k0, k1, k2, k3, k4, k5⟩ := dl_cells HX.out.h5
  rw [hk] at k0
  have hp := hS.paper
  have hm := hS.money
  clear hS hd hk
  refine wp_seq_hid ?_
  intro K0 HK0
  obtain ⟨x0, x1, x2⟩ := sh_cells HX.out.h4
  by_cases hlt : s.money < d.pence
  · have hlt2 := Lib.hid hlt
    rw [Hid, if_pos hlt] at HE
    have HE := Lib.hid HE
    have hdc : decide (s.money < d.pence) = true := by simpa using hlt
    clear hlt
    · clear x0 x1 x2
      obtain ⟨x0, x1, x2⟩ := sh_cells HX.out.h4
      obtain ⟨y0, y1, y2⟩ := sh_cells HX.out.h6
      have fz : ∀ k, w.frozen? ⟨b6, k, none⟩ = false := fun k => frozen_of_heap HX.out.h6
      have f1 := fz 0
      have f2 := fz 1
      have f3 := fz 2
      clear fz
      go_wp2_with fail
      have h3 := heap_setCell_at (k := 2) (heap_setCell_at (k := 1) (heap_setCell_at (k := 0) HX.out.h6 (.int .i64 s.paper)) (.int .i64 s.money)) (.slice a s.cards.length cs)
      have hle := ((HX.out.le.setCell (p := ⟨b6, 0, none⟩) (by show W.heap.size ≤ b6; omega) (.int .i64 s.paper)).setCell (p := ⟨b6, 1, none⟩) (by show W.heap.size ≤ b6; omega) (.int .i64 s.money)).setCell (p := ⟨b6, 2, none⟩) (by show W.heap.size ≤ b6; omega) (.slice a s.cards.length cs)
      rw [HE.out]
      exact bodyPost_ret (res_48t rfl _ rfl rfl h3) rfl ⟨_, _, rfl, HA.out.1.mono hle, hle, fun h => by cases h⟩
  · have hlt2 := Lib.hid hlt
    rw [Hid, if_neg hlt] at HE
    have HE := Lib.hid HE
    have hdc : decide (s.money < d.pence) = false := by simpa using hlt
    obtain ⟨y0, y1, y2⟩ := sh_cells HX.out.h8
    have fz : ∀ k, w.frozen? ⟨b8, k, none⟩ = false := fun k => frozen_of_heap HX.out.h8
    have f1 := fz 0
    have f2 := fz 1
    have e1 : IntKind.i64.wrap (s.money - d.pence) = s.money - d.pence := IntWalk.i64_in _ (by omega)
    have e2 : IntKind.i64.wrap (s.paper + d.many) = s.paper + d.many := IntWalk.i64_in _ (by omega)
    clear fz hlt
    go_wp2_with fail
    have HY := Lib.hid ((HX.out.money (s.money - d.pence)).paper (s.paper + d.many))
    refine HK0.out _ _ ?_
    rw [HE.out]
    exact aft23 HY
end Go.Proofs.Ytjkhclijmcmdjaa
namespace Go.Proofs.Ytjkhclijmcmdjaa
open Go.RowKit
set_option linter.unusedVariables false
set_option linter.unusedSimpArgs false
set_option maxRecDepth 100000 in
set_option maxHeartbeats 4000000 in
theorem aft3_sell {p : Prs} {A : PrsA} {s : Shf} {d : Dl} {a ad : Option Addr} {cs cd cg b3 b4 b5 b6 b8 g : Nat} {rest : List Value} {W w : World} (HX : Hid (RaX W b3 b4 b5 b6 b8 g p A s a cs d ad cd s cg rest w)) (HA : Hid (IsSpns W a s.cards ∧ IsInts W ad d.forme.slots ∧ p.valid = true ∧ s.cards.length = p.wanted.length)) (hS : SBd s 4611686018427387904) (hk0 : d.kind ≠ 0) (hk1 : d.kind ≠ 1) (hd : dealOk p d = true) {s0 s1 s2 s9 s10 s11 s12 s13 s14 s15 s16 s17 s18 s19 s20 s21 s22 s23 s24 s25 s26 s27 s28 s29 s30 s31 s32 s33 s34 s35 s36 s37 s38 s39 s40 s41 s42 s43 s44 s45 s46 s47 s48 s49 s50 s51 s52 s53 s54 s55 s56 s57 s58 s59 s60 s61 s62 s63 s64 s65 s66 s67 s68 s69 s70 s71 s72 s73 s74 s75 s76 s77 s78 s79 s80 s81 s82 s83 s84 s85 s86 s87 s88 s89 s90 s91 s92 s93 s94 s95 s96 s97 s98 s99 s100 s101 s102 s103 s104 s105 s106 s107 s108 s109 s110 s111 s112 s113 s114 s115 s116 s117 s118 s119 s120 s121 s122 s123 s124 s125 s126 s127 s128 s129 s130 s131 s132 s133 s134 s135 s136 s137 s138 s139 s140 s141 s142 s143 s144 s145 s146 : Value} :
    Code.wp Try.prog aft3C (bodyPost Try.prog Try.f64 (AftR W s (p.deal s d))) { tmps := #[s0,s1,s2,.pointer (some ⟨b3, 0, none⟩),.pointer (some ⟨b4, 0, none⟩),.pointer (some ⟨b5, 0, none⟩),.pointer (some ⟨b6, 0, none⟩),.bool false,.pointer (some ⟨b8, 0, none⟩),s9,s10,s11,s12,s13,s14,s15,s16,s17,s18,s19,s20,s21,s22,s23,s24,s25,s26,s27,s28,s29,s30,s31,s32,s33,s34,s35,s36,s37,s38,s39,s40,s41,s42,s43,s44,s45,s46,s47,s48,s49,s50,s51,s52,s53,s54,s55,s56,s57,s58,s59,s60,s61,s62,s63,s64,s65,s66,s67,s68,s69,s70,s71,s72,s73,s74,s75,s76,s77,s78,s79,s80,s81,s82,s83,s84,s85,s86,s87,s88,s89,s90,s91,s92,s93,s94,s95,s96,s97,s98,s99,s100,s101,s102,s103,s104,s105,s106,s107,s108,s109,s110,s111,s112,s113,s114,s115,s116,s117,s118,s119,s120,s121,s122,s123,s124,s125,s126,s127,s128,s129,s130,s131,s132,s133,s134,s135,s136,s137,s138,s139,s140,s141,s142,s143,s144,s145,s146],defers := [] } w := by
  have hbd : ((0 ≤ d.view ∧ d.view ≤ (p.wanted.length : Int) - 1) ∧ (1 ≤ d.many ∧ d.many ≤ 1048576)) ∧ 0 ≤ d.pence ∧ d.pence ≤ 1099511627776 := by
    unfold dealOk at hd; rw [if_neg hk0, if_neg hk1] at hd; split at hd
    · simpa [inR, and_assoc] using hd
    · cases hd
  obtain ⟨v, hv⟩ : ∃ v : Nat, d.view = (v : Int) := ⟨d.view.toNat, by omega⟩
  have hv2 : d.view.toNat = v := by omega
  have HE : Hid (p.deal s d = if (gs s.cards v).lo < d.many then none
      else some ⟨s.paper, s.money + d.pence, s.cards.set v ⟨(gs s.cards v).lo - d.many, (gs s.cards v).hi - d.many⟩⟩) := by
    show p.deal s d = _; unfold Prs.deal; rw [if_neg hk0, if_neg hk1, hv2]
  have hlt : v < s.cards.length := by have := HA.out.2.2.2; omega
  conv => arg 2; whnf
  have hl := HX.out.lay
  obtain ⟨k0, k1, k2, k3, k4, k5⟩ := dl_cells HX.out.h5
  rw [hv] at k3
  have hc := hS.cards v hlt
  have hm := hS.money
  have b0 : (d.kind == 0) = false := by simpa using hk0
  have b1 : (d.kind == 1) = false := by simpa using hk1
  have HV := Lib.hid hv
  clear hS hd hk0 hk1 hv hv2
  obtain ⟨ba, off, hab, c0, c1⟩ := (HA.out.1.mono HX.out.le) v hlt
  subst hab
  obtain ⟨x0, x1, x2⟩ := sh_cells HX.out.h4
  have X2 := fun y : Aft w.heap.size w => cell_stays y.h x2
  have C0 := fun y : Aft w.heap.size w => cell_stays y.h c0
  have K3 := fun y : Aft w.heap.size w => cell_stays y.h k3
  have K4 := fun y : Aft w.heap.size w => cell_stays y.h k4
  refine wp_seq_hid ?_
  intro KO HKO
  go_upto_region 4 with fail
  obtain ⟨z, hz⟩ : ∃ z, gs s.cards v = z := ⟨_, rfl⟩
  obtain ⟨z1, z2⟩ := z
  rw [hz] at c0 c1 C0 hc
  simp only at c0 c1 C0 hc
  have HZ := Lib.hid hz
  clear hz
  by_cases hlo : z1 < d.many
  · have HE2 : Hid (p.deal s d = none) := by show p.deal s d = _; rw [HE.out, if_pos (by rw [HZ.out]; exact hlo)]
    have hdc : decide (z1 < d.many) = true := by simpa using hlo
    clear HE hlo
    refine wp_region_aft mixed (by kernel_rfl) ?_
    repeat (go_big_quiet_step (fail))
    refine wpQuiet_nil ?_
    rintro _ ⟨y, rfl⟩
    have HY := Lib.hid (HX.out.mono y.h)
    clear X2 C0 K3 K4 k0 k1 k2 k3 k4 k5 x0 x1 x2 c0 c1 HX
    revert HY
    generalize y.v = w2
    intro HX
    · have HE := HE2
      obtain ⟨x0, x1, x2⟩ := sh_cells HX.out.h4
      obtain ⟨y0, y1, y2⟩ := sh_cells HX.out.h6
      have fz : ∀ k, w2.frozen? ⟨b6, k, none⟩ = false := fun k => frozen_of_heap HX.out.h6
      have f1 := fz 0
      have f2 := fz 1
      have f3 := fz 2
      clear fz
      go_wp2_with fail
      have h3 := heap_setCell_at (k := 2) (heap_setCell_at (k := 1) (heap_setCell_at (k := 0) HX.out.h6 (.int .i64 s.paper)) (.int .i64 s.money)) (.slice (some ⟨ba, off, none⟩) s.cards.length cs)
      have hle := ((HX.out.le.setCell (p := ⟨b6, 0, none⟩) (by show W.heap.size ≤ b6; omega) (.int .i64 s.paper)).setCell (p := ⟨b6, 1, none⟩) (by show W.heap.size ≤ b6; omega) (.int .i64 s.money)).setCell (p := ⟨b6, 2, none⟩) (by show W.heap.size ≤ b6; omega) (.slice (some ⟨ba, off, none⟩) s.cards.length cs)
      rw [HE.out]
      exact bodyPost_ret (res_48t rfl _ rfl rfl h3) rfl ⟨_, _, rfl, HA.out.1.mono hle, hle, fun h => by cases h⟩
  · have HE2 : Hid (p.deal s d = some ⟨s.paper, s.money + d.pence, s.cards.set v ⟨z1 - d.many, z2 - d.many⟩⟩) := by show p.deal s d = _; rw [HE.out, if_neg (by rw [HZ.out]; exact hlo), HZ.out]
    have hdc : decide (z1 < d.many) = false := by simpa using hlo
    clear HE hlo
    refine wp_region_aft mixed (by kernel_rfl) ?_
    repeat (go_big_quiet_step (fail))
    refine wpQuiet_nil ?_
    rintro _ ⟨y, rfl⟩
    have HY := Lib.hid (HX.out.mono y.h)
    clear X2 C0 K3 K4 k0 k1 k2 k3 k4 k5 x0 x1 x2 c0 c1 HX
    revert HY
    generalize y.v = w2
    intro HX
    have HVD := HX.out.le
    obtain ⟨k0, k1, k2, k3, k4, k5⟩ := dl_cells HX.out.h5
    rw [HV.out] at k3
    obtain ⟨x0, x1, x2⟩ := sh_cells HX.out.h4
    obtain ⟨y0, y1, y2⟩ := sh_cells HX.out.h8
    have f1 : w2.frozen? ⟨b8, 1, none⟩ = false := frozen_of_heap HX.out.h8
    have e1 : IntKind.i64.wrap (s.money + d.pence) = s.money + d.pence := IntWalk.i64_in _ (by omega)
    go_upto_region 7 with fail
    have HY := Lib.hid (HX.out.money (s.money + d.pence))
    clear k0 k1 k2 k3 k4 k5 x0 x1 x2 y0 y1 y2 f1 HX HVD hdc
    revert HY
    generalize w2.setCell ⟨b8, 1, none⟩ (.int .i64 (s.money + d.pence)) = w3
    intro HX
    have Y2 := fun y : Aft w3.heap.size w3 => cell_stays y.h (sh_cells HX.out.h8).2.2
    have X2 := fun y : Aft w3.heap.size w3 => cell_stays y.h (sh_cells HX.out.h4).2.2
    have K3 := fun y : Aft w3.heap.size w3 => cell_stays y.h (dl_cells HX.out.h5).c3
    rw [HV.out] at K3
    have K4 := fun y : Aft w3.heap.size w3 => cell_stays y.h (dl_cells HX.out.h5).c4
    obtain ⟨ba', off', hab, c0, c1⟩ := (HA.out.1.mono HX.out.le) v hlt
    cases hab
    rw [HZ.out] at c0 c1
    simp only at c0 c1
    have C0 := fun y : Aft w3.heap.size w3 => cell_stays y.h c0
    have C1 := fun y : Aft w3.heap.size w3 => cell_stays y.h c1
    have v1 : IntKind.i64.wrap (z1 - d.many) = z1 - d.many := IntWalk.i64_in _ (by omega)
    have v2 : IntKind.i64.wrap (z2 - d.many) = z2 - d.many := IntWalk.i64_in _ (by omega)
    clear c0 c1
    refine wp_region_aft_tail 26 mixed (by kernel_rfl) ?_
    simp only [List.take_succ_cons, List.take_zero, List.drop_succ_cons, List.drop_zero]
    repeat (go_big_quiet_step (fail))
    refine wpQuiet_nil ?_
    rintro _ ⟨y, rfl⟩
    have HY := Lib.hid (HX.out.mono y.h)
    clear Y2 X2 K3 K4 C0 C1 HX
    revert HY
    generalize y.v = w4
    intro HX
    have g0 := (HX.out.clo hlt).1
    have g1 := (HX.out.clo hlt).2
    have f0 : w4.frozen? ⟨g, v * 2, none⟩ = false := frozen_of_heap HX.out.k
    have f1 : w4.frozen? ⟨g, v * 2 + 1, none⟩ = false := frozen_of_heap HX.out.k
    go_wp2_with fail
    have HY := Lib.hid (HX.out.cards hlt ⟨z1 - d.many, z2 - d.many⟩)
    refine HKO.out _ _ ?_
    rw [HE2.out]
    exact aft23 HY
end Go.Proofs.Ytjkhclijmcmdjaa
namespace Go.Proofs.Ytjkhclijmcmdjaa
open Go.RowKit
set_option linter.unusedVariables false
set_option linter.unusedSimpArgs false
set_option maxRecDepth 100000 in
set_option maxHeartbeats 4000000 in
theorem aft3_print {p : Prs} {A : PrsA} {s : Shf} {d : Dl} {a ad : Option Addr} {cs cd cg b3 b4 b5 b6 b8 g : Nat} {rest : List Value} {W w : World} (HX : Hid (RaX W b3 b4 b5 b6 b8 g p A s a cs d ad cd s cg rest w)) (HA : Hid (IsSpns W a s.cards ∧ IsInts W ad d.forme.slots ∧ p.valid = true ∧ s.cards.length = p.wanted.length)) (hS : SBd s 4611686018427387904) (hk1 : d.kind = 1) (hd : dealOk p d = true) {s0 s1 s2 s9 s10 s11 s12 s13 s14 s15 s16 s17 s18 s19 s20 s21 s22 s23 s24 s25 s26 s27 s28 s29 s30 s31 s32 s33 s34 s35 s36 s37 s38 s39 s40 s41 s42 s43 s44 s45 s46 s47 s48 s49 s50 s51 s52 s53 s54 s55 s56 s57 s58 s59 s60 s61 s62 s63 s64 s65 s66 s67 s68 s69 s70 s71 s72 s73 s74 s75 s76 s77 s78 s79 s80 s81 s82 s83 s84 s85 s86 s87 s88 s89 s90 s91 s92 s93 s94 s95 s96 s97 s98 s99 s100 s101 s102 s103 s104 s105 s106 s107 s108 s109 s110 s111 s112 s113 s114 s115 s116 s117 s118 s119 s120 s121 s122 s123 s124 s125 s126 s127 s128 s129 s130 s131 s132 s133 s134 s135 s136 s137 s138 s139 s140 s141 s142 s143 s144 s145 s146 : Value} :
    Code.wp Try.prog aft3C (bodyPost Try.prog Try.f64 (AftR W s (p.deal s d))) { tmps := #[s0,s1,s2,.pointer (some ⟨b3, 0, none⟩),.pointer (some ⟨b4, 0, none⟩),.pointer (some ⟨b5, 0, none⟩),.pointer (some ⟨b6, 0, none⟩),.bool false,.pointer (some ⟨b8, 0, none⟩),s9,s10,s11,s12,s13,s14,s15,s16,s17,s18,s19,s20,s21,s22,s23,s24,s25,s26,s27,s28,s29,s30,s31,s32,s33,s34,s35,s36,s37,s38,s39,s40,s41,s42,s43,s44,s45,s46,s47,s48,s49,s50,s51,s52,s53,s54,s55,s56,s57,s58,s59,s60,s61,s62,s63,s64,s65,s66,s67,s68,s69,s70,s71,s72,s73,s74,s75,s76,s77,s78,s79,s80,s81,s82,s83,s84,s85,s86,s87,s88,s89,s90,s91,s92,s93,s94,s95,s96,s97,s98,s99,s100,s101,s102,s103,s104,s105,s106,s107,s108,s109,s110,s111,s112,s113,s114,s115,s116,s117,s118,s119,s120,s121,s122,s123,s124,s125,s126,s127,s128,s129,s130,s131,s132,s133,s134,s135,s136,s137,s138,s139,s140,s141,s142,s143,s144,s145,s146],defers := [] } w := by
  have hF : fmeOk p d.forme = true := by unfold dealOk at hd; rw [if_neg (by omega), if_pos hk1] at hd; exact hd
  have ht := (fmeR_of hF (v := 0) (by have := wanted_of HA.out.2.2.1; omega)).times
  have hmk := (pence_of HA.out.2.2.1).1
  have hw4 := (wanted_of HA.out.2.2.1).2
  have HF := Lib.hid (And.intro hF (spoil_of HA.out.2.2.1))
  have hn := HA.out.2.2.2
  have HE : Hid (p.deal s d = if s.money < p.make ∨ s.paper < d.forme.times then none
      else some ⟨s.paper - d.forme.times, s.money - p.make, addK p d.forme s.cards s.cards.length⟩) := by
    show p.deal s d = _; unfold Prs.deal; rw [if_neg (by omega), if_pos hk1, addK_all]
  have HSB := Lib.hid hS
  have hp2 := hS.paper
  have hm2 := hS.money
  conv => arg 2; whnf
  have hl := HX.out.lay
  obtain ⟨k0, k1, k2, k3, k4, k5⟩ := dl_cells HX.out.h5
  rw [hk1] at k0
  obtain ⟨x0, x1, x2⟩ := sh_cells HX.out.h4
  have m4 := (prs_cells HX.out.h3).c4
  have hn4 : s.cards.length ≤ 4 := by omega
  have HN := Lib.hid hn
  clear hS hd hk1 hF hn
  refine wp_seq_hid ?_
  intro KO HKO
  obtain ⟨e1, he1⟩ : ∃ e, decide (s.money < p.make) = e := ⟨_, rfl⟩
  obtain ⟨e2, he2⟩ : ∃ e, decide (s.paper < d.forme.times) = e := ⟨_, rfl⟩
  have HEE : Hid (p.deal s d = if (e1 || e2) = true then none else some ⟨s.paper - d.forme.times, s.money - p.make, addK p d.forme s.cards s.cards.length⟩) := by
    show p.deal s d = _
    rw [HE.out, ← he1, ← he2]
    by_cases x1 : s.money < p.make
    · rw [if_pos (Or.inl x1), if_pos (by simp [x1])]
    · by_cases x2 : s.paper < d.forme.times
      · rw [if_pos (Or.inr x2), if_pos (by simp [x2])]
      · rw [if_neg (by omega), if_neg (by simp [x1, x2])]
  clear HE
  cases e1
  case true =>
    have HE : Hid (p.deal s d = none) := by show p.deal s d = _; rw [HEE.out]; rfl
    clear x2
    obtain ⟨_, _, x2⟩ := sh_cells HX.out.h4
    obtain ⟨y0, y1, y2⟩ := sh_cells HX.out.h6
    have fz : ∀ k, w.frozen? ⟨b6, k, none⟩ = false := fun k => frozen_of_heap HX.out.h6
    have f1 := fz 0
    have f2 := fz 1
    have f3 := fz 2
    clear fz
    go_wp2_with fail
    have h3 := heap_setCell_at (k := 2) (heap_setCell_at (k := 1) (heap_setCell_at (k := 0) HX.out.h6 (.int .i64 s.paper)) (.int .i64 s.money)) (.slice a s.cards.length cs)
    have hle := ((HX.out.le.setCell (p := ⟨b6, 0, none⟩) (by show W.heap.size ≤ b6; omega) (.int .i64 s.paper)).setCell (p := ⟨b6, 1, none⟩) (by show W.heap.size ≤ b6; omega) (.int .i64 s.money)).setCell (p := ⟨b6, 2, none⟩) (by show W.heap.size ≤ b6; omega) (.slice a s.cards.length cs)
    rw [HE.out]
    exact bodyPost_ret (res_48t rfl _ rfl rfl h3) rfl ⟨_, _, rfl, HA.out.1.mono hle, hle, fun h => by cases h⟩
  cases e2
  case true =>
    have HE : Hid (p.deal s d = none) := by show p.deal s d = _; rw [HEE.out]; rfl
    clear x2
    obtain ⟨_, _, x2⟩ := sh_cells HX.out.h4
    obtain ⟨y0, y1, y2⟩ := sh_cells HX.out.h6
    have fz : ∀ k, w.frozen? ⟨b6, k, none⟩ = false := fun k => frozen_of_heap HX.out.h6
    have f1 := fz 0
    have f2 := fz 1
    have f3 := fz 2
    clear fz
    go_wp2_with fail
    have h3 := heap_setCell_at (k := 2) (heap_setCell_at (k := 1) (heap_setCell_at (k := 0) HX.out.h6 (.int .i64 s.paper)) (.int .i64 s.money)) (.slice a s.cards.length cs)
    have hle := ((HX.out.le.setCell (p := ⟨b6, 0, none⟩) (by show W.heap.size ≤ b6; omega) (.int .i64 s.paper)).setCell (p := ⟨b6, 1, none⟩) (by show W.heap.size ≤ b6; omega) (.int .i64 s.money)).setCell (p := ⟨b6, 2, none⟩) (by show W.heap.size ≤ b6; omega) (.slice a s.cards.length cs)
    rw [HE.out]
    exact bodyPost_ret (res_48t rfl _ rfl rfl h3) rfl ⟨_, _, rfl, HA.out.1.mono hle, hle, fun h => by cases h⟩
  have HE : Hid (p.deal s d = some ⟨s.paper - d.forme.times, s.money - p.make, addK p d.forme s.cards s.cards.length⟩) := by show p.deal s d = _; rw [HEE.out]; rfl
  obtain ⟨y0, y1, y2⟩ := sh_cells HX.out.h8
  have fz : ∀ k, w.frozen? ⟨b8, k, none⟩ = false := fun k => frozen_of_heap HX.out.h8
  have f1 := fz 0
  have f2 := fz 1
  have e1 : IntKind.i64.wrap (s.money - p.make) = s.money - p.make := IntWalk.i64_in _ (by omega)
  have e2 : IntKind.i64.wrap (s.paper - d.forme.times) = s.paper - d.forme.times := IntWalk.i64_in _ (by omega)
  clear fz
  go_upto_region 18 with fail
  have HY : Hid (RaX W b3 b4 b5 b6 b8 g p A s a cs d ad cd ⟨s.paper - d.forme.times, s.money - p.make, addK p d.forme s.cards 0⟩ cg rest ((w.setCell ⟨b8, 1, none⟩ (.int .i64 (s.money - p.make))).setCell ⟨b8, 0, none⟩ (.int .i64 (s.paper - d.forme.times)))) := by
    have h := (HX.out.money (s.money - p.make)).paper (s.paper - d.forme.times)
    rw [addK_zero]; exact h
  clear k0 k1 k2 k3 k4 k5 x0 x1 x2 y0 y1 y2 f1 f2 m4 HX e1 e2 he1 he2 HEE hp2 hm2
  revert HY
  generalize (w.setCell ⟨b8, 1, none⟩ (.int .i64 (s.money - p.make))).setCell ⟨b8, 0, none⟩ (.int .i64 (s.paper - d.forme.times)) = w3
  intro HY
  go_wp2_with fail
  go_loopw [9] (fun i wr => ∃ k : Nat, k ≤ p.wanted.length ∧ i = .int .i64 k ∧ Hid (RaX W b3 b4 b5 b6 b8 g p A s a cs d ad cd ⟨s.paper - d.forme.times, s.money - p.make, addK p d.forme s.cards k⟩ cg rest wr)) (fun i _ => p.wanted.length - (intOf i).toNat)
  case atStart => exact ⟨0, by omega, rfl, HY.out⟩
  case round =>
    obtain ⟨k, hk, rfl, HW⟩ := hrel
    have z6 := (prs_cells HW.out.h3).c6
    by_cases hlw : k < p.wanted.length
    · have hlk : k < s.cards.length := by have := HN.out; omega
      have FR := fmeR_of HF.out.1 (v := k) (by have := HN.out; omega)
      have h2 := gives_bd HF.out.2 FR
      have hc := HSB.out.cards k hlk
      have hlk2 : k < (addK p d.forme s.cards k).length := by rw [addK_len]; exact hlk
      have HL2 := Lib.hid hlk2
      obtain ⟨m0, m1, m2, m3, m4, m5, m6, m7, m8, m9⟩ := prs_cells HW.out.h3
      have K1 := (dl_cells HW.out.h5).c1
      have K2 := (dl_cells HW.out.h5).c2
      have HSU := addK_succ (p := p) (f := d.forme) hlk
      have HGE := gives_eq p d.forme k
      rw [HGE] at HSU
      simp only at HSU
      have HC := Lib.hid (rgives48 (p := p) (A := A) (c := cd) HF.out.2 (HA.out.2.1.mono HW.out.le) FR)
      rw [HGE] at HC
      have HSUh := Lib.hid HSU
      clear HGE FR HSU hlk2
      obtain ⟨ba, off, hab, c0, c1⟩ := (HA.out.1.mono HW.out.le) k hlk
      have HAB := Lib.hid hab
      clear hab
      obtain ⟨⟨z1, z2⟩, hz⟩ : ∃ z, gs s.cards k = z := ⟨_, rfl⟩
      obtain ⟨u1, hu1⟩ : ∃ u, gi d.forme.slots k * (p.good d.forme.times).lo = u := ⟨_, rfl⟩
      obtain ⟨u2, hu2⟩ : ∃ u, gi d.forme.slots k * (p.good d.forme.times).hi = u := ⟨_, rfl⟩
      rw [hz] at HSUh hc c0 c1
      rw [hu1, hu2] at HSUh HC h2
      have HZ2 := Lib.hid hz
      clear hz hu1 hu2
      have hc : (-4611686018427387904 ≤ z1 ∧ z1 ≤ 4611686018427387904) ∧ -4611686018427387904 ≤ z2 ∧ z2 ≤ 4611686018427387904 := hc
      simp only at c0 c1
      have HC0 := Lib.hid (And.intro c0 c1)
      have v1 : IntKind.i64.wrap (z1 + u1) = z1 + u1 := IntWalk.i64_in _ (by omega)
      have v2 : IntKind.i64.wrap (z2 + u2) = z2 + u2 := IntWalk.i64_in _ (by omega)
      clear c0 c1
      go_upto_region 21 with fail
      go_wp2_with fail
      refine HC.out.mono ?_
      rintro e w5 ⟨rfl, hb⟩
      go_upto_region 22 with fail
      have q6 := World.alloc_heap_new w5 (.cells #[.int .i64 u1, .int .i64 u2] 23)
      have hb6 : Below w5.heap.size w5 (w5.alloc (.cells #[.int .i64 u1, .int .i64 u2] 23)) := (Below.refl _ w5).alloc (Nat.le_refl _) _
      have HX6 := Lib.hid (And.intro ((HW.out.mono hb).mono hb6) q6)
      clear q6 hb6 hb m0 m1 m2 m3 m4 m5 m6 m7 m8 m9 K1 K2 z6 HC
      revert HX6
      generalize w5.alloc (.cells #[.int .i64 u1, .int .i64 u2] 23) = w6
      generalize w5.heap.size = b10
      intro HX6
      have y2 := (sh_cells HX6.out.1.h8).2.2
      simp only [addK_len] at y2
      have Y2 := fun y : Aft w6.heap.size w6 => cell_stays y.h y2
      clear y2
      have X2 := fun y : Aft w6.heap.size w6 => cell_stays y.h (sh_cells HX6.out.1.h4).2.2
      rw [HAB.out] at X2
      obtain ⟨ba', off', hab, c0, c1⟩ := (HA.out.1.mono HX6.out.1.le) k hlk
      rw [HAB.out] at hab
      cases hab
      rw [HZ2.out] at c0 c1
      simp only at c0 c1
      have C0 := fun y : Aft w6.heap.size w6 => cell_stays y.h c0
      have C1 := fun y : Aft w6.heap.size w6 => cell_stays y.h c1
      have U0 : ∀ y : Aft w6.heap.size w6, y.v.cell? ⟨b10, 0, none⟩ = some (.int .i64 u1) := fun y => cell_stays y.h (by rw [cell_of_heap HX6.out.2]; rfl)
      have U1 : ∀ y : Aft w6.heap.size w6, y.v.cell? ⟨b10, 1, none⟩ = some (.int .i64 u2) := fun y => cell_stays y.h (by rw [cell_of_heap HX6.out.2]; rfl)
      clear c0 c1
      refine wp_region_aft_tail 23 mixed (by kernel_rfl) ?_
      simp only [List.take_succ_cons, List.take_zero, List.drop_succ_cons, List.drop_zero]
      repeat (go_big_quiet_step (fail))
      refine wpQuiet_nil ?_
      rintro _ ⟨y, rfl⟩
      have HY7 := Lib.hid (HX6.out.1.mono y.h)
      clear Y2 X2 C0 C1 U0 U1 HX6
      revert HY7
      generalize y.v = w7
      intro HX7
      have g0 := (HX7.out.clo HL2.out).1
      have g1 := (HX7.out.clo HL2.out).2
      have f0 : w7.frozen? ⟨g, k * 2, none⟩ = false := frozen_of_heap HX7.out.k
      have f1 : w7.frozen? ⟨g, k * 2 + 1, none⟩ = false := frozen_of_heap HX7.out.k
      go_wp2_with fail
      have HY8 := Lib.hid (HX7.out.cards HL2.out ⟨z1 + u1, z2 + u2⟩)
      clear g0 g1 f0 f1
      go_roundw
      case rel => exact ⟨k + 1, by omega, by go_num, by rw [HSUh.out]; exact HY8.out⟩
      case measure => simp [intOf]; omega
    · have hke : k = s.cards.length := by have := HN.out; omega
      have HKE := Lib.hid hke
      clear hke
      go_wp2_with fail
      refine HKO.out _ _ ?_
      rw [HE.out]
      rw [HKE.out] at HW
      exact aft23 HW
end Go.Proofs.Ytjkhclijmcmdjaa
namespace Go.Proofs.Ytjkhclijmcmdjaa
open Go.RowKit
set_option linter.unusedVariables false
set_option linter.unusedSimpArgs false
theorem own_tail {w : World} {B : Nat} {v : Value} {l : List Spn} (h : w.ownsRow B 23 2 v l.length (spV l)) (h0 : 0 < l.length) :
    ∃ g cap rest, v = .slice (some ⟨g, 0, none⟩) l.length cap ∧ B ≤ g ∧ w.heap[g]? = some (.cells (spV l ++ rest).toArray 23 (0, 0)) := by
  have hv := h.1
  rcases h.2 with ⟨_, h1⟩ | ⟨g, cap, cur, hg, hb, hh, _, _, _, ht⟩
  · omega
  · refine ⟨g, cap, cur.toList.drop (l.length * 2), hg, hb, ?_⟩
    rw [← ht, List.take_append_drop, Array.toArray_toList]; exact hh
theorem spns_news {w : World} {a : Option Addr} {l : List Spn} (h : IsSpns w a l) : l.length ≠ 0 → ∃ ad, a = some ad ∧ ∀ j u, (spV l)[j]? = some u → w.cell? (ad.add j) = some u := by
  intro h0
  obtain ⟨b, off, rfl, _, _⟩ := h 0 (by omega)
  refine ⟨_, rfl, fun j v hv => ?_⟩
  have e : (⟨b, off, none⟩ : Addr).add j = ⟨b, off + j, none⟩ := by unfold Addr.add; split <;> simp_all
  rw [e]
  obtain ⟨i, hi, h1 | h1⟩ := spV_any hv
  · obtain ⟨b', off', he, h2, h3⟩ := h i hi
    cases he
    rw [h1.1, h1.2]; exact h2
  · obtain ⟨b', off', he, h2, h3⟩ := h i hi
    cases he
    rw [h1.1, h1.2, ← Nat.add_assoc]; exact h3
/-- A copy of some spans, behind an empty row. -/
theorem append_spns {w : World} {a : Option Addr} {l : List Spn} {c : Nat} (ha : IsSpns w a l) (hl : l.length ≤ 1000) (h0 : 0 < l.length) :
    ∃ g cap rest w', (Builtin.append_ #[33, 33] 33 #[.slice (some ⟨w.heap.size, 0, none⟩) 0 0, .slice a l.length c]).run Try.prog (w.alloc (.cells #[] 23)) = .ok (.slice (some ⟨g, 0, none⟩) l.length cap) w' ∧ w.heap.size ≤ g ∧ w'.heap[g]? = some (.cells (spV l ++ rest).toArray 23 (0, 0)) ∧ Below w.heap.size w w' := by
  obtain ⟨i0, hi0, hz0, hz1, hz2⟩ := info_parts2 infoS
  have hb : Below w.heap.size w (w.alloc (.cells #[] 23)) := (Below.refl _ w).alloc (Nat.le_refl _) _
  have ho : (w.alloc (.cells #[] 23)).ownsRow w.heap.size 23 2 (.slice (some ⟨w.heap.size, 0, none⟩) 0 0) 0 [] := World.ownsRow_made (e := 23) (size := 2) w #[] 0 (base := w.heap.size) (Nat.le_refl _) (by simp [maxLen]) (by simp)
  obtain ⟨v', w', hr, hn, hg, hor⟩ := append_rows_at (P := Try.prog) (w := w.alloc (.cells #[] 23)) w.heap.size 33 33 23 i0 _ 2 16 Try.underlying33 hi0 hz0 hz1 hz2 rfl (by decide) _ 0 [] ho a l.length c (spV l) (spV_len l) (spns_news (ha.mono hb)) (fun u hu => spV_one u hu) (by simp [maxLen]; omega) (by omega) hb.size
  rw [Nat.zero_add, List.nil_append] at hn
  obtain ⟨g, cap, rest, rfl, hge, hh⟩ := own_tail hn h0
  exact ⟨g, cap, rest, w', hr, hge, hh, hb.grown hg hb.size (fun k hk => (ho.lt k hk).1)⟩
set_option maxRecDepth 100000 in
set_option maxHeartbeats 4000000 in
theorem rafter64 {p : Prs} {A : PrsA} {s : Shf} {d : Dl} {a ad : Option Addr} {cs cd : Nat} {w : World} (hs : IsSpns w a s.cards) (hf : IsInts w ad d.forme.slots) (hV : p.valid = true) (hd : dealOk p d = true) (hn : s.cards.length = p.wanted.length) (hS : SBd s 4611686018427387904) :
    Calls Try.prog 64 #[p.v A, .agg #[.int .i64 s.paper, .int .i64 s.money, .slice a s.cards.length cs], d.v ad cd] w (AftR w s (p.deal s d)) := by
  have HX := Lib.hid (alloc4 w (p.arr A) #[.int .i64 s.paper, .int .i64 s.money, .slice a s.cards.length cs] (d.arr ad cd) #[.int .i64 0, .int .i64 0, .slice none 0 0] 27 48 62 48 _ rfl)
  have HS := Lib.hid (And.intro hs (And.intro hf (And.intro hV (And.intro hd (And.intro hn hS)))))
  have hw4 := wanted_of hV
  have hn4 : 1 ≤ s.cards.length ∧ s.cards.length ≤ 4 := by omega
  have hsz : Hid (((((w.alloc (.cells (p.arr A) 27)).alloc (.cells #[.int .i64 s.paper, .int .i64 s.money, .slice a s.cards.length cs] 48)).alloc (.cells (d.arr ad cd) 62)).alloc (.cells #[.int .i64 0, .int .i64 0, .slice none 0 0] 48)).heap.size = w.heap.size + 4) := by show _ = _; simp
  clear hs hf hV hd hn hS
  go_enter Try.func64, Try.ntmps64
  refine wp_seq_hid ?_
  intro K0 HK0
  go_wp2_with fail
  refine HK0.out _ _ ?_
  clear HK0 K0
  revert HX hsz
  generalize (((w.alloc (.cells (p.arr A) 27)).alloc (.cells #[.int .i64 s.paper, .int .i64 s.money, .slice a s.cards.length cs] 48)).alloc (.cells (d.arr ad cd) 62)).alloc (.cells #[.int .i64 0, .int .i64 0, .slice none 0 0] 48) = w1
  generalize h6 : w.heap.size + 3 = b6
  generalize h5 : w.heap.size + 2 = b5
  generalize h4 : w.heap.size + 1 = b4
  generalize h3 : w.heap.size = b3
  intro HX hsz
  have HL := Lib.hid (And.intro h3 (And.intro h4 (And.intro h5 h6)))
  clear h3 h4 h5 h6
  obtain ⟨x0, x1, x2⟩ := sh_cells HX.out.2.1
  refine wp_seq_hid ?_
  intro K1 HK1
  go_wp2_with fail
  refine HK1.out _ _ ?_
  clear HK1 K1
  have q8 := World.alloc_heap_new w1 (.cells #[.int .i64 s.paper, .int .i64 s.money, .slice a s.cards.length cs] 48)
  have hb8 : Below w1.heap.size w1 (w1.alloc (.cells #[.int .i64 s.paper, .int .i64 s.money, .slice a s.cards.length cs] 48)) := (Below.refl _ _).alloc (Nat.le_refl _) _
  have HY := Lib.hid (And.intro q8 hb8)
  clear q8 hb8 x0 x1 x2
  revert HY
  generalize w1.alloc (.cells #[.int .i64 s.paper, .int .i64 s.money, .slice a s.cards.length cs] 48) = w2
  generalize e8 : w1.heap.size = b8 at hsz ⊢
  intro HY
  have HE8 := Lib.hid e8
  clear e8
  have HB2 : Hid (Below w.heap.size w w2) := by
    have h1 := HX.out.2.2.2.2
    have h2 := HY.out.2
    rw [← HL.out.1] at h1
    exact h1.trans (h2.mono (by have := HL.out; have := hsz.out; omega))
  obtain ⟨g, cap, rest, w3, hr, hge, hk, hb3⟩ := append_spns (c := cs) (HS.out.1.mono HB2.out) (by omega) (by omega)
  have HR := Lib.hid (And.intro hge (And.intro hk hb3))
  have HRUN := Lib.hid hr
  have x2 : w2.cell? ⟨b4, 2, none⟩ = some (.slice a s.cards.length cs) := by
    have h1 := (sh_cells HX.out.2.1).2.2
    have h2 := HY.out.2
    rw [← HE8.out] at h2
    exact cell_stays h2 h1
  have hb9 : Below w2.heap.size w2 (w2.alloc (.cells #[] 23)) := (Below.refl _ _).alloc (Nat.le_refl _) _
  have x3 := cell_stays hb9 x2
  have hb8 : b8 < w2.heap.size := heap_lt HY.out.1
  have HK8 : Hid (w3.heap[b8]? = some (.cells #[.int .i64 s.paper, .int .i64 s.money, .slice a s.cards.length cs] 48 (0, 0))) := (hb3.block _ hb8).trans HY.out.1
  have c8 : w3.cell? ⟨b8, 2, none⟩ = some (.slice a s.cards.length cs) := (sh_cells HK8.out).2.2
  have f8 : w3.frozen? ⟨b8, 2, none⟩ = false := frozen_of_heap HK8.out
  clear hr hge hk hb3 hb9 hb8
  refine wp_seq_hid ?_
  intro K2 HK2
  go_wp2_with (at_builtin; refine wpList_append_run rfl (.tmp 12) (.tmp 14) 33 rfl _ _ _ _ rfl rfl HRUN.out ?_)
  refine HK2.out _ _ ?_
  clear HK2 K2 x2 x3 c8 f8 HRUN
  have HZ : Hid (RaX w b3 b4 b5 b6 b8 g p A s a cs d ad cd s cap rest (w3.setCell ⟨b8, 2, none⟩ (.slice (some ⟨g, 0, none⟩) s.cards.length cap))) := by
    obtain ⟨l1, l2, l3, l4⟩ := HL.out
    have l5 := hsz.out
    have l6 := HR.out.1
    have l7 := heap_lt HY.out.1
    have h2 := HY.out.2
    rw [← HE8.out] at h2
    have h3 := h2.trans (HR.out.2.2.mono h2.size)
    have h4 : ∀ k, k < b8 → ∀ o, w1.heap[k]? = some o → (w3.setCell ⟨b8, 2, none⟩ (.slice (some ⟨g, 0, none⟩) s.cards.length cap)).heap[k]? = some o := fun k hk o ho =>
      (Below.heap_setCell _ _ _ _ (by show k ≠ b8; omega)).trans ((h3.block _ (heap_lt ho)).trans ho)
    exact ⟨h4 _ (by omega) _ HX.out.1, h4 _ (by omega) _ HX.out.2.1, h4 _ (by omega) _ HX.out.2.2.1, h4 _ (by omega) _ HX.out.2.2.2.1, by simpa using heap_setCell_at (k := 2) HK8.out (.slice (some ⟨g, 0, none⟩) s.cards.length cap),
      (Below.heap_setCell _ _ _ _ (by show g ≠ b8; omega)).trans HR.out.2.1, (HB2.out.trans (HR.out.2.2.mono HB2.out.size)).setCell (p := ⟨b8, 2, none⟩) (by show w.heap.size ≤ b8; omega) _, by omega⟩
  clear HX HY HE8 HR HK8 HB2 hsz HL
  revert HZ
  generalize w3.setCell ⟨b8, 2, none⟩ (.slice (some ⟨g, 0, none⟩) s.cards.length cap) = w4
  intro HZ
  have HA : Hid (IsSpns w a s.cards ∧ IsInts w ad d.forme.slots ∧ p.valid = true ∧ s.cards.length = p.wanted.length) := ⟨HS.out.1, HS.out.2.1, HS.out.2.2.1, HS.out.2.2.2.2.1⟩
  by_cases hk0 : d.kind = 0
  · exact aft3_buy HZ HA HS.out.2.2.2.2.2 hk0 HS.out.2.2.2.1
  · by_cases hk1 : d.kind = 1
    · exact aft3_print HZ HA HS.out.2.2.2.2.2 hk1 HS.out.2.2.2.1
    · exact aft3_sell HZ HA HS.out.2.2.2.2.2 hk0 hk1 HS.out.2.2.2.1
end Go.Proofs.Ytjkhclijmcmdjaa
