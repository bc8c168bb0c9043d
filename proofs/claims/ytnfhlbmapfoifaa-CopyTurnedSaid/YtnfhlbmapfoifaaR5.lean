/- The reference's largest: what can be of a card, by all that come from it. -/
import Derived.Test.YtnfhlbmapfoifaaR4
namespace Go.Proofs.Ytnfhlbmapfoifaa
open Go.RowKit
set_option linter.unusedVariables false

def whN (what : Bool) : Int := if what then 1 else 0
structure LarW (w : World) (p : Prs) (b off cap bx b8 ob mb : Nat) (wl : List Int) (aw : Option Addr) (own : Int × Int) (by_ : Int × Int) : Prop where
  ha : IsPrts w (some ⟨b, off, none⟩) p.cards
  hi : IsInts w aw wl
  h8 : w.heap[b8]? = some (.cells #[.int .i64 0, .int .i64 0] 24 (0, 0))
  ho : w.heap[ob]? = some (.cells #[.int .i64 own.1, .int .i64 own.2] 24 (0, 0))
  hm : w.heap[mb]? = some (.cells #[.int .i64 by_.1, .int .i64 by_.2] 24 (0, 0))
theorem LarW.mono {w w' : World} {p : Prs} {b off cap bx b8 ob mb : Nat} {wl : List Int} {aw : Option Addr} {own by_ : Int × Int} (h : LarW w p b off cap bx b8 ob mb wl aw own by_) (hb : Below w.heap.size w w') : LarW w' p b off cap bx b8 ob mb wl aw own by_ :=
  ⟨h.ha.mono hb, h.hi.mono hb, (hb.block _ (heap_lt h.h8)).trans h.h8, (hb.block _ (heap_lt h.ho)).trans h.ho, (hb.block _ (heap_lt h.hm)).trans h.hm⟩
theorem two_cells {w : World} {b : Nat} {x y : Int} {t : TypeId} (h : w.heap[b]? = some (.cells #[.int .i64 x, .int .i64 y] t (0, 0))) : w.cell? ⟨b, 0, none⟩ = some (.int .i64 x) ∧ w.cell? ⟨b, 1, none⟩ = some (.int .i64 y) ∧ ∀ k, w.frozen? ⟨b, k, none⟩ = false :=
  ⟨by rw [cell_of_heap h]; rfl, by rw [cell_of_heap h]; rfl, fun k => frozen_of_heap h⟩
theorem prt_at {w : World} {p : Prs} {b off : Nat} (h : IsPrts w (some ⟨b, off, none⟩) p.cards) {k : Nat} (hk : k < p.cards.length) : w.cell? ⟨b, off + k * 5, none⟩ = some (.int .i64 (gp p.cards k).slo) ∧ w.cell? ⟨b, off + k * 5 + 1, none⟩ = some (.int .i64 (gp p.cards k).shi) ∧
    w.cell? ⟨b, off + k * 5 + 2, none⟩ = some (.int .i64 (gp p.cards k).wlo) ∧ w.cell? ⟨b, off + k * 5 + 3, none⟩ = some (.int .i64 (gp p.cards k).whi) ∧ w.cell? ⟨b, off + k * 5 + 4, none⟩ = some (.int .i64 (gp p.cards k).marks) := by
  obtain ⟨b', o', e, h0, h1, h2, h3, h4⟩ := h k hk
  obtain ⟨rfl, rfl⟩ : b = b' ∧ off = o' := by simpa using e
  exact ⟨h0, h1, h2, h3, h4⟩
set_option maxRecDepth 100000 in
set_option maxHeartbeats 4000000 in
theorem largest_ref {p : Prs} {a : Option Addr} {cap : Nat} {what : Bool} {wl : List Int} {aw : Option Addr} {cw : Nat} (hv : p.valid = true) (hl : wl.length = p.cards.length) :
    ∀ (d card : Nat) (w : World), Dep wl d card → card < p.cards.length → d ≤ 6 → IsPrts w a p.cards → IsInts w aw wl →
      Calls Try.prog 89 #[p.v a cap, .slice aw wl.length cw, .int .i64 card, .int .i64 (whN what)] w fun e w' =>
        ∃ lo hi : Int, e = .returned (.agg #[.int .i64 lo, .int .i64 hi]) ∧ decide (lo ≤ hi) = (whatF p wl what d card).2 ∧ ((whatF p wl what d card).2 = true → (whatF p wl what d card).1 = (lo, hi)) ∧ Below w.heap.size w w' := by
  intro d
  induction d with
  | zero => intro card w h; exact h.elim
  | succ d ih =>
    intro card w hdep hc hd6 ha hi
    have hn5 := (valid_parts hv).1
    obtain ⟨hby1, hby2⟩ := by_bd hv what
    obtain ⟨ho1, ho2⟩ := of_bd hv what hc
    have HIH := Lib.hid ih
    have HV := Lib.hid (And.intro hv (And.intro hl hdep))
    obtain ⟨R, hR⟩ : ∃ R, whatF p wl what (d + 1) card = R := ⟨_, rfl⟩
    have HR : Hid (R = goW (p.by_ what) (whatF p wl what d) wl card ((gp p.cards card).of what) (List.range wl.length)) := hR.symm
    rw [hR]
    have hll : wl.length ≤ 5 := by omega
    obtain ⟨b, off, rfl, hjunk⟩ := ha card hc
    clear hjunk
    have h1 : Below w.heap.size w (w.alloc (.cells (p.cells (some ⟨b, off, none⟩) cap) 26)) := (Below.refl _ w).alloc (Nat.le_refl _) _
    have h2 : Below w.heap.size w ((w.alloc (.cells (p.cells (some ⟨b, off, none⟩) cap) 26)).alloc (.cells #[.int .i64 0, .int .i64 0] 24)) := h1.alloc (by simp) _
    have q0 := World.alloc_heap_new w (.cells (p.cells (some ⟨b, off, none⟩) cap) 26)
    have q0' := (Below.heap_alloc (w.alloc (.cells (p.cells (some ⟨b, off, none⟩) cap) 26)) (.cells #[.int .i64 0, .int .i64 0] 24) w.heap.size (by simp)).trans q0
    have q8 := World.alloc_heap_new (w.alloc (.cells (p.cells (some ⟨b, off, none⟩) cap) 26)) (.cells #[.int .i64 0, .int .i64 0] 24)
    rw [World.size_alloc] at q8
    have HW := Lib.hid (And.intro h2 (And.intro q0' (And.intro q8 (And.intro (ha.mono h2) (hi.mono h2)))))
    clear hR ih hdep hl hv h1 h2 q0 q0' q8 ha hi
    go_enter Try.func89, Try.ntmps89
    go_wp2_with fail
    revert HW
    generalize (w.alloc (.cells (p.cells (some ⟨b, off, none⟩) cap) 26)).alloc (.cells #[.int .i64 0, .int .i64 0] 24) = w1
    intro HW
    have kp : ∀ v, Below w1.heap.size w1 v → IsPrts v (some ⟨b, off, none⟩) p.cards ∧ v.heap[w.heap.size]? = some (.cells (p.cells (some ⟨b, off, none⟩) cap) 26 (0, 0)) := fun v h => ⟨HW.out.2.2.2.1.mono h, (h.block _ (heap_lt HW.out.2.1)).trans HW.out.2.1⟩
    have KP := Lib.hid kp
    clear kp
    refine wpIn_wide.1 (lar1 (p := p) (b := b) (off := off) (cap := cap) (bx := w.heap.size) (c := card)
      (S0 := fun f ms v => Below w1.heap.size w1 v ∧ (f = true → w1.heap.size ≤ ms ∧ v.heap[ms]? = some (.cells #[.int .i64 0, .int .i64 0] 24 (0, 0))))
      (S1 := fun f ms ob v => Below w1.heap.size w1 v ∧ w1.heap.size ≤ ob ∧ v.heap[ob]? = some (.cells #[.int .i64 0, .int .i64 0] 24 (0, 0)) ∧ (f = true → w1.heap.size ≤ ms ∧ ms ≠ ob ∧ v.heap[ms]? = some (.cells #[.int .i64 0, .int .i64 0] 24 (0, 0))))
      (S2 := fun f ms ob v => Below w1.heap.size w1 v ∧ w1.heap.size ≤ ob ∧ v.heap[ob]? = some (.cells #[.int .i64 (gp p.cards card).slo, .int .i64 (gp p.cards card).shi] 24 (0, 0)) ∧ (w1.heap.size ≤ ms ∧ ms ≠ ob ∧ v.heap[ms]? = some (.cells #[.int .i64 0, .int .i64 0] 24 (0, 0))))
      (S3 := fun f ms ob v => Below w1.heap.size w1 v ∧ w1.heap.size ≤ ob ∧ v.heap[ob]? = some (.cells #[.int .i64 (gp p.cards card).slo, .int .i64 (gp p.cards card).shi] 24 (0, 0)) ∧ (w1.heap.size ≤ ms ∧ ms ≠ ob ∧ v.heap[ms]? = some (.cells #[.int .i64 p.llo, .int .i64 p.lhi] 24 (0, 0))))
      hc hn5 ?h0 ?l1 ?l5 ?l7 ?c8 ?s0 ?s1 ?c10 ?c11 ?hQ)
    case h0 => exact ⟨(Below.refl _ w1).drew, fun h => by cases h⟩
    case l1 =>
      intro f ms ob v h
      rcases h with h | h <;> exact (prs_cells (KP.out v h.1).2).1
    case l5 =>
      intro f ms ob v h
      have hb : Below w1.heap.size w1 v := by rcases h with h | h <;> exact h.1
      have := prt_at (KP.out v hb).1 hc
      exact ⟨this.1, this.2.1⟩
    case l7 =>
      intro f ms ob v h
      have hb : Below w1.heap.size w1 v := by rcases h with h | h | h <;> exact h.1
      have := prs_cells (KP.out v hb).2
      exact ⟨this.2.1, this.2.2.1⟩
    case c8 => exact fun f ms v h => ⟨h.1.alloc h.1.size _, h.1.size, World.alloc_heap_new _ _, fun hf => ⟨(h.2 hf).1, by have := heap_lt (h.2 hf).2; omega, (Below.heap_alloc v _ ms (heap_lt (h.2 hf).2)).trans (h.2 hf).2⟩⟩
    case s0 => exact fun v h => ⟨h.1.alloc h.1.size _, fun _ => ⟨h.1.size, World.alloc_heap_new _ _⟩⟩
    case s1 => exact fun ob v h => ⟨h.1.alloc h.1.size _, h.2.1, (Below.heap_alloc v _ ob (heap_lt h.2.2.1)).trans h.2.2.1, fun _ => ⟨h.1.size, by have := heap_lt h.2.2.1; omega, World.alloc_heap_new _ _⟩⟩
    case c10 =>
      intro ms ob v h
      obtain ⟨c0, c1, fz⟩ := two_cells h.2.2.1
      obtain ⟨hm1, hm2, hm3⟩ := h.2.2.2 rfl
      exact ⟨⟨_, c0⟩, fz 0, ⟨_, c1⟩, fz 1, (h.1.setCell h.2.1 _).setCell h.2.1 _, h.2.1, heap_setCell_at (k := 1) (heap_setCell_at (k := 0) h.2.2.1 _) _, hm1, hm2, (Below.heap_setCell _ _ _ _ hm2).trans ((Below.heap_setCell _ _ _ _ hm2).trans hm3)⟩
    case c11 =>
      intro ms ob v h
      obtain ⟨hb, ho1', ho2', hm1, hm2, hm3⟩ := h
      obtain ⟨c0, c1, fz⟩ := two_cells hm3
      exact ⟨⟨_, c0⟩, fz 0, ⟨_, c1⟩, fz 1, (hb.setCell hm1 _).setCell hm1 _, ho1', (Below.heap_setCell _ _ _ _ (Ne.symm hm2)).trans ((Below.heap_setCell _ _ _ _ (Ne.symm hm2)).trans ho2'), hm1, hm2, heap_setCell_at (k := 1) (heap_setCell_at (k := 0) hm3 _) _⟩
    case hQ =>
      rintro mb ob w3 ⟨hB2, hob, ho, hmb, hne, hm⟩
      have HX := Lib.hid (And.intro hB2 (And.intro ho (And.intro hm (And.intro hob (And.intro hmb hne)))))
      clear hB2 hob ho hmb hne hm
      have hw0 : (whN what == 1) = what := by cases what <;> rfl
      cases what
      · have HX2 : Hid (Below w1.heap.size w1 w3 ∧ w3.heap[ob]? = some (.cells #[.int .i64 ((gp p.cards card).of false).1, .int .i64 ((gp p.cards card).of false).2] 24 (0, 0)) ∧ w3.heap[mb]? = some (.cells #[.int .i64 (p.by_ false).1, .int .i64 (p.by_ false).2] 24 (0, 0)) ∧ w1.heap.size ≤ ob ∧ w1.heap.size ≤ mb ∧ mb ≠ ob) := HX.out
        clear HX
        go_wp2_with fail
        go_loopw [11, 12] (fun i _ wr => ∃ (j : Nat) (lo hi : Int), j ≤ wl.length ∧ i = .int .i64 j ∧ Below w1.heap.size w1 wr ∧ Hid (wr.heap[ob]? = some (.cells #[.int .i64 lo, .int .i64 hi] 24 (0, 0))) ∧ Hid (wr.heap[mb]? = some (.cells #[.int .i64 (p.by_ false).1, .int .i64 (p.by_ false).2] 24 (0, 0))) ∧
          Hid (R = goW (p.by_ false) (whatF p wl false d) wl card (lo, hi) ((List.range wl.length).drop j)) ∧ 0 ≤ lo ∧ lo ≤ 1000000 ∧ 0 ≤ hi ∧ hi ≤ 1000000) (fun i _ _ => wl.length - (intOf i).toNat)
        case atStart => exact ⟨0, _, _, by omega, rfl, HX2.out.1, HX2.out.2.1, HX2.out.2.2.1, HR.out, by omega, by omega, by omega, by omega⟩
        case round =>
          obtain ⟨j, lo, hi, hj, rfl, hbr, HO, HM, HG, hlo0, hlo1, hhi0, hhi1⟩ := hrel
          have HBR := Lib.hid hbr
          by_cases hlt : j < wl.length
          · obtain ⟨ab, ao, haw, hwj⟩ := (HW.out.2.2.2.2.mono hbr) j hlt
            subst haw
            by_cases he : gi wl j = (card : Int)
            · have heb : (gi wl j == (card : Int)) = true := by simpa using he
              have hjn : j < p.cards.length := by have := HV.out.2.1; omega
              have hcall := HIH.out j wr (HV.out.2.2 j hlt he) hjn (by omega) (KP.out wr hbr).1 (HW.out.2.2.2.2.mono hbr)
              have hbd := whatF_bd HV.out.1 HV.out.2.1 false d j hjn
              obtain ⟨S, hS⟩ : ∃ S, whatF p wl false d j = S := ⟨_, rfl⟩
              rw [hS] at hcall hbd
              have HE := Lib.hid (And.intro he hS)
              obtain ⟨⟨slo, shi⟩, sok⟩ := S
              obtain ⟨hs0, hs1, hs2, hs3⟩ := hbd
              dsimp only at hs0 hs1 hs2 hs3 hcall
              obtain ⟨k0, k1, k2, k3, k4⟩ := prs_cells (KP.out wr hbr).2
              have HC := Lib.hid hcall
              clear he hS hbr hcall
              go_wp2_with fail
              (with_reducible refine HC.out.mono ?_)
              clear HC
              rintro e w5 ⟨clo, chi, rfl, hok, hval, hb5⟩
              have HB5 := Lib.hid (HBR.out.trans (hb5.mono HBR.out.size))
              have HR5 := Lib.hid hb5
              clear k0 k1 k2 k3 k4 hb5 hwj
              go_upto_region 9 with fail
              have ha5 : Below w5.heap.size w5 (w5.alloc (.cells #[.int .i64 clo, .int .i64 chi] 24)) := (Below.refl _ w5).alloc (Nat.le_refl _) _
              have hn5' := World.alloc_heap_new w5 (.cells #[.int .i64 clo, .int .i64 chi] 24)
              revert ha5 hn5'
              generalize (w5.alloc (.cells #[.int .i64 clo, .int .i64 chi] 24)) = w6
              intro ha5 hn5'
              have hB6 := HB5.out.trans (ha5.mono HB5.out.size)
              have hr6 := HR5.out.trans (ha5.mono HR5.out.size)
              have ho6 := (hr6.block _ (heap_lt HO.out)).trans HO.out
              have hm6 := (hr6.block _ (heap_lt HM.out)).trans HM.out
              have q8 := (hB6.block _ (heap_lt HW.out.2.2.1)).trans HW.out.2.2.1
              have HF := Lib.hid (And.intro hB6 (And.intro ho6 (And.intro hm6 q8)))
              obtain ⟨n0, n1, nfz⟩ := two_cells hn5'
              clear ha5 hn5' hB6 hr6 nfz
              cases sok with
              | false =>
                have hlt2 : chi < clo := by
                  have := of_decide_eq_false hok
                  omega
                have HD := Lib.hid (goW_no (p.by_ false) (whatF p wl false d) wl card (lo, hi) hlt HE.out.1 (by rw [HE.out.2]))
                obtain ⟨c0, c1, fz⟩ := two_cells q8
                have HOK := Lib.hid hok
                clear hok hval ho6 hm6 q8
                go_wp2_with fail
                have hR' : R = ((lo, hi), false) := by rw [HG.out, HD.out]
                subst hR'
                have hk8 := heap_setCell_at (k := 1) (heap_setCell_at (k := 0) HF.out.2.2.2 (.int .i64 clo)) (.int .i64 chi)
                have hBw := HW.out.1.trans (HF.out.1.mono HW.out.1.size)
                refine bodyPost_ret (v := .agg #[.int .i64 clo, .int .i64 chi]) (res_c24 rfl _ rfl (by rw [cell_of_heap hk8]; rfl) (by rw [cell_of_heap hk8]; rfl)) rfl ⟨clo, chi, rfl, HOK.out, (fun h => by cases h), ?_⟩
                exact (hBw.setCell (show w.heap.size ≤ w.heap.size + 1 by omega) _).setCell (show w.heap.size ≤ w.heap.size + 1 by omega) _
              | true =>
                have hle := of_decide_eq_true hok
                obtain ⟨rfl, rfl⟩ : slo = clo ∧ shi = chi := by simpa using hval rfl
                have HD := Lib.hid (goW_yes (p.by_ false) (whatF p wl false d) wl card (lo, hi) hlt HE.out.1 (by rw [HE.out.2]))
                have hs1' : slo ≤ 100000 := by omega
                obtain ⟨o0, o1, ofz⟩ := two_cells ho6
                obtain ⟨m0, m1, mfz⟩ := two_cells hm6
                clear hok hval ho6 hm6 q8 mfz
                go_wp2_with fail
                go_roundw
                case rel =>
                  have h1 : (if lo < slo + (p.by_ false).1 then slo + (p.by_ false).1 else lo) = max lo (slo + (p.by_ false).1) := by split <;> omega
                  have h2 : (if shi + (p.by_ false).2 < hi then shi + (p.by_ false).2 else hi) = min hi (shi + (p.by_ false).2) := by split <;> omega
                  rw [h1, h2]
                  have hq := heap_setCell_at (k := 1) (heap_setCell_at (k := 0) HF.out.2.1 (.int .i64 (max lo (slo + (p.by_ false).1)))) (.int .i64 (min hi (shi + (p.by_ false).2)))
                  have hob := HX2.out.2.2.2.1
                  have hne := HX2.out.2.2.2.2.2
                  have hm' := (Below.heap_setCell _ ⟨ob, 1, none⟩ (.int .i64 (min hi (shi + (p.by_ false).2))) _ hne).trans ((Below.heap_setCell w6 ⟨ob, 0, none⟩ (.int .i64 (max lo (slo + (p.by_ false).1))) _ hne).trans HF.out.2.2.1)
                  exact ⟨j + 1, _, _, by omega, by go_num, (HF.out.1.setCell hob _).setCell hob _, hq, hm', by rw [Hid, HG.out, HD.out, HE.out.2], by omega, by omega, by omega, by omega⟩
                case measure => simp [intOf]; omega
            · have heb : (gi wl j == (card : Int)) = false := by simpa using he
              have HE := Lib.hid (goW_skip (p.by_ false) (whatF p wl false d) wl card (lo, hi) hlt he)
              clear he hbr
              go_wp2_with fail
              go_roundw
              case rel => exact ⟨j + 1, lo, hi, by omega, by go_num, HBR.out, HO, HM, by rw [Hid, HG.out, HE.out], hlo0, hlo1, hhi0, hhi1⟩
              case measure => simp [intOf]; omega
          · obtain rfl : j = wl.length := by omega
            have HD := Lib.hid (goW_end (p.by_ false) (whatF p wl false d) wl card (lo, hi) wl.length)
            have q8 := (hbr.block _ (heap_lt HW.out.2.2.1)).trans HW.out.2.2.1
            obtain ⟨c0, c1, fz⟩ := two_cells q8
            obtain ⟨o0, o1, ofz⟩ := two_cells HO.out
            have HQ8 := Lib.hid q8
            clear q8 hbr ofz
            go_wp2_with fail
            have hR' : R = ((lo, hi), decide (lo ≤ hi)) := by rw [HG.out, HD.out]
            subst hR'
            have hk8 := heap_setCell_at (k := 1) (heap_setCell_at (k := 0) HQ8.out (.int .i64 lo)) (.int .i64 hi)
            have hBw := HW.out.1.trans (HBR.out.mono HW.out.1.size)
            refine bodyPost_ret (v := .agg #[.int .i64 lo, .int .i64 hi]) (res_c24 rfl _ rfl (by rw [cell_of_heap hk8]; rfl) (by rw [cell_of_heap hk8]; rfl)) rfl ⟨lo, hi, rfl, rfl, fun _ => rfl, ?_⟩
            exact (hBw.setCell (show w.heap.size ≤ w.heap.size + 1 by omega) _).setCell (show w.heap.size ≤ w.heap.size + 1 by omega) _
      · go_wp2_with fail
        refine wpIn_wide.1 (lar3 (p := p) (b := b) (off := off) (cap := cap) (bx := w.heap.size) (c := card) (ob := ob) (mb := mb)
          (S0 := fun v => Below w1.heap.size w1 v ∧ v.heap[ob]? = some (.cells #[.int .i64 (gp p.cards card).slo, .int .i64 (gp p.cards card).shi] 24 (0, 0)) ∧ v.heap[mb]? = some (.cells #[.int .i64 p.llo, .int .i64 p.lhi] 24 (0, 0)))
          (S1 := fun v => Below w1.heap.size w1 v ∧ v.heap[ob]? = some (.cells #[.int .i64 (gp p.cards card).wlo, .int .i64 (gp p.cards card).whi] 24 (0, 0)) ∧ v.heap[mb]? = some (.cells #[.int .i64 p.llo, .int .i64 p.lhi] 24 (0, 0)))
          (S2 := fun v => Below w1.heap.size w1 v ∧ v.heap[ob]? = some (.cells #[.int .i64 (gp p.cards card).wlo, .int .i64 (gp p.cards card).whi] 24 (0, 0)) ∧ v.heap[mb]? = some (.cells #[.int .i64 p.olo, .int .i64 p.ohi] 24 (0, 0)))
          hc hn5 ?h0 ?l1 ?l5 ?l7 ?c8 ?c9 ?hQ)
        case h0 => exact ⟨HX.out.1.drew, HX.out.2.1, HX.out.2.2.1⟩
        case l1 => exact fun v h => (prs_cells (KP.out v h.1).2).1
        case l5 => exact fun v h => (prt_at (KP.out v h.1).1 hc).2.2.elim fun h1 h2 => ⟨h1, h2.1⟩
        case l7 =>
          intro v h
          have hb : Below w1.heap.size w1 v := by rcases h with h | h <;> exact h.1
          exact (prs_cells (KP.out v hb).2).2.2.2
        case c8 =>
          intro v h
          obtain ⟨c0, c1, fz⟩ := two_cells h.2.1
          have hob := HX.out.2.2.2.1
          have hne := HX.out.2.2.2.2.2
          exact ⟨⟨_, c0⟩, fz 0, ⟨_, c1⟩, fz 1, (h.1.setCell hob _).setCell hob _, heap_setCell_at (k := 1) (heap_setCell_at (k := 0) h.2.1 _) _, (Below.heap_setCell _ _ _ _ hne).trans ((Below.heap_setCell _ _ _ _ hne).trans h.2.2)⟩
        case c9 =>
          intro v h
          obtain ⟨c0, c1, fz⟩ := two_cells h.2.2
          have hmb := HX.out.2.2.2.2.1
          have hne := HX.out.2.2.2.2.2
          exact ⟨⟨_, c0⟩, fz 0, ⟨_, c1⟩, fz 1, (h.1.setCell hmb _).setCell hmb _, (Below.heap_setCell _ _ _ _ (Ne.symm hne)).trans ((Below.heap_setCell _ _ _ _ (Ne.symm hne)).trans h.2.1), heap_setCell_at (k := 1) (heap_setCell_at (k := 0) h.2.2 _) _⟩
        case hQ =>
          intro w3 h3
          have HX2 : Hid (Below w1.heap.size w1 w3 ∧ w3.heap[ob]? = some (.cells #[.int .i64 ((gp p.cards card).of true).1, .int .i64 ((gp p.cards card).of true).2] 24 (0, 0)) ∧ w3.heap[mb]? = some (.cells #[.int .i64 (p.by_ true).1, .int .i64 (p.by_ true).2] 24 (0, 0)) ∧ w1.heap.size ≤ ob ∧ w1.heap.size ≤ mb ∧ mb ≠ ob) := ⟨h3.1, h3.2.1, h3.2.2, HX.out.2.2.2⟩
          clear HX h3
          go_wp2_with fail
          go_loopw [11, 12] (fun i _ wr => ∃ (j : Nat) (lo hi : Int), j ≤ wl.length ∧ i = .int .i64 j ∧ Below w1.heap.size w1 wr ∧ Hid (wr.heap[ob]? = some (.cells #[.int .i64 lo, .int .i64 hi] 24 (0, 0))) ∧ Hid (wr.heap[mb]? = some (.cells #[.int .i64 (p.by_ true).1, .int .i64 (p.by_ true).2] 24 (0, 0))) ∧
            Hid (R = goW (p.by_ true) (whatF p wl true d) wl card (lo, hi) ((List.range wl.length).drop j)) ∧ 0 ≤ lo ∧ lo ≤ 1000000 ∧ 0 ≤ hi ∧ hi ≤ 1000000) (fun i _ _ => wl.length - (intOf i).toNat)
          case atStart => exact ⟨0, _, _, by omega, rfl, HX2.out.1, HX2.out.2.1, HX2.out.2.2.1, HR.out, by omega, by omega, by omega, by omega⟩
          case round =>
            obtain ⟨j, lo, hi, hj, rfl, hbr, HO, HM, HG, hlo0, hlo1, hhi0, hhi1⟩ := hrel
            have HBR := Lib.hid hbr
            by_cases hlt : j < wl.length
            · obtain ⟨ab, ao, haw, hwj⟩ := (HW.out.2.2.2.2.mono hbr) j hlt
              subst haw
              by_cases he : gi wl j = (card : Int)
              · have heb : (gi wl j == (card : Int)) = true := by simpa using he
                have hjn : j < p.cards.length := by have := HV.out.2.1; omega
                have hcall := HIH.out j wr (HV.out.2.2 j hlt he) hjn (by omega) (KP.out wr hbr).1 (HW.out.2.2.2.2.mono hbr)
                have hbd := whatF_bd HV.out.1 HV.out.2.1 true d j hjn
                obtain ⟨S, hS⟩ : ∃ S, whatF p wl true d j = S := ⟨_, rfl⟩
                rw [hS] at hcall hbd
                have HE := Lib.hid (And.intro he hS)
                obtain ⟨⟨slo, shi⟩, sok⟩ := S
                obtain ⟨hs0, hs1, hs2, hs3⟩ := hbd
                dsimp only at hs0 hs1 hs2 hs3 hcall
                obtain ⟨k0, k1, k2, k3, k4⟩ := prs_cells (KP.out wr hbr).2
                have HC := Lib.hid hcall
                clear he hS hbr hcall
                go_wp2_with fail
                (with_reducible refine HC.out.mono ?_)
                clear HC
                rintro e w5 ⟨clo, chi, rfl, hok, hval, hb5⟩
                have HB5 := Lib.hid (HBR.out.trans (hb5.mono HBR.out.size))
                have HR5 := Lib.hid hb5
                clear k0 k1 k2 k3 k4 hb5 hwj
                go_upto_region 9 with fail
                have ha5 : Below w5.heap.size w5 (w5.alloc (.cells #[.int .i64 clo, .int .i64 chi] 24)) := (Below.refl _ w5).alloc (Nat.le_refl _) _
                have hn5' := World.alloc_heap_new w5 (.cells #[.int .i64 clo, .int .i64 chi] 24)
                revert ha5 hn5'
                generalize (w5.alloc (.cells #[.int .i64 clo, .int .i64 chi] 24)) = w6
                intro ha5 hn5'
                have hB6 := HB5.out.trans (ha5.mono HB5.out.size)
                have hr6 := HR5.out.trans (ha5.mono HR5.out.size)
                have ho6 := (hr6.block _ (heap_lt HO.out)).trans HO.out
                have hm6 := (hr6.block _ (heap_lt HM.out)).trans HM.out
                have q8 := (hB6.block _ (heap_lt HW.out.2.2.1)).trans HW.out.2.2.1
                have HF := Lib.hid (And.intro hB6 (And.intro ho6 (And.intro hm6 q8)))
                obtain ⟨n0, n1, nfz⟩ := two_cells hn5'
                clear ha5 hn5' hB6 hr6 nfz
                cases sok with
                | false =>
                  have hlt2 : chi < clo := by
                    have := of_decide_eq_false hok
                    omega
                  have HD := Lib.hid (goW_no (p.by_ true) (whatF p wl true d) wl card (lo, hi) hlt HE.out.1 (by rw [HE.out.2]))
                  obtain ⟨c0, c1, fz⟩ := two_cells q8
                  have HOK := Lib.hid hok
                  clear hok hval ho6 hm6 q8
                  go_wp2_with fail
                  have hR' : R = ((lo, hi), false) := by rw [HG.out, HD.out]
                  subst hR'
                  have hk8 := heap_setCell_at (k := 1) (heap_setCell_at (k := 0) HF.out.2.2.2 (.int .i64 clo)) (.int .i64 chi)
                  have hBw := HW.out.1.trans (HF.out.1.mono HW.out.1.size)
                  refine bodyPost_ret (v := .agg #[.int .i64 clo, .int .i64 chi]) (res_c24 rfl _ rfl (by rw [cell_of_heap hk8]; rfl) (by rw [cell_of_heap hk8]; rfl)) rfl ⟨clo, chi, rfl, HOK.out, (fun h => by cases h), ?_⟩
                  exact (hBw.setCell (show w.heap.size ≤ w.heap.size + 1 by omega) _).setCell (show w.heap.size ≤ w.heap.size + 1 by omega) _
                | true =>
                  have hle := of_decide_eq_true hok
                  obtain ⟨rfl, rfl⟩ : slo = clo ∧ shi = chi := by simpa using hval rfl
                  have HD := Lib.hid (goW_yes (p.by_ true) (whatF p wl true d) wl card (lo, hi) hlt HE.out.1 (by rw [HE.out.2]))
                  have hs1' : slo ≤ 100000 := by omega
                  obtain ⟨o0, o1, ofz⟩ := two_cells ho6
                  obtain ⟨m0, m1, mfz⟩ := two_cells hm6
                  clear hok hval ho6 hm6 q8 mfz
                  go_wp2_with fail
                  go_roundw
                  case rel =>
                    have h1 : (if lo < slo + (p.by_ true).1 then slo + (p.by_ true).1 else lo) = max lo (slo + (p.by_ true).1) := by split <;> omega
                    have h2 : (if shi + (p.by_ true).2 < hi then shi + (p.by_ true).2 else hi) = min hi (shi + (p.by_ true).2) := by split <;> omega
                    rw [h1, h2]
                    have hq := heap_setCell_at (k := 1) (heap_setCell_at (k := 0) HF.out.2.1 (.int .i64 (max lo (slo + (p.by_ true).1)))) (.int .i64 (min hi (shi + (p.by_ true).2)))
                    have hob := HX2.out.2.2.2.1
                    have hne := HX2.out.2.2.2.2.2
                    have hm' := (Below.heap_setCell _ ⟨ob, 1, none⟩ (.int .i64 (min hi (shi + (p.by_ true).2))) _ hne).trans ((Below.heap_setCell w6 ⟨ob, 0, none⟩ (.int .i64 (max lo (slo + (p.by_ true).1))) _ hne).trans HF.out.2.2.1)
                    exact ⟨j + 1, _, _, by omega, by go_num, (HF.out.1.setCell hob _).setCell hob _, hq, hm', by rw [Hid, HG.out, HD.out, HE.out.2], by omega, by omega, by omega, by omega⟩
                  case measure => simp [intOf]; omega
              · have heb : (gi wl j == (card : Int)) = false := by simpa using he
                have HE := Lib.hid (goW_skip (p.by_ true) (whatF p wl true d) wl card (lo, hi) hlt he)
                clear he hbr
                go_wp2_with fail
                go_roundw
                case rel => exact ⟨j + 1, lo, hi, by omega, by go_num, HBR.out, HO, HM, by rw [Hid, HG.out, HE.out], hlo0, hlo1, hhi0, hhi1⟩
                case measure => simp [intOf]; omega
            · obtain rfl : j = wl.length := by omega
              have HD := Lib.hid (goW_end (p.by_ true) (whatF p wl true d) wl card (lo, hi) wl.length)
              have q8 := (hbr.block _ (heap_lt HW.out.2.2.1)).trans HW.out.2.2.1
              obtain ⟨c0, c1, fz⟩ := two_cells q8
              obtain ⟨o0, o1, ofz⟩ := two_cells HO.out
              have HQ8 := Lib.hid q8
              clear q8 hbr ofz
              go_wp2_with fail
              have hR' : R = ((lo, hi), decide (lo ≤ hi)) := by rw [HG.out, HD.out]
              subst hR'
              have hk8 := heap_setCell_at (k := 1) (heap_setCell_at (k := 0) HQ8.out (.int .i64 lo)) (.int .i64 hi)
              have hBw := HW.out.1.trans (HBR.out.mono HW.out.1.size)
              refine bodyPost_ret (v := .agg #[.int .i64 lo, .int .i64 hi]) (res_c24 rfl _ rfl (by rw [cell_of_heap hk8]; rfl) (by rw [cell_of_heap hk8]; rfl)) rfl ⟨lo, hi, rfl, rfl, fun _ => rfl, ?_⟩
              exact (hBw.setCell (show w.heap.size ≤ w.heap.size + 1 by omega) _).setCell (show w.heap.size ≤ w.heap.size + 1 by omega) _
end Go.Proofs.Ytnfhlbmapfoifaa
