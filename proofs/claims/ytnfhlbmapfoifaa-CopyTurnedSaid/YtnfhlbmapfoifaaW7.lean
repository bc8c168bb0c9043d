/- What can be of a card, by all that come from it: the closure. Whether a loss can be; whether it is a way. -/
import Derived.Test.YtnfhlbmapfoifaaW5
import Derived.Test.YtnfhlbmapfoifaaBase6
import Derived.Laws.EntriesVeiled
namespace Go.Proofs.Ytnfhlbmapfoifaa
open Go.RowKit
set_option linter.unusedVariables false

noncomputable def what11C : Code := (Try.f119.body.bind (regionAt 11)).getD .skip
structure EndW (W1 : World) (bq b6 : Nat) (lo hi : Int) (d : Nat → Bool) (x63 x64 x65 x66 x67 x68 x7 : Value) (w : World) : Prop where
  same : Same (fun k => k = b6) W1 w
  f0 : d 0 = true → x63 = .agg #[.int .i64 lo, .int .i64 hi]
  f1 : d 1 = true → x64 = .pointer (some ⟨bq, 0, none⟩)
  f2 : d 2 = true → x65 = .int .i64 lo
  f3 : d 3 = true → x66 = .pointer (some ⟨bq, 1, none⟩)
  f4 : d 4 = true → x67 = .int .i64 hi
  f5 : d 5 = true → x68 = .bool (decide (lo ≤ hi))
  f7 : d 7 = true → x7 = .bool (decide (lo ≤ hi))
  k6 : w.heap[b6]? = some (.cells (if d 6 then #[.int .i64 lo, .int .i64 hi] else #[.int .i64 0, .int .i64 0]) 24 (0, 0))
set_option maxRecDepth 100000 in
set_option maxHeartbeats 2000000 in
theorem what11 {W1 : World} {bq b6 : Nat} {lo hi : Int} {Q : Exit → Act → World → Prop} (hne : bq ≠ b6) (hq : Hid (W1.heap[bq]? = some (.cells #[.int .i64 lo, .int .i64 hi] 24 (0, 0)))) (h6 : Hid (W1.heap[b6]? = some (.cells #[.int .i64 0, .int .i64 0] 24 (0, 0))))
    {s0 s1 s2 s3 s4 s5 s7 s9 s10 s11 s12 s13 s14 s15 s16 s17 s18 s19 s20 s21 s22 s23 s24 s25 s26 s27 s28 s29 s30 s31 s32 s33 s34 s35 s36 s37 s38 s39 s40 s41 s42 s43 s44 s45 s46 s47 s48 s49 s50 s51 s52 s53 s54 s55 s56 s57 s58 s59 s60 s61 s62 s63 s64 s65 s66 s67 s68 : Value} {dd : List Deferred}
    (hQ : ∀ (x63 x64 x65 x66 x67 x68 x7 : Value) (w' : World), Same (fun k => k = b6) W1 w' → x7 = .bool (decide (lo ≤ hi)) → w'.heap[b6]? = some (.cells #[.int .i64 lo, .int .i64 hi] 24 (0, 0)) → Q .normal { tmps := #[s0, s1, s2, s3, s4, s5, .pointer (some ⟨b6, 0, none⟩), x7, .pointer (some ⟨bq, 0, none⟩), s9, s10, s11, s12, s13, s14, s15, s16, s17, s18, s19, s20, s21, s22, s23, s24, s25, s26, s27, s28, s29, s30, s31, s32, s33, s34, s35, s36, s37, s38, s39, s40, s41, s42, s43, s44, s45, s46, s47, s48, s49, s50, s51, s52, s53, s54, s55, s56, s57, s58, s59, s60, s61, s62, x63, x64, x65, x66, x67, x68], defers := dd } w') :
    Code.wp Try.prog what11C Q { tmps := #[s0, s1, s2, s3, s4, s5, .pointer (some ⟨b6, 0, none⟩), s7, .pointer (some ⟨bq, 0, none⟩), s9, s10, s11, s12, s13, s14, s15, s16, s17, s18, s19, s20, s21, s22, s23, s24, s25, s26, s27, s28, s29, s30, s31, s32, s33, s34, s35, s36, s37, s38, s39, s40, s41, s42, s43, s44, s45, s46, s47, s48, s49, s50, s51, s52, s53, s54, s55, s56, s57, s58, s59, s60, s61, s62, s63, s64, s65, s66, s67, s68], defers := dd } W1 := by
  have HQ := Lib.hid hQ
  clear hQ
  conv => arg 2; whnf
  refine wp_region_inv' mixed (by kernel_rfl) (fun d_ a_ w' => ∃ x63 x64 x65 x66 x67 x68 x7, a_ = { tmps := #[s0, s1, s2, s3, s4, s5, .pointer (some ⟨b6, 0, none⟩), x7, .pointer (some ⟨bq, 0, none⟩), s9, s10, s11, s12, s13, s14, s15, s16, s17, s18, s19, s20, s21, s22, s23, s24, s25, s26, s27, s28, s29, s30, s31, s32, s33, s34, s35, s36, s37, s38, s39, s40, s41, s42, s43, s44, s45, s46, s47, s48, s49, s50, s51, s52, s53, s54, s55, s56, s57, s58, s59, s60, s61, s62, x63, x64, x65, x66, x67, x68], defers := dd } ∧ EndW W1 bq b6 lo hi d_ x63 x64 x65 x66 x67 x68 x7 w') ?_ ?_ ?_
  · exact ⟨s63, s64, s65, s66, s67, s68, s7, rfl, (Same.refl _ W1).drew, (fun h => by cases h), (fun h => by cases h), (fun h => by cases h), (fun h => by cases h), (fun h => by cases h), (fun h => by cases h), (fun h => by cases h), h6.out⟩
  · refine ⟨?_, ?_, ?_, ?_, ?_, ?_, ?_, ?_, trivial⟩
    all_goals
      rintro d_ a_ w1 K hd_ hdep ⟨x63, x64, x65, x66, x67, x68, x7, rfl, F⟩ HK
      simp [Region.binds] at hdep
      have hq1 : w1.heap[bq]? = some (.cells #[.int .i64 lo, .int .i64 hi] 24 (0, 0)) := (F.same.block bq (heap_lt hq.out) hne).trans hq.out
      have k0 : w1.cell? ⟨bq, 0, none⟩ = some (.int .i64 lo) := by rw [cell_of_heap hq1]; rfl
      have k1 : w1.cell? ⟨bq, 1, none⟩ = some (.int .i64 hi) := by rw [cell_of_heap hq1]; rfl
      clear hq1
    · have HF : Hid (EndW W1 bq b6 lo hi (upd d_ 0) (.agg #[.int .i64 lo, .int .i64 hi]) x64 x65 x66 x67 x68 x7 w1) := ⟨F.same, fun _ => rfl, F.f1, F.f2, F.f3, F.f4, F.f5, F.f7, F.k6⟩
      clear F
      go_simp
      exact HK.out _ _ ⟨_, _, _, _, _, _, _, rfl, HF.out⟩
    · have HF : Hid (EndW W1 bq b6 lo hi (upd d_ 1) x63 (.pointer (some ⟨bq, 0, none⟩)) x65 x66 x67 x68 x7 w1) := ⟨F.same, F.f0, fun _ => rfl, F.f2, F.f3, F.f4, F.f5, F.f7, F.k6⟩
      clear F
      go_simp
      exact HK.out _ _ ⟨_, _, _, _, _, _, _, rfl, HF.out⟩
    · obtain rfl := F.f1 (by simp [hdep])
      have HF : Hid (EndW W1 bq b6 lo hi (upd d_ 2) x63 (.pointer (some ⟨bq, 0, none⟩)) (.int .i64 lo) x66 x67 x68 x7 w1) := ⟨F.same, F.f0, F.f1, fun _ => rfl, F.f3, F.f4, F.f5, F.f7, F.k6⟩
      clear F
      go_simp
      exact HK.out _ _ ⟨_, _, _, _, _, _, _, rfl, HF.out⟩
    · have HF : Hid (EndW W1 bq b6 lo hi (upd d_ 3) x63 x64 x65 (.pointer (some ⟨bq, 1, none⟩)) x67 x68 x7 w1) := ⟨F.same, F.f0, F.f1, F.f2, fun _ => rfl, F.f4, F.f5, F.f7, F.k6⟩
      clear F
      go_simp
      exact HK.out _ _ ⟨_, _, _, _, _, _, _, rfl, HF.out⟩
    · obtain rfl := F.f3 (by simp [hdep])
      have HF : Hid (EndW W1 bq b6 lo hi (upd d_ 4) x63 x64 x65 (.pointer (some ⟨bq, 1, none⟩)) (.int .i64 hi) x68 x7 w1) := ⟨F.same, F.f0, F.f1, F.f2, F.f3, fun _ => rfl, F.f5, F.f7, F.k6⟩
      clear F
      go_simp
      exact HK.out _ _ ⟨_, _, _, _, _, _, _, rfl, HF.out⟩
    · obtain rfl := F.f2 (by simp [hdep])
      obtain rfl := F.f4 (by simp [hdep])
      have HF : Hid (EndW W1 bq b6 lo hi (upd d_ 5) x63 x64 (.int .i64 lo) x66 (.int .i64 hi) (.bool (decide (lo ≤ hi))) x7 w1) := ⟨F.same, F.f0, F.f1, F.f2, F.f3, F.f4, fun _ => rfl, F.f7, F.k6⟩
      clear F
      go_simp
      exact HK.out _ _ ⟨_, _, _, _, _, _, _, rfl, HF.out⟩
    · obtain rfl := F.f0 (by simp [hdep])
      have hk := F.k6
      have h6f : d_ 6 = false := hd_
      rw [h6f] at hk
      have hk' : w1.heap[b6]? = some (.cells #[.int .i64 0, .int .i64 0] 24 (0, 0)) := hk
      have z0 : w1.cell? ⟨b6, 0, none⟩ = some (.int .i64 0) := by rw [cell_of_heap hk']; rfl
      have z1 : w1.cell? ⟨b6, 1, none⟩ = some (.int .i64 0) := by rw [cell_of_heap hk']; rfl
      have zf : ∀ k, w1.frozen? ⟨b6, k, none⟩ = false := fun k => frozen_of_heap hk'
      have HF : Hid (EndW W1 bq b6 lo hi (upd d_ 6) (.agg #[.int .i64 lo, .int .i64 hi]) x64 x65 x66 x67 x68 x7 ((w1.setCell ⟨b6, 0, none⟩ (.int .i64 lo)).setCell ⟨b6, 1, none⟩ (.int .i64 hi))) :=
        ⟨(F.same.setCell (.inl rfl) _).setCell (.inl rfl) _, F.f0, F.f1, F.f2, F.f3, F.f4, F.f5, F.f7, heap_setCell_at (k := 1) (heap_setCell_at (k := 0) hk' (.int .i64 lo)) (.int .i64 hi)⟩
      clear F hk hk'
      go_simp
      exact HK.out _ _ ⟨_, _, _, _, _, _, _, rfl, HF.out⟩
    · obtain rfl := F.f5 (by simp [hdep])
      have HF : Hid (EndW W1 bq b6 lo hi (upd d_ 7) x63 x64 x65 x66 x67 (.bool (decide (lo ≤ hi))) (.bool (decide (lo ≤ hi))) w1) := ⟨F.same, F.f0, F.f1, F.f2, F.f3, F.f4, fun _ => rfl, fun _ => rfl, F.k6⟩
      clear F
      go_simp
      exact HK.out _ _ ⟨_, _, _, _, _, _, _, rfl, HF.out⟩
  · rintro d_ a_ w1 hall ⟨x63, x64, x65, x66, x67, x68, x7, rfl, F⟩
    have hall' : ∀ k, k < 8 → d_ k = true := hall
    have hk := F.k6
    rw [hall' 6 (by decide)] at hk
    exact HQ.out _ _ _ _ _ _ _ w1 F.same (F.f7 (hall' 7 (by decide))) hk

set_option maxRecDepth 100000 in
set_option maxHeartbeats 4000000 in
theorem what_any {p : Prs} {a : Option Addr} {cap bp g bl bpb bw bs : Nat} {what : Bool} {wl : List Int} {aw : Option Addr} {cw : Nat} (hv : p.valid = true) (hl : wl.length = p.cards.length) :
    ∀ (d card : Nat) (w : World), Dep wl d card → card < p.cards.length → d ≤ 6 → WhatW w bl bpb bw bs what p a cap bp g wl aw cw →
      Calls Try.prog 119 #[.int .i64 card, .pointer (some ⟨bl, 0, none⟩), .pointer (some ⟨bpb, 0, none⟩), .pointer (some ⟨bw, 0, none⟩), .pointer (some ⟨bs, 0, none⟩)] w fun e w' =>
        e = .returned (.tuple #[.agg #[.int .i64 (whatF p wl what d card).1.1, .int .i64 (whatF p wl what d card).1.2], .bool (whatF p wl what d card).2]) ∧ Below w.heap.size w w' := by
  intro d
  induction d with
  | zero => intro card w h; exact h.elim
  | succ d ih =>
    intro card w hdep hc hd6 hW
    have hn5 := (valid_parts hv).1
    obtain ⟨hby1, hby2⟩ := by_bd hv what
    obtain ⟨ho1, ho2⟩ := of_bd hv what hc
    have HIH := Lib.hid ih
    have HV := Lib.hid (And.intro hv (And.intro hl hdep))
    obtain ⟨R, hR⟩ : ∃ R, whatF p wl what (d + 1) card = R := ⟨_, rfl⟩
    have HR : Hid (R = goW (p.by_ what) (whatF p wl what d) wl card ((gp p.cards card).of what) (List.range wl.length)) := hR.symm
    have HRB : Hid (0 ≤ R.1.1 ∧ 0 ≤ R.1.2) := by have := whatF_bd hv hl what (d + 1) card hc; rw [hR] at this; exact ⟨this.1, this.2.2.1⟩
    rw [hR]
    have hll : wl.length ≤ 5 := by omega
    clear hR ih hdep hl hv
    have HWW : Hid (∀ v, Below w.heap.size w v → WhatW v bl bpb bw bs what p a cap bp g wl aw cw) := fun v hb => hW.mono hb
    obtain ⟨b, off, ha, m0, m1, m2, m3, m4⟩ := hW.hP.ha card hc
    obtain ⟨q0, _⟩ := hW.hP.cells
    have hL : w.cell? ⟨bl, 0, none⟩ = some (.func (.func (ofF what)) #[] #[]) := by rw [cell_of_heap hW.hl]; rfl
    have hPb : w.cell? ⟨bpb, 0, none⟩ = some (.pointer (some ⟨bp, 0, none⟩)) := by rw [cell_of_heap hW.hp]; rfl
    have hb1 : Below w.heap.size w (w.alloc (.cells #[.int .i64 0, .int .i64 0] 24)) := (Below.refl _ w).alloc (Nat.le_refl _) _
    have hn1 := World.alloc_heap_new w (.cells #[.int .i64 0, .int .i64 0] 24)
    have HL : Hid ((w.alloc (.cells #[.int .i64 0, .int .i64 0] 24)).cell? ⟨bl, 0, none⟩ = some (.func (.func (ofF what)) #[] #[])) := cell_stays hb1 hL
    have HPb : Hid ((w.alloc (.cells #[.int .i64 0, .int .i64 0] 24)).cell? ⟨bpb, 0, none⟩ = some (.pointer (some ⟨bp, 0, none⟩))) := cell_stays hb1 hPb
    rw [ha] at q0
    have HS : Hid ((w.alloc (.cells #[.int .i64 0, .int .i64 0] 24)).cell? ⟨bp, 0, none⟩ = some (.slice (some ⟨b, off, none⟩) p.cards.length cap)) := cell_stays hb1 q0
    have HM : Hid ((w.alloc (.cells #[.int .i64 0, .int .i64 0] 24)).cell? ⟨b, off + card * 5, none⟩ = some (.int .i64 (gp p.cards card).slo) ∧ (w.alloc (.cells #[.int .i64 0, .int .i64 0] 24)).cell? ⟨b, off + card * 5 + 1, none⟩ = some (.int .i64 (gp p.cards card).shi) ∧ (w.alloc (.cells #[.int .i64 0, .int .i64 0] 24)).cell? ⟨b, off + card * 5 + 2, none⟩ = some (.int .i64 (gp p.cards card).wlo) ∧ (w.alloc (.cells #[.int .i64 0, .int .i64 0] 24)).cell? ⟨b, off + card * 5 + 3, none⟩ = some (.int .i64 (gp p.cards card).whi) ∧ (w.alloc (.cells #[.int .i64 0, .int .i64 0] 24)).cell? ⟨b, off + card * 5 + 4, none⟩ = some (.int .i64 (gp p.cards card).marks)) :=
      ⟨cell_stays hb1 m0, cell_stays hb1 m1, cell_stays hb1 m2, cell_stays hb1 m3, cell_stays hb1 m4⟩
    have HB1 := Lib.hid (And.intro hb1 hn1)
    clear hW ha m0 m1 m2 m3 m4 q0 hL hPb hb1 hn1
    go_enter Try.func119, Try.ntmps119
    go_wp2_with fail
    revert HB1 HL HPb HS HM
    generalize (w.alloc (.cells #[.int .i64 0, .int .i64 0] 24)) = w1
    intro HL HPb HS HM HB1
    refine what1 HL HPb HS hc hn5 HM ?_
    intro x13 x14 x15 x16 x17 x18 x19 x20 x21 x22 x23 x8 w2 hb2 e13 e14 e15 e16 e17 e18 e19 e20 e21 e22 e23 ⟨bq, e8, hbq, hq⟩
    subst e8
    clear e13 e14 e15 e16 e17 e18 e19 e20 e21 e22 e23
    have hB2 : Below w.heap.size w w2 := HB1.out.1.trans (hb2.mono HB1.out.1.size)
    have h6 : w2.heap[w.heap.size]? = some (.cells #[.int .i64 0, .int .i64 0] 24 (0, 0)) := (hb2.block _ (heap_lt HB1.out.2)).trans HB1.out.2
    have hne : w.heap.size ≠ bq := by have := heap_lt HB1.out.2; omega
    have hbqw : w.heap.size ≤ bq := by have := HB1.out.1.size; omega
    have HQ := Lib.hid (And.intro hq (And.intro h6 hB2))
    have hww := HWW.out w2 hB2
    have cw0 : w2.cell? ⟨bw, 0, none⟩ = some (.slice aw wl.length cw) := by rw [cell_of_heap hww.hw]; rfl
    clear hq h6 hB2 hww hb2 HL HPb HS HM HB1
    go_wp2_with fail
    clear cw0
    go_loopw [26] (fun i wr => ∃ (j : Nat) (lo hi : Int), j ≤ wl.length ∧ i = .int .i64 j ∧ Below w.heap.size w wr ∧ Hid (wr.heap[bq]? = some (.cells #[.int .i64 lo, .int .i64 hi] 24 (0, 0))) ∧ Hid (wr.heap[w.heap.size]? = some (.cells #[.int .i64 0, .int .i64 0] 24 (0, 0))) ∧
      Hid (R = goW (p.by_ what) (whatF p wl what d) wl card (lo, hi) ((List.range wl.length).drop j)) ∧ 0 ≤ lo ∧ lo ≤ 1000000 ∧ 0 ≤ hi ∧ hi ≤ 1000000) (fun i _ => wl.length - (intOf i).toNat)
    case atStart => exact ⟨0, _, _, by omega, rfl, HQ.out.2.2, HQ.out.1, HQ.out.2.1, HR.out, by omega, by omega, by omega, by omega⟩
    case round =>
      obtain ⟨j, lo, hi, hj, rfl, hbr, HBQ, HB6, HG, hlo0, hlo1, hhi0, hhi1⟩ := hrel
      have hww := HWW.out wr hbr
      have cb0 : wr.cell? ⟨bq, 0, none⟩ = some (.int .i64 lo) := by rw [cell_of_heap HBQ.out]; rfl
      have cb1 : wr.cell? ⟨bq, 1, none⟩ = some (.int .i64 hi) := by rw [cell_of_heap HBQ.out]; rfl
      by_cases hlt : j < wl.length
      · obtain ⟨b2, o2, haw, hwj⟩ := hww.hi j hlt
        subst haw
        have hs4 : wr.cell? ⟨bs, 0, none⟩ = some (.func (.func 119) #[] #[.pointer (some ⟨bl, 0, none⟩), .pointer (some ⟨bpb, 0, none⟩), .pointer (some ⟨bw, 0, none⟩), .pointer (some ⟨bs, 0, none⟩)]) := by rw [cell_of_heap hww.hs]; rfl
        by_cases he : gi wl j = (card : Int)
        · have heb : (gi wl j == (card : Int)) = true := by simpa using he
          have heb' : (gi wl j != (card : Int)) = false := by simpa using he
          have hjn : j < p.cards.length := by have := HV.out.2.1; omega
          have hcall := HIH.out j wr (HV.out.2.2 j hlt he) hjn (by omega) hww
          have hbd := whatF_bd HV.out.1 HV.out.2.1 what d j hjn
          obtain ⟨S, hS⟩ : ∃ S, whatF p wl what d j = S := ⟨_, rfl⟩
          rw [hS] at hcall hbd
          have HE := Lib.hid (And.intro he hS)
          obtain ⟨⟨slo, shi⟩, sok⟩ := S
          obtain ⟨hs0, hs1, hs2, hs3⟩ := hbd
          dsimp only at hs0 hs1 hs2 hs3 hcall
          clear he hS hww
          go_wp2_with fail
          (with_reducible refine hcall.mono ?_)
          clear hcall
          rintro e w5 ⟨rfl, hb5⟩
          have hB5 : Below w.heap.size w w5 := hbr.trans (hb5.mono hbr.size)
          have HBQ5 : Hid (w5.heap[bq]? = some (.cells #[.int .i64 lo, .int .i64 hi] 24 (0, 0))) := (hb5.block _ (heap_lt HBQ.out)).trans HBQ.out
          have HB65 : Hid (w5.heap[w.heap.size]? = some (.cells #[.int .i64 0, .int .i64 0] 24 (0, 0))) := (hb5.block _ (heap_lt HB6.out)).trans HB6.out
          clear cb0 cb1 hb5 hs4 hwj
          go_upto_region 7 with fail
          have ha5 : Below w5.heap.size w5 (w5.alloc (.cells #[.int .i64 slo, .int .i64 shi] 24)) := (Below.refl _ w5).alloc (Nat.le_refl _) _
          have hn11 := World.alloc_heap_new w5 (.cells #[.int .i64 slo, .int .i64 shi] 24)
          have hlq := heap_lt HBQ5.out
          have hl6 := heap_lt HB65.out
          revert ha5 hn11
          generalize (w5.alloc (.cells #[.int .i64 slo, .int .i64 shi] 24)) = w6
          intro ha5 hn11
          have hB6w : Below w.heap.size w w6 := hB5.trans (ha5.mono hB5.size)
          have hq6 := (ha5.block _ hlq).trans HBQ5.out
          have hr6 := (ha5.block _ hl6).trans HB65.out
          have hww := HWW.out w6 hB6w
          have cb0 : w6.cell? ⟨bq, 0, none⟩ = some (.int .i64 lo) := by rw [cell_of_heap hq6]; rfl
          have cb1 : w6.cell? ⟨bq, 1, none⟩ = some (.int .i64 hi) := by rw [cell_of_heap hq6]; rfl
          have fb : ∀ k, w6.frozen? ⟨bq, k, none⟩ = false := fun k => frozen_of_heap hq6
          have cr0 : w6.cell? ⟨w.heap.size, 0, none⟩ = some (.int .i64 0) := by rw [cell_of_heap hr6]; rfl
          have cr1 : w6.cell? ⟨w.heap.size, 1, none⟩ = some (.int .i64 0) := by rw [cell_of_heap hr6]; rfl
          have fr : ∀ k, w6.frozen? ⟨w.heap.size, k, none⟩ = false := fun k => frozen_of_heap hr6
          have cn0 : w6.cell? ⟨w5.heap.size, 0, none⟩ = some (.int .i64 slo) := by rw [cell_of_heap hn11]; rfl
          have cn1 : w6.cell? ⟨w5.heap.size, 1, none⟩ = some (.int .i64 shi) := by rw [cell_of_heap hn11]; rfl
          have cl1 : w6.cell? ⟨bl, 1, none⟩ = some (.int .i64 (p.by_ what).1) := by rw [cell_of_heap hww.hl]; rfl
          have cl2 : w6.cell? ⟨bl, 2, none⟩ = some (.int .i64 (p.by_ what).2) := by rw [cell_of_heap hww.hl]; rfl
          have HF := Lib.hid (And.intro hB6w (And.intro hq6 hr6))
          clear ha5 hn11 hww hB6w hq6 hr6 hB5
          cases sok with
          | false =>
            have HD := Lib.hid (goW_no (p.by_ what) (whatF p wl what d) wl card (lo, hi) hlt HE.out.1 (by rw [HE.out.2]))
            clear cn0 cn1 cl1 cl2
            go_wp2_with fail
            have hR' : R = ((lo, hi), false) := by rw [HG.out, HD.out]
            subst hR'
            have hset := heap_setCell_at (k := 1) (heap_setCell_at (k := 0) HF.out.2.2 (.int .i64 lo)) (.int .i64 hi)
            refine bodyPost_ret (v := .tuple #[.agg #[.int .i64 lo, .int .i64 hi], .bool false]) (res_c24t rfl _ rfl rfl (by rw [cell_of_heap hset]; rfl) (by rw [cell_of_heap hset]; rfl)) rfl ⟨rfl, ?_⟩
            exact (HF.out.1.setCell (Nat.le_refl _) _).setCell (Nat.le_refl _) _
          | true =>
            have HD := Lib.hid (goW_yes (p.by_ what) (whatF p wl what d) wl card (lo, hi) hlt HE.out.1 (by rw [HE.out.2]))
            have hs1' : slo ≤ 100000 := by omega
            clear cr0 cr1 fr
            go_wp2_with fail
            go_roundw
            case rel =>
              have h1 : (if lo < slo + (p.by_ what).1 then slo + (p.by_ what).1 else lo) = max lo (slo + (p.by_ what).1) := by split <;> omega
              have h2 : (if shi + (p.by_ what).2 < hi then shi + (p.by_ what).2 else hi) = min hi (shi + (p.by_ what).2) := by split <;> omega
              rw [h1, h2]
              have hq := heap_setCell_at (k := 1) (heap_setCell_at (k := 0) HF.out.2.1 (.int .i64 (max lo (slo + (p.by_ what).1)))) (.int .i64 (min hi (shi + (p.by_ what).2)))
              have h6 : ((w6.setCell ⟨bq, 0, none⟩ (.int .i64 (max lo (slo + (p.by_ what).1)))).setCell ⟨bq, 1, none⟩ (.int .i64 (min hi (shi + (p.by_ what).2)))).heap[w.heap.size]? = some (.cells #[.int .i64 0, .int .i64 0] 24 (0, 0)) :=
                (Below.heap_setCell _ _ _ _ hne).trans ((Below.heap_setCell _ _ _ _ hne).trans HF.out.2.2)
              exact ⟨j + 1, _, _, by omega, by go_num, (HF.out.1.setCell hbqw _).setCell hbqw _, hq, h6, by rw [Hid, HG.out, HD.out, HE.out.2], by omega, by omega, by omega, by omega⟩
            case measure => simp [intOf]; omega
        · have heb : (gi wl j == (card : Int)) = false := by simpa using he
          have heb' : (gi wl j != (card : Int)) = true := by simpa using he
          have HE := Lib.hid (goW_skip (p.by_ what) (whatF p wl what d) wl card (lo, hi) hlt he)
          clear he hww cb0 cb1 hs4
          go_wp2_with fail
          go_roundw
          case rel => exact ⟨j + 1, lo, hi, by omega, by go_num, hbr, HBQ, HB6, by rw [Hid, HG.out, HE.out], hlo0, hlo1, hhi0, hhi1⟩
          case measure => simp [intOf]; omega
      · obtain rfl : j = wl.length := by omega
        have HD := Lib.hid (goW_end (p.by_ what) (whatF p wl what d) wl card (lo, hi) wl.length)
        have hlb := heap_lt HBQ.out
        go_wp2_with fail
        clear cb0 cb1 hww
        refine what11 (fun e => hne e.symm) HBQ HB6 ?_
        intro x63 x64 x65 x66 x67 x68 x7 w8 hs8 e7 hk8
        subst e7
        have HK8 := Lib.hid (And.intro hs8 hk8)
        clear hs8 hk8
        go_wp2_with fail
        have hR' : R = ((lo, hi), decide (lo ≤ hi)) := by rw [HG.out, HD.out]
        subst hR'
        have hk8 := HK8.out.2
        refine bodyPost_ret (v := .tuple #[.agg #[.int .i64 lo, .int .i64 hi], .bool (decide (lo ≤ hi))]) (res_c24t rfl _ rfl rfl (by rw [cell_of_heap hk8]; rfl) (by rw [cell_of_heap hk8]; rfl)) rfl ⟨rfl, ?_⟩
        exact hbr.trans (Same.below HK8.out.1 hbr.size (fun k hk e => by omega))
end Go.Proofs.Ytnfhlbmapfoifaa

namespace Go.Proofs.Ytnfhlbmapfoifaa
open Go.RowKit
set_option linter.unusedVariables false

theorem heap4 (w : World) (a b d e : Obj) : let W := (((w.alloc a).alloc b).alloc d).alloc e
    W.heap[w.heap.size]? = some a ∧ W.heap[w.heap.size + 1]? = some b ∧ W.heap[w.heap.size + 1 + 1]? = some d ∧ W.heap[w.heap.size + 1 + 1 + 1]? = some e := by
  have q0 := World.alloc_heap_new w a
  have q1 := World.alloc_heap_new (w.alloc a) b
  have q2 := World.alloc_heap_new ((w.alloc a).alloc b) d
  have q3 := World.alloc_heap_new (((w.alloc a).alloc b).alloc d) e
  simp only [World.size_alloc] at q1 q2 q3
  refine ⟨?_, ?_, ?_, q3⟩
  · exact (Below.heap_alloc _ _ _ (by simp only [World.size_alloc]; omega)).trans ((Below.heap_alloc _ _ _ (by simp only [World.size_alloc]; omega)).trans ((Below.heap_alloc _ _ _ (by simp only [World.size_alloc]; omega)).trans q0))
  · exact (Below.heap_alloc _ _ _ (by simp only [World.size_alloc]; omega)).trans ((Below.heap_alloc _ _ _ (by simp only [World.size_alloc]; omega)).trans q1)
  · exact (Below.heap_alloc _ _ _ (by simp only [World.size_alloc]; omega)).trans q2
theorem canB_true {p : Prs} {wl : List Int} {what : Bool} (h : ∀ c, c < wl.length → (!decide (gi wl c = -1) || (whatF p wl what (wl.length + 1) c).2) = true) : canB p wl what = true :=
  List.all_eq_true.2 fun c hc => h c (List.mem_range.1 hc)
theorem canB_false {p : Prs} {wl : List Int} {what : Bool} {c : Nat} (hc : c < wl.length) (h1 : gi wl c = -1) (h2 : (whatF p wl what (wl.length + 1) c).2 = false) : canB p wl what = false :=
  List.all_eq_false.2 ⟨c, List.mem_range.2 hc, by simp [h1, h2]⟩
abbrev lossV (p : Prs) (what : Bool) : Value := .agg #[.func (.func (ofF what)) #[] #[], .int .i64 (p.by_ what).1, .int .i64 (p.by_ what).2]
set_option maxRecDepth 100000 in
set_option maxHeartbeats 2000000 in
theorem can_any {p : Prs} {a : Option Addr} {cap bp g : Nat} {wl : List Int} {aw : Option Addr} {cw : Nat} {w : World} (hv : p.valid = true) (hl : wl.length = p.cards.length) (hr : roundB wl = false) (what : Bool) (hP : PileP w bp p a cap g) (hi : IsInts w aw wl) :
    Calls Try.prog 113 #[.pointer (some ⟨bp, 0, none⟩), .slice aw wl.length cw, lossV p what] w fun e w' => e = .returned (.bool (canB p wl what)) ∧ Below w.heap.size w w' := by
  have hmf : ∀ (fn : Fn) (first cap : Array Value) (w : World), (Instr.makeFunc fn first cap).run Try.prog w = .ok (.func fn first cap) w := fun _ _ _ _ => rfl
  have hn5 := (valid_parts hv).1
  have hll : wl.length ≤ 5 := by omega
  obtain ⟨self, hself⟩ : ∃ self : Value, self = .func (.func 119) #[] #[.pointer (some ⟨w.heap.size + 1 + 1, 0, none⟩), .pointer (some ⟨w.heap.size, 0, none⟩), .pointer (some ⟨w.heap.size + 1, 0, none⟩), .pointer (some ⟨w.heap.size + 1 + 1 + 1, 0, none⟩)] := ⟨_, rfl⟩
  obtain ⟨W1, hW1⟩ : ∃ W1 : World, W1 = (((w.alloc (.cells #[.pointer (some ⟨bp, 0, none⟩)] 79)).alloc (.cells #[.slice aw wl.length cw] 76)).alloc (.cells #[.func (.func (ofF what)) #[] #[], .int .i64 (p.by_ what).1, .int .i64 (p.by_ what).2] 120)).alloc (.cells #[self] 143) := ⟨_, rfl⟩
  have hb1 : Below w.heap.size w W1 := by
    rw [hW1]
    exact ((((Below.refl _ w).alloc (Nat.le_refl _) _).alloc (by simp) _).alloc (by simp; omega) _).alloc (by simp; omega) _
  obtain ⟨q0, q1, q2, q3⟩ := heap4 w (.cells #[.pointer (some ⟨bp, 0, none⟩)] 79) (.cells #[.slice aw wl.length cw] 76) (.cells #[.func (.func (ofF what)) #[] #[], .int .i64 (p.by_ what).1, .int .i64 (p.by_ what).2] 120) (.cells #[self] 143)
  rw [← hW1] at q0 q1 q2 q3
  have HWW : Hid (∀ v, Below W1.heap.size W1 v → WhatW v (w.heap.size + 1 + 1) w.heap.size (w.heap.size + 1) (w.heap.size + 1 + 1 + 1) what p a cap bp g wl aw cw) := by
    rw [hself] at q3
    exact fun v hb => WhatW.mono ⟨q2, q0, q1, q3, hP.mono hb1, hi.mono hb1⟩ hb
  have HB1 := Lib.hid hb1
  have HW1 := Lib.hid hW1
  have HSELF := Lib.hid hself
  have HV := Lib.hid (And.intro hv (And.intro hl hr))
  clear hW1 hb1 q0 q1 q2 q3 hself hP hi hv hl hr
  go_enter Try.func113, Try.ntmps113
  go_wp2_with fail
  have hs := HSELF.out
  rw [← hs]
  have hW1 := HW1.out
  rw [← hW1]
  clear hs hW1
  have hww := HWW.out W1 (Below.refl _ _)
  have cw0 : W1.cell? ⟨w.heap.size + 1, 0, none⟩ = some (.slice aw wl.length cw) := by rw [cell_of_heap hww.hw]; rfl
  clear hww
  go_wp2_with fail
  clear cw0
  go_loopw [15] (fun i wr => ∃ k : Nat, k ≤ wl.length ∧ i = .int .i64 k ∧ Below W1.heap.size W1 wr ∧ Hid (∀ c, c < k → (!decide (gi wl c = -1) || (whatF p wl what (wl.length + 1) c).2) = true)) (fun i _ => wl.length - (intOf i).toNat)
  case atStart => exact ⟨0, by omega, rfl, Below.refl _ _, fun c hc => by omega⟩
  case round =>
    obtain ⟨k, hk, rfl, hbr, HK⟩ := hrel
    by_cases hlt : k < wl.length
    · have hww := HWW.out wr hbr
      have hkn : k < p.cards.length := by have := HV.out.2.1; omega
      have hcall := what_any (what := what) HV.out.1 HV.out.2.1 (wl.length + 1) k wr (dep_of HV.out.2.2 hlt) hkn (by omega) hww
      obtain ⟨b2, o2, haw, hwj⟩ := hww.hi k hlt
      subst haw
      have hs4 : wr.cell? ⟨w.heap.size + 1 + 1 + 1, 0, none⟩ = some (.func (.func 119) #[] #[.pointer (some ⟨w.heap.size + 1 + 1, 0, none⟩), .pointer (some ⟨w.heap.size, 0, none⟩), .pointer (some ⟨w.heap.size + 1, 0, none⟩), .pointer (some ⟨w.heap.size + 1 + 1 + 1, 0, none⟩)]) := by rw [cell_of_heap hww.hs]; rfl
      obtain ⟨S, hS⟩ : ∃ S, whatF p wl what (wl.length + 1) k = S := ⟨_, rfl⟩
      rw [hS] at hcall
      obtain ⟨⟨slo, shi⟩, sok⟩ := S
      dsimp only at hcall
      have HS := Lib.hid hS
      clear hS hww
      have HNX : Hid ((!decide (gi wl k = -1) || sok) = true → ∀ c, c < k + 1 → (!decide (gi wl c = -1) || (whatF p wl what (wl.length + 1) c).2) = true) := fun h c hc => by
        by_cases e : c = k
        · subst e; rw [HS.out]; exact h
        · exact HK.out c (by omega)
      by_cases h1 : gi wl k = -1
      · have hb : (gi wl k == -1) = true := by simpa using h1
        have H1 := Lib.hid h1
        clear h1
        go_wp2_with fail
        (with_reducible refine hcall.mono ?_)
        clear hcall
        rintro e w5 ⟨rfl, hb5⟩
        have hB5 : Below W1.heap.size W1 (w5.alloc (.cells #[.int .i64 slo, .int .i64 shi] 24)) := (hbr.trans (hb5.mono hbr.size)).alloc (by have := hbr.size; have := hb5.size; omega) _
        clear hb5 hs4 hwj
        cases sok with
        | true =>
          go_wp2_with fail
          go_roundw
          case rel => exact ⟨k + 1, by omega, by go_num, hB5, HNX.out (by simp)⟩
          case measure => simp [intOf]; omega
        | false =>
          go_wp2_with fail
          go_ret
          exact ⟨ret_bool (by rw [canB_false hlt H1.out (by rw [HS.out])]), HB1.out.trans (hB5.mono HB1.out.size)⟩
      · have hb : (gi wl k == -1) = false := by simpa using h1
        have H1 := Lib.hid h1
        clear h1
        go_wp2_with fail
        (with_reducible refine hcall.mono ?_)
        clear hcall
        rintro e w5 ⟨rfl, hb5⟩
        have hB5 : Below W1.heap.size W1 (w5.alloc (.cells #[.int .i64 slo, .int .i64 shi] 24)) := (hbr.trans (hb5.mono hbr.size)).alloc (by have := hbr.size; have := hb5.size; omega) _
        clear hb5 hs4 hwj
        go_wp2_with fail
        all_goals try refine ⟨fun _ _ => trivial, ?_⟩
        all_goals try go_wp2_with fail
        go_roundw
        case rel => exact ⟨k + 1, by omega, by go_num, hB5, HNX.out (by simp [H1.out])⟩
        case measure => simp [intOf]; omega
    · obtain rfl : k = wl.length := by omega
      go_wp2_with fail
      go_ret
      exact ⟨ret_bool (by rw [canB_true HK.out]), HB1.out.trans (hbr.mono HB1.out.size)⟩
end Go.Proofs.Ytnfhlbmapfoifaa

