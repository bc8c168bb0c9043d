/- All plans: those of two formes, the other one. All plans: those of two formes, how often the one is printed. All plans: those of two formes. All plans: the iterator. All plans: the iterator. A range over a function, by the list of what is still to come: a round's assignment lays new blocks. The plans that are looked at: what they are. The cheapest plan: what is kept, and the drawn regions. -/
import Derived.Test.YtjkhclijmcmdjaaC11
namespace Go.Proofs.Ytjkhclijmcmdjaa
open Go.RowKit
set_option linter.unusedVariables false
set_option linter.unusedSimpArgs false
theorem slice115 {b off n c i : Nat} (h : i < n) (hn : n ≤ c) (w : World) : (Instr.slice 115 (.slice (some ⟨b, off, none⟩) n c) (some (.int .i64 (i : Int))) none none).run Try.prog w = .ok (.slice (some ⟨b, off + i, none⟩) (n - i) (c - i)) w := by
  have hi2 : i ≤ n := by omega
  have hc : c - i ≠ 0 := by omega
  have hic : i ≤ c := by omega
  obtain ⟨i0, hi0, hz0, hz1, hz2⟩ := info_parts infoR
  simp [Instr.slice, run_underlying Try.underlying115, Instr.sliceBounds, sizeOf, typeInfo, hi0, hz1, go_sem, h, hn, hi2, hic, hc, Addr.add]
  rw [if_neg (by omega : ¬ c = i)]
  by_cases h0 : i = 0
  · subst h0; simp
  · rw [if_neg h0]
theorem slotsF_mem (room : Int) : ∀ (d : Nat) (pre x : List Int) (left : Nat), x ∈ slotsF room d pre left → ∃ y : List Int, x = pre ++ y ∧ y.length = d ∧ (∀ z ∈ y, 0 ≤ z ∧ z ≤ left) ∧ 0 ≤ sumL y ∧ sumL y ≤ left ∧ left - sumL y < room
  | 0, pre, x, left, h => by
    unfold slotsF at h
    split at h
    · next hl =>
      rw [List.mem_singleton] at h
      exact ⟨[], by simp [h], rfl, fun z hz => (by cases hz), by simp [sumL], by simp [sumL], by simp [sumL]; omega⟩
    · cases h
  | d + 1, pre, x, left, h => by
    rw [slotsF_succ, List.mem_flatMap] at h
    obtain ⟨n, hn, hx⟩ := h
    have hn2 : n < left + 1 := by simpa using hn
    obtain ⟨y, h1, h2, h3, h4, h5, h6⟩ := slotsF_mem room d _ x _ hx
    have e : ((left - n : Nat) : Int) = (left : Int) - n := by omega
    rw [e] at h3 h5 h6
    refine ⟨(n : Int) :: y, by rw [h1]; simp, by simp [h2], fun z hz => ?_, by simp only [sumL]; omega, by simp only [sumL]; omega, by simp only [sumL]; omega⟩
    rcases List.mem_cons.1 hz with hz | hz
    · omega
    · have := h3 z hz; omega
theorem slots_ok {p : Prs} (hV : p.valid = true) {x : List Int} (h : x ∈ p.slots) : x.length = p.wanted.length ∧ (∀ z ∈ x, 0 ≤ z ∧ z ≤ 6) ∧ 1 ≤ sumL x ∧ sumL x ≤ p.room := by
  have hr := room_of hV
  obtain ⟨y, h1, h2, h3, h4, h5, h6⟩ := slotsF_mem _ _ _ _ _ h
  rw [List.nil_append] at h1
  subst h1
  exact ⟨h2, fun z hz => by have := h3 z hz; omega, by omega, by omega⟩
theorem slots_R {p : Prs} (hV : p.valid = true) {x : List Int} (h : x ∈ p.slots) : SlotsR p x := by
  obtain ⟨h1, h2, _⟩ := slots_ok hV h
  exact ⟨h1, fun k hk => h2 _ (by simp [gi, hk])⟩
theorem slots_fme {p : Prs} (hV : p.valid = true) {x : List Int} (h : x ∈ p.slots) {t : Int} (h0 : 1 ≤ t) (h1 : t ≤ 1048576) : fmeOk p ⟨x, t⟩ = true := by
  obtain ⟨h2, h3, h4, h5⟩ := slots_ok hV h
  unfold fmeOk
  simp only [Bool.and_eq_true, decide_eq_true_eq, inR, List.all_eq_true]
  exact ⟨⟨⟨h2, fun z hz => ⟨(h3 z hz).1, (h3 z hz).2⟩⟩, h4, h5⟩, h0, h1⟩
theorem enough_bd (p : Prs) {n : Int} (h0 : 0 ≤ n) (h1 : n ≤ 66) : 1 ≤ max 1 (p.enough n) ∧ max 1 (p.enough n) ≤ 268 := by
  have h := (enough_spec p n).1
  rw [enough_eq]
  omega
/-- How plans that are handed over are taken, in the end. -/
def PlEnd (W : World) (M : Nat → Prop) (F : Nat → Option Obj) (J : List (List Fme) → World → (Nat → Prop) → Prop) (rem : List (List Fme)) (B : World) : Prop := ∃ C' : Nat → Prop, PlC W M F B C' ∧ J rem B C'
noncomputable def pln20C : Code := (Try.f75.body.bind (fromRegion 20)).getD .skip
set_option maxRecDepth 100000 in
set_option maxHeartbeats 4000000 in
theorem pln20 {p : Prs} {A0 : PrsA} {bp b1 l b16 i cw cf : Nat} {aw af : Option Addr} {f : Fme} {W : World} {M : Nat → Prop} {F : Nat → Option Obj} {J Jx : List (List Fme) → World → (Nat → Prop) → Prop} {rem : List (List Fme)} {w0 : World} {Q : Exit → Act → World → Prop}
    (HH : Hid (PlH p A0 bp b1 l W M J Jx)) (HA : Hid (∀ A, FixF F A → AllI W.heap.size A aw p.slots)) (HF : Hid (∀ A, FixF F A → A.heap[b16]? = some (.cells (f.arr af cf) 29 (0, 0)) ∧ IsIntsB W.heap.size A af f.slots)) (HO : Hid (fmeOk p f = true)) (hcw : p.slots.length ≤ cw) (hi : i < p.slots.length) (hFW : Hid (∀ k o, F k = some o → W.heap.size ≤ k))
    (HC : Hid (∃ C, PlC W M F w0 C ∧ J (((p.slots.drop i).flatMap (p.two f)) ++ rem) w0 C))
    {s2 s4 s6 s7 s8 s9 s10 s11 s12 s14 s15 s18 s19 s20 s21 s22 s23 s24 s25 s26 s27 s28 s29 s30 s31 s32 s33 s34 s35 s36 s37 s38 s39 s40 s41 s42 s43 s44 s45 s46 s47 s48 s49 s50 s51 s52 s53 s54 s55 s56 s57 s58 s59 s60 s61 s62 s63 s64 s65 s66 s67 s68 s69 s70 s71 s72 s73 s74 s75 s76 s77 s78 s79 s80 s81 s82 s83 s84 s85 s86 s87 s88 s89 s90 s91 s92 s93 s94 s95 s96 s97 s98 s99 s100 s101 s102 s103 s104 s105 s106 s107 s108 s109 s110 s111 s112 s113 s114 s115 s116 s117 s118 s119 s120 s121 s122 s123 s124 s125 s126 s127 s128 s129 s130 s131 s132 s133 s134 s135 s136 s137 s138 s139 s140 s141 s142 s143 : Value}
    (hdone : Hid (∀ (q19 q20 q21 q112 q113 q114 q115 q116 q117 q118 q119 q120 q121 q122 q123 q124 q125 q126 q127 q128 q129 q130 q131 q132 q133 q134 q135 q136 q137 q138 q139 q140 q141 q142 : Value) (w' : World), PlEnd W M F J rem w' → Q .normal { tmps := #[.func (.yield l) #[] #[], .pointer (some ⟨b1, 0, none⟩), s2, .func (.func 76) #[] #[.pointer (some ⟨b1, 0, none⟩)], s4, .slice aw p.slots.length cw, s6, s7, s8, s9, s10, s11, s12, .int .i64 (i : Int), s14, s15, .pointer (some ⟨b16, 0, none⟩), .func (.func 83) #[] #[.pointer (some ⟨b1, 0, none⟩), .pointer (some ⟨b16, 0, none⟩)], s18, q19, q20, q21, s22, s23, s24, s25, s26, s27, s28, s29, s30, s31, s32, s33, s34, s35, s36, s37, s38, s39, s40, s41, s42, s43, s44, s45, s46, s47, s48, s49, s50, s51, s52, s53, s54, s55, s56, s57, s58, s59, s60, s61, s62, s63, s64, s65, s66, s67, s68, s69, s70, s71, s72, s73, s74, s75, s76, s77, s78, s79, s80, s81, s82, s83, s84, s85, s86, s87, s88, s89, s90, s91, s92, s93, s94, s95, s96, s97, s98, s99, s100, s101, s102, s103, s104, s105, s106, s107, s108, s109, s110, s111, q112, q113, q114, q115, q116, q117, q118, q119, q120, q121, q122, q123, q124, q125, q126, q127, q128, q129, q130, q131, q132, q133, q134, q135, q136, q137, q138, q139, q140, q141, q142, s143], defers := [] } w'))
    (hret : Hid (∀ (tm : Array Value) (w' : World), (∃ (C' : Nat → Prop) (i : List (List Fme)), Jx i w' C') → Q .ret { tmps := tm, defers := [] } w')) :
    Code.wp Try.prog pln20C Q { tmps := #[.func (.yield l) #[] #[], .pointer (some ⟨b1, 0, none⟩), s2, .func (.func 76) #[] #[.pointer (some ⟨b1, 0, none⟩)], s4, .slice aw p.slots.length cw, s6, s7, s8, s9, s10, s11, s12, .int .i64 (i : Int), s14, s15, .pointer (some ⟨b16, 0, none⟩), .func (.func 83) #[] #[.pointer (some ⟨b1, 0, none⟩), .pointer (some ⟨b16, 0, none⟩)], s18, s19, s20, s21, s22, s23, s24, s25, s26, s27, s28, s29, s30, s31, s32, s33, s34, s35, s36, s37, s38, s39, s40, s41, s42, s43, s44, s45, s46, s47, s48, s49, s50, s51, s52, s53, s54, s55, s56, s57, s58, s59, s60, s61, s62, s63, s64, s65, s66, s67, s68, s69, s70, s71, s72, s73, s74, s75, s76, s77, s78, s79, s80, s81, s82, s83, s84, s85, s86, s87, s88, s89, s90, s91, s92, s93, s94, s95, s96, s97, s98, s99, s100, s101, s102, s103, s104, s105, s106, s107, s108, s109, s110, s111, s112, s113, s114, s115, s116, s117, s118, s119, s120, s121, s122, s123, s124, s125, s126, s127, s128, s129, s130, s131, s132, s133, s134, s135, s136, s137, s138, s139, s140, s141, s142, s143], defers := [] } w0 := by
  conv => arg 2; whnf
  have hn := slots_len HH.out.hV
  have hw4 := wanted_of HH.out.hV
  obtain ⟨C0, hC0, hj0⟩ := HC.out
  obtain ⟨b, off, haw, _⟩ := HA.out w0 hC0.fixF i hi
  subst haw
  have hsl := fun w => slice115 (b := b) (off := off) (c := cw) hi hcw w
  have HC0 := Lib.hid (And.intro hC0 hj0)
  clear hC0 hj0
  refine wp_seq_hid ?_
  intro K0 HK0
  go_wp2_with fail
  refine HK0.out _ _ ?_
  clear HK0 K0 hsl
  refine wp_block ?_
  go_loopw [116] (fun q wr => ∃ j : Nat, j ≤ p.slots.length - i ∧ q = .int .i64 (j : Int) ∧ Hid (∃ C, PlC W M F wr C ∧ J ((((p.slots.drop i).drop j).flatMap (p.two f)) ++ rem) wr C)) (fun q _ => p.slots.length - i - (intOf q).toNat)
  case atStart => exact ⟨0, by omega, rfl, C0, by rw [List.drop_zero]; exact HC0.out⟩
  case round =>
    obtain ⟨j, hj, rfl, HR⟩ := hrel
    obtain ⟨C, hC, hJ⟩ := HR.out
    have hlen : (p.slots.drop i).length = p.slots.length - i := List.length_drop
    by_cases hlt : j < p.slots.length - i
    · have hlt2 : j < (p.slots.drop i).length := by rw [hlen]; exact hlt
      rw [flat_drop _ hlt2, List.append_assoc] at hJ
      have hij : i + j < p.slots.length := by omega
      have hel : (p.slots.drop i)[j] = p.slots[i + j] := List.getElem_drop
      rw [hel] at hJ
      obtain ⟨b', off', he, ai, ci, hc1, hc2⟩ := HA.out wr hC.fixF (i + j) hij
      cases he
      rw [← Nat.add_assoc] at hc1
      have hmem : p.slots[i + j] ∈ p.slots := List.getElem_mem hij
      have hpr := HH.out.press wr hC.same
      have k1 := hpr.1
      have hf := HF.out wr hC.fixF
      have HSR := Lib.hid (And.intro (slots_R HH.out.hV hmem) hmem)
      have HTF := Lib.hid (rest80 (c := ci) hpr.2 HH.out.hV hc2.1 HSR.out.1 (hasFme hpr.2 (spoil_of HH.out.hV) hpr.1 hf.1 hf.2.1 (fun v hv => fmeR_of HO.out hv)))
      have HX := Lib.hid (And.intro hC (And.intro hJ (And.intro hf hc2)))
      clear hC hJ hf hc2 hpr hmem hel hlt2 HR
      revert HSR HTF HX hc1
      generalize p.slots[i + j] = x
      intro hc1 HSR HTF HX
      obtain ⟨o, ho⟩ : ∃ o, p.rest x (fun v => (p.gives f v).lo) = o := ⟨_, rfl⟩
      rw [ho] at HTF
      have HOO := Lib.hid ho
      clear ho
      go_upto_region 23 with fail
      clear hc1
      cases o with
      | none =>
        have HT0 : Hid (p.two f x = []) := by rw [Hid]; unfold Prs.two; rw [HOO.out]
        have HT2 : Hid (Calls Try.prog 80 #[.pointer (some ⟨bp, 0, none⟩), .slice ai x.length ci, .func (.func 83) #[] #[.pointer (some ⟨b1, 0, none⟩), .pointer (some ⟨b16, 0, none⟩)]] wr fun e w' => e = .returned (.tuple #[.int .i64 0, .bool false]) ∧ Below wr.heap.size wr w') := HTF.out.mono fun e w' h => ⟨h.1, h.2.2⟩
        clear HTF
        go_wp2_with fail
        refine HT2.out.mono ?_
        rintro e w3 ⟨rfl, hb⟩
        have H3 : Hid (PlC W M F w3 C ∧ J ((((p.slots.drop i).drop (j + 1)).flatMap (p.two f)) ++ rem) w3 C) := by
          have h1 := HX.out.2.1
          rw [HT0.out, List.nil_append] at h1
          exact ⟨HX.out.1.below hb, HH.out.jb h1 hb⟩
        clear hb HX k1
        go_wp2_with fail
        go_roundw
        case rel => exact ⟨j + 1, by omega, by go_num, C, H3.out⟩
        case measure => simp [intOf]; omega
      | some m =>
        have HT0 : Hid (p.two f x = [[f, ⟨x, max 1 (p.enough m)⟩]]) := by rw [Hid]; unfold Prs.two; rw [HOO.out]
        have HT2 : Hid (Calls Try.prog 80 #[.pointer (some ⟨bp, 0, none⟩), .slice ai x.length ci, .func (.func 83) #[] #[.pointer (some ⟨b1, 0, none⟩), .pointer (some ⟨b16, 0, none⟩)]] wr fun e w' => e = .returned (.tuple #[.int .i64 m, .bool true]) ∧ (0 ≤ m ∧ m ≤ 66) ∧ Below wr.heap.size wr w') := HTF.out.mono fun e w' h => ⟨h.1, h.2.1 m rfl, h.2.2⟩
        clear HTF
        go_wp2_with fail
        refine HT2.out.mono ?_
        rintro e w3 ⟨rfl, hm, hb⟩
        have H3 : Hid (PlC W M F w3 C ∧ J ([f, ⟨x, max 1 (p.enough m)⟩] :: ((((p.slots.drop i).drop (j + 1)).flatMap (p.two f)) ++ rem)) w3 C ∧ IsInts w3 ai x) := by
          have h1 := HX.out.2.1
          rw [HT0.out] at h1
          exact ⟨HX.out.1.below hb, HH.out.jb h1 hb, HX.out.2.2.2.1.mono hb⟩
        have HBD : Hid ((∀ b o, af = some ⟨b, o, none⟩ → W.heap.size ≤ b) ∧ ∀ b o, ai = some ⟨b, o, none⟩ → W.heap.size ≤ b) := ⟨HX.out.2.2.1.2.2, HX.out.2.2.2.2⟩
        have HM := Lib.hid hm
        clear hb HX k1 hm
        obtain ⟨y, hy⟩ : ∃ y : List Fme, y = [f, ⟨x, max 1 (p.enough m)⟩] := ⟨_, rfl⟩
        have hb := enough_bd p HM.out.1 HM.out.2
        have HCR : Hid (CostR p y) := by
          have h1 := pence_of HH.out.hV
          refine ⟨h1.1, h1.2.1, by rw [hy]; simp, fun g hg => ?_⟩
          rw [hy] at hg
          rcases List.mem_cons.1 hg with rfl | hg
          · exact (fmeR_of HO.out (v := 0) (by omega)).times
          · rw [List.mem_singleton.1 hg]; show 0 ≤ max 1 (p.enough m) ∧ max 1 (p.enough m) ≤ 1048576; omega
        have HYC : Hid (fmC y [(af, cf), (ai, ci)] = [.slice af f.slots.length cf, .int .i64 f.times, .slice ai x.length ci, .int .i64 (max 1 (p.enough m))]) := by rw [hy]; rfl
        have HYL : Hid (y.length = 2 ∧ gf y 0 = f ∧ (gf y 1).slots = x) := by rw [hy]; exact ⟨rfl, rfl, rfl⟩
        rw [← hy] at H3
        clear hy hb
        go_upto_region 25 with fail
        refine wpIn_wide.1 (pln25 (l := l) (b1 := b1) (bp := bp) (b16 := b16) (as_ := af) (ns := f.slots.length) (cs := cf) (nn := f.times) (at_ := ai) (nt := x.length) (ct := ci) (m := m) (e1 := p.enough m) (pc := p.cost y)
          (S0 := fun v => Below w3.heap.size w3 v) (S1 := fun _ v => Below w3.heap.size w3 v)
          (S2 := fun _ g v => Below w3.heap.size w3 v ∧ PlM v g y [(af, cf), (ai, ci)] ∧ w3.heap.size ≤ g) (S3 := fun _ g _ v => Below w3.heap.size w3 v ∧ PlM v g y [(af, cf), (ai, ci)] ∧ w3.heap.size ≤ g)
          (S4 := fun _ g _ r v => PlPost W M F J Jx ((((p.slots.drop i).drop (j + 1)).flatMap (p.two f)) ++ rem) r v) ?h0 ?l2 ?l4 ?c6 ?c9 ?c10 ?c11 ?hQ)
        case h0 => exact (Below.refl _ _).drew
        case l2 =>
          intro r1 v h
          have hv : Below w3.heap.size w3 v := h.elim id id
          have hf := (HF.out v (H3.out.1.below hv).fixF).1
          exact ⟨by rw [cell_of_heap hf]; rfl, by rw [cell_of_heap hf]; rfl⟩
        case l4 => exact fun v h => (HH.out.press v (H3.out.1.below h).same).1
        case c6 => exact fun v h => (enough81 (HH.out.press v (H3.out.1.below h).same).2 (spoil_of HH.out.hV) HM.out.1 (by have := HM.out.2; omega)).mono (by rintro e w' ⟨rfl, hb⟩; exact ⟨(), rfl, h.trans (hb.mono h.size)⟩)
        case c9 =>
          intro r1 v h
          have hba : Below v.heap.size v (v.alloc (.cells #[.slice af f.slots.length cf, .int .i64 f.times, .slice ai x.length ci, .int .i64 (max 1 (p.enough m))] 29)) := (Below.refl _ _).alloc (Nat.le_refl _) _
          have hq := World.alloc_heap_new v (.cells #[.slice af f.slots.length cf, .int .i64 f.times, .slice ai x.length ci, .int .i64 (max 1 (p.enough m))] 29)
          refine ⟨h.trans (hba.mono h.size), ⟨by rw [hq, HYC.out], by rw [HYL.out.1]; rfl, fun k r hr => ?_⟩, h.size⟩
          have hk : k < 2 := by have := (List.getElem?_eq_some_iff.1 hr).1; simpa using this
          have hf := (HF.out _ ((H3.out.1.below h).below hba).fixF).2
          match k, hk with
          | 0, _ => simp at hr; subst hr; rw [HYL.out.2.1]; exact hf.1
          | 1, _ => simp at hr; subst hr; rw [HYL.out.2.2]; exact (H3.out.2.2.mono h).mono hba
        case c10 =>
          intro r1 g v h
          have hp := HH.out.press v (H3.out.1.below h.1).same
          have hc := made76 (c := 2) hp.2 hp.1 h.2.1.fmes HCR.out
          rw [HYL.out.1] at hc
          refine hc.mono ?_
          rintro e w' ⟨rfl, hb⟩
          exact ⟨(), rfl, h.1.trans (hb.mono h.1.size), h.2.1.mono hb, h.2.2⟩
        case c11 =>
          intro r1 g r3 v h
          have hC := H3.out.1.below h.1
          have hWw := H3.out.1.same.size
          refine yield_plan (K := fun k => k = g) HH.out hC (.inr ⟨g, [(af, cf), (ai, ci)], by rw [HYL.out.1], h.2.1, by have := h.2.2; omega, fun r hr b o e => ?_, rfl⟩) (fun k hk hc => ?_) (fun k hk => ?_) (HH.out.jb H3.out.2.1 h.1)
          · rcases List.mem_cons.1 hr with rfl | hr
            · refine ⟨HBD.out.1 b o e, ?_⟩
              have h1 := (HF.out w3 H3.out.1.fixF).2.1
              rw [show af = some ⟨b, o, none⟩ from e] at h1
              have h2 := ints_lt h1 (by rw [(show f.slots.length = p.wanted.length from by have := HO.out; unfold fmeOk at this; simp only [Bool.and_eq_true, decide_eq_true_eq] at this; exact this.1.1.1)]; omega)
              have := h.2.2; omega
            · rw [List.mem_singleton.1 hr] at e
              refine ⟨HBD.out.2 b o e, ?_⟩
              have h1 := H3.out.2.2
              rw [show ai = some ⟨b, o, none⟩ from e] at h1
              have h2 := ints_lt h1 (by rw [HSR.out.1.len]; omega)
              have := h.2.2; omega
          · have := H3.out.1.bd k hc; have := h.2.2; omega
          · subst hk
            cases hF : F k with
            | none => rfl
            | some o => have := heap_lt (H3.out.1.fix k o hF).1; have := h.2.2; omega
        intro r1 g r3 r w' hres
        have HRS : Hid (PlPost W M F J Jx ((((p.slots.drop i).drop (j + 1)).flatMap (p.two f)) ++ rem) r w') := hres
        clear hres
        cases r with
        | true =>
          go_wp2_with fail
          go_roundw
          case rel =>
            obtain ⟨C2, k1, k2⟩ := HRS.out.1 rfl
            exact ⟨j + 1, by omega, by go_num, C2, k1, k2⟩
          case measure => simp [intOf]; omega
        | false =>
          go_wp2_with fail
          exact hret.out _ _ (HRS.out.2 rfl)
    · have hke : (p.slots.drop i).drop j = [] := List.drop_eq_nil_of_le (by omega)
      rw [hke, List.flatMap_nil, List.nil_append] at hJ
      have HE : Hid (PlEnd W M F J rem wr) := ⟨C, hC, hJ⟩
      clear hC hJ HR hke
      go_wp2_with fail
      exact hdone.out _ _ _ _ _ _ _ _ _ _ _ _ _ _ _ _ _ _ _ _ _ _ _ _ _ _ _ _ _ _ _ _ _ _ _ HE.out
end Go.Proofs.Ytjkhclijmcmdjaa
namespace Go.Proofs.Ytjkhclijmcmdjaa
open Go.RowKit
set_option linter.unusedVariables false
set_option linter.unusedSimpArgs false
theorem maxL_bd {p : Prs} (hV : p.valid = true) : 0 ≤ maxL p.wanted ∧ maxL p.wanted ≤ 60 := by
  have hw := wanted_of hV
  have hall : ∀ k, k < p.wanted.length → 0 ≤ gi p.wanted k ∧ gi p.wanted k ≤ 60 := fun k hk => wants_bd hV hk
  have hm : ∀ k, 0 < k → k ≤ p.wanted.length → 0 ≤ maxL (p.wanted.take k) ∧ maxL (p.wanted.take k) ≤ 60 := by
    intro k
    induction k with
    | zero => intro h; omega
    | succ k ih =>
      intro _ hk
      by_cases h0 : k = 0
      · subst h0
        have e : maxL (p.wanted.take 1) = gi p.wanted 0 := by
          cases h : p.wanted with
          | nil => rw [h] at hw; simp at hw
          | cons x r => simp [maxL, gi]
        rw [e]; exact hall 0 (by omega)
      · rw [maxL_take (by omega) (by omega)]
        have h1 := ih (by omega) (by omega)
        have h2 := hall k (by omega)
        omega
  have := hm p.wanted.length (by omega) (Nat.le_refl _)
  rwa [List.take_length] at this
theorem most_bd {p : Prs} (hV : p.valid = true) : 1 ≤ p.most ∧ p.most ≤ 268 :=
  enough_bd p (maxL_bd hV).1 (by have := maxL_bd hV; omega)
noncomputable def pln15C : Code := (Try.f75.body.bind (fromRegion 15)).getD .skip
set_option maxRecDepth 100000 in
set_option maxHeartbeats 4000000 in
theorem pln15 {p : Prs} {A0 : PrsA} {bp b1 l i cw ci : Nat} {aw ai : Option Addr} {s : List Int} {W : World} {M : Nat → Prop} {F : Nat → Option Obj} {J Jx : List (List Fme) → World → (Nat → Prop) → Prop} {rem : List (List Fme)} {w0 : World} {Q : Exit → Act → World → Prop}
    (HH : Hid (PlH p A0 bp b1 l W M J Jx)) (HA : Hid (∀ A, FixF F A → AllI W.heap.size A aw p.slots)) (HS : Hid ((∀ A, FixF F A → IsIntsB W.heap.size A ai s) ∧ s ∈ p.slots)) (hcw : p.slots.length ≤ cw) (hi : i < p.slots.length) (hFW : Hid (∀ k o, F k = some o → W.heap.size ≤ k))
    (HC : Hid (∃ C, PlC W M F w0 C ∧ J ((if p.formes > 1 then (List.range p.most.toNat).flatMap (p.twos s (p.slots.drop i)) else []) ++ rem) w0 C))
    {s2 s4 s6 s7 s8 s9 s10 s11 s15 s16 s17 s18 s19 s20 s21 s22 s23 s24 s25 s26 s27 s28 s29 s30 s31 s32 s33 s34 s35 s36 s37 s38 s39 s40 s41 s42 s43 s44 s45 s46 s47 s48 s49 s50 s51 s52 s53 s54 s55 s56 s57 s58 s59 s60 s61 s62 s63 s64 s65 s66 s67 s68 s69 s70 s71 s72 s73 s74 s75 s76 s77 s78 s79 s80 s81 s82 s83 s84 s85 s86 s87 s88 s89 s90 s91 s92 s93 s94 s95 s96 s97 s98 s99 s100 s101 s102 s103 s104 s105 s106 s107 s108 s109 s110 s111 s112 s113 s114 s115 s116 s117 s118 s119 s120 s121 s122 s123 s124 s125 s126 s127 s128 s129 s130 s131 s132 s133 s134 s135 s136 s137 s138 s139 s140 s141 s142 s143 : Value}
    (hdone : Hid (∀ (q15 q16 q17 q19 q20 q21 q95 q96 q97 q98 q99 q100 q101 q102 q103 q104 q105 q106 q107 q108 q109 q110 q111 q112 q113 q114 q115 q116 q117 q118 q119 q120 q121 q122 q123 q124 q125 q126 q127 q128 q129 q130 q131 q132 q133 q134 q135 q136 q137 q138 q139 q140 q141 q142 : Value) (w' : World), PlEnd W M F J rem w' → Q .normal { tmps := #[.func (.yield l) #[] #[], .pointer (some ⟨b1, 0, none⟩), s2, .func (.func 76) #[] #[.pointer (some ⟨b1, 0, none⟩)], s4, .slice aw p.slots.length cw, s6, s7, s8, s9, s10, s11, .int .i64 p.most, .int .i64 (i : Int), .slice ai s.length ci, q15, q16, q17, s18, q19, q20, q21, s22, s23, s24, s25, s26, s27, s28, s29, s30, s31, s32, s33, s34, s35, s36, s37, s38, s39, s40, s41, s42, s43, s44, s45, s46, s47, s48, s49, s50, s51, s52, s53, s54, s55, s56, s57, s58, s59, s60, s61, s62, s63, s64, s65, s66, s67, s68, s69, s70, s71, s72, s73, s74, s75, s76, s77, s78, s79, s80, s81, s82, s83, s84, s85, s86, s87, s88, s89, s90, s91, s92, s93, s94, q95, q96, q97, q98, q99, q100, q101, q102, q103, q104, q105, q106, q107, q108, q109, q110, q111, q112, q113, q114, q115, q116, q117, q118, q119, q120, q121, q122, q123, q124, q125, q126, q127, q128, q129, q130, q131, q132, q133, q134, q135, q136, q137, q138, q139, q140, q141, q142, s143], defers := [] } w'))
    (hret : Hid (∀ (tm : Array Value) (w' : World), (∃ (C' : Nat → Prop) (i : List (List Fme)), Jx i w' C') → Q .ret { tmps := tm, defers := [] } w')) :
    Code.wp Try.prog pln15C Q { tmps := #[.func (.yield l) #[] #[], .pointer (some ⟨b1, 0, none⟩), s2, .func (.func 76) #[] #[.pointer (some ⟨b1, 0, none⟩)], s4, .slice aw p.slots.length cw, s6, s7, s8, s9, s10, s11, .int .i64 p.most, .int .i64 (i : Int), .slice ai s.length ci, s15, s16, s17, s18, s19, s20, s21, s22, s23, s24, s25, s26, s27, s28, s29, s30, s31, s32, s33, s34, s35, s36, s37, s38, s39, s40, s41, s42, s43, s44, s45, s46, s47, s48, s49, s50, s51, s52, s53, s54, s55, s56, s57, s58, s59, s60, s61, s62, s63, s64, s65, s66, s67, s68, s69, s70, s71, s72, s73, s74, s75, s76, s77, s78, s79, s80, s81, s82, s83, s84, s85, s86, s87, s88, s89, s90, s91, s92, s93, s94, s95, s96, s97, s98, s99, s100, s101, s102, s103, s104, s105, s106, s107, s108, s109, s110, s111, s112, s113, s114, s115, s116, s117, s118, s119, s120, s121, s122, s123, s124, s125, s126, s127, s128, s129, s130, s131, s132, s133, s134, s135, s136, s137, s138, s139, s140, s141, s142, s143], defers := [] } w0 := by
  conv => arg 2; whnf
  have hmf : ∀ (fn : Fn) (first cap : Array Value) (w : World), (Instr.makeFunc fn first cap).run Try.prog w = .ok (.func fn first cap) w := fun _ _ _ _ => rfl
  have hmb := most_bd HH.out.hV
  obtain ⟨mm, hmm⟩ : ∃ mm : Nat, p.most = (mm : Int) := ⟨p.most.toNat, by omega⟩
  have hmm2 : p.most.toNat = mm := by omega
  rw [hmm2] at HC
  obtain ⟨C0, hC0, hj0⟩ := HC.out
  have HPR := Lib.hid (fun (A : World) (h : Same M W A) => HH.out.press A h)
  have HCC := Lib.hid (And.intro hC0 hj0)
  have hm268 : mm ≤ 268 := by omega
  have HMM := Lib.hid hmm
  rw [hmm]
  rw [hmm] at hdone
  clear hC0 hj0 hmm hmm2 hmb
  refine wp_seq_hid ?_
  intro K0 HK0
  go_wp2_with fail
  refine HK0.out _ _ ?_
  clear HK0 K0
  refine wp_block ?_
  by_cases hf1 : p.formes > 1
  · have hfd : decide ((1 : Int) < p.formes) = true := by simp; omega
    have HJ0 : Hid (PlC W M F w0 C0 ∧ J (((List.range mm).drop 0).flatMap (p.twos s (p.slots.drop i)) ++ rem) w0 C0) := by
      have h := HCC.out
      rw [if_pos hf1] at h
      exact h
    clear hf1 HCC HC
    go_loopw [15] (fun q wr => ∃ m : Nat, m ≤ mm ∧ q = .int .i64 ((m : Int) + 1) ∧ Hid (∃ C, PlC W M F wr C ∧ J (((List.range mm).drop m).flatMap (p.twos s (p.slots.drop i)) ++ rem) wr C)) (fun q _ => mm + 1 - (intOf q).toNat)
    case atStart => exact ⟨0, by omega, rfl, C0, HJ0.out⟩
    case round =>
      obtain ⟨m, hm, rfl, HR⟩ := hrel
      obtain ⟨C, hC, hJ⟩ := HR.out
      have hpr := HPR.out wr hC.same
      have k1 := hpr.1
      have m1 := hpr.2.c.c1
      by_cases hlt : m < mm
      · have hd : decide ((m : Int) + 1 ≤ mm) = true := by simp; omega
        have hml : m < (List.range mm).length := by simpa using hlt
        rw [flat_drop _ hml, List.append_assoc, List.getElem_range] at hJ
        have HX := Lib.hid (And.intro hC hJ)
        clear hC hJ hpr HR hml
        go_upto_region 18 with fail
        have hb16 : Below wr.heap.size wr (wr.alloc (.cells #[.slice ai s.length ci, .int .i64 ((m : Int) + 1)] 29)) := (Below.refl _ _).alloc (Nat.le_refl _) _
        have q16 := World.alloc_heap_new wr (.cells #[.slice ai s.length ci, .int .i64 ((m : Int) + 1)] 29)
        have HN : Hid (F wr.heap.size = none) := by
          show F wr.heap.size = none
          cases hF : F wr.heap.size with
          | none => rfl
          | some o => have := heap_lt (HX.out.1.fix _ o hF).1; omega
        have H5 : Hid ((∃ C, PlC W M (fun k => if k = wr.heap.size then some (.cells #[.slice ai s.length ci, .int .i64 ((m : Int) + 1)] 29 (0, 0)) else F k) (wr.alloc (.cells #[.slice ai s.length ci, .int .i64 ((m : Int) + 1)] 29)) C ∧ J (((p.slots.drop i).flatMap (p.two ⟨s, (m : Int) + 1⟩)) ++ (((List.range mm).drop (m + 1)).flatMap (p.twos s (p.slots.drop i)) ++ rem)) (wr.alloc (.cells #[.slice ai s.length ci, .int .i64 ((m : Int) + 1)] 29)) C) ∧ W.heap.size ≤ wr.heap.size) :=
          ⟨⟨C, (HX.out.1.below hb16).add q16 (fun hc => by have := HX.out.1.bd _ hc; omega), HH.out.jb HX.out.2 hb16⟩, HX.out.1.same.size⟩
        clear hb16 q16 HX k1 m1
        go_step3
        refine wp_seq_hid ?_
        intro K1 HK1
        go_wp2_with fail
        refine HK1.out _ _ ?_
        clear HK1 K1
        revert H5 HN
        generalize wr.alloc (.cells #[.slice ai s.length ci, .int .i64 ((m : Int) + 1)] 29) = w5
        generalize wr.heap.size = b16
        intro HN H5
        refine wp_seq_hid ?_
        intro K2 HK2
        go_wp2_with fail
        refine HK2.out _ _ ?_
        clear HK2 K2
        refine wp_seq_hid ?_
        intro K3 HK3
        go_step3
        refine HK3.out _ _ ?_
        clear HK3 K3
        have hfix : ∀ A, FixF (fun k => if k = b16 then some (Obj.cells #[.slice ai s.length ci, .int .i64 ((m : Int) + 1)] 29 (0, 0)) else F k) A → FixF F A := fun A h k o hk => by
          have hne : k ≠ b16 := fun e => by subst e; rw [HN.out] at hk; cases hk
          exact h k o (by show (if k = b16 then _ else F k) = some o; rw [if_neg hne]; exact hk)
        refine pln20 (f := ⟨s, (m : Int) + 1⟩) (af := ai) (cf := ci) (F := fun k => if k = b16 then some (Obj.cells #[.slice ai s.length ci, .int .i64 ((m : Int) + 1)] 29 (0, 0)) else F k) HH (Lib.hid fun A h => HA.out A (hfix A h)) (Lib.hid fun A h => ⟨h b16 _ (by simp), HS.out.1 A (hfix A h)⟩) (Lib.hid (slots_fme HH.out.hV HS.out.2 (by omega) (by omega))) hcw hi (Lib.hid fun k o hk => ?_) (Lib.hid H5.out.1) (Lib.hid ?_) (Lib.hid ?_)
        · split at hk
          · next e => subst e; exact H5.out.2
          · exact hFW.out k o hk
        · intros
          rename_i w' he
          obtain ⟨C2, h1, h2⟩ := he
          have HE : Hid (∃ C, PlC W M F w' C ∧ J (((List.range mm).drop (m + 1)).flatMap (p.twos s (p.slots.drop i)) ++ rem) w' C) := ⟨C2, h1.drop HN.out, h2⟩
          clear h1 h2 hfix
          simp only [Exit.noGoto, Exit.inBlock, Exit.then]
          refine (‹∀ (a_ : Act) (w_ : World), Code.wp Try.prog _ _ a_ w_ → _› _ _ ?_)
          go_wp2_with fail
          go_roundw
          case rel => exact ⟨m + 1, by omega, by go_num, HE.out⟩
          case measure => simp [intOf]; omega
        · intro tm w' he
          exact hret.out _ _ he
      · have hd : decide ((m : Int) + 1 ≤ mm) = false := by simp; omega
        have hke : (List.range mm).drop m = [] := List.drop_eq_nil_of_le (by simp; omega)
        rw [hke, List.flatMap_nil, List.nil_append] at hJ
        have HE : Hid (PlEnd W M F J rem wr) := ⟨C, hC, hJ⟩
        clear hC hJ HR hke hpr k1 m1
        go_wp2_with fail
        exact hdone.out _ _ _ _ _ _ _ _ _ _ _ _ _ _ _ _ _ _ _ _ _ _ _ _ _ _ _ _ _ _ _ _ _ _ _ _ _ _ _ _ _ _ _ _ _ _ _ _ _ _ _ _ _ _ _ HE.out
  · have hfd : decide ((1 : Int) < p.formes) = false := by simp; omega
    have HE : Hid (PlEnd W M F J rem w0) := by
      have h := HCC.out
      rw [if_neg hf1, List.nil_append] at h
      exact ⟨C0, h⟩
    have hpr := HPR.out w0 HCC.out.1.same
    have k1 := hpr.1
    have m1 := hpr.2.c.c1
    have hd : decide ((1 : Int) ≤ mm) = true := by have h1 := most_bd HH.out.hV; have h2 := HMM.out; simp; omega
    clear hf1 hpr HCC HC
    go_loopw [15] (fun q wr => q = .int .i64 1 ∧ wr = w0) (fun _ _ => 0)
    case atStart => exact ⟨rfl, rfl⟩
    case round =>
      obtain ⟨rfl, rfl⟩ := hrel
      go_wp2_with fail
      exact hdone.out _ _ _ _ _ _ _ _ _ _ _ _ _ _ _ _ _ _ _ _ _ _ _ _ _ _ _ _ _ _ _ _ _ _ _ _ _ _ _ _ _ _ _ _ _ _ _ _ _ _ _ _ _ _ _ HE.out
end Go.Proofs.Ytjkhclijmcmdjaa
namespace Go.Proofs.Ytjkhclijmcmdjaa
open Go.RowKit
set_option linter.unusedVariables false
set_option linter.unusedSimpArgs false
noncomputable def pln12C : Code := (Try.f75.body.bind (fromRegion 12)).getD .skip
set_option maxRecDepth 100000 in
set_option maxHeartbeats 4000000 in
theorem pln12 {p : Prs} {A0 : PrsA} {bp b1 l cw : Nat} {aw : Option Addr} {W : World} {M : Nat → Prop} {F : Nat → Option Obj} {J Jx : List (List Fme) → World → (Nat → Prop) → Prop} {w0 : World} {Q : Exit → Act → World → Prop}
    (HH : Hid (PlH p A0 bp b1 l W M J Jx)) (HA : Hid (∀ A, FixF F A → AllI W.heap.size A aw p.slots)) (hcw : p.slots.length ≤ cw) (hFW : Hid (∀ k o, F k = some o → W.heap.size ≤ k))
    (HR0 : Hid (∀ i (h : i < p.slots.length), ∃ ai ci, ∀ A, FixF F A → IsIntsB W.heap.size A ai p.slots[i] ∧ ∃ b off, aw = some ⟨b, off, none⟩ ∧ A.cell? ⟨b, off + i, none⟩ = some (.slice ai p.slots[i].length ci)))
    (HC : Hid (∃ C, PlC W M F w0 C ∧ J (p.plans2F p.slots) w0 C))
    {s2 s4 s6 s7 s8 s9 s10 s11 s13 s14 s15 s16 s17 s18 s19 s20 s21 s22 s23 s24 s25 s26 s27 s28 s29 s30 s31 s32 s33 s34 s35 s36 s37 s38 s39 s40 s41 s42 s43 s44 s45 s46 s47 s48 s49 s50 s51 s52 s53 s54 s55 s56 s57 s58 s59 s60 s61 s62 s63 s64 s65 s66 s67 s68 s69 s70 s71 s72 s73 s74 s75 s76 s77 s78 s79 s80 s81 s82 s83 s84 s85 s86 s87 s88 s89 s90 s91 s92 s93 s94 s95 s96 s97 s98 s99 s100 s101 s102 s103 s104 s105 s106 s107 s108 s109 s110 s111 s112 s113 s114 s115 s116 s117 s118 s119 s120 s121 s122 s123 s124 s125 s126 s127 s128 s129 s130 s131 s132 s133 s134 s135 s136 s137 s138 s139 s140 s141 s142 s143 : Value}
    (hdone : Hid (∀ (q13 q14 q15 q16 q17 q19 q20 q21 q88 q89 q90 q91 q92 q93 q94 q95 q96 q97 q98 q99 q100 q101 q102 q103 q104 q105 q106 q107 q108 q109 q110 q111 q112 q113 q114 q115 q116 q117 q118 q119 q120 q121 q122 q123 q124 q125 q126 q127 q128 q129 q130 q131 q132 q133 q134 q135 q136 q137 q138 q139 q140 q141 q142 q143 : Value) (w' : World), PlEnd W M F J [] w' → Q .normal { tmps := #[.func (.yield l) #[] #[], .pointer (some ⟨b1, 0, none⟩), s2, .func (.func 76) #[] #[.pointer (some ⟨b1, 0, none⟩)], s4, .slice aw p.slots.length cw, s6, s7, s8, s9, s10, s11, .int .i64 p.most, q13, q14, q15, q16, q17, s18, q19, q20, q21, s22, s23, s24, s25, s26, s27, s28, s29, s30, s31, s32, s33, s34, s35, s36, s37, s38, s39, s40, s41, s42, s43, s44, s45, s46, s47, s48, s49, s50, s51, s52, s53, s54, s55, s56, s57, s58, s59, s60, s61, s62, s63, s64, s65, s66, s67, s68, s69, s70, s71, s72, s73, s74, s75, s76, s77, s78, s79, s80, s81, s82, s83, s84, s85, s86, s87, q88, q89, q90, q91, q92, q93, q94, q95, q96, q97, q98, q99, q100, q101, q102, q103, q104, q105, q106, q107, q108, q109, q110, q111, q112, q113, q114, q115, q116, q117, q118, q119, q120, q121, q122, q123, q124, q125, q126, q127, q128, q129, q130, q131, q132, q133, q134, q135, q136, q137, q138, q139, q140, q141, q142, q143], defers := [] } w'))
    (hret : Hid (∀ (tm : Array Value) (w' : World), (∃ (C' : Nat → Prop) (i : List (List Fme)), Jx i w' C') → Q .ret { tmps := tm, defers := [] } w')) :
    Code.wp Try.prog pln12C Q { tmps := #[.func (.yield l) #[] #[], .pointer (some ⟨b1, 0, none⟩), s2, .func (.func 76) #[] #[.pointer (some ⟨b1, 0, none⟩)], s4, .slice aw p.slots.length cw, s6, s7, s8, s9, s10, s11, .int .i64 p.most, s13, s14, s15, s16, s17, s18, s19, s20, s21, s22, s23, s24, s25, s26, s27, s28, s29, s30, s31, s32, s33, s34, s35, s36, s37, s38, s39, s40, s41, s42, s43, s44, s45, s46, s47, s48, s49, s50, s51, s52, s53, s54, s55, s56, s57, s58, s59, s60, s61, s62, s63, s64, s65, s66, s67, s68, s69, s70, s71, s72, s73, s74, s75, s76, s77, s78, s79, s80, s81, s82, s83, s84, s85, s86, s87, s88, s89, s90, s91, s92, s93, s94, s95, s96, s97, s98, s99, s100, s101, s102, s103, s104, s105, s106, s107, s108, s109, s110, s111, s112, s113, s114, s115, s116, s117, s118, s119, s120, s121, s122, s123, s124, s125, s126, s127, s128, s129, s130, s131, s132, s133, s134, s135, s136, s137, s138, s139, s140, s141, s142, s143], defers := [] } w0 := by
  conv => arg 2; whnf
  have hn := slots_len HH.out.hV
  refine wp_seq_hid ?_
  intro K0 HK0
  go_wp2_with fail
  refine HK0.out _ _ ?_
  clear HK0 K0
  refine wp_block ?_
  go_loopw [90] (fun q wr => ∃ i : Nat, i ≤ p.slots.length ∧ q = .int .i64 (i : Int) ∧ Hid (∃ C, PlC W M F wr C ∧ J (p.plans2F (p.slots.drop i)) wr C)) (fun q _ => p.slots.length - (intOf q).toNat)
  case atStart => exact ⟨0, by omega, rfl, by rw [List.drop_zero]; exact HC.out⟩
  case round =>
    obtain ⟨i, hi, rfl, HR⟩ := hrel
    obtain ⟨C, hC, hJ⟩ := HR.out
    by_cases hlt : i < p.slots.length
    · rw [plans2_drop p hlt] at hJ
      obtain ⟨ai, ci, hfx⟩ := HR0.out i hlt
      obtain ⟨_, b, off, haw, hc1⟩ := hfx wr hC.fixF
      have HFX := Lib.hid hfx
      have hmem : p.slots[i] ∈ p.slots := List.getElem_mem hlt
      subst haw
      have HX := Lib.hid (And.intro hC (And.intro hJ hmem))
      clear hC hJ hmem hfx HR
      revert HX HFX hc1
      generalize p.slots[i] = s
      intro hc1 HFX HX
      go_upto_region 14 with fail
      rename_i h_
      have HK_ := Lib.hid h_
      clear h_
      go_wp2_with fail
      clear hc1
      refine HK_.out _ _ ?_
      refine pln15 (s := s) HH HA (Lib.hid ⟨fun A h => (HFX.out A h).1, HX.out.2.2⟩) hcw hlt hFW (Lib.hid ⟨C, HX.out.1, HX.out.2.1⟩) (Lib.hid ?_) (Lib.hid ?_)
      · intros
        rename_i w' he
        have HE : Hid (∃ C, PlC W M F w' C ∧ J (p.plans2F (p.slots.drop (i + 1))) w' C) := he
        clear he HX HFX
        refine (‹∀ (a_ : Act) (w_ : World), Code.wp Try.prog _ _ a_ w_ → _› _ _ ?_)
        go_wp2_with fail
        go_roundw
        case rel => exact ⟨i + 1, by omega, by go_num, HE.out⟩
        case measure => simp [intOf]; omega
      · intro tm w' he
        exact hret.out _ _ he
    · have hke : p.slots.drop i = [] := List.drop_eq_nil_of_le (by omega)
      rw [hke] at hJ
      have HE : Hid (PlEnd W M F J [] wr) := ⟨C, hC, hJ⟩
      clear hC hJ HR hke
      go_wp2_with fail
      exact hdone.out _ _ _ _ _ _ _ _ _ _ _ _ _ _ _ _ _ _ _ _ _ _ _ _ _ _ _ _ _ _ _ _ _ _ _ _ _ _ _ _ _ _ _ _ _ _ _ _ _ _ _ _ _ _ _ _ _ _ _ _ _ _ _ _ _ HE.out
end Go.Proofs.Ytjkhclijmcmdjaa
namespace Go.Proofs.Ytjkhclijmcmdjaa
open Go.RowKit
set_option linter.unusedVariables false
set_option linter.unusedSimpArgs false
theorem plans53 {w : World} {bp : Nat} : Calls Try.prog 53 #[.pointer (some ⟨bp, 0, none⟩)] w fun e w' => e = .returned (.func (.func 75) #[] #[.pointer (some ⟨w.heap.size, 0, none⟩)]) ∧ w' = w.alloc (.cells #[.pointer (some ⟨bp, 0, none⟩)] 71) := by
  have hmf : ∀ (fn : Fn) (first cap : Array Value) (w : World), (Instr.makeFunc fn first cap).run Try.prog w = .ok (.func fn first cap) w := fun _ _ _ _ => rfl
  go_enter Try.func53, Try.ntmps53
  go_wp2
  go_ret
  exact ⟨rfl, rfl⟩
/-- Rows that stay where the blocks from B on, below a world's end, stay: where each one lies. -/
theorem rows_fix2 {A : World} {B : Nat} {v : Value} {vs : List Value} {L : List (List Int)} (h : A.ownsRow B 24 1 v L.length vs) (hr : RowsOf A B vs L) : ∃ a c, v = .slice a L.length c ∧ L.length ≤ c ∧
    ∀ i (hi : i < L.length), ∃ ai ci, ∀ A', (∀ k, B ≤ k → k < A.heap.size → A'.heap[k]? = A.heap[k]?) → IsIntsB B A' ai L[i] ∧ ∃ b off, a = some ⟨b, off, none⟩ ∧ A'.cell? ⟨b, off + i, none⟩ = some (.slice ai L[i].length ci) := by
  obtain ⟨a, c, rfl, hc, hm⟩ := own_slice h
  refine ⟨a, c, rfl, hc, fun i hi => ?_⟩
  obtain ⟨vc, h1, h2⟩ := hr.2 i L[i] (List.getElem?_eq_getElem hi)
  obtain ⟨ai, ci, rfl, _⟩ := own_ints' h2
  refine ⟨ai, ci, fun A' hA => ?_⟩
  have h3 : A'.ownsRow B 24 1 (.slice a L.length c) L.length vs := own_blocks h fun g hg => hA g (h.lt g hg).1 (h.lt g hg).2
  have h4 : A'.ownsRow B 3 1 (.slice ai L[i].length ci) L[i].length (L[i].map (Value.int .i64)) := own_blocks h2 fun g hg => hA g (h2.lt g hg).1 (h2.lt g hg).2
  obtain ⟨_, _, e4, h5⟩ := own_ints' h4
  cases e4
  refine ⟨h5, ?_⟩
  obtain ⟨g, cap, e, _, _, _, _, hcell⟩ := own_cell h3 (by omega)
  cases e
  exact ⟨g, 0, rfl, by rw [Nat.zero_add]; exact hcell i _ h1⟩
theorem make24 {n : Nat} (h : n ≤ 1000) (w : World) : (Instr.makeSlice 24 (.int .i64 (n : Int)) (.int .i64 (n : Int))).run Try.prog w = .ok (.slice (some ⟨w.heap.size, 0, none⟩) n n) (w.alloc (.cells (madeCells #[.int .i64 0] (n * 1)) 3)) := by
  obtain ⟨i0, hi0, hz0, hz1, hz2⟩ := info_parts infoI
  have h := run_make (P := Try.prog) (w := w) 24 3 i0 _ Try.underlying24 hi0 hz0 .i64 .i64 (n : Int) (n : Int) (by omega) (by omega) (by rw [hz2]; omega) (by omega)
  simpa [hz1, Value.cells] using h
theorem made_ints {w : World} {g n : Nat} (h : w.heap[g]? = some (.cells (madeCells #[.int .i64 0] (n * 1)) 3 (0, 0))) : IsInts w (some ⟨g, 0, none⟩) (List.replicate n 0) := by
  intro i hi
  have hi2 : i < n := by simpa using hi
  have e : gi (List.replicate n (0 : Int)) i = 0 := by simp [gi, hi2]
  refine ⟨g, 0, rfl, ?_⟩
  rw [cell_of_heap h, e, Nat.zero_add]
  simp [madeCells, hi2, Nat.mod_one]
noncomputable def pln5C : Code := (Try.f75.body.bind (fromRegion 5)).getD .skip
set_option maxRecDepth 100000 in
set_option maxHeartbeats 4000000 in
theorem pln5 {p : Prs} {A0 : PrsA} {bp b1 l cw : Nat} {aw : Option Addr} {W : World} {M : Nat → Prop} {F : Nat → Option Obj} {J Jx : List (List Fme) → World → (Nat → Prop) → Prop} {w0 : World} {Q : Exit → Act → World → Prop}
    (HH : Hid (PlH p A0 bp b1 l W M J Jx)) (HA : Hid (∀ A, FixF F A → AllI W.heap.size A aw p.slots)) (hcw : p.slots.length ≤ cw) (hFW : Hid (∀ k o, F k = some o → W.heap.size ≤ k))
    (HR0 : Hid (∀ i (h : i < p.slots.length), ∃ ai ci, ∀ A, FixF F A → IsIntsB W.heap.size A ai p.slots[i] ∧ ∃ b off, aw = some ⟨b, off, none⟩ ∧ A.cell? ⟨b, off + i, none⟩ = some (.slice ai p.slots[i].length ci)))
    (HC : Hid (∃ C, PlC W M F w0 C ∧ J (p.plans1 ++ p.plans2F p.slots) w0 C))
    {s2 s6 s7 s8 s9 s10 s11 s12 s13 s14 s15 s16 s17 s18 s19 s20 s21 s22 s23 s24 s25 s26 s27 s28 s29 s30 s31 s32 s33 s34 s35 s36 s37 s38 s39 s40 s41 s42 s43 s44 s45 s46 s47 s48 s49 s50 s51 s52 s53 s54 s55 s56 s57 s58 s59 s60 s61 s62 s63 s64 s65 s66 s67 s68 s69 s70 s71 s72 s73 s74 s75 s76 s77 s78 s79 s80 s81 s82 s83 s84 s85 s86 s87 s88 s89 s90 s91 s92 s93 s94 s95 s96 s97 s98 s99 s100 s101 s102 s103 s104 s105 s106 s107 s108 s109 s110 s111 s112 s113 s114 s115 s116 s117 s118 s119 s120 s121 s122 s123 s124 s125 s126 s127 s128 s129 s130 s131 s132 s133 s134 s135 s136 s137 s138 s139 s140 s141 s142 s143 : Value}
    (hdone : Hid (∀ (tm : Array Value) (w' : World), PlEnd W M F J [] w' → Q .normal { tmps := tm, defers := [] } w'))
    (hret : Hid (∀ (tm : Array Value) (w' : World), (∃ (C' : Nat → Prop) (i : List (List Fme)), Jx i w' C') → Q .ret { tmps := tm, defers := [] } w')) :
    Code.wp Try.prog pln5C Q { tmps := #[.func (.yield l) #[] #[], .pointer (some ⟨b1, 0, none⟩), s2, .func (.func 76) #[] #[.pointer (some ⟨b1, 0, none⟩)], .func (.func 77) #[] #[], .slice aw p.slots.length cw, s6, s7, s8, s9, s10, s11, s12, s13, s14, s15, s16, s17, s18, s19, s20, s21, s22, s23, s24, s25, s26, s27, s28, s29, s30, s31, s32, s33, s34, s35, s36, s37, s38, s39, s40, s41, s42, s43, s44, s45, s46, s47, s48, s49, s50, s51, s52, s53, s54, s55, s56, s57, s58, s59, s60, s61, s62, s63, s64, s65, s66, s67, s68, s69, s70, s71, s72, s73, s74, s75, s76, s77, s78, s79, s80, s81, s82, s83, s84, s85, s86, s87, s88, s89, s90, s91, s92, s93, s94, s95, s96, s97, s98, s99, s100, s101, s102, s103, s104, s105, s106, s107, s108, s109, s110, s111, s112, s113, s114, s115, s116, s117, s118, s119, s120, s121, s122, s123, s124, s125, s126, s127, s128, s129, s130, s131, s132, s133, s134, s135, s136, s137, s138, s139, s140, s141, s142, s143], defers := [] } w0 := by
  conv => arg 2; whnf
  have hn := slots_len HH.out.hV
  refine wp_seq_hid ?_
  intro K1 HK1
  refine wp_seq_hid ?_
  intro K0 HK0
  go_wp2_with fail
  refine HK0.out _ _ ?_
  clear HK0 K0
  refine wp_block ?_
  go_loopw [52] (fun q wr => ∃ i : Nat, i ≤ p.slots.length ∧ q = .int .i64 (i : Int) ∧ Hid (∃ C, PlC W M F wr C ∧ J (((p.slots.drop i).flatMap p.one) ++ p.plans2F p.slots) wr C)) (fun q _ => p.slots.length - (intOf q).toNat)
  case atStart => exact ⟨0, by omega, rfl, by rw [List.drop_zero, ← plans1_eq]; exact HC.out⟩
  case round =>
    obtain ⟨i, hi, rfl, HR⟩ := hrel
    obtain ⟨C, hC, hJ⟩ := HR.out
    by_cases hlt : i < p.slots.length
    · rw [flat_drop _ hlt, List.append_assoc] at hJ
      obtain ⟨ai, ci, hfx⟩ := HR0.out i hlt
      obtain ⟨hii, b, off, haw, hc1⟩ := hfx wr hC.fixF
      have HFX := Lib.hid hfx
      subst haw
      have hmem : p.slots[i] ∈ p.slots := List.getElem_mem hlt
      have hpr := HH.out.press wr hC.same
      have k1 := hpr.1
      have HTF := Lib.hid (rest80 (c := ci) hpr.2 HH.out.hV hii.1 (slots_R HH.out.hV hmem) (hasNone wr p.wanted.length))
      have HX := Lib.hid (And.intro hC (And.intro hJ hmem))
      clear hC hJ hmem hfx HR hii hpr
      revert HX HFX hc1 HTF
      generalize p.slots[i] = s
      intro hc1 HFX HTF HX
      obtain ⟨o, ho⟩ : ∃ o, p.rest s (fun _ => 0) = o := ⟨_, rfl⟩
      rw [ho] at HTF
      have HOO := Lib.hid ho
      clear ho
      go_upto_region 8 with fail
      clear hc1
      cases o with
      | none =>
        have HT0 : Hid (p.one s = []) := by rw [Hid]; unfold Prs.one; rw [HOO.out]
        have HT2 : Hid (Calls Try.prog 80 #[.pointer (some ⟨bp, 0, none⟩), .slice ai s.length ci, .func (.func 77) #[] #[]] wr fun e w' => e = .returned (.tuple #[.int .i64 0, .bool false]) ∧ Below wr.heap.size wr w') := HTF.out.mono fun e w' h => ⟨h.1, h.2.2⟩
        clear HTF
        go_wp2_with fail
        refine HT2.out.mono ?_
        rintro e w3 ⟨rfl, hb⟩
        have H3 : Hid (PlC W M F w3 C ∧ J (((p.slots.drop (i + 1)).flatMap p.one) ++ p.plans2F p.slots) w3 C) := by
          have h1 := HX.out.2.1
          rw [HT0.out, List.nil_append] at h1
          exact ⟨HX.out.1.below hb, HH.out.jb h1 hb⟩
        clear hb HX k1
        go_wp2_with fail
        exact ⟨⟨i + 1, hlt, by go_num, C, H3.out⟩, meas_lt hlt⟩
      | some m =>
        have HT0 : Hid (p.one s = [[⟨s, max 1 (p.enough m)⟩]]) := by rw [Hid]; unfold Prs.one; rw [HOO.out]
        have HT2 : Hid (Calls Try.prog 80 #[.pointer (some ⟨bp, 0, none⟩), .slice ai s.length ci, .func (.func 77) #[] #[]] wr fun e w' => e = .returned (.tuple #[.int .i64 m, .bool true]) ∧ (0 ≤ m ∧ m ≤ 66) ∧ Below wr.heap.size wr w') := HTF.out.mono fun e w' h => ⟨h.1, h.2.1 m rfl, h.2.2⟩
        clear HTF
        go_wp2_with fail
        refine HT2.out.mono ?_
        rintro e w3 ⟨rfl, hm, hb⟩
        have H3 : Hid (PlC W M F w3 C ∧ J ([⟨s, max 1 (p.enough m)⟩] :: (((p.slots.drop (i + 1)).flatMap p.one) ++ p.plans2F p.slots)) w3 C ∧ IsInts w3 ai s) := by
          have h1 := HX.out.2.1
          rw [HT0.out] at h1
          have hC3 := HX.out.1.below hb
          exact ⟨hC3, HH.out.jb h1 hb, (HFX.out w3 hC3.fixF).1.1⟩
        have HBD := Lib.hid (HFX.out w3 H3.out.1.fixF).1.2
        have HM := Lib.hid hm
        have k3 := (HH.out.press w3 H3.out.1.same).1
        clear hb k1 hm
        go_upto_region 9 with fail
        have HE81 := Lib.hid (enough81 (HH.out.press w3 H3.out.1.same).2 (spoil_of HH.out.hV) HM.out.1 (by have := HM.out.2; omega))
        refine (wpIn_wide (n := 0)).1 ?_
        gi_wp2_with fail
        refine ⟨trivial, rfl, callsIn_wide.2 (HE81.out.mono ?_)⟩
        rintro e w4 ⟨rfl, hb⟩
        have hbd := enough_bd p HM.out.1 HM.out.2
        obtain ⟨y, hy⟩ : ∃ y : List Fme, y = [⟨s, max 1 (p.enough m)⟩] := ⟨_, rfl⟩
        have HCR : Hid (CostR p y) := by
          have h1 := pence_of HH.out.hV
          refine ⟨h1.1, h1.2.1, by rw [hy]; simp, fun g hg => ?_⟩
          rw [hy] at hg
          rw [List.mem_singleton.1 hg]; show 0 ≤ max 1 (p.enough m) ∧ max 1 (p.enough m) ≤ 1048576; omega
        have HYC : Hid (fmC y [(ai, ci)] = [.slice ai s.length ci, .int .i64 (max 1 (p.enough m))]) := by rw [hy]; rfl
        have HYL : Hid (y.length = 1 ∧ (gf y 0).slots = s) := by rw [hy]; exact ⟨rfl, rfl⟩
        rw [← hy] at H3
        have hC4 := H3.out.1.below hb
        have hba : Below w4.heap.size w4 (w4.alloc (.cells #[.slice ai s.length ci, .int .i64 (max 1 (p.enough m))] 29)) := (Below.refl _ _).alloc (Nat.le_refl _) _
        have hq := World.alloc_heap_new w4 (.cells #[.slice ai s.length ci, .int .i64 (max 1 (p.enough m))] 29)
        have hC5 := hC4.below hba
        have hp5 := HH.out.press _ hC5.same
        have hPM : PlM (w4.alloc (.cells #[.slice ai s.length ci, .int .i64 (max 1 (p.enough m))] 29)) w4.heap.size y [(ai, ci)] := ⟨by rw [hq, HYC.out], by rw [HYL.out.1]; rfl, fun k r hr => by
          have hk : k < 1 := by have := (List.getElem?_eq_some_iff.1 hr).1; simpa using this
          match k, hk with
          | 0, _ => simp at hr; subst hr; rw [HYL.out.2]; exact (H3.out.2.2.mono hb).mono hba⟩
        have hc := made76 (c := 1) hp5.2 hp5.1 hPM.fmes HCR.out
        rw [HYL.out.1] at hc
        have HC76 := Lib.hid hc
        have H5 := Lib.hid (And.intro hC5 (And.intro hPM (And.intro (HH.out.jb (HH.out.jb H3.out.2.1 hb) hba) (Nat.le_trans H3.out.1.same.size hb.size))))
        have HFN : Hid (F w4.heap.size = none ∧ ¬ C w4.heap.size) := by
          refine ⟨?_, fun hc => by have := hC4.bd _ hc; omega⟩
          cases hF : F w4.heap.size with
          | none => rfl
          | some o => have := heap_lt (hC4.fix _ o hF).1; omega
        have HLTB : Hid (∀ b o, ai = some ⟨b, o, none⟩ → b ≠ w4.heap.size) := fun b o e => by
          have h1 := H3.out.2.2
          rw [e] at h1
          have h2 := ints_lt h1 (by rw [(slots_ok HH.out.hV HX.out.2.2).1]; have := wanted_of HH.out.hV; omega)
          have := hb.size; show b ≠ w4.heap.size; omega
        clear hb hbd hy hC4 hba hq hC5 hp5 hPM hc k3 HX HFX H3
        gi_wp2_with fail
        refine ⟨trivial, rfl, callsIn_wide.2 (HC76.out.mono ?_)⟩
        rintro e w6 ⟨rfl, hb⟩
        obtain ⟨fn, tmps, assign, body, hyl, hRd⟩ := yield_plan (K := fun k => k = w4.heap.size) HH.out (H5.out.1.below hb) (.inr ⟨w4.heap.size, [(ai, ci)], by rw [HYL.out.1], H5.out.2.1.mono hb, H5.out.2.2.2, (fun r hr b o e => by rw [List.mem_singleton.1 hr] at e; exact ⟨HBD.out b o e, HLTB.out b o e⟩), rfl⟩) (fun k hk => by rw [hk]; exact HFN.out.2) (fun k hk => by rw [hk]; exact HFN.out.1) (HH.out.jb H5.out.2.2.1 hb)
        have HRd := Lib.hid hRd
        clear hRd hb HC76
        gi_wp2_with fail
        refine ⟨rfl, HRd.out.mono ?_⟩
        rintro e w7 ⟨r, rfl, hres⟩
        have HRS := Lib.hid hres
        clear hres hyl HRd
        cases r with
        | true =>
          gi_wp2_with fail
          go_wp2_with fail
          obtain ⟨C2, h1, h2⟩ := HRS.out.1 rfl
          exact ⟨⟨i + 1, hlt, by go_num, C2, h1, h2⟩, meas_lt hlt⟩
        | false =>
          gi_wp2_with fail
          go_wp2_with fail
          exact hret.out _ _ (HRS.out.2 rfl)
    · have hke : p.slots.drop i = [] := List.drop_eq_nil_of_le (by omega)
      rw [hke, List.flatMap_nil, List.nil_append] at hJ
      have HE : Hid (∃ C, PlC W M F wr C ∧ J (p.plans2F p.slots) wr C) := ⟨C, hC, hJ⟩
      clear hC hJ HR hke
      go_wp2_with fail
      refine HK1.out _ _ ?_
      obtain ⟨C2, hC2, hJ2⟩ := HE.out
      have hpr := HH.out.press wr hC2.same
      have hw4 := wanted_of HH.out.hV
      have HPY := Lib.hid (fun y : Aft wr.heap.size wr => HH.out.press y.v (hC2.below y.h).same)
      have Y1 := fun y : Aft wr.heap.size wr => (HPY.out y).1
      have Y6 := fun y : Aft wr.heap.size wr => (HPY.out y).2.c.c6
      have HC82 := Lib.hid (fun y : Aft wr.heap.size wr => max82 (c := A0.cw) (by omega) (by omega) ((HPY.out y).2.prs.wanted))
      have HC81 := Lib.hid (fun y : Aft wr.heap.size wr => enough81 (n := maxL p.wanted) (HPY.out y).2 (spoil_of HH.out.hV) (maxL_bd HH.out.hV).1 (by have := maxL_bd HH.out.hV; omega))
      have HMO : Hid (p.most = max 1 (p.enough (maxL p.wanted))) := rfl
      have HC2 := Lib.hid (And.intro hC2 hJ2)
      clear hpr hC2 hJ2 HE
      refine wp_seq_hid ?_
      intro K2 HK2
      refine wp_region_aft mixed (by kernel_rfl) ?_
      repeat (go_big_quiet_step (first | (go_at_call 82; exact calls_aft_same (HC82.out _)) | (go_at_call 81; exact calls_aft (HC81.out _))))
      refine wpQuiet_nil ?_
      rintro _ ⟨y, rfl⟩
      refine HK2.out _ _ ?_
      clear HK2 K2 Y1 Y6 HC82 HC81 HPY
      rw [← HMO.out]
      refine pln12 HH HA hcw hFW HR0 (Lib.hid ⟨C2, HC2.out.1.below y.h, HH.out.jb HC2.out.2 y.h⟩) (Lib.hid ?_) (Lib.hid ?_)
      · intros
        rename_i w' he
        exact hdone.out _ _ he
      · intro tm w' he
        exact hret.out _ _ he
end Go.Proofs.Ytjkhclijmcmdjaa
namespace Go.Proofs.Ytjkhclijmcmdjaa
open Go.RowKit
set_option linter.unusedVariables false
set_option linter.unusedSimpArgs false
/-- The blocks that hold all slots. -/
def allF (B : Nat) (A : World) (k : Nat) : Option Obj := if B ≤ k ∧ k < A.heap.size then A.heap[k]? else none
theorem allF_fix {B : Nat} {A A' : World} (h : FixF (allF B A) A') : ∀ k, B ≤ k → k < A.heap.size → A'.heap[k]? = A.heap[k]? := fun k h1 h2 => by
  obtain ⟨o, ho⟩ : ∃ o, A.heap[k]? = some o := ⟨A.heap[k], Array.getElem?_eq_getElem h2⟩
  rw [ho]
  exact h k o (by unfold allF; rw [if_pos ⟨h1, h2⟩]; exact ho)
set_option maxRecDepth 100000 in
set_option maxHeartbeats 4000000 in
theorem plans_iter {p : Prs} {A0 : PrsA} {bp b1 : Nat} {W : World} {M : Nat → Prop} (hV : p.valid = true)
    (hpress : ∀ A, Same M W A → A.cell? ⟨b1, 0, none⟩ = some (.pointer (some ⟨bp, 0, none⟩)) ∧ IsPress A p A0 bp) :
    IterL Try.prog 75 #[.pointer (some ⟨b1, 0, none⟩)] p.plans (PlOk p W.heap.size) M W := by
  intro l J Jx hJ hJx hY h0
  have hmf : ∀ (fn : Fn) (first cap : Array Value) (w : World), (Instr.makeFunc fn first cap).run Try.prog w = .ok (.func fn first cap) w := fun _ _ _ _ => rfl
  have HH : Hid (PlH p A0 bp b1 l W M J Jx) := ⟨hV, hpress, hJ, hY⟩
  have H0 := Lib.hid h0
  have k1 := (hpress W (Same.refl _ W)).1
  have hw4 := wanted_of hV
  have hba : Below W.heap.size W (W.alloc (.cells #[.pointer (some ⟨bp, 0, none⟩)] 71)) := (Below.refl _ W).alloc (Nat.le_refl _) _
  have hpa := hpress _ (Same.of_below M hba)
  have HC78 := Lib.hid (collect78 hV (World.alloc_heap_new W (.cells #[.pointer (some ⟨bp, 0, none⟩)] 71)) hpa.2.h)
  have HBA := Lib.hid hba
  clear hJ hJx hY h0 hba hpa hpress
  refine callsIn_wide.2 ?_
  go_enter Try.func75, Try.ntmps75
  refine wp_seq_hid ?_
  intro K0 HK0
  go_wp2_with fail
  refine HK0.out _ _ ?_
  clear HK0 K0
  refine wp_seq_hid ?_
  intro K1 HK1
  go_wp2_with fail
  refine HK1.out _ _ ?_
  clear HK1 K1
  refine wp_seq_hid ?_
  intro K2 HK2
  go_wp2_with fail
  refine slots79.mono ?_
  rintro e w1 ⟨rfl, rfl⟩
  go_wp2_with fail
  refine HC78.out.mono ?_
  rintro e w2 ⟨v, vs, rfl, hown, hrows, hb⟩
  obtain ⟨aw, cw, rfl, hcw, hfx⟩ := rows_fix2 hown hrows
  obtain ⟨aw', cw', e, _, _, hfa⟩ := rows_fix hown hrows
  cases e
  have hsz1 : (W.alloc (.cells #[.pointer (some ⟨bp, 0, none⟩)] 71)).heap.size = W.heap.size + 1 := by simp
  rw [hsz1] at hfx hfa
  have HFX : Hid (∀ i (hi : i < p.slots.length), ∃ ai ci, ∀ A, FixF (allF W.heap.size w2) A → IsIntsB W.heap.size A ai p.slots[i] ∧ ∃ b off, aw = some ⟨b, off, none⟩ ∧ A.cell? ⟨b, off + i, none⟩ = some (.slice ai p.slots[i].length ci)) := fun i hi => by
    obtain ⟨ai, ci, h⟩ := hfx i hi
    refine ⟨ai, ci, fun A hA => ?_⟩
    have h3 := h A fun k h1 h2 => allF_fix hA k (by omega) h2
    exact ⟨h3.1.le (by omega), h3.2⟩
  have HA : Hid (∀ A, FixF (allF W.heap.size w2) A → AllI W.heap.size A aw p.slots) := fun A hA i hi => by
    obtain ⟨b, off, h1, ai, ci, h2, h3⟩ := hfa A (fun k h1 h2 => allF_fix hA k (by omega) h2) i hi
    exact ⟨b, off, h1, ai, ci, h2, h3.le (by omega)⟩
  have hbW : Below W.heap.size W w2 := HBA.out.trans (hb.mono HBA.out.size)
  have HC2 : Hid (PlC W M (allF W.heap.size w2) w2 (fun k => k < W.heap.size) ∧ J p.plans w2 (fun k => k < W.heap.size)) := by
    refine ⟨⟨Same.of_below _ hbW, fun k o hk => ?_, fun k hk => hk, fun k hk => by have := hbW.size; omega⟩, HH.out.jb H0.out hbW⟩
    unfold allF at hk
    split at hk
    · next h => exact ⟨hk, by omega⟩
    · cases hk
  have HFW : Hid (∀ k o, allF W.heap.size w2 k = some o → W.heap.size ≤ k) := fun k o hk => by
    unfold allF at hk
    split at hk
    · next h => exact h.1
    · cases hk
  clear hown hrows hb hfx hfa hsz1 hbW HC78 HBA H0 k1
  revert HFX HA HC2 HFW
  generalize allF W.heap.size w2 = F
  intro HFX HA HC2 HFW
  go_wp2_with fail
  refine HK2.out _ _ ?_
  clear HK2 K2
  refine wp_seq_hid ?_
  intro K3 HK3
  refine wp_seq_hid ?_
  intro K4 HK4
  obtain ⟨o, ho⟩ : ∃ o, p.rest (List.replicate p.wanted.length 0) (fun _ => 0) = o := ⟨_, rfl⟩
  obtain ⟨q, hq⟩ : ∃ q : Int, o.getD 0 = q := ⟨_, rfl⟩
  obtain ⟨bb, hbb⟩ : ∃ b : Bool, o.isSome = b := ⟨_, rfl⟩
  have hrv : restV o = .tuple #[.int .i64 q, .bool bb] := by rw [← hq, ← hbb]; cases o <;> rfl
  have HRV := Lib.hid (And.intro ho (And.intro hq (And.intro hbb hrv)))
  clear ho hq hbb hrv
  refine wpIn_wide.1 (pln3 (b1 := b1) (bp := bp) (N := w2.heap.size) (n := p.wanted.length) (cw := A0.cw) (aw := A0.aw) (q := q) (bb := bb)
    (P0 := fun v => v.heap.size = w2.heap.size ∧ Below w2.heap.size w2 v) (P1 := fun v => v.heap[w2.heap.size]? = some (.cells (madeCells #[.int .i64 0] (p.wanted.length * 1)) 3 (0, 0)) ∧ Below w2.heap.size w2 v) (P2 := fun v => Below w2.heap.size w2 v) ?h0 ?l0 ?l1 ?l5 ?r7 ?c9 ?hQ)
  case h0 => exact ⟨rfl, (Below.refl _ _).drew⟩
  case l0 => rintro v (h | h | h) <;> first | exact (HH.out.press v (HC2.out.1.below h.2).same).1 | exact (HH.out.press v (HC2.out.1.below h).same).1
  case l1 => rintro v (h | h | h) <;> first | exact (HH.out.press v (HC2.out.1.below h.2).same).1 | exact (HH.out.press v (HC2.out.1.below h).same).1
  case l5 => rintro v (h | h | h) <;> first | exact (HH.out.press v (HC2.out.1.below h.2).same).2.c.c6 | exact (HH.out.press v (HC2.out.1.below h).same).2.c.c6
  case r7 =>
    intro v h
    have hm := make24 (n := p.wanted.length) (by omega) v
    have hq := World.alloc_heap_new v (.cells (madeCells #[.int .i64 0] (p.wanted.length * 1)) 3)
    rw [h.1] at hm hq
    have hb : Below v.heap.size v (v.alloc (.cells (madeCells #[.int .i64 0] (p.wanted.length * 1)) 3)) := (Below.refl _ _).alloc (Nat.le_refl _) _
    exact ⟨_, hm, hq, h.2.trans (hb.mono h.2.size)⟩
  case c9 =>
    intro v h
    have hs : SlotsR p (List.replicate p.wanted.length 0) := ⟨by simp, fun k hk => by
      have hk2 : k < p.wanted.length := by simpa using hk
      have e : gi (List.replicate p.wanted.length (0 : Int)) k = 0 := by simp [gi, hk2]
      rw [e]; omega⟩
    have hc := rest80 (c := p.wanted.length) (HH.out.press v (HC2.out.1.below h.2).same).2 HH.out.hV (made_ints h.1) hs (hasNone v p.wanted.length)
    rw [List.length_replicate, HRV.out.1, HRV.out.2.2.2] at hc
    refine hc.mono ?_
    rintro e w' ⟨rfl, _, hb⟩
    exact ⟨rfl, h.2.trans (hb.mono h.2.size)⟩
  intro w3 h3
  have HC3 : Hid (PlC W M F w3 (fun k => k < W.heap.size) ∧ J p.plans w3 (fun k => k < W.heap.size)) := ⟨HC2.out.1.below h3, HH.out.jb HC2.out.2 h3⟩
  clear h3 HC2
  refine HK4.out _ _ ?_
  clear HK4 K4
  have HD : Hid (∀ (tm : Array Value) (w' : World), PlEnd W M F J [] w' → bodyPost Try.prog Try.f75 (fun e W' => (∃ v, e = Ending.returned v) ∧ ∃ C', J [] W' C' ∨ ∃ i, Jx i W' C') .normal { tmps := tm, defers := [] } w') := fun tm w' h => by
    obtain ⟨C', h1, h2⟩ := h
    exact bodyPost_end (results_none rfl _ _ _) rfl ⟨⟨_, rfl⟩, C', .inl h2⟩
  have HT : Hid (∀ (tm : Array Value) (w' : World), (∃ (C' : Nat → Prop) (i : List (List Fme)), Jx i w' C') → bodyPost Try.prog Try.f75 (fun e W' => (∃ v, e = Ending.returned v) ∧ ∃ C', J [] W' C' ∨ ∃ i, Jx i W' C') .ret { tmps := tm, defers := [] } w') := fun tm w' h => by
    obtain ⟨C', i, h⟩ := h
    exact bodyPost_ret (results_none rfl _ _ _) rfl ⟨⟨_, rfl⟩, C', .inr ⟨i, h⟩⟩
  have HPL : Hid (p.plans = p.plans0 ++ p.plans1 ++ p.plans2F p.slots) := rfl
  cases o with
  | none =>
    have hbb : bb = false := by rw [← HRV.out.2.2.1]; rfl
    subst hbb
    have HP0 : Hid (p.plans0 = []) := by rw [Hid]; unfold Prs.plans0; rw [HRV.out.1]
    have HC4 : Hid (∃ C, PlC W M F w3 C ∧ J (p.plans1 ++ p.plans2F p.slots) w3 C) := ⟨_, HC3.out.1, by have h := HC3.out.2; rw [HPL.out, HP0.out, List.nil_append] at h; exact h⟩
    go_wp2_with fail
    refine HK3.out _ _ ?_
    exact pln5 HH HA hcw HFW HFX HC4 HD HT
  | some n =>
    have hbb : bb = true := by rw [← HRV.out.2.2.1]; rfl
    have hqn : n = q := HRV.out.2.1
    subst hbb hqn
    by_cases hn : n = 0
    · subst hn
      have HP0 : Hid (p.plans0 = [[]]) := by rw [Hid]; unfold Prs.plans0; rw [HRV.out.1]; rfl
      have HJ3 : Hid (J ([] :: (p.plans1 ++ p.plans2F p.slots)) w3 (fun k => k < W.heap.size)) := by have h := HC3.out.2; rw [HPL.out, HP0.out] at h; exact h
      obtain ⟨fn, tmps, assign, body, hyl, hRd⟩ := yield_plan (x := []) (K := fun _ => False) HH.out HC3.out.1 (.inl ⟨rfl, rfl, rfl⟩) (fun k hk => hk.elim) (fun k hk => hk.elim) HJ3.out
      have HRd := Lib.hid hRd
      clear hRd
      refine wp_seq_hid ?_
      intro K5 HK5
      refine (wpIn_wide (n := 0)).1 ?_
      gi_wp2_with fail
      refine ⟨rfl, HRd.out.mono ?_⟩
      rintro e w7 ⟨r, rfl, hres⟩
      have HRS := Lib.hid hres
      clear hres hyl HRd
      cases r with
      | true =>
        gi_wp2_with fail
        refine HK5.out _ _ ?_
        go_wp2_with fail
        refine HK3.out _ _ ?_
        exact pln5 HH HA hcw HFW HFX (Lib.hid (HRS.out.1 rfl)) HD HT
      | false =>
        gi_wp2_with fail
        refine HK5.out _ _ ?_
        go_wp2_with fail
        exact HT.out _ _ (HRS.out.2 rfl)
    · have hnd : (n == 0) = false := by simpa using hn
      have HP0 : Hid (p.plans0 = []) := by rw [Hid]; unfold Prs.plans0; rw [HRV.out.1]; exact if_neg hn
      have HC4 : Hid (∃ C, PlC W M F w3 C ∧ J (p.plans1 ++ p.plans2F p.slots) w3 C) := ⟨_, HC3.out.1, by have h := HC3.out.2; rw [HPL.out, HP0.out, List.nil_append] at h; exact h⟩
      clear hn
      go_wp2_with fail
      refine HK3.out _ _ ?_
      exact pln5 HH HA hcw HFW HFX HC4 HD HT
end Go.Proofs.Ytjkhclijmcmdjaa
namespace Go.Proofs.Ytjkhclijmcmdjaa
open Go.RowKit
section
variable {P : Program}
theorem wp_rangeFuncM {α : Type} {g : Operand} {ps : Array Tmp} {assign body : Code} {Q : Exit → Act → World → Prop} {a : Act} {w : World}
    {gf : Nat} {lb : Array Value} (hg : a.eval g = .func (.func gf) #[] lb) (eg : ∀ args w, (callFunc gf args).run P w = .ok (.enter gf args) w)
    (L : List α) (Ok : α → Array Value → World → (Nat → Prop) → Prop) (M : Nat → Prop) (hps : ∀ i v A K, Ok i v A K → v.size = ps.size)
    (hMD : ¬ M w.heap.size) (hMl : M (w.heap.size + 1))
    (hit : ∀ W, Below w.heap.size w W → W.heap.size = w.heap.size + 2 → IterL P gf lb L Ok M W)
    (I : List α → World → (Nat → Prop) → Prop) (Ix : Code → List α → World → (Nat → Prop) → Prop)
    (hI : ∀ i A B C, I i A C → Same (fun k => k = w.heap.size + 1) A B → I i B C) (hIx : ∀ c i A B C, Ix c i A C → Same (fun k => k = w.heap.size + 1) A B → Ix c i B C)
    (h0 : ∀ W, Below w.heap.size w W → W.heap.size = w.heap.size + 2 → I L W (fun k => k < w.heap.size + 2))
    (hround : ∀ x i v W C K, Ok x v W K → (∀ k, K k → ¬ C k) → (∀ k, k < w.heap.size + 2 → C k) → I (x :: i) W C → w.heap.size + 1 < W.heap.size →
      assign.wpIn (Fence.wide.inRound (w.heap.size + 1)) 0 P (Exit.then (fun a₁ W₁ => Below W.heap.size W W₁ ∧
          ∀ W₂, Same (fun k => k = w.heap.size + 1) W₁ W₂ → W₂.heap.size = W₁.heap.size → body.wpIn (Fence.wide.inRound (w.heap.size + 1)) 0 P (roundEndL (w.heap.size + 1) (w.heap.size + 2) M C K I Ix i W₂) a₁ W₂) (fun _ _ _ => False))
        { tmps := (ps.zip v).foldl (fun t (p, v) => t.setIfInBounds p v) a.tmps, defers := [] } W)
    (hdone : ∀ W C, I [] W C → W.heap[w.heap.size]? = some (.deferred (some [])) → Q .normal { a with defers := { target := .collected w.heap.size, args := #[] } :: a.defers } W)
    (hstop : ∀ c i W C, Ix c i W C → W.heap[w.heap.size]? = some (.deferred (some [])) → c.wp P Q { a with defers := { target := .collected w.heap.size, args := #[] } :: a.defers } W) :
    (Code.rangeFunc g ps assign body).wp P Q a w := by
  rw [← wpIn_wide (n := 0)]
  refine wpIn_rangeFunc ?_
  intro fn hfn
  obtain ⟨rec, hrec⟩ : ∃ rec : LoopState → Option Code → Loop, rec = fun st pe => { state := st, pending := pe, fn, tmps := a.tmps, params := ps, assign, body, defers := w.heap.size } := ⟨_, rfl⟩
  obtain ⟨W1, hW1⟩ : ∃ W1, (w.alloc (.deferred (some []))).alloc (.loop (rec .ready none)) = W1 := ⟨_, rfl⟩
  have hL1 : W1.heap[w.heap.size + 1]? = some (.loop (rec .ready none)) := by
    rw [← hW1]; have := World.alloc_heap_new (w.alloc (.deferred (some []))) (.loop (rec .ready none)); rwa [World.size_alloc] at this
  have hK1 : W1.heap[w.heap.size]? = some (.deferred (some [])) := by
    rw [← hW1]; exact (Below.heap_alloc _ _ _ (by simp)).trans (World.alloc_heap_new w _)
  have hs1 : W1.heap.size = w.heap.size + 2 := by rw [← hW1]; simp
  have hb1 : Below w.heap.size w W1 := by rw [← hW1]; exact ((Below.refl _ w).alloc (Nat.le_refl _) _).alloc (by simp) _
  refine ⟨w.heap.size + 1, [{ target := .collected w.heap.size, args := #[] }], W1, { target := .fn (.func gf) lb, args := #[.func (.yield (w.heap.size + 1)) #[] #[]] }, W1, gf,
    #[.func (.yield (w.heap.size + 1)) #[] #[]] ++ lb, W1, ?_, ?_, ?_, ?_, fun h => by simp [Fence.wide] at h, ?_⟩
  · rw [← hW1, hrec]; exact run_enterLoop_outer _ _ _ _ _
  · simp only [resolve, hg]
    simp [go_sem]
  · intro f' hf'; trivial
  · simp [invoke, go_sem, eg]
  · have hput : ∀ (W : World) (o : Obj), Same (fun k => k = w.heap.size + 1) W (W.putObj (w.heap.size + 1) o) := fun W o => Same.putObj (M := fun k => k = w.heap.size + 1) (Same.refl _ W) (.inl rfl) o
    have hl2' : w.heap.size + 1 < w.heap.size + 2 := by omega
    have hD2' : w.heap.size < w.heap.size + 2 := by omega
    have liftM : ∀ {A B : World} {C : Nat → Prop}, (∀ k, k < w.heap.size + 2 → C k) → Same (fun k => k = w.heap.size + 1) A B → Same (mayC M W1.heap.size C) A B := fun hC h => h.mono (fun _ _ e => by
      subst e; exact ⟨hC _ hl2', fun _ => hMl⟩)
    have liftI : ∀ {A B : World}, Same (fun k => k = w.heap.size + 1) A B → Same (fun k => k = w.heap.size + 1) A B := fun h => h
    have hnD : ∀ C, ¬ mayC M W1.heap.size C w.heap.size := fun C h => hMD (h.2 (by omega))
    refine (hit W1 hb1 hs1 (w.heap.size + 1)
      (fun i W C => I i W C ∧ (∀ k, k < w.heap.size + 2 → C k) ∧ W.heap[w.heap.size + 1]? = some (.loop (rec .ready none)) ∧ W.heap[w.heap.size]? = some (.deferred (some [])))
      (fun i W C => ∃ c, Ix c i W C ∧ (∀ k, k < w.heap.size + 2 → C k) ∧ W.heap[w.heap.size + 1]? = some (.loop (rec .done (some c))) ∧ W.heap[w.heap.size]? = some (.deferred (some [])))
      (fun i A B C hs hg' => ⟨hI i A B C hs.1 (hg'.mono (fun _ _ e => e.elim)), hs.2.1, (hg'.block _ (Array.getElem?_eq_some_iff.1 hs.2.2.1).1 (fun h => h)).trans hs.2.2.1, (hg'.block _ (Array.getElem?_eq_some_iff.1 hs.2.2.2).1 (fun h => h)).trans hs.2.2.2⟩)
      (fun i A B C hs hg' => by
        obtain ⟨c, hc, hC, hl, hk⟩ := hs
        exact ⟨c, hIx c i A B C hc (hg'.mono (fun _ _ e => e.elim)), hC, (hg'.block _ (Array.getElem?_eq_some_iff.1 hl).1 (fun h => h)).trans hl, (hg'.block _ (Array.getElem?_eq_some_iff.1 hk).1 (fun h => h)).trans hk⟩)
      ?_ ⟨by rw [hs1]; exact h0 W1 hb1 hs1, fun k hk => by omega, hL1, hK1⟩).mono ?_
    · rintro x i v W C K hok hKC ⟨hi, hC, hl, hk⟩
      have hlt : w.heap.size + 1 < W.heap.size := (Array.getElem?_eq_some_iff.1 hl).1
      have hy := run_yield (P := P) (args := v) hl (by rw [hrec]; exact hps x v W K hok)
      rw [hrec] at hy
      refine ⟨fn, _, assign, body, hy, roundIn_of_wpIn hfn (wpIn_mono (hround x i v W C K hok hKC hC hi hlt) ?_)⟩
      rintro e a₁ Wa hp
      cases e with
      | normal =>
        obtain ⟨hba, hbody⟩ := hp
        have hl' := (hba.block _ hlt).trans hl
        have hlt' : w.heap.size + 1 < Wa.heap.size := (Array.getElem?_eq_some_iff.1 hl').1
        have hk' := (hba.block _ (by omega : w.heap.size < W.heap.size)).trans hk
        refine ⟨_, run_beginRound hl' (by rw [hrec]), ?_⟩
        have hl2 : (Wa.putObj (w.heap.size + 1) (.loop { rec .ready none with state := .busy })).heap[w.heap.size + 1]? = some (.loop { rec .ready none with state := .busy }) := World.putObj_heap_same hlt'
        have hk2 : (Wa.putObj (w.heap.size + 1) (.loop { rec .ready none with state := .busy })).heap[w.heap.size]? = some (.deferred (some [])) := (World.putObj_heap_other (by omega)).trans hk'
        have hs2 := hput Wa (.loop { rec .ready none with state := .busy })
        refine wpIn_mono (hbody _ hs2 (by simp)) ?_
        have fin : ∀ (jump : Option Code) (W3 : World), Same (mayC M (w.heap.size + 2) C) (Wa.putObj (w.heap.size + 1) (.loop { rec .ready none with state := .busy })) W3 → W3.heap[w.heap.size + 1]? = (Wa.putObj (w.heap.size + 1) (.loop { rec .ready none with state := .busy })).heap[w.heap.size + 1]? →
            (Instr.endRound (w.heap.size + 1) jump).run P W3 = .ok (.bool jump.isNone) (W3.putObj (w.heap.size + 1) (.loop (rec (if jump.isNone then .ready else .done) jump))) ∧
            (W3.putObj (w.heap.size + 1) (.loop (rec (if jump.isNone then .ready else .done) jump))).heap[w.heap.size + 1]? = some (.loop (rec (if jump.isNone then .ready else .done) jump)) ∧
            (W3.putObj (w.heap.size + 1) (.loop (rec (if jump.isNone then .ready else .done) jump))).heap[w.heap.size]? = some (.deferred (some [])) ∧
            Same (fun k => k = w.heap.size + 1) W3 (W3.putObj (w.heap.size + 1) (.loop (rec (if jump.isNone then .ready else .done) jump))) ∧
            Same (mayC M W1.heap.size C) W (W3.putObj (w.heap.size + 1) (.loop (rec (if jump.isNone then .ready else .done) jump))) := fun jump W3 hk3 hl3 => by
          rw [hl2] at hl3
          rw [← hs1] at hk3
          have hlt3 := (Array.getElem?_eq_some_iff.1 hl3).1
          have hkk := (hk3.block _ (Array.getElem?_eq_some_iff.1 hk2).1 (hnD C)).trans hk2
          have := run_endRound (P := P) jump hl3
          rw [hrec] at this ⊢
          exact ⟨this, World.putObj_heap_same hlt3, (World.putObj_heap_other (by omega)).trans hkk, hput _ _, (Same.of_below _ hba).trans (((liftM hC hs2).trans hk3).trans (liftM hC (hput _ _)))⟩
        have hsz : (Wa.putObj (w.heap.size + 1) (.loop { rec .ready none with state := .busy })).heap.size = Wa.heap.size := by simp
        rintro e a3 W3 hp
        cases e with
        | normal =>
          obtain ⟨hk3, hl3, C', hC', hCB, hCK, hi3⟩ := hp
          obtain ⟨hr, hl4, hk4, hs4, hs5⟩ := fin none W3 hk3 hl3
          rw [hsz] at hCK
          have hCK : ∀ k, C' k → C k ∨ K k ∨ W.heap.size ≤ k := fun k hk => (hCK k hk).imp (fun h => h) (fun h => h.imp (fun h => h) (fun h => Nat.le_trans hba.size h))
          exact ⟨_, _, hr, hs5, C', by rw [hs1]; exact hC', fun k hk => by simpa using hCB k hk, hCK, .inl ⟨rfl, hI _ _ _ _ hi3 (liftI hs4), hC', hl4, hk4⟩⟩
        | ret =>
          obtain ⟨hk3, hl3, C', hC', hCB, hCK, hi3⟩ := hp
          obtain ⟨hr, hl4, hk4, hs4, hs5⟩ := fin (some .ret) W3 hk3 hl3
          rw [hsz] at hCK
          have hCK : ∀ k, C' k → C k ∨ K k ∨ W.heap.size ≤ k := fun k hk => (hCK k hk).imp (fun h => h) (fun h => h.imp (fun h => h) (fun h => Nat.le_trans hba.size h))
          exact ⟨_, _, hr, hs5, C', by rw [hs1]; exact hC', fun k hk => by simpa using hCB k hk, hCK, .inr ⟨rfl, .ret, hIx _ _ _ _ _ hi3 (liftI hs4), hC', hl4, hk4⟩⟩
        | exit id =>
          obtain ⟨hk3, hl3, C', hC', hCB, hCK, hi3⟩ := hp
          obtain ⟨hr, hl4, hk4, hs4, hs5⟩ := fin (some (.exit id)) W3 hk3 hl3
          rw [hsz] at hCK
          have hCK : ∀ k, C' k → C k ∨ K k ∨ W.heap.size ≤ k := fun k hk => (hCK k hk).imp (fun h => h) (fun h => h.imp (fun h => h) (fun h => Nat.le_trans hba.size h))
          exact ⟨_, _, hr, hs5, C', by rw [hs1]; exact hC', fun k hk => by simpa using hCB k hk, hCK, .inr ⟨rfl, .exit id, hIx _ _ _ _ _ hi3 (liftI hs4), hC', hl4, hk4⟩⟩
        | goto t => exact hp.elim
        | panic ch => exact hp.elim
        | outgrown => exact hp.elim
      | exit id => exact hp.elim
      | goto t => exact hp.elim
      | ret => exact hp.elim
      | panic chain => exact hp.elim
      | outgrown => exact hp.elim
    · rintro e W2 ⟨⟨v, rfl⟩, C', (⟨hi, hC, hl, hk⟩ | ⟨i, c, hi, hC, hl, hk⟩)⟩
      · have hlt := (Array.getElem?_eq_some_iff.1 hl).1
        exact ⟨none, _, by have := run_endLoop (P := P) hl (by rw [hrec]; simp); rw [hrec] at this; exact this, hdone _ C' (hI _ _ _ _ hi (liftI (hput _ _))) ((World.putObj_heap_other (by omega)).trans hk)⟩
      · have hlt := (Array.getElem?_eq_some_iff.1 hl).1
        exact ⟨some c, _, by have := run_endLoop (P := P) hl (by rw [hrec]; simp); rw [hrec] at this; exact this, wpIn_wide.2 (hstop c i _ C' (hIx c _ _ _ _ hi (liftI (hput _ _))) ((World.putObj_heap_other (by omega)).trans hk))⟩
end
end Go.Proofs.Ytjkhclijmcmdjaa
namespace Go.Proofs.Ytjkhclijmcmdjaa
open Go.RowKit
set_option linter.unusedVariables false
set_option linter.unusedSimpArgs false
theorem restF_bd {s : List Int} (hs : ∀ i, 0 ≤ gi s i) : ∀ (l : List Int) (v : Nat) (n m : Int), (∀ x ∈ l, x ≤ 60) → 0 ≤ n → n ≤ 66 → restF s l v n = some m → 0 ≤ m ∧ m ≤ 66
  | [], v, n, m, _, h0, h1, h => by
    simp only [restF, Option.some.injEq] at h
    omega
  | x :: r, v, n, m, hl, h0, h1, h => by
    unfold restF at h
    have hr : ∀ y ∈ r, y ≤ 60 := fun y hy => hl y (by simp [hy])
    split at h
    · exact restF_bd hs r _ n m hr h0 h1 h
    · next hx =>
      split at h
      · cases h
      · next hy =>
        refine restF_bd hs r _ _ m hr ?_ ?_ h
        · omega
        · have h2 : 0 < gi s v := by have := hs v; omega
          have h3 := Int.ediv_nonneg (show 0 ≤ x + gi s v - 1 by omega) (show 0 ≤ gi s v by omega)
          have h4 : (x + gi s v - 1) / gi s v ≤ x := by
            have h5 : x + gi s v - 1 < gi s v * (x + 1) := by
              have h6 : gi s v * (x + 1) = gi s v * x + gi s v := by rw [Int.mul_add, Int.mul_one]
              have h7 : 1 * x ≤ gi s v * x := Int.mul_le_mul_of_nonneg_right (by omega) (by omega)
              omega
            have := Int.ediv_lt_of_lt_mul h2 (by rw [Int.mul_comm]; exact h5 : x + gi s v - 1 < (x + 1) * gi s v)
            omega
          have h5 := hl x (by simp)
          omega
theorem gi_nonneg {s : List Int} (h : ∀ z ∈ s, 0 ≤ z ∧ z ≤ 6) (i : Nat) : 0 ≤ gi s i := by
  unfold gi
  rw [List.getD_eq_getElem?_getD]
  cases hs : s[i]? with
  | none => simp
  | some z => simp; exact (h z (List.mem_of_getElem? hs)).1
theorem rest_bd {p : Prs} (hV : p.valid = true) {s : List Int} (hs : s ∈ p.slots) {has : Nat → Int} (hh : ∀ v, v < p.wanted.length → 0 ≤ has v) {n : Int} (h : p.rest s has = some n) : 0 ≤ n ∧ n ≤ 66 := by
  refine restF_bd (fun i => gi_nonneg (slots_ok hV hs).2.1 i) _ 0 0 n (fun x hx => ?_) (by omega) (by omega) h
  rw [List.mem_map] at hx
  obtain ⟨v, hv, rfl⟩ := hx
  have hv2 : v < p.wanted.length := by simpa using hv
  have h1 := wants_bd hV hv2
  have h2 := hh v hv2
  omega
theorem one_mem {p : Prs} (hV : p.valid = true) {s : List Int} (hs : s ∈ p.slots) {x : List Fme} (h : x ∈ p.one s) : ∃ n, p.rest s (fun _ => 0) = some n ∧ 0 ≤ n ∧ n ≤ 66 ∧ x = [⟨s, max 1 (p.enough n)⟩] := by
  unfold Prs.one at h
  split at h
  · next n hn =>
    have hb := rest_bd hV hs (fun _ _ => Int.le_refl 0) hn
    exact ⟨n, hn, hb.1, hb.2, List.mem_singleton.1 h⟩
  · cases h
theorem two_mem {p : Prs} (hV : p.valid = true) {f : Fme} (hf : fmeOk p f = true) {s : List Int} (hs : s ∈ p.slots) {x : List Fme} (h : x ∈ p.two f s) : ∃ n, p.rest s (fun v => (p.gives f v).lo) = some n ∧ 0 ≤ n ∧ n ≤ 66 ∧ x = [f, ⟨s, max 1 (p.enough n)⟩] := by
  unfold Prs.two at h
  split at h
  · next n hn =>
    have hb := rest_bd hV hs (fun v hv => by
      have := gives_bd (spoil_of hV) (fmeR_of hf hv)
      show 0 ≤ gi f.slots v * (p.good f.times).lo
      omega) hn
    exact ⟨n, hn, hb.1, hb.2, List.mem_singleton.1 h⟩
  · cases h
/-- Where a plan of two comes from. -/
theorem plans2_mem {p : Prs} {x : List Fme} : ∀ {l : List (List Int)}, x ∈ p.plans2F l → 1 < p.formes ∧ ∃ s ∈ l, ∃ n : Nat, (n : Int) < p.most ∧ ∃ t ∈ l, x ∈ p.two ⟨s, (n : Int) + 1⟩ t
  | [], h => by cases h
  | s :: r, h => by
    unfold Prs.plans2F at h
    rw [List.mem_append] at h
    rcases h with h | h
    · split at h
      · next hf =>
        rw [List.mem_flatMap] at h
        obtain ⟨n, hn, hx⟩ := h
        rw [others_eq, List.mem_flatMap] at hx
        obtain ⟨t, ht, hx⟩ := hx
        exact ⟨hf, s, by simp, n, by have : n < p.most.toNat := by simpa using hn
                                     omega, t, ht, hx⟩
      · cases h
    · obtain ⟨hf, s', hs', n, hn, t, ht, hx⟩ := plans2_mem h
      exact ⟨hf, s', by simp [hs'], n, hn, t, by simp [ht], hx⟩
/-- Each plan that is looked at is one. -/
theorem plans_ok {p : Prs} (hV : p.valid = true) {x : List Fme} (h : x ∈ p.plans) : (x.length : Int) ≤ p.formes ∧ ∀ f ∈ x, fmeOk p f = true := by
  have hfo := formes_of hV
  unfold Prs.plans at h
  rw [List.mem_append, List.mem_append] at h
  rcases h with (h | h) | h
  · unfold Prs.plans0 at h
    have hx : x = [] := by
      split at h
      · split at h
        · exact List.mem_singleton.1 h
        · cases h
      · cases h
    subst hx
    exact ⟨by simp; omega, fun f hf => by cases hf⟩
  · rw [plans1_eq, List.mem_flatMap] at h
    obtain ⟨s, hs, hx⟩ := h
    obtain ⟨n, _, h0, h1, rfl⟩ := one_mem hV hs hx
    have hb := enough_bd p h0 h1
    refine ⟨by simp; omega, fun f hf => ?_⟩
    rw [List.mem_singleton.1 hf]
    exact slots_fme hV hs hb.1 (by omega)
  · obtain ⟨hf2, s, hs, n, hn, t, ht, hx⟩ := plans2_mem h
    have hm := most_bd hV
    have hf := slots_fme hV hs (t := (n : Int) + 1) (by omega) (by omega)
    obtain ⟨m, _, h0, h1, rfl⟩ := two_mem hV hf ht hx
    have hb := enough_bd p h0 h1
    refine ⟨by simp; omega, fun f hf' => ?_⟩
    rcases List.mem_cons.1 hf' with rfl | hf'
    · exact hf
    · rw [List.mem_singleton.1 hf']
      exact slots_fme hV ht hb.1 (by omega)
theorem fmeOk_len {p : Prs} (hV : p.valid = true) {f : Fme} (h : fmeOk p f = true) : f.slots.length ≤ 4 := by
  have := wanted_of hV
  unfold fmeOk at h
  simp only [Bool.and_eq_true, decide_eq_true_eq] at h
  omega
theorem pickF_snoc (p : Prs) (x : List Fme) : ∀ (l : List (List Fme)) (b : Option (List Fme)), p.pickF b (l ++ [x]) = some (match p.pickF b l with
    | none => x
    | some y => if p.before x y then x else y)
  | [], none => rfl
  | [], some b => rfl
  | y :: r, none => by simp only [List.cons_append, Prs.pickF]; exact pickF_snoc p x r _
  | y :: r, some b => by simp only [List.cons_append, Prs.pickF]; exact pickF_snoc p x r _
theorem pickF_mem (p : Prs) {x : List Fme} : ∀ (l : List (List Fme)) (b : Option (List Fme)), p.pickF b l = some x → x ∈ l ∨ b = some x
  | [], b, h => .inr h
  | y :: r, none, h => by
    rcases pickF_mem p r _ h with h | h
    · exact .inl (by simp [h])
    · cases h; exact .inl (by simp)
  | y :: r, some b, h => by
    rcases pickF_mem p r _ h with h | h
    · exact .inl (by simp [h])
    · split at h
      · cases h; exact .inl (by simp)
      · exact .inr h
end Go.Proofs.Ytjkhclijmcmdjaa
namespace Go.Proofs.Ytjkhclijmcmdjaa
open Go.RowKit
set_option linter.unusedVariables false
set_option linter.unusedSimpArgs false
structure bes13F (b5 : Nat) (b10 : Nat) (g : Nat) (i : Nat) (n : Nat) (ai : Option Addr) (ns : Nat) (ci : Nat) (S0 : World → Prop) (S1 : Option Addr × Nat → World → Prop) (S2 : Option Addr × Nat → World → Prop) (d : Nat → Bool) (x35 x36 x37 x38 x39 x40 x41 x42 : Value) (r1 : Option Addr × Nat) (w : World) : Prop where
  q1 : d 1 = true → d 0 = true
  q4 : d 4 = true → d 3 = true
  q5 : d 5 = true → d 4 = true
  q6 : d 6 = true → d 0 = true ∧ d 1 = true ∧ d 2 = true ∧ d 3 = true ∧ d 4 = true ∧ d 5 = true
  q7 : d 7 = true → d 0 = true ∧ d 1 = true ∧ d 2 = true ∧ d 3 = true ∧ d 4 = true ∧ d 5 = true ∧ d 6 = true
  q8 : d 8 = true → d 0 = true ∧ d 1 = true ∧ d 2 = true ∧ d 3 = true ∧ d 4 = true ∧ d 5 = true ∧ d 7 = true
  f0 : d 0 = true → x35 = .pointer (some ⟨b5, 0, none⟩)
  f1 : d 1 = true → x36 = .slice (some ⟨g, 0, none⟩) n n
  f2 : d 2 = true → x37 = .int .i64 ((i : Int))
  f3 : d 3 = true → x38 = .pointer (some ⟨b10, 0, none⟩)
  f4 : d 4 = true → x39 = .slice ai ns ci
  f5 : d 5 = true → x40 = .slice r1.1 ns r1.2
  f6 : d 6 = true → x41 = .pointer (some ⟨g, i * 2, none⟩)
  f7 : d 7 = true → x42 = .pointer (some ⟨g, i * 2, none⟩)
  st0 : d 5 = false → S0 w
  st1 : d 5 = true → d 8 = false → S1 r1 w
  st2 : d 8 = true → S2 r1 w
noncomputable def bes13C : Code := (Try.f23.body.bind (regionAt 13)).getD .skip
set_option maxRecDepth 100000 in
set_option maxHeartbeats 4000000 in
theorem bes13 {b5 : Nat} {b10 : Nat} {g : Nat} {i : Nat} {n : Nat} {ai : Option Addr} {ns : Nat} {ci : Nat} {S0 : World → Prop} {S1 : Option Addr × Nat → World → Prop} {S2 : Option Addr × Nat → World → Prop} {Q : Exit → Act → World → Prop} {W1 : World} (hi : i < n) (hn : n ≤ 100) (h0 : S0 W1.drew)
    (kl1 : Hid (∀ (r1 : Option Addr × Nat) (w : World), (S0 w ∨ S1 r1 w) → w.cell? ⟨b5, 0, none⟩ = some (.slice (some ⟨g, 0, none⟩) n n)))
    (kl4 : Hid (∀ (w : World), (S0 w) → w.cell? ⟨b10, 0, none⟩ = some (.slice ai ns ci)))
    (kc5 : Hid (∀ (w : World), S0 w → Calls Try.prog 55 #[.slice ai ns ci] w fun e w' => ∃ r1 : Option Addr × Nat, e = .returned (.slice r1.1 ns r1.2) ∧ S1 r1 w'))
    (kc8 : Hid (∀ (r1 : Option Addr × Nat) (w : World), S1 r1 w → (∃ u, w.cell? ⟨g, i * 2, none⟩ = some u) ∧ w.frozen? ⟨g, i * 2, none⟩ = false ∧ S2 r1 (w.setCell ⟨g, i * 2, none⟩ (.slice r1.1 ns r1.2))))
    {s0 s1 s2 s3 s4 s6 s7 s8 s11 s12 s13 s14 s15 s16 s17 s18 s19 s20 s21 s22 s23 s24 s25 s26 s27 s28 s29 s30 s31 s32 s33 s34 s35 s36 s37 s38 s39 s40 s41 s42 s43 s44 s45 s46 s47 : Value} {dd : List Deferred}
    (hQ : ∀ (r1 : Option Addr × Nat) (w' : World), S2 r1 w' → Q .normal { tmps := #[s0, s1, s2, s3, s4, .pointer (some ⟨b5, 0, none⟩), s6, s7, s8, .int .i64 ((i : Int)), .pointer (some ⟨b10, 0, none⟩), s11, s12, s13, s14, s15, s16, s17, s18, s19, s20, s21, s22, s23, s24, s25, s26, s27, s28, s29, s30, s31, s32, s33, s34, .pointer (some ⟨b5, 0, none⟩), .slice (some ⟨g, 0, none⟩) n n, .int .i64 ((i : Int)), .pointer (some ⟨b10, 0, none⟩), .slice ai ns ci, .slice r1.1 ns r1.2, .pointer (some ⟨g, i * 2, none⟩), .pointer (some ⟨g, i * 2, none⟩), s43, s44, s45, s46, s47], defers := dd } w') :
    Code.wpIn (wideAt none) 0 Try.prog bes13C Q { tmps := #[s0, s1, s2, s3, s4, .pointer (some ⟨b5, 0, none⟩), s6, s7, s8, .int .i64 ((i : Int)), .pointer (some ⟨b10, 0, none⟩), s11, s12, s13, s14, s15, s16, s17, s18, s19, s20, s21, s22, s23, s24, s25, s26, s27, s28, s29, s30, s31, s32, s33, s34, s35, s36, s37, s38, s39, s40, s41, s42, s43, s44, s45, s46, s47], defers := dd } W1 := by
  have HQ := Lib.hid hQ
  clear hQ
  conv => arg 4; whnf
  refine wpIn_region_invG mixed (by kernel_rfl) (fun d_ a_ w' => ∃ (x35 : Value) (x36 : Value) (x37 : Value) (x38 : Value) (x39 : Value) (x40 : Value) (x41 : Value) (x42 : Value) (r1 : Option Addr × Nat), a_ = { tmps := #[s0, s1, s2, s3, s4, .pointer (some ⟨b5, 0, none⟩), s6, s7, s8, .int .i64 ((i : Int)), .pointer (some ⟨b10, 0, none⟩), s11, s12, s13, s14, s15, s16, s17, s18, s19, s20, s21, s22, s23, s24, s25, s26, s27, s28, s29, s30, s31, s32, s33, s34, x35, x36, x37, x38, x39, x40, x41, x42, s43, s44, s45, s46, s47], defers := dd } ∧ bes13F b5 b10 g i n ai ns ci S0 S1 S2 d_ x35 x36 x37 x38 x39 x40 x41 x42 r1 w') ?_ ?_ ?_
  · refine ⟨s35, s36, s37, s38, s39, s40, s41, s42, default, rfl, ?_⟩
    constructor <;> first | rfl | (intro _; rfl) | (intro h; cases h; done) | (intro _; exact h0) | exact h0
  · refine ⟨?_, ?_, ?_, ?_, ?_, ?_, ?_, ?_, ?_, trivial⟩
    all_goals
      rintro d_ a_ w1 K hd_ hdep ⟨x35, x36, x37, x38, x39, x40, x41, x42, r1, rfl, F⟩ HK
      simp [Region.binds] at hdep
    · have HF : Hid (bes13F b5 b10 g i n ai ns ci S0 S1 S2 (upd d_ 0) (.pointer (some ⟨b5, 0, none⟩)) x36 x37 x38 x39 x40 x41 x42 r1 w1) := ⟨fun h => rfl, F.q4, F.q5, fun h => ⟨rfl, (F.q6 h).2.1, (F.q6 h).2.2.1, (F.q6 h).2.2.2.1, (F.q6 h).2.2.2.2.1, (F.q6 h).2.2.2.2.2⟩, fun h => ⟨rfl, (F.q7 h).2.1, (F.q7 h).2.2.1, (F.q7 h).2.2.2.1, (F.q7 h).2.2.2.2.1, (F.q7 h).2.2.2.2.2.1, (F.q7 h).2.2.2.2.2.2⟩, fun h => ⟨rfl, (F.q8 h).2.1, (F.q8 h).2.2.1, (F.q8 h).2.2.2.1, (F.q8 h).2.2.2.2.1, (F.q8 h).2.2.2.2.2.1, (F.q8 h).2.2.2.2.2.2⟩, fun _ => rfl, F.f1, F.f2, F.f3, F.f4, F.f5, F.f6, F.f7, F.st0, F.st1, F.st2⟩
      clear F
      go_simp
      exact HK.out _ _ ⟨_, _, _, _, _, _, _, _, _, rfl, HF.out⟩
    · have hst : S0 w1 ∨ S1 r1 w1 := by
        cases e1 : d_ 5 with
        | false => exact .inl ((F.st0 e1))
        | true =>
          have n_ : d_ 8 = false := by
            cases e_ : d_ 8 with
            | false => rfl
            | true => have h2 := (F.q8 e_).2.1; rw [show d_ 1 = false from hd_] at h2; cases h2
          exact .inr ((F.st1 e1 n_))
      have kk := kl1.out r1 w1 hst
      clear hst
      obtain rfl := F.f0 (by simp [hdep])
      have HF : Hid (bes13F b5 b10 g i n ai ns ci S0 S1 S2 (upd d_ 1) (.pointer (some ⟨b5, 0, none⟩)) (.slice (some ⟨g, 0, none⟩) n n) x37 x38 x39 x40 x41 x42 r1 w1) := ⟨fun _ => (show _ from (by simp [hdep] : d_ 0 = true)), F.q4, F.q5, fun h => ⟨(F.q6 h).1, rfl, (F.q6 h).2.2.1, (F.q6 h).2.2.2.1, (F.q6 h).2.2.2.2.1, (F.q6 h).2.2.2.2.2⟩, fun h => ⟨(F.q7 h).1, rfl, (F.q7 h).2.2.1, (F.q7 h).2.2.2.1, (F.q7 h).2.2.2.2.1, (F.q7 h).2.2.2.2.2.1, (F.q7 h).2.2.2.2.2.2⟩, fun h => ⟨(F.q8 h).1, rfl, (F.q8 h).2.2.1, (F.q8 h).2.2.2.1, (F.q8 h).2.2.2.2.1, (F.q8 h).2.2.2.2.2.1, (F.q8 h).2.2.2.2.2.2⟩, F.f0, fun _ => rfl, F.f2, F.f3, F.f4, F.f5, F.f6, F.f7, F.st0, F.st1, F.st2⟩
      clear F
      go_simp
      exact HK.out _ _ ⟨_, _, _, _, _, _, _, _, _, rfl, HF.out⟩
    · have HF : Hid (bes13F b5 b10 g i n ai ns ci S0 S1 S2 (upd d_ 2) x35 x36 (.int .i64 ((i : Int))) x38 x39 x40 x41 x42 r1 w1) := ⟨F.q1, F.q4, F.q5, fun h => ⟨(F.q6 h).1, (F.q6 h).2.1, rfl, (F.q6 h).2.2.2.1, (F.q6 h).2.2.2.2.1, (F.q6 h).2.2.2.2.2⟩, fun h => ⟨(F.q7 h).1, (F.q7 h).2.1, rfl, (F.q7 h).2.2.2.1, (F.q7 h).2.2.2.2.1, (F.q7 h).2.2.2.2.2.1, (F.q7 h).2.2.2.2.2.2⟩, fun h => ⟨(F.q8 h).1, (F.q8 h).2.1, rfl, (F.q8 h).2.2.2.1, (F.q8 h).2.2.2.2.1, (F.q8 h).2.2.2.2.2.1, (F.q8 h).2.2.2.2.2.2⟩, F.f0, F.f1, fun _ => rfl, F.f3, F.f4, F.f5, F.f6, F.f7, F.st0, F.st1, F.st2⟩
      clear F
      go_simp
      exact HK.out _ _ ⟨_, _, _, _, _, _, _, _, _, rfl, HF.out⟩
    · have HF : Hid (bes13F b5 b10 g i n ai ns ci S0 S1 S2 (upd d_ 3) x35 x36 x37 (.pointer (some ⟨b10, 0, none⟩)) x39 x40 x41 x42 r1 w1) := ⟨F.q1, fun h => rfl, F.q5, fun h => ⟨(F.q6 h).1, (F.q6 h).2.1, (F.q6 h).2.2.1, rfl, (F.q6 h).2.2.2.2.1, (F.q6 h).2.2.2.2.2⟩, fun h => ⟨(F.q7 h).1, (F.q7 h).2.1, (F.q7 h).2.2.1, rfl, (F.q7 h).2.2.2.2.1, (F.q7 h).2.2.2.2.2.1, (F.q7 h).2.2.2.2.2.2⟩, fun h => ⟨(F.q8 h).1, (F.q8 h).2.1, (F.q8 h).2.2.1, rfl, (F.q8 h).2.2.2.2.1, (F.q8 h).2.2.2.2.2.1, (F.q8 h).2.2.2.2.2.2⟩, F.f0, F.f1, F.f2, fun _ => rfl, F.f4, F.f5, F.f6, F.f7, F.st0, F.st1, F.st2⟩
      clear F
      go_simp
      exact HK.out _ _ ⟨_, _, _, _, _, _, _, _, _, rfl, HF.out⟩
    · have hst : S0 w1 := by
        have n_ : d_ 5 = false := by
          cases e_ : d_ 5 with
          | false => rfl
          | true => have h2 := (F.q5 e_); rw [show d_ 4 = false from hd_] at h2; cases h2
        exact (F.st0 n_)
      have kk := kl4.out w1 hst
      clear hst
      obtain rfl := F.f3 (by simp [hdep])
      have HF : Hid (bes13F b5 b10 g i n ai ns ci S0 S1 S2 (upd d_ 4) x35 x36 x37 (.pointer (some ⟨b10, 0, none⟩)) (.slice ai ns ci) x40 x41 x42 r1 w1) := ⟨F.q1, fun _ => (show _ from (by simp [hdep] : d_ 3 = true)), fun h => rfl, fun h => ⟨(F.q6 h).1, (F.q6 h).2.1, (F.q6 h).2.2.1, (F.q6 h).2.2.2.1, rfl, (F.q6 h).2.2.2.2.2⟩, fun h => ⟨(F.q7 h).1, (F.q7 h).2.1, (F.q7 h).2.2.1, (F.q7 h).2.2.2.1, rfl, (F.q7 h).2.2.2.2.2.1, (F.q7 h).2.2.2.2.2.2⟩, fun h => ⟨(F.q8 h).1, (F.q8 h).2.1, (F.q8 h).2.2.1, (F.q8 h).2.2.2.1, rfl, (F.q8 h).2.2.2.2.2.1, (F.q8 h).2.2.2.2.2.2⟩, F.f0, F.f1, F.f2, F.f3, fun _ => rfl, F.f5, F.f6, F.f7, F.st0, F.st1, F.st2⟩
      clear F
      go_simp
      exact HK.out _ _ ⟨_, _, _, _, _, _, _, _, _, rfl, HF.out⟩
    · have hS := F.st0  hd_
      obtain rfl := F.f4 (by simp [hdep])
      have hc := kc5.out w1 hS
      have HF := Lib.hid F
      clear F
      go_simp
      refine ⟨trivial, rfl, wideAt_calls (hc.mono ?_)⟩
      rintro e w5 ⟨v_, rfl, hres⟩
      exact HK.out _ _ ⟨_, _, _, _, _, _, _, _, v_, rfl, ⟨HF.out.q1, HF.out.q4, fun _ => (show _ from (by simp [hdep] : d_ 4 = true)), fun h => ⟨(HF.out.q6 h).1, (HF.out.q6 h).2.1, (HF.out.q6 h).2.2.1, (HF.out.q6 h).2.2.2.1, (HF.out.q6 h).2.2.2.2.1, rfl⟩, fun h => ⟨(HF.out.q7 h).1, (HF.out.q7 h).2.1, (HF.out.q7 h).2.2.1, (HF.out.q7 h).2.2.2.1, (HF.out.q7 h).2.2.2.2.1, rfl, (HF.out.q7 h).2.2.2.2.2.2⟩, fun h => ⟨(HF.out.q8 h).1, (HF.out.q8 h).2.1, (HF.out.q8 h).2.2.1, (HF.out.q8 h).2.2.2.1, (HF.out.q8 h).2.2.2.2.1, rfl, (HF.out.q8 h).2.2.2.2.2.2⟩, HF.out.f0, HF.out.f1, HF.out.f2, HF.out.f3, HF.out.f4, fun _ => rfl, HF.out.f6, HF.out.f7, fun h => (by simp [upd] at h), fun _ _ => hres, fun h => (by have h2 : d_ 5 = true := (HF.out.q8 h).2.2.2.2.2.1; rw [show d_ 5 = false from hd_] at h2; cases h2)⟩⟩
    · obtain rfl := F.f1 (by simp [hdep])
      obtain rfl := F.f2 (by simp [hdep])
      have HF : Hid (bes13F b5 b10 g i n ai ns ci S0 S1 S2 (upd d_ 6) x35 (.slice (some ⟨g, 0, none⟩) n n) (.int .i64 ((i : Int))) x38 x39 x40 (.pointer (some ⟨g, i * 2, none⟩)) x42 r1 w1) := ⟨F.q1, F.q4, F.q5, fun _ => ⟨(show _ from (by simp [hdep] : d_ 0 = true)), (show _ from (by simp [hdep] : d_ 1 = true)), (show _ from (by simp [hdep] : d_ 2 = true)), (show _ from (by simp [hdep] : d_ 3 = true)), (show _ from (by simp [hdep] : d_ 4 = true)), (show _ from (by simp [hdep] : d_ 5 = true))⟩, fun h => ⟨(F.q7 h).1, (F.q7 h).2.1, (F.q7 h).2.2.1, (F.q7 h).2.2.2.1, (F.q7 h).2.2.2.2.1, (F.q7 h).2.2.2.2.2.1, rfl⟩, F.q8, F.f0, F.f1, F.f2, F.f3, F.f4, F.f5, fun _ => rfl, F.f7, F.st0, F.st1, F.st2⟩
      clear F
      go_simp
      exact HK.out _ _ ⟨_, _, _, _, _, _, _, _, _, rfl, HF.out⟩
    · obtain rfl := F.f6 (by simp [hdep])
      have HF : Hid (bes13F b5 b10 g i n ai ns ci S0 S1 S2 (upd d_ 7) x35 x36 x37 x38 x39 x40 (.pointer (some ⟨g, i * 2, none⟩)) (.pointer (some ⟨g, i * 2, none⟩)) r1 w1) := ⟨F.q1, F.q4, F.q5, F.q6, fun _ => ⟨(show _ from (by simp [hdep] : d_ 0 = true)), (show _ from (by simp [hdep] : d_ 1 = true)), (show _ from (by simp [hdep] : d_ 2 = true)), (show _ from (by simp [hdep] : d_ 3 = true)), (show _ from (by simp [hdep] : d_ 4 = true)), (show _ from (by simp [hdep] : d_ 5 = true)), (show _ from (by simp [hdep] : d_ 6 = true))⟩, fun h => ⟨(F.q8 h).1, (F.q8 h).2.1, (F.q8 h).2.2.1, (F.q8 h).2.2.2.1, (F.q8 h).2.2.2.2.1, (F.q8 h).2.2.2.2.2.1, rfl⟩, F.f0, F.f1, F.f2, F.f3, F.f4, F.f5, F.f6, fun _ => rfl, F.st0, F.st1, F.st2⟩
      clear F
      go_simp
      exact HK.out _ _ ⟨_, _, _, _, _, _, _, _, _, rfl, HF.out⟩
    · have hS := F.st1 (by simp [hdep] : d_ 5 = true) hd_
      obtain rfl := F.f5 (by simp [hdep])
      obtain rfl := F.f7 (by simp [hdep])
      obtain ⟨⟨ku0, kcell0⟩, kfr0, hres⟩ := kc8.out r1 w1 hS
      have HF : Hid (bes13F b5 b10 g i n ai ns ci S0 S1 S2 (upd d_ 8) x35 x36 x37 x38 x39 (.slice r1.1 ns r1.2) x41 (.pointer (some ⟨g, i * 2, none⟩)) r1 (w1.setCell ⟨g, i * 2, none⟩ (.slice r1.1 ns r1.2))) := ⟨F.q1, F.q4, F.q5, F.q6, F.q7, fun _ => ⟨(show _ from (by simp [hdep] : d_ 0 = true)), (show _ from (by simp [hdep] : d_ 1 = true)), (show _ from (by simp [hdep] : d_ 2 = true)), (show _ from (by simp [hdep] : d_ 3 = true)), (show _ from (by simp [hdep] : d_ 4 = true)), (show _ from (by simp [hdep] : d_ 5 = true)), (show _ from (by simp [hdep] : d_ 7 = true))⟩, F.f0, F.f1, F.f2, F.f3, F.f4, F.f5, F.f6, F.f7, fun h => (by have h2 : d_ 5 = false := h; rw [(by simp [hdep] : d_ 5 = true)] at h2; cases h2), fun _ h => (by simp [upd] at h), fun _ => hres⟩
      clear F hS hres
      go_simp
      exact HK.out _ _ ⟨_, _, _, _, _, _, _, _, _, rfl, HF.out⟩
  · rintro d_ a_ w1 hall ⟨x35, x36, x37, x38, x39, x40, x41, x42, r1, rfl, F⟩
    have hall' : ∀ k, k < 9 → d_ k = true := hall
    obtain rfl := F.f0 (hall' 0 (by decide))
    obtain rfl := F.f1 (hall' 1 (by decide))
    obtain rfl := F.f2 (hall' 2 (by decide))
    obtain rfl := F.f3 (hall' 3 (by decide))
    obtain rfl := F.f4 (hall' 4 (by decide))
    obtain rfl := F.f5 (hall' 5 (by decide))
    obtain rfl := F.f6 (hall' 6 (by decide))
    obtain rfl := F.f7 (hall' 7 (by decide))
    have hst := F.st2 (hall' 8 (by decide))
    exact HQ.out r1 w1 hst
noncomputable def bes15C : Code := (Try.f23.body.bind (regionAt 15)).getD .skip
set_option maxRecDepth 100000 in
set_option maxHeartbeats 8000000 in
theorem bes15 {b5 be n c : Nat} {a : Option Addr} {x er : Int} {P0 P1 : World → Prop} {Q : Exit → Act → World → Prop} {W1 : World}  (h0 : P0 W1.drew)
    (kl1 : Hid (∀ w : World, (P0 w ∨ P1 w) → w.cell? ⟨b5, 0, none⟩ = some (.slice a n c)))
    (kl3 : Hid (∀ w : World, (P0 w ∨ P1 w) → w.cell? ⟨b5, 1, none⟩ = some (.int .i64 (x))))
    (ks6 : Hid (∀ w : World, P0 w → (∃ u, w.cell? ⟨be, 0, none⟩ = some u) ∧ w.frozen? ⟨be, 0, none⟩ = false ∧ P1 (w.setCell ⟨be, 0, none⟩ (.int .i64 (0)))))
    {s0 s1 s6 s7 s8 s9 s10 s11 s12 s13 s14 s15 s16 s17 s18 s19 s20 s21 s22 s23 s24 s25 s26 s27 s28 s29 s30 s31 s32 s33 s34 s35 s36 s37 s38 s39 s40 s41 s42 s43 s44 s45 s46 s47 : Value} {dd : List Deferred}
    (hQ : ∀ w' : World, P1 w' → Q .normal { tmps := #[s0,s1,.slice a n c,.int .i64 (x),.pointer (some ⟨be, 0, none⟩),.pointer (some ⟨b5, 0, none⟩),s6,s7,s8,s9,s10,s11,s12,s13,s14,s15,s16,s17,s18,s19,s20,s21,s22,s23,s24,s25,s26,s27,s28,s29,s30,s31,s32,s33,s34,s35,s36,s37,s38,s39,s40,s41,s42,s43,.pointer (some ⟨b5, 0, none⟩),.slice a n c,.pointer (some ⟨b5, 1, none⟩),.int .i64 (x)],defers := dd } w') :
    Code.wpIn (wideAt none) 0 Try.prog bes15C Q { tmps := #[s0,s1,.slice none 0 0,.int .i64 (0),.pointer (some ⟨be, 0, none⟩),.pointer (some ⟨b5, 0, none⟩),s6,s7,s8,s9,s10,s11,s12,s13,s14,s15,s16,s17,s18,s19,s20,s21,s22,s23,s24,s25,s26,s27,s28,s29,s30,s31,s32,s33,s34,s35,s36,s37,s38,s39,s40,s41,s42,s43,s44,s45,s46,s47],defers := dd } W1 := by
  have HQ := Lib.hid hQ
  clear hQ
  conv => arg 4; whnf
  refine wpIn_region_invG mixed (by kernel_rfl) (fun d_ a_ w' => a_ = { tmps := #[s0,s1,pk (d_ 4) (.slice a n c) (.slice none 0 0),pk (d_ 5) (.int .i64 (x)) (.int .i64 (0)),.pointer (some ⟨be, 0, none⟩),.pointer (some ⟨b5, 0, none⟩),s6,s7,s8,s9,s10,s11,s12,s13,s14,s15,s16,s17,s18,s19,s20,s21,s22,s23,s24,s25,s26,s27,s28,s29,s30,s31,s32,s33,s34,s35,s36,s37,s38,s39,s40,s41,s42,s43,pk (d_ 0) (.pointer (some ⟨b5, 0, none⟩)) s44,pk (d_ 1) (.slice a n c) s45,pk (d_ 2) (.pointer (some ⟨b5, 1, none⟩)) s46,pk (d_ 3) (.int .i64 (x)) s47],defers := dd } ∧ ch1 P0 P1 (d_ 6) w') ?_ ?_ ?_
  · exact ⟨rfl, h0⟩
  · refine ⟨?_,?_,?_,?_,?_,?_,?_, trivial⟩
    all_goals
      rintro d_ a_ w1 K hd_ hdep ⟨rfl, F⟩ HK
      simp [Region.binds] at hdep
    · have HF := Lib.hid F
      clear F hdep
      go_simp
      refine HK.out _ _ ⟨?_, HF.out⟩
      all_goals rfl
    · have q0 : d_ 0 = true := by simp [hdep]
      have kk := kl1.out w1 (ch1_or F)
      rw [pk_of q0]
      have HF := Lib.hid F
      clear F hdep
      go_simp
      refine HK.out _ _ ⟨?_, HF.out⟩
      rw [pk_of (show upd d_ 1 0 = true from q0)]
      all_goals rfl
    · have HF := Lib.hid F
      clear F hdep
      go_simp
      refine HK.out _ _ ⟨?_, HF.out⟩
      all_goals rfl
    · have q2 : d_ 2 = true := by simp [hdep]
      have kk := kl3.out w1 (ch1_or F)
      rw [pk_of q2]
      have HF := Lib.hid F
      clear F hdep
      go_simp
      refine HK.out _ _ ⟨?_, HF.out⟩
      rw [pk_of (show upd d_ 3 2 = true from q2)]
      all_goals rfl
    · have q1 : d_ 1 = true := by simp [hdep]
      rw [pk_of q1]
      have HF := Lib.hid F
      clear F hdep
      go_simp
      refine HK.out _ _ ⟨?_, HF.out⟩
      rw [pk_of (show upd d_ 4 1 = true from q1)]
      all_goals rfl
    · have q3 : d_ 3 = true := by simp [hdep]
      rw [pk_of q3]
      have HF := Lib.hid F
      clear F hdep
      go_simp
      refine HK.out _ _ ⟨?_, HF.out⟩
      rw [pk_of (show upd d_ 5 3 = true from q3)]
      all_goals rfl
    · obtain ⟨hP, hN⟩ := ch1_s1 F hd_
      obtain ⟨⟨u0, c0⟩, z0, hR⟩ := ks6.out w1 hP
      have HF := Lib.hid (hN _ hR)
      clear F hP hR hN hdep
      go_simp
      have HG := HF.out
      refine HK.out _ _ ⟨?_, HG⟩
      all_goals rfl
  · rintro d_ a_ w1 hall ⟨rfl, F⟩
    have hall' : ∀ k, k < 7 → d_ k = true := hall
    rw [hall' 6 (by decide)] at F
    have HF := Lib.hid F
    clear F
    rw [pk_of (hall' 0 (by decide)), pk_of (hall' 1 (by decide)), pk_of (hall' 2 (by decide)), pk_of (hall' 3 (by decide)), pk_of (hall' 4 (by decide)), pk_of (hall' 5 (by decide))]
    exact HQ.out w1 HF.out
/-- A copy of numbers, wherever they lie. -/
theorem clone55i {w : World} {a : Option Addr} {l : List Int} {c : Nat} (ha : IsInts w a l) (h0 : 0 < l.length) (hl : l.length ≤ 100) :
    Calls Try.prog 55 #[.slice a l.length c] w fun e w' => ∃ g c', e = .returned (.slice (some ⟨g, 0, none⟩) l.length c') ∧ w.heap.size ≤ g ∧ IsInts w' (some ⟨g, 0, none⟩) l ∧ Below w.heap.size w w' := by
  obtain ⟨i0, hi0, hz0, hz1, hz2⟩ := info_parts infoI
  obtain ⟨b, off, rfl, _⟩ := ha 0 h0
  have hb : Below w.heap.size w (w.alloc (.cells #[] 3)) := (Below.refl _ w).alloc (Nat.le_refl _) _
  have hm : (w.alloc (.cells #[] 3)).ownsRow w.heap.size 3 1 (.slice (some ⟨w.heap.size, 0, none⟩) 0 0) 0 [] := World.ownsRow_made (e := 3) (size := 1) w #[] 0 (base := w.heap.size) (Nat.le_refl _) (by simp [maxLen]) (by simp)
  obtain ⟨v', w', hr, hn, hg⟩ := append_rows (P := Try.prog) w.heap.size 24 24 3 i0 _ 1 8 Try.underlying24 hi0 hz0 hz1 hz2 rfl (by decide) _ 0 [] hm (some ⟨b, off, none⟩) l.length c (l.map (Value.int .i64)) (by simp) (ints_news (ha.mono hb)) (by intro u hu; simp at hu; obtain ⟨x, _, rfl⟩ := hu; rfl) (by simp [maxLen]; omega) (by omega) (by simp)
  rw [Nat.zero_add, List.nil_append] at hn
  have HR := Lib.hid hr
  obtain ⟨g, c', e, hge, _⟩ := own_cell hn (by omega)
  subst e
  have HN := Lib.hid (And.intro (own_ints hn) (And.intro hge (hb.grown hg (by simp) (fun k hk => (hm.lt k hk).1))))
  have he := Lib.run_eql_slice_nil (P := Try.prog)
  clear hr hn hg hm hb hi0 hz0 hz1 hz2 hge ha
  go_enter Try.func55, Try.ntmps55
  go_wp2_with (at_builtin; refine wpList_append_run rfl (.tmp 5) (.tmp 6) 24 rfl _ _ _ _ rfl rfl HR.out ?_)
  go_ret
  exact ⟨g, c', rfl, HN.out.2.1, HN.out.1, HN.out.2.2⟩
theorem fmC_set : ∀ {x : List Fme} {rs : List Row} {i : Nat} (r : Row), rs.length = x.length → i < x.length → (fmC x rs).set (i * 2) (.slice r.1 (gf x i).slots.length r.2) = fmC x (rs.set i r)
  | f :: x, q :: rs, 0, r, _, _ => by simp [fmC, gf]
  | f :: x, q :: rs, i + 1, r, h, hi => by
    have ih := fmC_set (x := x) (rs := rs) (i := i) r (by simpa using h) (by simpa using hi)
    have e1 : (i + 1) * 2 = i * 2 + 1 + 1 := by omega
    have e2 : gf (f :: x) (i + 1) = gf x i := by simp [gf]
    rw [e1, e2]
    simp only [fmC, List.set_cons_succ, ih]
  | [], _, _, _, _, hi => by simp at hi
  | f :: x, [], _, _, h, _ => by simp at h
theorem ints_set {w : World} {g k : Nat} {a : Option Addr} {l : List Int} {v : Value} (h : IsInts w a l) (hne : ∀ b o, a = some ⟨b, o, none⟩ → b ≠ g) : IsInts (w.setCell ⟨g, k, none⟩ v) a l := fun i hi => by
  obtain ⟨b, off, he, h0⟩ := h i hi
  exact ⟨b, off, he, (cell_eq (Below.heap_setCell _ _ _ _ (hne b off he))).trans h0⟩
/-- One forme's slots are laid anew. -/
theorem PlM.set {A : World} {g i : Nat} {x : List Fme} {rs : List Row} {r : Row} (h : PlM A g x rs) (hi : i < x.length) (hr : IsInts A r.1 (gf x i).slots) (hrb : ∀ b o, r.1 = some ⟨b, o, none⟩ → b ≠ g) (hb : ∀ q ∈ rs, ∀ b o, q.1 = some ⟨b, o, none⟩ → b ≠ g) :
    PlM (A.setCell ⟨g, i * 2, none⟩ (.slice r.1 (gf x i).slots.length r.2)) g x (rs.set i r) := by
  have h1 := heap_setCell_at (k := i * 2) h.h (.slice r.1 (gf x i).slots.length r.2)
  rw [List.setIfInBounds_toArray, fmC_set r h.len hi] at h1
  refine ⟨h1, by rw [List.length_set]; exact h.len, fun j q hq => ?_⟩
  rw [List.getElem?_set] at hq
  by_cases e : i = j
  · subst e
    rw [if_pos rfl, if_pos (by rw [h.len]; exact hi)] at hq
    cases hq
    exact ints_set hr hrb
  · rw [if_neg e] at hq
    exact ints_set (h.slots j q hq) (hb q (List.mem_of_getElem? hq))
end Go.Proofs.Ytjkhclijmcmdjaa
