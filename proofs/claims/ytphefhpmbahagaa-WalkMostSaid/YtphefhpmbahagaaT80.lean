/- WalkMost: the walk. -/
import Derived.Test.YtphefhpmbahagaaT79
import Derived.Test.YtphefhpmbahagaaT52
namespace Go.Proofs.Ytphefhpmbahagaa
open Go.RowKit
set_option linter.unusedVariables false
set_option linter.unusedSimpArgs false

theorem ints_take {w : World} {a : Option Addr} {l : List Int} (k : Nat) (h : IsInts w a l) : IsInts w a (l.take k) := fun i hi => by
  rw [List.length_take] at hi
  obtain ⟨b, off, e, hc⟩ := h i (by omega)
  exact ⟨b, off, e, by rw [gi_take (by omega)]; exact hc⟩
theorem ints_drop {w : World} {fb cf k : Nat} {l : List Int} (h : IsInts w (some ⟨fb, 0, none⟩) l) (hc : l.length ≤ cf) : IsInts w (if cf = k then some ⟨fb, 0, none⟩ else some ⟨fb, k, none⟩) (l.drop k) := fun i hi => by
  rw [List.length_drop] at hi
  obtain ⟨b, off, e, h2⟩ := h (k + i) (by omega)
  cases e
  refine ⟨fb, k, by rw [if_neg (by omega)], ?_⟩
  rw [Nat.zero_add] at h2
  rw [h2]
  simp [gi]
theorem len_ins {l : List Int} {k : Nat} (v : Int) (h : k ≤ l.length) : (l.take k ++ [v] ++ l.drop k).length = l.length + 1 := by simp; omega
set_option maxRecDepth 100000 in
set_option maxHeartbeats 4000000 in
theorem walkMost_any {t : Tr} {A : TrA} {w : World} (ht : IsTr w t A) (hw : t.ways.length ≤ 9223372036854775807) {ub : Option Addr} {lb cb : Nat} (hu : IsU8 w ub lb) (hlb : lb ≤ 9223372036854775807) {many : Int} (hmany : 0 ≤ many ∧ many ≤ 255) :
    Calls Try.prog 8 #[t.v A, .slice ub lb cb, .int .u8 many] w fun e w' => e = .returned (.bool true) ∧ Below w.heap.size w w' := by
  have hb0 : Below w.heap.size w (w.alloc (.cells (t.cells A) 25)) := (Below.refl _ w).alloc (Nat.le_refl _) _
  have q0 := World.alloc_heap_new w (.cells (t.cells A) 25)
  have HW := Lib.hid (And.intro hb0 (And.intro q0 (And.intro (ht.mono hb0) (hu.mono hb0))))
  have HG : Hid (∀ v, IsTr v t A → Calls Try.prog 12 #[t.v A, .slice none 0 0, .int .i64 6] v fun e w' => e = .returned (.bool (t.great [] 6)) ∧ Below v.heap.size v w') := fun v h => great12 (o := []) (a := none) (cap := 0) h hw 6
  have HLB := Lib.hid hlb
  have hmf : ∀ (fn : Fn) (first cap : Array Value) (w : World), (Instr.makeFunc fn first cap).run Try.prog w = .ok (.func fn first cap) w := fun _ _ _ _ => rfl
  clear hb0 q0 hu ht hw hlb
  go_enter Try.func8, Try.ntmps8
  refine wp_seq_hid ?_
  intro K0 HK0
  go_wp2_with fail
  refine HK0.out _ _ ?_
  refine wp_seq_hid ?_
  intro K1 HK1
  revert HW
  generalize w.alloc (.cells (t.cells A) 25) = w1
  intro HW
  have KP : Hid (∀ v, Below w1.heap.size w1 v → v.heap[w.heap.size]? = some (.cells (t.cells A) 25 (0, 0)) ∧ IsTr v t A ∧ IsU8 v ub lb ∧ Below w.heap.size w v) := fun v h => ⟨(h.block _ (heap_lt HW.out.2.1)).trans HW.out.2.1, HW.out.2.2.1.mono h, HW.out.2.2.2.mono h, HW.out.1.trans (h.mono HW.out.1.size)⟩
  have HWL : Hid (w.heap.size < w1.heap.size) := heap_lt HW.out.2.1
  have HB := Lib.hid (Below.refl w1.heap.size w1)
  obtain ⟨k0, k1, k2, k3, k4⟩ := tr_cells (KP.out w1 HB.out).1
  go_wp2_with fail
  refine (HG.out _ (KP.out w1 HB.out).2.1).mono ?_
  rintro e b1 ⟨rfl, hb⟩
  have HX := Lib.hid (HB.out.trans (hb.mono HB.out.size))
  clear hb HB HG k0 k1 k2 k3 k4
  have HB := HX
  clear HX
  cases hg : t.great [] 6
  case true =>
    go_wp2_with fail
    refine (alive13 _).mono ?_
    rintro e c1 ⟨rfl, hb⟩
    have HX := Lib.hid (HB.out.trans (hb.mono HB.out.size))
    clear hb
    go_wp2_with fail
    go_ret
    exact ⟨rfl, (KP.out _ HX.out).2.2.2⟩
  have HN := Lib.hid (great_no hg)
  clear hg
  obtain ⟨k0, k1, k2, k3, k4⟩ := tr_cells (KP.out b1 HB.out).1
  have C33 := rtour33 (KP.out b1 HB.out).2.1 HN.out.1
  go_wp2_with fail
  refine (C33).mono ?_
  rintro e b2 ⟨rfl, hb⟩
  have HX := Lib.hid (HB.out.trans (hb.mono HB.out.size))
  clear hb HB C33 k0 k1 k2 k3 k4
  have HB := HX
  clear HX
  cases hv : t.valid
  case false =>
    go_wp2_with fail
    refine (alive13 _).mono ?_
    rintro e c1 ⟨rfl, hb⟩
    have HX := Lib.hid (HB.out.trans (hb.mono HB.out.size))
    clear hb
    go_wp2_with fail
    go_ret
    exact ⟨rfl, (KP.out _ HX.out).2.2.2⟩
  have HV := Lib.hid hv
  clear hv
  go_wp2_with fail
  refine HK1.out _ _ ?_
  clear HK1 K1
  clear HK0 K0
  obtain ⟨l, hM, hF⟩ := most_facts HV.out
  have HF := Lib.hid hF
  have C27 : Hid (∀ v, Below w1.heap.size w1 v → Calls Try.prog 27 #[t.v A] v fun e w' => ∃ av cv, e = .returned (.tuple #[.slice av l.length cv, .int .i64 0]) ∧ (IsInts w' av l ∧ ((l = [] ∧ av = none ∧ cv = 0) ∨ ∃ b : Nat, av = some ⟨b, 0, none⟩ ∧ l.length ≤ cv)) ∧ Below v.heap.size v w') := fun v h => by
    refine (most27 (KP.out v h).2.1 HN.out.1).mono ?_
    rw [hM]
    rintro e w' ⟨⟨po, ov, pa, pc⟩, rfl, ho, hat, hb⟩
    have ho : po = l := ho
    subst ho
    refine ⟨pa, pc, rfl, ⟨hat.ints, ?_⟩, hb⟩
    rcases hat.lies with h | ⟨b, _, h1, h2⟩
    · exact .inl h
    · exact .inr ⟨b, h1, h2⟩
  clear hM hF
  refine wp_seq_hid ?_
  intro K3 HK3
  obtain ⟨k0, k1, k2, k3, k4⟩ := tr_cells (KP.out b2 HB.out).1
  go_wp2_with fail
  refine (C27.out _ HB.out).mono ?_
  rintro e b3 ⟨av, cv, rfl, ⟨hs1, hly⟩, hb⟩
  have HLY := Lib.hid hly
  clear hly
  have HX := Lib.hid (And.intro (HB.out.trans (hb.mono HB.out.size)) hs1)
  clear hb HB C27 k0 k1 k2 k3 k4 hs1
  have HB := HX
  clear HX
  go_wp2_with fail
  refine HK3.out _ _ ?_
  clear HK3 K3
  have h6 : t.frm.length ≤ 6 := (fit_of_valid HV.out).n
  have hl6 := HF.out.len
  refine wp_seq_hid ?_
  intro K4 HK4
  have C34 := rorder34 (cap := cv) (KP.out b3 HB.out.1).2.1 (by omega) (by omega) HB.out.2
  rw [HF.out.ord] at C34
  obtain ⟨k0, k1, k2, k3, k4⟩ := tr_cells (KP.out b3 HB.out.1).1
  go_wp2_with fail
  refine (C34).mono ?_
  rintro e b4 ⟨rfl, hb⟩
  have HX := Lib.hid (And.intro (HB.out.1.trans (hb.mono HB.out.1.size)) (HB.out.2.mono hb))
  clear hb HB C34 k0 k1 k2 k3 k4
  have HB := HX
  clear HX
  go_wp2_with fail
  refine HK4.out _ _ ?_
  clear HK4 K4
  obtain ⟨k0, k1, k2, k3, k4⟩ := tr_cells (KP.out b4 HB.out.1).1
  refine wp_seq_hid ?_
  intro K6 HK6
  go_wp2_with fail
  refine HK6.out _ _ ?_
  clear HK6 K6
  clear k0 k1 k2 k3 k4
  refine wp_seq_hid ?_
  intro K7 HK7
  go_wp2_with fail
  refine HK7.out _ _ ?_
  clear HK7 K7
  refine wp_seq_hid ?_
  intro K8 HK8
  have REST8 : Hid (∀ {s0 s4 s5 s6 s8 s11 s12 s13 s14 s15 s16 s17 s18 s19 s20 s21 s22 s23 s24 s25 s26 s27 s28 s29 s30 s31 s32 s33 s34 s35 s36 s37 s38 s39 s40 s41 s42 s43 s44 s45 s46 s47 s48 s49 s50 s51 s52 s53 s54 s55 s56 s57 s58 s59 s60 s61 s62 s63 s64 s65 s66 s67 s68 s69 s70 s71 s72 s73 s74 s75 s76 s77 s78 s79 s80 s81 s82 s83 s84 s85 s86 s87 s88 s89 s90 s91 s92 s93 s94 s95 s96 s97 s98 s99 s100 s101 s102 s103 s104 s105 s106 s107 s108 s109 s110 s111 s112 s113 s114 s115 s116 s117 s118 s119 s120 s121 s122 s123 s124 s125 s126 s127 s128 s129 s130 s131 s132 s133 s134 s135 s136 s137 s138 s139 s140 s141 s142 s143 s144 s145 s146 s147 s148 s149 s150 s151 s152 s153 s154 s155 s156 s157 s158 s159 s160 s161 s162 s163 s164 s165 s166 s167 s168 s169 s170 s171 s172 s173 s174 s175 : Value} {v : World}, Below w1.heap.size w1 v → IsInts v av l → K8 { tmps := #[s0, .slice ub lb cb, .int .u8 many, .pointer (some ⟨w.heap.size, 0, none⟩), s4, s5, s6, .slice av l.length cv, s8, .int .i64 (t.frm.length : Int), .func (.func 38) #[] #[.pointer (some ⟨w.heap.size, 0, none⟩)], s11, s12, s13, s14, s15, s16, s17, s18, s19, s20, s21, s22, s23, s24, s25, s26, s27, s28, s29, s30, s31, s32, s33, s34, s35, s36, s37, s38, s39, s40, s41, s42, s43, s44, s45, s46, s47, s48, s49, s50, s51, s52, s53, s54, s55, s56, s57, s58, s59, s60, s61, s62, s63, s64, s65, s66, s67, s68, s69, s70, s71, s72, s73, s74, s75, s76, s77, s78, s79, s80, s81, s82, s83, s84, s85, s86, s87, s88, s89, s90, s91, s92, s93, s94, s95, s96, s97, s98, s99, s100, s101, s102, s103, s104, s105, s106, s107, s108, s109, s110, s111, s112, s113, s114, s115, s116, s117, s118, s119, s120, s121, s122, s123, s124, s125, s126, s127, s128, s129, s130, s131, s132, s133, s134, s135, s136, s137, s138, s139, s140, s141, s142, s143, s144, s145, s146, s147, s148, s149, s150, s151, s152, s153, s154, s155, s156, s157, s158, s159, s160, s161, s162, s163, s164, s165, s166, s167, s168, s169, s170, s171, s172, s173, s174, s175], defers := [] } v) := by
    intro s0 s4 s5 s6 s8 s11 s12 s13 s14 s15 s16 s17 s18 s19 s20 s21 s22 s23 s24 s25 s26 s27 s28 s29 s30 s31 s32 s33 s34 s35 s36 s37 s38 s39 s40 s41 s42 s43 s44 s45 s46 s47 s48 s49 s50 s51 s52 s53 s54 s55 s56 s57 s58 s59 s60 s61 s62 s63 s64 s65 s66 s67 s68 s69 s70 s71 s72 s73 s74 s75 s76 s77 s78 s79 s80 s81 s82 s83 s84 s85 s86 s87 s88 s89 s90 s91 s92 s93 s94 s95 s96 s97 s98 s99 s100 s101 s102 s103 s104 s105 s106 s107 s108 s109 s110 s111 s112 s113 s114 s115 s116 s117 s118 s119 s120 s121 s122 s123 s124 s125 s126 s127 s128 s129 s130 s131 s132 s133 s134 s135 s136 s137 s138 s139 s140 s141 s142 s143 s144 s145 s146 s147 s148 s149 s150 s151 s152 s153 s154 s155 s156 s157 s158 s159 s160 s161 s162 s163 s164 s165 s166 s167 s168 s169 s170 s171 s172 s173 s174 s175 v hb1 hi1
    have HB := Lib.hid (And.intro hb1 hi1)
    clear hb1 hi1
    refine HK8.out _ _ ?_
    clear HK8 K8
    refine wp_seq_hid ?_
    intro K21 HK21
    go_wp2_with fail
    refine (other37c (n := t.frm.length) (cb := cb) (by omega) (KP.out v HB.out.1).2.2.1 HLB.out).mono ?_
    rintro e v2 ⟨own, ao, co, rfl, hp, ⟨OB, hown⟩, hb⟩
    have HP := Lib.hid hp
    have HOI := Lib.hid (own_ints hown)
    clear hp
    have HX := Lib.hid (And.intro (HB.out.1.trans (hb.mono HB.out.1.size)) (HB.out.2.mono hb))
    clear hb HB
    have HB := HX
    clear HX
    go_wp2_with fail
    refine HK21.out _ _ ?_
    clear HK21 K21
    obtain ⟨m, hm⟩ : ∃ m : Nat, many.tmod ((t.frm.length : Int) + 1) = (m : Int) := ⟨(many % ((t.frm.length : Int) + 1)).toNat, by rw [Int.tmod_eq_emod_of_nonneg hmany.1]; have := Int.emod_nonneg many (show (t.frm.length : Int) + 1 ≠ 0 by omega); omega⟩
    have hmn : m ≤ t.frm.length := by
      have h1 := Int.tmod_lt_of_pos many (show (0 : Int) < (t.frm.length : Int) + 1 by omega)
      omega
    have hne : ¬ ((t.frm.length : Int) + 1) = 0 := by omega
    have hmw : IntKind.i64.wrap many = many := IntWalk.i64_in _ (by omega)
    obtain ⟨ow, ho2⟩ : ∃ ow : List Int, ow = own.take m := ⟨_, rfl⟩
    have hol : ow.length = m := by rw [ho2, List.length_take, HP.out.1]; omega
    have HO := Lib.hid (HF.out.own ow (by rw [ho2]; exact HP.out.2.1.sublist (List.take_sublist _ _)) (fun x hx => by rw [ho2] at hx; exact HP.out.2.2 x (List.mem_of_mem_take hx)))
    have HO2 : Hid (IsInts v2 ao ow) := by rw [ho2]; exact ints_take m HOI.out
    have HLE2 := Lib.hid hol
    have HOL : Hid (ow.length ≤ 16) := by show ow.length ≤ 16; omega
    clear hol
    refine wp_seq_hid ?_
    intro K22 HK22
    have REST22 : Hid (∀ {s0 s4 s5 s6 s8 s11 s12 s13 s15 s16 s17 s18 s19 s20 s21 s22 s23 s24 s25 s26 s27 s28 s29 s30 s31 s32 s33 s34 s35 s36 s37 s38 s39 s40 s41 s42 s43 s44 s45 s46 s47 s48 s49 s50 s51 s52 s53 s54 s55 s56 s57 s58 s59 s60 s61 s62 s63 s64 s65 s66 s67 s68 s69 s70 s71 s72 s73 s74 s75 s76 s77 s78 s79 s80 s81 s82 s83 s84 s85 s86 s87 s88 s89 s90 s91 s92 s93 s94 s95 s96 s97 s98 s99 s100 s101 s102 s103 s104 s105 s106 s107 s108 s109 s110 s111 s112 s113 s114 s115 s116 s117 s118 s119 s120 s121 s122 s123 s124 s125 s126 s127 s128 s129 s130 s131 s132 s133 s134 s135 s136 s137 s138 s139 s140 s141 s142 s143 s144 s145 s146 s147 s148 s149 s150 s151 s152 s153 s154 s155 s156 s157 s158 s159 s160 s161 s162 s163 s164 s165 s166 s167 s168 s169 s170 s171 s172 s173 s174 s175 : Value} {ao : Option Addr} {co nq : Nat}, nq = ow.length → IsInts v2 ao ow → K22 { tmps := #[s0, .slice ub lb cb, .int .u8 many, .pointer (some ⟨w.heap.size, 0, none⟩), s4, s5, s6, .slice av l.length cv, s8, .int .i64 (t.frm.length : Int), .func (.func 38) #[] #[.pointer (some ⟨w.heap.size, 0, none⟩)], s11, s12, s13, .slice ao nq co, s15, s16, s17, s18, s19, s20, s21, s22, s23, s24, s25, s26, s27, s28, s29, s30, s31, s32, s33, s34, s35, s36, s37, s38, s39, s40, s41, s42, s43, s44, s45, s46, s47, s48, s49, s50, s51, s52, s53, s54, s55, s56, s57, s58, s59, s60, s61, s62, s63, s64, s65, s66, s67, s68, s69, s70, s71, s72, s73, s74, s75, s76, s77, s78, s79, s80, s81, s82, s83, s84, s85, s86, s87, s88, s89, s90, s91, s92, s93, s94, s95, s96, s97, s98, s99, s100, s101, s102, s103, s104, s105, s106, s107, s108, s109, s110, s111, s112, s113, s114, s115, s116, s117, s118, s119, s120, s121, s122, s123, s124, s125, s126, s127, s128, s129, s130, s131, s132, s133, s134, s135, s136, s137, s138, s139, s140, s141, s142, s143, s144, s145, s146, s147, s148, s149, s150, s151, s152, s153, s154, s155, s156, s157, s158, s159, s160, s161, s162, s163, s164, s165, s166, s167, s168, s169, s170, s171, s172, s173, s174, s175], defers := [] } v2) := by
      clear hown HO2 hm hne hmw HOI ho2
      intro s0 s4 s5 s6 s8 s11 s12 s13 s15 s16 s17 s18 s19 s20 s21 s22 s23 s24 s25 s26 s27 s28 s29 s30 s31 s32 s33 s34 s35 s36 s37 s38 s39 s40 s41 s42 s43 s44 s45 s46 s47 s48 s49 s50 s51 s52 s53 s54 s55 s56 s57 s58 s59 s60 s61 s62 s63 s64 s65 s66 s67 s68 s69 s70 s71 s72 s73 s74 s75 s76 s77 s78 s79 s80 s81 s82 s83 s84 s85 s86 s87 s88 s89 s90 s91 s92 s93 s94 s95 s96 s97 s98 s99 s100 s101 s102 s103 s104 s105 s106 s107 s108 s109 s110 s111 s112 s113 s114 s115 s116 s117 s118 s119 s120 s121 s122 s123 s124 s125 s126 s127 s128 s129 s130 s131 s132 s133 s134 s135 s136 s137 s138 s139 s140 s141 s142 s143 s144 s145 s146 s147 s148 s149 s150 s151 s152 s153 s154 s155 s156 s157 s158 s159 s160 s161 s162 s163 s164 s165 s166 s167 s168 s169 s170 s171 s172 s173 s174 s175 ao co nq hnq hi
      subst hnq
      have HX := Lib.hid (And.intro HB.out.1 (And.intro HB.out.2 hi))
      clear HB hi
      have HB := HX
      clear HX
      refine HK22.out _ _ ?_
      clear HK22 K22
      obtain ⟨wo, hwo, hwf⟩ := HO.out.2
      have HWO := Lib.hid (And.intro hwo hwf)
      obtain ⟨q, hq⟩ : ∃ q, (wo == 2) = q := ⟨_, rfl⟩
      have C38 := sure38 (KP.out v2 HB.out.1).1 (KP.out v2 HB.out.1).2.1 HN.out.1 (cap := co) HOL.out HB.out.2.2 hwo hq
      clear hwo hwf
      refine wp_seq_hid ?_
      intro K23 HK23
      go_wp2_with fail
      refine (C38).mono ?_
      rintro e b1 ⟨rfl, hb⟩
      have HX := Lib.hid (And.intro (HB.out.1.trans (hb.mono HB.out.1.size)) (And.intro (HB.out.2.1.mono hb) (HB.out.2.2.mono hb)))
      clear hb HB C38
      have HB := HX
      clear HX
      cases q
      case false =>
        go_wp2_with fail
        refine (alive13 _).mono ?_
        rintro e c1 ⟨rfl, hb⟩
        have HX := Lib.hid (HB.out.1.trans (hb.mono HB.out.1.size))
        clear hb
        go_wp2_with fail
        go_ret
        exact ⟨rfl, (KP.out _ HX.out).2.2.2⟩
      by_cases hlen : ow.length < l.length
      case pos =>
        go_wp2_with fail
        refine (alive13 _).mono ?_
        rintro e c1 ⟨rfl, hb⟩
        have HX := Lib.hid (HB.out.1.trans (hb.mono HB.out.1.size))
        clear hb
        go_wp2_with fail
        go_ret
        exact ⟨rfl, (KP.out _ HX.out).2.2.2⟩
      have hwo2 : wo = 2 := by simpa using hq
      obtain ⟨hleq, hx12, hxl⟩ := HWO.out.2 hwo2 (by omega)
      have HLEQ := Lib.hid hleq
      clear hwo2 hq hleq
      go_wp2_with fail
      refine HK23.out _ _ ?_
      clear HK23 K23
      obtain ⟨tl1, lo1, x1, hT1, hx1⟩ : ∃ tl lo x, timesE t l = (tl, ⟨lo, x⟩, 0) ∧ t.takes l = x := ⟨_, _, _, times_over (openE_mk HV.out HF.out.ord), rfl⟩
      obtain ⟨tl2, lo2, x2, hT2, hx2⟩ : ∃ tl lo x, timesE t ow = (tl, ⟨lo, x⟩, 0) ∧ t.takes ow = x := ⟨_, _, _, times_over HO.out.1, rfl⟩
      have HT := Lib.hid (And.intro hT1 hT2)
      rw [hx1, hx2] at hx12 hxl
      have HXL := Lib.hid hxl
      have C16 : Hid (∀ (o : List Int) (tl : List Spn) (lo x : Int) (a : Option Addr) (c : Nat), timesE t o = (tl, ⟨lo, x⟩, 0) → o.length ≤ 16 → ∀ v, Below w1.heap.size w1 v → IsInts v a o → Calls Try.prog 16 #[t.v A, .slice a o.length c] v fun e w' => ∃ av cv, e = .returned (.tuple #[.slice av tl.length cv, .agg #[.int .i64 lo, .int .i64 x], .int .i64 0]) ∧ Below v.heap.size v w') := fun o tl lo x a c he hl v h ha => by
        have := times16 (cap := c) (KP.out v h).2.1 HN.out.1 hl ha
        rw [he] at this
        exact this.mono fun e w' ⟨av, cv, h1, h2, h3⟩ => ⟨av, cv, h1, h3⟩
      clear hT1 hT2 hx1 hx2 hxl HWO HO
      refine wp_seq_hid ?_
      intro K25 HK25
      obtain ⟨k0, k1, k2, k3, k4⟩ := tr_cells (KP.out b1 HB.out.1).1
      go_wp2_with fail
      refine (C16.out _ _ _ _ _ _ HT.out.1 (by have := hl6; omega) _ HB.out.1 HB.out.2.1).mono ?_
      rintro e b2 ⟨av3, cv3, rfl, hb⟩
      have HX := Lib.hid (And.intro (HB.out.1.trans (hb.mono HB.out.1.size)) (And.intro (HB.out.2.1.mono hb) (HB.out.2.2.mono hb)))
      clear hb HB k0 k1 k2 k3 k4
      have HB := HX
      clear HX
      go_upto_region 25 with fail
      have q7 := World.alloc_heap_new b2 (.cells #[.int .i64 lo1, .int .i64 x1] 33)
      have hb7 : Below b2.heap.size b2 (b2.alloc (.cells #[.int .i64 lo1, .int .i64 x1] 33)) := (Below.refl _ _).alloc (Nat.le_refl _) _
      have HX := Lib.hid (And.intro (HB.out.1.trans (hb7.mono HB.out.1.size)) (And.intro (HB.out.2.1.mono hb7) (And.intro (HB.out.2.2.mono hb7) q7)))
      clear hb7 HB q7
      have HB := HX
      clear HX
      revert HB
      generalize (b2.alloc (.cells #[.int .i64 lo1, .int .i64 x1] 33)) = w7
      generalize b2.heap.size = pb1
      intro HB
      go_wp2_with fail
      refine HK25.out _ _ ?_
      clear HK25 K25
      refine wp_seq_hid ?_
      intro K26 HK26
      obtain ⟨k0, k1, k2, k3, k4⟩ := tr_cells (KP.out w7 HB.out.1).1
      go_wp2_with fail
      refine (C16.out _ _ _ _ _ _ HT.out.2 HOL.out _ HB.out.1 HB.out.2.2.1).mono ?_
      rintro e b3 ⟨av4, cv4, rfl, hb⟩
      have HX := Lib.hid (And.intro (HB.out.1.trans (hb.mono HB.out.1.size)) (And.intro (HB.out.2.1.mono hb) (And.intro (HB.out.2.2.1.mono hb) ((hb.block _ (heap_lt HB.out.2.2.2)).trans HB.out.2.2.2))))
      clear hb HB C16 k0 k1 k2 k3 k4
      have HB := HX
      clear HX
      go_upto_region 26 with fail
      have q7 := World.alloc_heap_new b3 (.cells #[.int .i64 lo2, .int .i64 x2] 33)
      have hb7 : Below b3.heap.size b3 (b3.alloc (.cells #[.int .i64 lo2, .int .i64 x2] 33)) := (Below.refl _ _).alloc (Nat.le_refl _) _
      have HX := Lib.hid (And.intro (HB.out.1.trans (hb7.mono HB.out.1.size)) (And.intro (HB.out.2.1.mono hb7) (And.intro (HB.out.2.2.1.mono hb7) (And.intro ((hb7.block _ (heap_lt HB.out.2.2.2)).trans HB.out.2.2.2) q7))))
      clear hb7 HB q7
      have HB := HX
      clear HX
      revert HB
      generalize (b3.alloc (.cells #[.int .i64 lo2, .int .i64 x2] 33)) = w8
      generalize b3.heap.size = pb2
      intro HB
      go_wp2_with fail
      refine HK26.out _ _ ?_
      clear HK26 K26
      refine wp_seq_hid ?_
      intro K27 HK27
      have hlt0 : decide (x2 < x1) = false := by simp; omega
      have hgt0 : decide (l.length < ow.length) = false := by have := HLEQ.out; simp; omega
      have x1c : w8.cell? ⟨pb1, 1, none⟩ = some (.int .i64 x1) := by rw [cell_of_heap HB.out.2.2.2.1]; rfl
      have x2c : w8.cell? ⟨pb2, 1, none⟩ = some (.int .i64 x2) := by rw [cell_of_heap HB.out.2.2.2.2]; rfl
      go_wp2_with fail
      refine HK27.out _ _ ?_
      clear HK27 K27
      clear hlt0 x1c x2c hgt0
      refine wp_seq_hid ?_
      intro K29 HK29
      go_wp2_with fail
      go_loopw [143] (fun i wr => ∃ k : Nat, k ≤ ow.length ∧ i = .int .i64 k ∧ Hid (x2 = x1 → ∀ j, j < k → gi ow j = gi l j) ∧ Hid (Below w8.heap.size w8 wr)) (fun i _ => ow.length - (intOf i).toNat)
      case atStart => exact ⟨0, by omega, rfl, fun _ j hj => by omega, Below.refl _ _⟩
      case round =>
        obtain ⟨k, hk, rfl, HA, HW⟩ := hrel
        have HX := Lib.hid (And.intro (HB.out.1.trans (HW.out.mono HB.out.1.size)) (And.intro (HB.out.2.1.mono HW.out) (And.intro (HB.out.2.2.1.mono HW.out) (And.intro ((HW.out.block _ (heap_lt HB.out.2.2.2.1)).trans HB.out.2.2.2.1) ((HW.out.block _ (heap_lt HB.out.2.2.2.2)).trans HB.out.2.2.2.2)))))
        clear HB
        have HB := HX
        clear HX
        have hol6 : ow.length ≤ 6 := by have := HLEQ.out; omega
        by_cases hlt : k < ow.length
        · have hl2 : k < l.length := by rw [← HLEQ.out]; exact hlt
          have x1c : wr.cell? ⟨pb1, 1, none⟩ = some (.int .i64 x1) := by rw [cell_of_heap HB.out.2.2.2.1]; rfl
          have x2c : wr.cell? ⟨pb2, 1, none⟩ = some (.int .i64 x2) := by rw [cell_of_heap HB.out.2.2.2.2]; rfl
          obtain ⟨b1, o1, rfl, e1⟩ := HB.out.2.2.1 k hlt
          obtain ⟨b2, o2, rfl, e2⟩ := HB.out.2.1 k hl2
          by_cases he : x2 = x1
          · have hbe : (x2 == x1) = true := by simpa using he
            have HLK := Lib.hid (HXL.out he k hlt (HA.out he))
            have HAK : Hid (gi ow k = gi l k → x2 = x1 → ∀ j, j < k + 1 → gi ow j = gi l j) := fun h he j hj => by
              by_cases e : j = k
              · subst e; exact h
              · exact HA.out he j (by omega)
            clear he
            revert e1 e2 HLK HAK
            generalize gi ow k = g1
            generalize gi l k = g2
            intro e1 e2 HLK HAK
            go_wp2_with fail
            have z1 := fun y : Aft wr.heap.size wr => cell_stays y.h x1c
            have z2 := fun y : Aft wr.heap.size wr => cell_stays y.h x2c
            have z3 := fun y : Aft wr.heap.size wr => cell_stays y.h e1
            have z4 := fun y : Aft wr.heap.size wr => cell_stays y.h e2
            have E1 := Lib.hid (And.intro e1 e2)
            clear e1 e2 x1c x2c
            by_cases hg : g1 = g2
            · have hbg : (g1 != g2) = false := by simpa using hg
              have HG := Lib.hid hg
              clear hg
              refine wp_region_aft mixed (by kernel_rfl) ?_
              repeat (go_big_quiet_step (fail))
              refine wpQuiet_nil ?_
              rintro _ ⟨y, rfl⟩
              clear z1 z2 z3 z4
              have HY := Lib.hid (HW.out.trans (y.h.mono HW.out.size))
              go_wp2_with fail
              go_roundw
              case rel => exact ⟨k + 1, by omega, by go_num, fun h => HAK.out HG.out h, HY.out⟩
              case measure => simp [intOf]; omega
            · have hbg : (g1 != g2) = true := by simpa using hg
              have hlt2 := HLK.out hg
              clear hg
              refine wp_region_aft mixed (by kernel_rfl) ?_
              repeat (go_big_quiet_step (fail))
              refine wpQuiet_nil ?_
              rintro _ ⟨y, rfl⟩
              clear z1 z2 z3 z4
              have f1 := cell_stays y.h E1.out.1
              have f2 := cell_stays y.h E1.out.2
              have HY := Lib.hid (HB.out.1.trans (y.h.mono HB.out.1.size))
              revert HY f1 f2
              generalize y.v = V
              intro f1 f2 HY
              go_wp2_with fail
              have z1 := fun y : Aft V.heap.size V => cell_stays y.h f1
              have z2 := fun y : Aft V.heap.size V => cell_stays y.h f2
              have C1 := Lib.hid (fun y : Aft V.heap.size V => alive13 y.v)
              clear f1 f2
              refine wp_region_aft mixed (by kernel_rfl) ?_
              repeat (go_big_quiet_step ((go_at_call 13; exact calls_aft (C1.out _))))
              refine wpQuiet_nil ?_
              rintro _ ⟨y2, rfl⟩
              clear z1 z2 C1
              go_wp2_with fail
              go_ret
              exact ⟨rfl, (KP.out _ (HY.out.trans (y2.h.mono HY.out.size))).2.2.2⟩
          · have hbe : (x2 == x1) = false := by simpa using he
            have HE2 := Lib.hid he
            clear he e1 e2
            go_wp2_with fail
            have z1 := fun y : Aft wr.heap.size wr => cell_stays y.h x1c
            have z2 := fun y : Aft wr.heap.size wr => cell_stays y.h x2c
            clear x1c x2c
            refine wp_region_aft mixed (by kernel_rfl) ?_
            repeat (go_big_quiet_step (fail))
            refine wpQuiet_nil ?_
            rintro _ ⟨y, rfl⟩
            clear z1 z2
            have HY := Lib.hid (HW.out.trans (y.h.mono HW.out.size))
            go_wp2_with fail
            go_roundw
            case rel => exact ⟨k + 1, by omega, by go_num, fun h => (HE2.out h).elim, HY.out⟩
            case measure => simp [intOf]; omega
        · obtain rfl : k = ow.length := by omega
          go_wp2_with fail
          refine HK29.out _ _ ?_
          go_wp2_with fail
          refine (alive13 _).mono ?_
          rintro e c1 ⟨rfl, hb⟩
          have HX := Lib.hid (HB.out.1.trans (hb.mono HB.out.1.size))
          clear hb
          go_wp2_with fail
          go_ret
          exact ⟨rfl, (KP.out _ HX.out).2.2.2⟩
    clear HO
    rcases hown.2 with ⟨h1, h0⟩ | ⟨g, cap, cur, hv, hg, hh, hcap, _⟩
    · simp only [Value.slice.injEq] at h1
      have hn0 : t.frm.length = 0 := by have := HP.out.1; omega
      obtain ⟨rfl, hol0, rfl⟩ := h1
      have hm0 : m = 0 := by omega
      subst hm0
      clear hn0
      clear hown hol0 h0
      go_wp2_with fail
      exact REST22.out HLE2.out.symm HO2.out
    · simp only [Value.slice.injEq] at hv
      obtain ⟨rfl, -, rfl⟩ := hv
      have hmc : (m : Int) ≤ (co : Int) := by have := HP.out.1; omega
      clear hown hcap hh hg
      go_wp2_with fail
      exact REST22.out HLE2.out.symm HO2.out
  clear HK8
  have HSU : Hid (∀ (v : World) (o : List Int) (a : Option Addr) (c : Nat) (x : Int) (q : Bool), Below w1.heap.size w1 v → IsInts v a o → o.length ≤ 16 → walkedE t o = (x, 0) → (x == 2) = q → Calls Try.prog 38 #[.slice a o.length c, .pointer (some ⟨w.heap.size, 0, none⟩)] v fun e w' => e = .returned (.bool q) ∧ Below v.heap.size v w') := fun v o a c x q hb hi hl hw hq =>
    sure38 (KP.out v hb).1 (KP.out v hb).2.1 HN.out.1 hl hi hw hq
  have HOR : Hid (∀ (v : World) (o : List Int) (a : Option Addr) (c : Nat), Below w1.heap.size w1 v → IsInts v a o → o.length ≤ 16 → Calls Try.prog 34 #[t.v A, .slice a o.length c] v fun e w' => e = .returned (.bool (t.order o)) ∧ Below v.heap.size v w') := fun v o a c hb hi hl =>
    rorder34 (KP.out v hb).2.1 (by omega) hl hi
  rcases HLY.out with ⟨hl0, ha0, hc0⟩ | ⟨fb, hfa, hlc⟩
  · subst hl0 ha0 hc0
    clear HLY
    go_wp2_with fail
    go_loopw [50] (fun i wr => ∃ (k : Nat), k ≤ 0 + 1 ∧ i = .int .i64 k ∧ Hid (Below b4.heap.size b4 wr)) (fun i _ => 0 + 1 - (intOf i).toNat)
    case atStart => exact ⟨0, by omega, rfl, Below.refl _ _⟩
    case round =>
      obtain ⟨k, hk, rfl, HB2⟩ := hrel
      by_cases hlt : k < 0 + 1
      · have hkl : k ≤ 0 := by omega
        obtain rfl : k = 0 := by omega
        have HBW := Lib.hid (HB.out.1.trans (HB2.out.mono HB.out.1.size))
        have HIW := Lib.hid (HB.out.2.mono HB2.out)
        have htl : (([] : List Int).take 0).length = 0 := rfl
        have C := HSU.out wr (([] : List Int).take 0) none 0 2 true HBW.out (ints_take 0 HIW.out) (by rw [htl]; omega) (HF.out.pre 0) rfl
        rw [htl] at C
        have HC := Lib.hid C
        clear C
        refine wp_seq_hid ?_
        intro KL9 HKL9
        go_wp2_with fail
        refine HKL9.out _ _ ?_
        clear HKL9 KL9
        refine wp_seq_hid ?_
        intro KLc HKLc
        go_wp2_with fail
        refine HKLc.out _ _ ?_
        clear HKLc KLc
        refine wp_seq_hid ?_
        intro KLB HKLB
        refine wp_block ?_
        refine wp_seq_hid ?_
        intro K10 HK10
        go_wp2_with fail
        refine HK10.out _ _ ?_
        clear HK10 K10
        refine wp_seq_hid ?_
        intro K11 HK11
        go_wp2_with fail
        refine HC.out.mono ?_
        rintro e b20 ⟨rfl, hb⟩
        have HB3 := Lib.hid (HBW.out.trans (hb.mono HBW.out.size))
        have HI3 := Lib.hid (HIW.out.mono hb)
        have HBB := Lib.hid (HB2.out.trans (hb.mono HB2.out.size))
        clear hb HC
        go_wp2_with fail
        refine HK11.out _ _ ?_
        clear HK11 K11
        go_wp2_with fail
        go_loopw [60] (fun i wr => ∃ (j : Nat), j ≤ t.frm.length ∧ i = .int .i64 j ∧ Hid (Below b20.heap.size b20 wr)) (fun i _ => t.frm.length - (intOf i).toNat)
        case atStart => exact ⟨0, by omega, rfl, Below.refl _ _⟩
        case round =>
          obtain ⟨j, hj, rfl, HB4⟩ := hrel
          by_cases hjl : j < t.frm.length
          · go_upto_region 16 with fail
            refine wpIn_wide.1 (mo16z (v := j)
              (S0 := fun fs ms v => Below wr.heap.size wr v ∧ (fs = true → wr.heap.size ≤ ms ∧ v.heap[ms]? = some (.cells #[.int .i64 (j : Int)] 3 (0, 0))))
              (S1 := fun fs ms xs v => Below wr.heap.size wr v ∧ v.ownsRow wr.heap.size 3 1 xs 0 [] ∧ (fs = true → xs.ownBlock ≠ some ms ∧ v.heap[ms]? = some (.cells #[.int .i64 (j : Int)] 3 (0, 0))))
              (S2 := fun fs ms xs r1 v => Below wr.heap.size wr v ∧ v.ownsRow wr.heap.size 3 1 (.slice r1.1 (0) r1.2) (0) ((([] : List Int).take 0).map (Value.int .i64)) ∧ (fs = true → v.heap[ms]? = some (.cells #[.int .i64 (j : Int)] 3 (0, 0))))
              (S3 := fun fs ms xs r1 r2 v => Below wr.heap.size wr v ∧ v.ownsRow wr.heap.size 3 1 (.slice r2.1 (1) r2.2) (1) ((([] : List Int).take 0 ++ [(j : Int)]).map (Value.int .i64)))
              (S4 := fun fs ms xs r1 r2 r3 v => Below wr.heap.size wr v ∧ v.ownsRow wr.heap.size 3 1 (.slice r3.1 (1) r3.2) (1) ((([] : List Int).take 0 ++ [(j : Int)] ++ ([] : List Int).drop 0).map (Value.int .i64)))
               ?h0z ?c0z ?c4z ?s0z ?s1z ?s2z ?c7z ?c11z ?hQz)
            case h0z => exact ⟨(Below.refl _ _).drew, fun h => by cases h⟩
            case c0z => exact fun fs ms v h => ⟨h.1.alloc h.1.size _, ownsRow_zero h.1.size, fun hf => ⟨fun e => by have e' : some v.heap.size = some ms := e; cases e'; have := heap_lt (h.2 hf).2; omega, (Below.heap_alloc v _ ms (heap_lt (h.2 hf).2)).trans (h.2 hf).2⟩⟩
            case c4z =>
              intro fs ms xs v h
              have := copy_new (cv := 0) (pre := ([] : List Int).take 0) (by rw [htl]; omega) h.1 h.2.1 ((ints_take 0 (HI3.out.mono HB4.out)).mono h.1)
              rw [htl] at this
              obtain ⟨r1, w', hrun, hb', ho', hk'⟩ := this
              exact ⟨r1, w', hrun, hb', ho', fun hf => (hk' ms (heap_lt (h.2.2 hf).2) (h.2.2 hf).1).1.trans (h.2.2 hf).2⟩
            case s0z => exact fun v h => ⟨h.1.alloc h.1.size _, fun _ => ⟨h.1.size, World.alloc_heap_new _ _⟩⟩
            case s1z => exact fun xs v h => ⟨h.1.alloc h.1.size _, h.2.1.alloc _, fun _ => ⟨fun e => by have := (h.2.1.lt _ e).2; omega, World.alloc_heap_new _ _⟩⟩
            case s2z => exact fun xs r1 v h => ⟨h.1.alloc h.1.size _, h.2.1.alloc _, fun _ => World.alloc_heap_new _ _⟩
            case c7z =>
              intro ms xs r1 v h
              have := copy_more (pre := ([] : List Int).take 0) (f := (j : Int)) (r1 := r1) (by rw [htl]; omega) h.1 (by rw [htl]; exact h.2.1) (h.2.2 rfl)
              rw [List.length_append, htl] at this
              exact this
            case c11z =>
              intro ms xs r1 r2 v h
              have hdl : (([] : List Int).drop 0).length = 0 := by simp
              have := app_ints (l := ([] : List Int).take 0 ++ [(j : Int)]) (m := ([] : List Int).drop 0) (n := 1) (r := r2) (cv := 0) (by rw [List.length_append, htl]; rfl) (by rw [List.length_append, htl, hdl]; simp <;> omega) h.1 h.2 (((show IsInts wr none (([] : List Int).drop 0) from fun i hi => by simp at hi)).mono h.1)
              rw [hdl] at this
              obtain ⟨r3, w', hrun, hb', ho'⟩ := this
              exact ⟨r3, w', hrun, hb', ho'⟩
            rintro ms xs r1 r2 r3 v5 h5
            obtain ⟨x, hx⟩ : ∃ x : List Int, x = ([] : List Int).take 0 ++ [(j : Int)] ++ ([] : List Int).drop 0 := ⟨_, rfl⟩
            have hxl : x.length = 1 := by rw [hx]; rfl
            have hx1 : x.length = ([] : List Int).length + 1 := by rw [hx]; rfl
            have HX1 := Lib.hid hx1
            have h6 : v5.ownsRow wr.heap.size 3 1 (.slice r3.1 x.length r3.2) x.length (x.map (Value.int .i64)) := by rw [hxl, hx]; exact h5.2
            have HX := Lib.hid (own_ints h6)
            have HB5 := Lib.hid (HB3.out.trans ((HB4.out.trans (h5.1.mono HB4.out.size)).mono HB3.out.size))
            have HB45 := Lib.hid (HB4.out.trans (h5.1.mono HB4.out.size))
            clear h5 hx hx1 h6
            obtain ⟨k0, k1, k2, k3, k4⟩ := tr_cells (KP.out v5 HB5.out).1
            have C1 := HOR.out v5 x r3.1 r3.2 HB5.out HX.out (by rw [HX1.out]; simp <;> omega)
            rw [hxl] at C1
            have HXL := Lib.hid hxl
            clear hxl
            cases hxo : t.order x
            case false =>
              rw [hxo] at C1
              go_wp2_with fail
              refine C1.mono ?_
              rintro e b30 ⟨rfl, hb⟩
              have HB6 := Lib.hid (HB45.out.trans (hb.mono HB45.out.size))
              clear hb C1 k0 k1 k2 k3 k4 hxo
              go_wp2_with fail
              go_roundw
              case rel => exact ⟨j + 1, by omega, by go_num, HB6.out⟩
              case measure => simp [intOf] <;> omega
            case true =>
              obtain ⟨wx, hwx, hwn⟩ := HF.out.ins x HX1.out hxo
              rw [hxo] at C1
              go_wp2_with fail
              refine C1.mono ?_
              rintro e b30 ⟨rfl, hb⟩
              have HB6 := Lib.hid (HB45.out.trans (hb.mono HB45.out.size))
              have C2 := HSU.out b30 x r3.1 r3.2 wx false (HB5.out.trans (hb.mono HB5.out.size)) (HX.out.mono hb) (by rw [HX1.out]; simp <;> omega) hwx (by simpa using hwn)
              rw [HXL.out] at C2
              clear hb C1 k0 k1 k2 k3 k4 hxo hwx hwn
              go_wp2_with fail
              refine C2.mono ?_
              rintro e b31 ⟨rfl, hb⟩
              have HB7 := Lib.hid (HB6.out.trans (hb.mono HB6.out.size))
              clear hb C2
              go_wp2_with fail
              go_roundw
              case rel => exact ⟨j + 1, by omega, by go_num, HB7.out⟩
              case measure => simp [intOf] <;> omega
          · obtain rfl : j = t.frm.length := by omega
            go_wp2_with fail
            refine HKLB.out _ _ ?_
            go_wp2_with fail
            go_roundw
            case rel => exact ⟨1, by omega, by go_num, HBB.out.trans (HB4.out.mono HBB.out.size)⟩
            case measure => simp [intOf] <;> omega
      · obtain rfl : k = 0 + 1 := by omega
        go_wp2_with fail
        exact REST8.out (HB.out.1.trans (HB2.out.mono HB.out.1.size)) (HB.out.2.mono HB2.out)
  · subst hfa
    clear HLY
    go_wp2_with fail
    go_loopw [50] (fun i wr => ∃ (k : Nat), k ≤ l.length + 1 ∧ i = .int .i64 k ∧ Hid (Below b4.heap.size b4 wr)) (fun i _ => l.length + 1 - (intOf i).toNat)
    case atStart => exact ⟨0, by omega, rfl, Below.refl _ _⟩
    case round =>
      obtain ⟨k, hk, rfl, HB2⟩ := hrel
      by_cases hlt : k < l.length + 1
      · have hkl : k ≤ l.length := by omega
        have HBW := Lib.hid (HB.out.1.trans (HB2.out.mono HB.out.1.size))
        have HIW := Lib.hid (HB.out.2.mono HB2.out)
        have htl : (l.take k).length = k := by simp; omega
        have C := HSU.out wr (l.take k) (some ⟨fb, 0, none⟩) cv 2 true HBW.out (ints_take k HIW.out) (by rw [htl]; omega) (HF.out.pre k) rfl
        rw [htl] at C
        have HC := Lib.hid C
        clear C
        refine wp_seq_hid ?_
        intro KL9 HKL9
        go_wp2_with fail
        refine HKL9.out _ _ ?_
        clear HKL9 KL9
        refine wp_seq_hid ?_
        intro KLc HKLc
        go_wp2_with fail
        refine HKLc.out _ _ ?_
        clear HKLc KLc
        refine wp_seq_hid ?_
        intro KLB HKLB
        refine wp_block ?_
        refine wp_seq_hid ?_
        intro K10 HK10
        go_wp2_with fail
        refine HK10.out _ _ ?_
        clear HK10 K10
        refine wp_seq_hid ?_
        intro K11 HK11
        have hkc : (k : Int) ≤ (cv : Int) := by omega
        go_wp2_with fail
        refine HC.out.mono ?_
        rintro e b20 ⟨rfl, hb⟩
        have HB3 := Lib.hid (HBW.out.trans (hb.mono HBW.out.size))
        have HI3 := Lib.hid (HIW.out.mono hb)
        have HBB := Lib.hid (HB2.out.trans (hb.mono HB2.out.size))
        clear hb HC
        go_wp2_with fail
        refine HK11.out _ _ ?_
        clear HK11 K11
        go_wp2_with fail
        go_loopw [60] (fun i wr => ∃ (j : Nat), j ≤ t.frm.length ∧ i = .int .i64 j ∧ Hid (Below b20.heap.size b20 wr)) (fun i _ => t.frm.length - (intOf i).toNat)
        case atStart => exact ⟨0, by omega, rfl, Below.refl _ _⟩
        case round =>
          obtain ⟨j, hj, rfl, HB4⟩ := hrel
          by_cases hjl : j < t.frm.length
          · obtain ⟨ad, had⟩ : ∃ ad, (if cv = k then some (⟨fb, 0, none⟩ : Addr) else some ⟨fb, k, none⟩) = ad := ⟨_, rfl⟩
            have HAD := Lib.hid had
            have HDI : Hid (IsInts wr ad (l.drop k)) := by rw [← had]; exact ints_drop (HI3.out.mono HB4.out) hlc
            clear had
            go_upto_region 16 with fail
            refine wpIn_wide.1 (mo16 (fb := fb) (ln := l.length) (cf := cv) (k := k) (v := j) (at_ := ad)
              (S0 := fun fs ms v => Below wr.heap.size wr v ∧ (fs = true → wr.heap.size ≤ ms ∧ v.heap[ms]? = some (.cells #[.int .i64 (j : Int)] 3 (0, 0))))
              (S1 := fun fs ms xs v => Below wr.heap.size wr v ∧ v.ownsRow wr.heap.size 3 1 xs 0 [] ∧ (fs = true → xs.ownBlock ≠ some ms ∧ v.heap[ms]? = some (.cells #[.int .i64 (j : Int)] 3 (0, 0))))
              (S2 := fun fs ms xs r1 v => Below wr.heap.size wr v ∧ v.ownsRow wr.heap.size 3 1 (.slice r1.1 (k) r1.2) (k) ((l.take k).map (Value.int .i64)) ∧ (fs = true → v.heap[ms]? = some (.cells #[.int .i64 (j : Int)] 3 (0, 0))))
              (S3 := fun fs ms xs r1 r2 v => Below wr.heap.size wr v ∧ v.ownsRow wr.heap.size 3 1 (.slice r2.1 (k + 1) r2.2) (k + 1) ((l.take k ++ [(j : Int)]).map (Value.int .i64)))
              (S4 := fun fs ms xs r1 r2 r3 v => Below wr.heap.size wr v ∧ v.ownsRow wr.heap.size 3 1 (.slice r3.1 (k + 1 + (l.length - k)) r3.2) (k + 1 + (l.length - k)) ((l.take k ++ [(j : Int)] ++ l.drop k).map (Value.int .i64)))
              hkl hlc HAD.out ?h0 ?c0 ?c4 ?s0 ?s1 ?s2 ?c7 ?c11 ?hQ)
            case h0 => exact ⟨(Below.refl _ _).drew, fun h => by cases h⟩
            case c0 => exact fun fs ms v h => ⟨h.1.alloc h.1.size _, ownsRow_zero h.1.size, fun hf => ⟨fun e => by have e' : some v.heap.size = some ms := e; cases e'; have := heap_lt (h.2 hf).2; omega, (Below.heap_alloc v _ ms (heap_lt (h.2 hf).2)).trans (h.2 hf).2⟩⟩
            case c4 =>
              intro fs ms xs v h
              have := copy_new (cv := cv) (pre := l.take k) (by rw [htl]; omega) h.1 h.2.1 ((ints_take k (HI3.out.mono HB4.out)).mono h.1)
              rw [htl] at this
              obtain ⟨r1, w', hrun, hb', ho', hk'⟩ := this
              exact ⟨r1, w', hrun, hb', ho', fun hf => (hk' ms (heap_lt (h.2.2 hf).2) (h.2.2 hf).1).1.trans (h.2.2 hf).2⟩
            case s0 => exact fun v h => ⟨h.1.alloc h.1.size _, fun _ => ⟨h.1.size, World.alloc_heap_new _ _⟩⟩
            case s1 => exact fun xs v h => ⟨h.1.alloc h.1.size _, h.2.1.alloc _, fun _ => ⟨fun e => by have := (h.2.1.lt _ e).2; omega, World.alloc_heap_new _ _⟩⟩
            case s2 => exact fun xs r1 v h => ⟨h.1.alloc h.1.size _, h.2.1.alloc _, fun _ => World.alloc_heap_new _ _⟩
            case c7 =>
              intro ms xs r1 v h
              have := copy_more (pre := l.take k) (f := (j : Int)) (r1 := r1) (by rw [htl]; omega) h.1 (by rw [htl]; exact h.2.1) (h.2.2 rfl)
              rw [List.length_append, htl] at this
              exact this
            case c11 =>
              intro ms xs r1 r2 v h
              have hdl : (l.drop k).length = l.length - k := by simp
              have := app_ints (l := l.take k ++ [(j : Int)]) (m := l.drop k) (n := k + 1) (r := r2) (cv := cv - k) (by rw [List.length_append, htl]; rfl) (by rw [List.length_append, htl, hdl]; simp <;> omega) h.1 h.2 ((HDI.out).mono h.1)
              rw [hdl] at this
              obtain ⟨r3, w', hrun, hb', ho'⟩ := this
              exact ⟨r3, w', hrun, hb', ho'⟩
            rintro ms xs r1 r2 r3 v5 h5
            obtain ⟨x, hx⟩ : ∃ x : List Int, x = l.take k ++ [(j : Int)] ++ l.drop k := ⟨_, rfl⟩
            have hxl : x.length = k + 1 + (l.length - k) := by rw [hx, len_ins _ hkl]; omega
            have hx1 : x.length = l.length + 1 := by rw [hx, len_ins _ hkl]
            have HX1 := Lib.hid hx1
            have h6 : v5.ownsRow wr.heap.size 3 1 (.slice r3.1 x.length r3.2) x.length (x.map (Value.int .i64)) := by rw [hxl, hx]; exact h5.2
            have HX := Lib.hid (own_ints h6)
            have HB5 := Lib.hid (HB3.out.trans ((HB4.out.trans (h5.1.mono HB4.out.size)).mono HB3.out.size))
            have HB45 := Lib.hid (HB4.out.trans (h5.1.mono HB4.out.size))
            clear h5 hx hx1 h6
            obtain ⟨k0, k1, k2, k3, k4⟩ := tr_cells (KP.out v5 HB5.out).1
            have C1 := HOR.out v5 x r3.1 r3.2 HB5.out HX.out (by rw [HX1.out]; simp <;> omega)
            rw [hxl] at C1
            have HXL := Lib.hid hxl
            clear hxl
            cases hxo : t.order x
            case false =>
              rw [hxo] at C1
              go_wp2_with fail
              refine C1.mono ?_
              rintro e b30 ⟨rfl, hb⟩
              have HB6 := Lib.hid (HB45.out.trans (hb.mono HB45.out.size))
              clear hb C1 k0 k1 k2 k3 k4 hxo
              go_wp2_with fail
              go_roundw
              case rel => exact ⟨j + 1, by omega, by go_num, HB6.out⟩
              case measure => simp [intOf] <;> omega
            case true =>
              obtain ⟨wx, hwx, hwn⟩ := HF.out.ins x HX1.out hxo
              rw [hxo] at C1
              go_wp2_with fail
              refine C1.mono ?_
              rintro e b30 ⟨rfl, hb⟩
              have HB6 := Lib.hid (HB45.out.trans (hb.mono HB45.out.size))
              have C2 := HSU.out b30 x r3.1 r3.2 wx false (HB5.out.trans (hb.mono HB5.out.size)) (HX.out.mono hb) (by rw [HX1.out]; simp <;> omega) hwx (by simpa using hwn)
              rw [HXL.out] at C2
              clear hb C1 k0 k1 k2 k3 k4 hxo hwx hwn
              go_wp2_with fail
              refine C2.mono ?_
              rintro e b31 ⟨rfl, hb⟩
              have HB7 := Lib.hid (HB6.out.trans (hb.mono HB6.out.size))
              clear hb C2
              go_wp2_with fail
              go_roundw
              case rel => exact ⟨j + 1, by omega, by go_num, HB7.out⟩
              case measure => simp [intOf] <;> omega
          · obtain rfl : j = t.frm.length := by omega
            go_wp2_with fail
            refine HKLB.out _ _ ?_
            go_wp2_with fail
            go_roundw
            case rel => exact ⟨k + 1, by omega, by go_num, HBB.out.trans (HB4.out.mono HBB.out.size)⟩
            case measure => simp [intOf] <;> omega
      · obtain rfl : k = l.length + 1 := by omega
        go_wp2_with fail
        exact REST8.out (HB.out.1.trans (HB2.out.mono HB.out.1.size)) (HB.out.2.mono HB2.out)
end Go.Proofs.Ytphefhpmbahagaa
