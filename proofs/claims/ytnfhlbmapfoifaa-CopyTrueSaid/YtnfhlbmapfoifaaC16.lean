/- CopyTrue: a pile is made. CopyTrue: made, from its head on. CopyTrue: what is told of the pile that was made. CopyTrue: the order in which a chain was made is told. CopyTrue: the walk. The row's last step where the call leaves a world of which only what lay there before is known. Prints that are handed in, opened. -/
import Derived.Test.YtnfhlbmapfoifaaC15
namespace Go.Proofs.Ytnfhlbmapfoifaa
open Go.RowKit
set_option linter.unusedVariables false
set_option linter.unusedSimpArgs false
section
variable {W0 : World} {pa b3 b4 b8 g9 g10 g11 g12 pb : Nat} {vc : Value} {B : Bnd} {n k : Nat} {S D Q : List Int} {l : List Prt} {v : World}
theorem MkC.set4 (L : Lay W0 pa b3 b4 b8 g9 g10 g11 g12) (h : MkC W0 pa b3 b4 b8 g9 g10 g11 g12 pb vc B n k S D Q l v) (x : Nat) : MkC W0 pa b3 b4 b8 g9 g10 g11 g12 pb (.slice (some ⟨x, 0, none⟩) n n) B n k S D Q l (v.setCell ⟨b4, 0, none⟩ (.slice (some ⟨x, 0, none⟩) n n)) := by
  have l4 := L.l4; have l8 := L.l8; have l9 := L.l9; have l11 := L.l11; have l12 := L.l12; have l3 := L.l3; have l10 := L.l10; have lp := L.p; have lne := L.ne
  have hk : ∀ i', i' ≠ b4 → (v.setCell ⟨b4, 0, none⟩ (.slice (some ⟨x, 0, none⟩) n n)).heap[i']? = v.heap[i']? := fun i' h1 => Below.heap_setCell _ _ _ _ h1
  exact ⟨h.same.setCell (.inr (by show W0.heap.size ≤ b4; omega)) _, (hk _ (by omega)).trans h.drw, (hk _ (by omega)).trans h.h3, heap_setCell_at h.h4 _, (hk _ (by omega)).trans h.h8, (hk _ (by omega)).trans h.r9, (hk _ (by omega)).trans h.r10, h.r11.kept (hk _ (by omega)), (hk _ (by omega)).trans h.r12⟩
end
noncomputable def mad24EC : Code := (Try.f41.body.bind (fromReg 24)).getD .skip
set_option maxRecDepth 100000 in
set_option maxHeartbeats 4000000 in
theorem mad24E {W0 : World} {pa b3 b4 b8 g9 g10 g11 g12 pb : Nat} {B : Bnd} {n k k0 : Nat} {S D Q : List Int} {l : List Prt} {w : World} {dr : Nat → Int → Int} {ch : Bool} (L : Lay W0 pa b3 b4 b8 g9 g10 g11 g12) (hd : Drawer W0 pa pb dr k0) (hB : B.ok) (h5 : n ≤ 5) (hT : TruL B ch n S D Q l n) (hk : k ≤ 900) (hM : MkC W0 pa b3 b4 b8 g9 g10 g11 g12 pb (.slice none 0 0) B n k S D Q l w)
    {s1 s2 s6 s7 s14 s15 s16 s17 s18 s19 s20 s21 s22 s23 s24 s25 s26 s27 s28 s29 s30 s31 s32 s33 s34 s35 s36 s37 s38 s39 s40 s41 s42 s43 s44 s45 s46 s47 s48 s49 s50 s51 s52 s53 s54 s55 s56 s57 s58 s59 s60 s61 s62 s63 s64 s65 s66 s67 s68 s69 s70 s71 s72 s73 s74 s75 s76 s77 s78 s79 s80 s81 s82 s83 s84 s85 s86 s87 s88 s89 s90 s91 s92 s93 s94 s95 s96 s97 s98 s99 s100 s101 s102 s103 s104 s105 s106 s107 s108 s109 s110 s111 s112 s113 s114 s115 s116 s117 s118 s119 s120 s121 s122 s123 s124 s125 s126 s127 s128 s129 s130 s131 s132 s133 s134 s135 s136 s137 s138 s139 s140 s141 s142 s143 s144 s145 s146 s147 s148 s149 s150 s151 s152 s153 s154 s155 s156 s157 s158 s159 s160 s161 s162 s163 s164 s165 s166 s167 s168 s169 s170 s171 s172 s173 s174 s175 s176 s177 s178 s179 s180 s181 s182 s183 s184 s185 s186 s187 s188 s189 s190 s191 s192 s193 s194 s195 s196 s197 s198 s199 s200 s201 s202 s203 s204 s205 s206 s207 s208 s209 s210 s211 s212 s213 s214 s215 : Value} :
    Code.wp Try.prog mad24EC (bodyPost Try.prog Try.f41 (MadeP W0 pa ch)) { tmps := #[.bool ch,s1,s2,.pointer (some ⟨b3, 0, none⟩),.pointer (some ⟨b4, 0, none⟩),.slice none 0 0,s6,s7,.pointer (some ⟨b8, 0, none⟩),.slice (some ⟨g9, 0, none⟩) n n,.slice (some ⟨g10, 0, none⟩) n n,.slice (some ⟨g11, 0, none⟩) n n,.slice (some ⟨g12, 0, none⟩) n n,.func (.func 85) #[] #[.pointer (some ⟨b3, 0, none⟩)],s14,s15,s16,s17,s18,s19,s20,s21,s22,s23,s24,s25,s26,s27,s28,s29,s30,s31,s32,s33,s34,s35,s36,s37,s38,s39,s40,s41,s42,s43,s44,s45,s46,s47,s48,s49,s50,s51,s52,s53,s54,s55,s56,s57,s58,s59,s60,s61,s62,s63,s64,s65,s66,s67,s68,s69,s70,s71,s72,s73,s74,s75,s76,s77,s78,s79,s80,s81,s82,s83,s84,s85,s86,s87,s88,s89,s90,s91,s92,s93,s94,s95,s96,s97,s98,s99,s100,s101,s102,s103,s104,s105,s106,s107,s108,s109,s110,s111,s112,s113,s114,s115,s116,s117,s118,s119,s120,s121,s122,s123,s124,s125,s126,s127,s128,s129,s130,s131,s132,s133,s134,s135,s136,s137,s138,s139,s140,s141,s142,s143,s144,s145,s146,s147,s148,s149,s150,s151,s152,s153,s154,s155,s156,s157,s158,s159,s160,s161,s162,s163,s164,s165,s166,s167,s168,s169,s170,s171,s172,s173,s174,s175,s176,s177,s178,s179,s180,s181,s182,s183,s184,s185,s186,s187,s188,s189,s190,s191,s192,s193,s194,s195,s196,s197,s198,s199,s200,s201,s202,s203,s204,s205,s206,s207,s208,s209,s210,s211,s212,s213,s214,s215],defers := [] } w := by
  have HM := Lib.hid hM
  have HT := Lib.hid hT
  have HB := Lib.hid hB
  have hmf : ∀ (fn : Fn) (first cap : Array Value) (w : World), (Instr.makeFunc fn first cap).run Try.prog w = .ok (.func fn first cap) w := fun _ _ _ _ => rfl
  clear hM hT hB
  have l4 := L.l4; have l8 := L.l8; have l9 := L.l9; have l11 := L.l11; have l12 := L.l12; have l3 := L.l3; have l10 := L.l10; have lp := L.p; have lne := L.ne
  conv => arg 2; whnf
  refine wp_seq_hid ?_
  intro K24 HK24
  refine wpIn_wide.1 (mad24 (A0 := MkC W0 pa b3 b4 b8 g9 g10 g11 g12 pb (.slice none 0 0) B n k S D Q l) (A1 := fun x => MkC W0 pa b3 b4 b8 g9 g10 g11 g12 pb (.slice (some ⟨x, 0, none⟩) n n) B n k S D Q l) (b := g12) (b4 := b4) (b8 := b8) (n := n) (by omega) (by omega) (heap_lt HM.out.r12) HM.out ?m0 ?m1 ?c ?st ?hQ)
  case m0 => exact fun v v' h hb => h.mono hb
  case m1 => exact fun x v v' h hb => h.mono hb
  case c => rintro v (h | ⟨x, h⟩) <;> exact h.c8
  case st =>
    intro v x h
    exact ⟨⟨_, h.c4.1⟩, frozen_of_heap h.h4, h.set4 L x⟩
  intro V gx gf hA hx hf hgx hgf hne
  have HV := Lib.hid (And.intro hA (And.intro hx hf))
  have HN := Lib.hid hne
  clear hA hx hf hne
  refine HK24.out _ _ ?_
  clear HK24 K24
  refine wp_seq_hid ?_
  intro K25 HK25
  have z0 := HV.out.1.c3
  have d0 := hd.low k (m := 5) (by omega)
  obtain ⟨c, hc⟩ := Int.eq_ofNat_of_zero_le d0.1
  have HC := mk_draw L hd (m := 5) (by omega) (by omega) HV.out.1
  rw [hc] at HC d0
  have HCH := Lib.hid HC
  clear hc HC
  go_wp2_with fail
  refine HCH.out.mono ?_
  rintro e V2 ⟨rfl, hV2, hs⟩
  have hpx : gx ≠ pa := by omega
  have hpf : gf ≠ pa := by omega
  have hx2 := HV.out.2.1.kept (hs.block _ HV.out.2.1.lt hpx)
  have hf2 := (hs.block _ (heap_lt HV.out.2.2) hpf).trans HV.out.2.2
  have HV2 := Lib.hid (And.intro hV2 (And.intro hx2 hf2))
  clear hV2 hx2 hf2 hs z0 HCH
  go_wp2_with fail
  have hb0 : Below V2.heap.size V2 (V2.alloc (.cells #[.int .i64 (c : Int)] 3)) := (Below.refl _ _).alloc (Nat.le_refl _) _
  have HF : Hid (FnC W0 pa b3 b4 b8 g9 g10 g11 g12 pb gx gf V2.heap.size B n (k + 1) S D Q l (List.replicate n zeroP) (List.replicate n 0) c (V2.alloc (.cells #[.int .i64 (c : Int)] 3))) :=
    ⟨HV2.out.1.mono hb0, HV2.out.2.1.mono hb0, (hb0.block _ (heap_lt HV2.out.2.2)).trans HV2.out.2.2, World.alloc_heap_new _ _, hgx, hgf, heap_lt HV2.out.1.r12, HN.out, by have := HV2.out.2.1.lt; omega, by have := heap_lt HV2.out.2.2; omega⟩
  clear hb0
  revert HF
  generalize (V2.alloc (.cells #[.int .i64 (c : Int)] 3)) = V3
  generalize V2.heap.size = bt
  intro HF
  refine HK25.out _ _ ?_
  clear HK25 K25
  refine wp_seq_hid ?_
  intro K26 HK26
  go_wp2_with fail
  refine HK26.out _ _ ?_
  clear HK26 K26
  exact mad27 L hd HB.out h5 HT.out (by omega) HF.out
noncomputable def mad8C : Code := (Try.f41.body.bind (fromReg 8)).getD .skip
set_option maxRecDepth 100000 in
set_option maxHeartbeats 4000000 in
theorem mad8 {W0 : World} {pa b3 b4 b8 g9 g10 g11 g12 pb : Nat} {B : Bnd} {n k k0 : Nat} {S D Q : List Int} {l : List Prt} {w : World} {dr : Nat → Int → Int} {ch : Bool} (L : Lay W0 pa b3 b4 b8 g9 g10 g11 g12) (hd : Drawer W0 pa pb dr k0) (hB : B.ok) (h5 : n ≤ 5) (hT : TruL B ch n S D Q l 0) (hk : k ≤ 10) (hM : MkC W0 pa b3 b4 b8 g9 g10 g11 g12 pb (.slice none 0 0) B n k S D Q l w)
    {s1 s2 s6 s7 s14 s15 s16 s17 s18 s19 s20 s21 s22 s23 s24 s25 s26 s27 s28 s29 s30 s31 s32 s33 s34 s35 s36 s37 s38 s39 s40 s41 s42 s43 s44 s45 s46 s47 s48 s49 s50 s51 s52 s53 s54 s55 s56 s57 s58 s59 s60 s61 s62 s63 s64 s65 s66 s67 s68 s69 s70 s71 s72 s73 s74 s75 s76 s77 s78 s79 s80 s81 s82 s83 s84 s85 s86 s87 s88 s89 s90 s91 s92 s93 s94 s95 s96 s97 s98 s99 s100 s101 s102 s103 s104 s105 s106 s107 s108 s109 s110 s111 s112 s113 s114 s115 s116 s117 s118 s119 s120 s121 s122 s123 s124 s125 s126 s127 s128 s129 s130 s131 s132 s133 s134 s135 s136 s137 s138 s139 s140 s141 s142 s143 s144 s145 s146 s147 s148 s149 s150 s151 s152 s153 s154 s155 s156 s157 s158 s159 s160 s161 s162 s163 s164 s165 s166 s167 s168 s169 s170 s171 s172 s173 s174 s175 s176 s177 s178 s179 s180 s181 s182 s183 s184 s185 s186 s187 s188 s189 s190 s191 s192 s193 s194 s195 s196 s197 s198 s199 s200 s201 s202 s203 s204 s205 s206 s207 s208 s209 s210 s211 s212 s213 s214 s215 : Value} :
    Code.wp Try.prog mad8C (bodyPost Try.prog Try.f41 (MadeP W0 pa ch)) { tmps := #[.bool ch,s1,s2,.pointer (some ⟨b3, 0, none⟩),.pointer (some ⟨b4, 0, none⟩),.slice none 0 0,s6,s7,.pointer (some ⟨b8, 0, none⟩),.slice (some ⟨g9, 0, none⟩) n n,.slice (some ⟨g10, 0, none⟩) n n,.slice (some ⟨g11, 0, none⟩) n n,.slice (some ⟨g12, 0, none⟩) n n,.func (.func 85) #[] #[.pointer (some ⟨b3, 0, none⟩)],s14,s15,s16,s17,s18,s19,s20,s21,s22,s23,s24,s25,s26,s27,s28,s29,s30,s31,s32,s33,s34,s35,s36,s37,s38,s39,s40,s41,s42,s43,s44,s45,s46,s47,s48,s49,s50,s51,s52,s53,s54,s55,s56,s57,s58,s59,s60,s61,s62,s63,s64,s65,s66,s67,s68,s69,s70,s71,s72,s73,s74,s75,s76,s77,s78,s79,s80,s81,s82,s83,s84,s85,s86,s87,s88,s89,s90,s91,s92,s93,s94,s95,s96,s97,s98,s99,s100,s101,s102,s103,s104,s105,s106,s107,s108,s109,s110,s111,s112,s113,s114,s115,s116,s117,s118,s119,s120,s121,s122,s123,s124,s125,s126,s127,s128,s129,s130,s131,s132,s133,s134,s135,s136,s137,s138,s139,s140,s141,s142,s143,s144,s145,s146,s147,s148,s149,s150,s151,s152,s153,s154,s155,s156,s157,s158,s159,s160,s161,s162,s163,s164,s165,s166,s167,s168,s169,s170,s171,s172,s173,s174,s175,s176,s177,s178,s179,s180,s181,s182,s183,s184,s185,s186,s187,s188,s189,s190,s191,s192,s193,s194,s195,s196,s197,s198,s199,s200,s201,s202,s203,s204,s205,s206,s207,s208,s209,s210,s211,s212,s213,s214,s215],defers := [] } w := by
  have HM := Lib.hid hM
  have HT := Lib.hid hT
  have HB := Lib.hid hB
  clear hM hT hB
  conv => arg 2; whnf
  refine wp_seq_hid ?_
  intro K8 HK8
  have z8 := HM.out.c8
  go_wp2_with fail
  clear z8
  go_loopw [52] (fun i wr => ∃ (j k' : Nat) (S' D' Q' : List Int) (l' : List Prt), j ≤ n ∧ i = .int .i64 j ∧ k' ≤ 10 + 14 * j ∧ Hid (MkC W0 pa b3 b4 b8 g9 g10 g11 g12 pb (.slice none 0 0) B n k' S' D' Q' l' wr) ∧ Hid (TruL B ch n S' D' Q' l' j)) (fun i _ => n - (intOf i).toNat)
  case atStart => exact ⟨0, k, S, D, Q, l, by omega, rfl, by omega, HM.out, HT.out⟩
  case round =>
    obtain ⟨i, k', S', D', Q', l', hi, rfl, hk', HI, HK⟩ := hrel
    by_cases hin : i < n
    · refine wp_seq_hid ?_
      intro KL8 HKL8
      go_wp2_with fail
      refine HKL8.out _ _ ?_
      refine wp_seq_hid ?_
      intro KLc HKLc
      go_wp2_with fail
      refine HKLc.out _ _ ?_
      refine wp_seq_hid ?_
      intro KLB HKLB
      refine wp_block ?_
      refine rnd10 L hd HB.out HI.out (by omega) hin h5 HK.out ?_
      intro y14 y15 y16 y54 y55 y56 y57 y58 y59 y60 y61 y62 y63 y64 y65 y66 y67 y68 y69 y70 y71 y72 y73 y74 y75 y76 y77 y78 y79 y80 y81 y82 y83 y84 y85 y86 y87 y88 y89 y90 y91 y92 y93 y94 y95 y96 y97 y98 y99 y100 y101 y102 y103 y104 y105 y106 y107 y108 y109 y110 y111 y112 y113 y114 y115 y116 y117 y118 y119 y120 y121 y122 y123 y124 y125 y126 y127 y128 y129 y130 y131 y132 y133 y134 y135 y136 y137 y138 y139 y140 y141 y142 y143 y144 y145 y146 y147 y148 y149 y150 y151 y152 y153 y154 y155 y156 y157 y158 y159 y160 y161 y162 y163 y164 V s d q x k2 hk2 hV hN hx hF
      refine HKLB.out _ _ ?_
      have HV := Lib.hid hV
      have HX : Hid (TruL B ch n (S'.set i s) (D'.set i d) (Q'.set i q) (l'.set i x) (i + 1)) := HK.out.more hin hN.1 hN.2 hx hF
      clear hV hN hx hF
      go_wp2_with fail
      go_roundw
      case rel => exact ⟨i + 1, k2, _, _, _, _, by omega, by go_num, by omega, HV.out, HX.out⟩
      case measure => simp [intOf]; omega
    · have hie : i = n := by omega
      have HK2 := HK.out
      rw [hie] at HK2
      have HK3 := Lib.hid HK2
      clear HK2 hie
      go_wp2_with fail
      refine HK8.out _ _ ?_
      exact mad24E L hd HB.out h5 HK3.out (by omega) HI.out
end Go.Proofs.Ytnfhlbmapfoifaa
namespace Go.Proofs.Ytnfhlbmapfoifaa
open Go.RowKit
set_option linter.unusedVariables false
set_option linter.unusedSimpArgs false
set_option maxRecDepth 100000 in
set_option maxHeartbeats 4000000 in
theorem made_any {w : World} {pa pb : Nat} {dr : Nat → Int → Int} {ch : Bool} (hd : Drawer w pa pb dr 0) :
    Calls Try.prog 41 #[.bool ch, .func (.func 87) #[] #[.pointer (some ⟨pa, 0, none⟩), .pointer (some ⟨pb, 0, none⟩)]] w (MadeP w pa ch) := by
  have hpw := heap_lt hd.at_
  have h3 : ((w.alloc (.cells #[.func (.func 87) #[] #[.pointer (some ⟨pa, 0, none⟩), .pointer (some ⟨pb, 0, none⟩)]] 67)).alloc (.cells #[.slice none 0 0, .int .i64 0, .int .i64 0, .int .i64 0, .int .i64 0] 26)).heap[w.heap.size]? = some (.cells #[.func (.func 87) #[] #[.pointer (some ⟨pa, 0, none⟩), .pointer (some ⟨pb, 0, none⟩)]] 67 (0, 0)) := by
    rw [Below.heap_alloc _ _ _ (by simp)]
    exact World.alloc_heap_new w _
  have h4 := World.alloc_heap_new (w.alloc (.cells #[.func (.func 87) #[] #[.pointer (some ⟨pa, 0, none⟩), .pointer (some ⟨pb, 0, none⟩)]] 67)) (.cells #[.slice none 0 0, .int .i64 0, .int .i64 0, .int .i64 0, .int .i64 0] 26)
  rw [World.size_alloc] at h4
  have HM : Hid (Mk3 w pa pb w.heap.size (w.heap.size + 1) 0 0 0 0 0 ((w.alloc (.cells #[.func (.func 87) #[] #[.pointer (some ⟨pa, 0, none⟩), .pointer (some ⟨pb, 0, none⟩)]] 67)).alloc (.cells #[.slice none 0 0, .int .i64 0, .int .i64 0, .int .i64 0, .int .i64 0] 26))) := ⟨((Same.refl _ w).alloc _).alloc _, by rw [Below.heap_alloc _ _ _ (by simp; omega), Below.heap_alloc _ _ _ hpw]; exact hd.at_, h3, h4, hpw, Nat.le_refl _, by omega⟩
  have hmf : ∀ (fn : Fn) (first cap : Array Value) (w : World), (Instr.makeFunc fn first cap).run Try.prog w = .ok (.func fn first cap) w := fun _ _ _ _ => rfl
  have d0 := hd.low 0 (m := 5) (by omega)
  have d1 := hd.low 1 (m := 9) (by omega)
  have d2 := hd.low 2 (m := 5) (by omega)
  have d3 := hd.low 3 (m := 9) (by omega)
  have HD := Lib.hid hd
  clear hd hpw h3 h4
  go_enter Try.func41, Try.ntmps41
  refine wp_seq_hid ?_
  intro K0 HK0
  go_wp2_with fail
  refine HK0.out _ _ ?_
  clear HK0 K0
  revert HM
  generalize ((w.alloc (.cells #[.func (.func 87) #[] #[.pointer (some ⟨pa, 0, none⟩), .pointer (some ⟨pb, 0, none⟩)]] 67)).alloc (.cells #[.slice none 0 0, .int .i64 0, .int .i64 0, .int .i64 0, .int .i64 0] 26)) = w1
  generalize hb4 : w.heap.size + 1 = b4
  generalize hb3 : w.heap.size = b3
  intro HM
  clear hb4 hb3
  refine wp_seq_hid ?_
  intro K1 HK1
  refine wpIn_wide.1 (mad1 (pa := pa) (pb := pb) (b3 := b3) (u := (dr 0 5)) (v := (dr 1 9)) (P0 := Mk3 w pa pb b3 b4 0 0 0 0 0) (P1 := Mk3 w pa pb b3 b4 0 0 0 0 1) (P2 := Mk3 w pa pb b3 b4 0 0 0 0 2) ?h0_1 ?l0 ?c1 ?l3 ?c4 ?hQ0)
  case h0_1 => exact HM.out.mono (Below.refl _ _).drew
  case l0 => rintro v (h | h | h) <;> exact h.cell3
  case l3 => rintro v (h | h | h) <;> exact h.cell3
  case c1 => exact fun v h => h.draw HD.out (by omega) (by omega)
  case c4 => exact fun v h => h.draw HD.out (by omega) (by omega)
  intro V1 hV1
  have HV1 := Lib.hid hV1
  have e1 : IntKind.i64.wrap (1 + dr 0 5) = (1 + dr 0 5) := wrp (by omega)
  have e2 : IntKind.i64.wrap (1 + dr 1 9) = (1 + dr 1 9) := wrp (by omega)
  rw [e1, e2]
  clear hV1 HM e1 e2
  refine HK1.out _ _ ?_
  clear HK1 K1
  refine wp_seq_hid ?_
  intro K2 HK2
  have e1 : IntKind.i64.wrap (1 + dr 0 5 + dr 2 5) = (1 + dr 0 5 + dr 2 5) := wrp (by omega)
  have e2 : IntKind.i64.wrap (1 + dr 1 9 + dr 3 9) = (1 + dr 1 9 + dr 3 9) := wrp (by omega)
  have HE := Lib.hid (And.intro e1 e2)
  clear e1 e2
  refine wpIn_wide.1 (mad2 (pa := pa) (pb := pb) (b3 := b3) (b4 := b4) (a := (1 + dr 0 5)) (b := (1 + dr 1 9)) (u := (dr 2 5)) (v := (dr 3 9)) (P0 := Mk3 w pa pb b3 b4 0 0 0 0 2) (P1 := Mk3 w pa pb b3 b4 0 0 0 0 3) (P2 := Mk3 w pa pb b3 b4 0 0 0 0 3) (P3 := Mk3 w pa pb b3 b4 0 0 0 0 4) (P4 := Mk3 w pa pb b3 b4 0 0 0 0 4) (P5 := Mk3 w pa pb b3 b4 (1 + dr 0 5) (1 + dr 0 5 + dr 2 5) 0 0 4) (P6 := Mk3 w pa pb b3 b4 (1 + dr 0 5) (1 + dr 0 5 + dr 2 5) (1 + dr 1 9) (1 + dr 1 9 + dr 3 9) 4) ?h0_2 ?l2 ?c3 ?c5 ?l8 ?c9 ?c11 ?s13 ?s15 ?hQ1)
  case h0_2 => exact HV1.out.mono (Below.refl _ _).drew
  case l2 => rintro v (h | h | h | h | h | h | h) <;> exact h.cell3
  case l8 => rintro v (h | h | h | h | h | h | h) <;> exact h.cell3
  case c3 => exact fun v h => h.draw HD.out (by omega) (by omega)
  case c9 => exact fun v h => h.draw HD.out (by omega) (by omega)
  case c5 => exact fun v h => (span_any _ _ v).mono fun e v' hv => ⟨hv.1, h.mono hv.2⟩
  case c11 => exact fun v h => (span_any _ _ v).mono fun e v' hv => ⟨hv.1, h.mono hv.2⟩
  case s13 =>
    intro v h
    rw [HE.out.1]
    exact ⟨⟨_, by rw [cell_of_heap h.h4]; rfl⟩, frozen_of_heap h.h4, ⟨_, by rw [cell_of_heap h.h4]; rfl⟩, frozen_of_heap h.h4, (h.set 1 (e0 := (1 + dr 0 5)) (e1 := 0) (e2 := 0) (e3 := 0) rfl).set 2 rfl⟩
  case s15 =>
    intro v h
    rw [HE.out.2]
    exact ⟨⟨_, by rw [cell_of_heap h.h4]; rfl⟩, frozen_of_heap h.h4, ⟨_, by rw [cell_of_heap h.h4]; rfl⟩, frozen_of_heap h.h4, (h.set 3 (e0 := (1 + dr 0 5)) (e1 := (1 + dr 0 5 + dr 2 5)) (e2 := (1 + dr 1 9)) (e3 := 0) rfl).set 4 rfl⟩
  intro V2 hV2
  obtain ⟨B, hB⟩ : ∃ B : Bnd, B = ⟨(1 + dr 0 5), (1 + dr 0 5 + dr 2 5), (1 + dr 1 9), (1 + dr 1 9 + dr 3 9)⟩ := ⟨_, rfl⟩
  have HB : Hid (B.ok) := by show B.ok; rw [hB]; exact ⟨by dsimp only; omega, by dsimp only; omega, by dsimp only; omega, by dsimp only; omega, by dsimp only; omega, by dsimp only; omega⟩
  have HV2 : Hid (Mk3 w pa pb b3 b4 B.llo B.lhi B.olo B.ohi 4 V2) := by rw [hB]; exact hV2
  clear hV2 HV1 HE hB d0 d1 d2 d3
  refine HK2.out _ _ ?_
  clear HK2 K2
  refine wp_seq_hid ?_
  intro K3 HK3
  have z0 := HV2.out.cell3
  have d0 := HD.out.low 4 (m := 6) (by omega)
  obtain ⟨n, hn⟩ := Int.eq_ofNat_of_zero_le d0.1
  have HC := HV2.out.draw HD.out (m := 6) (by omega) (by omega)
  rw [hn] at HC d0
  have HCH := Lib.hid HC
  clear hn HC
  go_wp2_with fail
  refine HCH.out.mono ?_
  rintro e V3 ⟨rfl, hV3⟩
  have HV3 := Lib.hid hV3
  clear hV3 z0 HCH
  go_wp2_with fail
  have hb0 : Below V3.heap.size V3 (V3.alloc (.cells #[.int .i64 (n : Int)] 3)) := (Below.refl _ _).alloc (Nat.le_refl _) _
  have HV4 := Lib.hid (And.intro (HV3.out.mono hb0) (And.intro (World.alloc_heap_new V3 (.cells #[.int .i64 (n : Int)] 3)) (heap_lt HV3.out.h4)))
  have hn5 : n ≤ 5 := by omega
  clear hb0 d0
  revert HV4
  generalize (V3.alloc (.cells #[.int .i64 (n : Int)] 3)) = V4
  generalize V3.heap.size = b8
  intro HV4
  refine HK3.out _ _ ?_
  clear HK3 K3
  refine wp_seq_hid ?_
  intro K4 HK4
  refine wpIn_wide.1 (mad4 (n := n) (b8 := b8) (A := fun v => Mk3 w pa pb b3 b4 B.llo B.lhi B.olo B.ohi 5 v ∧ v.heap[b8]? = some (.cells #[.int .i64 (n : Int)] 3 (0, 0))) (by omega) ?h0_3 ?m ?c ?hQ2)
  case h0_3 => exact ⟨HV4.out.1, HV4.out.2.1⟩
  case m => exact fun v v' h hb => ⟨h.1.mono hb, (hb.block _ (heap_lt h.2)).trans h.2⟩
  case c => exact fun v h => by rw [cell_of_heap h.2]; rfl
  intro V5 g9 g10 h5 h9 h10 l9 l10 ne
  have HV5 := Lib.hid (And.intro h5 (And.intro h9 h10))
  have HN5 := Lib.hid (And.intro HV4.out.2.2 (And.intro l9 (And.intro l10 ne)))
  have z8 : V5.cell? ⟨b8, 0, none⟩ = some (.int .i64 (n : Int)) := by rw [cell_of_heap h5.2]; rfl
  clear h5 h9 h10 l9 l10 ne HV4
  refine HK4.out _ _ ?_
  clear HK4 K4
  refine wp_seq_hid ?_
  intro K5 HK5
  have hr := make22q (n := n) (by omega)
  go_wp2_with fail
  have hb0 : Below V5.heap.size V5 (V5.alloc (.cells (madeCells #[.int .i64 0, .int .i64 0, .int .i64 0, .int .i64 0, .int .i64 0] (n * 5)) 54)) := (Below.refl _ _).alloc (Nat.le_refl _) _
  have HV6 := Lib.hid (And.intro (HV5.out.1.1.mono hb0) (And.intro ((hb0.block _ (heap_lt HV5.out.1.2)).trans HV5.out.1.2) (And.intro ((hb0.block _ (heap_lt HV5.out.2.1)).trans HV5.out.2.1) (And.intro ((hb0.block _ (heap_lt HV5.out.2.2)).trans HV5.out.2.2) (made_prts (World.alloc_heap_new V5 (.cells (madeCells #[.int .i64 0, .int .i64 0, .int .i64 0, .int .i64 0, .int .i64 0] (n * 5)) 54)))))))
  have HN6 := Lib.hid (And.intro (heap_lt HV5.out.2.1) (heap_lt HV5.out.2.2))
  have z8' := cell_stays hb0 z8
  clear hb0 hr z8 HV5
  revert HV6 z8'
  generalize (V5.alloc (.cells (madeCells #[.int .i64 0, .int .i64 0, .int .i64 0, .int .i64 0, .int .i64 0] (n * 5)) 54)) = V6
  revert HN6
  generalize V5.heap.size = g11
  intro HN6 HV6 z8
  refine HK5.out _ _ ?_
  clear HK5 K5
  refine wp_seq_hid ?_
  intro K6 HK6
  have hr := make42 (n := n) (by omega)
  go_wp2_with fail
  have hb0 : Below V6.heap.size V6 (V6.alloc (.cells (madeCells #[.int .i64 0] n) 3)) := (Below.refl _ _).alloc (Nat.le_refl _) _
  have hq : (V6.alloc (.cells (madeCells #[.int .i64 0] n) 3)).heap[V6.heap.size]? = some (intR (List.replicate n 0)) := (World.alloc_heap_new V6 _).trans (congrArg some (made_int n))
  have hm := HV6.out.1.mono hb0
  have L : Lay w pa b3 b4 b8 g9 g10 g11 V6.heap.size := ⟨hm.l0, hm.l3, hm.l4, HN5.out.1, HN5.out.2.1, HN5.out.2.2.1, HN5.out.2.2.2, HN6.out, HV6.out.2.2.2.2.lt⟩
  have HV7 : Hid (MkC w pa b3 b4 b8 g9 g10 g11 V6.heap.size pb (.slice none 0 0) B n 5 (List.replicate n 0) (List.replicate n 0) (List.replicate n 0) (List.replicate n zeroP) (V6.alloc (.cells (madeCells #[.int .i64 0] n) 3))) :=
    ⟨hm.same, hm.drw, hm.h3, hm.h4, (hb0.block _ (heap_lt HV6.out.2.1)).trans HV6.out.2.1, (hb0.block _ (heap_lt HV6.out.2.2.1)).trans HV6.out.2.2.1, (hb0.block _ (heap_lt HV6.out.2.2.2.1)).trans HV6.out.2.2.2.1, HV6.out.2.2.2.2.mono hb0, hq⟩
  have HL := Lib.hid L
  clear hb0 hq hm L z8 hr HV6
  revert HV7 HL
  generalize (V6.alloc (.cells (madeCells #[.int .i64 0] n) 3)) = V7
  generalize V6.heap.size = g12
  intro HV7 HL
  refine HK6.out _ _ ?_
  clear HK6 K6
  refine wp_seq_hid ?_
  intro K7 HK7
  go_wp2_with fail
  refine HK7.out _ _ ?_
  clear HK7 K7
  exact mad8 HL.out HD.out HB.out hn5 ⟨by simp, by simp, by simp, by simp, fun c hc => by omega⟩ (by omega) HV7.out
end Go.Proofs.Ytnfhlbmapfoifaa
namespace Go.Proofs.Ytnfhlbmapfoifaa
open Go.RowKit
set_option linter.unusedVariables false
set_option linter.unusedSimpArgs false
/-- What lies in memory behind the pile that was made. -/
structure TrC (p : Prs) (a f : Option Addr) (ca b5 : Nat) (F : List Int) (w0 w : World) : Prop where
  below : Below w0.heap.size w0 w
  h5 : w.heap[b5]? = some (.cells (p.cells a ca) 26 (0, 0))
  hp : IsPrts w a p.cards
  hf : IsInts w f F
theorem TrC.mono {p : Prs} {a f : Option Addr} {ca b5 : Nat} {F : List Int} {w0 w w' : World} (h : TrC p a f ca b5 F w0 w) (hb : Below w.heap.size w w') : TrC p a f ca b5 F w0 w' :=
  ⟨h.below.trans (hb.mono h.below.size), (hb.block _ (heap_lt h.h5)).trans h.h5, h.hp.mono hb, h.hf.mono hb⟩
theorem ordN_of {p : Prs} (hv : p.valid = true) : ordN p = ordersL p := by
  unfold ordN ordersE
  rw [hv]
  cases h : ordersL p <;> simp
theorem waysE_of {p : Prs} (hv : p.valid = true) : waysE p = (((waysL p).length : Int), 0) := by
  have hE : openE p true = 0 := by unfold openE; rw [hv]; rfl
  unfold waysE
  simp only
  rw [if_pos hE]
theorem parT_lt {p : Prs} (hn : p.cards.length ≤ 5) {i : Nat} (hi : i < p.cards.length) : parS (parL p i (waysL p).length) < 32 := by
  refine parS_lt (fun x hx => ?_)
  unfold parL at hx
  rw [List.take_length, List.mem_map] at hx
  obtain ⟨y, hy, rfl⟩ := hx
  have := ((ways_iff.1 hy).2.1 i hi).2.1
  omega
theorem bitT_of (S k : Nat) (hS : S < 32) : bits .and .i64 ((S : Int) / 2 ^ k) 1 = if S.testBit k then 1 else 0 := by
  have h1 : ((S : Int) / 2 ^ k) = ((S / 2 ^ k : Nat) : Int) := by simp
  have h2 : S / 2 ^ k < 2 ^ 62 := Nat.lt_of_le_of_lt (Nat.div_le_self _ _) (by omega)
  rw [h1]
  have h3 := (bits_nat .i64 62 (by decide) (fun n h1 h2 => by rw [IntKind.wrap_i64]; omega) (S / 2 ^ k) 1 h2 (by decide)).1
  rw [show ((1 : Nat) : Int) = 1 from rfl] at h3
  rw [h3, Nat.and_one_is_mod, Nat.testBit_eq_decide_div_mod_eq]
  by_cases h : S / 2 ^ k % 2 = 1
  · simp [h]
  · simp [h]; omega
theorem fitsT {p : Prs} (hv : p.valid = true) {i m : Nat} (hi : i < p.cards.length) (hm : m < p.cards.length) (h : i ≠ m) : fitsE p i m = (isWayB (bothP p i m) [-1, 0], 0) := by
  have h1 : p.card (i : Int) = true := by unfold Prs.card inR; simp; omega
  have h2 : p.card (m : Int) = true := by unfold Prs.card inR; simp; omega
  have h3 : openE p (p.card (i : Int) && p.card (m : Int) && !decide ((i : Int) = (m : Int))) = 0 := by
    rw [h1, h2]
    have : ((i : Int) = (m : Int)) = False := by simp; omega
    simp [openE, hv, this]
  unfold fitsE
  simp only
  rw [if_pos h3]
  rfl
/-- How far an order is read off from the cards from which the others come. -/
structure OrdK (n : Nat) (F o : List Int) : Prop where
  perm : IsPerm n o
  at_ : ∀ k, k < n → gi F (gi o k).toNat = if k = 0 then -1 else gi o (k - 1)
theorem ordK_of {n : Nat} {F o : List Int} (h : IsPerm n o) (e : chainL o = F) : OrdK n F o := ⟨h, fun k hk => by rw [← e]; exact chain_gi h hk⟩
theorem OrdK.nat {n : Nat} {F o : List Int} (h : OrdK n F o) {k : Nat} (hk : k < n) : ∃ m : Nat, gi o k = (m : Int) ∧ m < n := by
  have := perm_rng h.perm hk
  exact ⟨(gi o k).toNat, by omega, by omega⟩
theorem OrdK.back {n : Nat} {F o : List Int} (h : OrdK n F o) {m : Nat} (hm : m < n) : ∃ k, k < n ∧ gi o k = (m : Int) ∧ gi F m = if k = 0 then -1 else gi o (k - 1) := by
  obtain ⟨k, hk, e⟩ := perm_has h.perm (c := (m : Int)) (by omega) (by omega)
  have := h.at_ k hk
  rw [e, Int.toNat_natCast] at this
  exact ⟨k, hk, e, this⟩
/-- The first one is the only one from none. -/
theorem OrdK.first {n : Nat} {F o : List Int} (h : OrdK n F o) {m : Nat} (hm : m < n) : gi F m = -1 ↔ gi o 0 = (m : Int) := by
  obtain ⟨k, hk, e, e2⟩ := h.back hm
  rw [e2]
  by_cases h0 : k = 0
  · subst h0; rw [if_pos rfl]; exact ⟨fun _ => e, fun _ => rfl⟩
  · rw [if_neg h0]
    have := perm_rng h.perm (k := k - 1) (by omega)
    refine ⟨fun e3 => by omega, fun e3 => absurd (perm_ne h.perm (j := 0) (k := k) (by omega) hk (fun e4 => h0 e4.symm)) (by rw [e3, e]; simp)⟩
/-- The one behind another one is the only one that comes from it. -/
theorem OrdK.next {n : Nat} {F o : List Int} (h : OrdK n F o) {m j : Nat} (hm : m < n) (hj : j < n) : gi F m = gi o j ↔ j + 1 < n ∧ gi o (j + 1) = (m : Int) := by
  obtain ⟨k, hk, e, e2⟩ := h.back hm
  rw [e2]
  by_cases h0 : k = 0
  · subst h0
    rw [if_pos rfl]
    have := perm_rng h.perm hj
    refine ⟨fun e3 => by omega, fun ⟨h1, e3⟩ => absurd (perm_ne h.perm (j := j + 1) (k := 0) h1 hk (by omega)) (by rw [e3, e]; simp)⟩
  · rw [if_neg h0]
    constructor
    · intro e3
      by_cases hkj : k - 1 = j
      · have : k = j + 1 := by omega
        subst this
        exact ⟨hk, e⟩
      · exact absurd e3 (perm_ne h.perm (by omega) hj hkj)
    · rintro ⟨h1, e3⟩
      by_cases hkj : k = j + 1
      · subst hkj; rfl
      · exact absurd (perm_ne h.perm hk h1 hkj) (by rw [e3, e]; simp)
/-- Which card is told next. -/
def nxt (n : Nat) (o : List Int) (j : Nat) : Int := gi o (if j < n then j else n - 1)
noncomputable def tr35C : Code := (Try.f10.body.bind (fromReg 35)).getD .skip
set_option maxRecDepth 100000 in
set_option maxHeartbeats 4000000 in
theorem tr35 {p : Prs} {a f : Option Addr} {ca cf b5 : Nat} {F : List Int} {ch : Bool} {w0 w : World} {few : Nat} {av oa : Option Addr} {cv oc : Nat} {o : List Int} (H : TrC p a f ca b5 F w0 w) (hv : p.valid = true) (hl : IsLists w av (ordersL p)) (ho : IsInts w oa o) (hol : o.length ≤ 5) (hm : o ∈ ordersL p) (hfew : few ≤ 1)
    {s1 s2 s3 s4 s7 s8 s9 s11 s12 s13 s14 s15 s16 s17 s18 s19 s23 s24 s25 s26 s27 s28 s29 s30 s31 s32 s33 s34 s35 s36 s37 s38 s39 s40 s41 s42 s43 s44 s45 s46 s47 s48 s49 s50 s51 s52 s53 s54 s55 s56 s57 s58 s59 s60 s61 s62 s63 s64 s65 s66 s67 s68 s69 s70 s71 s72 s73 s74 s75 s76 s77 s78 s79 s80 s81 s82 s83 s84 s85 s86 s87 s88 s89 s90 s91 s92 s93 s94 s95 s96 s97 s98 s99 s100 s101 s102 s103 s104 s105 s106 s107 s108 s109 s110 s111 s112 s113 s114 s115 s116 s117 s118 s119 s120 s121 s122 s123 s124 s125 s126 s127 s128 s129 s130 s131 s132 s133 s134 s135 s136 s137 s138 s139 s140 s141 s142 s143 s144 s145 s146 s147 s148 s149 s150 s151 s152 s153 s154 s155 s156 s157 s158 s159 s160 s161 s162 s163 s164 s165 s166 s167 s168 s169 s170 s171 : Value} :
    Code.wp Try.prog tr35C (bodyPost Try.prog Try.f10 fun e w' => e = .returned (.bool true) ∧ Below w0.heap.size w0 w') { tmps := #[.bool ch,s1,s2,s3,s4,.pointer (some ⟨b5, 0, none⟩),.slice f F.length cf,s7,s8,s9,.int .i64 (few : Int),s11,s12,s13,s14,s15,s16,s17,s18,s19,.slice av (ordersL p).length cv,.int .i64 0,.slice oa o.length oc,s23,s24,s25,s26,s27,s28,s29,s30,s31,s32,s33,s34,s35,s36,s37,s38,s39,s40,s41,s42,s43,s44,s45,s46,s47,s48,s49,s50,s51,s52,s53,s54,s55,s56,s57,s58,s59,s60,s61,s62,s63,s64,s65,s66,s67,s68,s69,s70,s71,s72,s73,s74,s75,s76,s77,s78,s79,s80,s81,s82,s83,s84,s85,s86,s87,s88,s89,s90,s91,s92,s93,s94,s95,s96,s97,s98,s99,s100,s101,s102,s103,s104,s105,s106,s107,s108,s109,s110,s111,s112,s113,s114,s115,s116,s117,s118,s119,s120,s121,s122,s123,s124,s125,s126,s127,s128,s129,s130,s131,s132,s133,s134,s135,s136,s137,s138,s139,s140,s141,s142,s143,s144,s145,s146,s147,s148,s149,s150,s151,s152,s153,s154,s155,s156,s157,s158,s159,s160,s161,s162,s163,s164,s165,s166,s167,s168,s169,s170,s171],defers := [] } w := by
  have HH := Lib.hid (And.intro H (And.intro hl ho))
  have HV := Lib.hid (And.intro hv hm)
  have hfw := orders_few hv
  have HOL : Hid (∀ k, k < (ordersL p).length → ((ordersL p).getD k []).length = p.cards.length) := fun k hk => (orders_iff.1 (show (ordersL p).getD k [] ∈ ordersL p by simp [hk])).1.1
  have hn5 := (valid_parts hv).1
  clear H hl ho hv hm
  conv => arg 2; whnf
  refine wp_seq_hid ?_
  intro K35 HK35
  go_wp2_with fail
  refine HK35.out _ _ ?_
  clear HK35 K35
  refine wp_seq_hid ?_
  intro K36 HK36
  go_wp2_with fail
  go_loopw [25, 149] (fun t i wr => ∃ (k : Nat) (told : Bool), k ≤ (ordersL p).length ∧ i = .int .i64 k ∧ t = .bool told ∧ Hid (told = decide (o ∈ (ordersL p).take k)) ∧ Hid (Below w.heap.size w wr)) (fun _ i _ => (ordersL p).length - (intOf i).toNat)
  case atStart => exact ⟨0, false, by omega, rfl, rfl, by simp [Hid], Below.refl _ _⟩
  case round =>
    obtain ⟨k, told, hk, rfl, rfl, HT, HW⟩ := hrel
    by_cases hlt : k < (ordersL p).length
    · obtain ⟨bb, off, hal, ax, cx, hcell, hints⟩ := (HH.out.2.1.mono HW.out) k hlt
      subst hal
      rw [HOL.out k hlt] at hcell
      have HI := Lib.hid (And.intro hints (HH.out.2.2.mono HW.out))
      have HTN : Hid (∀ t2 : Bool, t2 = (told || decide ((ordersL p).getD k [] = o)) → t2 = decide (o ∈ (ordersL p).take (k + 1))) := fun t2 h => by
        rw [h, HT.out, List.take_succ_eq_append_getElem hlt]
        have e : (ordersL p).getD k [] = (ordersL p)[k] := by simp [hlt]
        have h5 : (o ∈ (ordersL p).take k ++ [(ordersL p)[k]]) ↔ (o ∈ (ordersL p).take k ∨ (ordersL p)[k] = o) := by rw [List.mem_append, List.mem_singleton, eq_comm]
        rw [e, decide_eq_decide.2 h5, Bool.decide_or]
      clear hints
      cases told
      · have HC := ints27 (ca := cx) (cb := oc) HI.out.1 HI.out.2 (by rw [HOL.out k hlt]; omega) (by omega)
        rw [HOL.out k hlt] at HC
        obtain ⟨q, hq⟩ : ∃ q, decide ((ordersL p).getD k [] = o) = q := ⟨_, rfl⟩
        rw [hq] at HC
        have HQ := Lib.hid hq
        have HCH := Lib.hid HC
        clear HC hq
        go_wp2_with fail
        refine HCH.out.mono ?_
        rintro e w6 ⟨rfl, hb6⟩
        have HB6 := Lib.hid (HW.out.trans (hb6.mono HW.out.size))
        clear hb6 hcell
        go_wp2_with fail
        go_roundw
        case rel => exact ⟨k + 1, q, by omega, by go_num, rfl, HTN.out _ (by rw [HQ.out]; rfl), HB6.out⟩
        case measure => simp [intOf]; omega
      · go_wp2_with fail
        all_goals first
          | refine ⟨fun _ _ => trivial, ?_⟩
          | skip
        all_goals go_wp2_with fail
        go_roundw
        case rel => exact ⟨k + 1, true, by omega, by go_num, rfl, HTN.out _ (by simp), HW.out⟩
        case measure => simp [intOf]; omega
    · have hke : k = (ordersL p).length := by omega
      have ht : told = true := by rw [HT.out, hke, List.take_length]; exact decide_eq_true HV.out.2
      subst ht
      have hd : decide (few ≤ 1) = true := by simpa using hfew
      clear HT hke
      go_wp2_with fail
      refine HK36.out _ _ ?_
      go_wp2_with fail
      refine (alive_any _).mono ?_
      rintro e c9 ⟨rfl, hb⟩
      have HB9 := Lib.hid (HH.out.1.below.trans ((HW.out.trans (hb.mono HW.out.size)).mono HH.out.1.below.size))
      clear hb
      go_wp2_with fail
      go_ret
      exact ⟨rfl, HB9.out⟩
end Go.Proofs.Ytnfhlbmapfoifaa
namespace Go.Proofs.Ytnfhlbmapfoifaa
open Go.RowKit
set_option linter.unusedVariables false
set_option linter.unusedSimpArgs false
noncomputable def tr23C : Code := (Try.f10.body.bind (fromReg 23)).getD .skip
set_option maxRecDepth 100000 in
set_option maxHeartbeats 4000000 in
theorem tr23 {p : Prs} {a f : Option Addr} {ca cf b5 : Nat} {F : List Int} {ch : Bool} {w0 w : World} {few : Nat} {first : Int} {o : List Int} (H : TrC p a f ca b5 F w0 w) (hv : p.valid = true) (hF : F.length = p.cards.length) (hm : o ∈ ordersL p) (hK : OrdK p.cards.length F o) (h0 : 0 < p.cards.length → first = gi o 0) (hfew : few ≤ 1)
    {s1 s2 s3 s4 s7 s8 s9 s11 s13 s14 s15 s16 s17 s18 s19 s20 s21 s22 s23 s24 s25 s26 s27 s28 s29 s30 s31 s32 s33 s34 s35 s36 s37 s38 s39 s40 s41 s42 s43 s44 s45 s46 s47 s48 s49 s50 s51 s52 s53 s54 s55 s56 s57 s58 s59 s60 s61 s62 s63 s64 s65 s66 s67 s68 s69 s70 s71 s72 s73 s74 s75 s76 s77 s78 s79 s80 s81 s82 s83 s84 s85 s86 s87 s88 s89 s90 s91 s92 s93 s94 s95 s96 s97 s98 s99 s100 s101 s102 s103 s104 s105 s106 s107 s108 s109 s110 s111 s112 s113 s114 s115 s116 s117 s118 s119 s120 s121 s122 s123 s124 s125 s126 s127 s128 s129 s130 s131 s132 s133 s134 s135 s136 s137 s138 s139 s140 s141 s142 s143 s144 s145 s146 s147 s148 s149 s150 s151 s152 s153 s154 s155 s156 s157 s158 s159 s160 s161 s162 s163 s164 s165 s166 s167 s168 s169 s170 s171 : Value} :
    Code.wp Try.prog tr23C (bodyPost Try.prog Try.f10 fun e w' => e = .returned (.bool true) ∧ Below w0.heap.size w0 w') { tmps := #[.bool true,s1,s2,s3,s4,.pointer (some ⟨b5, 0, none⟩),.slice f F.length cf,s7,s8,s9,.int .i64 (few : Int),s11,.int .i64 first,s13,s14,s15,s16,s17,s18,s19,s20,s21,s22,s23,s24,s25,s26,s27,s28,s29,s30,s31,s32,s33,s34,s35,s36,s37,s38,s39,s40,s41,s42,s43,s44,s45,s46,s47,s48,s49,s50,s51,s52,s53,s54,s55,s56,s57,s58,s59,s60,s61,s62,s63,s64,s65,s66,s67,s68,s69,s70,s71,s72,s73,s74,s75,s76,s77,s78,s79,s80,s81,s82,s83,s84,s85,s86,s87,s88,s89,s90,s91,s92,s93,s94,s95,s96,s97,s98,s99,s100,s101,s102,s103,s104,s105,s106,s107,s108,s109,s110,s111,s112,s113,s114,s115,s116,s117,s118,s119,s120,s121,s122,s123,s124,s125,s126,s127,s128,s129,s130,s131,s132,s133,s134,s135,s136,s137,s138,s139,s140,s141,s142,s143,s144,s145,s146,s147,s148,s149,s150,s151,s152,s153,s154,s155,s156,s157,s158,s159,s160,s161,s162,s163,s164,s165,s166,s167,s168,s169,s170,s171],defers := [] } w := by
  have HH := Lib.hid H
  have HV := Lib.hid (And.intro hv (And.intro hm (And.intro hF hK)))
  have H0 := Lib.hid h0
  have hn5 := (valid_parts hv).1
  have hoe : ordersE p = 0 := ordersE_ok hv (fun e => by rw [e] at hm; cases hm)
  have hoN := ordN_of hv
  have C17 : Hid (Calls Try.prog 17 #[p.v a ca] w fun e w' => ∃ av cv, e = .returned (.tuple #[.slice av (ordersL p).length cv, .int .i64 0]) ∧ IsLists w' av (ordersL p) ∧ Below w.heap.size w w') := by
    refine (orders_c (cap := ca) H.hp (by omega)).mono ?_
    rw [hoN, hoe]
    exact fun e w' h => h
  have hol : o.length ≤ 5 := by have := hK.perm.1; omega
  have HFL : Hid (F.length = p.cards.length) := hF
  have hf5 : F.length ≤ 5 := by omega
  clear H hv hm hF hK h0 hoe hoN
  obtain ⟨k0, k1, k2, k3, k4⟩ := prs_cells HH.out.h5
  conv => arg 2; whnf
  refine wp_seq_hid ?_
  intro K23 HK23
  go_wp2_with fail
  refine C17.out.mono ?_
  rintro e w1 ⟨av, cv, rfl, hl, hb⟩
  have H1 := Lib.hid (And.intro (HH.out.mono hb) hl)
  clear hl hb k0 k1 k2 k3 k4 C17
  go_wp2_with fail
  refine HK23.out _ _ ?_
  clear HK23 K23
  refine wp_seq_hid ?_
  intro K24 HK24
  go_wp2_with fail
  refine HK24.out _ _ ?_
  clear HK24 K24
  refine wp_seq_hid ?_
  intro K25 HK25
  go_wp2_with fail
  go_loopw [22, 12, 128] (fun l x i wr => ∃ (j : Nat) (v : Value) (y : Int), j ≤ F.length ∧ i = .int .i64 j ∧ l = v ∧ x = .int .i64 y ∧ Hid (wr.ownsRow w1.heap.size 3 1 v j ((o.take j).map (Value.int .i64))) ∧ Hid (0 < F.length → y = nxt F.length o j) ∧ Hid (Below w1.heap.size w1 wr)) (fun _ _ i _ => F.length - (intOf i).toNat)
  case atStart => exact ⟨0, _, first, by omega, rfl, rfl, rfl, ⟨rfl, .inl ⟨rfl, rfl⟩⟩, fun h => by rw [H0.out (by have := HFL.out; omega)]; unfold nxt; rw [if_pos h], Below.refl _ _⟩
  case round =>
    obtain ⟨j, v, y, hj, rfl, rfl, rfl, HR, HY, HW⟩ := hrel
    by_cases hjn : j < F.length
    · have HKO : Hid (OrdK F.length F o) := by show OrdK F.length F o; rw [HFL.out]; exact HV.out.2.2.2
      have hy : y = gi o j := by have := HY.out (by omega); unfold nxt at this; rwa [if_pos hjn] at this
      have HYO := Lib.hid hy
      clear hy
      refine wp_seq_hid ?_
      intro KL HKL
      go_wp2_with fail
      refine HKL.out _ _ ?_
      clear HKL KL
      refine wp_seq_hid ?_
      intro KLc HKLc
      go_wp2_with fail
      refine HKLc.out _ _ ?_
      clear HKLc KLc
      refine wp_seq_hid ?_
      intro KLB HKLB
      refine wp_block ?_
      refine wp_seq_hid ?_
      intro K27 HK27
      have hown := HR.out
      obtain ⟨i0, hi0, hz0, hz1, hz2⟩ := info_parts infoI
      have hsz0 := HW.out.size
      obtain ⟨v', w', hr, hown', hgr⟩ := append_one (P := Try.prog) (w := wr) w1.heap.size 42 42 3 i0 _ 8 Try.underlying42 hi0 hz0 hz1 hz2 rfl _ _ _ hown (.int .i64 y) rfl (by simp [maxLen]; omega) (by omega) (by omega)
      have hb1 : Below w1.heap.size w1 (wr.alloc (.cells #[.int .i64 y] 3)) := HW.out.alloc (by omega) _
      have hb2 : Below w1.heap.size w1 w' := grown_below hb1 (hown.alloc _) hgr (by simp; omega)
      have HRUN := Lib.hid hr
      have HOWN : Hid (w'.ownsRow w1.heap.size 3 1 v' (j + 1) ((o.take (j + 1)).map (Value.int .i64))) := by
        have hlo : o.length = F.length := HKO.out.perm.1
        have e : o.take (j + 1) = o.take j ++ [y] := by
          rw [List.take_succ_eq_append_getElem (by omega), HYO.out]
          simp [gi, show j < o.length by omega]
        rw [Hid, e, List.map_append]
        exact hown'
      have HB3 := Lib.hid (And.intro hb2 (H1.out.1.mono hb2))
      clear hown hown' hgr hr hb1 hb2 hsz0 hi0 hz0 hz1 hz2
      go_wp2_with (at_builtin; refine wpList_append_run rfl (.tmp 130) (.tmp 132) 42 rfl _ _ _ _ rfl rfl HRUN.out ?_)
      refine HK27.out _ _ ?_
      clear HK27 K27
      go_wp2_with fail
      go_loopw [12, 136] (fun x i wr => ∃ m : Nat, m ≤ F.length ∧ x = .int .i64 y ∧ i = .int .i64 m ∧ Hid (∀ u, u < m → gi F u ≠ gi o j) ∧ wr = w') (fun _ i _ => F.length - (intOf i).toNat)
      case atStart => exact ⟨0, by omega, rfl, rfl, fun u hu => by omega, rfl⟩
      case round =>
        obtain ⟨m, hm, rfl, rfl, HM, rfl⟩ := hrel
        by_cases hmn : m < F.length
        · obtain ⟨fb, fo, hfe, hfc⟩ := HB3.out.2.hf m hmn
          subst hfe
          obtain ⟨q, hq⟩ : ∃ q, gi F m = q := ⟨_, rfl⟩
          rw [hq] at hfc
          have HQ := Lib.hid hq
          clear hq
          by_cases he : q = y
          · have hb : (q == y) = true := by simpa using he
            have HE := Lib.hid he
            clear he
            go_wp2_with fail
            refine HKLB.out _ _ ?_
            go_wp2_with fail
            go_roundw
            case rel =>
              refine ⟨j + 1, v', (m : Int), by omega, by go_num, rfl, rfl, HOWN.out, fun h => ?_, HB3.out.1⟩
              have hn := (HKO.out.next hmn hjn).1 (by rw [HQ.out, HE.out, HYO.out])
              unfold nxt
              rw [if_pos hn.1]
              exact hn.2.symm
            case measure => simp [intOf]; omega
          · have hb : (q == y) = false := by simpa using he
            have HE := Lib.hid he
            clear he
            go_wp2_with fail
            go_roundw
            case rel =>
              refine ⟨m + 1, by omega, rfl, by go_num, fun u hu => ?_, trivial⟩
              by_cases e : u = m
              · subst e; rw [HQ.out, ← HYO.out]; exact HE.out
              · exact HM.out u (by omega)
            case measure => simp [intOf]; omega
        · have HEND : Hid (j + 1 = F.length) := by
            show j + 1 = F.length
            by_cases h : j + 1 < F.length
            · obtain ⟨u, hu, hul⟩ := HKO.out.nat h
              exact absurd ((HKO.out.next hul hjn).2 ⟨h, hu⟩) (HM.out u (by omega))
            · omega
          go_wp2_with fail
          refine HKLB.out _ _ ?_
          go_wp2_with fail
          go_roundw
          case rel =>
            refine ⟨j + 1, v', y, by omega, by go_num, rfl, rfl, HOWN.out, fun h => ?_, HB3.out.1⟩
            have h2 := HEND.out
            unfold nxt
            rw [if_neg (by omega), HYO.out, show F.length - 1 = j by omega]
          case measure => simp [intOf]; omega
    · have hje : j = F.length := by omega
      have hown := HR.out
      have hlo : o.length = F.length := by have := HV.out.2.2.2.perm.1; have := HFL.out; omega
      rw [hje, ← hlo, List.take_length] at hown
      obtain ⟨oa, oc, rfl, _⟩ := own_slice hown
      have HO := Lib.hid (own_ints hown)
      have H2 := Lib.hid (H1.out.1.mono HW.out)
      have HL2 := Lib.hid (H1.out.2.mono HW.out)
      clear hown hje hlo
      go_wp2_with fail
      refine HK25.out _ _ ?_
      exact tr35 H2.out HV.out.1 HL2.out HO.out hol HV.out.2.1 hfew
end Go.Proofs.Ytnfhlbmapfoifaa
namespace Go.Proofs.Ytnfhlbmapfoifaa
open Go.RowKit
set_option linter.unusedVariables false
set_option linter.unusedSimpArgs false
noncomputable def tr8C : Code := (Try.f10.body.bind (fromReg 8)).getD .skip
set_option maxRecDepth 100000 in
set_option maxHeartbeats 4000000 in
theorem tr8 {p : Prs} {a f : Option Addr} {ca cf b5 : Nat} {F : List Int} {ch : Bool} {w0 w : World} {few : Nat} (H : TrC p a f ca b5 F w0 w) (hT : Told ch p F) (hfew : ch = true → few ≤ 1)
    {s1 s2 s3 s4 s7 s8 s9 s11 s12 s13 s14 s15 s16 s17 s18 s19 s20 s21 s22 s23 s24 s25 s26 s27 s28 s29 s30 s31 s32 s33 s34 s35 s36 s37 s38 s39 s40 s41 s42 s43 s44 s45 s46 s47 s48 s49 s50 s51 s52 s53 s54 s55 s56 s57 s58 s59 s60 s61 s62 s63 s64 s65 s66 s67 s68 s69 s70 s71 s72 s73 s74 s75 s76 s77 s78 s79 s80 s81 s82 s83 s84 s85 s86 s87 s88 s89 s90 s91 s92 s93 s94 s95 s96 s97 s98 s99 s100 s101 s102 s103 s104 s105 s106 s107 s108 s109 s110 s111 s112 s113 s114 s115 s116 s117 s118 s119 s120 s121 s122 s123 s124 s125 s126 s127 s128 s129 s130 s131 s132 s133 s134 s135 s136 s137 s138 s139 s140 s141 s142 s143 s144 s145 s146 s147 s148 s149 s150 s151 s152 s153 s154 s155 s156 s157 s158 s159 s160 s161 s162 s163 s164 s165 s166 s167 s168 s169 s170 s171 : Value} :
    Code.wp Try.prog tr8C (bodyPost Try.prog Try.f10 fun e w' => e = .returned (.bool true) ∧ Below w0.heap.size w0 w') { tmps := #[.bool ch,s1,s2,s3,s4,.pointer (some ⟨b5, 0, none⟩),.slice f F.length cf,s7,s8,s9,.int .i64 (few : Int),s11,s12,s13,s14,s15,s16,s17,s18,s19,s20,s21,s22,s23,s24,s25,s26,s27,s28,s29,s30,s31,s32,s33,s34,s35,s36,s37,s38,s39,s40,s41,s42,s43,s44,s45,s46,s47,s48,s49,s50,s51,s52,s53,s54,s55,s56,s57,s58,s59,s60,s61,s62,s63,s64,s65,s66,s67,s68,s69,s70,s71,s72,s73,s74,s75,s76,s77,s78,s79,s80,s81,s82,s83,s84,s85,s86,s87,s88,s89,s90,s91,s92,s93,s94,s95,s96,s97,s98,s99,s100,s101,s102,s103,s104,s105,s106,s107,s108,s109,s110,s111,s112,s113,s114,s115,s116,s117,s118,s119,s120,s121,s122,s123,s124,s125,s126,s127,s128,s129,s130,s131,s132,s133,s134,s135,s136,s137,s138,s139,s140,s141,s142,s143,s144,s145,s146,s147,s148,s149,s150,s151,s152,s153,s154,s155,s156,s157,s158,s159,s160,s161,s162,s163,s164,s165,s166,s167,s168,s169,s170,s171],defers := [] } w := by
  have HH := Lib.hid H
  have HT := Lib.hid hT
  have HFE := Lib.hid hfew
  have hn5 := (valid_parts hT.valid).1
  have hfl : F.length = p.cards.length := (ways_iff.1 hT.mem).1
  have hf5 : F.length ≤ 5 := by omega
  have HFL := Lib.hid hfl
  clear H hT hfew hfl
  conv => arg 2; whnf
  refine wp_seq_hid ?_
  intro K8 HK8
  go_wp2_with fail
  refine HK8.out _ _ ?_
  clear HK8 K8
  refine wp_seq_hid ?_
  intro K9 HK9
  go_wp2_with fail
  go_loopw [12, 68] (fun x i wr => ∃ (k : Nat) (y : Int), k ≤ F.length ∧ i = .int .i64 k ∧ x = .int .i64 y ∧ Hid (∀ u, u < k → gi F u = -1 → ∃ m : Nat, y = (m : Int) ∧ m < F.length ∧ gi F m = -1) ∧ Hid (Below w.heap.size w wr)) (fun _ i _ => F.length - (intOf i).toNat)
  case atStart => exact ⟨0, 0, by omega, rfl, rfl, fun u hu => by omega, Below.refl _ _⟩
  case round =>
    obtain ⟨k, y, hk, rfl, rfl, HY, HW⟩ := hrel
    have H4 := Lib.hid (HH.out.mono HW.out)
    by_cases hlt : k < F.length
    · obtain ⟨fb, fo, hfe, hfc⟩ := H4.out.hf k hlt
      subst hfe
      have hlp : k < p.cards.length := by have := HFL.out; omega
      have hpar := parents_any (cap := ca) H4.out.hp (by omega) (k : Int)
      rw [parentsE_yes HT.out.valid hlp, par_orig HT.out.valid hlp] at hpar
      have HPAR := Lib.hid hpar
      have hs32 := parT_lt hn5 hlp
      have HPF : Hid (∀ m : Nat, gi F k = (m : Int) → (parS (parL p k (waysL p).length)).testBit m = true ∧ m ≠ k ∧ m < p.cards.length ∧ isWayB (bothP p k m) [-1, 0] = true) := fun m h => by
        have h2 := (ways_iff.1 HT.out.mem).2.1 k hlp
        rw [h] at h2
        exact ⟨(par_all hlp).2 ⟨_, HT.out.mem, h⟩, fun e => h2.2.2 (by rw [e]), by omega, fits_way HT.out.mem hlp (by omega) h⟩
      have hrg := (ways_iff.1 HT.out.mem).2.1 k hlp
      clear hpar
      obtain ⟨q, hq⟩ : ∃ q, gi F k = q := ⟨_, rfl⟩
      rw [hq] at hfc HPF hrg
      have HQ := Lib.hid hq
      clear hq
      revert HPAR hs32 HPF
      generalize parS (parL p k (waysL p).length) = S
      intro HPAR hs32 HPF
      obtain ⟨k0, k1, k2, k3, k4⟩ := prs_cells H4.out.h5
      refine wp_seq_hid ?_
      intro KL HKL
      go_wp2_with fail
      refine HKL.out _ _ ?_
      clear HKL KL
      refine wp_seq_hid ?_
      intro KLc HKLc
      go_wp2_with fail
      refine HKLc.out _ _ ?_
      clear HKLc KLc
      refine wp_seq_hid ?_
      intro KLB HKLB
      refine wp_block ?_
      refine wp_seq_hid ?_
      intro K11 HK11
      go_wp2_with fail
      refine HK11.out _ _ ?_
      clear HK11 K11
      refine wp_seq_hid ?_
      intro K12 HK12
      clear hfc
      go_wp2_with fail
      refine HPAR.out.mono ?_
      rintro e w2 ⟨rfl, hb2⟩
      clear HPAR
      have HW2 := Lib.hid (HW.out.trans (hb2.mono HW.out.size))
      have H5 := Lib.hid (H4.out.mono hb2)
      clear hb2 k0 k1 k2 k3 k4
      go_wp2_with fail
      refine HK12.out _ _ ?_
      clear HK12 K12
      rcases (show q = -1 ∨ ∃ m : Nat, q = (m : Int) from by
        by_cases h : q = -1
        · exact .inl h
        · exact .inr ⟨q.toNat, by omega⟩) with hf | ⟨m, hf⟩
      · subst hf
        have HN : Hid (∀ u, u < k + 1 → gi F u = -1 → ∃ m : Nat, (k : Int) = (m : Int) ∧ m < F.length ∧ gi F m = -1) := fun u hu he => ⟨k, rfl, hlt, HQ.out⟩
        clear hrg HPF
        go_wp2_with fail
        all_goals first
          | refine ⟨fun _ _ => trivial, ?_⟩
          | skip
        all_goals go_wp2_with fail
        refine HKLB.out _ _ ?_
        go_wp2_with fail
        go_roundw
        case rel => exact ⟨k + 1, (k : Int), by omega, by go_num, rfl, HN.out, HW2.out⟩
        case measure => simp [intOf]; omega
      · subst hf
        obtain ⟨hbt, hmk, hml, hway⟩ := HPF.out m rfl
        have hfb : (((m : Nat) : Int) != -1) = true := by simp
        have hfb2 : (((m : Nat) : Int) == -1) = false := by simp
        have e3 : bits .and .i64 ((S : Int) / 2 ^ m) 1 = 1 := by rw [bitT_of S m hs32, if_pos hbt]
        have hfit := fits_any (cap := ca) H5.out.hp (by omega) (k : Int) (m : Int)
        rw [fitsT HT.out.valid hlp hml (Ne.symm hmk), hway] at hfit
        have HFIT := Lib.hid hfit
        have HN : Hid (∀ u, u < k + 1 → gi F u = -1 → ∃ m : Nat, y = (m : Int) ∧ m < F.length ∧ gi F m = -1) := fun u hu he => by
          by_cases e : u = k
          · subst e; rw [HQ.out] at he; omega
          · exact HY.out u (by omega) he
        clear hrg HPF hway hfit hbt hmk
        obtain ⟨k0, k1, k2, k3, k4⟩ := prs_cells H5.out.h5
        go_wp2_with fail
        all_goals first
          | refine ⟨fun _ _ => trivial, ?_⟩
          | skip
        all_goals go_wp2_with fail
        refine HFIT.out.mono ?_
        rintro e w6 ⟨rfl, hb6⟩
        have HB6 := Lib.hid (HW2.out.trans (hb6.mono HW2.out.size))
        clear hb6 k0 k1 k2 k3 k4
        go_wp2_with fail
        refine HKLB.out _ _ ?_
        go_wp2_with fail
        go_roundw
        case rel => exact ⟨k + 1, y, by omega, by go_num, rfl, HN.out, HB6.out⟩
        case measure => simp [intOf]; omega
    · have hke : k = F.length := by omega
      have HY2 : Hid (∀ u, u < F.length → gi F u = -1 → ∃ m : Nat, y = (m : Int) ∧ m < F.length ∧ gi F m = -1) := by have := HY.out; rw [hke] at this; exact this
      clear hke
      cases hch : ch
      · clear HFE
        rw [hch] at HT
        clear hch
        go_wp2_with fail
        refine HK9.out _ _ ?_
        go_wp2_with fail
        refine (alive_any _).mono ?_
        rintro e c9 ⟨rfl, hb⟩
        have HB9 := Lib.hid (HH.out.below.trans ((HW.out.trans (hb.mono HW.out.size)).mono HH.out.below.size))
        clear hb
        go_wp2_with fail
        go_ret
        exact ⟨rfl, HB9.out⟩
      · obtain ⟨o, ho, he⟩ := HT.out.chain hch
        have HO : Hid (o ∈ ordersL p ∧ OrdK p.cards.length F o) := ⟨ho, ordK_of (orders_iff.1 ho).1 he⟩
        have HF1 : Hid (few ≤ 1) := HFE.out hch
        have HFY : Hid (0 < p.cards.length → y = gi o 0) := fun h => by
          obtain ⟨m, hm, hml⟩ := HO.out.2.nat h
          have h1 := (HO.out.2.first hml).2 hm
          obtain ⟨m2, e, hm2, h2⟩ := HY2.out m (by have := HFL.out; omega) h1
          have h3 := (HO.out.2.first (m := m2) (by have := HFL.out; omega)).1 h2
          rw [e, h3]
        clear ho he HFE
        have HTV := Lib.hid HT.out.valid
        clear HT hch
        go_wp2_with fail
        refine HK9.out _ _ ?_
        refine wp_seq_hid ?_
        intro K21 HK21
        go_wp2_with fail
        refine HK21.out _ _ ?_
        clear HK21 K21
        exact tr23 (ch := true) H4.out HTV.out HFL.out HO.out.1 HO.out.2 HFY.out HF1.out
theorem fewest_yesT {p : Prs} {a : Option Addr} {cap : Nat} {w : World} (ha : IsPrts w a p.cards) (hv : p.valid = true) :
    Calls Try.prog 28 #[p.v a cap] w fun e w' => ∃ av n cv, e = .returned (.tuple #[.slice av n cv, .int .i64 (origN (fewestW p)), .int .i64 0]) ∧ Below w.heap.size w w' := by
  refine (fewest_yes (cap := cap) ha (by have := (valid_parts hv).1; omega) hv).mono ?_
  rintro e w' ⟨av, cv, rfl, _, hb⟩
  exact ⟨av, _, cv, rfl, hb⟩
set_option maxRecDepth 100000 in
set_option maxHeartbeats 2000000 in
theorem copyTrue_no {ch : Bool} {ub : Option Addr} {cb : Nat} {w : World} :
    Calls Try.prog 10 #[.bool ch, .slice ub 0 cb] w fun e w' => e = .returned (.bool true) ∧ Below w.heap.size w w' := by
  go_enter Try.func10, Try.ntmps10
  go_wp2_with fail
  refine (alive_any _).mono ?_
  rintro e c9 ⟨rfl, hb⟩
  have HB9 := Lib.hid hb
  clear hb
  go_wp2_with fail
  go_ret
  exact ⟨rfl, HB9.out⟩
set_option maxRecDepth 100000 in
set_option maxHeartbeats 4000000 in
theorem copyTrue_any {ch : Bool} {b off cap : Nat} {l : List Int} {w : World} (hw : IsWords w b off l) (h0 : 0 < l.length) (h1 : l.length ≤ 9223372036854775807) (h2 : ∀ x ∈ l, 0 ≤ x ∧ x ≤ 65535) :
    Calls Try.prog 10 #[.bool ch, .slice (some ⟨b, off, none⟩) l.length cap] w fun e w' => e = .returned (.bool true) ∧ Below w.heap.size w w' := by
  have HD := Lib.hid (draws_any (cap := cap) hw h0 h1 h2)
  have hl0 : ((l.length : Int) == 0) = false := by rw [beq_eq_false_iff_ne]; omega
  clear hw h2
  go_enter Try.func10, Try.ntmps10
  refine wp_seq_hid ?_
  intro K0 HK0
  go_wp2_with fail
  refine HK0.out _ _ ?_
  clear HK0 K0
  refine wp_seq_hid ?_
  intro K1 HK1
  go_wp2_with fail
  refine HK1.out _ _ ?_
  clear HK1 K1
  clear hl0
  refine wp_seq_hid ?_
  intro K3 HK3
  go_wp2_with fail
  refine HD.out.mono ?_
  rintro e w1 ⟨pa, pb, dr, rfl, hd, hb, hpa⟩
  have HD1 := Lib.hid hd
  have HB1 := Lib.hid (And.intro hb hpa)
  clear hd hb hpa
  go_wp2_with fail
  refine (made_any HD1.out).mono ?_
  rintro e w2 ⟨p, F, a, f, ca, cf, rfl, hT, hp, hf, hs⟩
  have hb2 : Below w.heap.size w w2 := HB1.out.1.trans (hs.below HB1.out.1.size (fun k hk e => by have := HB1.out.2; omega))
  have hb3 : Below w2.heap.size w2 (w2.alloc (.cells (p.cells a ca) 26)) := (Below.refl _ _).alloc (Nat.le_refl _) _
  have HTR : Hid (TrC p a f ca w2.heap.size F w (w2.alloc (.cells (p.cells a ca) 26))) := ⟨hb2.trans (hb3.mono hb2.size), World.alloc_heap_new _ _, hp.mono hb3, hf.mono hb3⟩
  have HT := Lib.hid hT
  have hn5 := (valid_parts hT.valid).1
  have hfl : F.length = p.cards.length := (ways_iff.1 hT.mem).1
  have hwe := waysE_of hT.valid
  have hwp : 0 < (waysL p).length := List.length_pos_of_mem hT.mem
  have hfw := fewest_le hT.mem
  have HFL := Lib.hid hfl
  have HWE := Lib.hid hwe
  have HFEW : Hid (ch = true → origN (fewestW p) ≤ 1) := fun h => by
    obtain ⟨o, ho, _⟩ := hT.chain h
    exact few_one (fun e => by rw [e] at ho; cases ho)
  have hf5 : F.length ≤ 5 := by omega
  clear hT hp hf hs hb2 hb3 hfl hwe
  go_wp2_with fail
  revert HTR
  generalize (w2.alloc (.cells (p.cells a ca) 26)) = w3
  generalize w2.heap.size = b5
  intro HTR
  refine HK3.out _ _ ?_
  clear HK3 K3
  refine wp_seq_hid ?_
  intro K4 HK4
  obtain ⟨k0, k1, k2, k3, k4⟩ := prs_cells HTR.out.h5
  have CW := waysC_any (cap := ca) HTR.out.hp (by omega)
  rw [HWE.out] at CW
  have HCW := Lib.hid CW
  clear CW
  obtain ⟨wn, hwn⟩ : ∃ z : Nat, (waysL p).length = z := ⟨_, rfl⟩
  rw [hwn] at HCW hwp
  clear hwn
  go_wp2_with fail
  refine HCW.out.mono ?_
  rintro e w4 ⟨rfl, hb⟩
  have HTR2 := Lib.hid (HTR.out.mono hb)
  clear hb k0 k1 k2 k3 k4
  go_wp2_with fail
  refine HK4.out _ _ ?_
  clear HK4 K4
  refine wp_seq_hid ?_
  intro K5 HK5
  obtain ⟨k0, k1, k2, k3, k4⟩ := prs_cells HTR2.out.h5
  go_wp2_with fail
  refine (fewest_yesT HTR2.out.hp HT.out.valid).mono ?_
  rintro e w5 ⟨av, n5, cv, rfl, hb⟩
  have HTR3 := Lib.hid (HTR2.out.mono hb)
  clear hb k0 k1 k2 k3 k4
  go_wp2_with fail
  refine HK5.out _ _ ?_
  clear HK5 K5
  revert hfw HFEW
  generalize origN (fewestW p) = few
  intro hfw HFEW
  have hwd : decide ((wn : Int) < 1) = false := by simp; omega
  have hg : decide (origN F < few) = false := by simp; omega
  have HOR := Lib.hid (originals_ref (cap := cf) HTR3.out.hf (by omega))
  revert hg hfw HOR
  generalize origN F = ofn
  intro hg hfw HOR
  refine wp_seq_hid ?_
  intro K6 HK6
  go_wp2_with fail
  refine HOR.out.mono ?_
  rintro e w6 ⟨rfl, hw6⟩
  subst hw6
  go_wp2_with fail
  refine HK6.out _ _ ?_
  clear HK6 K6
  exact tr8 HTR3.out HT.out HFEW.out
end Go.Proofs.Ytnfhlbmapfoifaa
namespace Go.Proofs.Ytnfhlbmapfoifaa
open Go.RowKit Go.WideShapes Go.ChangeShapes
section
variable {H : Type} {enc : TypeId × Value → H} {P : Program}
theorem post_of_below {f : Func} {s : ChangeSpec} {apart fresh handsOn again : Bool} {W W' : World} {args : Array Value} {v : Value} {ds gs : List (DataW H)} {before pa pv : List MemPlace}
    (hW : DataW.Whole enc P f.params.toList s.vars apart W args.toList ds gs before)
    (hres : ∀ (b : Nat) (sp : Nat → Bool) (hd : Bool), DataW.TrodAll enc P W' b sp hd f.resultTypes.toList (v.resultList f.resultTypes.size) (s.fn H (ds ++ gs)).results [])
    (hargs : ∀ sp : Nat → Bool, (∀ p ∈ before, sp p.block = true) → DataW.TrodAll enc P W' 0 sp true f.params.toList args.toList (s.fn H (ds ++ gs)).args pa)
    (hvars : ∀ sp : Nat → Bool, (∀ p ∈ before, sp p.block = true) → DataW.TrodVars enc P W' sp s.vars (s.fn H (ds ++ gs)).vars pv)
    (hps : before = pa ++ pv) (hb : Below W.heap.size W W')
    (hok : ∀ (j : Nat) (t : TypeId) (r : Value), f.resultTypes[j]? = some t → (v.resultList f.resultTypes.size)[j]? = some r → Value.okWide P W' .any 0 t r) :
    s.post enc P f apart fresh handsOn again W args v W' := by
  have hlt : ∀ p ∈ before, p.block < W.heap.size := fun p hp => hW.lt p hp
  have hold : ∀ p ∈ before, (fun b => decide (b < W.heap.size)) p.block = true := fun p hp => by simpa using hlt p hp
  refine ⟨ds, gs, before, [], pa, pv, hW, hres _ _ _, hargs _ hold, hvars _ hold, World.keptBut_mono (fun p hp => ⟨hp, ?_⟩) (hb.frame (· ∈ before)), fun _ => ?_⟩
  · rw [hps, List.mem_append] at hp
    exact Or.inr hp
  · obtain ⟨_, _, _, _, _, hz, hn⟩ := hW
    refine ⟨hok, _, _, ([] ++ pa) ++ pv, ⟨[] ++ pa, pv, trodAll_append (hargs _ (fun _ _ => rfl)) (hres _ _ _), hvars _ (fun _ _ => rfl), rfl, ?_, ?_⟩, ?_⟩
    · intro b off hp
      have hin : MemPlace.cell b off ∈ before := by rw [hps]; simpa using hp
      rw [hb.frozen (hlt _ hin)]
      exact hz b off hin
    · intro ha
      have := hn ha
      rw [hps] at this
      simpa using this
    · intro p hp _
      rw [hps]
      simpa using hp
end
end Go.Proofs.Ytnfhlbmapfoifaa
namespace Go.Proofs.Ytnfhlbmapfoifaa
open Go.ChangeShapes Go.WideShapes Go.Deep Go.RowKit Go.Joins
theorem Try.laidOut : laidOutB Try.prog = true := by kernel_rfl
theorem add_at (b o i : Nat) : (⟨b, o, none⟩ : Addr).add i = ⟨b, o + i, none⟩ := by
  unfold Addr.add
  split
  · rename_i h; subst h; rfl
  · rfl
theorem spotless {w : World} {a : Addr} {v : Value} (h : w.cell? a = some v) : a = ⟨a.block, a.off, none⟩ := by
  obtain ⟨b, o, s⟩ := a
  cases s with
  | none => rfl
  | some s =>
    exfalso
    simp only [World.cell?] at h
    split at h <;> simp at h
theorem add_zero' (a : Addr) : a.add 0 = a := rfl
section
variable {H : Type} {enc : TypeId × Value → H} {w : World} {base : Nat} {spare : Nat → Bool} {held : Bool}
end
end Go.Proofs.Ytnfhlbmapfoifaa
