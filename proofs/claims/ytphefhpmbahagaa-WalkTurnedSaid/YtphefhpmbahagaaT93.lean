/- WalkTurned: the walk of the loops that put the spans of a tour at the views' numbers. -/
import Derived.Test.YtphefhpmbahagaaT87
import Derived.Test.YtphefhpmbahagaaT88
import Derived.Test.YtphefhpmbahagaaT92
namespace Go.Proofs.Ytphefhpmbahagaa
open Go.RowKit
set_option linter.unusedVariables false
set_option linter.unusedSimpArgs false

noncomputable def tur6C : Code := match Try.f11.body.bind (fromRegion 6) with
  | some (.seq a _) => a
  | _ => .skip
set_option maxRecDepth 100000 in
set_option maxHeartbeats 4000000 in
theorem tur_rows {p V : World} {t : Tr} {A : TrA} {bx b5 bn c g1 g2 g3 g4 g9 : Nat} (F : Hid t.Fit) (hc : c ≤ 255) (G : PutG p V g1 g2 g3 g4 g9)
    (KQ : Hid (∀ v,Below p.heap.size p v → v.heap[bx]? = some (.cells (t.cells A) 25 (0,0)) ∧ IsTr v t A ∧ v.cell? ⟨b5,0,none⟩ = some (.int .u8 (c : Int)) ∧ v.cell? ⟨bn,0,none⟩ = some (.int .i64 (t.frm.length : Int))))
    (H9 : Hid (V.heap[g9]? = some (.cells #[.int .i64 t.dawn,.slice (some ⟨g1,0,none⟩) t.frm.length t.frm.length,.slice (some ⟨g2,0,none⟩) t.frm.length t.frm.length,.slice (some ⟨g3,0,none⟩) t.frm.length t.frm.length,.slice (some ⟨g4,0,none⟩) t.frm.length t.frm.length] 25 (0,0))))
    (H0 : Hid (Put p V g1 g2 g3 g4 g9 t.frm.length c t 0 0 0 0 V)) {Q : Exit → Act → World → Prop} {s0 s1 s2 s4 s5 s6 s10 s11 s12 s13 s14 s15 s16 s17 s18 s19 s20 s21 s22 s23 s24 s25 s26 s27 s28 s29 s30 s31 s32 s33 s34 s35 s36 s37 s38 s39 s40 s41 s42 s43 s44 s45 s46 s47 s48 s49 s50 s51 s52 s53 s54 s55 s56 s57 s58 s59 s60 s61 s62 s63 s64 s65 s66 s67 s68 s69 s70 s71 s72 s73 s74 s75 s76 s77 s78 s79 s80 s81 s82 s83 s84 s85 s86 s87 s88 s89 s90 s91 s92 s93 s94 s95 s96 s97 s98 s99 s100 s101 s102 s103 s104 s105 s106 s107 s108 s109 s110 s111 s112 s113 s114 s115 s116 s117 s118 s119 s120 s121 s122 s123 s124 s125 s126 s127 s128 s129 s130 s131 s132 s133 s134 s135 s136 s137 s138 s139 s140 s141 s142 s143 s144 s145 s146 s147 s148 s149 s150 s151 s152 s153 s154 s155 s156 s157 s158 s159 s160 s161 s162 s163 s164 s165 s166 s167 s168 s169 s170 s171 s172 s173 s174 s175 s176 s177 s178 s179 s180 s181 s182 s183 s184 s185 s186 s187 s188 s189 s190 s191 s192 s193 s194 s195 s196 s197 s198 s199 s200 s201 s202 s203 s204 s205 s206 s207 s208 s209 s210 s211 s212 s213 s214 s215 s216 s217 s218 s219 s220 s221 s222 s223 s224 s225 s226 s227 s228 s229 s230 s231 s232 s233 s234 s235 s236 s237 s238 s239 s240 s241 s242 s243 s244 s245 s246 s247 s248 s249 s250 s251 s252 s253 s254 s255 s256 s257 s258 s259 s260 s261 s262 s263 s264 s265 s266 s267 s268 s269 s270 s271 s272 s273 s274 s275 s276 s277 s278 s279 s280 s281 s282 s283 s284 s285 s286 s287 s288 s289 s290 s291 s292 s293 s294 s295 s296 s297 s298 s299 s300 s301 s302 s303 s304 s305 s306 s307 s308 s309 s310 s311 s312 s313 s314 s315 s316 s317 s318 s319 s320 s321 s322 s323 s324 s325 s326 s327 s328 s329 s330 s331 s332 s333 s334 s335 s336 s337 s338 s339 s340 s341 s342 s343 s344 s345 s346 s347 s348 s349 s350 s351 s352 s353 s354 s355 s356 s357 s358 s359 s360 s361 s362 s363 s364 s365 s366 s367 s368 s369 s370 s371 s372 s373 s374 s375 s376 s377 s378 s379 s380 s381 s382 s383 s384 s385 s386 s387 s388 s389 s390 s391 s392 s393 s394 s395 s396 s397 s398 s399 s400 s401 s402 s403 s404 s405 s406 s407 : Value} {dd : List Deferred}
    (hQ : ∀ (x10 x11 x85 x86 x87 x88 x89 x90 x91 x92 x93 x94 x95 x96 x97 x98 x99 x100 x101 x102 x103 x104 x105 x106 x107 x108 x109 x110 x111 x112 x113 x114 x115 x116 x117 x118 x119 x120 x121 x122 x123 x124 x125 x126 x127 x128 x129 x130 x131 x132 x133 x134 x135 x136 x137 x138 x139 x140 x141 x142 x143 x144 x145 x146 x147 x148 x149 x150 x151 x152 x153 x154 : Value) (w' : World),Put p V g1 g2 g3 g4 g9 t.frm.length c t t.frm.length t.frm.length t.frm.length t.frm.length w' → Q .normal { tmps := #[s0,s1,s2,.pointer (some ⟨bx,0,none⟩),s4,s5,s6,.pointer (some ⟨bn,0,none⟩),.func (.func 43) #[] #[.pointer (some ⟨b5,0,none⟩),.pointer (some ⟨bn,0,none⟩)],.pointer (some ⟨g9,0,none⟩),x10,x11,s12,s13,s14,s15,s16,s17,s18,s19,s20,s21,s22,s23,s24,s25,s26,s27,s28,s29,s30,s31,s32,s33,s34,s35,s36,s37,s38,s39,s40,s41,s42,s43,s44,s45,s46,s47,s48,s49,s50,s51,s52,s53,s54,s55,s56,s57,s58,s59,s60,s61,s62,s63,s64,s65,s66,s67,s68,s69,s70,s71,s72,s73,s74,s75,s76,s77,s78,s79,s80,s81,s82,s83,s84,x85,x86,x87,x88,x89,x90,x91,x92,x93,x94,x95,x96,x97,x98,x99,x100,x101,x102,x103,x104,x105,x106,x107,x108,x109,x110,x111,x112,x113,x114,x115,x116,x117,x118,x119,x120,x121,x122,x123,x124,x125,x126,x127,x128,x129,x130,x131,x132,x133,x134,x135,x136,x137,x138,x139,x140,x141,x142,x143,x144,x145,x146,x147,x148,x149,x150,x151,x152,x153,x154,s155,s156,s157,s158,s159,s160,s161,s162,s163,s164,s165,s166,s167,s168,s169,s170,s171,s172,s173,s174,s175,s176,s177,s178,s179,s180,s181,s182,s183,s184,s185,s186,s187,s188,s189,s190,s191,s192,s193,s194,s195,s196,s197,s198,s199,s200,s201,s202,s203,s204,s205,s206,s207,s208,s209,s210,s211,s212,s213,s214,s215,s216,s217,s218,s219,s220,s221,s222,s223,s224,s225,s226,s227,s228,s229,s230,s231,s232,s233,s234,s235,s236,s237,s238,s239,s240,s241,s242,s243,s244,s245,s246,s247,s248,s249,s250,s251,s252,s253,s254,s255,s256,s257,s258,s259,s260,s261,s262,s263,s264,s265,s266,s267,s268,s269,s270,s271,s272,s273,s274,s275,s276,s277,s278,s279,s280,s281,s282,s283,s284,s285,s286,s287,s288,s289,s290,s291,s292,s293,s294,s295,s296,s297,s298,s299,s300,s301,s302,s303,s304,s305,s306,s307,s308,s309,s310,s311,s312,s313,s314,s315,s316,s317,s318,s319,s320,s321,s322,s323,s324,s325,s326,s327,s328,s329,s330,s331,s332,s333,s334,s335,s336,s337,s338,s339,s340,s341,s342,s343,s344,s345,s346,s347,s348,s349,s350,s351,s352,s353,s354,s355,s356,s357,s358,s359,s360,s361,s362,s363,s364,s365,s366,s367,s368,s369,s370,s371,s372,s373,s374,s375,s376,s377,s378,s379,s380,s381,s382,s383,s384,s385,s386,s387,s388,s389,s390,s391,s392,s393,s394,s395,s396,s397,s398,s399,s400,s401,s402,s403,s404,s405,s406,s407],defers := dd } w') :
    Code.wp Try.prog tur6C Q { tmps := #[s0,s1,s2,.pointer (some ⟨bx,0,none⟩),s4,s5,s6,.pointer (some ⟨bn,0,none⟩),.func (.func 43) #[] #[.pointer (some ⟨b5,0,none⟩),.pointer (some ⟨bn,0,none⟩)],.pointer (some ⟨g9,0,none⟩),s10,s11,s12,s13,s14,s15,s16,s17,s18,s19,s20,s21,s22,s23,s24,s25,s26,s27,s28,s29,s30,s31,s32,s33,s34,s35,s36,s37,s38,s39,s40,s41,s42,s43,s44,s45,s46,s47,s48,s49,s50,s51,s52,s53,s54,s55,s56,s57,s58,s59,s60,s61,s62,s63,s64,s65,s66,s67,s68,s69,s70,s71,s72,s73,s74,s75,s76,s77,s78,s79,s80,s81,s82,s83,s84,s85,s86,s87,s88,s89,s90,s91,s92,s93,s94,s95,s96,s97,s98,s99,s100,s101,s102,s103,s104,s105,s106,s107,s108,s109,s110,s111,s112,s113,s114,s115,s116,s117,s118,s119,s120,s121,s122,s123,s124,s125,s126,s127,s128,s129,s130,s131,s132,s133,s134,s135,s136,s137,s138,s139,s140,s141,s142,s143,s144,s145,s146,s147,s148,s149,s150,s151,s152,s153,s154,s155,s156,s157,s158,s159,s160,s161,s162,s163,s164,s165,s166,s167,s168,s169,s170,s171,s172,s173,s174,s175,s176,s177,s178,s179,s180,s181,s182,s183,s184,s185,s186,s187,s188,s189,s190,s191,s192,s193,s194,s195,s196,s197,s198,s199,s200,s201,s202,s203,s204,s205,s206,s207,s208,s209,s210,s211,s212,s213,s214,s215,s216,s217,s218,s219,s220,s221,s222,s223,s224,s225,s226,s227,s228,s229,s230,s231,s232,s233,s234,s235,s236,s237,s238,s239,s240,s241,s242,s243,s244,s245,s246,s247,s248,s249,s250,s251,s252,s253,s254,s255,s256,s257,s258,s259,s260,s261,s262,s263,s264,s265,s266,s267,s268,s269,s270,s271,s272,s273,s274,s275,s276,s277,s278,s279,s280,s281,s282,s283,s284,s285,s286,s287,s288,s289,s290,s291,s292,s293,s294,s295,s296,s297,s298,s299,s300,s301,s302,s303,s304,s305,s306,s307,s308,s309,s310,s311,s312,s313,s314,s315,s316,s317,s318,s319,s320,s321,s322,s323,s324,s325,s326,s327,s328,s329,s330,s331,s332,s333,s334,s335,s336,s337,s338,s339,s340,s341,s342,s343,s344,s345,s346,s347,s348,s349,s350,s351,s352,s353,s354,s355,s356,s357,s358,s359,s360,s361,s362,s363,s364,s365,s366,s367,s368,s369,s370,s371,s372,s373,s374,s375,s376,s377,s378,s379,s380,s381,s382,s383,s384,s385,s386,s387,s388,s389,s390,s391,s392,s393,s394,s395,s396,s397,s398,s399,s400,s401,s402,s403,s404,s405,s406,s407],defers := dd } V := by
  have HQ := Lib.hid hQ
  have HG := Lib.hid G
  have HC := Lib.hid hc
  have hn6 : Hid (t.frm.length ≤ 6) := F.out.n
  clear hQ G hc
  conv => arg 2; whnf
  have hn3 := (KQ.out V H0.out.below).2.2.2
  go_wp2_with fail
  clear hn3
  go_loopw [86] (fun i wr => ∃ (k : Nat),k ≤ t.frm.length ∧ i = .int .i64 k ∧ Hid (Put p V g1 g2 g3 g4 g9 t.frm.length c t k k k k wr)) (fun i _ => t.frm.length - (intOf i).toNat)
  case atStart => exact ⟨0,by omega,rfl,H0.out⟩
  case round =>
    obtain ⟨k,hk,rfl,HP⟩ := hrel
    have hn7 : t.frm.length ≤ 6 := hn6.out
    by_cases hlt : k < t.frm.length
    · refine wp_seq_hid ?_
      intro KL7 HKL7
      go_wp2_with fail
      refine HKL7.out _ _ ?_
      clear HKL7 KL7
      refine wp_seq_hid ?_
      intro KLc HKLc
      go_wp2_with fail
      refine HKLc.out _ _ ?_
      clear HKLc KLc
      refine wp_seq_hid ?_
      intro KLB HKLB
      refine wp_block ?_
      refine wp_seq_hid ?_
      intro K8 HK8
      go_wp2_with fail
      refine HK8.out _ _ ?_
      clear HK8 K8
      refine wp_seq_hid ?_
      intro K9 HK9
      go_upto_region 9 with fail
      have hmn : sgm t.frm.length c k < t.frm.length := sgm_lt hlt
      obtain ⟨fb,fo,fe,_,_⟩ := (KQ.out wr HP.out.below).2.1.frm k hlt
      obtain ⟨sb,so,se,_,_⟩ := (KQ.out wr HP.out.below).2.1.stay k (by rw [F.out.stay]; exact hlt)
      obtain ⟨lb,lo,le,_,_⟩ := (KQ.out wr HP.out.below).2.1.light k (by rw [F.out.light]; exact hlt)
      have hks : k < t.stay.length := by rw [F.out.stay]; exact hlt
      have hkl : k < t.light.length := by rw [F.out.light]; exact hlt
      refine wpIn_wide.1 (tur9 (bx := bx) (b9 := g9) (b5 := b5) (bn := bn) (k := k) (n := t.frm.length) (m := sgm t.frm.length c k) (g1 := g1) (g3 := g3) (g4 := g4) (fb := fb) (fo := fo) (fc := A.cf) (sb := sb) (so := so) (sc := A.cs) (lb := lb) (lo := lo) (lc := A.cl) (s1_ := gs t.frm k) (s2_ := gs t.stay k) (s3_ := gs t.light k)
        (R := fun a b d v => Put p V g1 g2 g3 g4 g9 t.frm.length c t (k + a.toNat) (k + b.toNat) (k + d.toNat) k v) hlt hmn ?h0 ?l1 ?l6 ?l11 ?l16 ?l19 ?l21 ?l24 ?l26 ?l29 ?kc ?s1 ?s3 ?s4 ?hQ)
      case h0 => exact HP.out.mono HG.out (Below.refl _ wr).drew
      case l1 => exact Lib.hid fun a b d w h => by rw [cell_of_heap (h.at9.trans H9.out)]; rfl
      case l6 => exact Lib.hid fun a b d w h => by rw [cell_of_heap (h.at9.trans H9.out)]; rfl
      case l11 => exact Lib.hid fun a b d w h => by rw [cell_of_heap (h.at9.trans H9.out)]; rfl
      case l16 =>
        exact Lib.hid fun a b d w h => by
          obtain ⟨k0,k1,k2,k3,k4⟩ := tr_cells (KQ.out w h.below).1
          rw [fe] at k1
          exact k1
      case l21 =>
        exact Lib.hid fun a b d w h => by
          obtain ⟨k0,k1,k2,k3,k4⟩ := tr_cells (KQ.out w h.below).1
          rw [se,F.out.stay] at k3
          exact k3
      case l26 =>
        exact Lib.hid fun a b d w h => by
          obtain ⟨k0,k1,k2,k3,k4⟩ := tr_cells (KQ.out w h.below).1
          rw [le,F.out.light] at k4
          exact k4
      case l19 =>
        exact Lib.hid fun a b d w h => by
          obtain ⟨_,_,e,d0,d1⟩ := (KQ.out w h.below).2.1.frm k hlt
          rw [fe] at e; cases e; exact ⟨d0,d1⟩
      case l24 =>
        exact Lib.hid fun a b d w h => by
          obtain ⟨_,_,e,d0,d1⟩ := (KQ.out w h.below).2.1.stay k hks
          rw [se] at e; cases e; exact ⟨d0,d1⟩
      case l29 =>
        exact Lib.hid fun a b d w h => by
          obtain ⟨_,_,e,d0,d1⟩ := (KQ.out w h.below).2.1.light k hkl
          rw [le] at e; cases e; exact ⟨d0,d1⟩
      case kc => exact Lib.hid fun a b d w h => number43 (KQ.out w h.below).2.2.1 (KQ.out w h.below).2.2.2 HC.out (by omega) (Nat.le_trans hn6.out (by decide)) (by have := hn6.out; omega)
      case s1 => exact Lib.hid fun b d w h => Put.set1 (a := k) h HG.out hlt
      case s3 => exact Lib.hid fun a d w h => Put.set3 (b := k) h HG.out hlt
      case s4 => exact Lib.hid fun a b w h => Put.set4 (d := k) h HG.out hlt
      intro w2 hR
      have HP2 : Hid (Put p V g1 g2 g3 g4 g9 t.frm.length c t (k + 1) (k + 1) (k + 1) k w2) := hR
      clear hR fe se le
      refine HK9.out _ _ ?_
      clear HK9 K9
      refine wp_seq_hid ?_
      intro K10 HK10
      go_upto_region 10 with fail
      refine wpIn_wide.1 (tur10 (b9 := g9) (b5 := b5) (bn := bn) (k := k) (n := t.frm.length) (m := sgm t.frm.length c k) (g2 := g2)
        (S0 := fun fs ms w => Below w2.heap.size w2 w ∧ (fs = true → w2.heap.size ≤ ms ∧ PutRow ms t.frm.length c 0 (gw t.ways k) w))
        (S1 := fun fs ms _ w => Below w2.heap.size w2 w ∧ (fs = true → w2.heap.size ≤ ms ∧ PutRow ms t.frm.length c 0 (gw t.ways k) w))
        (S2 := fun _ ms _ w => PutI p V g1 g2 g3 g4 g9 t.frm.length c t (k + 1) k 0 ms w) (Nat.le_trans hn6.out (by decide)) hmn ?h0b ?l1b ?c4b ?l5b ?s0b ?s1b ?c8b ?hQb)
      case h0b => exact ⟨(Below.refl _ w2).drew,fun h => by cases h⟩
      case l1b =>
        exact Lib.hid fun fs ms u1 w h => by
          have hb : Below w2.heap.size w2 w := h.elim (fun h => h.1) (fun h => h.1)
          rw [cell_of_heap ((HP2.out.mono HG.out hb).at9.trans H9.out)]; rfl
      case c4b =>
        exact Lib.hid fun fs ms w h => by
          have hb := (HP2.out.mono HG.out h.1).below
          refine (number43 (KQ.out w hb).2.2.1 (KQ.out w hb).2.2.2 HC.out (by omega) (Nat.le_trans hn6.out (by decide)) (by have := hn6.out; omega)).mono ?_
          rintro e w' ⟨he,hw⟩
          subst hw
          exact ⟨(),he,h⟩
      case l5b =>
        exact Lib.hid fun fs ms u1 w h => by
          have hb : Below w2.heap.size w2 w := h.elim (fun h => h.1) (fun h => h.1)
          exact (KQ.out w (HP2.out.mono HG.out hb).below).2.2.2
      case s0b => exact Lib.hid fun w h => ⟨h.1.alloc h.1.size _,fun _ => ⟨h.1.size,PutRow.made (World.alloc_heap_new w _)⟩⟩
      case s1b => exact Lib.hid fun u1 w h => ⟨h.1.alloc h.1.size _,fun _ => ⟨h.1.size,PutRow.made (World.alloc_heap_new w _)⟩⟩
      case c8b => exact Lib.hid fun ms u1 w h => HP2.out.row HG.out hlt h.1 (h.2 rfl).1 (h.2 rfl).2
      intro h1 u1 w3 hS
      have HPI : Hid (PutI p V g1 g2 g3 g4 g9 t.frm.length c t (k + 1) k 0 h1 w3) := hS
      clear hS
      refine HK10.out _ _ ?_
      clear HK10 K10
      have hn3 := (KQ.out w3 HPI.out.below).2.2.2
      go_wp2_with fail
      clear hn3
      go_loopw [131] (fun i wr => ∃ (j : Nat),j ≤ t.frm.length ∧ i = .int .i64 j ∧ Hid (PutI p V g1 g2 g3 g4 g9 t.frm.length c t (k + 1) k j h1 wr)) (fun i _ => t.frm.length - (intOf i).toNat)
      case atStart => exact ⟨0,by omega,rfl,HPI.out⟩
      case round =>
        obtain ⟨j,hj,rfl,HJ⟩ := hrel
        by_cases hlj : j < t.frm.length
        · refine wp_seq_hid ?_
          intro KL12 HKL12
          go_wp2_with fail
          refine HKL12.out _ _ ?_
          clear HKL12 KL12
          refine wp_seq_hid ?_
          intro KLd HKLd
          go_wp2_with fail
          refine HKLd.out _ _ ?_
          clear HKLd KLd
          refine wp_seq_hid ?_
          intro KLE HKLE
          refine wp_block ?_
          refine wp_seq_hid ?_
          intro K13 HK13
          go_wp2_with fail
          refine HK13.out _ _ ?_
          clear HK13 K13
          go_upto_region 14 with fail
          have hkw : k < t.ways.length := by rw [F.out.ways]; exact hlt
          have hjr : j < (gw t.ways k).length := by rw [F.out.rows k hlt]; exact hlj
          obtain ⟨wb,wo,we,rai,rc,r0,r1⟩ := (KQ.out _ HJ.out.below).2.1.ways k hkw
          obtain ⟨rb,ro,re,p0,p1⟩ := r1 j hjr
          subst re
          have k2 := (tr_cells (KQ.out _ HJ.out.below).1).2.2.1
          rw [we,F.out.ways] at k2
          refine wpIn_wide.1 (tur14 (bx := bx) (b9 := g9) (b5 := b5) (bn := bn) (k := k) (j := j) (n := t.frm.length) (m := sgm t.frm.length c k) (q := sgm t.frm.length c j) (g2 := g2) (h1 := h1) (wb := wb) (wo := wo) (wc := A.cw) (rb := rb) (ro := ro) (rn := (gw t.ways k).length) (rc := rc) (sp := gs (gw t.ways k) j)
            (S0 := fun w => Below wr.heap.size wr w) (S1 := fun _ w => Below wr.heap.size wr w) (S2 := fun _ _ w => Below wr.heap.size wr w) (S3 := fun _ _ w => PutI p V g1 g2 g3 g4 g9 t.frm.length c t (k + 1) k (j + 1) h1 w) hlt hmn hjr (sgm_lt hlj) ?h0c ?l1c ?c4c ?l6c ?c9c ?l11c ?l14c ?l17c ?c19c ?hQc)
          case h0c => exact (Below.refl _ _).drew
          case l1c =>
            exact Lib.hid fun u1 u2 w h => by
              have h : Below wr.heap.size wr w := h.elim id (fun h => h.elim id id)
              rw [cell_of_heap ((HJ.out.mono HG.out h).at9.trans H9.out)]; rfl
          case c4c =>
            exact Lib.hid fun w h => by
              have hb := (HJ.out.mono HG.out h).below
              refine (number43 (KQ.out w hb).2.2.1 (KQ.out w hb).2.2.2 HC.out (by omega) (Nat.le_trans hn6.out (by decide)) (by have := hn6.out; omega)).mono ?_
              rintro e w' ⟨he,hw⟩
              subst hw
              exact ⟨(),he,h⟩
          case l6c => exact Lib.hid fun u1 u2 w h => (HJ.out.mono HG.out (show Below wr.heap.size wr w from h.elim id id)).h1
          case c9c =>
            exact Lib.hid fun u1 w h => by
              have hb := (HJ.out.mono HG.out h).below
              refine (number43 (KQ.out w hb).2.2.1 (KQ.out w hb).2.2.2 HC.out (by omega) (Nat.le_trans hn6.out (by decide)) (by have := hn6.out; omega)).mono ?_
              rintro e w' ⟨he,hw⟩
              subst hw
              exact ⟨(),he,h⟩
          case l11c => exact Lib.hid fun u1 u2 w h => cell_stays (show Below wr.heap.size wr w from h.elim id (fun h => h.elim id id)) k2
          case l14c => exact Lib.hid fun u1 u2 w h => cell_stays (show Below wr.heap.size wr w from h.elim id (fun h => h.elim id id)) r0
          case l17c =>
            exact Lib.hid fun u1 u2 w h =>
              have h : Below wr.heap.size wr w := h.elim id (fun h => h.elim id id)
              ⟨cell_stays h p0,cell_stays h p1⟩
          case c19c => exact Lib.hid fun u1 u2 w h => (HJ.out.mono HG.out h).put HG.out hlj
          intro u1 u2 w4 hS
          have HJ2 : Hid (PutI p V g1 g2 g3 g4 g9 t.frm.length c t (k + 1) k (j + 1) h1 w4) := hS
          clear hS we r0 r1 p0 p1 k2
          go_wp2_with fail
          refine HKLE.out _ _ ?_
          go_wp2_with fail
          go_roundw
          case rel => exact ⟨j + 1,by omega,by go_num,HJ2.out⟩
          case measure => simp [intOf]; omega
        · have hje : j = t.frm.length := by omega
          subst hje
          go_wp2_with fail
          refine HKLB.out _ _ ?_
          go_wp2_with fail
          go_roundw
          case rel => exact ⟨k + 1,by omega,by go_num,HJ.out.full⟩
          case measure => simp [intOf]; omega
    · have hke : k = t.frm.length := by omega
      subst hke
      go_wp2_with fail
      exact HQ.out _ _ _ _ _ _ _ _ _ _ _ _ _ _ _ _ _ _ _ _ _ _ _ _ _ _ _ _ _ _ _ _ _ _ _ _ _ _ _ _ _ _ _ _ _ _ _ _ _ _ _ _ _ _ _ _ _ _ _ _ _ _ _ _ _ _ _ _ _ _ _ _ _ HP.out
end Go.Proofs.Ytphefhpmbahagaa
