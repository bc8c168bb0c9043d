/- WalkTurned: what is told of the order and of the other order, of the tour and of the new tour. -/
import Derived.Test.YtphefhpmbahagaaT94
namespace Go.Proofs.Ytphefhpmbahagaa
open Go.RowKit
set_option linter.unusedVariables false
set_option linter.unusedSimpArgs false

noncomputable def tur24C : Code := (Try.f11.body.bind (fromRegion 24)).getD .skip
set_option maxRecDepth 100000 in
set_option maxHeartbeats 4000000 in
theorem tur24 {t x : Tr} {A XA : TrA} {o oo : List Int} {oa ta ka fa : Option Addr} {oc tc kc fc bx b9 b5 bn c : Nat} {w0 w : World} (H : TuW t x A XA o oo oa ta ka fa bx b9 b5 bn c w0 w) (hv : t.valid = true) (hxv : x.valid = true) (hT : Turn t.frm.length (sgm t.frm.length c) (tau t.frm.length c) t x) (hor : t.order o = true) (hoo : oo = o.map (tmap (sgm t.frm.length c))) (hol : o.length ≤ 16) (hc : c ≤ 255)
    {s0 s2 s4 s5 s6 s7 s10 s11 s13 s14 s17 s18 s19 s20 s21 s22 s23 s24 s25 s26 s27 s28 s29 s30 s31 s32 s33 s34 s35 s36 s37 s38 s39 s40 s41 s42 s43 s44 s45 s46 s47 s48 s49 s50 s51 s52 s53 s54 s55 s56 s57 s58 s59 s60 s61 s62 s63 s64 s65 s66 s67 s68 s69 s70 s71 s72 s73 s74 s75 s76 s77 s78 s79 s80 s81 s82 s83 s84 s85 s86 s87 s88 s89 s90 s91 s92 s93 s94 s95 s96 s97 s98 s99 s100 s101 s102 s103 s104 s105 s106 s107 s108 s109 s110 s111 s112 s113 s114 s115 s116 s117 s118 s119 s120 s121 s122 s123 s124 s125 s126 s127 s128 s129 s130 s131 s132 s133 s134 s135 s136 s137 s138 s139 s140 s141 s142 s143 s144 s145 s146 s147 s148 s149 s150 s151 s152 s153 s154 s155 s156 s157 s158 s159 s160 s161 s162 s163 s164 s165 s166 s167 s168 s169 s170 s171 s172 s173 s174 s175 s176 s177 s178 s179 s180 s181 s182 s183 s184 s185 s186 s187 s188 s189 s190 s191 s192 s193 s194 s195 s196 s197 s198 s199 s200 s201 s202 s203 s204 s205 s206 s207 s208 s209 s210 s211 s212 s213 s214 s215 s216 s217 s218 s219 s220 s221 s222 s223 s224 s225 s226 s227 s228 s229 s230 s231 s232 s233 s234 s235 s236 s237 s238 s239 s240 s241 s242 s243 s244 s245 s246 s247 s248 s249 s250 s251 s252 s253 s254 s255 s256 s257 s258 s259 s260 s261 s262 s263 s264 s265 s266 s267 s268 s269 s270 s271 s272 s273 s274 s275 s276 s277 s278 s279 s280 s281 s282 s283 s284 s285 s286 s287 s288 s289 s290 s291 s292 s293 s294 s295 s296 s297 s298 s299 s300 s301 s302 s303 s304 s305 s306 s307 s308 s309 s310 s311 s312 s313 s314 s315 s316 s317 s318 s319 s320 s321 s322 s323 s324 s325 s326 s327 s328 s329 s330 s331 s332 s333 s334 s335 s336 s337 s338 s339 s340 s341 s342 s343 s344 s345 s346 s347 s348 s349 s350 s351 s352 s353 s354 s355 s356 s357 s358 s359 s360 s361 s362 s363 s364 s365 s366 s367 s368 s369 s370 s371 s372 s373 s374 s375 s376 s377 s378 s379 s380 s381 s382 s383 s384 s385 s386 s387 s388 s389 s390 s391 s392 s393 s394 s395 s396 s397 s398 s399 s400 s401 s402 s403 s404 s405 s406 s407 : Value} :
    Code.wp Try.prog tur24C (bodyPost Try.prog Try.f11 fun e w' => e = .returned (.bool true) ∧ Below w0.heap.size w0 w') { tmps := #[s0,.slice oa o.length oc,s2,.pointer (some ⟨bx,0,none⟩),s4,s5,s6,s7,.func (.func 43) #[] #[.pointer (some ⟨b5,0,none⟩),.pointer (some ⟨bn,0,none⟩)],.pointer (some ⟨b9,0,none⟩),s10,s11,.slice ta o.length tc,s13,s14,.slice fa t.frm.length fc,.slice ka o.length kc,s17,s18,s19,s20,s21,s22,s23,s24,s25,s26,s27,s28,s29,s30,s31,s32,s33,s34,s35,s36,s37,s38,s39,s40,s41,s42,s43,s44,s45,s46,s47,s48,s49,s50,s51,s52,s53,s54,s55,s56,s57,s58,s59,s60,s61,s62,s63,s64,s65,s66,s67,s68,s69,s70,s71,s72,s73,s74,s75,s76,s77,s78,s79,s80,s81,s82,s83,s84,s85,s86,s87,s88,s89,s90,s91,s92,s93,s94,s95,s96,s97,s98,s99,s100,s101,s102,s103,s104,s105,s106,s107,s108,s109,s110,s111,s112,s113,s114,s115,s116,s117,s118,s119,s120,s121,s122,s123,s124,s125,s126,s127,s128,s129,s130,s131,s132,s133,s134,s135,s136,s137,s138,s139,s140,s141,s142,s143,s144,s145,s146,s147,s148,s149,s150,s151,s152,s153,s154,s155,s156,s157,s158,s159,s160,s161,s162,s163,s164,s165,s166,s167,s168,s169,s170,s171,s172,s173,s174,s175,s176,s177,s178,s179,s180,s181,s182,s183,s184,s185,s186,s187,s188,s189,s190,s191,s192,s193,s194,s195,s196,s197,s198,s199,s200,s201,s202,s203,s204,s205,s206,s207,s208,s209,s210,s211,s212,s213,s214,s215,s216,s217,s218,s219,s220,s221,s222,s223,s224,s225,s226,s227,s228,s229,s230,s231,s232,s233,s234,s235,s236,s237,s238,s239,s240,s241,s242,s243,s244,s245,s246,s247,s248,s249,s250,s251,s252,s253,s254,s255,s256,s257,s258,s259,s260,s261,s262,s263,s264,s265,s266,s267,s268,s269,s270,s271,s272,s273,s274,s275,s276,s277,s278,s279,s280,s281,s282,s283,s284,s285,s286,s287,s288,s289,s290,s291,s292,s293,s294,s295,s296,s297,s298,s299,s300,s301,s302,s303,s304,s305,s306,s307,s308,s309,s310,s311,s312,s313,s314,s315,s316,s317,s318,s319,s320,s321,s322,s323,s324,s325,s326,s327,s328,s329,s330,s331,s332,s333,s334,s335,s336,s337,s338,s339,s340,s341,s342,s343,s344,s345,s346,s347,s348,s349,s350,s351,s352,s353,s354,s355,s356,s357,s358,s359,s360,s361,s362,s363,s364,s365,s366,s367,s368,s369,s370,s371,s372,s373,s374,s375,s376,s377,s378,s379,s380,s381,s382,s383,s384,s385,s386,s387,s388,s389,s390,s391,s392,s393,s394,s395,s396,s397,s398,s399,s400,s401,s402,s403,s404,s405,s406,s407],defers := [] } w := by
  have FT := fit_of_valid hv
  have FX := fit_of_valid hxv
  have hool : oo.length = o.length := by rw [hoo,List.length_map]
  obtain ⟨z1,z2⟩ := turn_late hT hv hxv hor
  have y1 := turn_walked hT hv hxv hor
  have y2 := turn_times hT hv hxv hor
  have y3 := turn_later hT hv hxv hor
  have y4 := turn_tours hT hv hxv
  rw [← hoo] at z1 z2 y1 y2 y3
  clear hoo
  rcases hW : walkedE t o with ⟨wq,we⟩
  rcases hTm : timesE t o with ⟨l,⟨lo,hi⟩,te⟩
  rcases hL : lateE t o with ⟨lc,lq,le⟩
  rcases hLx : lateE x oo with ⟨ld,lq2,le2⟩
  rcases hLr : laterE t o with ⟨ra,rb⟩
  rcases hTs : toursE t with ⟨ta_,tb_,tf_⟩
  rw [hL,hLx] at z1 z2
  obtain ⟨rfl,rfl⟩ : lq2 = lq ∧ le2 = le := by
    have z1 : (lq2,le2) = (lq,le) := z1
    exact ⟨(Prod.mk.inj z1).1,(Prod.mk.inj z1).2⟩
  rw [hW] at y1
  rw [hTm] at y2
  rw [hLr] at y3
  rw [hTs] at y4
  have HLT : Hid (le2 = 0 → ld = tmap (sgm t.frm.length c) lc ∧ t.view lc = true) := z2
  have C14 : Hid (∀ v,TuW t x A XA o oo oa ta ka fa bx b9 b5 bn c w0 v → Calls Try.prog 14 #[t.v A,.slice oa o.length oc] v fun e w' => e = .returned (.tuple #[.int .i64 wq,.int .i64 we]) ∧ Below v.heap.size v w') := fun v h => by
    have := walked14 (cap := oc) h.ht (fit_small FT) hol h.ho
    rw [hW] at this; exact this
  have C14x : Hid (∀ v,TuW t x A XA o oo oa ta ka fa bx b9 b5 bn c w0 v → Calls Try.prog 14 #[x.v XA,.slice ta o.length tc] v fun e w' => e = .returned (.tuple #[.int .i64 wq,.int .i64 we]) ∧ Below v.heap.size v w') := fun v h => by
    have := walked14 (cap := tc) h.hxt (fit_small FX) (hool ▸ hol) h.hoo
    rw [y1,hool] at this; exact this
  have C16 : Hid (∀ v,TuW t x A XA o oo oa ta ka fa bx b9 b5 bn c w0 v → Calls Try.prog 16 #[t.v A,.slice oa o.length oc] v fun e w' => ∃ av cv,e = .returned (.tuple #[.slice av l.length cv,.agg #[.int .i64 lo,.int .i64 hi],.int .i64 te]) ∧ IsSpns w' av l ∧ Below v.heap.size v w') := fun v h => by
    have := times16 (cap := oc) h.ht (fit_small FT) hol h.ho
    rw [hTm] at this; exact this
  have C16x : Hid (∀ v,TuW t x A XA o oo oa ta ka fa bx b9 b5 bn c w0 v → Calls Try.prog 16 #[x.v XA,.slice ta o.length tc] v fun e w' => ∃ av cv,e = .returned (.tuple #[.slice av l.length cv,.agg #[.int .i64 lo,.int .i64 hi],.int .i64 te]) ∧ IsSpns w' av l ∧ Below v.heap.size v w') := fun v h => by
    have := times16 (cap := tc) h.hxt (fit_small FX) (hool ▸ hol) h.hoo
    rw [y2,hool] at this; exact this
  have C18 : Hid (∀ v,TuW t x A XA o oo oa ta ka fa bx b9 b5 bn c w0 v → Calls Try.prog 18 #[t.v A,.slice oa o.length oc] v fun e w' => e = .returned (.tuple #[.int .i64 lc,.bool lq2,.int .i64 le2]) ∧ Below v.heap.size v w') := fun v h => by
    have := late18 (cap := oc) h.ht (fit_small FT) hol h.ho
    rw [hL] at this; exact this
  have C18x : Hid (∀ v,TuW t x A XA o oo oa ta ka fa bx b9 b5 bn c w0 v → Calls Try.prog 18 #[x.v XA,.slice ta o.length tc] v fun e w' => e = .returned (.tuple #[.int .i64 ld,.bool lq2,.int .i64 le2]) ∧ Below v.heap.size v w') := fun v h => by
    have := late18 (cap := tc) h.hxt (fit_small FX) (hool ▸ hol) h.hoo
    rw [hLx,hool] at this; exact this
  have C23 : Hid (∀ v,TuW t x A XA o oo oa ta ka fa bx b9 b5 bn c w0 v → Calls Try.prog 23 #[t.v A] v fun e w' => e = .returned (.tuple #[.int .i64 ta_,.int .i64 tb_,.int .i64 tf_]) ∧ Below v.heap.size v w') := fun v h => by
    have := tours23 h.ht (fit_small FT)
    rw [hTs] at this; exact this
  have C23x : Hid (∀ v,TuW t x A XA o oo oa ta ka fa bx b9 b5 bn c w0 v → Calls Try.prog 23 #[x.v XA] v fun e w' => e = .returned (.tuple #[.int .i64 ta_,.int .i64 tb_,.int .i64 tf_]) ∧ Below v.heap.size v w') := fun v h => by
    have := tours23 h.hxt (fit_small FX)
    rw [y4] at this; exact this
  have C20 : Hid (∀ v,TuW t x A XA o oo oa ta ka fa bx b9 b5 bn c w0 v → Calls Try.prog 20 #[t.v A,.slice oa o.length oc] v fun e w' => e = .returned (.tuple #[.int .i64 ra,.int .i64 rb]) ∧ Below v.heap.size v w') := fun v h => by
    have := later20 (cap := oc) h.ht (fit_small FT) hol h.ho
    rw [hLr] at this; exact this
  have C20x : Hid (∀ v,TuW t x A XA o oo oa ta ka fa bx b9 b5 bn c w0 v → Calls Try.prog 20 #[x.v XA,.slice ta o.length tc] v fun e w' => e = .returned (.tuple #[.int .i64 ra,.int .i64 rb]) ∧ Below v.heap.size v w') := fun v h => by
    have := later20 (cap := tc) h.hxt (fit_small FX) (hool ▸ hol) h.hoo
    rw [y3,hool] at this; exact this
  have HLL : Hid (l.length ≤ 30) := by
    have e : l = (timesE t o).1 := by rw [hTm]
    have h2 : (timesE t o).1.length ≤ 30 := by
      unfold timesE
      split
      · show (t.times o).length ≤ 30
        rw [times_len]; omega
      · exact Nat.zero_le _
    rw [← e] at h2
    exact h2
  have HFF := Lib.hid (And.intro hv (And.intro hxv (And.intro hT (And.intro hol (And.intro hc FT)))))
  have HB := Lib.hid (And.intro (Below.refl w.heap.size w) H)
  clear FT FX hool z1 z2 y1 y2 y3 y4 hW hTm hL hLx hLr hTs hT H hv hxv hol hor hc
  conv => arg 2; whnf
  refine wp_seq_hid ?_
  intro K24 HK24
  obtain ⟨k0,k1,k2,k3,k4⟩ := tr_cells (t := t) HB.out.2.hx
  go_wp2_with fail
  refine (C14.out _ HB.out.2).mono ?_
  rintro e d1 ⟨rfl,hb⟩
  have HX := Lib.hid (And.intro (HB.out.1.trans (hb.mono HB.out.1.size)) (HB.out.2.mono hb))
  clear hb HB k0 k1 k2 k3 k4 C14
  have HB := HX
  clear HX
  go_wp2_with fail
  refine HK24.out _ _ ?_
  clear HK24 K24
  refine wp_seq_hid ?_
  intro K25 HK25
  obtain ⟨k0,k1,k2,k3,k4⟩ := tr_cells (t := x) HB.out.2.h9
  go_wp2_with fail
  refine (C14x.out _ HB.out.2).mono ?_
  rintro e d2 ⟨rfl,hb⟩
  have HX := Lib.hid (And.intro (HB.out.1.trans (hb.mono HB.out.1.size)) (HB.out.2.mono hb))
  clear hb HB k0 k1 k2 k3 k4 C14x
  have HB := HX
  clear HX
  go_wp2_with fail
  refine HK25.out _ _ ?_
  clear HK25 K25
  refine wp_seq_hid ?_
  intro K26 HK26
  obtain ⟨k0,k1,k2,k3,k4⟩ := tr_cells (t := t) HB.out.2.hx
  go_wp2_with fail
  refine (C16.out _ HB.out.2).mono ?_
  rintro e d3 ⟨a1,c1,rfl,hs,hb⟩
  have HX := Lib.hid (And.intro (HB.out.1.trans (hb.mono HB.out.1.size)) (And.intro (HB.out.2.mono hb) hs))
  clear hb HB k0 k1 k2 k3 k4 C16 hs
  have HB := HX
  clear HX
  go_simp
  go_wp2_with fail
  have q7 := World.alloc_heap_new d3 (.cells #[.int .i64 lo,.int .i64 hi] 33)
  have hb7 : Below d3.heap.size d3 (d3.alloc (.cells #[.int .i64 lo,.int .i64 hi] 33)) := (Below.refl _ _).alloc (Nat.le_refl _) _
  have HX := Lib.hid (And.intro (HB.out.1.trans (hb7.mono HB.out.1.size)) (And.intro (HB.out.2.1.mono hb7) (And.intro (HB.out.2.2.mono hb7) q7)))
  clear hb7 HB q7
  have HB := HX
  clear HX
  refine HK26.out _ _ ?_
  clear HK26 K26
  revert HB
  generalize (d3.alloc (.cells #[.int .i64 lo,.int .i64 hi] 33)) = v1
  generalize d3.heap.size = pb1
  intro HB
  refine wp_seq_hid ?_
  intro K27 HK27
  obtain ⟨k0,k1,k2,k3,k4⟩ := tr_cells (t := x) HB.out.2.1.h9
  go_wp2_with fail
  refine (C16x.out _ HB.out.2.1).mono ?_
  rintro e d4 ⟨a2,c2,rfl,hs,hb⟩
  have HX := Lib.hid (And.intro (HB.out.1.trans (hb.mono HB.out.1.size)) (And.intro (HB.out.2.1.mono hb) (And.intro (HB.out.2.2.1.mono hb) (And.intro ((hb.block _ (heap_lt HB.out.2.2.2)).trans HB.out.2.2.2) hs))))
  clear hb HB k0 k1 k2 k3 k4 C16x hs
  have HB := HX
  clear HX
  go_simp
  go_wp2_with fail
  have q7 := World.alloc_heap_new d4 (.cells #[.int .i64 lo,.int .i64 hi] 33)
  have hb7 : Below d4.heap.size d4 (d4.alloc (.cells #[.int .i64 lo,.int .i64 hi] 33)) := (Below.refl _ _).alloc (Nat.le_refl _) _
  have HX := Lib.hid (And.intro (HB.out.1.trans (hb7.mono HB.out.1.size)) (And.intro (HB.out.2.1.mono hb7) (And.intro (HB.out.2.2.1.mono hb7) (And.intro ((hb7.block _ (heap_lt HB.out.2.2.2.1)).trans HB.out.2.2.2.1) (And.intro (HB.out.2.2.2.2.mono hb7) q7)))))
  clear hb7 HB q7
  have HB := HX
  clear HX
  refine HK27.out _ _ ?_
  clear HK27 K27
  revert HB
  generalize (d4.alloc (.cells #[.int .i64 lo,.int .i64 hi] 33)) = v2
  generalize d4.heap.size = pb2
  intro HB
  refine wp_seq_hid ?_
  intro K28 HK28
  obtain ⟨k0,k1,k2,k3,k4⟩ := tr_cells (t := t) HB.out.2.1.hx
  go_wp2_with fail
  refine (C18.out _ HB.out.2.1).mono ?_
  rintro e d5 ⟨rfl,hb⟩
  have HX := Lib.hid (And.intro (HB.out.1.trans (hb.mono HB.out.1.size)) (And.intro (HB.out.2.1.mono hb) (And.intro (HB.out.2.2.1.mono hb) (And.intro ((hb.block _ (heap_lt HB.out.2.2.2.1)).trans HB.out.2.2.2.1) (And.intro (HB.out.2.2.2.2.1.mono hb) ((hb.block _ (heap_lt HB.out.2.2.2.2.2)).trans HB.out.2.2.2.2.2))))))
  clear hb HB k0 k1 k2 k3 k4 C18
  have HB := HX
  clear HX
  go_wp2_with fail
  refine HK28.out _ _ ?_
  clear HK28 K28
  refine wp_seq_hid ?_
  intro K29 HK29
  obtain ⟨k0,k1,k2,k3,k4⟩ := tr_cells (t := x) HB.out.2.1.h9
  go_wp2_with fail
  refine (C18x.out _ HB.out.2.1).mono ?_
  rintro e d6 ⟨rfl,hb⟩
  have HX := Lib.hid (And.intro (HB.out.1.trans (hb.mono HB.out.1.size)) (And.intro (HB.out.2.1.mono hb) (And.intro (HB.out.2.2.1.mono hb) (And.intro ((hb.block _ (heap_lt HB.out.2.2.2.1)).trans HB.out.2.2.2.1) (And.intro (HB.out.2.2.2.2.1.mono hb) ((hb.block _ (heap_lt HB.out.2.2.2.2.2)).trans HB.out.2.2.2.2.2))))))
  clear hb HB k0 k1 k2 k3 k4 C18x
  have HB := HX
  clear HX
  go_wp2_with fail
  refine HK29.out _ _ ?_
  clear HK29 K29
  refine wp_seq_hid ?_
  intro K30 HK30
  obtain ⟨k0,k1,k2,k3,k4⟩ := tr_cells (t := t) HB.out.2.1.hx
  go_wp2_with fail
  refine (C23.out _ HB.out.2.1).mono ?_
  rintro e d7 ⟨rfl,hb⟩
  have HX := Lib.hid (And.intro (HB.out.1.trans (hb.mono HB.out.1.size)) (And.intro (HB.out.2.1.mono hb) (And.intro (HB.out.2.2.1.mono hb) (And.intro ((hb.block _ (heap_lt HB.out.2.2.2.1)).trans HB.out.2.2.2.1) (And.intro (HB.out.2.2.2.2.1.mono hb) ((hb.block _ (heap_lt HB.out.2.2.2.2.2)).trans HB.out.2.2.2.2.2))))))
  clear hb HB k0 k1 k2 k3 k4 C23
  have HB := HX
  clear HX
  go_wp2_with fail
  refine HK30.out _ _ ?_
  clear HK30 K30
  refine wp_seq_hid ?_
  intro K31 HK31
  obtain ⟨k0,k1,k2,k3,k4⟩ := tr_cells (t := x) HB.out.2.1.h9
  go_wp2_with fail
  refine (C23x.out _ HB.out.2.1).mono ?_
  rintro e d8 ⟨rfl,hb⟩
  have HX := Lib.hid (And.intro (HB.out.1.trans (hb.mono HB.out.1.size)) (And.intro (HB.out.2.1.mono hb) (And.intro (HB.out.2.2.1.mono hb) (And.intro ((hb.block _ (heap_lt HB.out.2.2.2.1)).trans HB.out.2.2.2.1) (And.intro (HB.out.2.2.2.2.1.mono hb) ((hb.block _ (heap_lt HB.out.2.2.2.2.2)).trans HB.out.2.2.2.2.2))))))
  clear hb HB k0 k1 k2 k3 k4 C23x
  have HB := HX
  clear HX
  go_wp2_with fail
  refine HK31.out _ _ ?_
  clear HK31 K31
  refine wp_seq_hid ?_
  intro K32 HK32
  obtain ⟨k0,k1,k2,k3,k4⟩ := tr_cells (t := t) HB.out.2.1.hx
  go_wp2_with fail
  refine (C20.out _ HB.out.2.1).mono ?_
  rintro e d9 ⟨rfl,hb⟩
  have HX := Lib.hid (And.intro (HB.out.1.trans (hb.mono HB.out.1.size)) (And.intro (HB.out.2.1.mono hb) (And.intro (HB.out.2.2.1.mono hb) (And.intro ((hb.block _ (heap_lt HB.out.2.2.2.1)).trans HB.out.2.2.2.1) (And.intro (HB.out.2.2.2.2.1.mono hb) ((hb.block _ (heap_lt HB.out.2.2.2.2.2)).trans HB.out.2.2.2.2.2))))))
  clear hb HB k0 k1 k2 k3 k4 C20
  have HB := HX
  clear HX
  go_wp2_with fail
  refine HK32.out _ _ ?_
  clear HK32 K32
  refine wp_seq_hid ?_
  intro K33 HK33
  obtain ⟨k0,k1,k2,k3,k4⟩ := tr_cells (t := x) HB.out.2.1.h9
  go_wp2_with fail
  refine (C20x.out _ HB.out.2.1).mono ?_
  rintro e d10 ⟨rfl,hb⟩
  have HX := Lib.hid (And.intro (HB.out.1.trans (hb.mono HB.out.1.size)) (And.intro (HB.out.2.1.mono hb) (And.intro (HB.out.2.2.1.mono hb) (And.intro ((hb.block _ (heap_lt HB.out.2.2.2.1)).trans HB.out.2.2.2.1) (And.intro (HB.out.2.2.2.2.1.mono hb) ((hb.block _ (heap_lt HB.out.2.2.2.2.2)).trans HB.out.2.2.2.2.2))))))
  clear hb HB k0 k1 k2 k3 k4 C20x
  have HB := HX
  clear HX
  go_wp2_with fail
  refine HK33.out _ _ ?_
  clear HK33 K33
  refine wp_seq_hid ?_
  intro K34 HK34
  have n1 : ∀ a : Int,(a != a) = false := fun a => by simp
  have nb : (lq2 != lq2) = false := by simp
  have D22 : Hid (Calls Try.prog 22 #[.slice a1 l.length c1,.slice a2 l.length c2] d10 fun e w' => e = .returned (.bool true) ∧ Below d10.heap.size d10 w') := by
    have := spans22 (ca := c1) (cb := c2) HB.out.2.2.1 HB.out.2.2.2.2.1 HLL.out HLL.out
    rw [decide_eq_true rfl] at this; exact this
  have heq : ∀ w,(binOp .neq 33 (.agg #[.int .i64 lo,.int .i64 hi]) (.agg #[.int .i64 lo,.int .i64 hi])).run Try.prog w = .ok (.bool false) w := fun w => by rw [neq33 ⟨lo,hi⟩ ⟨lo,hi⟩]; simp
  have HX1 : Hid (∀ v,Below d10.heap.size d10 v → v.heap[pb1]? = some (.cells #[.int .i64 lo,.int .i64 hi] 33 (0,0)) ∧ v.heap[pb2]? = some (.cells #[.int .i64 lo,.int .i64 hi] 33 (0,0)) ∧ TuW t x A XA o oo oa ta ka fa bx b9 b5 bn c w0 v) := fun v hb =>
    ⟨(hb.block _ (heap_lt HB.out.2.2.2.1)).trans HB.out.2.2.2.1,(hb.block _ (heap_lt HB.out.2.2.2.2.2)).trans HB.out.2.2.2.2.2,HB.out.2.1.mono hb⟩
  go_upto_region 34 with fail
  simp only [List.append_eq,List.cons_append,List.nil_append]
  by_cases hle : le2 = 0
  · obtain ⟨rfl,hvw⟩ := HLT.out hle
    obtain ⟨m,rfl,hm⟩ := view_nat hvw
    subst hle
    have hz : ((0 : Int) == 0) = true := rfl
    clear HLT hvw
    go_wp2_with fail
    refine (D22.out).mono ?_
    rintro e V ⟨rfl,hb⟩
    have HV := Lib.hid (HX1.out V hb)
    have HBV := Lib.hid hb
    have x0 : V.cell? ⟨pb1,0,none⟩ = some (.int .i64 lo) := by rw [cell_of_heap HV.out.1]; rfl
    have x1 : V.cell? ⟨pb1,1,none⟩ = some (.int .i64 hi) := by rw [cell_of_heap HV.out.1]; rfl
    have y0 : V.cell? ⟨pb2,0,none⟩ = some (.int .i64 lo) := by rw [cell_of_heap HV.out.2.1]; rfl
    have y1 : V.cell? ⟨pb2,1,none⟩ = some (.int .i64 hi) := by rw [cell_of_heap HV.out.2.1]; rfl
    clear hb HX1
    go_wp2_with fail
    refine (number43 HV.out.2.2.c5 HV.out.2.2.cn HFF.out.2.2.2.2.1 (by omega) (Nat.le_trans HFF.out.2.2.2.2.2.n (by decide)) (by have := HFF.out.2.2.2.2.2.n; omega)).mono ?_
    rintro e V2 ⟨rfl,hb⟩
    subst hb
    have n5 : (tmap (sgm t.frm.length c) (m : Int) != (((m + c) % t.frm.length : Nat) : Int)) = false := by simp [tmap,sgm]
    go_wp2_with fail
    refine HK34.out _ _ ?_
    exact tur36 (tc := tc) HV.out.2.2 HFF.out.1 HFF.out.2.1 HFF.out.2.2.1 HFF.out.2.2.2.1
  · have hz : (le2 == 0) = false := by simpa using hle
    clear HLT hle
    go_wp2_with fail
    refine (D22.out).mono ?_
    rintro e V ⟨rfl,hb⟩
    have HV := Lib.hid (HX1.out V hb)
    have HBV := Lib.hid hb
    have x0 : V.cell? ⟨pb1,0,none⟩ = some (.int .i64 lo) := by rw [cell_of_heap HV.out.1]; rfl
    have x1 : V.cell? ⟨pb1,1,none⟩ = some (.int .i64 hi) := by rw [cell_of_heap HV.out.1]; rfl
    have y0 : V.cell? ⟨pb2,0,none⟩ = some (.int .i64 lo) := by rw [cell_of_heap HV.out.2.1]; rfl
    have y1 : V.cell? ⟨pb2,1,none⟩ = some (.int .i64 hi) := by rw [cell_of_heap HV.out.2.1]; rfl
    clear hb HX1
    go_wp2_with fail
    refine HK34.out _ _ ?_
    exact tur36 (tc := tc) HV.out.2.2 HFF.out.1 HFF.out.2.1 HFF.out.2.2.1 HFF.out.2.2.2.1
end Go.Proofs.Ytphefhpmbahagaa
