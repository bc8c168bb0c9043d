/- WalkTurned: the drawn region in which a view's spans are put to its number. -/
import Derived.Test.YtphefhpmbahagaaT86
namespace Go.Proofs.Ytphefhpmbahagaa
open Go.RowKit
set_option linter.unusedVariables false
set_option linter.unusedSimpArgs false

/-- What a slot holds: the value,once it is done. -/
def pk (b : Bool) (v s : Value) : Value := if b then v else s
theorem pk_true (v s : Value) : pk true v s = v := rfl
theorem pk_of {b : Bool} (h : b = true) (v s : Value) : pk b v s = v := by rw [h]; rfl
noncomputable def tur9C : Code := (Try.f11.body.bind (regionAt 9)).getD .skip
set_option maxRecDepth 100000 in
set_option maxHeartbeats 8000000 in
theorem tur9 {bx b9 b5 bn k n m g1 g3 g4 fb fo fc sb so sc lb lo lc : Nat} {s1_ s2_ s3_ : Spn} {R : Bool → Bool → Bool → World → Prop} {Q : Exit → Act → World → Prop} {W1 : World} (hkn : k < n) (hmn : m < n) (h0 : R false false false W1.drew)
    (kl1 : Hid (∀ a b c (w : World),R a b c w → w.cell? ⟨b9,1,none⟩ = some (.slice (some ⟨g1,0,none⟩) n n)))
    (kl6 : Hid (∀ a b c (w : World),R a b c w → w.cell? ⟨b9,3,none⟩ = some (.slice (some ⟨g3,0,none⟩) n n)))
    (kl11 : Hid (∀ a b c (w : World),R a b c w → w.cell? ⟨b9,4,none⟩ = some (.slice (some ⟨g4,0,none⟩) n n)))
    (kl16 : Hid (∀ a b c (w : World),R a b c w → w.cell? ⟨bx,1,none⟩ = some (.slice (some ⟨fb,fo,none⟩) n fc)))
    (kl19 : Hid (∀ a b c (w : World),R a b c w → w.cell? ⟨fb,fo + k * 2,none⟩ = some (.int .i64 s1_.lo) ∧ w.cell? ⟨fb,fo + k * 2 + 1,none⟩ = some (.int .i64 s1_.hi)))
    (kl21 : Hid (∀ a b c (w : World),R a b c w → w.cell? ⟨bx,3,none⟩ = some (.slice (some ⟨sb,so,none⟩) n sc)))
    (kl24 : Hid (∀ a b c (w : World),R a b c w → w.cell? ⟨sb,so + k * 2,none⟩ = some (.int .i64 s2_.lo) ∧ w.cell? ⟨sb,so + k * 2 + 1,none⟩ = some (.int .i64 s2_.hi)))
    (kl26 : Hid (∀ a b c (w : World),R a b c w → w.cell? ⟨bx,4,none⟩ = some (.slice (some ⟨lb,lo,none⟩) n lc)))
    (kl29 : Hid (∀ a b c (w : World),R a b c w → w.cell? ⟨lb,lo + k * 2,none⟩ = some (.int .i64 s3_.lo) ∧ w.cell? ⟨lb,lo + k * 2 + 1,none⟩ = some (.int .i64 s3_.hi)))
    (kc : Hid (∀ a b c (w : World),R a b c w → Calls Try.prog 43 #[.int .i64 (k : Int),.pointer (some ⟨b5,0,none⟩),.pointer (some ⟨bn,0,none⟩)] w fun e w' => e = .returned (.int .i64 (m : Int)) ∧ w = w'))
    (ks31 : Hid (∀ b c (w : World),R false b c w → (∃ u,w.cell? ⟨g1,m * 2,none⟩ = some u) ∧ w.frozen? ⟨g1,m * 2,none⟩ = false ∧ (∃ u,w.cell? ⟨g1,m * 2 + 1,none⟩ = some u) ∧ w.frozen? ⟨g1,m * 2 + 1,none⟩ = false ∧ R true b c ((w.setCell ⟨g1,m * 2,none⟩ (.int .i64 s1_.lo)).setCell ⟨g1,m * 2 + 1,none⟩ (.int .i64 s1_.hi))))
    (ks33 : Hid (∀ a c (w : World),R a false c w → (∃ u,w.cell? ⟨g3,m * 2,none⟩ = some u) ∧ w.frozen? ⟨g3,m * 2,none⟩ = false ∧ (∃ u,w.cell? ⟨g3,m * 2 + 1,none⟩ = some u) ∧ w.frozen? ⟨g3,m * 2 + 1,none⟩ = false ∧ R a true c ((w.setCell ⟨g3,m * 2,none⟩ (.int .i64 s2_.lo)).setCell ⟨g3,m * 2 + 1,none⟩ (.int .i64 s2_.hi))))
    (ks35 : Hid (∀ a b (w : World),R a b false w → (∃ u,w.cell? ⟨g4,m * 2,none⟩ = some u) ∧ w.frozen? ⟨g4,m * 2,none⟩ = false ∧ (∃ u,w.cell? ⟨g4,m * 2 + 1,none⟩ = some u) ∧ w.frozen? ⟨g4,m * 2 + 1,none⟩ = false ∧ R a b true ((w.setCell ⟨g4,m * 2,none⟩ (.int .i64 s3_.lo)).setCell ⟨g4,m * 2 + 1,none⟩ (.int .i64 s3_.hi))))
    {s0 s1 s2 s4 s5 s6 s7 s11 s12 s13 s14 s15 s16 s17 s18 s19 s20 s21 s22 s23 s24 s25 s26 s27 s28 s29 s30 s31 s32 s33 s34 s35 s36 s37 s38 s39 s40 s41 s42 s43 s44 s45 s46 s47 s48 s49 s50 s51 s52 s53 s54 s55 s56 s57 s58 s59 s60 s61 s62 s63 s64 s65 s66 s67 s68 s69 s70 s71 s72 s73 s74 s75 s76 s77 s78 s79 s80 s81 s82 s83 s84 s85 s86 s87 s88 s89 s90 s91 s92 s93 s94 s95 s96 s97 s98 s99 s100 s101 s102 s103 s104 s105 s106 s107 s108 s109 s110 s111 s112 s113 s114 s115 s116 s117 s118 s119 s120 s121 s122 s123 s124 s125 s126 s127 s128 s129 s130 s131 s132 s133 s134 s135 s136 s137 s138 s139 s140 s141 s142 s143 s144 s145 s146 s147 s148 s149 s150 s151 s152 s153 s154 s155 s156 s157 s158 s159 s160 s161 s162 s163 s164 s165 s166 s167 s168 s169 s170 s171 s172 s173 s174 s175 s176 s177 s178 s179 s180 s181 s182 s183 s184 s185 s186 s187 s188 s189 s190 s191 s192 s193 s194 s195 s196 s197 s198 s199 s200 s201 s202 s203 s204 s205 s206 s207 s208 s209 s210 s211 s212 s213 s214 s215 s216 s217 s218 s219 s220 s221 s222 s223 s224 s225 s226 s227 s228 s229 s230 s231 s232 s233 s234 s235 s236 s237 s238 s239 s240 s241 s242 s243 s244 s245 s246 s247 s248 s249 s250 s251 s252 s253 s254 s255 s256 s257 s258 s259 s260 s261 s262 s263 s264 s265 s266 s267 s268 s269 s270 s271 s272 s273 s274 s275 s276 s277 s278 s279 s280 s281 s282 s283 s284 s285 s286 s287 s288 s289 s290 s291 s292 s293 s294 s295 s296 s297 s298 s299 s300 s301 s302 s303 s304 s305 s306 s307 s308 s309 s310 s311 s312 s313 s314 s315 s316 s317 s318 s319 s320 s321 s322 s323 s324 s325 s326 s327 s328 s329 s330 s331 s332 s333 s334 s335 s336 s337 s338 s339 s340 s341 s342 s343 s344 s345 s346 s347 s348 s349 s350 s351 s352 s353 s354 s355 s356 s357 s358 s359 s360 s361 s362 s363 s364 s365 s366 s367 s368 s369 s370 s371 s372 s373 s374 s375 s376 s377 s378 s379 s380 s381 s382 s383 s384 s385 s386 s387 s388 s389 s390 s391 s392 s393 s394 s395 s396 s397 s398 s399 s400 s401 s402 s403 s404 s405 s406 s407 : Value} {dd : List Deferred}
    (hQ : ∀ w' : World,R true true true w' → Q .normal { tmps := #[s0,s1,s2,.pointer (some ⟨bx,0,none⟩),s4,s5,s6,s7,.func (.func 43) #[] #[.pointer (some ⟨b5,0,none⟩),.pointer (some ⟨bn,0,none⟩)],.pointer (some ⟨b9,0,none⟩),.int .i64 (k : Int),s11,s12,s13,s14,s15,s16,s17,s18,s19,s20,s21,s22,s23,s24,s25,s26,s27,s28,s29,s30,s31,s32,s33,s34,s35,s36,s37,s38,s39,s40,s41,s42,s43,s44,s45,s46,s47,s48,s49,s50,s51,s52,s53,s54,s55,s56,s57,s58,s59,s60,s61,s62,s63,s64,s65,s66,s67,s68,s69,s70,s71,s72,s73,s74,s75,s76,s77,s78,s79,s80,s81,s82,s83,s84,s85,s86,s87,s88,.pointer (some ⟨b9,1,none⟩),.slice (some ⟨g1,0,none⟩) n n,.func (.func 43) #[] #[.pointer (some ⟨b5,0,none⟩),.pointer (some ⟨bn,0,none⟩)],.int .i64 (k : Int),.int .i64 (m : Int),.pointer (some ⟨b9,3,none⟩),.slice (some ⟨g3,0,none⟩) n n,.func (.func 43) #[] #[.pointer (some ⟨b5,0,none⟩),.pointer (some ⟨bn,0,none⟩)],.int .i64 (k : Int),.int .i64 (m : Int),.pointer (some ⟨b9,4,none⟩),.slice (some ⟨g4,0,none⟩) n n,.func (.func 43) #[] #[.pointer (some ⟨b5,0,none⟩),.pointer (some ⟨bn,0,none⟩)],.int .i64 (k : Int),.int .i64 (m : Int),.pointer (some ⟨bx,1,none⟩),.slice (some ⟨fb,fo,none⟩) n fc,.int .i64 (k : Int),.pointer (some ⟨fb,fo + k * 2,none⟩),.agg #[.int .i64 s1_.lo,.int .i64 s1_.hi],.pointer (some ⟨bx,3,none⟩),.slice (some ⟨sb,so,none⟩) n sc,.int .i64 (k : Int),.pointer (some ⟨sb,so + k * 2,none⟩),.agg #[.int .i64 s2_.lo,.int .i64 s2_.hi],.pointer (some ⟨bx,4,none⟩),.slice (some ⟨lb,lo,none⟩) n lc,.int .i64 (k : Int),.pointer (some ⟨lb,lo + k * 2,none⟩),.agg #[.int .i64 s3_.lo,.int .i64 s3_.hi],.pointer (some ⟨g1,m * 2,none⟩),.pointer (some ⟨g3,m * 2,none⟩),.pointer (some ⟨g4,m * 2,none⟩),s122,s123,s124,s125,s126,s127,s128,s129,s130,s131,s132,s133,s134,s135,s136,s137,s138,s139,s140,s141,s142,s143,s144,s145,s146,s147,s148,s149,s150,s151,s152,s153,s154,s155,s156,s157,s158,s159,s160,s161,s162,s163,s164,s165,s166,s167,s168,s169,s170,s171,s172,s173,s174,s175,s176,s177,s178,s179,s180,s181,s182,s183,s184,s185,s186,s187,s188,s189,s190,s191,s192,s193,s194,s195,s196,s197,s198,s199,s200,s201,s202,s203,s204,s205,s206,s207,s208,s209,s210,s211,s212,s213,s214,s215,s216,s217,s218,s219,s220,s221,s222,s223,s224,s225,s226,s227,s228,s229,s230,s231,s232,s233,s234,s235,s236,s237,s238,s239,s240,s241,s242,s243,s244,s245,s246,s247,s248,s249,s250,s251,s252,s253,s254,s255,s256,s257,s258,s259,s260,s261,s262,s263,s264,s265,s266,s267,s268,s269,s270,s271,s272,s273,s274,s275,s276,s277,s278,s279,s280,s281,s282,s283,s284,s285,s286,s287,s288,s289,s290,s291,s292,s293,s294,s295,s296,s297,s298,s299,s300,s301,s302,s303,s304,s305,s306,s307,s308,s309,s310,s311,s312,s313,s314,s315,s316,s317,s318,s319,s320,s321,s322,s323,s324,s325,s326,s327,s328,s329,s330,s331,s332,s333,s334,s335,s336,s337,s338,s339,s340,s341,s342,s343,s344,s345,s346,s347,s348,s349,s350,s351,s352,s353,s354,s355,s356,s357,s358,s359,s360,s361,s362,s363,s364,s365,s366,s367,s368,s369,s370,s371,s372,s373,s374,s375,s376,s377,s378,s379,s380,s381,s382,s383,s384,s385,s386,s387,s388,s389,s390,s391,s392,s393,s394,s395,s396,s397,s398,s399,s400,s401,s402,s403,s404,s405,s406,s407],defers := dd } w') :
    Code.wpIn (wideAt none) 0 Try.prog tur9C Q { tmps := #[s0,s1,s2,.pointer (some ⟨bx,0,none⟩),s4,s5,s6,s7,.func (.func 43) #[] #[.pointer (some ⟨b5,0,none⟩),.pointer (some ⟨bn,0,none⟩)],.pointer (some ⟨b9,0,none⟩),.int .i64 (k : Int),s11,s12,s13,s14,s15,s16,s17,s18,s19,s20,s21,s22,s23,s24,s25,s26,s27,s28,s29,s30,s31,s32,s33,s34,s35,s36,s37,s38,s39,s40,s41,s42,s43,s44,s45,s46,s47,s48,s49,s50,s51,s52,s53,s54,s55,s56,s57,s58,s59,s60,s61,s62,s63,s64,s65,s66,s67,s68,s69,s70,s71,s72,s73,s74,s75,s76,s77,s78,s79,s80,s81,s82,s83,s84,s85,s86,s87,s88,s89,s90,s91,s92,s93,s94,s95,s96,s97,s98,s99,s100,s101,s102,s103,s104,s105,s106,s107,s108,s109,s110,s111,s112,s113,s114,s115,s116,s117,s118,s119,s120,s121,s122,s123,s124,s125,s126,s127,s128,s129,s130,s131,s132,s133,s134,s135,s136,s137,s138,s139,s140,s141,s142,s143,s144,s145,s146,s147,s148,s149,s150,s151,s152,s153,s154,s155,s156,s157,s158,s159,s160,s161,s162,s163,s164,s165,s166,s167,s168,s169,s170,s171,s172,s173,s174,s175,s176,s177,s178,s179,s180,s181,s182,s183,s184,s185,s186,s187,s188,s189,s190,s191,s192,s193,s194,s195,s196,s197,s198,s199,s200,s201,s202,s203,s204,s205,s206,s207,s208,s209,s210,s211,s212,s213,s214,s215,s216,s217,s218,s219,s220,s221,s222,s223,s224,s225,s226,s227,s228,s229,s230,s231,s232,s233,s234,s235,s236,s237,s238,s239,s240,s241,s242,s243,s244,s245,s246,s247,s248,s249,s250,s251,s252,s253,s254,s255,s256,s257,s258,s259,s260,s261,s262,s263,s264,s265,s266,s267,s268,s269,s270,s271,s272,s273,s274,s275,s276,s277,s278,s279,s280,s281,s282,s283,s284,s285,s286,s287,s288,s289,s290,s291,s292,s293,s294,s295,s296,s297,s298,s299,s300,s301,s302,s303,s304,s305,s306,s307,s308,s309,s310,s311,s312,s313,s314,s315,s316,s317,s318,s319,s320,s321,s322,s323,s324,s325,s326,s327,s328,s329,s330,s331,s332,s333,s334,s335,s336,s337,s338,s339,s340,s341,s342,s343,s344,s345,s346,s347,s348,s349,s350,s351,s352,s353,s354,s355,s356,s357,s358,s359,s360,s361,s362,s363,s364,s365,s366,s367,s368,s369,s370,s371,s372,s373,s374,s375,s376,s377,s378,s379,s380,s381,s382,s383,s384,s385,s386,s387,s388,s389,s390,s391,s392,s393,s394,s395,s396,s397,s398,s399,s400,s401,s402,s403,s404,s405,s406,s407],defers := dd } W1 := by
  have HQ := Lib.hid hQ
  clear hQ
  conv => arg 4; whnf
  refine wpIn_region_invG mixed (by kernel_rfl) (fun d_ a_ w' => a_ = { tmps := #[s0,s1,s2,.pointer (some ⟨bx,0,none⟩),s4,s5,s6,s7,.func (.func 43) #[] #[.pointer (some ⟨b5,0,none⟩),.pointer (some ⟨bn,0,none⟩)],.pointer (some ⟨b9,0,none⟩),.int .i64 (k : Int),s11,s12,s13,s14,s15,s16,s17,s18,s19,s20,s21,s22,s23,s24,s25,s26,s27,s28,s29,s30,s31,s32,s33,s34,s35,s36,s37,s38,s39,s40,s41,s42,s43,s44,s45,s46,s47,s48,s49,s50,s51,s52,s53,s54,s55,s56,s57,s58,s59,s60,s61,s62,s63,s64,s65,s66,s67,s68,s69,s70,s71,s72,s73,s74,s75,s76,s77,s78,s79,s80,s81,s82,s83,s84,s85,s86,s87,s88,pk (d_ 0) (.pointer (some ⟨b9,1,none⟩)) s89,pk (d_ 1) (.slice (some ⟨g1,0,none⟩) n n) s90,pk (d_ 2) (.func (.func 43) #[] #[.pointer (some ⟨b5,0,none⟩),.pointer (some ⟨bn,0,none⟩)]) s91,pk (d_ 3) (.int .i64 (k : Int)) s92,pk (d_ 4) (.int .i64 (m : Int)) s93,pk (d_ 5) (.pointer (some ⟨b9,3,none⟩)) s94,pk (d_ 6) (.slice (some ⟨g3,0,none⟩) n n) s95,pk (d_ 7) (.func (.func 43) #[] #[.pointer (some ⟨b5,0,none⟩),.pointer (some ⟨bn,0,none⟩)]) s96,pk (d_ 8) (.int .i64 (k : Int)) s97,pk (d_ 9) (.int .i64 (m : Int)) s98,pk (d_ 10) (.pointer (some ⟨b9,4,none⟩)) s99,pk (d_ 11) (.slice (some ⟨g4,0,none⟩) n n) s100,pk (d_ 12) (.func (.func 43) #[] #[.pointer (some ⟨b5,0,none⟩),.pointer (some ⟨bn,0,none⟩)]) s101,pk (d_ 13) (.int .i64 (k : Int)) s102,pk (d_ 14) (.int .i64 (m : Int)) s103,pk (d_ 15) (.pointer (some ⟨bx,1,none⟩)) s104,pk (d_ 16) (.slice (some ⟨fb,fo,none⟩) n fc) s105,pk (d_ 17) (.int .i64 (k : Int)) s106,pk (d_ 18) (.pointer (some ⟨fb,fo + k * 2,none⟩)) s107,pk (d_ 19) (.agg #[.int .i64 s1_.lo,.int .i64 s1_.hi]) s108,pk (d_ 20) (.pointer (some ⟨bx,3,none⟩)) s109,pk (d_ 21) (.slice (some ⟨sb,so,none⟩) n sc) s110,pk (d_ 22) (.int .i64 (k : Int)) s111,pk (d_ 23) (.pointer (some ⟨sb,so + k * 2,none⟩)) s112,pk (d_ 24) (.agg #[.int .i64 s2_.lo,.int .i64 s2_.hi]) s113,pk (d_ 25) (.pointer (some ⟨bx,4,none⟩)) s114,pk (d_ 26) (.slice (some ⟨lb,lo,none⟩) n lc) s115,pk (d_ 27) (.int .i64 (k : Int)) s116,pk (d_ 28) (.pointer (some ⟨lb,lo + k * 2,none⟩)) s117,pk (d_ 29) (.agg #[.int .i64 s3_.lo,.int .i64 s3_.hi]) s118,pk (d_ 30) (.pointer (some ⟨g1,m * 2,none⟩)) s119,pk (d_ 32) (.pointer (some ⟨g3,m * 2,none⟩)) s120,pk (d_ 34) (.pointer (some ⟨g4,m * 2,none⟩)) s121,s122,s123,s124,s125,s126,s127,s128,s129,s130,s131,s132,s133,s134,s135,s136,s137,s138,s139,s140,s141,s142,s143,s144,s145,s146,s147,s148,s149,s150,s151,s152,s153,s154,s155,s156,s157,s158,s159,s160,s161,s162,s163,s164,s165,s166,s167,s168,s169,s170,s171,s172,s173,s174,s175,s176,s177,s178,s179,s180,s181,s182,s183,s184,s185,s186,s187,s188,s189,s190,s191,s192,s193,s194,s195,s196,s197,s198,s199,s200,s201,s202,s203,s204,s205,s206,s207,s208,s209,s210,s211,s212,s213,s214,s215,s216,s217,s218,s219,s220,s221,s222,s223,s224,s225,s226,s227,s228,s229,s230,s231,s232,s233,s234,s235,s236,s237,s238,s239,s240,s241,s242,s243,s244,s245,s246,s247,s248,s249,s250,s251,s252,s253,s254,s255,s256,s257,s258,s259,s260,s261,s262,s263,s264,s265,s266,s267,s268,s269,s270,s271,s272,s273,s274,s275,s276,s277,s278,s279,s280,s281,s282,s283,s284,s285,s286,s287,s288,s289,s290,s291,s292,s293,s294,s295,s296,s297,s298,s299,s300,s301,s302,s303,s304,s305,s306,s307,s308,s309,s310,s311,s312,s313,s314,s315,s316,s317,s318,s319,s320,s321,s322,s323,s324,s325,s326,s327,s328,s329,s330,s331,s332,s333,s334,s335,s336,s337,s338,s339,s340,s341,s342,s343,s344,s345,s346,s347,s348,s349,s350,s351,s352,s353,s354,s355,s356,s357,s358,s359,s360,s361,s362,s363,s364,s365,s366,s367,s368,s369,s370,s371,s372,s373,s374,s375,s376,s377,s378,s379,s380,s381,s382,s383,s384,s385,s386,s387,s388,s389,s390,s391,s392,s393,s394,s395,s396,s397,s398,s399,s400,s401,s402,s403,s404,s405,s406,s407],defers := dd } ∧ R (d_ 31) (d_ 33) (d_ 35) w') ?_ ?_ ?_
  · exact ⟨rfl,h0⟩
  · refine ⟨?_,?_,?_,?_,?_,?_,?_,?_,?_,?_,?_,?_,?_,?_,?_,?_,?_,?_,?_,?_,?_,?_,?_,?_,?_,?_,?_,?_,?_,?_,?_,?_,?_,?_,?_,?_,trivial⟩
    all_goals
      rintro d_ a_ w1 K hd_ hdep ⟨rfl,F⟩ HK
      simp [Region.binds] at hdep
    · have HF := Lib.hid F
      clear F
      go_simp
      refine HK.out _ _ ⟨?_,HF.out⟩
      all_goals rfl
    · have p0 : pk (d_ 0) (.pointer (some ⟨b9,1,none⟩)) s89 = (.pointer (some ⟨b9,1,none⟩) : Value) := pk_of (by simp [hdep] : d_ 0 = true) _ _
      have kk := kl1.out _ _ _ w1 F
      rw [p0]
      have HF := Lib.hid F
      clear F
      go_simp
      refine HK.out _ _ ⟨?_,HF.out⟩
      have r0 : pk (upd d_ 1 0) (.pointer (some ⟨b9,1,none⟩)) s89 = (.pointer (some ⟨b9,1,none⟩) : Value) := p0
      rw [r0]
      all_goals rfl
    · have HF := Lib.hid F
      clear F
      go_simp
      refine HK.out _ _ ⟨?_,HF.out⟩
      all_goals rfl
    · have HF := Lib.hid F
      clear F
      go_simp
      refine HK.out _ _ ⟨?_,HF.out⟩
      all_goals rfl
    · have p2 : pk (d_ 2) (.func (.func 43) #[] #[.pointer (some ⟨b5,0,none⟩),.pointer (some ⟨bn,0,none⟩)]) s91 = (.func (.func 43) #[] #[.pointer (some ⟨b5,0,none⟩),.pointer (some ⟨bn,0,none⟩)] : Value) := pk_of (by simp [hdep] : d_ 2 = true) _ _
      have p3 : pk (d_ 3) (.int .i64 (k : Int)) s92 = (.int .i64 (k : Int) : Value) := pk_of (by simp [hdep] : d_ 3 = true) _ _
      rw [p2,p3]
      have hc := kc.out _ _ _ w1 F
      have HF := Lib.hid F
      clear F
      go_simp
      refine ⟨trivial,rfl,wideAt_calls (hc.mono ?_)⟩
      rintro e w5 ⟨rfl,rfl⟩
      refine HK.out _ _ ⟨?_,HF.out⟩
      have r2 : pk (upd d_ 4 2) (.func (.func 43) #[] #[.pointer (some ⟨b5,0,none⟩),.pointer (some ⟨bn,0,none⟩)]) s91 = (.func (.func 43) #[] #[.pointer (some ⟨b5,0,none⟩),.pointer (some ⟨bn,0,none⟩)] : Value) := p2
      have r3 : pk (upd d_ 4 3) (.int .i64 (k : Int)) s92 = (.int .i64 (k : Int) : Value) := p3
      rw [r2,r3]
      all_goals rfl
    · have HF := Lib.hid F
      clear F
      go_simp
      refine HK.out _ _ ⟨?_,HF.out⟩
      all_goals rfl
    · have p5 : pk (d_ 5) (.pointer (some ⟨b9,3,none⟩)) s94 = (.pointer (some ⟨b9,3,none⟩) : Value) := pk_of (by simp [hdep] : d_ 5 = true) _ _
      have kk := kl6.out _ _ _ w1 F
      rw [p5]
      have HF := Lib.hid F
      clear F
      go_simp
      refine HK.out _ _ ⟨?_,HF.out⟩
      have r5 : pk (upd d_ 6 5) (.pointer (some ⟨b9,3,none⟩)) s94 = (.pointer (some ⟨b9,3,none⟩) : Value) := p5
      rw [r5]
      all_goals rfl
    · have HF := Lib.hid F
      clear F
      go_simp
      refine HK.out _ _ ⟨?_,HF.out⟩
      all_goals rfl
    · have HF := Lib.hid F
      clear F
      go_simp
      refine HK.out _ _ ⟨?_,HF.out⟩
      all_goals rfl
    · have p4 : pk (d_ 4) (.int .i64 (m : Int)) s93 = (.int .i64 (m : Int) : Value) := pk_of (by simp [hdep] : d_ 4 = true) _ _
      have p7 : pk (d_ 7) (.func (.func 43) #[] #[.pointer (some ⟨b5,0,none⟩),.pointer (some ⟨bn,0,none⟩)]) s96 = (.func (.func 43) #[] #[.pointer (some ⟨b5,0,none⟩),.pointer (some ⟨bn,0,none⟩)] : Value) := pk_of (by simp [hdep] : d_ 7 = true) _ _
      have p8 : pk (d_ 8) (.int .i64 (k : Int)) s97 = (.int .i64 (k : Int) : Value) := pk_of (by simp [hdep] : d_ 8 = true) _ _
      rw [p4,p7,p8]
      have hc := kc.out _ _ _ w1 F
      have HF := Lib.hid F
      clear F
      go_simp
      refine ⟨trivial,rfl,wideAt_calls (hc.mono ?_)⟩
      rintro e w5 ⟨rfl,rfl⟩
      refine HK.out _ _ ⟨?_,HF.out⟩
      have r4 : pk (upd d_ 9 4) (.int .i64 (m : Int)) s93 = (.int .i64 (m : Int) : Value) := p4
      have r7 : pk (upd d_ 9 7) (.func (.func 43) #[] #[.pointer (some ⟨b5,0,none⟩),.pointer (some ⟨bn,0,none⟩)]) s96 = (.func (.func 43) #[] #[.pointer (some ⟨b5,0,none⟩),.pointer (some ⟨bn,0,none⟩)] : Value) := p7
      have r8 : pk (upd d_ 9 8) (.int .i64 (k : Int)) s97 = (.int .i64 (k : Int) : Value) := p8
      rw [r4,r7,r8]
      all_goals rfl
    · have HF := Lib.hid F
      clear F
      go_simp
      refine HK.out _ _ ⟨?_,HF.out⟩
      all_goals rfl
    · have p10 : pk (d_ 10) (.pointer (some ⟨b9,4,none⟩)) s99 = (.pointer (some ⟨b9,4,none⟩) : Value) := pk_of (by simp [hdep] : d_ 10 = true) _ _
      have kk := kl11.out _ _ _ w1 F
      rw [p10]
      have HF := Lib.hid F
      clear F
      go_simp
      refine HK.out _ _ ⟨?_,HF.out⟩
      have r10 : pk (upd d_ 11 10) (.pointer (some ⟨b9,4,none⟩)) s99 = (.pointer (some ⟨b9,4,none⟩) : Value) := p10
      rw [r10]
      all_goals rfl
    · have HF := Lib.hid F
      clear F
      go_simp
      refine HK.out _ _ ⟨?_,HF.out⟩
      all_goals rfl
    · have HF := Lib.hid F
      clear F
      go_simp
      refine HK.out _ _ ⟨?_,HF.out⟩
      all_goals rfl
    · have p9 : pk (d_ 9) (.int .i64 (m : Int)) s98 = (.int .i64 (m : Int) : Value) := pk_of (by simp [hdep] : d_ 9 = true) _ _
      have p12 : pk (d_ 12) (.func (.func 43) #[] #[.pointer (some ⟨b5,0,none⟩),.pointer (some ⟨bn,0,none⟩)]) s101 = (.func (.func 43) #[] #[.pointer (some ⟨b5,0,none⟩),.pointer (some ⟨bn,0,none⟩)] : Value) := pk_of (by simp [hdep] : d_ 12 = true) _ _
      have p13 : pk (d_ 13) (.int .i64 (k : Int)) s102 = (.int .i64 (k : Int) : Value) := pk_of (by simp [hdep] : d_ 13 = true) _ _
      rw [p9,p12,p13]
      have hc := kc.out _ _ _ w1 F
      have HF := Lib.hid F
      clear F
      go_simp
      refine ⟨trivial,rfl,wideAt_calls (hc.mono ?_)⟩
      rintro e w5 ⟨rfl,rfl⟩
      refine HK.out _ _ ⟨?_,HF.out⟩
      have r9 : pk (upd d_ 14 9) (.int .i64 (m : Int)) s98 = (.int .i64 (m : Int) : Value) := p9
      have r12 : pk (upd d_ 14 12) (.func (.func 43) #[] #[.pointer (some ⟨b5,0,none⟩),.pointer (some ⟨bn,0,none⟩)]) s101 = (.func (.func 43) #[] #[.pointer (some ⟨b5,0,none⟩),.pointer (some ⟨bn,0,none⟩)] : Value) := p12
      have r13 : pk (upd d_ 14 13) (.int .i64 (k : Int)) s102 = (.int .i64 (k : Int) : Value) := p13
      rw [r9,r12,r13]
      all_goals rfl
    · have HF := Lib.hid F
      clear F
      go_simp
      refine HK.out _ _ ⟨?_,HF.out⟩
      all_goals rfl
    · have p15 : pk (d_ 15) (.pointer (some ⟨bx,1,none⟩)) s104 = (.pointer (some ⟨bx,1,none⟩) : Value) := pk_of (by simp [hdep] : d_ 15 = true) _ _
      have kk := kl16.out _ _ _ w1 F
      rw [p15]
      have HF := Lib.hid F
      clear F
      go_simp
      refine HK.out _ _ ⟨?_,HF.out⟩
      have r15 : pk (upd d_ 16 15) (.pointer (some ⟨bx,1,none⟩)) s104 = (.pointer (some ⟨bx,1,none⟩) : Value) := p15
      rw [r15]
      all_goals rfl
    · have HF := Lib.hid F
      clear F
      go_simp
      refine HK.out _ _ ⟨?_,HF.out⟩
      all_goals rfl
    · have p16 : pk (d_ 16) (.slice (some ⟨fb,fo,none⟩) n fc) s105 = (.slice (some ⟨fb,fo,none⟩) n fc : Value) := pk_of (by simp [hdep] : d_ 16 = true) _ _
      have p17 : pk (d_ 17) (.int .i64 (k : Int)) s106 = (.int .i64 (k : Int) : Value) := pk_of (by simp [hdep] : d_ 17 = true) _ _
      have hkn2 : k < n := hkn
      have hmn2 : m < n := hmn
      rw [p16,p17]
      have HF := Lib.hid F
      clear F
      go_simp
      refine HK.out _ _ ⟨?_,HF.out⟩
      have r16 : pk (upd d_ 18 16) (.slice (some ⟨fb,fo,none⟩) n fc) s105 = (.slice (some ⟨fb,fo,none⟩) n fc : Value) := p16
      have r17 : pk (upd d_ 18 17) (.int .i64 (k : Int)) s106 = (.int .i64 (k : Int) : Value) := p17
      rw [r16,r17]
      all_goals rfl
    · have p18 : pk (d_ 18) (.pointer (some ⟨fb,fo + k * 2,none⟩)) s107 = (.pointer (some ⟨fb,fo + k * 2,none⟩) : Value) := pk_of (by simp [hdep] : d_ 18 = true) _ _
      have kk := kl19.out _ _ _ w1 F
      obtain ⟨kk0,kk1⟩ := kk
      rw [p18]
      have HF := Lib.hid F
      clear F
      go_simp
      refine HK.out _ _ ⟨?_,HF.out⟩
      have r18 : pk (upd d_ 19 18) (.pointer (some ⟨fb,fo + k * 2,none⟩)) s107 = (.pointer (some ⟨fb,fo + k * 2,none⟩) : Value) := p18
      rw [r18]
      all_goals rfl
    · have HF := Lib.hid F
      clear F
      go_simp
      refine HK.out _ _ ⟨?_,HF.out⟩
      all_goals rfl
    · have p20 : pk (d_ 20) (.pointer (some ⟨bx,3,none⟩)) s109 = (.pointer (some ⟨bx,3,none⟩) : Value) := pk_of (by simp [hdep] : d_ 20 = true) _ _
      have kk := kl21.out _ _ _ w1 F
      rw [p20]
      have HF := Lib.hid F
      clear F
      go_simp
      refine HK.out _ _ ⟨?_,HF.out⟩
      have r20 : pk (upd d_ 21 20) (.pointer (some ⟨bx,3,none⟩)) s109 = (.pointer (some ⟨bx,3,none⟩) : Value) := p20
      rw [r20]
      all_goals rfl
    · have HF := Lib.hid F
      clear F
      go_simp
      refine HK.out _ _ ⟨?_,HF.out⟩
      all_goals rfl
    · have p21 : pk (d_ 21) (.slice (some ⟨sb,so,none⟩) n sc) s110 = (.slice (some ⟨sb,so,none⟩) n sc : Value) := pk_of (by simp [hdep] : d_ 21 = true) _ _
      have p22 : pk (d_ 22) (.int .i64 (k : Int)) s111 = (.int .i64 (k : Int) : Value) := pk_of (by simp [hdep] : d_ 22 = true) _ _
      have hkn2 : k < n := hkn
      have hmn2 : m < n := hmn
      rw [p21,p22]
      have HF := Lib.hid F
      clear F
      go_simp
      refine HK.out _ _ ⟨?_,HF.out⟩
      have r21 : pk (upd d_ 23 21) (.slice (some ⟨sb,so,none⟩) n sc) s110 = (.slice (some ⟨sb,so,none⟩) n sc : Value) := p21
      have r22 : pk (upd d_ 23 22) (.int .i64 (k : Int)) s111 = (.int .i64 (k : Int) : Value) := p22
      rw [r21,r22]
      all_goals rfl
    · have p23 : pk (d_ 23) (.pointer (some ⟨sb,so + k * 2,none⟩)) s112 = (.pointer (some ⟨sb,so + k * 2,none⟩) : Value) := pk_of (by simp [hdep] : d_ 23 = true) _ _
      have kk := kl24.out _ _ _ w1 F
      obtain ⟨kk0,kk1⟩ := kk
      rw [p23]
      have HF := Lib.hid F
      clear F
      go_simp
      refine HK.out _ _ ⟨?_,HF.out⟩
      have r23 : pk (upd d_ 24 23) (.pointer (some ⟨sb,so + k * 2,none⟩)) s112 = (.pointer (some ⟨sb,so + k * 2,none⟩) : Value) := p23
      rw [r23]
      all_goals rfl
    · have HF := Lib.hid F
      clear F
      go_simp
      refine HK.out _ _ ⟨?_,HF.out⟩
      all_goals rfl
    · have p25 : pk (d_ 25) (.pointer (some ⟨bx,4,none⟩)) s114 = (.pointer (some ⟨bx,4,none⟩) : Value) := pk_of (by simp [hdep] : d_ 25 = true) _ _
      have kk := kl26.out _ _ _ w1 F
      rw [p25]
      have HF := Lib.hid F
      clear F
      go_simp
      refine HK.out _ _ ⟨?_,HF.out⟩
      have r25 : pk (upd d_ 26 25) (.pointer (some ⟨bx,4,none⟩)) s114 = (.pointer (some ⟨bx,4,none⟩) : Value) := p25
      rw [r25]
      all_goals rfl
    · have HF := Lib.hid F
      clear F
      go_simp
      refine HK.out _ _ ⟨?_,HF.out⟩
      all_goals rfl
    · have p26 : pk (d_ 26) (.slice (some ⟨lb,lo,none⟩) n lc) s115 = (.slice (some ⟨lb,lo,none⟩) n lc : Value) := pk_of (by simp [hdep] : d_ 26 = true) _ _
      have p27 : pk (d_ 27) (.int .i64 (k : Int)) s116 = (.int .i64 (k : Int) : Value) := pk_of (by simp [hdep] : d_ 27 = true) _ _
      have hkn2 : k < n := hkn
      have hmn2 : m < n := hmn
      rw [p26,p27]
      have HF := Lib.hid F
      clear F
      go_simp
      refine HK.out _ _ ⟨?_,HF.out⟩
      have r26 : pk (upd d_ 28 26) (.slice (some ⟨lb,lo,none⟩) n lc) s115 = (.slice (some ⟨lb,lo,none⟩) n lc : Value) := p26
      have r27 : pk (upd d_ 28 27) (.int .i64 (k : Int)) s116 = (.int .i64 (k : Int) : Value) := p27
      rw [r26,r27]
      all_goals rfl
    · have p28 : pk (d_ 28) (.pointer (some ⟨lb,lo + k * 2,none⟩)) s117 = (.pointer (some ⟨lb,lo + k * 2,none⟩) : Value) := pk_of (by simp [hdep] : d_ 28 = true) _ _
      have kk := kl29.out _ _ _ w1 F
      obtain ⟨kk0,kk1⟩ := kk
      rw [p28]
      have HF := Lib.hid F
      clear F
      go_simp
      refine HK.out _ _ ⟨?_,HF.out⟩
      have r28 : pk (upd d_ 29 28) (.pointer (some ⟨lb,lo + k * 2,none⟩)) s117 = (.pointer (some ⟨lb,lo + k * 2,none⟩) : Value) := p28
      rw [r28]
      all_goals rfl
    · have p0 : pk (d_ 0) (.pointer (some ⟨b9,1,none⟩)) s89 = (.pointer (some ⟨b9,1,none⟩) : Value) := pk_of (by simp [hdep] : d_ 0 = true) _ _
      have p1 : pk (d_ 1) (.slice (some ⟨g1,0,none⟩) n n) s90 = (.slice (some ⟨g1,0,none⟩) n n : Value) := pk_of (by simp [hdep] : d_ 1 = true) _ _
      have p2 : pk (d_ 2) (.func (.func 43) #[] #[.pointer (some ⟨b5,0,none⟩),.pointer (some ⟨bn,0,none⟩)]) s91 = (.func (.func 43) #[] #[.pointer (some ⟨b5,0,none⟩),.pointer (some ⟨bn,0,none⟩)] : Value) := pk_of (by simp [hdep] : d_ 2 = true) _ _
      have p3 : pk (d_ 3) (.int .i64 (k : Int)) s92 = (.int .i64 (k : Int) : Value) := pk_of (by simp [hdep] : d_ 3 = true) _ _
      have p4 : pk (d_ 4) (.int .i64 (m : Int)) s93 = (.int .i64 (m : Int) : Value) := pk_of (by simp [hdep] : d_ 4 = true) _ _
      have p9 : pk (d_ 9) (.int .i64 (m : Int)) s98 = (.int .i64 (m : Int) : Value) := pk_of (by simp [hdep] : d_ 9 = true) _ _
      have p14 : pk (d_ 14) (.int .i64 (m : Int)) s103 = (.int .i64 (m : Int) : Value) := pk_of (by simp [hdep] : d_ 14 = true) _ _
      have p15 : pk (d_ 15) (.pointer (some ⟨bx,1,none⟩)) s104 = (.pointer (some ⟨bx,1,none⟩) : Value) := pk_of (by simp [hdep] : d_ 15 = true) _ _
      have p16 : pk (d_ 16) (.slice (some ⟨fb,fo,none⟩) n fc) s105 = (.slice (some ⟨fb,fo,none⟩) n fc : Value) := pk_of (by simp [hdep] : d_ 16 = true) _ _
      have p17 : pk (d_ 17) (.int .i64 (k : Int)) s106 = (.int .i64 (k : Int) : Value) := pk_of (by simp [hdep] : d_ 17 = true) _ _
      have p18 : pk (d_ 18) (.pointer (some ⟨fb,fo + k * 2,none⟩)) s107 = (.pointer (some ⟨fb,fo + k * 2,none⟩) : Value) := pk_of (by simp [hdep] : d_ 18 = true) _ _
      have p19 : pk (d_ 19) (.agg #[.int .i64 s1_.lo,.int .i64 s1_.hi]) s108 = (.agg #[.int .i64 s1_.lo,.int .i64 s1_.hi] : Value) := pk_of (by simp [hdep] : d_ 19 = true) _ _
      have p24 : pk (d_ 24) (.agg #[.int .i64 s2_.lo,.int .i64 s2_.hi]) s113 = (.agg #[.int .i64 s2_.lo,.int .i64 s2_.hi] : Value) := pk_of (by simp [hdep] : d_ 24 = true) _ _
      have p29 : pk (d_ 29) (.agg #[.int .i64 s3_.lo,.int .i64 s3_.hi]) s118 = (.agg #[.int .i64 s3_.lo,.int .i64 s3_.hi] : Value) := pk_of (by simp [hdep] : d_ 29 = true) _ _
      have hkn2 : k < n := hkn
      have hmn2 : m < n := hmn
      rw [p0,p1,p2,p3,p4,p9,p14,p15,p16,p17,p18,p19,p24,p29]
      have HF := Lib.hid F
      clear F
      go_simp
      refine HK.out _ _ ⟨?_,HF.out⟩
      have r0 : pk (upd d_ 30 0) (.pointer (some ⟨b9,1,none⟩)) s89 = (.pointer (some ⟨b9,1,none⟩) : Value) := p0
      have r1 : pk (upd d_ 30 1) (.slice (some ⟨g1,0,none⟩) n n) s90 = (.slice (some ⟨g1,0,none⟩) n n : Value) := p1
      have r2 : pk (upd d_ 30 2) (.func (.func 43) #[] #[.pointer (some ⟨b5,0,none⟩),.pointer (some ⟨bn,0,none⟩)]) s91 = (.func (.func 43) #[] #[.pointer (some ⟨b5,0,none⟩),.pointer (some ⟨bn,0,none⟩)] : Value) := p2
      have r3 : pk (upd d_ 30 3) (.int .i64 (k : Int)) s92 = (.int .i64 (k : Int) : Value) := p3
      have r4 : pk (upd d_ 30 4) (.int .i64 (m : Int)) s93 = (.int .i64 (m : Int) : Value) := p4
      have r9 : pk (upd d_ 30 9) (.int .i64 (m : Int)) s98 = (.int .i64 (m : Int) : Value) := p9
      have r14 : pk (upd d_ 30 14) (.int .i64 (m : Int)) s103 = (.int .i64 (m : Int) : Value) := p14
      have r15 : pk (upd d_ 30 15) (.pointer (some ⟨bx,1,none⟩)) s104 = (.pointer (some ⟨bx,1,none⟩) : Value) := p15
      have r16 : pk (upd d_ 30 16) (.slice (some ⟨fb,fo,none⟩) n fc) s105 = (.slice (some ⟨fb,fo,none⟩) n fc : Value) := p16
      have r17 : pk (upd d_ 30 17) (.int .i64 (k : Int)) s106 = (.int .i64 (k : Int) : Value) := p17
      have r18 : pk (upd d_ 30 18) (.pointer (some ⟨fb,fo + k * 2,none⟩)) s107 = (.pointer (some ⟨fb,fo + k * 2,none⟩) : Value) := p18
      have r19 : pk (upd d_ 30 19) (.agg #[.int .i64 s1_.lo,.int .i64 s1_.hi]) s108 = (.agg #[.int .i64 s1_.lo,.int .i64 s1_.hi] : Value) := p19
      have r24 : pk (upd d_ 30 24) (.agg #[.int .i64 s2_.lo,.int .i64 s2_.hi]) s113 = (.agg #[.int .i64 s2_.lo,.int .i64 s2_.hi] : Value) := p24
      have r29 : pk (upd d_ 30 29) (.agg #[.int .i64 s3_.lo,.int .i64 s3_.hi]) s118 = (.agg #[.int .i64 s3_.lo,.int .i64 s3_.hi] : Value) := p29
      rw [r0,r1,r2,r3,r4,r9,r14,r15,r16,r17,r18,r19,r24,r29]
      all_goals rfl
    · have p0 : pk (d_ 0) (.pointer (some ⟨b9,1,none⟩)) s89 = (.pointer (some ⟨b9,1,none⟩) : Value) := pk_of (by simp [hdep] : d_ 0 = true) _ _
      have p1 : pk (d_ 1) (.slice (some ⟨g1,0,none⟩) n n) s90 = (.slice (some ⟨g1,0,none⟩) n n : Value) := pk_of (by simp [hdep] : d_ 1 = true) _ _
      have p2 : pk (d_ 2) (.func (.func 43) #[] #[.pointer (some ⟨b5,0,none⟩),.pointer (some ⟨bn,0,none⟩)]) s91 = (.func (.func 43) #[] #[.pointer (some ⟨b5,0,none⟩),.pointer (some ⟨bn,0,none⟩)] : Value) := pk_of (by simp [hdep] : d_ 2 = true) _ _
      have p3 : pk (d_ 3) (.int .i64 (k : Int)) s92 = (.int .i64 (k : Int) : Value) := pk_of (by simp [hdep] : d_ 3 = true) _ _
      have p4 : pk (d_ 4) (.int .i64 (m : Int)) s93 = (.int .i64 (m : Int) : Value) := pk_of (by simp [hdep] : d_ 4 = true) _ _
      have p9 : pk (d_ 9) (.int .i64 (m : Int)) s98 = (.int .i64 (m : Int) : Value) := pk_of (by simp [hdep] : d_ 9 = true) _ _
      have p14 : pk (d_ 14) (.int .i64 (m : Int)) s103 = (.int .i64 (m : Int) : Value) := pk_of (by simp [hdep] : d_ 14 = true) _ _
      have p15 : pk (d_ 15) (.pointer (some ⟨bx,1,none⟩)) s104 = (.pointer (some ⟨bx,1,none⟩) : Value) := pk_of (by simp [hdep] : d_ 15 = true) _ _
      have p16 : pk (d_ 16) (.slice (some ⟨fb,fo,none⟩) n fc) s105 = (.slice (some ⟨fb,fo,none⟩) n fc : Value) := pk_of (by simp [hdep] : d_ 16 = true) _ _
      have p17 : pk (d_ 17) (.int .i64 (k : Int)) s106 = (.int .i64 (k : Int) : Value) := pk_of (by simp [hdep] : d_ 17 = true) _ _
      have p18 : pk (d_ 18) (.pointer (some ⟨fb,fo + k * 2,none⟩)) s107 = (.pointer (some ⟨fb,fo + k * 2,none⟩) : Value) := pk_of (by simp [hdep] : d_ 18 = true) _ _
      have p19 : pk (d_ 19) (.agg #[.int .i64 s1_.lo,.int .i64 s1_.hi]) s108 = (.agg #[.int .i64 s1_.lo,.int .i64 s1_.hi] : Value) := pk_of (by simp [hdep] : d_ 19 = true) _ _
      have p24 : pk (d_ 24) (.agg #[.int .i64 s2_.lo,.int .i64 s2_.hi]) s113 = (.agg #[.int .i64 s2_.lo,.int .i64 s2_.hi] : Value) := pk_of (by simp [hdep] : d_ 24 = true) _ _
      have p29 : pk (d_ 29) (.agg #[.int .i64 s3_.lo,.int .i64 s3_.hi]) s118 = (.agg #[.int .i64 s3_.lo,.int .i64 s3_.hi] : Value) := pk_of (by simp [hdep] : d_ 29 = true) _ _
      have p30 : pk (d_ 30) (.pointer (some ⟨g1,m * 2,none⟩)) s119 = (.pointer (some ⟨g1,m * 2,none⟩) : Value) := pk_of (by simp [hdep] : d_ 30 = true) _ _
      rw [p0,p1,p2,p3,p4,p9,p14,p15,p16,p17,p18,p19,p24,p29,p30]
      have hds : d_ 31 = false := hd_
      rw [hds] at F
      obtain ⟨⟨u0,c0⟩,f0,⟨u1,c1⟩,f1,hR⟩ := ks31.out _ _ w1 F
      have HF := Lib.hid hR
      clear F hR
      go_simp
      refine HK.out _ _ ⟨?_,HF.out⟩
      have r0 : pk (upd d_ 31 0) (.pointer (some ⟨b9,1,none⟩)) s89 = (.pointer (some ⟨b9,1,none⟩) : Value) := p0
      have r1 : pk (upd d_ 31 1) (.slice (some ⟨g1,0,none⟩) n n) s90 = (.slice (some ⟨g1,0,none⟩) n n : Value) := p1
      have r2 : pk (upd d_ 31 2) (.func (.func 43) #[] #[.pointer (some ⟨b5,0,none⟩),.pointer (some ⟨bn,0,none⟩)]) s91 = (.func (.func 43) #[] #[.pointer (some ⟨b5,0,none⟩),.pointer (some ⟨bn,0,none⟩)] : Value) := p2
      have r3 : pk (upd d_ 31 3) (.int .i64 (k : Int)) s92 = (.int .i64 (k : Int) : Value) := p3
      have r4 : pk (upd d_ 31 4) (.int .i64 (m : Int)) s93 = (.int .i64 (m : Int) : Value) := p4
      have r9 : pk (upd d_ 31 9) (.int .i64 (m : Int)) s98 = (.int .i64 (m : Int) : Value) := p9
      have r14 : pk (upd d_ 31 14) (.int .i64 (m : Int)) s103 = (.int .i64 (m : Int) : Value) := p14
      have r15 : pk (upd d_ 31 15) (.pointer (some ⟨bx,1,none⟩)) s104 = (.pointer (some ⟨bx,1,none⟩) : Value) := p15
      have r16 : pk (upd d_ 31 16) (.slice (some ⟨fb,fo,none⟩) n fc) s105 = (.slice (some ⟨fb,fo,none⟩) n fc : Value) := p16
      have r17 : pk (upd d_ 31 17) (.int .i64 (k : Int)) s106 = (.int .i64 (k : Int) : Value) := p17
      have r18 : pk (upd d_ 31 18) (.pointer (some ⟨fb,fo + k * 2,none⟩)) s107 = (.pointer (some ⟨fb,fo + k * 2,none⟩) : Value) := p18
      have r19 : pk (upd d_ 31 19) (.agg #[.int .i64 s1_.lo,.int .i64 s1_.hi]) s108 = (.agg #[.int .i64 s1_.lo,.int .i64 s1_.hi] : Value) := p19
      have r24 : pk (upd d_ 31 24) (.agg #[.int .i64 s2_.lo,.int .i64 s2_.hi]) s113 = (.agg #[.int .i64 s2_.lo,.int .i64 s2_.hi] : Value) := p24
      have r29 : pk (upd d_ 31 29) (.agg #[.int .i64 s3_.lo,.int .i64 s3_.hi]) s118 = (.agg #[.int .i64 s3_.lo,.int .i64 s3_.hi] : Value) := p29
      have r30 : pk (upd d_ 31 30) (.pointer (some ⟨g1,m * 2,none⟩)) s119 = (.pointer (some ⟨g1,m * 2,none⟩) : Value) := p30
      rw [r0,r1,r2,r3,r4,r9,r14,r15,r16,r17,r18,r19,r24,r29,r30]
      all_goals rfl
    · have p0 : pk (d_ 0) (.pointer (some ⟨b9,1,none⟩)) s89 = (.pointer (some ⟨b9,1,none⟩) : Value) := pk_of (by simp [hdep] : d_ 0 = true) _ _
      have p1 : pk (d_ 1) (.slice (some ⟨g1,0,none⟩) n n) s90 = (.slice (some ⟨g1,0,none⟩) n n : Value) := pk_of (by simp [hdep] : d_ 1 = true) _ _
      have p2 : pk (d_ 2) (.func (.func 43) #[] #[.pointer (some ⟨b5,0,none⟩),.pointer (some ⟨bn,0,none⟩)]) s91 = (.func (.func 43) #[] #[.pointer (some ⟨b5,0,none⟩),.pointer (some ⟨bn,0,none⟩)] : Value) := pk_of (by simp [hdep] : d_ 2 = true) _ _
      have p3 : pk (d_ 3) (.int .i64 (k : Int)) s92 = (.int .i64 (k : Int) : Value) := pk_of (by simp [hdep] : d_ 3 = true) _ _
      have p4 : pk (d_ 4) (.int .i64 (m : Int)) s93 = (.int .i64 (m : Int) : Value) := pk_of (by simp [hdep] : d_ 4 = true) _ _
      have p5 : pk (d_ 5) (.pointer (some ⟨b9,3,none⟩)) s94 = (.pointer (some ⟨b9,3,none⟩) : Value) := pk_of (by simp [hdep] : d_ 5 = true) _ _
      have p6 : pk (d_ 6) (.slice (some ⟨g3,0,none⟩) n n) s95 = (.slice (some ⟨g3,0,none⟩) n n : Value) := pk_of (by simp [hdep] : d_ 6 = true) _ _
      have p7 : pk (d_ 7) (.func (.func 43) #[] #[.pointer (some ⟨b5,0,none⟩),.pointer (some ⟨bn,0,none⟩)]) s96 = (.func (.func 43) #[] #[.pointer (some ⟨b5,0,none⟩),.pointer (some ⟨bn,0,none⟩)] : Value) := pk_of (by simp [hdep] : d_ 7 = true) _ _
      have p8 : pk (d_ 8) (.int .i64 (k : Int)) s97 = (.int .i64 (k : Int) : Value) := pk_of (by simp [hdep] : d_ 8 = true) _ _
      have p9 : pk (d_ 9) (.int .i64 (m : Int)) s98 = (.int .i64 (m : Int) : Value) := pk_of (by simp [hdep] : d_ 9 = true) _ _
      have p14 : pk (d_ 14) (.int .i64 (m : Int)) s103 = (.int .i64 (m : Int) : Value) := pk_of (by simp [hdep] : d_ 14 = true) _ _
      have p15 : pk (d_ 15) (.pointer (some ⟨bx,1,none⟩)) s104 = (.pointer (some ⟨bx,1,none⟩) : Value) := pk_of (by simp [hdep] : d_ 15 = true) _ _
      have p16 : pk (d_ 16) (.slice (some ⟨fb,fo,none⟩) n fc) s105 = (.slice (some ⟨fb,fo,none⟩) n fc : Value) := pk_of (by simp [hdep] : d_ 16 = true) _ _
      have p17 : pk (d_ 17) (.int .i64 (k : Int)) s106 = (.int .i64 (k : Int) : Value) := pk_of (by simp [hdep] : d_ 17 = true) _ _
      have p18 : pk (d_ 18) (.pointer (some ⟨fb,fo + k * 2,none⟩)) s107 = (.pointer (some ⟨fb,fo + k * 2,none⟩) : Value) := pk_of (by simp [hdep] : d_ 18 = true) _ _
      have p19 : pk (d_ 19) (.agg #[.int .i64 s1_.lo,.int .i64 s1_.hi]) s108 = (.agg #[.int .i64 s1_.lo,.int .i64 s1_.hi] : Value) := pk_of (by simp [hdep] : d_ 19 = true) _ _
      have p20 : pk (d_ 20) (.pointer (some ⟨bx,3,none⟩)) s109 = (.pointer (some ⟨bx,3,none⟩) : Value) := pk_of (by simp [hdep] : d_ 20 = true) _ _
      have p21 : pk (d_ 21) (.slice (some ⟨sb,so,none⟩) n sc) s110 = (.slice (some ⟨sb,so,none⟩) n sc : Value) := pk_of (by simp [hdep] : d_ 21 = true) _ _
      have p22 : pk (d_ 22) (.int .i64 (k : Int)) s111 = (.int .i64 (k : Int) : Value) := pk_of (by simp [hdep] : d_ 22 = true) _ _
      have p23 : pk (d_ 23) (.pointer (some ⟨sb,so + k * 2,none⟩)) s112 = (.pointer (some ⟨sb,so + k * 2,none⟩) : Value) := pk_of (by simp [hdep] : d_ 23 = true) _ _
      have p24 : pk (d_ 24) (.agg #[.int .i64 s2_.lo,.int .i64 s2_.hi]) s113 = (.agg #[.int .i64 s2_.lo,.int .i64 s2_.hi] : Value) := pk_of (by simp [hdep] : d_ 24 = true) _ _
      have p29 : pk (d_ 29) (.agg #[.int .i64 s3_.lo,.int .i64 s3_.hi]) s118 = (.agg #[.int .i64 s3_.lo,.int .i64 s3_.hi] : Value) := pk_of (by simp [hdep] : d_ 29 = true) _ _
      have p30 : pk (d_ 30) (.pointer (some ⟨g1,m * 2,none⟩)) s119 = (.pointer (some ⟨g1,m * 2,none⟩) : Value) := pk_of (by simp [hdep] : d_ 30 = true) _ _
      have hkn2 : k < n := hkn
      have hmn2 : m < n := hmn
      rw [p0,p1,p2,p3,p4,p5,p6,p7,p8,p9,p14,p15,p16,p17,p18,p19,p20,p21,p22,p23,p24,p29,p30]
      have HF := Lib.hid F
      clear F
      go_simp
      refine HK.out _ _ ⟨?_,HF.out⟩
      have r0 : pk (upd d_ 32 0) (.pointer (some ⟨b9,1,none⟩)) s89 = (.pointer (some ⟨b9,1,none⟩) : Value) := p0
      have r1 : pk (upd d_ 32 1) (.slice (some ⟨g1,0,none⟩) n n) s90 = (.slice (some ⟨g1,0,none⟩) n n : Value) := p1
      have r2 : pk (upd d_ 32 2) (.func (.func 43) #[] #[.pointer (some ⟨b5,0,none⟩),.pointer (some ⟨bn,0,none⟩)]) s91 = (.func (.func 43) #[] #[.pointer (some ⟨b5,0,none⟩),.pointer (some ⟨bn,0,none⟩)] : Value) := p2
      have r3 : pk (upd d_ 32 3) (.int .i64 (k : Int)) s92 = (.int .i64 (k : Int) : Value) := p3
      have r4 : pk (upd d_ 32 4) (.int .i64 (m : Int)) s93 = (.int .i64 (m : Int) : Value) := p4
      have r5 : pk (upd d_ 32 5) (.pointer (some ⟨b9,3,none⟩)) s94 = (.pointer (some ⟨b9,3,none⟩) : Value) := p5
      have r6 : pk (upd d_ 32 6) (.slice (some ⟨g3,0,none⟩) n n) s95 = (.slice (some ⟨g3,0,none⟩) n n : Value) := p6
      have r7 : pk (upd d_ 32 7) (.func (.func 43) #[] #[.pointer (some ⟨b5,0,none⟩),.pointer (some ⟨bn,0,none⟩)]) s96 = (.func (.func 43) #[] #[.pointer (some ⟨b5,0,none⟩),.pointer (some ⟨bn,0,none⟩)] : Value) := p7
      have r8 : pk (upd d_ 32 8) (.int .i64 (k : Int)) s97 = (.int .i64 (k : Int) : Value) := p8
      have r9 : pk (upd d_ 32 9) (.int .i64 (m : Int)) s98 = (.int .i64 (m : Int) : Value) := p9
      have r14 : pk (upd d_ 32 14) (.int .i64 (m : Int)) s103 = (.int .i64 (m : Int) : Value) := p14
      have r15 : pk (upd d_ 32 15) (.pointer (some ⟨bx,1,none⟩)) s104 = (.pointer (some ⟨bx,1,none⟩) : Value) := p15
      have r16 : pk (upd d_ 32 16) (.slice (some ⟨fb,fo,none⟩) n fc) s105 = (.slice (some ⟨fb,fo,none⟩) n fc : Value) := p16
      have r17 : pk (upd d_ 32 17) (.int .i64 (k : Int)) s106 = (.int .i64 (k : Int) : Value) := p17
      have r18 : pk (upd d_ 32 18) (.pointer (some ⟨fb,fo + k * 2,none⟩)) s107 = (.pointer (some ⟨fb,fo + k * 2,none⟩) : Value) := p18
      have r19 : pk (upd d_ 32 19) (.agg #[.int .i64 s1_.lo,.int .i64 s1_.hi]) s108 = (.agg #[.int .i64 s1_.lo,.int .i64 s1_.hi] : Value) := p19
      have r20 : pk (upd d_ 32 20) (.pointer (some ⟨bx,3,none⟩)) s109 = (.pointer (some ⟨bx,3,none⟩) : Value) := p20
      have r21 : pk (upd d_ 32 21) (.slice (some ⟨sb,so,none⟩) n sc) s110 = (.slice (some ⟨sb,so,none⟩) n sc : Value) := p21
      have r22 : pk (upd d_ 32 22) (.int .i64 (k : Int)) s111 = (.int .i64 (k : Int) : Value) := p22
      have r23 : pk (upd d_ 32 23) (.pointer (some ⟨sb,so + k * 2,none⟩)) s112 = (.pointer (some ⟨sb,so + k * 2,none⟩) : Value) := p23
      have r24 : pk (upd d_ 32 24) (.agg #[.int .i64 s2_.lo,.int .i64 s2_.hi]) s113 = (.agg #[.int .i64 s2_.lo,.int .i64 s2_.hi] : Value) := p24
      have r29 : pk (upd d_ 32 29) (.agg #[.int .i64 s3_.lo,.int .i64 s3_.hi]) s118 = (.agg #[.int .i64 s3_.lo,.int .i64 s3_.hi] : Value) := p29
      have r30 : pk (upd d_ 32 30) (.pointer (some ⟨g1,m * 2,none⟩)) s119 = (.pointer (some ⟨g1,m * 2,none⟩) : Value) := p30
      rw [r0,r1,r2,r3,r4,r5,r6,r7,r8,r9,r14,r15,r16,r17,r18,r19,r20,r21,r22,r23,r24,r29,r30]
      all_goals rfl
    · have p0 : pk (d_ 0) (.pointer (some ⟨b9,1,none⟩)) s89 = (.pointer (some ⟨b9,1,none⟩) : Value) := pk_of (by simp [hdep] : d_ 0 = true) _ _
      have p1 : pk (d_ 1) (.slice (some ⟨g1,0,none⟩) n n) s90 = (.slice (some ⟨g1,0,none⟩) n n : Value) := pk_of (by simp [hdep] : d_ 1 = true) _ _
      have p2 : pk (d_ 2) (.func (.func 43) #[] #[.pointer (some ⟨b5,0,none⟩),.pointer (some ⟨bn,0,none⟩)]) s91 = (.func (.func 43) #[] #[.pointer (some ⟨b5,0,none⟩),.pointer (some ⟨bn,0,none⟩)] : Value) := pk_of (by simp [hdep] : d_ 2 = true) _ _
      have p3 : pk (d_ 3) (.int .i64 (k : Int)) s92 = (.int .i64 (k : Int) : Value) := pk_of (by simp [hdep] : d_ 3 = true) _ _
      have p4 : pk (d_ 4) (.int .i64 (m : Int)) s93 = (.int .i64 (m : Int) : Value) := pk_of (by simp [hdep] : d_ 4 = true) _ _
      have p5 : pk (d_ 5) (.pointer (some ⟨b9,3,none⟩)) s94 = (.pointer (some ⟨b9,3,none⟩) : Value) := pk_of (by simp [hdep] : d_ 5 = true) _ _
      have p6 : pk (d_ 6) (.slice (some ⟨g3,0,none⟩) n n) s95 = (.slice (some ⟨g3,0,none⟩) n n : Value) := pk_of (by simp [hdep] : d_ 6 = true) _ _
      have p7 : pk (d_ 7) (.func (.func 43) #[] #[.pointer (some ⟨b5,0,none⟩),.pointer (some ⟨bn,0,none⟩)]) s96 = (.func (.func 43) #[] #[.pointer (some ⟨b5,0,none⟩),.pointer (some ⟨bn,0,none⟩)] : Value) := pk_of (by simp [hdep] : d_ 7 = true) _ _
      have p8 : pk (d_ 8) (.int .i64 (k : Int)) s97 = (.int .i64 (k : Int) : Value) := pk_of (by simp [hdep] : d_ 8 = true) _ _
      have p9 : pk (d_ 9) (.int .i64 (m : Int)) s98 = (.int .i64 (m : Int) : Value) := pk_of (by simp [hdep] : d_ 9 = true) _ _
      have p14 : pk (d_ 14) (.int .i64 (m : Int)) s103 = (.int .i64 (m : Int) : Value) := pk_of (by simp [hdep] : d_ 14 = true) _ _
      have p15 : pk (d_ 15) (.pointer (some ⟨bx,1,none⟩)) s104 = (.pointer (some ⟨bx,1,none⟩) : Value) := pk_of (by simp [hdep] : d_ 15 = true) _ _
      have p16 : pk (d_ 16) (.slice (some ⟨fb,fo,none⟩) n fc) s105 = (.slice (some ⟨fb,fo,none⟩) n fc : Value) := pk_of (by simp [hdep] : d_ 16 = true) _ _
      have p17 : pk (d_ 17) (.int .i64 (k : Int)) s106 = (.int .i64 (k : Int) : Value) := pk_of (by simp [hdep] : d_ 17 = true) _ _
      have p18 : pk (d_ 18) (.pointer (some ⟨fb,fo + k * 2,none⟩)) s107 = (.pointer (some ⟨fb,fo + k * 2,none⟩) : Value) := pk_of (by simp [hdep] : d_ 18 = true) _ _
      have p19 : pk (d_ 19) (.agg #[.int .i64 s1_.lo,.int .i64 s1_.hi]) s108 = (.agg #[.int .i64 s1_.lo,.int .i64 s1_.hi] : Value) := pk_of (by simp [hdep] : d_ 19 = true) _ _
      have p20 : pk (d_ 20) (.pointer (some ⟨bx,3,none⟩)) s109 = (.pointer (some ⟨bx,3,none⟩) : Value) := pk_of (by simp [hdep] : d_ 20 = true) _ _
      have p21 : pk (d_ 21) (.slice (some ⟨sb,so,none⟩) n sc) s110 = (.slice (some ⟨sb,so,none⟩) n sc : Value) := pk_of (by simp [hdep] : d_ 21 = true) _ _
      have p22 : pk (d_ 22) (.int .i64 (k : Int)) s111 = (.int .i64 (k : Int) : Value) := pk_of (by simp [hdep] : d_ 22 = true) _ _
      have p23 : pk (d_ 23) (.pointer (some ⟨sb,so + k * 2,none⟩)) s112 = (.pointer (some ⟨sb,so + k * 2,none⟩) : Value) := pk_of (by simp [hdep] : d_ 23 = true) _ _
      have p24 : pk (d_ 24) (.agg #[.int .i64 s2_.lo,.int .i64 s2_.hi]) s113 = (.agg #[.int .i64 s2_.lo,.int .i64 s2_.hi] : Value) := pk_of (by simp [hdep] : d_ 24 = true) _ _
      have p29 : pk (d_ 29) (.agg #[.int .i64 s3_.lo,.int .i64 s3_.hi]) s118 = (.agg #[.int .i64 s3_.lo,.int .i64 s3_.hi] : Value) := pk_of (by simp [hdep] : d_ 29 = true) _ _
      have p30 : pk (d_ 30) (.pointer (some ⟨g1,m * 2,none⟩)) s119 = (.pointer (some ⟨g1,m * 2,none⟩) : Value) := pk_of (by simp [hdep] : d_ 30 = true) _ _
      have p32 : pk (d_ 32) (.pointer (some ⟨g3,m * 2,none⟩)) s120 = (.pointer (some ⟨g3,m * 2,none⟩) : Value) := pk_of (by simp [hdep] : d_ 32 = true) _ _
      rw [p0,p1,p2,p3,p4,p5,p6,p7,p8,p9,p14,p15,p16,p17,p18,p19,p20,p21,p22,p23,p24,p29,p30,p32]
      have hds : d_ 33 = false := hd_
      rw [hds] at F
      obtain ⟨⟨u0,c0⟩,f0,⟨u1,c1⟩,f1,hR⟩ := ks33.out _ _ w1 F
      have HF := Lib.hid hR
      clear F hR
      go_simp
      refine HK.out _ _ ⟨?_,HF.out⟩
      have r0 : pk (upd d_ 33 0) (.pointer (some ⟨b9,1,none⟩)) s89 = (.pointer (some ⟨b9,1,none⟩) : Value) := p0
      have r1 : pk (upd d_ 33 1) (.slice (some ⟨g1,0,none⟩) n n) s90 = (.slice (some ⟨g1,0,none⟩) n n : Value) := p1
      have r2 : pk (upd d_ 33 2) (.func (.func 43) #[] #[.pointer (some ⟨b5,0,none⟩),.pointer (some ⟨bn,0,none⟩)]) s91 = (.func (.func 43) #[] #[.pointer (some ⟨b5,0,none⟩),.pointer (some ⟨bn,0,none⟩)] : Value) := p2
      have r3 : pk (upd d_ 33 3) (.int .i64 (k : Int)) s92 = (.int .i64 (k : Int) : Value) := p3
      have r4 : pk (upd d_ 33 4) (.int .i64 (m : Int)) s93 = (.int .i64 (m : Int) : Value) := p4
      have r5 : pk (upd d_ 33 5) (.pointer (some ⟨b9,3,none⟩)) s94 = (.pointer (some ⟨b9,3,none⟩) : Value) := p5
      have r6 : pk (upd d_ 33 6) (.slice (some ⟨g3,0,none⟩) n n) s95 = (.slice (some ⟨g3,0,none⟩) n n : Value) := p6
      have r7 : pk (upd d_ 33 7) (.func (.func 43) #[] #[.pointer (some ⟨b5,0,none⟩),.pointer (some ⟨bn,0,none⟩)]) s96 = (.func (.func 43) #[] #[.pointer (some ⟨b5,0,none⟩),.pointer (some ⟨bn,0,none⟩)] : Value) := p7
      have r8 : pk (upd d_ 33 8) (.int .i64 (k : Int)) s97 = (.int .i64 (k : Int) : Value) := p8
      have r9 : pk (upd d_ 33 9) (.int .i64 (m : Int)) s98 = (.int .i64 (m : Int) : Value) := p9
      have r14 : pk (upd d_ 33 14) (.int .i64 (m : Int)) s103 = (.int .i64 (m : Int) : Value) := p14
      have r15 : pk (upd d_ 33 15) (.pointer (some ⟨bx,1,none⟩)) s104 = (.pointer (some ⟨bx,1,none⟩) : Value) := p15
      have r16 : pk (upd d_ 33 16) (.slice (some ⟨fb,fo,none⟩) n fc) s105 = (.slice (some ⟨fb,fo,none⟩) n fc : Value) := p16
      have r17 : pk (upd d_ 33 17) (.int .i64 (k : Int)) s106 = (.int .i64 (k : Int) : Value) := p17
      have r18 : pk (upd d_ 33 18) (.pointer (some ⟨fb,fo + k * 2,none⟩)) s107 = (.pointer (some ⟨fb,fo + k * 2,none⟩) : Value) := p18
      have r19 : pk (upd d_ 33 19) (.agg #[.int .i64 s1_.lo,.int .i64 s1_.hi]) s108 = (.agg #[.int .i64 s1_.lo,.int .i64 s1_.hi] : Value) := p19
      have r20 : pk (upd d_ 33 20) (.pointer (some ⟨bx,3,none⟩)) s109 = (.pointer (some ⟨bx,3,none⟩) : Value) := p20
      have r21 : pk (upd d_ 33 21) (.slice (some ⟨sb,so,none⟩) n sc) s110 = (.slice (some ⟨sb,so,none⟩) n sc : Value) := p21
      have r22 : pk (upd d_ 33 22) (.int .i64 (k : Int)) s111 = (.int .i64 (k : Int) : Value) := p22
      have r23 : pk (upd d_ 33 23) (.pointer (some ⟨sb,so + k * 2,none⟩)) s112 = (.pointer (some ⟨sb,so + k * 2,none⟩) : Value) := p23
      have r24 : pk (upd d_ 33 24) (.agg #[.int .i64 s2_.lo,.int .i64 s2_.hi]) s113 = (.agg #[.int .i64 s2_.lo,.int .i64 s2_.hi] : Value) := p24
      have r29 : pk (upd d_ 33 29) (.agg #[.int .i64 s3_.lo,.int .i64 s3_.hi]) s118 = (.agg #[.int .i64 s3_.lo,.int .i64 s3_.hi] : Value) := p29
      have r30 : pk (upd d_ 33 30) (.pointer (some ⟨g1,m * 2,none⟩)) s119 = (.pointer (some ⟨g1,m * 2,none⟩) : Value) := p30
      have r32 : pk (upd d_ 33 32) (.pointer (some ⟨g3,m * 2,none⟩)) s120 = (.pointer (some ⟨g3,m * 2,none⟩) : Value) := p32
      rw [r0,r1,r2,r3,r4,r5,r6,r7,r8,r9,r14,r15,r16,r17,r18,r19,r20,r21,r22,r23,r24,r29,r30,r32]
      all_goals rfl
    · have p0 : pk (d_ 0) (.pointer (some ⟨b9,1,none⟩)) s89 = (.pointer (some ⟨b9,1,none⟩) : Value) := pk_of (by simp [hdep] : d_ 0 = true) _ _
      have p1 : pk (d_ 1) (.slice (some ⟨g1,0,none⟩) n n) s90 = (.slice (some ⟨g1,0,none⟩) n n : Value) := pk_of (by simp [hdep] : d_ 1 = true) _ _
      have p2 : pk (d_ 2) (.func (.func 43) #[] #[.pointer (some ⟨b5,0,none⟩),.pointer (some ⟨bn,0,none⟩)]) s91 = (.func (.func 43) #[] #[.pointer (some ⟨b5,0,none⟩),.pointer (some ⟨bn,0,none⟩)] : Value) := pk_of (by simp [hdep] : d_ 2 = true) _ _
      have p3 : pk (d_ 3) (.int .i64 (k : Int)) s92 = (.int .i64 (k : Int) : Value) := pk_of (by simp [hdep] : d_ 3 = true) _ _
      have p4 : pk (d_ 4) (.int .i64 (m : Int)) s93 = (.int .i64 (m : Int) : Value) := pk_of (by simp [hdep] : d_ 4 = true) _ _
      have p5 : pk (d_ 5) (.pointer (some ⟨b9,3,none⟩)) s94 = (.pointer (some ⟨b9,3,none⟩) : Value) := pk_of (by simp [hdep] : d_ 5 = true) _ _
      have p6 : pk (d_ 6) (.slice (some ⟨g3,0,none⟩) n n) s95 = (.slice (some ⟨g3,0,none⟩) n n : Value) := pk_of (by simp [hdep] : d_ 6 = true) _ _
      have p7 : pk (d_ 7) (.func (.func 43) #[] #[.pointer (some ⟨b5,0,none⟩),.pointer (some ⟨bn,0,none⟩)]) s96 = (.func (.func 43) #[] #[.pointer (some ⟨b5,0,none⟩),.pointer (some ⟨bn,0,none⟩)] : Value) := pk_of (by simp [hdep] : d_ 7 = true) _ _
      have p8 : pk (d_ 8) (.int .i64 (k : Int)) s97 = (.int .i64 (k : Int) : Value) := pk_of (by simp [hdep] : d_ 8 = true) _ _
      have p9 : pk (d_ 9) (.int .i64 (m : Int)) s98 = (.int .i64 (m : Int) : Value) := pk_of (by simp [hdep] : d_ 9 = true) _ _
      have p10 : pk (d_ 10) (.pointer (some ⟨b9,4,none⟩)) s99 = (.pointer (some ⟨b9,4,none⟩) : Value) := pk_of (by simp [hdep] : d_ 10 = true) _ _
      have p11 : pk (d_ 11) (.slice (some ⟨g4,0,none⟩) n n) s100 = (.slice (some ⟨g4,0,none⟩) n n : Value) := pk_of (by simp [hdep] : d_ 11 = true) _ _
      have p12 : pk (d_ 12) (.func (.func 43) #[] #[.pointer (some ⟨b5,0,none⟩),.pointer (some ⟨bn,0,none⟩)]) s101 = (.func (.func 43) #[] #[.pointer (some ⟨b5,0,none⟩),.pointer (some ⟨bn,0,none⟩)] : Value) := pk_of (by simp [hdep] : d_ 12 = true) _ _
      have p13 : pk (d_ 13) (.int .i64 (k : Int)) s102 = (.int .i64 (k : Int) : Value) := pk_of (by simp [hdep] : d_ 13 = true) _ _
      have p14 : pk (d_ 14) (.int .i64 (m : Int)) s103 = (.int .i64 (m : Int) : Value) := pk_of (by simp [hdep] : d_ 14 = true) _ _
      have p15 : pk (d_ 15) (.pointer (some ⟨bx,1,none⟩)) s104 = (.pointer (some ⟨bx,1,none⟩) : Value) := pk_of (by simp [hdep] : d_ 15 = true) _ _
      have p16 : pk (d_ 16) (.slice (some ⟨fb,fo,none⟩) n fc) s105 = (.slice (some ⟨fb,fo,none⟩) n fc : Value) := pk_of (by simp [hdep] : d_ 16 = true) _ _
      have p17 : pk (d_ 17) (.int .i64 (k : Int)) s106 = (.int .i64 (k : Int) : Value) := pk_of (by simp [hdep] : d_ 17 = true) _ _
      have p18 : pk (d_ 18) (.pointer (some ⟨fb,fo + k * 2,none⟩)) s107 = (.pointer (some ⟨fb,fo + k * 2,none⟩) : Value) := pk_of (by simp [hdep] : d_ 18 = true) _ _
      have p19 : pk (d_ 19) (.agg #[.int .i64 s1_.lo,.int .i64 s1_.hi]) s108 = (.agg #[.int .i64 s1_.lo,.int .i64 s1_.hi] : Value) := pk_of (by simp [hdep] : d_ 19 = true) _ _
      have p20 : pk (d_ 20) (.pointer (some ⟨bx,3,none⟩)) s109 = (.pointer (some ⟨bx,3,none⟩) : Value) := pk_of (by simp [hdep] : d_ 20 = true) _ _
      have p21 : pk (d_ 21) (.slice (some ⟨sb,so,none⟩) n sc) s110 = (.slice (some ⟨sb,so,none⟩) n sc : Value) := pk_of (by simp [hdep] : d_ 21 = true) _ _
      have p22 : pk (d_ 22) (.int .i64 (k : Int)) s111 = (.int .i64 (k : Int) : Value) := pk_of (by simp [hdep] : d_ 22 = true) _ _
      have p23 : pk (d_ 23) (.pointer (some ⟨sb,so + k * 2,none⟩)) s112 = (.pointer (some ⟨sb,so + k * 2,none⟩) : Value) := pk_of (by simp [hdep] : d_ 23 = true) _ _
      have p24 : pk (d_ 24) (.agg #[.int .i64 s2_.lo,.int .i64 s2_.hi]) s113 = (.agg #[.int .i64 s2_.lo,.int .i64 s2_.hi] : Value) := pk_of (by simp [hdep] : d_ 24 = true) _ _
      have p25 : pk (d_ 25) (.pointer (some ⟨bx,4,none⟩)) s114 = (.pointer (some ⟨bx,4,none⟩) : Value) := pk_of (by simp [hdep] : d_ 25 = true) _ _
      have p26 : pk (d_ 26) (.slice (some ⟨lb,lo,none⟩) n lc) s115 = (.slice (some ⟨lb,lo,none⟩) n lc : Value) := pk_of (by simp [hdep] : d_ 26 = true) _ _
      have p27 : pk (d_ 27) (.int .i64 (k : Int)) s116 = (.int .i64 (k : Int) : Value) := pk_of (by simp [hdep] : d_ 27 = true) _ _
      have p28 : pk (d_ 28) (.pointer (some ⟨lb,lo + k * 2,none⟩)) s117 = (.pointer (some ⟨lb,lo + k * 2,none⟩) : Value) := pk_of (by simp [hdep] : d_ 28 = true) _ _
      have p29 : pk (d_ 29) (.agg #[.int .i64 s3_.lo,.int .i64 s3_.hi]) s118 = (.agg #[.int .i64 s3_.lo,.int .i64 s3_.hi] : Value) := pk_of (by simp [hdep] : d_ 29 = true) _ _
      have p30 : pk (d_ 30) (.pointer (some ⟨g1,m * 2,none⟩)) s119 = (.pointer (some ⟨g1,m * 2,none⟩) : Value) := pk_of (by simp [hdep] : d_ 30 = true) _ _
      have p32 : pk (d_ 32) (.pointer (some ⟨g3,m * 2,none⟩)) s120 = (.pointer (some ⟨g3,m * 2,none⟩) : Value) := pk_of (by simp [hdep] : d_ 32 = true) _ _
      have hkn2 : k < n := hkn
      have hmn2 : m < n := hmn
      rw [p0,p1,p2,p3,p4,p5,p6,p7,p8,p9,p10,p11,p12,p13,p14,p15,p16,p17,p18,p19,p20,p21,p22,p23,p24,p25,p26,p27,p28,p29,p30,p32]
      have HF := Lib.hid F
      clear F
      go_simp
      refine HK.out _ _ ⟨?_,HF.out⟩
      have r0 : pk (upd d_ 34 0) (.pointer (some ⟨b9,1,none⟩)) s89 = (.pointer (some ⟨b9,1,none⟩) : Value) := p0
      have r1 : pk (upd d_ 34 1) (.slice (some ⟨g1,0,none⟩) n n) s90 = (.slice (some ⟨g1,0,none⟩) n n : Value) := p1
      have r2 : pk (upd d_ 34 2) (.func (.func 43) #[] #[.pointer (some ⟨b5,0,none⟩),.pointer (some ⟨bn,0,none⟩)]) s91 = (.func (.func 43) #[] #[.pointer (some ⟨b5,0,none⟩),.pointer (some ⟨bn,0,none⟩)] : Value) := p2
      have r3 : pk (upd d_ 34 3) (.int .i64 (k : Int)) s92 = (.int .i64 (k : Int) : Value) := p3
      have r4 : pk (upd d_ 34 4) (.int .i64 (m : Int)) s93 = (.int .i64 (m : Int) : Value) := p4
      have r5 : pk (upd d_ 34 5) (.pointer (some ⟨b9,3,none⟩)) s94 = (.pointer (some ⟨b9,3,none⟩) : Value) := p5
      have r6 : pk (upd d_ 34 6) (.slice (some ⟨g3,0,none⟩) n n) s95 = (.slice (some ⟨g3,0,none⟩) n n : Value) := p6
      have r7 : pk (upd d_ 34 7) (.func (.func 43) #[] #[.pointer (some ⟨b5,0,none⟩),.pointer (some ⟨bn,0,none⟩)]) s96 = (.func (.func 43) #[] #[.pointer (some ⟨b5,0,none⟩),.pointer (some ⟨bn,0,none⟩)] : Value) := p7
      have r8 : pk (upd d_ 34 8) (.int .i64 (k : Int)) s97 = (.int .i64 (k : Int) : Value) := p8
      have r9 : pk (upd d_ 34 9) (.int .i64 (m : Int)) s98 = (.int .i64 (m : Int) : Value) := p9
      have r10 : pk (upd d_ 34 10) (.pointer (some ⟨b9,4,none⟩)) s99 = (.pointer (some ⟨b9,4,none⟩) : Value) := p10
      have r11 : pk (upd d_ 34 11) (.slice (some ⟨g4,0,none⟩) n n) s100 = (.slice (some ⟨g4,0,none⟩) n n : Value) := p11
      have r12 : pk (upd d_ 34 12) (.func (.func 43) #[] #[.pointer (some ⟨b5,0,none⟩),.pointer (some ⟨bn,0,none⟩)]) s101 = (.func (.func 43) #[] #[.pointer (some ⟨b5,0,none⟩),.pointer (some ⟨bn,0,none⟩)] : Value) := p12
      have r13 : pk (upd d_ 34 13) (.int .i64 (k : Int)) s102 = (.int .i64 (k : Int) : Value) := p13
      have r14 : pk (upd d_ 34 14) (.int .i64 (m : Int)) s103 = (.int .i64 (m : Int) : Value) := p14
      have r15 : pk (upd d_ 34 15) (.pointer (some ⟨bx,1,none⟩)) s104 = (.pointer (some ⟨bx,1,none⟩) : Value) := p15
      have r16 : pk (upd d_ 34 16) (.slice (some ⟨fb,fo,none⟩) n fc) s105 = (.slice (some ⟨fb,fo,none⟩) n fc : Value) := p16
      have r17 : pk (upd d_ 34 17) (.int .i64 (k : Int)) s106 = (.int .i64 (k : Int) : Value) := p17
      have r18 : pk (upd d_ 34 18) (.pointer (some ⟨fb,fo + k * 2,none⟩)) s107 = (.pointer (some ⟨fb,fo + k * 2,none⟩) : Value) := p18
      have r19 : pk (upd d_ 34 19) (.agg #[.int .i64 s1_.lo,.int .i64 s1_.hi]) s108 = (.agg #[.int .i64 s1_.lo,.int .i64 s1_.hi] : Value) := p19
      have r20 : pk (upd d_ 34 20) (.pointer (some ⟨bx,3,none⟩)) s109 = (.pointer (some ⟨bx,3,none⟩) : Value) := p20
      have r21 : pk (upd d_ 34 21) (.slice (some ⟨sb,so,none⟩) n sc) s110 = (.slice (some ⟨sb,so,none⟩) n sc : Value) := p21
      have r22 : pk (upd d_ 34 22) (.int .i64 (k : Int)) s111 = (.int .i64 (k : Int) : Value) := p22
      have r23 : pk (upd d_ 34 23) (.pointer (some ⟨sb,so + k * 2,none⟩)) s112 = (.pointer (some ⟨sb,so + k * 2,none⟩) : Value) := p23
      have r24 : pk (upd d_ 34 24) (.agg #[.int .i64 s2_.lo,.int .i64 s2_.hi]) s113 = (.agg #[.int .i64 s2_.lo,.int .i64 s2_.hi] : Value) := p24
      have r25 : pk (upd d_ 34 25) (.pointer (some ⟨bx,4,none⟩)) s114 = (.pointer (some ⟨bx,4,none⟩) : Value) := p25
      have r26 : pk (upd d_ 34 26) (.slice (some ⟨lb,lo,none⟩) n lc) s115 = (.slice (some ⟨lb,lo,none⟩) n lc : Value) := p26
      have r27 : pk (upd d_ 34 27) (.int .i64 (k : Int)) s116 = (.int .i64 (k : Int) : Value) := p27
      have r28 : pk (upd d_ 34 28) (.pointer (some ⟨lb,lo + k * 2,none⟩)) s117 = (.pointer (some ⟨lb,lo + k * 2,none⟩) : Value) := p28
      have r29 : pk (upd d_ 34 29) (.agg #[.int .i64 s3_.lo,.int .i64 s3_.hi]) s118 = (.agg #[.int .i64 s3_.lo,.int .i64 s3_.hi] : Value) := p29
      have r30 : pk (upd d_ 34 30) (.pointer (some ⟨g1,m * 2,none⟩)) s119 = (.pointer (some ⟨g1,m * 2,none⟩) : Value) := p30
      have r32 : pk (upd d_ 34 32) (.pointer (some ⟨g3,m * 2,none⟩)) s120 = (.pointer (some ⟨g3,m * 2,none⟩) : Value) := p32
      rw [r0,r1,r2,r3,r4,r5,r6,r7,r8,r9,r10,r11,r12,r13,r14,r15,r16,r17,r18,r19,r20,r21,r22,r23,r24,r25,r26,r27,r28,r29,r30,r32]
      all_goals rfl
    · have p0 : pk (d_ 0) (.pointer (some ⟨b9,1,none⟩)) s89 = (.pointer (some ⟨b9,1,none⟩) : Value) := pk_of (by simp [hdep] : d_ 0 = true) _ _
      have p1 : pk (d_ 1) (.slice (some ⟨g1,0,none⟩) n n) s90 = (.slice (some ⟨g1,0,none⟩) n n : Value) := pk_of (by simp [hdep] : d_ 1 = true) _ _
      have p2 : pk (d_ 2) (.func (.func 43) #[] #[.pointer (some ⟨b5,0,none⟩),.pointer (some ⟨bn,0,none⟩)]) s91 = (.func (.func 43) #[] #[.pointer (some ⟨b5,0,none⟩),.pointer (some ⟨bn,0,none⟩)] : Value) := pk_of (by simp [hdep] : d_ 2 = true) _ _
      have p3 : pk (d_ 3) (.int .i64 (k : Int)) s92 = (.int .i64 (k : Int) : Value) := pk_of (by simp [hdep] : d_ 3 = true) _ _
      have p4 : pk (d_ 4) (.int .i64 (m : Int)) s93 = (.int .i64 (m : Int) : Value) := pk_of (by simp [hdep] : d_ 4 = true) _ _
      have p5 : pk (d_ 5) (.pointer (some ⟨b9,3,none⟩)) s94 = (.pointer (some ⟨b9,3,none⟩) : Value) := pk_of (by simp [hdep] : d_ 5 = true) _ _
      have p6 : pk (d_ 6) (.slice (some ⟨g3,0,none⟩) n n) s95 = (.slice (some ⟨g3,0,none⟩) n n : Value) := pk_of (by simp [hdep] : d_ 6 = true) _ _
      have p7 : pk (d_ 7) (.func (.func 43) #[] #[.pointer (some ⟨b5,0,none⟩),.pointer (some ⟨bn,0,none⟩)]) s96 = (.func (.func 43) #[] #[.pointer (some ⟨b5,0,none⟩),.pointer (some ⟨bn,0,none⟩)] : Value) := pk_of (by simp [hdep] : d_ 7 = true) _ _
      have p8 : pk (d_ 8) (.int .i64 (k : Int)) s97 = (.int .i64 (k : Int) : Value) := pk_of (by simp [hdep] : d_ 8 = true) _ _
      have p9 : pk (d_ 9) (.int .i64 (m : Int)) s98 = (.int .i64 (m : Int) : Value) := pk_of (by simp [hdep] : d_ 9 = true) _ _
      have p10 : pk (d_ 10) (.pointer (some ⟨b9,4,none⟩)) s99 = (.pointer (some ⟨b9,4,none⟩) : Value) := pk_of (by simp [hdep] : d_ 10 = true) _ _
      have p11 : pk (d_ 11) (.slice (some ⟨g4,0,none⟩) n n) s100 = (.slice (some ⟨g4,0,none⟩) n n : Value) := pk_of (by simp [hdep] : d_ 11 = true) _ _
      have p12 : pk (d_ 12) (.func (.func 43) #[] #[.pointer (some ⟨b5,0,none⟩),.pointer (some ⟨bn,0,none⟩)]) s101 = (.func (.func 43) #[] #[.pointer (some ⟨b5,0,none⟩),.pointer (some ⟨bn,0,none⟩)] : Value) := pk_of (by simp [hdep] : d_ 12 = true) _ _
      have p13 : pk (d_ 13) (.int .i64 (k : Int)) s102 = (.int .i64 (k : Int) : Value) := pk_of (by simp [hdep] : d_ 13 = true) _ _
      have p14 : pk (d_ 14) (.int .i64 (m : Int)) s103 = (.int .i64 (m : Int) : Value) := pk_of (by simp [hdep] : d_ 14 = true) _ _
      have p15 : pk (d_ 15) (.pointer (some ⟨bx,1,none⟩)) s104 = (.pointer (some ⟨bx,1,none⟩) : Value) := pk_of (by simp [hdep] : d_ 15 = true) _ _
      have p16 : pk (d_ 16) (.slice (some ⟨fb,fo,none⟩) n fc) s105 = (.slice (some ⟨fb,fo,none⟩) n fc : Value) := pk_of (by simp [hdep] : d_ 16 = true) _ _
      have p17 : pk (d_ 17) (.int .i64 (k : Int)) s106 = (.int .i64 (k : Int) : Value) := pk_of (by simp [hdep] : d_ 17 = true) _ _
      have p18 : pk (d_ 18) (.pointer (some ⟨fb,fo + k * 2,none⟩)) s107 = (.pointer (some ⟨fb,fo + k * 2,none⟩) : Value) := pk_of (by simp [hdep] : d_ 18 = true) _ _
      have p19 : pk (d_ 19) (.agg #[.int .i64 s1_.lo,.int .i64 s1_.hi]) s108 = (.agg #[.int .i64 s1_.lo,.int .i64 s1_.hi] : Value) := pk_of (by simp [hdep] : d_ 19 = true) _ _
      have p20 : pk (d_ 20) (.pointer (some ⟨bx,3,none⟩)) s109 = (.pointer (some ⟨bx,3,none⟩) : Value) := pk_of (by simp [hdep] : d_ 20 = true) _ _
      have p21 : pk (d_ 21) (.slice (some ⟨sb,so,none⟩) n sc) s110 = (.slice (some ⟨sb,so,none⟩) n sc : Value) := pk_of (by simp [hdep] : d_ 21 = true) _ _
      have p22 : pk (d_ 22) (.int .i64 (k : Int)) s111 = (.int .i64 (k : Int) : Value) := pk_of (by simp [hdep] : d_ 22 = true) _ _
      have p23 : pk (d_ 23) (.pointer (some ⟨sb,so + k * 2,none⟩)) s112 = (.pointer (some ⟨sb,so + k * 2,none⟩) : Value) := pk_of (by simp [hdep] : d_ 23 = true) _ _
      have p24 : pk (d_ 24) (.agg #[.int .i64 s2_.lo,.int .i64 s2_.hi]) s113 = (.agg #[.int .i64 s2_.lo,.int .i64 s2_.hi] : Value) := pk_of (by simp [hdep] : d_ 24 = true) _ _
      have p25 : pk (d_ 25) (.pointer (some ⟨bx,4,none⟩)) s114 = (.pointer (some ⟨bx,4,none⟩) : Value) := pk_of (by simp [hdep] : d_ 25 = true) _ _
      have p26 : pk (d_ 26) (.slice (some ⟨lb,lo,none⟩) n lc) s115 = (.slice (some ⟨lb,lo,none⟩) n lc : Value) := pk_of (by simp [hdep] : d_ 26 = true) _ _
      have p27 : pk (d_ 27) (.int .i64 (k : Int)) s116 = (.int .i64 (k : Int) : Value) := pk_of (by simp [hdep] : d_ 27 = true) _ _
      have p28 : pk (d_ 28) (.pointer (some ⟨lb,lo + k * 2,none⟩)) s117 = (.pointer (some ⟨lb,lo + k * 2,none⟩) : Value) := pk_of (by simp [hdep] : d_ 28 = true) _ _
      have p29 : pk (d_ 29) (.agg #[.int .i64 s3_.lo,.int .i64 s3_.hi]) s118 = (.agg #[.int .i64 s3_.lo,.int .i64 s3_.hi] : Value) := pk_of (by simp [hdep] : d_ 29 = true) _ _
      have p30 : pk (d_ 30) (.pointer (some ⟨g1,m * 2,none⟩)) s119 = (.pointer (some ⟨g1,m * 2,none⟩) : Value) := pk_of (by simp [hdep] : d_ 30 = true) _ _
      have p32 : pk (d_ 32) (.pointer (some ⟨g3,m * 2,none⟩)) s120 = (.pointer (some ⟨g3,m * 2,none⟩) : Value) := pk_of (by simp [hdep] : d_ 32 = true) _ _
      have p34 : pk (d_ 34) (.pointer (some ⟨g4,m * 2,none⟩)) s121 = (.pointer (some ⟨g4,m * 2,none⟩) : Value) := pk_of (by simp [hdep] : d_ 34 = true) _ _
      rw [p0,p1,p2,p3,p4,p5,p6,p7,p8,p9,p10,p11,p12,p13,p14,p15,p16,p17,p18,p19,p20,p21,p22,p23,p24,p25,p26,p27,p28,p29,p30,p32,p34]
      have hds : d_ 35 = false := hd_
      rw [hds] at F
      obtain ⟨⟨u0,c0⟩,f0,⟨u1,c1⟩,f1,hR⟩ := ks35.out _ _ w1 F
      have HF := Lib.hid hR
      clear F hR
      go_simp
      refine HK.out _ _ ⟨?_,HF.out⟩
      have r0 : pk (upd d_ 35 0) (.pointer (some ⟨b9,1,none⟩)) s89 = (.pointer (some ⟨b9,1,none⟩) : Value) := p0
      have r1 : pk (upd d_ 35 1) (.slice (some ⟨g1,0,none⟩) n n) s90 = (.slice (some ⟨g1,0,none⟩) n n : Value) := p1
      have r2 : pk (upd d_ 35 2) (.func (.func 43) #[] #[.pointer (some ⟨b5,0,none⟩),.pointer (some ⟨bn,0,none⟩)]) s91 = (.func (.func 43) #[] #[.pointer (some ⟨b5,0,none⟩),.pointer (some ⟨bn,0,none⟩)] : Value) := p2
      have r3 : pk (upd d_ 35 3) (.int .i64 (k : Int)) s92 = (.int .i64 (k : Int) : Value) := p3
      have r4 : pk (upd d_ 35 4) (.int .i64 (m : Int)) s93 = (.int .i64 (m : Int) : Value) := p4
      have r5 : pk (upd d_ 35 5) (.pointer (some ⟨b9,3,none⟩)) s94 = (.pointer (some ⟨b9,3,none⟩) : Value) := p5
      have r6 : pk (upd d_ 35 6) (.slice (some ⟨g3,0,none⟩) n n) s95 = (.slice (some ⟨g3,0,none⟩) n n : Value) := p6
      have r7 : pk (upd d_ 35 7) (.func (.func 43) #[] #[.pointer (some ⟨b5,0,none⟩),.pointer (some ⟨bn,0,none⟩)]) s96 = (.func (.func 43) #[] #[.pointer (some ⟨b5,0,none⟩),.pointer (some ⟨bn,0,none⟩)] : Value) := p7
      have r8 : pk (upd d_ 35 8) (.int .i64 (k : Int)) s97 = (.int .i64 (k : Int) : Value) := p8
      have r9 : pk (upd d_ 35 9) (.int .i64 (m : Int)) s98 = (.int .i64 (m : Int) : Value) := p9
      have r10 : pk (upd d_ 35 10) (.pointer (some ⟨b9,4,none⟩)) s99 = (.pointer (some ⟨b9,4,none⟩) : Value) := p10
      have r11 : pk (upd d_ 35 11) (.slice (some ⟨g4,0,none⟩) n n) s100 = (.slice (some ⟨g4,0,none⟩) n n : Value) := p11
      have r12 : pk (upd d_ 35 12) (.func (.func 43) #[] #[.pointer (some ⟨b5,0,none⟩),.pointer (some ⟨bn,0,none⟩)]) s101 = (.func (.func 43) #[] #[.pointer (some ⟨b5,0,none⟩),.pointer (some ⟨bn,0,none⟩)] : Value) := p12
      have r13 : pk (upd d_ 35 13) (.int .i64 (k : Int)) s102 = (.int .i64 (k : Int) : Value) := p13
      have r14 : pk (upd d_ 35 14) (.int .i64 (m : Int)) s103 = (.int .i64 (m : Int) : Value) := p14
      have r15 : pk (upd d_ 35 15) (.pointer (some ⟨bx,1,none⟩)) s104 = (.pointer (some ⟨bx,1,none⟩) : Value) := p15
      have r16 : pk (upd d_ 35 16) (.slice (some ⟨fb,fo,none⟩) n fc) s105 = (.slice (some ⟨fb,fo,none⟩) n fc : Value) := p16
      have r17 : pk (upd d_ 35 17) (.int .i64 (k : Int)) s106 = (.int .i64 (k : Int) : Value) := p17
      have r18 : pk (upd d_ 35 18) (.pointer (some ⟨fb,fo + k * 2,none⟩)) s107 = (.pointer (some ⟨fb,fo + k * 2,none⟩) : Value) := p18
      have r19 : pk (upd d_ 35 19) (.agg #[.int .i64 s1_.lo,.int .i64 s1_.hi]) s108 = (.agg #[.int .i64 s1_.lo,.int .i64 s1_.hi] : Value) := p19
      have r20 : pk (upd d_ 35 20) (.pointer (some ⟨bx,3,none⟩)) s109 = (.pointer (some ⟨bx,3,none⟩) : Value) := p20
      have r21 : pk (upd d_ 35 21) (.slice (some ⟨sb,so,none⟩) n sc) s110 = (.slice (some ⟨sb,so,none⟩) n sc : Value) := p21
      have r22 : pk (upd d_ 35 22) (.int .i64 (k : Int)) s111 = (.int .i64 (k : Int) : Value) := p22
      have r23 : pk (upd d_ 35 23) (.pointer (some ⟨sb,so + k * 2,none⟩)) s112 = (.pointer (some ⟨sb,so + k * 2,none⟩) : Value) := p23
      have r24 : pk (upd d_ 35 24) (.agg #[.int .i64 s2_.lo,.int .i64 s2_.hi]) s113 = (.agg #[.int .i64 s2_.lo,.int .i64 s2_.hi] : Value) := p24
      have r25 : pk (upd d_ 35 25) (.pointer (some ⟨bx,4,none⟩)) s114 = (.pointer (some ⟨bx,4,none⟩) : Value) := p25
      have r26 : pk (upd d_ 35 26) (.slice (some ⟨lb,lo,none⟩) n lc) s115 = (.slice (some ⟨lb,lo,none⟩) n lc : Value) := p26
      have r27 : pk (upd d_ 35 27) (.int .i64 (k : Int)) s116 = (.int .i64 (k : Int) : Value) := p27
      have r28 : pk (upd d_ 35 28) (.pointer (some ⟨lb,lo + k * 2,none⟩)) s117 = (.pointer (some ⟨lb,lo + k * 2,none⟩) : Value) := p28
      have r29 : pk (upd d_ 35 29) (.agg #[.int .i64 s3_.lo,.int .i64 s3_.hi]) s118 = (.agg #[.int .i64 s3_.lo,.int .i64 s3_.hi] : Value) := p29
      have r30 : pk (upd d_ 35 30) (.pointer (some ⟨g1,m * 2,none⟩)) s119 = (.pointer (some ⟨g1,m * 2,none⟩) : Value) := p30
      have r32 : pk (upd d_ 35 32) (.pointer (some ⟨g3,m * 2,none⟩)) s120 = (.pointer (some ⟨g3,m * 2,none⟩) : Value) := p32
      have r34 : pk (upd d_ 35 34) (.pointer (some ⟨g4,m * 2,none⟩)) s121 = (.pointer (some ⟨g4,m * 2,none⟩) : Value) := p34
      rw [r0,r1,r2,r3,r4,r5,r6,r7,r8,r9,r10,r11,r12,r13,r14,r15,r16,r17,r18,r19,r20,r21,r22,r23,r24,r25,r26,r27,r28,r29,r30,r32,r34]
      all_goals rfl
  · rintro d_ a_ w1 hall ⟨rfl,F⟩
    have hall' : ∀ k,k < 36 → d_ k = true := hall
    have r0 : pk (d_ 0) (.pointer (some ⟨b9,1,none⟩)) s89 = (.pointer (some ⟨b9,1,none⟩) : Value) := pk_of (hall' 0 (by decide)) _ _
    have r1 : pk (d_ 1) (.slice (some ⟨g1,0,none⟩) n n) s90 = (.slice (some ⟨g1,0,none⟩) n n : Value) := pk_of (hall' 1 (by decide)) _ _
    have r2 : pk (d_ 2) (.func (.func 43) #[] #[.pointer (some ⟨b5,0,none⟩),.pointer (some ⟨bn,0,none⟩)]) s91 = (.func (.func 43) #[] #[.pointer (some ⟨b5,0,none⟩),.pointer (some ⟨bn,0,none⟩)] : Value) := pk_of (hall' 2 (by decide)) _ _
    have r3 : pk (d_ 3) (.int .i64 (k : Int)) s92 = (.int .i64 (k : Int) : Value) := pk_of (hall' 3 (by decide)) _ _
    have r4 : pk (d_ 4) (.int .i64 (m : Int)) s93 = (.int .i64 (m : Int) : Value) := pk_of (hall' 4 (by decide)) _ _
    have r5 : pk (d_ 5) (.pointer (some ⟨b9,3,none⟩)) s94 = (.pointer (some ⟨b9,3,none⟩) : Value) := pk_of (hall' 5 (by decide)) _ _
    have r6 : pk (d_ 6) (.slice (some ⟨g3,0,none⟩) n n) s95 = (.slice (some ⟨g3,0,none⟩) n n : Value) := pk_of (hall' 6 (by decide)) _ _
    have r7 : pk (d_ 7) (.func (.func 43) #[] #[.pointer (some ⟨b5,0,none⟩),.pointer (some ⟨bn,0,none⟩)]) s96 = (.func (.func 43) #[] #[.pointer (some ⟨b5,0,none⟩),.pointer (some ⟨bn,0,none⟩)] : Value) := pk_of (hall' 7 (by decide)) _ _
    have r8 : pk (d_ 8) (.int .i64 (k : Int)) s97 = (.int .i64 (k : Int) : Value) := pk_of (hall' 8 (by decide)) _ _
    have r9 : pk (d_ 9) (.int .i64 (m : Int)) s98 = (.int .i64 (m : Int) : Value) := pk_of (hall' 9 (by decide)) _ _
    have r10 : pk (d_ 10) (.pointer (some ⟨b9,4,none⟩)) s99 = (.pointer (some ⟨b9,4,none⟩) : Value) := pk_of (hall' 10 (by decide)) _ _
    have r11 : pk (d_ 11) (.slice (some ⟨g4,0,none⟩) n n) s100 = (.slice (some ⟨g4,0,none⟩) n n : Value) := pk_of (hall' 11 (by decide)) _ _
    have r12 : pk (d_ 12) (.func (.func 43) #[] #[.pointer (some ⟨b5,0,none⟩),.pointer (some ⟨bn,0,none⟩)]) s101 = (.func (.func 43) #[] #[.pointer (some ⟨b5,0,none⟩),.pointer (some ⟨bn,0,none⟩)] : Value) := pk_of (hall' 12 (by decide)) _ _
    have r13 : pk (d_ 13) (.int .i64 (k : Int)) s102 = (.int .i64 (k : Int) : Value) := pk_of (hall' 13 (by decide)) _ _
    have r14 : pk (d_ 14) (.int .i64 (m : Int)) s103 = (.int .i64 (m : Int) : Value) := pk_of (hall' 14 (by decide)) _ _
    have r15 : pk (d_ 15) (.pointer (some ⟨bx,1,none⟩)) s104 = (.pointer (some ⟨bx,1,none⟩) : Value) := pk_of (hall' 15 (by decide)) _ _
    have r16 : pk (d_ 16) (.slice (some ⟨fb,fo,none⟩) n fc) s105 = (.slice (some ⟨fb,fo,none⟩) n fc : Value) := pk_of (hall' 16 (by decide)) _ _
    have r17 : pk (d_ 17) (.int .i64 (k : Int)) s106 = (.int .i64 (k : Int) : Value) := pk_of (hall' 17 (by decide)) _ _
    have r18 : pk (d_ 18) (.pointer (some ⟨fb,fo + k * 2,none⟩)) s107 = (.pointer (some ⟨fb,fo + k * 2,none⟩) : Value) := pk_of (hall' 18 (by decide)) _ _
    have r19 : pk (d_ 19) (.agg #[.int .i64 s1_.lo,.int .i64 s1_.hi]) s108 = (.agg #[.int .i64 s1_.lo,.int .i64 s1_.hi] : Value) := pk_of (hall' 19 (by decide)) _ _
    have r20 : pk (d_ 20) (.pointer (some ⟨bx,3,none⟩)) s109 = (.pointer (some ⟨bx,3,none⟩) : Value) := pk_of (hall' 20 (by decide)) _ _
    have r21 : pk (d_ 21) (.slice (some ⟨sb,so,none⟩) n sc) s110 = (.slice (some ⟨sb,so,none⟩) n sc : Value) := pk_of (hall' 21 (by decide)) _ _
    have r22 : pk (d_ 22) (.int .i64 (k : Int)) s111 = (.int .i64 (k : Int) : Value) := pk_of (hall' 22 (by decide)) _ _
    have r23 : pk (d_ 23) (.pointer (some ⟨sb,so + k * 2,none⟩)) s112 = (.pointer (some ⟨sb,so + k * 2,none⟩) : Value) := pk_of (hall' 23 (by decide)) _ _
    have r24 : pk (d_ 24) (.agg #[.int .i64 s2_.lo,.int .i64 s2_.hi]) s113 = (.agg #[.int .i64 s2_.lo,.int .i64 s2_.hi] : Value) := pk_of (hall' 24 (by decide)) _ _
    have r25 : pk (d_ 25) (.pointer (some ⟨bx,4,none⟩)) s114 = (.pointer (some ⟨bx,4,none⟩) : Value) := pk_of (hall' 25 (by decide)) _ _
    have r26 : pk (d_ 26) (.slice (some ⟨lb,lo,none⟩) n lc) s115 = (.slice (some ⟨lb,lo,none⟩) n lc : Value) := pk_of (hall' 26 (by decide)) _ _
    have r27 : pk (d_ 27) (.int .i64 (k : Int)) s116 = (.int .i64 (k : Int) : Value) := pk_of (hall' 27 (by decide)) _ _
    have r28 : pk (d_ 28) (.pointer (some ⟨lb,lo + k * 2,none⟩)) s117 = (.pointer (some ⟨lb,lo + k * 2,none⟩) : Value) := pk_of (hall' 28 (by decide)) _ _
    have r29 : pk (d_ 29) (.agg #[.int .i64 s3_.lo,.int .i64 s3_.hi]) s118 = (.agg #[.int .i64 s3_.lo,.int .i64 s3_.hi] : Value) := pk_of (hall' 29 (by decide)) _ _
    have r30 : pk (d_ 30) (.pointer (some ⟨g1,m * 2,none⟩)) s119 = (.pointer (some ⟨g1,m * 2,none⟩) : Value) := pk_of (hall' 30 (by decide)) _ _
    have r32 : pk (d_ 32) (.pointer (some ⟨g3,m * 2,none⟩)) s120 = (.pointer (some ⟨g3,m * 2,none⟩) : Value) := pk_of (hall' 32 (by decide)) _ _
    have r34 : pk (d_ 34) (.pointer (some ⟨g4,m * 2,none⟩)) s121 = (.pointer (some ⟨g4,m * 2,none⟩) : Value) := pk_of (hall' 34 (by decide)) _ _
    rw [hall' 31 (by decide),hall' 33 (by decide),hall' 35 (by decide)] at F
    have HF := Lib.hid F
    clear F
    rw [r0,r1,r2,r3,r4,r5,r6,r7,r8,r9,r10,r11,r12,r13,r14,r15,r16,r17,r18,r19,r20,r21,r22,r23,r24,r25,r26,r27,r28,r29,r30,r32,r34]
    exact HQ.out w1 HF.out
end Go.Proofs.Ytphefhpmbahagaa
