/- WalkTurned: the drawn regions of its loops. -/
import Derived.Test.YtphefhpmbahagaaT86
namespace Go.Proofs.Ytphefhpmbahagaa
open Go.RowKit
set_option linter.unusedVariables false
set_option linter.unusedSimpArgs false

structure tur10F (b9 : Nat) (b5 : Nat) (bn : Nat) (k : Nat) (n : Nat) (m : Nat) (g2 : Nat) (S0 : Bool → Nat → World → Prop) (S1 : Bool → Nat → Unit → World → Prop) (S2 : Bool → Nat → Unit → World → Prop) (d : Nat → Bool) (x122 x123 x124 x125 x126 x127 x128 x129 : Value) (ms : Nat) (u1 : Unit) (w : World) : Prop where
  q1 : d 1 = true → d 0 = true
  q4 : d 4 = true → d 2 = true ∧ d 3 = true
  q6 : d 6 = true → d 5 = true
  q7 : d 7 = true → d 0 = true ∧ d 1 = true ∧ d 2 = true ∧ d 3 = true ∧ d 4 = true ∧ d 5 = true ∧ d 6 = true
  q8 : d 8 = true → d 0 = true ∧ d 1 = true ∧ d 2 = true ∧ d 3 = true ∧ d 4 = true ∧ d 5 = true ∧ d 6 = true ∧ d 7 = true
  f0 : d 0 = true → x122 = .pointer (some ⟨b9,2,none⟩)
  f1 : d 1 = true → x123 = .slice (some ⟨g2,0,none⟩) n n
  f2 : d 2 = true → x124 = .func (.func 43) #[] #[.pointer (some ⟨b5,0,none⟩),.pointer (some ⟨bn,0,none⟩)]
  f3 : d 3 = true → x125 = .int .i64 (k : Int)
  f4 : d 4 = true → x126 = .int .i64 (m : Int)
  f5 : d 5 = true → x127 = .int .i64 (n : Int)
  f6 : d 6 = true → x128 = .slice (some ⟨ms,0,none⟩) n n
  f7 : d 7 = true → x129 = .pointer (some ⟨g2,m,none⟩)
  st0 : d 4 = false → S0 (d 6) ms w
  st1 : d 4 = true → d 8 = false → S1 (d 6) ms u1 w
  st2 : d 8 = true → S2 (d 6) ms u1 w
  mz : d 6 = false → ms = 0
noncomputable def tur10C : Code := (Try.f11.body.bind (regionAt 10)).getD .skip
set_option maxRecDepth 100000 in
set_option maxHeartbeats 4000000 in
theorem tur10 {b9 : Nat} {b5 : Nat} {bn : Nat} {k : Nat} {n : Nat} {m : Nat} {g2 : Nat} {S0 : Bool → Nat → World → Prop} {S1 : Bool → Nat → Unit → World → Prop} {S2 : Bool → Nat → Unit → World → Prop} {Q : Exit → Act → World → Prop} {W1 : World} (hn16 : n ≤ 16) (hmn : m < n) (h0 : S0 false 0 W1.drew)
    (kl1 : Hid (∀ (fs : Bool) (ms : Nat) (u1 : Unit) (w : World),(S0 fs ms w ∨ S1 fs ms u1 w) → w.cell? ⟨b9,2,none⟩ = some (.slice (some ⟨g2,0,none⟩) n n)))
    (kc4 : Hid (∀ (fs : Bool) (ms : Nat) (w : World),S0 fs ms w → Calls Try.prog 43 #[.int .i64 (k : Int),.pointer (some ⟨b5,0,none⟩),.pointer (some ⟨bn,0,none⟩)] w fun e w' => ∃ u1 : Unit,e = .returned (.int .i64 (m : Int)) ∧ S1 fs ms u1 w'))
    (kl5 : Hid (∀ (fs : Bool) (ms : Nat) (u1 : Unit) (w : World),(S0 fs ms w ∨ S1 fs ms u1 w) → w.cell? ⟨bn,0,none⟩ = some (.int .i64 (n : Int))))
    (ks0 : Hid (∀ (w : World),S0 false 0 w → S0 true w.heap.size (w.alloc (.cells (madeCells #[.int .i64 0,.int .i64 0] (n * 2)) 33))))
    (ks1 : Hid (∀ (u1 : Unit) (w : World),S1 false 0 u1 w → S1 true w.heap.size u1 (w.alloc (.cells (madeCells #[.int .i64 0,.int .i64 0] (n * 2)) 33))))
    (kc8 : Hid (∀ (ms : Nat) (u1 : Unit) (w : World),S1 true ms u1 w → (∃ u,w.cell? ⟨g2,m,none⟩ = some u) ∧ w.frozen? ⟨g2,m,none⟩ = false ∧ S2 true ms u1 (w.setCell ⟨g2,m,none⟩ (.slice (some ⟨ms,0,none⟩) n n))))
    {s0 s1 s2 s3 s4 s5 s6 s11 s12 s13 s14 s15 s16 s17 s18 s19 s20 s21 s22 s23 s24 s25 s26 s27 s28 s29 s30 s31 s32 s33 s34 s35 s36 s37 s38 s39 s40 s41 s42 s43 s44 s45 s46 s47 s48 s49 s50 s51 s52 s53 s54 s55 s56 s57 s58 s59 s60 s61 s62 s63 s64 s65 s66 s67 s68 s69 s70 s71 s72 s73 s74 s75 s76 s77 s78 s79 s80 s81 s82 s83 s84 s85 s86 s87 s88 s89 s90 s91 s92 s93 s94 s95 s96 s97 s98 s99 s100 s101 s102 s103 s104 s105 s106 s107 s108 s109 s110 s111 s112 s113 s114 s115 s116 s117 s118 s119 s120 s121 s122 s123 s124 s125 s126 s127 s128 s129 s130 s131 s132 s133 s134 s135 s136 s137 s138 s139 s140 s141 s142 s143 s144 s145 s146 s147 s148 s149 s150 s151 s152 s153 s154 s155 s156 s157 s158 s159 s160 s161 s162 s163 s164 s165 s166 s167 s168 s169 s170 s171 s172 s173 s174 s175 s176 s177 s178 s179 s180 s181 s182 s183 s184 s185 s186 s187 s188 s189 s190 s191 s192 s193 s194 s195 s196 s197 s198 s199 s200 s201 s202 s203 s204 s205 s206 s207 s208 s209 s210 s211 s212 s213 s214 s215 s216 s217 s218 s219 s220 s221 s222 s223 s224 s225 s226 s227 s228 s229 s230 s231 s232 s233 s234 s235 s236 s237 s238 s239 s240 s241 s242 s243 s244 s245 s246 s247 s248 s249 s250 s251 s252 s253 s254 s255 s256 s257 s258 s259 s260 s261 s262 s263 s264 s265 s266 s267 s268 s269 s270 s271 s272 s273 s274 s275 s276 s277 s278 s279 s280 s281 s282 s283 s284 s285 s286 s287 s288 s289 s290 s291 s292 s293 s294 s295 s296 s297 s298 s299 s300 s301 s302 s303 s304 s305 s306 s307 s308 s309 s310 s311 s312 s313 s314 s315 s316 s317 s318 s319 s320 s321 s322 s323 s324 s325 s326 s327 s328 s329 s330 s331 s332 s333 s334 s335 s336 s337 s338 s339 s340 s341 s342 s343 s344 s345 s346 s347 s348 s349 s350 s351 s352 s353 s354 s355 s356 s357 s358 s359 s360 s361 s362 s363 s364 s365 s366 s367 s368 s369 s370 s371 s372 s373 s374 s375 s376 s377 s378 s379 s380 s381 s382 s383 s384 s385 s386 s387 s388 s389 s390 s391 s392 s393 s394 s395 s396 s397 s398 s399 s400 s401 s402 s403 s404 s405 s406 s407 : Value} {dd : List Deferred}
    (hQ : ∀ (ms : Nat) (u1 : Unit) (w' : World),S2 true ms u1 w' → Q .normal { tmps := #[s0,s1,s2,s3,s4,s5,s6,.pointer (some ⟨bn,0,none⟩),.func (.func 43) #[] #[.pointer (some ⟨b5,0,none⟩),.pointer (some ⟨bn,0,none⟩)],.pointer (some ⟨b9,0,none⟩),.int .i64 (k : Int),s11,s12,s13,s14,s15,s16,s17,s18,s19,s20,s21,s22,s23,s24,s25,s26,s27,s28,s29,s30,s31,s32,s33,s34,s35,s36,s37,s38,s39,s40,s41,s42,s43,s44,s45,s46,s47,s48,s49,s50,s51,s52,s53,s54,s55,s56,s57,s58,s59,s60,s61,s62,s63,s64,s65,s66,s67,s68,s69,s70,s71,s72,s73,s74,s75,s76,s77,s78,s79,s80,s81,s82,s83,s84,s85,s86,s87,s88,s89,s90,s91,s92,s93,s94,s95,s96,s97,s98,s99,s100,s101,s102,s103,s104,s105,s106,s107,s108,s109,s110,s111,s112,s113,s114,s115,s116,s117,s118,s119,s120,s121,.pointer (some ⟨b9,2,none⟩),.slice (some ⟨g2,0,none⟩) n n,.func (.func 43) #[] #[.pointer (some ⟨b5,0,none⟩),.pointer (some ⟨bn,0,none⟩)],.int .i64 (k : Int),.int .i64 (m : Int),.int .i64 (n : Int),.slice (some ⟨ms,0,none⟩) n n,.pointer (some ⟨g2,m,none⟩),s130,s131,s132,s133,s134,s135,s136,s137,s138,s139,s140,s141,s142,s143,s144,s145,s146,s147,s148,s149,s150,s151,s152,s153,s154,s155,s156,s157,s158,s159,s160,s161,s162,s163,s164,s165,s166,s167,s168,s169,s170,s171,s172,s173,s174,s175,s176,s177,s178,s179,s180,s181,s182,s183,s184,s185,s186,s187,s188,s189,s190,s191,s192,s193,s194,s195,s196,s197,s198,s199,s200,s201,s202,s203,s204,s205,s206,s207,s208,s209,s210,s211,s212,s213,s214,s215,s216,s217,s218,s219,s220,s221,s222,s223,s224,s225,s226,s227,s228,s229,s230,s231,s232,s233,s234,s235,s236,s237,s238,s239,s240,s241,s242,s243,s244,s245,s246,s247,s248,s249,s250,s251,s252,s253,s254,s255,s256,s257,s258,s259,s260,s261,s262,s263,s264,s265,s266,s267,s268,s269,s270,s271,s272,s273,s274,s275,s276,s277,s278,s279,s280,s281,s282,s283,s284,s285,s286,s287,s288,s289,s290,s291,s292,s293,s294,s295,s296,s297,s298,s299,s300,s301,s302,s303,s304,s305,s306,s307,s308,s309,s310,s311,s312,s313,s314,s315,s316,s317,s318,s319,s320,s321,s322,s323,s324,s325,s326,s327,s328,s329,s330,s331,s332,s333,s334,s335,s336,s337,s338,s339,s340,s341,s342,s343,s344,s345,s346,s347,s348,s349,s350,s351,s352,s353,s354,s355,s356,s357,s358,s359,s360,s361,s362,s363,s364,s365,s366,s367,s368,s369,s370,s371,s372,s373,s374,s375,s376,s377,s378,s379,s380,s381,s382,s383,s384,s385,s386,s387,s388,s389,s390,s391,s392,s393,s394,s395,s396,s397,s398,s399,s400,s401,s402,s403,s404,s405,s406,s407],defers := dd } w') :
    Code.wpIn (wideAt none) 0 Try.prog tur10C Q { tmps := #[s0,s1,s2,s3,s4,s5,s6,.pointer (some ⟨bn,0,none⟩),.func (.func 43) #[] #[.pointer (some ⟨b5,0,none⟩),.pointer (some ⟨bn,0,none⟩)],.pointer (some ⟨b9,0,none⟩),.int .i64 (k : Int),s11,s12,s13,s14,s15,s16,s17,s18,s19,s20,s21,s22,s23,s24,s25,s26,s27,s28,s29,s30,s31,s32,s33,s34,s35,s36,s37,s38,s39,s40,s41,s42,s43,s44,s45,s46,s47,s48,s49,s50,s51,s52,s53,s54,s55,s56,s57,s58,s59,s60,s61,s62,s63,s64,s65,s66,s67,s68,s69,s70,s71,s72,s73,s74,s75,s76,s77,s78,s79,s80,s81,s82,s83,s84,s85,s86,s87,s88,s89,s90,s91,s92,s93,s94,s95,s96,s97,s98,s99,s100,s101,s102,s103,s104,s105,s106,s107,s108,s109,s110,s111,s112,s113,s114,s115,s116,s117,s118,s119,s120,s121,s122,s123,s124,s125,s126,s127,s128,s129,s130,s131,s132,s133,s134,s135,s136,s137,s138,s139,s140,s141,s142,s143,s144,s145,s146,s147,s148,s149,s150,s151,s152,s153,s154,s155,s156,s157,s158,s159,s160,s161,s162,s163,s164,s165,s166,s167,s168,s169,s170,s171,s172,s173,s174,s175,s176,s177,s178,s179,s180,s181,s182,s183,s184,s185,s186,s187,s188,s189,s190,s191,s192,s193,s194,s195,s196,s197,s198,s199,s200,s201,s202,s203,s204,s205,s206,s207,s208,s209,s210,s211,s212,s213,s214,s215,s216,s217,s218,s219,s220,s221,s222,s223,s224,s225,s226,s227,s228,s229,s230,s231,s232,s233,s234,s235,s236,s237,s238,s239,s240,s241,s242,s243,s244,s245,s246,s247,s248,s249,s250,s251,s252,s253,s254,s255,s256,s257,s258,s259,s260,s261,s262,s263,s264,s265,s266,s267,s268,s269,s270,s271,s272,s273,s274,s275,s276,s277,s278,s279,s280,s281,s282,s283,s284,s285,s286,s287,s288,s289,s290,s291,s292,s293,s294,s295,s296,s297,s298,s299,s300,s301,s302,s303,s304,s305,s306,s307,s308,s309,s310,s311,s312,s313,s314,s315,s316,s317,s318,s319,s320,s321,s322,s323,s324,s325,s326,s327,s328,s329,s330,s331,s332,s333,s334,s335,s336,s337,s338,s339,s340,s341,s342,s343,s344,s345,s346,s347,s348,s349,s350,s351,s352,s353,s354,s355,s356,s357,s358,s359,s360,s361,s362,s363,s364,s365,s366,s367,s368,s369,s370,s371,s372,s373,s374,s375,s376,s377,s378,s379,s380,s381,s382,s383,s384,s385,s386,s387,s388,s389,s390,s391,s392,s393,s394,s395,s396,s397,s398,s399,s400,s401,s402,s403,s404,s405,s406,s407],defers := dd } W1 := by
  have HQ := Lib.hid hQ
  clear hQ
  conv => arg 4; whnf
  refine wpIn_region_invG mixed (by kernel_rfl) (fun d_ a_ w' => ∃ (x122 : Value) (x123 : Value) (x124 : Value) (x125 : Value) (x126 : Value) (x127 : Value) (x128 : Value) (x129 : Value) (ms : Nat) (u1 : Unit),a_ = { tmps := #[s0,s1,s2,s3,s4,s5,s6,.pointer (some ⟨bn,0,none⟩),.func (.func 43) #[] #[.pointer (some ⟨b5,0,none⟩),.pointer (some ⟨bn,0,none⟩)],.pointer (some ⟨b9,0,none⟩),.int .i64 (k : Int),s11,s12,s13,s14,s15,s16,s17,s18,s19,s20,s21,s22,s23,s24,s25,s26,s27,s28,s29,s30,s31,s32,s33,s34,s35,s36,s37,s38,s39,s40,s41,s42,s43,s44,s45,s46,s47,s48,s49,s50,s51,s52,s53,s54,s55,s56,s57,s58,s59,s60,s61,s62,s63,s64,s65,s66,s67,s68,s69,s70,s71,s72,s73,s74,s75,s76,s77,s78,s79,s80,s81,s82,s83,s84,s85,s86,s87,s88,s89,s90,s91,s92,s93,s94,s95,s96,s97,s98,s99,s100,s101,s102,s103,s104,s105,s106,s107,s108,s109,s110,s111,s112,s113,s114,s115,s116,s117,s118,s119,s120,s121,x122,x123,x124,x125,x126,x127,x128,x129,s130,s131,s132,s133,s134,s135,s136,s137,s138,s139,s140,s141,s142,s143,s144,s145,s146,s147,s148,s149,s150,s151,s152,s153,s154,s155,s156,s157,s158,s159,s160,s161,s162,s163,s164,s165,s166,s167,s168,s169,s170,s171,s172,s173,s174,s175,s176,s177,s178,s179,s180,s181,s182,s183,s184,s185,s186,s187,s188,s189,s190,s191,s192,s193,s194,s195,s196,s197,s198,s199,s200,s201,s202,s203,s204,s205,s206,s207,s208,s209,s210,s211,s212,s213,s214,s215,s216,s217,s218,s219,s220,s221,s222,s223,s224,s225,s226,s227,s228,s229,s230,s231,s232,s233,s234,s235,s236,s237,s238,s239,s240,s241,s242,s243,s244,s245,s246,s247,s248,s249,s250,s251,s252,s253,s254,s255,s256,s257,s258,s259,s260,s261,s262,s263,s264,s265,s266,s267,s268,s269,s270,s271,s272,s273,s274,s275,s276,s277,s278,s279,s280,s281,s282,s283,s284,s285,s286,s287,s288,s289,s290,s291,s292,s293,s294,s295,s296,s297,s298,s299,s300,s301,s302,s303,s304,s305,s306,s307,s308,s309,s310,s311,s312,s313,s314,s315,s316,s317,s318,s319,s320,s321,s322,s323,s324,s325,s326,s327,s328,s329,s330,s331,s332,s333,s334,s335,s336,s337,s338,s339,s340,s341,s342,s343,s344,s345,s346,s347,s348,s349,s350,s351,s352,s353,s354,s355,s356,s357,s358,s359,s360,s361,s362,s363,s364,s365,s366,s367,s368,s369,s370,s371,s372,s373,s374,s375,s376,s377,s378,s379,s380,s381,s382,s383,s384,s385,s386,s387,s388,s389,s390,s391,s392,s393,s394,s395,s396,s397,s398,s399,s400,s401,s402,s403,s404,s405,s406,s407],defers := dd } ∧ tur10F b9 b5 bn k n m g2 S0 S1 S2 d_ x122 x123 x124 x125 x126 x127 x128 x129 ms u1 w') ?_ ?_ ?_
  · refine ⟨s122,s123,s124,s125,s126,s127,s128,s129,0,default,rfl,?_⟩
    constructor <;> first | rfl | (intro _; rfl) | (intro h; cases h; done) | (intro _; exact h0) | exact h0
  · refine ⟨?_,?_,?_,?_,?_,?_,?_,?_,?_,trivial⟩
    all_goals
      rintro d_ a_ w1 K hd_ hdep ⟨x122,x123,x124,x125,x126,x127,x128,x129,ms,u1,rfl,F⟩ HK
      simp [Region.binds] at hdep
    · have HF : Hid (tur10F b9 b5 bn k n m g2 S0 S1 S2 (upd d_ 0) (.pointer (some ⟨b9,2,none⟩)) x123 x124 x125 x126 x127 x128 x129 ms u1 w1) := ⟨fun h => rfl,F.q4,F.q6,fun h => ⟨rfl,(F.q7 h).2.1,(F.q7 h).2.2.1,(F.q7 h).2.2.2.1,(F.q7 h).2.2.2.2.1,(F.q7 h).2.2.2.2.2.1,(F.q7 h).2.2.2.2.2.2⟩,fun h => ⟨rfl,(F.q8 h).2.1,(F.q8 h).2.2.1,(F.q8 h).2.2.2.1,(F.q8 h).2.2.2.2.1,(F.q8 h).2.2.2.2.2.1,(F.q8 h).2.2.2.2.2.2.1,(F.q8 h).2.2.2.2.2.2.2⟩,fun _ => rfl,F.f1,F.f2,F.f3,F.f4,F.f5,F.f6,F.f7,F.st0,F.st1,F.st2,F.mz⟩
      clear F
      go_simp
      exact HK.out _ _ ⟨_,_,_,_,_,_,_,_,_,_,rfl,HF.out⟩
    · have hst : S0 (d_ 6) ms w1 ∨ S1 (d_ 6) ms u1 w1 := by
        cases e1 : d_ 4 with
        | false => exact .inl ((F.st0 e1))
        | true =>
          have n_ : d_ 8 = false := by
            cases e_ : d_ 8 with
            | false => rfl
            | true => have h2 := (F.q8 e_).2.1; rw [show d_ 1 = false from hd_] at h2; cases h2
          exact .inr ((F.st1 e1 n_))
      have kk := kl1.out (d_ 6) ms u1 w1 hst
      clear hst
      obtain rfl := F.f0 (by simp [hdep])
      have HF : Hid (tur10F b9 b5 bn k n m g2 S0 S1 S2 (upd d_ 1) (.pointer (some ⟨b9,2,none⟩)) (.slice (some ⟨g2,0,none⟩) n n) x124 x125 x126 x127 x128 x129 ms u1 w1) := ⟨fun _ => (show _ from (by simp [hdep] : d_ 0 = true)),F.q4,F.q6,fun h => ⟨(F.q7 h).1,rfl,(F.q7 h).2.2.1,(F.q7 h).2.2.2.1,(F.q7 h).2.2.2.2.1,(F.q7 h).2.2.2.2.2.1,(F.q7 h).2.2.2.2.2.2⟩,fun h => ⟨(F.q8 h).1,rfl,(F.q8 h).2.2.1,(F.q8 h).2.2.2.1,(F.q8 h).2.2.2.2.1,(F.q8 h).2.2.2.2.2.1,(F.q8 h).2.2.2.2.2.2.1,(F.q8 h).2.2.2.2.2.2.2⟩,F.f0,fun _ => rfl,F.f2,F.f3,F.f4,F.f5,F.f6,F.f7,F.st0,F.st1,F.st2,F.mz⟩
      clear F
      go_simp
      exact HK.out _ _ ⟨_,_,_,_,_,_,_,_,_,_,rfl,HF.out⟩
    · have HF : Hid (tur10F b9 b5 bn k n m g2 S0 S1 S2 (upd d_ 2) x122 x123 (.func (.func 43) #[] #[.pointer (some ⟨b5,0,none⟩),.pointer (some ⟨bn,0,none⟩)]) x125 x126 x127 x128 x129 ms u1 w1) := ⟨F.q1,fun h => ⟨rfl,(F.q4 h).2⟩,F.q6,fun h => ⟨(F.q7 h).1,(F.q7 h).2.1,rfl,(F.q7 h).2.2.2.1,(F.q7 h).2.2.2.2.1,(F.q7 h).2.2.2.2.2.1,(F.q7 h).2.2.2.2.2.2⟩,fun h => ⟨(F.q8 h).1,(F.q8 h).2.1,rfl,(F.q8 h).2.2.2.1,(F.q8 h).2.2.2.2.1,(F.q8 h).2.2.2.2.2.1,(F.q8 h).2.2.2.2.2.2.1,(F.q8 h).2.2.2.2.2.2.2⟩,F.f0,F.f1,fun _ => rfl,F.f3,F.f4,F.f5,F.f6,F.f7,F.st0,F.st1,F.st2,F.mz⟩
      clear F
      go_simp
      exact HK.out _ _ ⟨_,_,_,_,_,_,_,_,_,_,rfl,HF.out⟩
    · have HF : Hid (tur10F b9 b5 bn k n m g2 S0 S1 S2 (upd d_ 3) x122 x123 x124 (.int .i64 (k : Int)) x126 x127 x128 x129 ms u1 w1) := ⟨F.q1,fun h => ⟨(F.q4 h).1,rfl⟩,F.q6,fun h => ⟨(F.q7 h).1,(F.q7 h).2.1,(F.q7 h).2.2.1,rfl,(F.q7 h).2.2.2.2.1,(F.q7 h).2.2.2.2.2.1,(F.q7 h).2.2.2.2.2.2⟩,fun h => ⟨(F.q8 h).1,(F.q8 h).2.1,(F.q8 h).2.2.1,rfl,(F.q8 h).2.2.2.2.1,(F.q8 h).2.2.2.2.2.1,(F.q8 h).2.2.2.2.2.2.1,(F.q8 h).2.2.2.2.2.2.2⟩,F.f0,F.f1,F.f2,fun _ => rfl,F.f4,F.f5,F.f6,F.f7,F.st0,F.st1,F.st2,F.mz⟩
      clear F
      go_simp
      exact HK.out _ _ ⟨_,_,_,_,_,_,_,_,_,_,rfl,HF.out⟩
    · have hS := F.st0  hd_
      obtain rfl := F.f2 (by simp [hdep])
      obtain rfl := F.f3 (by simp [hdep])
      have hc := kc4.out (d_ 6) ms w1 hS
      have HF := Lib.hid F
      clear F
      go_simp
      refine ⟨trivial,rfl,wideAt_calls (hc.mono ?_)⟩
      rintro e w5 ⟨v_,rfl,hres⟩
      exact HK.out _ _ ⟨_,_,_,_,_,_,_,_,ms,v_,rfl,⟨HF.out.q1,fun _ => ⟨(show _ from (by simp [hdep] : d_ 2 = true)),(show _ from (by simp [hdep] : d_ 3 = true))⟩,HF.out.q6,fun h => ⟨(HF.out.q7 h).1,(HF.out.q7 h).2.1,(HF.out.q7 h).2.2.1,(HF.out.q7 h).2.2.2.1,rfl,(HF.out.q7 h).2.2.2.2.2.1,(HF.out.q7 h).2.2.2.2.2.2⟩,fun h => ⟨(HF.out.q8 h).1,(HF.out.q8 h).2.1,(HF.out.q8 h).2.2.1,(HF.out.q8 h).2.2.2.1,rfl,(HF.out.q8 h).2.2.2.2.2.1,(HF.out.q8 h).2.2.2.2.2.2.1,(HF.out.q8 h).2.2.2.2.2.2.2⟩,HF.out.f0,HF.out.f1,HF.out.f2,HF.out.f3,fun _ => rfl,HF.out.f5,HF.out.f6,HF.out.f7,fun h => (by simp [upd] at h),fun _ _ => hres,fun h => (by have h2 : d_ 4 = true := (HF.out.q8 h).2.2.2.2.1; rw [show d_ 4 = false from hd_] at h2; cases h2),HF.out.mz⟩⟩
    · have hst : S0 (d_ 6) ms w1 ∨ S1 (d_ 6) ms u1 w1 := by
        cases e1 : d_ 4 with
        | false => exact .inl ((F.st0 e1))
        | true =>
          have n_ : d_ 8 = false := by
            cases e_ : d_ 8 with
            | false => rfl
            | true => have h2 := (F.q8 e_).2.2.2.2.2.1; rw [show d_ 5 = false from hd_] at h2; cases h2
          exact .inr ((F.st1 e1 n_))
      have kk := kl5.out (d_ 6) ms u1 w1 hst
      clear hst
      have HF : Hid (tur10F b9 b5 bn k n m g2 S0 S1 S2 (upd d_ 5) x122 x123 x124 x125 x126 (.int .i64 (n : Int)) x128 x129 ms u1 w1) := ⟨F.q1,F.q4,fun h => rfl,fun h => ⟨(F.q7 h).1,(F.q7 h).2.1,(F.q7 h).2.2.1,(F.q7 h).2.2.2.1,(F.q7 h).2.2.2.2.1,rfl,(F.q7 h).2.2.2.2.2.2⟩,fun h => ⟨(F.q8 h).1,(F.q8 h).2.1,(F.q8 h).2.2.1,(F.q8 h).2.2.2.1,(F.q8 h).2.2.2.2.1,rfl,(F.q8 h).2.2.2.2.2.2.1,(F.q8 h).2.2.2.2.2.2.2⟩,F.f0,F.f1,F.f2,F.f3,F.f4,fun _ => rfl,F.f6,F.f7,F.st0,F.st1,F.st2,F.mz⟩
      clear F
      go_simp
      exact HK.out _ _ ⟨_,_,_,_,_,_,_,_,_,_,rfl,HF.out⟩
    · obtain rfl := F.f5 (by simp [hdep])
      have HF : Hid (tur10F b9 b5 bn k n m g2 S0 S1 S2 (upd d_ 6) x122 x123 x124 x125 x126 (.int .i64 (n : Int)) (.slice (some ⟨w1.heap.size,0,none⟩) n n) x129 w1.heap.size u1 (w1.alloc (.cells (madeCells #[.int .i64 0,.int .i64 0] (n * 2)) 33))) := ⟨F.q1,F.q4,fun _ => (show _ from (by simp [hdep] : d_ 5 = true)),fun h => ⟨(F.q7 h).1,(F.q7 h).2.1,(F.q7 h).2.2.1,(F.q7 h).2.2.2.1,(F.q7 h).2.2.2.2.1,(F.q7 h).2.2.2.2.2.1,rfl⟩,fun h => ⟨(F.q8 h).1,(F.q8 h).2.1,(F.q8 h).2.2.1,(F.q8 h).2.2.2.1,(F.q8 h).2.2.2.2.1,(F.q8 h).2.2.2.2.2.1,rfl,(F.q8 h).2.2.2.2.2.2.2⟩,F.f0,F.f1,F.f2,F.f3,F.f4,F.f5,fun _ => rfl,F.f7,fun b => ks0.out w1 (by have h := F.st0 b; rw [show d_ 6 = false from hd_,F.mz hd_] at h; exact h),fun a b => ks1.out u1 w1 (by have h := F.st1 a b; rw [show d_ 6 = false from hd_,F.mz hd_] at h; exact h),fun a => (by have h2 : d_ 6 = true := (F.q8 a).2.2.2.2.2.2.1; rw [show d_ 6 = false from hd_] at h2; cases h2),fun h => (by simp [upd] at h)⟩
      clear F
      have HMK := make22 hn16
      go_simp
      exact HK.out _ _ ⟨_,_,_,_,_,_,_,_,_,_,rfl,HF.out⟩
    · obtain rfl := F.f1 (by simp [hdep])
      obtain rfl := F.f4 (by simp [hdep])
      have HF : Hid (tur10F b9 b5 bn k n m g2 S0 S1 S2 (upd d_ 7) x122 (.slice (some ⟨g2,0,none⟩) n n) x124 x125 (.int .i64 (m : Int)) x127 x128 (.pointer (some ⟨g2,m,none⟩)) ms u1 w1) := ⟨F.q1,F.q4,F.q6,fun _ => ⟨(show _ from (by simp [hdep] : d_ 0 = true)),(show _ from (by simp [hdep] : d_ 1 = true)),(show _ from (by simp [hdep] : d_ 2 = true)),(show _ from (by simp [hdep] : d_ 3 = true)),(show _ from (by simp [hdep] : d_ 4 = true)),(show _ from (by simp [hdep] : d_ 5 = true)),(show _ from (by simp [hdep] : d_ 6 = true))⟩,fun h => ⟨(F.q8 h).1,(F.q8 h).2.1,(F.q8 h).2.2.1,(F.q8 h).2.2.2.1,(F.q8 h).2.2.2.2.1,(F.q8 h).2.2.2.2.2.1,(F.q8 h).2.2.2.2.2.2.1,rfl⟩,F.f0,F.f1,F.f2,F.f3,F.f4,F.f5,F.f6,fun _ => rfl,F.st0,F.st1,F.st2,F.mz⟩
      clear F
      have hmn2 : m < n := hmn
      go_simp
      exact HK.out _ _ ⟨_,_,_,_,_,_,_,_,_,_,rfl,HF.out⟩
    · have hS := F.st1 (by simp [hdep] : d_ 4 = true) hd_
      rw [show d_ 6 = true from (by simp [hdep] : d_ 6 = true)] at hS
      obtain rfl := F.f6 (by simp [hdep])
      obtain rfl := F.f7 (by simp [hdep])
      obtain ⟨⟨ku0,kcell0⟩,kfr0,hres⟩ := kc8.out ms u1 w1 hS
      have HF : Hid (tur10F b9 b5 bn k n m g2 S0 S1 S2 (upd d_ 8) x122 x123 x124 x125 x126 x127 (.slice (some ⟨ms,0,none⟩) n n) (.pointer (some ⟨g2,m,none⟩)) ms u1 (w1.setCell ⟨g2,m,none⟩ (.slice (some ⟨ms,0,none⟩) n n))) := ⟨F.q1,F.q4,F.q6,F.q7,fun _ => ⟨(show _ from (by simp [hdep] : d_ 0 = true)),(show _ from (by simp [hdep] : d_ 1 = true)),(show _ from (by simp [hdep] : d_ 2 = true)),(show _ from (by simp [hdep] : d_ 3 = true)),(show _ from (by simp [hdep] : d_ 4 = true)),(show _ from (by simp [hdep] : d_ 5 = true)),(show _ from (by simp [hdep] : d_ 6 = true)),(show _ from (by simp [hdep] : d_ 7 = true))⟩,F.f0,F.f1,F.f2,F.f3,F.f4,F.f5,F.f6,F.f7,fun h => (by have h2 : d_ 4 = false := h; rw [(by simp [hdep] : d_ 4 = true)] at h2; cases h2),fun _ h => (by simp [upd] at h),fun _ => (by rw [show upd d_ 8 6 = true from (by simp [hdep] : d_ 6 = true)]; exact hres),F.mz⟩
      clear F hS hres
      go_simp
      exact HK.out _ _ ⟨_,_,_,_,_,_,_,_,_,_,rfl,HF.out⟩
  · rintro d_ a_ w1 hall ⟨x122,x123,x124,x125,x126,x127,x128,x129,ms,u1,rfl,F⟩
    have hall' : ∀ k,k < 9 → d_ k = true := hall
    obtain rfl := F.f0 (hall' 0 (by decide))
    obtain rfl := F.f1 (hall' 1 (by decide))
    obtain rfl := F.f2 (hall' 2 (by decide))
    obtain rfl := F.f3 (hall' 3 (by decide))
    obtain rfl := F.f4 (hall' 4 (by decide))
    obtain rfl := F.f5 (hall' 5 (by decide))
    obtain rfl := F.f6 (hall' 6 (by decide))
    obtain rfl := F.f7 (hall' 7 (by decide))
    have hst := F.st2 (hall' 8 (by decide))
    rw [show d_ 6 = true from hall' 6 (by decide)] at hst
    exact HQ.out ms u1 w1 hst
structure tur14F (bx : Nat) (b9 : Nat) (b5 : Nat) (bn : Nat) (k : Nat) (j : Nat) (n : Nat) (m : Nat) (q : Nat) (g2 : Nat) (h1 : Nat) (wb : Nat) (wo : Nat) (wc : Nat) (rb : Nat) (ro : Nat) (rn : Nat) (rc : Nat) (sp : Spn) (S0 : World → Prop) (S1 : Unit → World → Prop) (S2 : Unit → Unit → World → Prop) (S3 : Unit → Unit → World → Prop) (d : Nat → Bool) (x134 x135 x136 x137 x138 x139 x140 x141 x142 x143 x144 x145 x146 x147 x148 x149 x150 x151 x152 : Value) (u1 : Unit) (u2 : Unit) (w : World) : Prop where
  q1 : d 1 = true → d 0 = true
  q4 : d 4 = true → d 2 = true ∧ d 3 = true
  q5 : d 5 = true → d 1 = true ∧ d 4 = true
  q6 : d 6 = true → d 5 = true
  q9 : d 9 = true → d 4 = true ∧ d 7 = true ∧ d 8 = true
  q11 : d 11 = true → d 10 = true
  q13 : d 13 = true → d 11 = true ∧ d 12 = true
  q14 : d 14 = true → d 13 = true
  q16 : d 16 = true → d 14 = true ∧ d 15 = true
  q17 : d 17 = true → d 16 = true
  q18 : d 18 = true → d 0 = true ∧ d 1 = true ∧ d 2 = true ∧ d 3 = true ∧ d 4 = true ∧ d 5 = true ∧ d 6 = true ∧ d 7 = true ∧ d 8 = true ∧ d 9 = true ∧ d 10 = true ∧ d 11 = true ∧ d 12 = true ∧ d 13 = true ∧ d 14 = true ∧ d 15 = true ∧ d 16 = true ∧ d 17 = true
  q19 : d 19 = true → d 0 = true ∧ d 1 = true ∧ d 2 = true ∧ d 3 = true ∧ d 4 = true ∧ d 5 = true ∧ d 6 = true ∧ d 7 = true ∧ d 8 = true ∧ d 9 = true ∧ d 10 = true ∧ d 11 = true ∧ d 12 = true ∧ d 13 = true ∧ d 14 = true ∧ d 15 = true ∧ d 16 = true ∧ d 17 = true ∧ d 18 = true
  f0 : d 0 = true → x134 = .pointer (some ⟨b9,2,none⟩)
  f1 : d 1 = true → x135 = .slice (some ⟨g2,0,none⟩) n n
  f2 : d 2 = true → x136 = .func (.func 43) #[] #[.pointer (some ⟨b5,0,none⟩),.pointer (some ⟨bn,0,none⟩)]
  f3 : d 3 = true → x137 = .int .i64 (k : Int)
  f4 : d 4 = true → x138 = .int .i64 (m : Int)
  f5 : d 5 = true → x139 = .pointer (some ⟨g2,m,none⟩)
  f6 : d 6 = true → x140 = .slice (some ⟨h1,0,none⟩) n n
  f7 : d 7 = true → x141 = .func (.func 43) #[] #[.pointer (some ⟨b5,0,none⟩),.pointer (some ⟨bn,0,none⟩)]
  f8 : d 8 = true → x142 = .int .i64 (j : Int)
  f9 : d 9 = true → x143 = .int .i64 (q : Int)
  f10 : d 10 = true → x144 = .pointer (some ⟨bx,2,none⟩)
  f11 : d 11 = true → x145 = .slice (some ⟨wb,wo,none⟩) n wc
  f12 : d 12 = true → x146 = .int .i64 (k : Int)
  f13 : d 13 = true → x147 = .pointer (some ⟨wb,wo + k,none⟩)
  f14 : d 14 = true → x148 = .slice (some ⟨rb,ro,none⟩) rn rc
  f15 : d 15 = true → x149 = .int .i64 (j : Int)
  f16 : d 16 = true → x150 = .pointer (some ⟨rb,ro + j * 2,none⟩)
  f17 : d 17 = true → x151 = .agg #[.int .i64 sp.lo,.int .i64 sp.hi]
  f18 : d 18 = true → x152 = .pointer (some ⟨h1,q * 2,none⟩)
  st0 : d 4 = false → S0 w
  st1 : d 4 = true → d 9 = false → S1 u1 w
  st2 : d 9 = true → d 19 = false → S2 u1 u2 w
  st3 : d 19 = true → S3 u1 u2 w
noncomputable def tur14C : Code := (Try.f11.body.bind (regionAt 14)).getD .skip
set_option maxRecDepth 100000 in
set_option maxHeartbeats 4000000 in
theorem tur14 {bx : Nat} {b9 : Nat} {b5 : Nat} {bn : Nat} {k : Nat} {j : Nat} {n : Nat} {m : Nat} {q : Nat} {g2 : Nat} {h1 : Nat} {wb : Nat} {wo : Nat} {wc : Nat} {rb : Nat} {ro : Nat} {rn : Nat} {rc : Nat} {sp : Spn} {S0 : World → Prop} {S1 : Unit → World → Prop} {S2 : Unit → Unit → World → Prop} {S3 : Unit → Unit → World → Prop} {Q : Exit → Act → World → Prop} {W1 : World} (hkn : k < n) (hmn : m < n) (hjr : j < rn) (hqn : q < n) (h0 : S0 W1.drew)
    (kl1 : Hid (∀ (u1 : Unit) (u2 : Unit) (w : World),(S0 w ∨ S1 u1 w ∨ S2 u1 u2 w) → w.cell? ⟨b9,2,none⟩ = some (.slice (some ⟨g2,0,none⟩) n n)))
    (kc4 : Hid (∀ (w : World),S0 w → Calls Try.prog 43 #[.int .i64 (k : Int),.pointer (some ⟨b5,0,none⟩),.pointer (some ⟨bn,0,none⟩)] w fun e w' => ∃ u1 : Unit,e = .returned (.int .i64 (m : Int)) ∧ S1 u1 w'))
    (kl6 : Hid (∀ (u1 : Unit) (u2 : Unit) (w : World),(S1 u1 w ∨ S2 u1 u2 w) → w.cell? ⟨g2,m,none⟩ = some (.slice (some ⟨h1,0,none⟩) n n)))
    (kc9 : Hid (∀ (u1 : Unit) (w : World),S1 u1 w → Calls Try.prog 43 #[.int .i64 (j : Int),.pointer (some ⟨b5,0,none⟩),.pointer (some ⟨bn,0,none⟩)] w fun e w' => ∃ u2 : Unit,e = .returned (.int .i64 (q : Int)) ∧ S2 u1 u2 w'))
    (kl11 : Hid (∀ (u1 : Unit) (u2 : Unit) (w : World),(S0 w ∨ S1 u1 w ∨ S2 u1 u2 w) → w.cell? ⟨bx,2,none⟩ = some (.slice (some ⟨wb,wo,none⟩) n wc)))
    (kl14 : Hid (∀ (u1 : Unit) (u2 : Unit) (w : World),(S0 w ∨ S1 u1 w ∨ S2 u1 u2 w) → w.cell? ⟨wb,wo + k,none⟩ = some (.slice (some ⟨rb,ro,none⟩) rn rc)))
    (kl17 : Hid (∀ (u1 : Unit) (u2 : Unit) (w : World),(S0 w ∨ S1 u1 w ∨ S2 u1 u2 w) → w.cell? ⟨rb,ro + j * 2,none⟩ = some (.int .i64 sp.lo) ∧ w.cell? ⟨rb,ro + j * 2 + 1,none⟩ = some (.int .i64 sp.hi)))
    (kc19 : Hid (∀ (u1 : Unit) (u2 : Unit) (w : World),S2 u1 u2 w → (∃ u,w.cell? ⟨h1,q * 2,none⟩ = some u) ∧ w.frozen? ⟨h1,q * 2,none⟩ = false ∧ (∃ u,w.cell? ⟨h1,q * 2 + 1,none⟩ = some u) ∧ w.frozen? ⟨h1,q * 2 + 1,none⟩ = false ∧ S3 u1 u2 ((w.setCell ⟨h1,q * 2,none⟩ (.int .i64 sp.lo)).setCell ⟨h1,q * 2 + 1,none⟩ (.int .i64 sp.hi))))
    {s0 s1 s2 s4 s5 s6 s7 s12 s13 s14 s15 s16 s17 s18 s19 s20 s21 s22 s23 s24 s25 s26 s27 s28 s29 s30 s31 s32 s33 s34 s35 s36 s37 s38 s39 s40 s41 s42 s43 s44 s45 s46 s47 s48 s49 s50 s51 s52 s53 s54 s55 s56 s57 s58 s59 s60 s61 s62 s63 s64 s65 s66 s67 s68 s69 s70 s71 s72 s73 s74 s75 s76 s77 s78 s79 s80 s81 s82 s83 s84 s85 s86 s87 s88 s89 s90 s91 s92 s93 s94 s95 s96 s97 s98 s99 s100 s101 s102 s103 s104 s105 s106 s107 s108 s109 s110 s111 s112 s113 s114 s115 s116 s117 s118 s119 s120 s121 s122 s123 s124 s125 s126 s127 s128 s129 s130 s131 s132 s133 s134 s135 s136 s137 s138 s139 s140 s141 s142 s143 s144 s145 s146 s147 s148 s149 s150 s151 s152 s153 s154 s155 s156 s157 s158 s159 s160 s161 s162 s163 s164 s165 s166 s167 s168 s169 s170 s171 s172 s173 s174 s175 s176 s177 s178 s179 s180 s181 s182 s183 s184 s185 s186 s187 s188 s189 s190 s191 s192 s193 s194 s195 s196 s197 s198 s199 s200 s201 s202 s203 s204 s205 s206 s207 s208 s209 s210 s211 s212 s213 s214 s215 s216 s217 s218 s219 s220 s221 s222 s223 s224 s225 s226 s227 s228 s229 s230 s231 s232 s233 s234 s235 s236 s237 s238 s239 s240 s241 s242 s243 s244 s245 s246 s247 s248 s249 s250 s251 s252 s253 s254 s255 s256 s257 s258 s259 s260 s261 s262 s263 s264 s265 s266 s267 s268 s269 s270 s271 s272 s273 s274 s275 s276 s277 s278 s279 s280 s281 s282 s283 s284 s285 s286 s287 s288 s289 s290 s291 s292 s293 s294 s295 s296 s297 s298 s299 s300 s301 s302 s303 s304 s305 s306 s307 s308 s309 s310 s311 s312 s313 s314 s315 s316 s317 s318 s319 s320 s321 s322 s323 s324 s325 s326 s327 s328 s329 s330 s331 s332 s333 s334 s335 s336 s337 s338 s339 s340 s341 s342 s343 s344 s345 s346 s347 s348 s349 s350 s351 s352 s353 s354 s355 s356 s357 s358 s359 s360 s361 s362 s363 s364 s365 s366 s367 s368 s369 s370 s371 s372 s373 s374 s375 s376 s377 s378 s379 s380 s381 s382 s383 s384 s385 s386 s387 s388 s389 s390 s391 s392 s393 s394 s395 s396 s397 s398 s399 s400 s401 s402 s403 s404 s405 s406 s407 : Value} {dd : List Deferred}
    (hQ : ∀ (u1 : Unit) (u2 : Unit) (w' : World),S3 u1 u2 w' → Q .normal { tmps := #[s0,s1,s2,.pointer (some ⟨bx,0,none⟩),s4,s5,s6,s7,.func (.func 43) #[] #[.pointer (some ⟨b5,0,none⟩),.pointer (some ⟨bn,0,none⟩)],.pointer (some ⟨b9,0,none⟩),.int .i64 (k : Int),.int .i64 (j : Int),s12,s13,s14,s15,s16,s17,s18,s19,s20,s21,s22,s23,s24,s25,s26,s27,s28,s29,s30,s31,s32,s33,s34,s35,s36,s37,s38,s39,s40,s41,s42,s43,s44,s45,s46,s47,s48,s49,s50,s51,s52,s53,s54,s55,s56,s57,s58,s59,s60,s61,s62,s63,s64,s65,s66,s67,s68,s69,s70,s71,s72,s73,s74,s75,s76,s77,s78,s79,s80,s81,s82,s83,s84,s85,s86,s87,s88,s89,s90,s91,s92,s93,s94,s95,s96,s97,s98,s99,s100,s101,s102,s103,s104,s105,s106,s107,s108,s109,s110,s111,s112,s113,s114,s115,s116,s117,s118,s119,s120,s121,s122,s123,s124,s125,s126,s127,s128,s129,s130,s131,s132,s133,.pointer (some ⟨b9,2,none⟩),.slice (some ⟨g2,0,none⟩) n n,.func (.func 43) #[] #[.pointer (some ⟨b5,0,none⟩),.pointer (some ⟨bn,0,none⟩)],.int .i64 (k : Int),.int .i64 (m : Int),.pointer (some ⟨g2,m,none⟩),.slice (some ⟨h1,0,none⟩) n n,.func (.func 43) #[] #[.pointer (some ⟨b5,0,none⟩),.pointer (some ⟨bn,0,none⟩)],.int .i64 (j : Int),.int .i64 (q : Int),.pointer (some ⟨bx,2,none⟩),.slice (some ⟨wb,wo,none⟩) n wc,.int .i64 (k : Int),.pointer (some ⟨wb,wo + k,none⟩),.slice (some ⟨rb,ro,none⟩) rn rc,.int .i64 (j : Int),.pointer (some ⟨rb,ro + j * 2,none⟩),.agg #[.int .i64 sp.lo,.int .i64 sp.hi],.pointer (some ⟨h1,q * 2,none⟩),s153,s154,s155,s156,s157,s158,s159,s160,s161,s162,s163,s164,s165,s166,s167,s168,s169,s170,s171,s172,s173,s174,s175,s176,s177,s178,s179,s180,s181,s182,s183,s184,s185,s186,s187,s188,s189,s190,s191,s192,s193,s194,s195,s196,s197,s198,s199,s200,s201,s202,s203,s204,s205,s206,s207,s208,s209,s210,s211,s212,s213,s214,s215,s216,s217,s218,s219,s220,s221,s222,s223,s224,s225,s226,s227,s228,s229,s230,s231,s232,s233,s234,s235,s236,s237,s238,s239,s240,s241,s242,s243,s244,s245,s246,s247,s248,s249,s250,s251,s252,s253,s254,s255,s256,s257,s258,s259,s260,s261,s262,s263,s264,s265,s266,s267,s268,s269,s270,s271,s272,s273,s274,s275,s276,s277,s278,s279,s280,s281,s282,s283,s284,s285,s286,s287,s288,s289,s290,s291,s292,s293,s294,s295,s296,s297,s298,s299,s300,s301,s302,s303,s304,s305,s306,s307,s308,s309,s310,s311,s312,s313,s314,s315,s316,s317,s318,s319,s320,s321,s322,s323,s324,s325,s326,s327,s328,s329,s330,s331,s332,s333,s334,s335,s336,s337,s338,s339,s340,s341,s342,s343,s344,s345,s346,s347,s348,s349,s350,s351,s352,s353,s354,s355,s356,s357,s358,s359,s360,s361,s362,s363,s364,s365,s366,s367,s368,s369,s370,s371,s372,s373,s374,s375,s376,s377,s378,s379,s380,s381,s382,s383,s384,s385,s386,s387,s388,s389,s390,s391,s392,s393,s394,s395,s396,s397,s398,s399,s400,s401,s402,s403,s404,s405,s406,s407],defers := dd } w') :
    Code.wpIn (wideAt none) 0 Try.prog tur14C Q { tmps := #[s0,s1,s2,.pointer (some ⟨bx,0,none⟩),s4,s5,s6,s7,.func (.func 43) #[] #[.pointer (some ⟨b5,0,none⟩),.pointer (some ⟨bn,0,none⟩)],.pointer (some ⟨b9,0,none⟩),.int .i64 (k : Int),.int .i64 (j : Int),s12,s13,s14,s15,s16,s17,s18,s19,s20,s21,s22,s23,s24,s25,s26,s27,s28,s29,s30,s31,s32,s33,s34,s35,s36,s37,s38,s39,s40,s41,s42,s43,s44,s45,s46,s47,s48,s49,s50,s51,s52,s53,s54,s55,s56,s57,s58,s59,s60,s61,s62,s63,s64,s65,s66,s67,s68,s69,s70,s71,s72,s73,s74,s75,s76,s77,s78,s79,s80,s81,s82,s83,s84,s85,s86,s87,s88,s89,s90,s91,s92,s93,s94,s95,s96,s97,s98,s99,s100,s101,s102,s103,s104,s105,s106,s107,s108,s109,s110,s111,s112,s113,s114,s115,s116,s117,s118,s119,s120,s121,s122,s123,s124,s125,s126,s127,s128,s129,s130,s131,s132,s133,s134,s135,s136,s137,s138,s139,s140,s141,s142,s143,s144,s145,s146,s147,s148,s149,s150,s151,s152,s153,s154,s155,s156,s157,s158,s159,s160,s161,s162,s163,s164,s165,s166,s167,s168,s169,s170,s171,s172,s173,s174,s175,s176,s177,s178,s179,s180,s181,s182,s183,s184,s185,s186,s187,s188,s189,s190,s191,s192,s193,s194,s195,s196,s197,s198,s199,s200,s201,s202,s203,s204,s205,s206,s207,s208,s209,s210,s211,s212,s213,s214,s215,s216,s217,s218,s219,s220,s221,s222,s223,s224,s225,s226,s227,s228,s229,s230,s231,s232,s233,s234,s235,s236,s237,s238,s239,s240,s241,s242,s243,s244,s245,s246,s247,s248,s249,s250,s251,s252,s253,s254,s255,s256,s257,s258,s259,s260,s261,s262,s263,s264,s265,s266,s267,s268,s269,s270,s271,s272,s273,s274,s275,s276,s277,s278,s279,s280,s281,s282,s283,s284,s285,s286,s287,s288,s289,s290,s291,s292,s293,s294,s295,s296,s297,s298,s299,s300,s301,s302,s303,s304,s305,s306,s307,s308,s309,s310,s311,s312,s313,s314,s315,s316,s317,s318,s319,s320,s321,s322,s323,s324,s325,s326,s327,s328,s329,s330,s331,s332,s333,s334,s335,s336,s337,s338,s339,s340,s341,s342,s343,s344,s345,s346,s347,s348,s349,s350,s351,s352,s353,s354,s355,s356,s357,s358,s359,s360,s361,s362,s363,s364,s365,s366,s367,s368,s369,s370,s371,s372,s373,s374,s375,s376,s377,s378,s379,s380,s381,s382,s383,s384,s385,s386,s387,s388,s389,s390,s391,s392,s393,s394,s395,s396,s397,s398,s399,s400,s401,s402,s403,s404,s405,s406,s407],defers := dd } W1 := by
  have HQ := Lib.hid hQ
  clear hQ
  conv => arg 4; whnf
  refine wpIn_region_invG mixed (by kernel_rfl) (fun d_ a_ w' => ∃ (x134 : Value) (x135 : Value) (x136 : Value) (x137 : Value) (x138 : Value) (x139 : Value) (x140 : Value) (x141 : Value) (x142 : Value) (x143 : Value) (x144 : Value) (x145 : Value) (x146 : Value) (x147 : Value) (x148 : Value) (x149 : Value) (x150 : Value) (x151 : Value) (x152 : Value) (u1 : Unit) (u2 : Unit),a_ = { tmps := #[s0,s1,s2,.pointer (some ⟨bx,0,none⟩),s4,s5,s6,s7,.func (.func 43) #[] #[.pointer (some ⟨b5,0,none⟩),.pointer (some ⟨bn,0,none⟩)],.pointer (some ⟨b9,0,none⟩),.int .i64 (k : Int),.int .i64 (j : Int),s12,s13,s14,s15,s16,s17,s18,s19,s20,s21,s22,s23,s24,s25,s26,s27,s28,s29,s30,s31,s32,s33,s34,s35,s36,s37,s38,s39,s40,s41,s42,s43,s44,s45,s46,s47,s48,s49,s50,s51,s52,s53,s54,s55,s56,s57,s58,s59,s60,s61,s62,s63,s64,s65,s66,s67,s68,s69,s70,s71,s72,s73,s74,s75,s76,s77,s78,s79,s80,s81,s82,s83,s84,s85,s86,s87,s88,s89,s90,s91,s92,s93,s94,s95,s96,s97,s98,s99,s100,s101,s102,s103,s104,s105,s106,s107,s108,s109,s110,s111,s112,s113,s114,s115,s116,s117,s118,s119,s120,s121,s122,s123,s124,s125,s126,s127,s128,s129,s130,s131,s132,s133,x134,x135,x136,x137,x138,x139,x140,x141,x142,x143,x144,x145,x146,x147,x148,x149,x150,x151,x152,s153,s154,s155,s156,s157,s158,s159,s160,s161,s162,s163,s164,s165,s166,s167,s168,s169,s170,s171,s172,s173,s174,s175,s176,s177,s178,s179,s180,s181,s182,s183,s184,s185,s186,s187,s188,s189,s190,s191,s192,s193,s194,s195,s196,s197,s198,s199,s200,s201,s202,s203,s204,s205,s206,s207,s208,s209,s210,s211,s212,s213,s214,s215,s216,s217,s218,s219,s220,s221,s222,s223,s224,s225,s226,s227,s228,s229,s230,s231,s232,s233,s234,s235,s236,s237,s238,s239,s240,s241,s242,s243,s244,s245,s246,s247,s248,s249,s250,s251,s252,s253,s254,s255,s256,s257,s258,s259,s260,s261,s262,s263,s264,s265,s266,s267,s268,s269,s270,s271,s272,s273,s274,s275,s276,s277,s278,s279,s280,s281,s282,s283,s284,s285,s286,s287,s288,s289,s290,s291,s292,s293,s294,s295,s296,s297,s298,s299,s300,s301,s302,s303,s304,s305,s306,s307,s308,s309,s310,s311,s312,s313,s314,s315,s316,s317,s318,s319,s320,s321,s322,s323,s324,s325,s326,s327,s328,s329,s330,s331,s332,s333,s334,s335,s336,s337,s338,s339,s340,s341,s342,s343,s344,s345,s346,s347,s348,s349,s350,s351,s352,s353,s354,s355,s356,s357,s358,s359,s360,s361,s362,s363,s364,s365,s366,s367,s368,s369,s370,s371,s372,s373,s374,s375,s376,s377,s378,s379,s380,s381,s382,s383,s384,s385,s386,s387,s388,s389,s390,s391,s392,s393,s394,s395,s396,s397,s398,s399,s400,s401,s402,s403,s404,s405,s406,s407],defers := dd } ∧ tur14F bx b9 b5 bn k j n m q g2 h1 wb wo wc rb ro rn rc sp S0 S1 S2 S3 d_ x134 x135 x136 x137 x138 x139 x140 x141 x142 x143 x144 x145 x146 x147 x148 x149 x150 x151 x152 u1 u2 w') ?_ ?_ ?_
  · refine ⟨s134,s135,s136,s137,s138,s139,s140,s141,s142,s143,s144,s145,s146,s147,s148,s149,s150,s151,s152,default,default,rfl,?_⟩
    constructor <;> first | rfl | (intro _; rfl) | (intro h; cases h; done) | (intro _; exact h0) | exact h0
  · refine ⟨?_,?_,?_,?_,?_,?_,?_,?_,?_,?_,?_,?_,?_,?_,?_,?_,?_,?_,?_,?_,trivial⟩
    all_goals
      rintro d_ a_ w1 K hd_ hdep ⟨x134,x135,x136,x137,x138,x139,x140,x141,x142,x143,x144,x145,x146,x147,x148,x149,x150,x151,x152,u1,u2,rfl,F⟩ HK
      simp [Region.binds] at hdep
    · have HF : Hid (tur14F bx b9 b5 bn k j n m q g2 h1 wb wo wc rb ro rn rc sp S0 S1 S2 S3 (upd d_ 0) (.pointer (some ⟨b9,2,none⟩)) x135 x136 x137 x138 x139 x140 x141 x142 x143 x144 x145 x146 x147 x148 x149 x150 x151 x152 u1 u2 w1) := ⟨fun h => rfl,F.q4,F.q5,F.q6,F.q9,F.q11,F.q13,F.q14,F.q16,F.q17,fun h => ⟨rfl,(F.q18 h).2.1,(F.q18 h).2.2.1,(F.q18 h).2.2.2.1,(F.q18 h).2.2.2.2.1,(F.q18 h).2.2.2.2.2.1,(F.q18 h).2.2.2.2.2.2.1,(F.q18 h).2.2.2.2.2.2.2.1,(F.q18 h).2.2.2.2.2.2.2.2.1,(F.q18 h).2.2.2.2.2.2.2.2.2.1,(F.q18 h).2.2.2.2.2.2.2.2.2.2.1,(F.q18 h).2.2.2.2.2.2.2.2.2.2.2.1,(F.q18 h).2.2.2.2.2.2.2.2.2.2.2.2.1,(F.q18 h).2.2.2.2.2.2.2.2.2.2.2.2.2.1,(F.q18 h).2.2.2.2.2.2.2.2.2.2.2.2.2.2.1,(F.q18 h).2.2.2.2.2.2.2.2.2.2.2.2.2.2.2.1,(F.q18 h).2.2.2.2.2.2.2.2.2.2.2.2.2.2.2.2.1,(F.q18 h).2.2.2.2.2.2.2.2.2.2.2.2.2.2.2.2.2⟩,fun h => ⟨rfl,(F.q19 h).2.1,(F.q19 h).2.2.1,(F.q19 h).2.2.2.1,(F.q19 h).2.2.2.2.1,(F.q19 h).2.2.2.2.2.1,(F.q19 h).2.2.2.2.2.2.1,(F.q19 h).2.2.2.2.2.2.2.1,(F.q19 h).2.2.2.2.2.2.2.2.1,(F.q19 h).2.2.2.2.2.2.2.2.2.1,(F.q19 h).2.2.2.2.2.2.2.2.2.2.1,(F.q19 h).2.2.2.2.2.2.2.2.2.2.2.1,(F.q19 h).2.2.2.2.2.2.2.2.2.2.2.2.1,(F.q19 h).2.2.2.2.2.2.2.2.2.2.2.2.2.1,(F.q19 h).2.2.2.2.2.2.2.2.2.2.2.2.2.2.1,(F.q19 h).2.2.2.2.2.2.2.2.2.2.2.2.2.2.2.1,(F.q19 h).2.2.2.2.2.2.2.2.2.2.2.2.2.2.2.2.1,(F.q19 h).2.2.2.2.2.2.2.2.2.2.2.2.2.2.2.2.2.1,(F.q19 h).2.2.2.2.2.2.2.2.2.2.2.2.2.2.2.2.2.2⟩,fun _ => rfl,F.f1,F.f2,F.f3,F.f4,F.f5,F.f6,F.f7,F.f8,F.f9,F.f10,F.f11,F.f12,F.f13,F.f14,F.f15,F.f16,F.f17,F.f18,F.st0,F.st1,F.st2,F.st3⟩
      clear F
      go_simp
      exact HK.out _ _ ⟨_,_,_,_,_,_,_,_,_,_,_,_,_,_,_,_,_,_,_,_,_,rfl,HF.out⟩
    · have hst : S0 w1 ∨ S1 u1 w1 ∨ S2 u1 u2 w1 := by
        cases e1 : d_ 4 with
        | false => exact .inl ((F.st0 e1))
        | true =>
          cases e2 : d_ 9 with
          | false => exact .inr (.inl ((F.st1 e1 e2)))
          | true =>
            have n_ : d_ 19 = false := by
              cases e_ : d_ 19 with
              | false => rfl
              | true => have h2 := (F.q19 e_).2.1; rw [show d_ 1 = false from hd_] at h2; cases h2
            exact .inr (.inr ((F.st2 e2 n_)))
      have kk := kl1.out u1 u2 w1 hst
      clear hst
      obtain rfl := F.f0 (by simp [hdep])
      have HF : Hid (tur14F bx b9 b5 bn k j n m q g2 h1 wb wo wc rb ro rn rc sp S0 S1 S2 S3 (upd d_ 1) (.pointer (some ⟨b9,2,none⟩)) (.slice (some ⟨g2,0,none⟩) n n) x136 x137 x138 x139 x140 x141 x142 x143 x144 x145 x146 x147 x148 x149 x150 x151 x152 u1 u2 w1) := ⟨fun _ => (show _ from (by simp [hdep] : d_ 0 = true)),F.q4,fun h => ⟨rfl,(F.q5 h).2⟩,F.q6,F.q9,F.q11,F.q13,F.q14,F.q16,F.q17,fun h => ⟨(F.q18 h).1,rfl,(F.q18 h).2.2.1,(F.q18 h).2.2.2.1,(F.q18 h).2.2.2.2.1,(F.q18 h).2.2.2.2.2.1,(F.q18 h).2.2.2.2.2.2.1,(F.q18 h).2.2.2.2.2.2.2.1,(F.q18 h).2.2.2.2.2.2.2.2.1,(F.q18 h).2.2.2.2.2.2.2.2.2.1,(F.q18 h).2.2.2.2.2.2.2.2.2.2.1,(F.q18 h).2.2.2.2.2.2.2.2.2.2.2.1,(F.q18 h).2.2.2.2.2.2.2.2.2.2.2.2.1,(F.q18 h).2.2.2.2.2.2.2.2.2.2.2.2.2.1,(F.q18 h).2.2.2.2.2.2.2.2.2.2.2.2.2.2.1,(F.q18 h).2.2.2.2.2.2.2.2.2.2.2.2.2.2.2.1,(F.q18 h).2.2.2.2.2.2.2.2.2.2.2.2.2.2.2.2.1,(F.q18 h).2.2.2.2.2.2.2.2.2.2.2.2.2.2.2.2.2⟩,fun h => ⟨(F.q19 h).1,rfl,(F.q19 h).2.2.1,(F.q19 h).2.2.2.1,(F.q19 h).2.2.2.2.1,(F.q19 h).2.2.2.2.2.1,(F.q19 h).2.2.2.2.2.2.1,(F.q19 h).2.2.2.2.2.2.2.1,(F.q19 h).2.2.2.2.2.2.2.2.1,(F.q19 h).2.2.2.2.2.2.2.2.2.1,(F.q19 h).2.2.2.2.2.2.2.2.2.2.1,(F.q19 h).2.2.2.2.2.2.2.2.2.2.2.1,(F.q19 h).2.2.2.2.2.2.2.2.2.2.2.2.1,(F.q19 h).2.2.2.2.2.2.2.2.2.2.2.2.2.1,(F.q19 h).2.2.2.2.2.2.2.2.2.2.2.2.2.2.1,(F.q19 h).2.2.2.2.2.2.2.2.2.2.2.2.2.2.2.1,(F.q19 h).2.2.2.2.2.2.2.2.2.2.2.2.2.2.2.2.1,(F.q19 h).2.2.2.2.2.2.2.2.2.2.2.2.2.2.2.2.2.1,(F.q19 h).2.2.2.2.2.2.2.2.2.2.2.2.2.2.2.2.2.2⟩,F.f0,fun _ => rfl,F.f2,F.f3,F.f4,F.f5,F.f6,F.f7,F.f8,F.f9,F.f10,F.f11,F.f12,F.f13,F.f14,F.f15,F.f16,F.f17,F.f18,F.st0,F.st1,F.st2,F.st3⟩
      clear F
      go_simp
      exact HK.out _ _ ⟨_,_,_,_,_,_,_,_,_,_,_,_,_,_,_,_,_,_,_,_,_,rfl,HF.out⟩
    · have HF : Hid (tur14F bx b9 b5 bn k j n m q g2 h1 wb wo wc rb ro rn rc sp S0 S1 S2 S3 (upd d_ 2) x134 x135 (.func (.func 43) #[] #[.pointer (some ⟨b5,0,none⟩),.pointer (some ⟨bn,0,none⟩)]) x137 x138 x139 x140 x141 x142 x143 x144 x145 x146 x147 x148 x149 x150 x151 x152 u1 u2 w1) := ⟨F.q1,fun h => ⟨rfl,(F.q4 h).2⟩,F.q5,F.q6,F.q9,F.q11,F.q13,F.q14,F.q16,F.q17,fun h => ⟨(F.q18 h).1,(F.q18 h).2.1,rfl,(F.q18 h).2.2.2.1,(F.q18 h).2.2.2.2.1,(F.q18 h).2.2.2.2.2.1,(F.q18 h).2.2.2.2.2.2.1,(F.q18 h).2.2.2.2.2.2.2.1,(F.q18 h).2.2.2.2.2.2.2.2.1,(F.q18 h).2.2.2.2.2.2.2.2.2.1,(F.q18 h).2.2.2.2.2.2.2.2.2.2.1,(F.q18 h).2.2.2.2.2.2.2.2.2.2.2.1,(F.q18 h).2.2.2.2.2.2.2.2.2.2.2.2.1,(F.q18 h).2.2.2.2.2.2.2.2.2.2.2.2.2.1,(F.q18 h).2.2.2.2.2.2.2.2.2.2.2.2.2.2.1,(F.q18 h).2.2.2.2.2.2.2.2.2.2.2.2.2.2.2.1,(F.q18 h).2.2.2.2.2.2.2.2.2.2.2.2.2.2.2.2.1,(F.q18 h).2.2.2.2.2.2.2.2.2.2.2.2.2.2.2.2.2⟩,fun h => ⟨(F.q19 h).1,(F.q19 h).2.1,rfl,(F.q19 h).2.2.2.1,(F.q19 h).2.2.2.2.1,(F.q19 h).2.2.2.2.2.1,(F.q19 h).2.2.2.2.2.2.1,(F.q19 h).2.2.2.2.2.2.2.1,(F.q19 h).2.2.2.2.2.2.2.2.1,(F.q19 h).2.2.2.2.2.2.2.2.2.1,(F.q19 h).2.2.2.2.2.2.2.2.2.2.1,(F.q19 h).2.2.2.2.2.2.2.2.2.2.2.1,(F.q19 h).2.2.2.2.2.2.2.2.2.2.2.2.1,(F.q19 h).2.2.2.2.2.2.2.2.2.2.2.2.2.1,(F.q19 h).2.2.2.2.2.2.2.2.2.2.2.2.2.2.1,(F.q19 h).2.2.2.2.2.2.2.2.2.2.2.2.2.2.2.1,(F.q19 h).2.2.2.2.2.2.2.2.2.2.2.2.2.2.2.2.1,(F.q19 h).2.2.2.2.2.2.2.2.2.2.2.2.2.2.2.2.2.1,(F.q19 h).2.2.2.2.2.2.2.2.2.2.2.2.2.2.2.2.2.2⟩,F.f0,F.f1,fun _ => rfl,F.f3,F.f4,F.f5,F.f6,F.f7,F.f8,F.f9,F.f10,F.f11,F.f12,F.f13,F.f14,F.f15,F.f16,F.f17,F.f18,F.st0,F.st1,F.st2,F.st3⟩
      clear F
      go_simp
      exact HK.out _ _ ⟨_,_,_,_,_,_,_,_,_,_,_,_,_,_,_,_,_,_,_,_,_,rfl,HF.out⟩
    · have HF : Hid (tur14F bx b9 b5 bn k j n m q g2 h1 wb wo wc rb ro rn rc sp S0 S1 S2 S3 (upd d_ 3) x134 x135 x136 (.int .i64 (k : Int)) x138 x139 x140 x141 x142 x143 x144 x145 x146 x147 x148 x149 x150 x151 x152 u1 u2 w1) := ⟨F.q1,fun h => ⟨(F.q4 h).1,rfl⟩,F.q5,F.q6,F.q9,F.q11,F.q13,F.q14,F.q16,F.q17,fun h => ⟨(F.q18 h).1,(F.q18 h).2.1,(F.q18 h).2.2.1,rfl,(F.q18 h).2.2.2.2.1,(F.q18 h).2.2.2.2.2.1,(F.q18 h).2.2.2.2.2.2.1,(F.q18 h).2.2.2.2.2.2.2.1,(F.q18 h).2.2.2.2.2.2.2.2.1,(F.q18 h).2.2.2.2.2.2.2.2.2.1,(F.q18 h).2.2.2.2.2.2.2.2.2.2.1,(F.q18 h).2.2.2.2.2.2.2.2.2.2.2.1,(F.q18 h).2.2.2.2.2.2.2.2.2.2.2.2.1,(F.q18 h).2.2.2.2.2.2.2.2.2.2.2.2.2.1,(F.q18 h).2.2.2.2.2.2.2.2.2.2.2.2.2.2.1,(F.q18 h).2.2.2.2.2.2.2.2.2.2.2.2.2.2.2.1,(F.q18 h).2.2.2.2.2.2.2.2.2.2.2.2.2.2.2.2.1,(F.q18 h).2.2.2.2.2.2.2.2.2.2.2.2.2.2.2.2.2⟩,fun h => ⟨(F.q19 h).1,(F.q19 h).2.1,(F.q19 h).2.2.1,rfl,(F.q19 h).2.2.2.2.1,(F.q19 h).2.2.2.2.2.1,(F.q19 h).2.2.2.2.2.2.1,(F.q19 h).2.2.2.2.2.2.2.1,(F.q19 h).2.2.2.2.2.2.2.2.1,(F.q19 h).2.2.2.2.2.2.2.2.2.1,(F.q19 h).2.2.2.2.2.2.2.2.2.2.1,(F.q19 h).2.2.2.2.2.2.2.2.2.2.2.1,(F.q19 h).2.2.2.2.2.2.2.2.2.2.2.2.1,(F.q19 h).2.2.2.2.2.2.2.2.2.2.2.2.2.1,(F.q19 h).2.2.2.2.2.2.2.2.2.2.2.2.2.2.1,(F.q19 h).2.2.2.2.2.2.2.2.2.2.2.2.2.2.2.1,(F.q19 h).2.2.2.2.2.2.2.2.2.2.2.2.2.2.2.2.1,(F.q19 h).2.2.2.2.2.2.2.2.2.2.2.2.2.2.2.2.2.1,(F.q19 h).2.2.2.2.2.2.2.2.2.2.2.2.2.2.2.2.2.2⟩,F.f0,F.f1,F.f2,fun _ => rfl,F.f4,F.f5,F.f6,F.f7,F.f8,F.f9,F.f10,F.f11,F.f12,F.f13,F.f14,F.f15,F.f16,F.f17,F.f18,F.st0,F.st1,F.st2,F.st3⟩
      clear F
      go_simp
      exact HK.out _ _ ⟨_,_,_,_,_,_,_,_,_,_,_,_,_,_,_,_,_,_,_,_,_,rfl,HF.out⟩
    · have hS := F.st0  hd_
      obtain rfl := F.f2 (by simp [hdep])
      obtain rfl := F.f3 (by simp [hdep])
      have hc := kc4.out w1 hS
      have HF := Lib.hid F
      clear F
      go_simp
      refine ⟨trivial,rfl,wideAt_calls (hc.mono ?_)⟩
      rintro e w5 ⟨v_,rfl,hres⟩
      exact HK.out _ _ ⟨_,_,_,_,_,_,_,_,_,_,_,_,_,_,_,_,_,_,_,v_,u2,rfl,⟨HF.out.q1,fun _ => ⟨(show _ from (by simp [hdep] : d_ 2 = true)),(show _ from (by simp [hdep] : d_ 3 = true))⟩,fun h => ⟨(HF.out.q5 h).1,rfl⟩,HF.out.q6,fun h => ⟨rfl,(HF.out.q9 h).2.1,(HF.out.q9 h).2.2⟩,HF.out.q11,HF.out.q13,HF.out.q14,HF.out.q16,HF.out.q17,fun h => ⟨(HF.out.q18 h).1,(HF.out.q18 h).2.1,(HF.out.q18 h).2.2.1,(HF.out.q18 h).2.2.2.1,rfl,(HF.out.q18 h).2.2.2.2.2.1,(HF.out.q18 h).2.2.2.2.2.2.1,(HF.out.q18 h).2.2.2.2.2.2.2.1,(HF.out.q18 h).2.2.2.2.2.2.2.2.1,(HF.out.q18 h).2.2.2.2.2.2.2.2.2.1,(HF.out.q18 h).2.2.2.2.2.2.2.2.2.2.1,(HF.out.q18 h).2.2.2.2.2.2.2.2.2.2.2.1,(HF.out.q18 h).2.2.2.2.2.2.2.2.2.2.2.2.1,(HF.out.q18 h).2.2.2.2.2.2.2.2.2.2.2.2.2.1,(HF.out.q18 h).2.2.2.2.2.2.2.2.2.2.2.2.2.2.1,(HF.out.q18 h).2.2.2.2.2.2.2.2.2.2.2.2.2.2.2.1,(HF.out.q18 h).2.2.2.2.2.2.2.2.2.2.2.2.2.2.2.2.1,(HF.out.q18 h).2.2.2.2.2.2.2.2.2.2.2.2.2.2.2.2.2⟩,fun h => ⟨(HF.out.q19 h).1,(HF.out.q19 h).2.1,(HF.out.q19 h).2.2.1,(HF.out.q19 h).2.2.2.1,rfl,(HF.out.q19 h).2.2.2.2.2.1,(HF.out.q19 h).2.2.2.2.2.2.1,(HF.out.q19 h).2.2.2.2.2.2.2.1,(HF.out.q19 h).2.2.2.2.2.2.2.2.1,(HF.out.q19 h).2.2.2.2.2.2.2.2.2.1,(HF.out.q19 h).2.2.2.2.2.2.2.2.2.2.1,(HF.out.q19 h).2.2.2.2.2.2.2.2.2.2.2.1,(HF.out.q19 h).2.2.2.2.2.2.2.2.2.2.2.2.1,(HF.out.q19 h).2.2.2.2.2.2.2.2.2.2.2.2.2.1,(HF.out.q19 h).2.2.2.2.2.2.2.2.2.2.2.2.2.2.1,(HF.out.q19 h).2.2.2.2.2.2.2.2.2.2.2.2.2.2.2.1,(HF.out.q19 h).2.2.2.2.2.2.2.2.2.2.2.2.2.2.2.2.1,(HF.out.q19 h).2.2.2.2.2.2.2.2.2.2.2.2.2.2.2.2.2.1,(HF.out.q19 h).2.2.2.2.2.2.2.2.2.2.2.2.2.2.2.2.2.2⟩,HF.out.f0,HF.out.f1,HF.out.f2,HF.out.f3,fun _ => rfl,HF.out.f5,HF.out.f6,HF.out.f7,HF.out.f8,HF.out.f9,HF.out.f10,HF.out.f11,HF.out.f12,HF.out.f13,HF.out.f14,HF.out.f15,HF.out.f16,HF.out.f17,HF.out.f18,fun h => (by simp [upd] at h),fun _ _ => hres,fun h _ => (by have h2 : d_ 4 = true := (HF.out.q9 h).1; rw [show d_ 4 = false from hd_] at h2; cases h2),fun h => (by have h2 : d_ 4 = true := (HF.out.q19 h).2.2.2.2.1; rw [show d_ 4 = false from hd_] at h2; cases h2)⟩⟩
    · obtain rfl := F.f1 (by simp [hdep])
      obtain rfl := F.f4 (by simp [hdep])
      have HF : Hid (tur14F bx b9 b5 bn k j n m q g2 h1 wb wo wc rb ro rn rc sp S0 S1 S2 S3 (upd d_ 5) x134 (.slice (some ⟨g2,0,none⟩) n n) x136 x137 (.int .i64 (m : Int)) (.pointer (some ⟨g2,m,none⟩)) x140 x141 x142 x143 x144 x145 x146 x147 x148 x149 x150 x151 x152 u1 u2 w1) := ⟨F.q1,F.q4,fun _ => ⟨(show _ from (by simp [hdep] : d_ 1 = true)),(show _ from (by simp [hdep] : d_ 4 = true))⟩,fun h => rfl,F.q9,F.q11,F.q13,F.q14,F.q16,F.q17,fun h => ⟨(F.q18 h).1,(F.q18 h).2.1,(F.q18 h).2.2.1,(F.q18 h).2.2.2.1,(F.q18 h).2.2.2.2.1,rfl,(F.q18 h).2.2.2.2.2.2.1,(F.q18 h).2.2.2.2.2.2.2.1,(F.q18 h).2.2.2.2.2.2.2.2.1,(F.q18 h).2.2.2.2.2.2.2.2.2.1,(F.q18 h).2.2.2.2.2.2.2.2.2.2.1,(F.q18 h).2.2.2.2.2.2.2.2.2.2.2.1,(F.q18 h).2.2.2.2.2.2.2.2.2.2.2.2.1,(F.q18 h).2.2.2.2.2.2.2.2.2.2.2.2.2.1,(F.q18 h).2.2.2.2.2.2.2.2.2.2.2.2.2.2.1,(F.q18 h).2.2.2.2.2.2.2.2.2.2.2.2.2.2.2.1,(F.q18 h).2.2.2.2.2.2.2.2.2.2.2.2.2.2.2.2.1,(F.q18 h).2.2.2.2.2.2.2.2.2.2.2.2.2.2.2.2.2⟩,fun h => ⟨(F.q19 h).1,(F.q19 h).2.1,(F.q19 h).2.2.1,(F.q19 h).2.2.2.1,(F.q19 h).2.2.2.2.1,rfl,(F.q19 h).2.2.2.2.2.2.1,(F.q19 h).2.2.2.2.2.2.2.1,(F.q19 h).2.2.2.2.2.2.2.2.1,(F.q19 h).2.2.2.2.2.2.2.2.2.1,(F.q19 h).2.2.2.2.2.2.2.2.2.2.1,(F.q19 h).2.2.2.2.2.2.2.2.2.2.2.1,(F.q19 h).2.2.2.2.2.2.2.2.2.2.2.2.1,(F.q19 h).2.2.2.2.2.2.2.2.2.2.2.2.2.1,(F.q19 h).2.2.2.2.2.2.2.2.2.2.2.2.2.2.1,(F.q19 h).2.2.2.2.2.2.2.2.2.2.2.2.2.2.2.1,(F.q19 h).2.2.2.2.2.2.2.2.2.2.2.2.2.2.2.2.1,(F.q19 h).2.2.2.2.2.2.2.2.2.2.2.2.2.2.2.2.2.1,(F.q19 h).2.2.2.2.2.2.2.2.2.2.2.2.2.2.2.2.2.2⟩,F.f0,F.f1,F.f2,F.f3,F.f4,fun _ => rfl,F.f6,F.f7,F.f8,F.f9,F.f10,F.f11,F.f12,F.f13,F.f14,F.f15,F.f16,F.f17,F.f18,F.st0,F.st1,F.st2,F.st3⟩
      clear F
      have hmn2 : m < n := hmn
      go_simp
      exact HK.out _ _ ⟨_,_,_,_,_,_,_,_,_,_,_,_,_,_,_,_,_,_,_,_,_,rfl,HF.out⟩
    · have hst : S1 u1 w1 ∨ S2 u1 u2 w1 := by
        cases e2 : d_ 9 with
        | false => exact .inl ((F.st1 (F.q5 (by simp [hdep] : d_ 5 = true)).2 e2))
        | true =>
          have n_ : d_ 19 = false := by
            cases e_ : d_ 19 with
            | false => rfl
            | true => have h2 := (F.q19 e_).2.2.2.2.2.2.1; rw [show d_ 6 = false from hd_] at h2; cases h2
          exact .inr ((F.st2 e2 n_))
      have kk := kl6.out u1 u2 w1 hst
      clear hst
      obtain rfl := F.f5 (by simp [hdep])
      have HF : Hid (tur14F bx b9 b5 bn k j n m q g2 h1 wb wo wc rb ro rn rc sp S0 S1 S2 S3 (upd d_ 6) x134 x135 x136 x137 x138 (.pointer (some ⟨g2,m,none⟩)) (.slice (some ⟨h1,0,none⟩) n n) x141 x142 x143 x144 x145 x146 x147 x148 x149 x150 x151 x152 u1 u2 w1) := ⟨F.q1,F.q4,F.q5,fun _ => (show _ from (by simp [hdep] : d_ 5 = true)),F.q9,F.q11,F.q13,F.q14,F.q16,F.q17,fun h => ⟨(F.q18 h).1,(F.q18 h).2.1,(F.q18 h).2.2.1,(F.q18 h).2.2.2.1,(F.q18 h).2.2.2.2.1,(F.q18 h).2.2.2.2.2.1,rfl,(F.q18 h).2.2.2.2.2.2.2.1,(F.q18 h).2.2.2.2.2.2.2.2.1,(F.q18 h).2.2.2.2.2.2.2.2.2.1,(F.q18 h).2.2.2.2.2.2.2.2.2.2.1,(F.q18 h).2.2.2.2.2.2.2.2.2.2.2.1,(F.q18 h).2.2.2.2.2.2.2.2.2.2.2.2.1,(F.q18 h).2.2.2.2.2.2.2.2.2.2.2.2.2.1,(F.q18 h).2.2.2.2.2.2.2.2.2.2.2.2.2.2.1,(F.q18 h).2.2.2.2.2.2.2.2.2.2.2.2.2.2.2.1,(F.q18 h).2.2.2.2.2.2.2.2.2.2.2.2.2.2.2.2.1,(F.q18 h).2.2.2.2.2.2.2.2.2.2.2.2.2.2.2.2.2⟩,fun h => ⟨(F.q19 h).1,(F.q19 h).2.1,(F.q19 h).2.2.1,(F.q19 h).2.2.2.1,(F.q19 h).2.2.2.2.1,(F.q19 h).2.2.2.2.2.1,rfl,(F.q19 h).2.2.2.2.2.2.2.1,(F.q19 h).2.2.2.2.2.2.2.2.1,(F.q19 h).2.2.2.2.2.2.2.2.2.1,(F.q19 h).2.2.2.2.2.2.2.2.2.2.1,(F.q19 h).2.2.2.2.2.2.2.2.2.2.2.1,(F.q19 h).2.2.2.2.2.2.2.2.2.2.2.2.1,(F.q19 h).2.2.2.2.2.2.2.2.2.2.2.2.2.1,(F.q19 h).2.2.2.2.2.2.2.2.2.2.2.2.2.2.1,(F.q19 h).2.2.2.2.2.2.2.2.2.2.2.2.2.2.2.1,(F.q19 h).2.2.2.2.2.2.2.2.2.2.2.2.2.2.2.2.1,(F.q19 h).2.2.2.2.2.2.2.2.2.2.2.2.2.2.2.2.2.1,(F.q19 h).2.2.2.2.2.2.2.2.2.2.2.2.2.2.2.2.2.2⟩,F.f0,F.f1,F.f2,F.f3,F.f4,F.f5,fun _ => rfl,F.f7,F.f8,F.f9,F.f10,F.f11,F.f12,F.f13,F.f14,F.f15,F.f16,F.f17,F.f18,F.st0,F.st1,F.st2,F.st3⟩
      clear F
      go_simp
      exact HK.out _ _ ⟨_,_,_,_,_,_,_,_,_,_,_,_,_,_,_,_,_,_,_,_,_,rfl,HF.out⟩
    · have HF : Hid (tur14F bx b9 b5 bn k j n m q g2 h1 wb wo wc rb ro rn rc sp S0 S1 S2 S3 (upd d_ 7) x134 x135 x136 x137 x138 x139 x140 (.func (.func 43) #[] #[.pointer (some ⟨b5,0,none⟩),.pointer (some ⟨bn,0,none⟩)]) x142 x143 x144 x145 x146 x147 x148 x149 x150 x151 x152 u1 u2 w1) := ⟨F.q1,F.q4,F.q5,F.q6,fun h => ⟨(F.q9 h).1,rfl,(F.q9 h).2.2⟩,F.q11,F.q13,F.q14,F.q16,F.q17,fun h => ⟨(F.q18 h).1,(F.q18 h).2.1,(F.q18 h).2.2.1,(F.q18 h).2.2.2.1,(F.q18 h).2.2.2.2.1,(F.q18 h).2.2.2.2.2.1,(F.q18 h).2.2.2.2.2.2.1,rfl,(F.q18 h).2.2.2.2.2.2.2.2.1,(F.q18 h).2.2.2.2.2.2.2.2.2.1,(F.q18 h).2.2.2.2.2.2.2.2.2.2.1,(F.q18 h).2.2.2.2.2.2.2.2.2.2.2.1,(F.q18 h).2.2.2.2.2.2.2.2.2.2.2.2.1,(F.q18 h).2.2.2.2.2.2.2.2.2.2.2.2.2.1,(F.q18 h).2.2.2.2.2.2.2.2.2.2.2.2.2.2.1,(F.q18 h).2.2.2.2.2.2.2.2.2.2.2.2.2.2.2.1,(F.q18 h).2.2.2.2.2.2.2.2.2.2.2.2.2.2.2.2.1,(F.q18 h).2.2.2.2.2.2.2.2.2.2.2.2.2.2.2.2.2⟩,fun h => ⟨(F.q19 h).1,(F.q19 h).2.1,(F.q19 h).2.2.1,(F.q19 h).2.2.2.1,(F.q19 h).2.2.2.2.1,(F.q19 h).2.2.2.2.2.1,(F.q19 h).2.2.2.2.2.2.1,rfl,(F.q19 h).2.2.2.2.2.2.2.2.1,(F.q19 h).2.2.2.2.2.2.2.2.2.1,(F.q19 h).2.2.2.2.2.2.2.2.2.2.1,(F.q19 h).2.2.2.2.2.2.2.2.2.2.2.1,(F.q19 h).2.2.2.2.2.2.2.2.2.2.2.2.1,(F.q19 h).2.2.2.2.2.2.2.2.2.2.2.2.2.1,(F.q19 h).2.2.2.2.2.2.2.2.2.2.2.2.2.2.1,(F.q19 h).2.2.2.2.2.2.2.2.2.2.2.2.2.2.2.1,(F.q19 h).2.2.2.2.2.2.2.2.2.2.2.2.2.2.2.2.1,(F.q19 h).2.2.2.2.2.2.2.2.2.2.2.2.2.2.2.2.2.1,(F.q19 h).2.2.2.2.2.2.2.2.2.2.2.2.2.2.2.2.2.2⟩,F.f0,F.f1,F.f2,F.f3,F.f4,F.f5,F.f6,fun _ => rfl,F.f8,F.f9,F.f10,F.f11,F.f12,F.f13,F.f14,F.f15,F.f16,F.f17,F.f18,F.st0,F.st1,F.st2,F.st3⟩
      clear F
      go_simp
      exact HK.out _ _ ⟨_,_,_,_,_,_,_,_,_,_,_,_,_,_,_,_,_,_,_,_,_,rfl,HF.out⟩
    · have HF : Hid (tur14F bx b9 b5 bn k j n m q g2 h1 wb wo wc rb ro rn rc sp S0 S1 S2 S3 (upd d_ 8) x134 x135 x136 x137 x138 x139 x140 x141 (.int .i64 (j : Int)) x143 x144 x145 x146 x147 x148 x149 x150 x151 x152 u1 u2 w1) := ⟨F.q1,F.q4,F.q5,F.q6,fun h => ⟨(F.q9 h).1,(F.q9 h).2.1,rfl⟩,F.q11,F.q13,F.q14,F.q16,F.q17,fun h => ⟨(F.q18 h).1,(F.q18 h).2.1,(F.q18 h).2.2.1,(F.q18 h).2.2.2.1,(F.q18 h).2.2.2.2.1,(F.q18 h).2.2.2.2.2.1,(F.q18 h).2.2.2.2.2.2.1,(F.q18 h).2.2.2.2.2.2.2.1,rfl,(F.q18 h).2.2.2.2.2.2.2.2.2.1,(F.q18 h).2.2.2.2.2.2.2.2.2.2.1,(F.q18 h).2.2.2.2.2.2.2.2.2.2.2.1,(F.q18 h).2.2.2.2.2.2.2.2.2.2.2.2.1,(F.q18 h).2.2.2.2.2.2.2.2.2.2.2.2.2.1,(F.q18 h).2.2.2.2.2.2.2.2.2.2.2.2.2.2.1,(F.q18 h).2.2.2.2.2.2.2.2.2.2.2.2.2.2.2.1,(F.q18 h).2.2.2.2.2.2.2.2.2.2.2.2.2.2.2.2.1,(F.q18 h).2.2.2.2.2.2.2.2.2.2.2.2.2.2.2.2.2⟩,fun h => ⟨(F.q19 h).1,(F.q19 h).2.1,(F.q19 h).2.2.1,(F.q19 h).2.2.2.1,(F.q19 h).2.2.2.2.1,(F.q19 h).2.2.2.2.2.1,(F.q19 h).2.2.2.2.2.2.1,(F.q19 h).2.2.2.2.2.2.2.1,rfl,(F.q19 h).2.2.2.2.2.2.2.2.2.1,(F.q19 h).2.2.2.2.2.2.2.2.2.2.1,(F.q19 h).2.2.2.2.2.2.2.2.2.2.2.1,(F.q19 h).2.2.2.2.2.2.2.2.2.2.2.2.1,(F.q19 h).2.2.2.2.2.2.2.2.2.2.2.2.2.1,(F.q19 h).2.2.2.2.2.2.2.2.2.2.2.2.2.2.1,(F.q19 h).2.2.2.2.2.2.2.2.2.2.2.2.2.2.2.1,(F.q19 h).2.2.2.2.2.2.2.2.2.2.2.2.2.2.2.2.1,(F.q19 h).2.2.2.2.2.2.2.2.2.2.2.2.2.2.2.2.2.1,(F.q19 h).2.2.2.2.2.2.2.2.2.2.2.2.2.2.2.2.2.2⟩,F.f0,F.f1,F.f2,F.f3,F.f4,F.f5,F.f6,F.f7,fun _ => rfl,F.f9,F.f10,F.f11,F.f12,F.f13,F.f14,F.f15,F.f16,F.f17,F.f18,F.st0,F.st1,F.st2,F.st3⟩
      clear F
      go_simp
      exact HK.out _ _ ⟨_,_,_,_,_,_,_,_,_,_,_,_,_,_,_,_,_,_,_,_,_,rfl,HF.out⟩
    · have hS := F.st1 (by simp [hdep] : d_ 4 = true) hd_
      obtain rfl := F.f7 (by simp [hdep])
      obtain rfl := F.f8 (by simp [hdep])
      have hc := kc9.out u1 w1 hS
      have HF := Lib.hid F
      clear F
      go_simp
      refine ⟨trivial,rfl,wideAt_calls (hc.mono ?_)⟩
      rintro e w5 ⟨v_,rfl,hres⟩
      exact HK.out _ _ ⟨_,_,_,_,_,_,_,_,_,_,_,_,_,_,_,_,_,_,_,u1,v_,rfl,⟨HF.out.q1,HF.out.q4,HF.out.q5,HF.out.q6,fun _ => ⟨(show _ from (by simp [hdep] : d_ 4 = true)),(show _ from (by simp [hdep] : d_ 7 = true)),(show _ from (by simp [hdep] : d_ 8 = true))⟩,HF.out.q11,HF.out.q13,HF.out.q14,HF.out.q16,HF.out.q17,fun h => ⟨(HF.out.q18 h).1,(HF.out.q18 h).2.1,(HF.out.q18 h).2.2.1,(HF.out.q18 h).2.2.2.1,(HF.out.q18 h).2.2.2.2.1,(HF.out.q18 h).2.2.2.2.2.1,(HF.out.q18 h).2.2.2.2.2.2.1,(HF.out.q18 h).2.2.2.2.2.2.2.1,(HF.out.q18 h).2.2.2.2.2.2.2.2.1,rfl,(HF.out.q18 h).2.2.2.2.2.2.2.2.2.2.1,(HF.out.q18 h).2.2.2.2.2.2.2.2.2.2.2.1,(HF.out.q18 h).2.2.2.2.2.2.2.2.2.2.2.2.1,(HF.out.q18 h).2.2.2.2.2.2.2.2.2.2.2.2.2.1,(HF.out.q18 h).2.2.2.2.2.2.2.2.2.2.2.2.2.2.1,(HF.out.q18 h).2.2.2.2.2.2.2.2.2.2.2.2.2.2.2.1,(HF.out.q18 h).2.2.2.2.2.2.2.2.2.2.2.2.2.2.2.2.1,(HF.out.q18 h).2.2.2.2.2.2.2.2.2.2.2.2.2.2.2.2.2⟩,fun h => ⟨(HF.out.q19 h).1,(HF.out.q19 h).2.1,(HF.out.q19 h).2.2.1,(HF.out.q19 h).2.2.2.1,(HF.out.q19 h).2.2.2.2.1,(HF.out.q19 h).2.2.2.2.2.1,(HF.out.q19 h).2.2.2.2.2.2.1,(HF.out.q19 h).2.2.2.2.2.2.2.1,(HF.out.q19 h).2.2.2.2.2.2.2.2.1,rfl,(HF.out.q19 h).2.2.2.2.2.2.2.2.2.2.1,(HF.out.q19 h).2.2.2.2.2.2.2.2.2.2.2.1,(HF.out.q19 h).2.2.2.2.2.2.2.2.2.2.2.2.1,(HF.out.q19 h).2.2.2.2.2.2.2.2.2.2.2.2.2.1,(HF.out.q19 h).2.2.2.2.2.2.2.2.2.2.2.2.2.2.1,(HF.out.q19 h).2.2.2.2.2.2.2.2.2.2.2.2.2.2.2.1,(HF.out.q19 h).2.2.2.2.2.2.2.2.2.2.2.2.2.2.2.2.1,(HF.out.q19 h).2.2.2.2.2.2.2.2.2.2.2.2.2.2.2.2.2.1,(HF.out.q19 h).2.2.2.2.2.2.2.2.2.2.2.2.2.2.2.2.2.2⟩,HF.out.f0,HF.out.f1,HF.out.f2,HF.out.f3,HF.out.f4,HF.out.f5,HF.out.f6,HF.out.f7,HF.out.f8,fun _ => rfl,HF.out.f10,HF.out.f11,HF.out.f12,HF.out.f13,HF.out.f14,HF.out.f15,HF.out.f16,HF.out.f17,HF.out.f18,fun h => (by have h2 : d_ 4 = false := h; rw [(by simp [hdep] : d_ 4 = true)] at h2; cases h2),fun _ h => (by simp [upd] at h),fun _ _ => hres,fun h => (by have h2 : d_ 9 = true := (HF.out.q19 h).2.2.2.2.2.2.2.2.2.1; rw [show d_ 9 = false from hd_] at h2; cases h2)⟩⟩
    · have HF : Hid (tur14F bx b9 b5 bn k j n m q g2 h1 wb wo wc rb ro rn rc sp S0 S1 S2 S3 (upd d_ 10) x134 x135 x136 x137 x138 x139 x140 x141 x142 x143 (.pointer (some ⟨bx,2,none⟩)) x145 x146 x147 x148 x149 x150 x151 x152 u1 u2 w1) := ⟨F.q1,F.q4,F.q5,F.q6,F.q9,fun h => rfl,F.q13,F.q14,F.q16,F.q17,fun h => ⟨(F.q18 h).1,(F.q18 h).2.1,(F.q18 h).2.2.1,(F.q18 h).2.2.2.1,(F.q18 h).2.2.2.2.1,(F.q18 h).2.2.2.2.2.1,(F.q18 h).2.2.2.2.2.2.1,(F.q18 h).2.2.2.2.2.2.2.1,(F.q18 h).2.2.2.2.2.2.2.2.1,(F.q18 h).2.2.2.2.2.2.2.2.2.1,rfl,(F.q18 h).2.2.2.2.2.2.2.2.2.2.2.1,(F.q18 h).2.2.2.2.2.2.2.2.2.2.2.2.1,(F.q18 h).2.2.2.2.2.2.2.2.2.2.2.2.2.1,(F.q18 h).2.2.2.2.2.2.2.2.2.2.2.2.2.2.1,(F.q18 h).2.2.2.2.2.2.2.2.2.2.2.2.2.2.2.1,(F.q18 h).2.2.2.2.2.2.2.2.2.2.2.2.2.2.2.2.1,(F.q18 h).2.2.2.2.2.2.2.2.2.2.2.2.2.2.2.2.2⟩,fun h => ⟨(F.q19 h).1,(F.q19 h).2.1,(F.q19 h).2.2.1,(F.q19 h).2.2.2.1,(F.q19 h).2.2.2.2.1,(F.q19 h).2.2.2.2.2.1,(F.q19 h).2.2.2.2.2.2.1,(F.q19 h).2.2.2.2.2.2.2.1,(F.q19 h).2.2.2.2.2.2.2.2.1,(F.q19 h).2.2.2.2.2.2.2.2.2.1,rfl,(F.q19 h).2.2.2.2.2.2.2.2.2.2.2.1,(F.q19 h).2.2.2.2.2.2.2.2.2.2.2.2.1,(F.q19 h).2.2.2.2.2.2.2.2.2.2.2.2.2.1,(F.q19 h).2.2.2.2.2.2.2.2.2.2.2.2.2.2.1,(F.q19 h).2.2.2.2.2.2.2.2.2.2.2.2.2.2.2.1,(F.q19 h).2.2.2.2.2.2.2.2.2.2.2.2.2.2.2.2.1,(F.q19 h).2.2.2.2.2.2.2.2.2.2.2.2.2.2.2.2.2.1,(F.q19 h).2.2.2.2.2.2.2.2.2.2.2.2.2.2.2.2.2.2⟩,F.f0,F.f1,F.f2,F.f3,F.f4,F.f5,F.f6,F.f7,F.f8,F.f9,fun _ => rfl,F.f11,F.f12,F.f13,F.f14,F.f15,F.f16,F.f17,F.f18,F.st0,F.st1,F.st2,F.st3⟩
      clear F
      go_simp
      exact HK.out _ _ ⟨_,_,_,_,_,_,_,_,_,_,_,_,_,_,_,_,_,_,_,_,_,rfl,HF.out⟩
    · have hst : S0 w1 ∨ S1 u1 w1 ∨ S2 u1 u2 w1 := by
        cases e1 : d_ 4 with
        | false => exact .inl ((F.st0 e1))
        | true =>
          cases e2 : d_ 9 with
          | false => exact .inr (.inl ((F.st1 e1 e2)))
          | true =>
            have n_ : d_ 19 = false := by
              cases e_ : d_ 19 with
              | false => rfl
              | true => have h2 := (F.q19 e_).2.2.2.2.2.2.2.2.2.2.2.1; rw [show d_ 11 = false from hd_] at h2; cases h2
            exact .inr (.inr ((F.st2 e2 n_)))
      have kk := kl11.out u1 u2 w1 hst
      clear hst
      obtain rfl := F.f10 (by simp [hdep])
      have HF : Hid (tur14F bx b9 b5 bn k j n m q g2 h1 wb wo wc rb ro rn rc sp S0 S1 S2 S3 (upd d_ 11) x134 x135 x136 x137 x138 x139 x140 x141 x142 x143 (.pointer (some ⟨bx,2,none⟩)) (.slice (some ⟨wb,wo,none⟩) n wc) x146 x147 x148 x149 x150 x151 x152 u1 u2 w1) := ⟨F.q1,F.q4,F.q5,F.q6,F.q9,fun _ => (show _ from (by simp [hdep] : d_ 10 = true)),fun h => ⟨rfl,(F.q13 h).2⟩,F.q14,F.q16,F.q17,fun h => ⟨(F.q18 h).1,(F.q18 h).2.1,(F.q18 h).2.2.1,(F.q18 h).2.2.2.1,(F.q18 h).2.2.2.2.1,(F.q18 h).2.2.2.2.2.1,(F.q18 h).2.2.2.2.2.2.1,(F.q18 h).2.2.2.2.2.2.2.1,(F.q18 h).2.2.2.2.2.2.2.2.1,(F.q18 h).2.2.2.2.2.2.2.2.2.1,(F.q18 h).2.2.2.2.2.2.2.2.2.2.1,rfl,(F.q18 h).2.2.2.2.2.2.2.2.2.2.2.2.1,(F.q18 h).2.2.2.2.2.2.2.2.2.2.2.2.2.1,(F.q18 h).2.2.2.2.2.2.2.2.2.2.2.2.2.2.1,(F.q18 h).2.2.2.2.2.2.2.2.2.2.2.2.2.2.2.1,(F.q18 h).2.2.2.2.2.2.2.2.2.2.2.2.2.2.2.2.1,(F.q18 h).2.2.2.2.2.2.2.2.2.2.2.2.2.2.2.2.2⟩,fun h => ⟨(F.q19 h).1,(F.q19 h).2.1,(F.q19 h).2.2.1,(F.q19 h).2.2.2.1,(F.q19 h).2.2.2.2.1,(F.q19 h).2.2.2.2.2.1,(F.q19 h).2.2.2.2.2.2.1,(F.q19 h).2.2.2.2.2.2.2.1,(F.q19 h).2.2.2.2.2.2.2.2.1,(F.q19 h).2.2.2.2.2.2.2.2.2.1,(F.q19 h).2.2.2.2.2.2.2.2.2.2.1,rfl,(F.q19 h).2.2.2.2.2.2.2.2.2.2.2.2.1,(F.q19 h).2.2.2.2.2.2.2.2.2.2.2.2.2.1,(F.q19 h).2.2.2.2.2.2.2.2.2.2.2.2.2.2.1,(F.q19 h).2.2.2.2.2.2.2.2.2.2.2.2.2.2.2.1,(F.q19 h).2.2.2.2.2.2.2.2.2.2.2.2.2.2.2.2.1,(F.q19 h).2.2.2.2.2.2.2.2.2.2.2.2.2.2.2.2.2.1,(F.q19 h).2.2.2.2.2.2.2.2.2.2.2.2.2.2.2.2.2.2⟩,F.f0,F.f1,F.f2,F.f3,F.f4,F.f5,F.f6,F.f7,F.f8,F.f9,F.f10,fun _ => rfl,F.f12,F.f13,F.f14,F.f15,F.f16,F.f17,F.f18,F.st0,F.st1,F.st2,F.st3⟩
      clear F
      go_simp
      exact HK.out _ _ ⟨_,_,_,_,_,_,_,_,_,_,_,_,_,_,_,_,_,_,_,_,_,rfl,HF.out⟩
    · have HF : Hid (tur14F bx b9 b5 bn k j n m q g2 h1 wb wo wc rb ro rn rc sp S0 S1 S2 S3 (upd d_ 12) x134 x135 x136 x137 x138 x139 x140 x141 x142 x143 x144 x145 (.int .i64 (k : Int)) x147 x148 x149 x150 x151 x152 u1 u2 w1) := ⟨F.q1,F.q4,F.q5,F.q6,F.q9,F.q11,fun h => ⟨(F.q13 h).1,rfl⟩,F.q14,F.q16,F.q17,fun h => ⟨(F.q18 h).1,(F.q18 h).2.1,(F.q18 h).2.2.1,(F.q18 h).2.2.2.1,(F.q18 h).2.2.2.2.1,(F.q18 h).2.2.2.2.2.1,(F.q18 h).2.2.2.2.2.2.1,(F.q18 h).2.2.2.2.2.2.2.1,(F.q18 h).2.2.2.2.2.2.2.2.1,(F.q18 h).2.2.2.2.2.2.2.2.2.1,(F.q18 h).2.2.2.2.2.2.2.2.2.2.1,(F.q18 h).2.2.2.2.2.2.2.2.2.2.2.1,rfl,(F.q18 h).2.2.2.2.2.2.2.2.2.2.2.2.2.1,(F.q18 h).2.2.2.2.2.2.2.2.2.2.2.2.2.2.1,(F.q18 h).2.2.2.2.2.2.2.2.2.2.2.2.2.2.2.1,(F.q18 h).2.2.2.2.2.2.2.2.2.2.2.2.2.2.2.2.1,(F.q18 h).2.2.2.2.2.2.2.2.2.2.2.2.2.2.2.2.2⟩,fun h => ⟨(F.q19 h).1,(F.q19 h).2.1,(F.q19 h).2.2.1,(F.q19 h).2.2.2.1,(F.q19 h).2.2.2.2.1,(F.q19 h).2.2.2.2.2.1,(F.q19 h).2.2.2.2.2.2.1,(F.q19 h).2.2.2.2.2.2.2.1,(F.q19 h).2.2.2.2.2.2.2.2.1,(F.q19 h).2.2.2.2.2.2.2.2.2.1,(F.q19 h).2.2.2.2.2.2.2.2.2.2.1,(F.q19 h).2.2.2.2.2.2.2.2.2.2.2.1,rfl,(F.q19 h).2.2.2.2.2.2.2.2.2.2.2.2.2.1,(F.q19 h).2.2.2.2.2.2.2.2.2.2.2.2.2.2.1,(F.q19 h).2.2.2.2.2.2.2.2.2.2.2.2.2.2.2.1,(F.q19 h).2.2.2.2.2.2.2.2.2.2.2.2.2.2.2.2.1,(F.q19 h).2.2.2.2.2.2.2.2.2.2.2.2.2.2.2.2.2.1,(F.q19 h).2.2.2.2.2.2.2.2.2.2.2.2.2.2.2.2.2.2⟩,F.f0,F.f1,F.f2,F.f3,F.f4,F.f5,F.f6,F.f7,F.f8,F.f9,F.f10,F.f11,fun _ => rfl,F.f13,F.f14,F.f15,F.f16,F.f17,F.f18,F.st0,F.st1,F.st2,F.st3⟩
      clear F
      go_simp
      exact HK.out _ _ ⟨_,_,_,_,_,_,_,_,_,_,_,_,_,_,_,_,_,_,_,_,_,rfl,HF.out⟩
    · obtain rfl := F.f11 (by simp [hdep])
      obtain rfl := F.f12 (by simp [hdep])
      have HF : Hid (tur14F bx b9 b5 bn k j n m q g2 h1 wb wo wc rb ro rn rc sp S0 S1 S2 S3 (upd d_ 13) x134 x135 x136 x137 x138 x139 x140 x141 x142 x143 x144 (.slice (some ⟨wb,wo,none⟩) n wc) (.int .i64 (k : Int)) (.pointer (some ⟨wb,wo + k,none⟩)) x148 x149 x150 x151 x152 u1 u2 w1) := ⟨F.q1,F.q4,F.q5,F.q6,F.q9,F.q11,fun _ => ⟨(show _ from (by simp [hdep] : d_ 11 = true)),(show _ from (by simp [hdep] : d_ 12 = true))⟩,fun h => rfl,F.q16,F.q17,fun h => ⟨(F.q18 h).1,(F.q18 h).2.1,(F.q18 h).2.2.1,(F.q18 h).2.2.2.1,(F.q18 h).2.2.2.2.1,(F.q18 h).2.2.2.2.2.1,(F.q18 h).2.2.2.2.2.2.1,(F.q18 h).2.2.2.2.2.2.2.1,(F.q18 h).2.2.2.2.2.2.2.2.1,(F.q18 h).2.2.2.2.2.2.2.2.2.1,(F.q18 h).2.2.2.2.2.2.2.2.2.2.1,(F.q18 h).2.2.2.2.2.2.2.2.2.2.2.1,(F.q18 h).2.2.2.2.2.2.2.2.2.2.2.2.1,rfl,(F.q18 h).2.2.2.2.2.2.2.2.2.2.2.2.2.2.1,(F.q18 h).2.2.2.2.2.2.2.2.2.2.2.2.2.2.2.1,(F.q18 h).2.2.2.2.2.2.2.2.2.2.2.2.2.2.2.2.1,(F.q18 h).2.2.2.2.2.2.2.2.2.2.2.2.2.2.2.2.2⟩,fun h => ⟨(F.q19 h).1,(F.q19 h).2.1,(F.q19 h).2.2.1,(F.q19 h).2.2.2.1,(F.q19 h).2.2.2.2.1,(F.q19 h).2.2.2.2.2.1,(F.q19 h).2.2.2.2.2.2.1,(F.q19 h).2.2.2.2.2.2.2.1,(F.q19 h).2.2.2.2.2.2.2.2.1,(F.q19 h).2.2.2.2.2.2.2.2.2.1,(F.q19 h).2.2.2.2.2.2.2.2.2.2.1,(F.q19 h).2.2.2.2.2.2.2.2.2.2.2.1,(F.q19 h).2.2.2.2.2.2.2.2.2.2.2.2.1,rfl,(F.q19 h).2.2.2.2.2.2.2.2.2.2.2.2.2.2.1,(F.q19 h).2.2.2.2.2.2.2.2.2.2.2.2.2.2.2.1,(F.q19 h).2.2.2.2.2.2.2.2.2.2.2.2.2.2.2.2.1,(F.q19 h).2.2.2.2.2.2.2.2.2.2.2.2.2.2.2.2.2.1,(F.q19 h).2.2.2.2.2.2.2.2.2.2.2.2.2.2.2.2.2.2⟩,F.f0,F.f1,F.f2,F.f3,F.f4,F.f5,F.f6,F.f7,F.f8,F.f9,F.f10,F.f11,F.f12,fun _ => rfl,F.f14,F.f15,F.f16,F.f17,F.f18,F.st0,F.st1,F.st2,F.st3⟩
      clear F
      have hkn2 : k < n := hkn
      go_simp
      exact HK.out _ _ ⟨_,_,_,_,_,_,_,_,_,_,_,_,_,_,_,_,_,_,_,_,_,rfl,HF.out⟩
    · have hst : S0 w1 ∨ S1 u1 w1 ∨ S2 u1 u2 w1 := by
        cases e1 : d_ 4 with
        | false => exact .inl ((F.st0 e1))
        | true =>
          cases e2 : d_ 9 with
          | false => exact .inr (.inl ((F.st1 e1 e2)))
          | true =>
            have n_ : d_ 19 = false := by
              cases e_ : d_ 19 with
              | false => rfl
              | true => have h2 := (F.q19 e_).2.2.2.2.2.2.2.2.2.2.2.2.2.2.1; rw [show d_ 14 = false from hd_] at h2; cases h2
            exact .inr (.inr ((F.st2 e2 n_)))
      have kk := kl14.out u1 u2 w1 hst
      clear hst
      obtain rfl := F.f13 (by simp [hdep])
      have HF : Hid (tur14F bx b9 b5 bn k j n m q g2 h1 wb wo wc rb ro rn rc sp S0 S1 S2 S3 (upd d_ 14) x134 x135 x136 x137 x138 x139 x140 x141 x142 x143 x144 x145 x146 (.pointer (some ⟨wb,wo + k,none⟩)) (.slice (some ⟨rb,ro,none⟩) rn rc) x149 x150 x151 x152 u1 u2 w1) := ⟨F.q1,F.q4,F.q5,F.q6,F.q9,F.q11,F.q13,fun _ => (show _ from (by simp [hdep] : d_ 13 = true)),fun h => ⟨rfl,(F.q16 h).2⟩,F.q17,fun h => ⟨(F.q18 h).1,(F.q18 h).2.1,(F.q18 h).2.2.1,(F.q18 h).2.2.2.1,(F.q18 h).2.2.2.2.1,(F.q18 h).2.2.2.2.2.1,(F.q18 h).2.2.2.2.2.2.1,(F.q18 h).2.2.2.2.2.2.2.1,(F.q18 h).2.2.2.2.2.2.2.2.1,(F.q18 h).2.2.2.2.2.2.2.2.2.1,(F.q18 h).2.2.2.2.2.2.2.2.2.2.1,(F.q18 h).2.2.2.2.2.2.2.2.2.2.2.1,(F.q18 h).2.2.2.2.2.2.2.2.2.2.2.2.1,(F.q18 h).2.2.2.2.2.2.2.2.2.2.2.2.2.1,rfl,(F.q18 h).2.2.2.2.2.2.2.2.2.2.2.2.2.2.2.1,(F.q18 h).2.2.2.2.2.2.2.2.2.2.2.2.2.2.2.2.1,(F.q18 h).2.2.2.2.2.2.2.2.2.2.2.2.2.2.2.2.2⟩,fun h => ⟨(F.q19 h).1,(F.q19 h).2.1,(F.q19 h).2.2.1,(F.q19 h).2.2.2.1,(F.q19 h).2.2.2.2.1,(F.q19 h).2.2.2.2.2.1,(F.q19 h).2.2.2.2.2.2.1,(F.q19 h).2.2.2.2.2.2.2.1,(F.q19 h).2.2.2.2.2.2.2.2.1,(F.q19 h).2.2.2.2.2.2.2.2.2.1,(F.q19 h).2.2.2.2.2.2.2.2.2.2.1,(F.q19 h).2.2.2.2.2.2.2.2.2.2.2.1,(F.q19 h).2.2.2.2.2.2.2.2.2.2.2.2.1,(F.q19 h).2.2.2.2.2.2.2.2.2.2.2.2.2.1,rfl,(F.q19 h).2.2.2.2.2.2.2.2.2.2.2.2.2.2.2.1,(F.q19 h).2.2.2.2.2.2.2.2.2.2.2.2.2.2.2.2.1,(F.q19 h).2.2.2.2.2.2.2.2.2.2.2.2.2.2.2.2.2.1,(F.q19 h).2.2.2.2.2.2.2.2.2.2.2.2.2.2.2.2.2.2⟩,F.f0,F.f1,F.f2,F.f3,F.f4,F.f5,F.f6,F.f7,F.f8,F.f9,F.f10,F.f11,F.f12,F.f13,fun _ => rfl,F.f15,F.f16,F.f17,F.f18,F.st0,F.st1,F.st2,F.st3⟩
      clear F
      go_simp
      exact HK.out _ _ ⟨_,_,_,_,_,_,_,_,_,_,_,_,_,_,_,_,_,_,_,_,_,rfl,HF.out⟩
    · have HF : Hid (tur14F bx b9 b5 bn k j n m q g2 h1 wb wo wc rb ro rn rc sp S0 S1 S2 S3 (upd d_ 15) x134 x135 x136 x137 x138 x139 x140 x141 x142 x143 x144 x145 x146 x147 x148 (.int .i64 (j : Int)) x150 x151 x152 u1 u2 w1) := ⟨F.q1,F.q4,F.q5,F.q6,F.q9,F.q11,F.q13,F.q14,fun h => ⟨(F.q16 h).1,rfl⟩,F.q17,fun h => ⟨(F.q18 h).1,(F.q18 h).2.1,(F.q18 h).2.2.1,(F.q18 h).2.2.2.1,(F.q18 h).2.2.2.2.1,(F.q18 h).2.2.2.2.2.1,(F.q18 h).2.2.2.2.2.2.1,(F.q18 h).2.2.2.2.2.2.2.1,(F.q18 h).2.2.2.2.2.2.2.2.1,(F.q18 h).2.2.2.2.2.2.2.2.2.1,(F.q18 h).2.2.2.2.2.2.2.2.2.2.1,(F.q18 h).2.2.2.2.2.2.2.2.2.2.2.1,(F.q18 h).2.2.2.2.2.2.2.2.2.2.2.2.1,(F.q18 h).2.2.2.2.2.2.2.2.2.2.2.2.2.1,(F.q18 h).2.2.2.2.2.2.2.2.2.2.2.2.2.2.1,rfl,(F.q18 h).2.2.2.2.2.2.2.2.2.2.2.2.2.2.2.2.1,(F.q18 h).2.2.2.2.2.2.2.2.2.2.2.2.2.2.2.2.2⟩,fun h => ⟨(F.q19 h).1,(F.q19 h).2.1,(F.q19 h).2.2.1,(F.q19 h).2.2.2.1,(F.q19 h).2.2.2.2.1,(F.q19 h).2.2.2.2.2.1,(F.q19 h).2.2.2.2.2.2.1,(F.q19 h).2.2.2.2.2.2.2.1,(F.q19 h).2.2.2.2.2.2.2.2.1,(F.q19 h).2.2.2.2.2.2.2.2.2.1,(F.q19 h).2.2.2.2.2.2.2.2.2.2.1,(F.q19 h).2.2.2.2.2.2.2.2.2.2.2.1,(F.q19 h).2.2.2.2.2.2.2.2.2.2.2.2.1,(F.q19 h).2.2.2.2.2.2.2.2.2.2.2.2.2.1,(F.q19 h).2.2.2.2.2.2.2.2.2.2.2.2.2.2.1,rfl,(F.q19 h).2.2.2.2.2.2.2.2.2.2.2.2.2.2.2.2.1,(F.q19 h).2.2.2.2.2.2.2.2.2.2.2.2.2.2.2.2.2.1,(F.q19 h).2.2.2.2.2.2.2.2.2.2.2.2.2.2.2.2.2.2⟩,F.f0,F.f1,F.f2,F.f3,F.f4,F.f5,F.f6,F.f7,F.f8,F.f9,F.f10,F.f11,F.f12,F.f13,F.f14,fun _ => rfl,F.f16,F.f17,F.f18,F.st0,F.st1,F.st2,F.st3⟩
      clear F
      go_simp
      exact HK.out _ _ ⟨_,_,_,_,_,_,_,_,_,_,_,_,_,_,_,_,_,_,_,_,_,rfl,HF.out⟩
    · obtain rfl := F.f14 (by simp [hdep])
      obtain rfl := F.f15 (by simp [hdep])
      have HF : Hid (tur14F bx b9 b5 bn k j n m q g2 h1 wb wo wc rb ro rn rc sp S0 S1 S2 S3 (upd d_ 16) x134 x135 x136 x137 x138 x139 x140 x141 x142 x143 x144 x145 x146 x147 (.slice (some ⟨rb,ro,none⟩) rn rc) (.int .i64 (j : Int)) (.pointer (some ⟨rb,ro + j * 2,none⟩)) x151 x152 u1 u2 w1) := ⟨F.q1,F.q4,F.q5,F.q6,F.q9,F.q11,F.q13,F.q14,fun _ => ⟨(show _ from (by simp [hdep] : d_ 14 = true)),(show _ from (by simp [hdep] : d_ 15 = true))⟩,fun h => rfl,fun h => ⟨(F.q18 h).1,(F.q18 h).2.1,(F.q18 h).2.2.1,(F.q18 h).2.2.2.1,(F.q18 h).2.2.2.2.1,(F.q18 h).2.2.2.2.2.1,(F.q18 h).2.2.2.2.2.2.1,(F.q18 h).2.2.2.2.2.2.2.1,(F.q18 h).2.2.2.2.2.2.2.2.1,(F.q18 h).2.2.2.2.2.2.2.2.2.1,(F.q18 h).2.2.2.2.2.2.2.2.2.2.1,(F.q18 h).2.2.2.2.2.2.2.2.2.2.2.1,(F.q18 h).2.2.2.2.2.2.2.2.2.2.2.2.1,(F.q18 h).2.2.2.2.2.2.2.2.2.2.2.2.2.1,(F.q18 h).2.2.2.2.2.2.2.2.2.2.2.2.2.2.1,(F.q18 h).2.2.2.2.2.2.2.2.2.2.2.2.2.2.2.1,rfl,(F.q18 h).2.2.2.2.2.2.2.2.2.2.2.2.2.2.2.2.2⟩,fun h => ⟨(F.q19 h).1,(F.q19 h).2.1,(F.q19 h).2.2.1,(F.q19 h).2.2.2.1,(F.q19 h).2.2.2.2.1,(F.q19 h).2.2.2.2.2.1,(F.q19 h).2.2.2.2.2.2.1,(F.q19 h).2.2.2.2.2.2.2.1,(F.q19 h).2.2.2.2.2.2.2.2.1,(F.q19 h).2.2.2.2.2.2.2.2.2.1,(F.q19 h).2.2.2.2.2.2.2.2.2.2.1,(F.q19 h).2.2.2.2.2.2.2.2.2.2.2.1,(F.q19 h).2.2.2.2.2.2.2.2.2.2.2.2.1,(F.q19 h).2.2.2.2.2.2.2.2.2.2.2.2.2.1,(F.q19 h).2.2.2.2.2.2.2.2.2.2.2.2.2.2.1,(F.q19 h).2.2.2.2.2.2.2.2.2.2.2.2.2.2.2.1,rfl,(F.q19 h).2.2.2.2.2.2.2.2.2.2.2.2.2.2.2.2.2.1,(F.q19 h).2.2.2.2.2.2.2.2.2.2.2.2.2.2.2.2.2.2⟩,F.f0,F.f1,F.f2,F.f3,F.f4,F.f5,F.f6,F.f7,F.f8,F.f9,F.f10,F.f11,F.f12,F.f13,F.f14,F.f15,fun _ => rfl,F.f17,F.f18,F.st0,F.st1,F.st2,F.st3⟩
      clear F
      have hjr2 : j < rn := hjr
      go_simp
      exact HK.out _ _ ⟨_,_,_,_,_,_,_,_,_,_,_,_,_,_,_,_,_,_,_,_,_,rfl,HF.out⟩
    · have hst : S0 w1 ∨ S1 u1 w1 ∨ S2 u1 u2 w1 := by
        cases e1 : d_ 4 with
        | false => exact .inl ((F.st0 e1))
        | true =>
          cases e2 : d_ 9 with
          | false => exact .inr (.inl ((F.st1 e1 e2)))
          | true =>
            have n_ : d_ 19 = false := by
              cases e_ : d_ 19 with
              | false => rfl
              | true => have h2 := (F.q19 e_).2.2.2.2.2.2.2.2.2.2.2.2.2.2.2.2.2.1; rw [show d_ 17 = false from hd_] at h2; cases h2
            exact .inr (.inr ((F.st2 e2 n_)))
      have kk := kl17.out u1 u2 w1 hst
      obtain ⟨kk0,kk1⟩ := kk
      clear hst
      obtain rfl := F.f16 (by simp [hdep])
      have HF : Hid (tur14F bx b9 b5 bn k j n m q g2 h1 wb wo wc rb ro rn rc sp S0 S1 S2 S3 (upd d_ 17) x134 x135 x136 x137 x138 x139 x140 x141 x142 x143 x144 x145 x146 x147 x148 x149 (.pointer (some ⟨rb,ro + j * 2,none⟩)) (.agg #[.int .i64 sp.lo,.int .i64 sp.hi]) x152 u1 u2 w1) := ⟨F.q1,F.q4,F.q5,F.q6,F.q9,F.q11,F.q13,F.q14,F.q16,fun _ => (show _ from (by simp [hdep] : d_ 16 = true)),fun h => ⟨(F.q18 h).1,(F.q18 h).2.1,(F.q18 h).2.2.1,(F.q18 h).2.2.2.1,(F.q18 h).2.2.2.2.1,(F.q18 h).2.2.2.2.2.1,(F.q18 h).2.2.2.2.2.2.1,(F.q18 h).2.2.2.2.2.2.2.1,(F.q18 h).2.2.2.2.2.2.2.2.1,(F.q18 h).2.2.2.2.2.2.2.2.2.1,(F.q18 h).2.2.2.2.2.2.2.2.2.2.1,(F.q18 h).2.2.2.2.2.2.2.2.2.2.2.1,(F.q18 h).2.2.2.2.2.2.2.2.2.2.2.2.1,(F.q18 h).2.2.2.2.2.2.2.2.2.2.2.2.2.1,(F.q18 h).2.2.2.2.2.2.2.2.2.2.2.2.2.2.1,(F.q18 h).2.2.2.2.2.2.2.2.2.2.2.2.2.2.2.1,(F.q18 h).2.2.2.2.2.2.2.2.2.2.2.2.2.2.2.2.1,rfl⟩,fun h => ⟨(F.q19 h).1,(F.q19 h).2.1,(F.q19 h).2.2.1,(F.q19 h).2.2.2.1,(F.q19 h).2.2.2.2.1,(F.q19 h).2.2.2.2.2.1,(F.q19 h).2.2.2.2.2.2.1,(F.q19 h).2.2.2.2.2.2.2.1,(F.q19 h).2.2.2.2.2.2.2.2.1,(F.q19 h).2.2.2.2.2.2.2.2.2.1,(F.q19 h).2.2.2.2.2.2.2.2.2.2.1,(F.q19 h).2.2.2.2.2.2.2.2.2.2.2.1,(F.q19 h).2.2.2.2.2.2.2.2.2.2.2.2.1,(F.q19 h).2.2.2.2.2.2.2.2.2.2.2.2.2.1,(F.q19 h).2.2.2.2.2.2.2.2.2.2.2.2.2.2.1,(F.q19 h).2.2.2.2.2.2.2.2.2.2.2.2.2.2.2.1,(F.q19 h).2.2.2.2.2.2.2.2.2.2.2.2.2.2.2.2.1,rfl,(F.q19 h).2.2.2.2.2.2.2.2.2.2.2.2.2.2.2.2.2.2⟩,F.f0,F.f1,F.f2,F.f3,F.f4,F.f5,F.f6,F.f7,F.f8,F.f9,F.f10,F.f11,F.f12,F.f13,F.f14,F.f15,F.f16,fun _ => rfl,F.f18,F.st0,F.st1,F.st2,F.st3⟩
      clear F
      go_simp
      exact HK.out _ _ ⟨_,_,_,_,_,_,_,_,_,_,_,_,_,_,_,_,_,_,_,_,_,rfl,HF.out⟩
    · obtain rfl := F.f6 (by simp [hdep])
      obtain rfl := F.f9 (by simp [hdep])
      have HF : Hid (tur14F bx b9 b5 bn k j n m q g2 h1 wb wo wc rb ro rn rc sp S0 S1 S2 S3 (upd d_ 18) x134 x135 x136 x137 x138 x139 (.slice (some ⟨h1,0,none⟩) n n) x141 x142 (.int .i64 (q : Int)) x144 x145 x146 x147 x148 x149 x150 x151 (.pointer (some ⟨h1,q * 2,none⟩)) u1 u2 w1) := ⟨F.q1,F.q4,F.q5,F.q6,F.q9,F.q11,F.q13,F.q14,F.q16,F.q17,fun _ => ⟨(show _ from (by simp [hdep] : d_ 0 = true)),(show _ from (by simp [hdep] : d_ 1 = true)),(show _ from (by simp [hdep] : d_ 2 = true)),(show _ from (by simp [hdep] : d_ 3 = true)),(show _ from (by simp [hdep] : d_ 4 = true)),(show _ from (by simp [hdep] : d_ 5 = true)),(show _ from (by simp [hdep] : d_ 6 = true)),(show _ from (by simp [hdep] : d_ 7 = true)),(show _ from (by simp [hdep] : d_ 8 = true)),(show _ from (by simp [hdep] : d_ 9 = true)),(show _ from (by simp [hdep] : d_ 10 = true)),(show _ from (by simp [hdep] : d_ 11 = true)),(show _ from (by simp [hdep] : d_ 12 = true)),(show _ from (by simp [hdep] : d_ 13 = true)),(show _ from (by simp [hdep] : d_ 14 = true)),(show _ from (by simp [hdep] : d_ 15 = true)),(show _ from (by simp [hdep] : d_ 16 = true)),(show _ from (by simp [hdep] : d_ 17 = true))⟩,fun h => ⟨(F.q19 h).1,(F.q19 h).2.1,(F.q19 h).2.2.1,(F.q19 h).2.2.2.1,(F.q19 h).2.2.2.2.1,(F.q19 h).2.2.2.2.2.1,(F.q19 h).2.2.2.2.2.2.1,(F.q19 h).2.2.2.2.2.2.2.1,(F.q19 h).2.2.2.2.2.2.2.2.1,(F.q19 h).2.2.2.2.2.2.2.2.2.1,(F.q19 h).2.2.2.2.2.2.2.2.2.2.1,(F.q19 h).2.2.2.2.2.2.2.2.2.2.2.1,(F.q19 h).2.2.2.2.2.2.2.2.2.2.2.2.1,(F.q19 h).2.2.2.2.2.2.2.2.2.2.2.2.2.1,(F.q19 h).2.2.2.2.2.2.2.2.2.2.2.2.2.2.1,(F.q19 h).2.2.2.2.2.2.2.2.2.2.2.2.2.2.2.1,(F.q19 h).2.2.2.2.2.2.2.2.2.2.2.2.2.2.2.2.1,(F.q19 h).2.2.2.2.2.2.2.2.2.2.2.2.2.2.2.2.2.1,rfl⟩,F.f0,F.f1,F.f2,F.f3,F.f4,F.f5,F.f6,F.f7,F.f8,F.f9,F.f10,F.f11,F.f12,F.f13,F.f14,F.f15,F.f16,F.f17,fun _ => rfl,F.st0,F.st1,F.st2,F.st3⟩
      clear F
      have hqn2 : q < n := hqn
      go_simp
      exact HK.out _ _ ⟨_,_,_,_,_,_,_,_,_,_,_,_,_,_,_,_,_,_,_,_,_,rfl,HF.out⟩
    · have hS := F.st2 (by simp [hdep] : d_ 9 = true) hd_
      obtain rfl := F.f17 (by simp [hdep])
      obtain rfl := F.f18 (by simp [hdep])
      obtain ⟨⟨ku0,kcell0⟩,kfr0,⟨ku1,kcell1⟩,kfr1,hres⟩ := kc19.out u1 u2 w1 hS
      have HF : Hid (tur14F bx b9 b5 bn k j n m q g2 h1 wb wo wc rb ro rn rc sp S0 S1 S2 S3 (upd d_ 19) x134 x135 x136 x137 x138 x139 x140 x141 x142 x143 x144 x145 x146 x147 x148 x149 x150 (.agg #[.int .i64 sp.lo,.int .i64 sp.hi]) (.pointer (some ⟨h1,q * 2,none⟩)) u1 u2 ((w1.setCell ⟨h1,q * 2,none⟩ (.int .i64 sp.lo)).setCell ⟨h1,q * 2 + 1,none⟩ (.int .i64 sp.hi))) := ⟨F.q1,F.q4,F.q5,F.q6,F.q9,F.q11,F.q13,F.q14,F.q16,F.q17,F.q18,fun _ => ⟨(show _ from (by simp [hdep] : d_ 0 = true)),(show _ from (by simp [hdep] : d_ 1 = true)),(show _ from (by simp [hdep] : d_ 2 = true)),(show _ from (by simp [hdep] : d_ 3 = true)),(show _ from (by simp [hdep] : d_ 4 = true)),(show _ from (by simp [hdep] : d_ 5 = true)),(show _ from (by simp [hdep] : d_ 6 = true)),(show _ from (by simp [hdep] : d_ 7 = true)),(show _ from (by simp [hdep] : d_ 8 = true)),(show _ from (by simp [hdep] : d_ 9 = true)),(show _ from (by simp [hdep] : d_ 10 = true)),(show _ from (by simp [hdep] : d_ 11 = true)),(show _ from (by simp [hdep] : d_ 12 = true)),(show _ from (by simp [hdep] : d_ 13 = true)),(show _ from (by simp [hdep] : d_ 14 = true)),(show _ from (by simp [hdep] : d_ 15 = true)),(show _ from (by simp [hdep] : d_ 16 = true)),(show _ from (by simp [hdep] : d_ 17 = true)),(show _ from (by simp [hdep] : d_ 18 = true))⟩,F.f0,F.f1,F.f2,F.f3,F.f4,F.f5,F.f6,F.f7,F.f8,F.f9,F.f10,F.f11,F.f12,F.f13,F.f14,F.f15,F.f16,F.f17,F.f18,fun h => (by have h2 : d_ 4 = false := h; rw [(by simp [hdep] : d_ 4 = true)] at h2; cases h2),fun _ h => (by have h2 : d_ 9 = false := h; rw [(by simp [hdep] : d_ 9 = true)] at h2; cases h2),fun _ h => (by simp [upd] at h),fun _ => hres⟩
      clear F hS hres
      go_simp
      exact HK.out _ _ ⟨_,_,_,_,_,_,_,_,_,_,_,_,_,_,_,_,_,_,_,_,_,rfl,HF.out⟩
  · rintro d_ a_ w1 hall ⟨x134,x135,x136,x137,x138,x139,x140,x141,x142,x143,x144,x145,x146,x147,x148,x149,x150,x151,x152,u1,u2,rfl,F⟩
    have hall' : ∀ k,k < 20 → d_ k = true := hall
    obtain rfl := F.f0 (hall' 0 (by decide))
    obtain rfl := F.f1 (hall' 1 (by decide))
    obtain rfl := F.f2 (hall' 2 (by decide))
    obtain rfl := F.f3 (hall' 3 (by decide))
    obtain rfl := F.f4 (hall' 4 (by decide))
    obtain rfl := F.f5 (hall' 5 (by decide))
    obtain rfl := F.f6 (hall' 6 (by decide))
    obtain rfl := F.f7 (hall' 7 (by decide))
    obtain rfl := F.f8 (hall' 8 (by decide))
    obtain rfl := F.f9 (hall' 9 (by decide))
    obtain rfl := F.f10 (hall' 10 (by decide))
    obtain rfl := F.f11 (hall' 11 (by decide))
    obtain rfl := F.f12 (hall' 12 (by decide))
    obtain rfl := F.f13 (hall' 13 (by decide))
    obtain rfl := F.f14 (hall' 14 (by decide))
    obtain rfl := F.f15 (hall' 15 (by decide))
    obtain rfl := F.f16 (hall' 16 (by decide))
    obtain rfl := F.f17 (hall' 17 (by decide))
    obtain rfl := F.f18 (hall' 18 (by decide))
    have hst := F.st3 (hall' 19 (by decide))
    exact HQ.out u1 u2 w1 hst
end Go.Proofs.Ytphefhpmbahagaa
