/- WalkTurned: the end of the walk: the shortest tours and the orders with the most views. -/
import Derived.Test.YtphefhpmbahagaaT92
namespace Go.Proofs.Ytphefhpmbahagaa
open Go.RowKit
set_option linter.unusedVariables false
set_option linter.unusedSimpArgs false

/-- What lies in memory behind the new tour and the other order. -/
structure TuW (t x : Tr) (A XA : TrA) (o oo : List Int) (oa ta ka fa : Option Addr) (bx b9 b5 bn c : Nat) (w0 w : World) : Prop where
  below : Below w0.heap.size w0 w
  hx : w.heap[bx]? = some (.cells (t.cells A) 25 (0,0))
  ht : IsTr w t A
  h9 : w.heap[b9]? = some (.cells (x.cells XA) 25 (0,0))
  hxt : IsTr w x XA
  ho : IsInts w oa o
  hoo : IsInts w ta oo
  hk : IsInts w ka o
  hf : IsSpns w fa t.frm
  c5 : w.cell? ⟨b5,0,none⟩ = some (.int .u8 (c : Int))
  cn : w.cell? ⟨bn,0,none⟩ = some (.int .i64 (t.frm.length : Int))
theorem TuW.mono {t x : Tr} {A XA : TrA} {o oo : List Int} {oa ta ka fa : Option Addr} {bx b9 b5 bn c : Nat} {w0 w w' : World} (h : TuW t x A XA o oo oa ta ka fa bx b9 b5 bn c w0 w) (hb : Below w.heap.size w w') : TuW t x A XA o oo oa ta ka fa bx b9 b5 bn c w0 w' :=
  ⟨h.below.trans (hb.mono h.below.size),(hb.block _ (heap_lt h.hx)).trans h.hx,h.ht.mono hb,(hb.block _ (heap_lt h.h9)).trans h.h9,h.hxt.mono hb,h.ho.mono hb,h.hoo.mono hb,h.hk.mono hb,h.hf.mono hb,cell_stays hb h.c5,cell_stays hb h.cn⟩
theorem fit_small {X : Tr} (F : X.Fit) : X.Small := by
  have h1 := F.n
  have h2 := F.ways
  have h3 := F.stay
  have h4 := F.light
  refine ⟨by omega,by omega,by omega,by omega,fun l hl => ?_⟩
  obtain ⟨k,hk,rfl⟩ := List.mem_iff_getElem.1 hl
  have e : gw X.ways k = X.ways[k] := by simp [gw,hk]
  have := F.rows k (by omega)
  rw [← e]; omega
/-- A list of numbers in a block of its own,from B on. -/
def InRow (B : Nat) (f : Option Addr) (l : List Int) (w : World) : Prop :=
  0 < l.length → ∃ (g : Nat) (cur : Array Value),f = some ⟨g,0,none⟩ ∧ B ≤ g ∧ w.heap[g]? = some (.cells cur 3 (0,0)) ∧ ∀ i,i < l.length → cur[i]? = some (.int .i64 (gi l i))
theorem InRow.mono {B : Nat} {f : Option Addr} {l : List Int} {w w' : World} (h : InRow B f l w) (hb : Below w.heap.size w w') : InRow B f l w' := fun h0 => by
  obtain ⟨g,cur,e,h1,h2,h3⟩ := h h0
  exact ⟨g,cur,e,h1,(hb.block _ (heap_lt h2)).trans h2,h3⟩
theorem InRow.ints {B : Nat} {f : Option Addr} {l : List Int} {w : World} (h : InRow B f l w) : IsInts w f l := fun i hi => by
  obtain ⟨g,cur,e,h1,h2,h3⟩ := h (by omega)
  exact ⟨g,0,e,by rw [cell_of_heap h2,Nat.zero_add]; exact h3 i hi⟩
theorem own_none3 {w : World} {B : Nat} (h : B ≤ w.heap.size) : (w.alloc (.cells #[] 3)).ownsRow B 3 1 (.slice (some ⟨w.heap.size,0,none⟩) 0 0) 0 [] := World.ownsRow_made (e := 3) (size := 1) w #[] 0 (base := B) h (by simp [maxLen]) (by simp)
/-- Numbers are copied into a row of their own. -/
theorem copy_ints {W w : World} {av : Option Addr} {l : List Int} {cv : Nat} {xs : Value} (hk : l.length ≤ 16) (hb : Below W.heap.size W w) (hx : w.ownsRow W.heap.size 3 1 xs 0 []) (hi : IsInts w av l) :
    ∃ (f : Option Addr) (c : Nat) (w' : World),(Builtin.append_ #[26,26] 26 #[xs,.slice av l.length cv]).run Try.prog w = .ok (.slice f l.length c) w' ∧ InRow W.heap.size f l w' ∧ Below W.heap.size W w' := by
  obtain ⟨i0,hi0,hz0,hz1,hz2⟩ := info_parts infoI
  obtain ⟨v',w',hr,hn,hg,_⟩ := append_rows_at (P := Try.prog) (w := w) W.heap.size 26 26 3 i0 _ 1 8 Try.underlying26 hi0 hz0 hz1 hz2 rfl (by decide) xs 0 [] hx av l.length cv (l.map (Value.int .i64)) (by simp) (ints_news hi) (by intro u hu; simp at hu; obtain ⟨x,_,rfl⟩ := hu; rfl) (by simp [maxLen]; omega) (by omega) hb.size
  rw [Nat.zero_add,List.nil_append] at hn
  have hb' : Below W.heap.size W w' := hb.grown hg hb.size (fun k hk => (hx.lt k hk).1)
  obtain ⟨f,c,rfl,_⟩ := own_slice hn
  refine ⟨f,c,w',hr,fun h0 => ?_,hb'⟩
  rcases hn.2 with ⟨_,h1⟩ | ⟨g,cap,cur,e,h1,h2,_⟩
  · omega
  · simp only [Value.slice.injEq] at e
    obtain ⟨rfl,-,rfl⟩ := e
    refine ⟨g,cur,rfl,h1,h2,fun i hi' => ?_⟩
    have := hn.cells (g := g) rfl i (.int .i64 (gi l i)) (by simp [gi,hi'])
    have e : ((⟨g,0,none⟩ : Addr).add i) = ⟨g,i,none⟩ := by unfold Addr.add; split <;> simp_all
    rw [e,cell_of_heap h2] at this
    exact this
/-- The order with the most views is overwritten; its copy stays. -/
structure Wip (p q : World) (av f : Option Addr) (l : List Int) (v : World) : Prop where
  below : Below p.heap.size p v
  first : InRow q.heap.size f l v
  row : 0 < l.length → ∃ (b : Nat) (cur : Array Value),av = some ⟨b,0,none⟩ ∧ p.heap.size ≤ b ∧ b < q.heap.size ∧ v.heap[b]? = some (.cells cur 3 (0,0)) ∧ l.length ≤ cur.size
theorem Wip.put {p q v : World} {av f : Option Addr} {l : List Int} {k : Nat} (H : Wip p q av f l v) (hk : k < l.length) : ∃ b,av = some ⟨b,0,none⟩ ∧ (∃ u,v.cell? ⟨b,k,none⟩ = some u) ∧ v.frozen? ⟨b,k,none⟩ = false ∧ ∀ x,Wip p q av f l (v.setCell ⟨b,k,none⟩ x) := by
  obtain ⟨b,cur,e,h1,h2,h3,h4⟩ := H.row (by omega)
  refine ⟨b,e,⟨_,by rw [cell_of_heap h3]; exact Array.getElem?_eq_getElem (by omega)⟩,frozen_of_heap h3,fun x => ⟨H.below.setCell h1 _,fun h0 => ?_,fun _ => ⟨b,_,e,h1,h2,heap_setCell_at h3 _,by simpa using h4⟩⟩⟩
  obtain ⟨g,c2,e2,g1,g2,g3⟩ := H.first h0
  exact ⟨g,c2,e2,g1,(Below.heap_setCell _ _ _ _ (show g ≠ b by omega)).trans g2,g3⟩
noncomputable def tur36C : Code := (Try.f11.body.bind (fromRegion 36)).getD .skip
set_option maxRecDepth 100000 in
set_option maxHeartbeats 4000000 in
theorem tur36 {t x : Tr} {A XA : TrA} {o oo : List Int} {oa ta ka fa : Option Addr} {oc tc kc fc bx b9 b5 bn c : Nat} {n : Nat} {σ τ : Nat → Nat} {w0 w : World} (H : TuW t x A XA o oo oa ta ka fa bx b9 b5 bn c w0 w) (hv : t.valid = true) (hxv : x.valid = true) (hT : Turn n σ τ t x) (hol : o.length ≤ 16)
    {s0 s2 s4 s5 s6 s7 s8 s10 s11 s12 s13 s14 s17 s18 s19 s20 s21 s22 s23 s24 s25 s26 s27 s28 s29 s30 s31 s32 s33 s34 s35 s36 s37 s38 s39 s40 s41 s42 s43 s44 s45 s46 s47 s48 s49 s50 s51 s52 s53 s54 s55 s56 s57 s58 s59 s60 s61 s62 s63 s64 s65 s66 s67 s68 s69 s70 s71 s72 s73 s74 s75 s76 s77 s78 s79 s80 s81 s82 s83 s84 s85 s86 s87 s88 s89 s90 s91 s92 s93 s94 s95 s96 s97 s98 s99 s100 s101 s102 s103 s104 s105 s106 s107 s108 s109 s110 s111 s112 s113 s114 s115 s116 s117 s118 s119 s120 s121 s122 s123 s124 s125 s126 s127 s128 s129 s130 s131 s132 s133 s134 s135 s136 s137 s138 s139 s140 s141 s142 s143 s144 s145 s146 s147 s148 s149 s150 s151 s152 s153 s154 s155 s156 s157 s158 s159 s160 s161 s162 s163 s164 s165 s166 s167 s168 s169 s170 s171 s172 s173 s174 s175 s176 s177 s178 s179 s180 s181 s182 s183 s184 s185 s186 s187 s188 s189 s190 s191 s192 s193 s194 s195 s196 s197 s198 s199 s200 s201 s202 s203 s204 s205 s206 s207 s208 s209 s210 s211 s212 s213 s214 s215 s216 s217 s218 s219 s220 s221 s222 s223 s224 s225 s226 s227 s228 s229 s230 s231 s232 s233 s234 s235 s236 s237 s238 s239 s240 s241 s242 s243 s244 s245 s246 s247 s248 s249 s250 s251 s252 s253 s254 s255 s256 s257 s258 s259 s260 s261 s262 s263 s264 s265 s266 s267 s268 s269 s270 s271 s272 s273 s274 s275 s276 s277 s278 s279 s280 s281 s282 s283 s284 s285 s286 s287 s288 s289 s290 s291 s292 s293 s294 s295 s296 s297 s298 s299 s300 s301 s302 s303 s304 s305 s306 s307 s308 s309 s310 s311 s312 s313 s314 s315 s316 s317 s318 s319 s320 s321 s322 s323 s324 s325 s326 s327 s328 s329 s330 s331 s332 s333 s334 s335 s336 s337 s338 s339 s340 s341 s342 s343 s344 s345 s346 s347 s348 s349 s350 s351 s352 s353 s354 s355 s356 s357 s358 s359 s360 s361 s362 s363 s364 s365 s366 s367 s368 s369 s370 s371 s372 s373 s374 s375 s376 s377 s378 s379 s380 s381 s382 s383 s384 s385 s386 s387 s388 s389 s390 s391 s392 s393 s394 s395 s396 s397 s398 s399 s400 s401 s402 s403 s404 s405 s406 s407 : Value} :
    Code.wp Try.prog tur36C (bodyPost Try.prog Try.f11 fun e w' => e = .returned (.bool true) ∧ Below w0.heap.size w0 w') { tmps := #[s0,.slice oa o.length oc,s2,.pointer (some ⟨bx,0,none⟩),s4,s5,s6,s7,s8,.pointer (some ⟨b9,0,none⟩),s10,s11,s12,s13,s14,.slice fa t.frm.length fc,.slice ka o.length kc,s17,s18,s19,s20,s21,s22,s23,s24,s25,s26,s27,s28,s29,s30,s31,s32,s33,s34,s35,s36,s37,s38,s39,s40,s41,s42,s43,s44,s45,s46,s47,s48,s49,s50,s51,s52,s53,s54,s55,s56,s57,s58,s59,s60,s61,s62,s63,s64,s65,s66,s67,s68,s69,s70,s71,s72,s73,s74,s75,s76,s77,s78,s79,s80,s81,s82,s83,s84,s85,s86,s87,s88,s89,s90,s91,s92,s93,s94,s95,s96,s97,s98,s99,s100,s101,s102,s103,s104,s105,s106,s107,s108,s109,s110,s111,s112,s113,s114,s115,s116,s117,s118,s119,s120,s121,s122,s123,s124,s125,s126,s127,s128,s129,s130,s131,s132,s133,s134,s135,s136,s137,s138,s139,s140,s141,s142,s143,s144,s145,s146,s147,s148,s149,s150,s151,s152,s153,s154,s155,s156,s157,s158,s159,s160,s161,s162,s163,s164,s165,s166,s167,s168,s169,s170,s171,s172,s173,s174,s175,s176,s177,s178,s179,s180,s181,s182,s183,s184,s185,s186,s187,s188,s189,s190,s191,s192,s193,s194,s195,s196,s197,s198,s199,s200,s201,s202,s203,s204,s205,s206,s207,s208,s209,s210,s211,s212,s213,s214,s215,s216,s217,s218,s219,s220,s221,s222,s223,s224,s225,s226,s227,s228,s229,s230,s231,s232,s233,s234,s235,s236,s237,s238,s239,s240,s241,s242,s243,s244,s245,s246,s247,s248,s249,s250,s251,s252,s253,s254,s255,s256,s257,s258,s259,s260,s261,s262,s263,s264,s265,s266,s267,s268,s269,s270,s271,s272,s273,s274,s275,s276,s277,s278,s279,s280,s281,s282,s283,s284,s285,s286,s287,s288,s289,s290,s291,s292,s293,s294,s295,s296,s297,s298,s299,s300,s301,s302,s303,s304,s305,s306,s307,s308,s309,s310,s311,s312,s313,s314,s315,s316,s317,s318,s319,s320,s321,s322,s323,s324,s325,s326,s327,s328,s329,s330,s331,s332,s333,s334,s335,s336,s337,s338,s339,s340,s341,s342,s343,s344,s345,s346,s347,s348,s349,s350,s351,s352,s353,s354,s355,s356,s357,s358,s359,s360,s361,s362,s363,s364,s365,s366,s367,s368,s369,s370,s371,s372,s373,s374,s375,s376,s377,s378,s379,s380,s381,s382,s383,s384,s385,s386,s387,s388,s389,s390,s391,s392,s393,s394,s395,s396,s397,s398,s399,s400,s401,s402,s403,s404,s405,s406,s407],defers := [] } w := by
  have hE : openE t true = 0 := by unfold openE; rw [hv]; rfl
  have hEx : openE x true = 0 := by unfold openE; rw [hxv]; rfl
  obtain ⟨l,hM,hF⟩ := most_facts hv
  obtain ⟨m,hMx,hFx⟩ := most_facts hxv
  have t2 : mostE t = ((bestE t).1,0) := by unfold mostE; rw [if_pos hE]
  have t3 : mostE x = ((bestE x).1,0) := by unfold mostE; rw [if_pos hEx]
  obtain ⟨m1,m2⟩ := turn_best hT
  obtain ⟨m3,m4⟩ := turn_short hT hv hxv
  rw [hM] at t2
  rw [hMx] at t3
  have e2 : l = (bestE t).1 := (Prod.mk.inj t2).1
  have e3 : m = (bestE x).1 := (Prod.mk.inj t3).1
  rw [← e2,← e3] at m1 m2
  rcases hS : shortE t with ⟨sl,se⟩
  rcases hSx : shortE x with ⟨ul,ue⟩
  rw [hS,hSx] at m3 m4
  have m3 : ue = se := m3
  have m4 : ul.length = sl.length := m4
  subst m3
  obtain ⟨tk,htk⟩ : ∃ tk,t.takes l = tk := ⟨_,rfl⟩
  rw [htk] at m2
  have FT := fit_of_valid hv
  have FX := fit_of_valid hxv
  have C25 : Hid (∀ v,IsTr v t A → Calls Try.prog 25 #[t.v A] v fun e w' => ∃ av cv,e = .returned (.tuple #[.slice av sl.length cv,.int .i64 ue]) ∧ Below v.heap.size v w') := fun v hx => by
    refine (shortest25 hx (fit_small FT)).mono ?_
    rw [hS]
    rintro e w' ⟨⟨po,ov,pa,pc⟩,rfl,ho,hat,hb⟩
    have ho : po = sl := ho
    subst ho
    exact ⟨pa,pc,rfl,hb⟩
  have C25x : Hid (∀ v,IsTr v x XA → Calls Try.prog 25 #[x.v XA] v fun e w' => ∃ av cv,e = .returned (.tuple #[.slice av sl.length cv,.int .i64 ue]) ∧ Below v.heap.size v w') := fun v hx => by
    refine (shortest25 hx (fit_small FX)).mono ?_
    rw [hSx]
    rintro e w' ⟨⟨po,ov,pa,pc⟩,rfl,ho,hat,hb⟩
    have ho : po = ul := ho
    subst ho
    exact ⟨pa,pc,by rw [← m4],hb⟩
  have C27 : Hid (∀ v,IsTr v t A → Calls Try.prog 27 #[t.v A] v fun e w' => ∃ av cv,e = .returned (.tuple #[.slice av l.length cv,.int .i64 0]) ∧ InRow v.heap.size av l w' ∧ Below v.heap.size v w') := fun v hx => by
    refine (most27 hx (fit_small FT)).mono ?_
    rw [hM]
    rintro e w' ⟨⟨po,ov,pa,pc⟩,rfl,ho,hat,hb⟩
    have ho : po = l := ho
    subst ho
    refine ⟨pa,pc,rfl,fun h0 => ?_,hb⟩
    rcases hat with ⟨h,_⟩ | ⟨b,cur,h1,h2,h3,h4,_⟩
    · have h : po = [] := h
      rw [h] at h0; simp at h0
    · exact ⟨b,cur,h2,h1,h3,h4⟩
  have C27x : Hid (∀ v,IsTr v x XA → Calls Try.prog 27 #[x.v XA] v fun e w' => ∃ av cv,e = .returned (.tuple #[.slice av l.length cv,.int .i64 0]) ∧ IsInts w' av m ∧ Below v.heap.size v w') := fun v hx => by
    refine (most27 hx (fit_small FX)).mono ?_
    rw [hMx]
    rintro e w' ⟨⟨po,ov,pa,pc⟩,rfl,ho,hat,hb⟩
    have ho : po = m := ho
    subst ho
    exact ⟨pa,pc,by rw [← m1],hat.ints,hb⟩
  have HFF := Lib.hid (And.intro hF (And.intro hFx (And.intro m1 (And.intro m2 (And.intro htk (And.intro FT FX))))))
  have HOL := Lib.hid hol
  have HB := Lib.hid (And.intro (Below.refl w.heap.size w) H)
  clear hE hEx hM hF hMx hFx t2 t3 m1 m2 m4 e2 e3 hS hSx htk hT FT FX H hv hxv hol
  conv => arg 2; whnf
  refine wp_seq_hid ?_
  intro K36 HK36
  obtain ⟨k0,k1,k2,k3,k4⟩ := tr_cells (t := t) HB.out.2.hx
  go_wp2_with fail
  refine (C25.out _ HB.out.2.ht).mono ?_
  rintro e d1 ⟨u1,v1,rfl,hb⟩
  have HX := Lib.hid (And.intro (HB.out.1.trans (hb.mono HB.out.1.size)) (HB.out.2.mono hb))
  clear hb HB k0 k1 k2 k3 k4
  have HB := HX
  clear HX
  go_wp2_with fail
  refine HK36.out _ _ ?_
  clear HK36 K36
  refine wp_seq_hid ?_
  intro K37 HK37
  obtain ⟨k0,k1,k2,k3,k4⟩ := tr_cells (t := x) HB.out.2.h9
  go_wp2_with fail
  refine (C25x.out _ HB.out.2.hxt).mono ?_
  rintro e d2 ⟨u2,v2,rfl,hb⟩
  have HX := Lib.hid (And.intro (HB.out.1.trans (hb.mono HB.out.1.size)) (HB.out.2.mono hb))
  clear hb HB k0 k1 k2 k3 k4
  have HB := HX
  clear HX
  go_wp2_with fail
  refine HK37.out _ _ ?_
  clear HK37 K37
  have KH : Hid (∀ v,Below d2.heap.size d2 v → TuW t x A XA o oo oa ta ka fa bx b9 b5 bn c w0 v) := fun v hb => HB.out.2.mono hb
  clear HB C25 C25x
  have HB := Lib.hid (Below.refl d2.heap.size d2)
  refine wp_seq_hid ?_
  intro K38 HK38
  obtain ⟨k0,k1,k2,k3,k4⟩ := tr_cells (t := t) (KH.out d2 HB.out).hx
  go_wp2_with fail
  refine (C27.out _ (KH.out d2 HB.out).ht).mono ?_
  rintro e d3 ⟨av,cv,rfl,hr,hb⟩
  have HX := Lib.hid (And.intro (HB.out.trans (hb.mono HB.out.size)) hr)
  clear hb HB k0 k1 k2 k3 k4 hr
  have HB := HX
  clear HX
  go_wp2_with fail
  refine HK38.out _ _ ?_
  clear HK38 K38
  refine wp_seq_hid ?_
  intro K39 HK39
  obtain ⟨k0,k1,k2,k3,k4⟩ := tr_cells (t := x) (KH.out d3 HB.out.1).h9
  go_wp2_with fail
  refine (C27x.out _ (KH.out d3 HB.out.1).hxt).mono ?_
  rintro e d4 ⟨mv,mc,rfl,hi,hb⟩
  have HX := Lib.hid (And.intro (HB.out.1.trans (hb.mono HB.out.1.size)) (And.intro (HB.out.2.mono hb) hi))
  clear hb HB k0 k1 k2 k3 k4 hi
  have HB := HX
  clear HX
  go_wp2_with fail
  refine HK39.out _ _ ?_
  clear HK39 K39
  refine wp_seq_hid ?_
  intro K40 HK40
  have n1 : (ue != ue) = false := by simp
  have n2 : ((sl.length : Int) != (sl.length : Int)) = false := by simp
  have n3 : ((l.length : Int) != (l.length : Int)) = false := by simp
  have n4 : (tk != tk) = false := by simp
  obtain ⟨x0,x1,x2,x3,x4⟩ := tr_cells (t := x) (KH.out d4 HB.out.1).h9
  obtain ⟨k0,k1,k2,k3,k4⟩ := tr_cells (t := t) (KH.out d4 HB.out.1).hx
  go_upto_region 40 with fail
  have z0 := fun y : Aft d4.heap.size d4 => cell_stays y.h x0
  have z1 := fun y : Aft d4.heap.size d4 => cell_stays y.h x1
  have z2 := fun y : Aft d4.heap.size d4 => cell_stays y.h x2
  have z3 := fun y : Aft d4.heap.size d4 => cell_stays y.h x3
  have z4 := fun y : Aft d4.heap.size d4 => cell_stays y.h x4
  have v0 := fun y : Aft d4.heap.size d4 => cell_stays y.h k0
  have v1 := fun y : Aft d4.heap.size d4 => cell_stays y.h k1
  have v2 := fun y : Aft d4.heap.size d4 => cell_stays y.h k2
  have v3 := fun y : Aft d4.heap.size d4 => cell_stays y.h k3
  have v4 := fun y : Aft d4.heap.size d4 => cell_stays y.h k4
  have D1 : Hid (∀ y : Aft d4.heap.size d4,Calls Try.prog 34 #[t.v A,.slice av l.length cv] y.v fun e w' => e = .returned (.bool true) ∧ Below y.v.heap.size y.v w') := fun y => by
    have := rorder34 (cap := cv) ((KH.out d4 HB.out.1).ht.mono y.h) (Nat.le_trans HFF.out.2.2.2.2.2.1.n (by decide)) (Nat.le_trans HFF.out.1.len (by decide)) (HB.out.2.1.ints.mono y.h)
    rw [HFF.out.1.ord] at this; exact this
  have D2 : Hid (∀ y : Aft d4.heap.size d4,Calls Try.prog 34 #[x.v XA,.slice mv l.length mc] y.v fun e w' => e = .returned (.bool true) ∧ Below y.v.heap.size y.v w') := fun y => by
    have := rorder34 (cap := mc) ((KH.out d4 HB.out.1).hxt.mono y.h) (Nat.le_trans HFF.out.2.2.2.2.2.2.n (by decide)) (Nat.le_trans HFF.out.2.1.len (by decide)) (HB.out.2.2.mono y.h)
    rw [HFF.out.2.1.ord,HFF.out.2.2.1] at this; exact this
  have D3 : Hid (∀ y : Aft d4.heap.size d4,Calls Try.prog 42 #[t.v A,.slice av l.length cv] y.v fun e w' => e = .returned (.int .i64 tk) ∧ Below y.v.heap.size y.v w') := fun y => by
    have := takes42 (cap := cv) ((KH.out d4 HB.out.1).ht.mono y.h) HFF.out.2.2.2.2.2.1 (Nat.le_trans HFF.out.1.len (by decide)) (order_view HFF.out.1.ord) (HB.out.2.1.ints.mono y.h)
    rw [HFF.out.2.2.2.2.1] at this; exact this
  have D4 : Hid (∀ y : Aft d4.heap.size d4,Calls Try.prog 42 #[x.v XA,.slice mv l.length mc] y.v fun e w' => e = .returned (.int .i64 tk) ∧ Below y.v.heap.size y.v w') := fun y => by
    have := takes42 (cap := mc) ((KH.out d4 HB.out.1).hxt.mono y.h) HFF.out.2.2.2.2.2.2 (Nat.le_trans HFF.out.2.1.len (by decide)) (order_view HFF.out.2.1.ord) (HB.out.2.2.mono y.h)
    rw [HFF.out.2.2.2.1,HFF.out.2.2.1] at this; exact this
  clear x0 x1 x2 x3 x4 k0 k1 k2 k3 k4
  refine wp_region_aft mixed (by kernel_rfl) ?_
  repeat (go_big_quiet_step (first | (go_at_call 34; with_reducible exact calls_aft (D1.out _)) | (go_at_call 34; with_reducible exact calls_aft (D2.out _)) | (go_at_call 42; with_reducible exact calls_aft (D3.out _)) | (go_at_call 42; with_reducible exact calls_aft (D4.out _))))
  refine wpQuiet_nil ?_
  rintro _ ⟨y,rfl⟩
  clear z0 z1 z2 z3 z4 v0 v1 v2 v3 v4 D1 D2 D3 D4 C27x n1 n2 n3 n4
  have hb := y.h
  revert hb
  generalize y.v = d5
  intro hb
  have HX := Lib.hid (And.intro (HB.out.1.trans (hb.mono HB.out.1.size)) (And.intro (HB.out.2.1.mono hb) (HB.out.2.2.mono hb)))
  clear hb HB
  have HB := HX
  clear HX
  go_wp2_with fail
  refine HK40.out _ _ ?_
  clear HK40 K40
  refine wp_seq_hid ?_
  intro K42 HK42
  have hb0 : Below d5.heap.size d5 (d5.alloc (.cells #[] 3)) := (Below.refl _ _).alloc (Nat.le_refl _) _
  obtain ⟨f,fcap,w2,hr,hfr,hb⟩ := copy_ints (W := d5) (cv := cv) (Nat.le_trans HFF.out.1.len (by decide)) hb0 (own_none3 (Nat.le_refl _)) (HB.out.2.1.ints.mono hb0)
  have HRUN := Lib.hid hr
  have HWP : Hid (Wip d2 d5 av f l w2) := ⟨HB.out.1.trans (hb.mono HB.out.1.size),hfr,fun h0 => by
    obtain ⟨b,cur,e,h1,h2,h3⟩ := HB.out.2.1 h0
    refine ⟨b,cur,e,h1,heap_lt h2,(hb.block _ (heap_lt h2)).trans h2,?_⟩
    have := h3 (l.length - 1) (by omega)
    have := (Array.getElem?_eq_some_iff.1 this).1
    omega⟩
  clear hr hfr hb hb0 HB
  go_wp2_with (at_builtin; refine wpList_append_run rfl (.tmp 374) (.tmp 375) 26 rfl _ _ _ _ rfl rfl HRUN.out ?_)
  refine HK42.out _ _ ?_
  clear HK42 K42 HRUN
  refine wp_seq_hid ?_
  intro K43 HK43
  go_wp2_with fail
  go_loopw [379] (fun i wr => ∃ (k : Nat),k ≤ l.length ∧ i = .int .i64 k ∧ Hid (Wip d2 d5 av f l wr)) (fun i _ => l.length - (intOf i).toNat)
  case atStart => exact ⟨0,by omega,rfl,HWP.out⟩
  case round =>
    obtain ⟨k,hk,rfl,HI⟩ := hrel
    have hl6 : l.length ≤ 6 := HFF.out.1.len
    by_cases hlt : k < l.length
    · obtain ⟨b,hav,⟨u,hu⟩,hfz,hput⟩ := HI.out.put hlt
      have HPU := Lib.hid hput
      clear hput
      subst hav
      refine wp_seq_hid ?_
      intro KL44 HKL44
      go_wp2_with fail
      refine HKL44.out _ _ ?_
      clear HKL44 KL44
      refine wp_seq_hid ?_
      intro KLc HKLc
      go_wp2_with fail
      refine HKLc.out _ _ ?_
      clear HKLc KLc
      refine wp_seq_hid ?_
      intro KLB HKLB
      refine wp_block ?_
      refine wp_seq_hid ?_
      intro K45 HK45
      go_wp2_with fail
      refine HK45.out _ _ ?_
      clear HK45 K45
      go_wp2_with fail
      refine HKLB.out _ _ ?_
      clear hu hfz
      go_wp2_with fail
      go_roundw
      case rel => exact ⟨k + 1,by omega,by go_num,HPU.out _⟩
      case measure => simp [intOf]; omega
    · have hke : k = l.length := by omega
      subst hke
      have HB := Lib.hid (And.intro HI.out.below HI.out.first)
      go_wp2_with fail
      refine HK43.out _ _ ?_
      clear HI
      refine wp_seq_hid ?_
      intro K48 HK48
      obtain ⟨k0,k1,k2,k3,k4⟩ := tr_cells (t := t) (KH.out wr HB.out.1).hx
      go_wp2_with fail
      refine (C27.out _ (KH.out wr HB.out.1).ht).mono ?_
      rintro e d5 ⟨aw,ac,rfl,hr,hb⟩
      have HX := Lib.hid (And.intro (HB.out.1.trans (hb.mono HB.out.1.size)) (And.intro (HB.out.2.mono hb) hr))
      clear hb HB k0 k1 k2 k3 k4 hr
      have HB := HX
      clear HX
      go_wp2_with fail
      refine HK48.out _ _ ?_
      clear HK48 K48
      have D1 : Hid (∀ v,Below d2.heap.size d2 v → IsInts v aw l → IsInts v f l → Calls Try.prog 31 #[.slice aw l.length ac,.slice f l.length fcap] v fun e w' => e = .returned (.bool true) ∧ Below v.heap.size v w') := fun v _ h1 h2 => by
        have := ints31 (ca := ac) (cb := fcap) h1 h2 (Nat.le_trans HFF.out.1.len (by decide)) (Nat.le_trans HFF.out.1.len (by decide))
        rw [decide_eq_true rfl] at this; exact this
      have D2 : Hid (∀ v,Below d2.heap.size d2 v → Calls Try.prog 22 #[.slice fa t.frm.length fc,.slice A.af t.frm.length A.cf] v fun e w' => e = .returned (.bool true) ∧ Below v.heap.size v w') := fun v hb => by
        have h6 := HFF.out.2.2.2.2.2.1.n
        have := spans22 (ca := fc) (cb := A.cf) (KH.out v hb).hf (KH.out v hb).ht.frm (by omega) (by omega)
        rw [decide_eq_true rfl] at this; exact this
      have D3 : Hid (∀ v,Below d2.heap.size d2 v → Calls Try.prog 31 #[.slice ka o.length kc,.slice oa o.length oc] v fun e w' => e = .returned (.bool true) ∧ Below v.heap.size v w') := fun v hb => by
        have := ints31 (ca := kc) (cb := oc) (KH.out v hb).hk (KH.out v hb).ho (Nat.le_trans HOL.out (by decide)) (Nat.le_trans HOL.out (by decide))
        rw [decide_eq_true rfl] at this; exact this
      obtain ⟨k0,k1,k2,k3,k4⟩ := tr_cells (t := t) (KH.out d5 HB.out.1).hx
      go_wp2_with fail
      refine (D1.out _ HB.out.1 HB.out.2.2.ints HB.out.2.1.ints).mono ?_
      rintro e d6 ⟨rfl,hb⟩
      have HX := Lib.hid (And.intro (HB.out.1.trans (hb.mono HB.out.1.size)) (And.intro (HB.out.2.1.mono hb) (HB.out.2.2.mono hb)))
      clear hb HB k0 k1 k2 k3 k4
      have HB := HX
      clear HX
      obtain ⟨k0,k1,k2,k3,k4⟩ := tr_cells (t := t) (KH.out d6 HB.out.1).hx
      go_wp2_with fail
      refine (D2.out _ HB.out.1).mono ?_
      rintro e d7 ⟨rfl,hb⟩
      have HX := Lib.hid (And.intro (HB.out.1.trans (hb.mono HB.out.1.size)) (And.intro (HB.out.2.1.mono hb) (HB.out.2.2.mono hb)))
      clear hb HB k0 k1 k2 k3 k4
      have HB := HX
      clear HX
      obtain ⟨k0,k1,k2,k3,k4⟩ := tr_cells (t := t) (KH.out d7 HB.out.1).hx
      go_wp2_with fail
      refine (D3.out _ HB.out.1).mono ?_
      rintro e d8 ⟨rfl,hb⟩
      have HX := Lib.hid (And.intro (HB.out.1.trans (hb.mono HB.out.1.size)) (And.intro (HB.out.2.1.mono hb) (HB.out.2.2.mono hb)))
      clear hb HB k0 k1 k2 k3 k4
      have HB := HX
      clear HX
      go_wp2_with fail
      refine (alive13 _).mono ?_
      rintro e c1 ⟨rfl,hb⟩
      have HX := Lib.hid (HB.out.1.trans (hb.mono HB.out.1.size))
      clear hb
      go_wp2_with fail
      go_ret
      exact ⟨rfl,(KH.out _ HX.out).below⟩
end Go.Proofs.Ytphefhpmbahagaa
