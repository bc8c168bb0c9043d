/- CopyMore: what is asked of a pile and of a narrower one. -/
import Derived.Test.YtnfhlbmapfoifaaR44
import Derived.Test.YtnfhlbmapfoifaaOrd
namespace Go.Proofs.Ytnfhlbmapfoifaa
open Go.RowKit
set_option linter.unusedVariables false
set_option linter.unusedSimpArgs false

def leftReg2 : Code → Option Nat
  | .region id _ _ => some id
  | .seq a _ => leftReg2 a
  | _ => none
def fromReg (n : Nat) : Code → Option Code
  | .seq a b => if leftReg2 a = some n then some (.seq a b) else match fromReg n a with
    | some c => some c
    | none => fromReg n b
  | .block _ c => fromReg n c
  | .scope c => fromReg n c
  | .loop c => fromReg n c
  | .cond _ a b => match fromReg n a with
    | some c => some c
    | none => fromReg n b
  | _ => none
theorem ordN_valid {p : Prs} (hv : p.valid = true) : ordN p = ordersL p := by
  unfold ordN ordersE
  rw [hv]
  cases h : ordersL p <;> simp
noncomputable def mor19C : Code := (Try.f7.body.bind (fromReg 19)).getD .skip
set_option maxRecDepth 100000 in
set_option maxHeartbeats 4000000 in
theorem more19 {p X Y : Prs} {a u0 u1 : Option Addr} {cap c0 c1 bx ga j : Nat} {w : World} (hbx : w.heap[bx]? = some (.cells (p.cells a cap) 26 (0, 0))) (hX : IsPrts w u0 X.cards) (hY : IsPrts w u1 Y.cards)
    (hc : (w.cell? ⟨ga, j * 10, none⟩ = some (.slice u0 X.cards.length c0) ∧ w.cell? ⟨ga, j * 10 + 1, none⟩ = some (.int .i64 X.llo) ∧ w.cell? ⟨ga, j * 10 + 2, none⟩ = some (.int .i64 X.lhi) ∧ w.cell? ⟨ga, j * 10 + 3, none⟩ = some (.int .i64 X.olo) ∧ w.cell? ⟨ga, j * 10 + 4, none⟩ = some (.int .i64 X.ohi)) ∧
      (w.cell? ⟨ga, j * 10 + 5, none⟩ = some (.slice u1 Y.cards.length c1) ∧ w.cell? ⟨ga, j * 10 + 6, none⟩ = some (.int .i64 Y.llo) ∧ w.cell? ⟨ga, j * 10 + 7, none⟩ = some (.int .i64 Y.lhi) ∧ w.cell? ⟨ga, j * 10 + 8, none⟩ = some (.int .i64 Y.olo) ∧ w.cell? ⟨ga, j * 10 + 9, none⟩ = some (.int .i64 Y.ohi)))
    (hn : X.cards.length = p.cards.length) (hvX : X.valid = true) (hvY : Y.valid = true) (H : Nar Y X) (hj : j < 3) {Q : Exit → Act → World → Prop} {s0 s1 s2 s4 s5 s6 s7 s8 s9 s10 s11 s12 s13 s14 s15 s16 s17 s18 s19 s20 s21 s22 s23 s24 s25 s26 s27 s28 s29 s30 s31 s32 s33 s34 s35 s36 s37 s38 s39 s40 s41 s42 s43 s44 s45 s46 s47 s48 s49 s50 s51 s52 s53 s54 s55 s56 s57 s58 s59 s60 s61 s62 s63 s64 s65 s66 s67 s68 s69 s70 s71 s72 s73 s74 s75 s76 s77 s78 s79 s80 s81 s82 s83 s84 s85 s86 s87 s88 s89 s90 s91 s92 s93 s94 s95 s96 s97 s98 s99 s100 s101 s102 s103 s104 s105 s106 s107 s108 s109 s110 s111 s112 s113 s114 s115 s116 s117 s118 s119 s120 s121 s122 s123 s124 s125 s126 s127 s128 s129 s130 s131 s132 s133 s134 s135 s136 s137 s138 s139 s140 s141 s142 s143 s144 s145 s146 s147 s148 s149 s150 s151 s152 s153 s154 s155 s156 s157 s158 s159 s160 s161 s162 s163 s164 s165 s166 s167 s168 s169 s170 s171 s172 s173 s174 s175 s176 s177 s178 s179 s180 s181 s182 s183 s184 s185 s186 s187 s188 s189 s190 s191 s192 s193 s194 s198 s199 s200 s201 s202 s203 s204 s205 s206 s207 s208 s209 s210 s211 s212 s213 s214 s215 s216 s217 s218 s219 s220 s221 s222 s223 s224 s225 s226 s227 s228 s229 s230 s231 s232 s233 s234 s235 s236 s237 s238 s239 s240 s241 s242 s243 s244 s245 s246 s247 s248 s249 s250 s251 s252 s253 s254 s255 s256 s257 s258 s259 s260 s261 s262 s263 s264 s265 s266 s267 s268 s269 s270 s271 s272 s273 s274 s275 s276 s277 s278 s279 s280 s281 s282 s283 s284 s285 s286 s287 s288 s289 s290 s291 s292 s293 s294 s295 s296 s297 s298 s299 s300 s301 s302 s303 s304 s305 s306 s307 s308 s309 : Value} {dd : List Deferred}
    (hQ : ∀ (x6 x15 x16 x17 x18 x19 x20 x21 x22 x23 x24 x25 x26 x27 x28 x29 x30 x31 x33 x199 x200 x201 x202 x203 x204 x205 x206 x207 x208 x209 x210 x211 x212 x213 x214 x215 x216 x217 x218 x219 x220 x221 x222 x223 x224 x225 x226 x227 x228 x229 x230 x231 x232 x233 x234 x235 x236 x237 x238 x239 x240 x241 x242 x243 x244 x245 x246 x247 x248 x249 x250 x251 x252 x253 x254 x255 x256 x257 x258 x259 x260 x261 x262 x263 x264 x265 x266 x267 x268 x269 x270 x271 x272 x273 x274 x275 x276 x277 x278 x279 x280 x281 x282 x283 x284 x285 x286 x287 x288 x289 x290 x291 x292 x293 x294 x295 x296 x297 x298 x299 x300 x301 x302 x303 x304 x305 x306 x307 : Value) (w' : World), Below w.heap.size w w' → Q .normal { tmps := #[s0,s1,s2,.pointer (some ⟨bx, 0, none⟩),s4,s5,x6,s7,s8,s9,s10,s11,s12,s13,s14,x15,x16,x17,x18,x19,x20,x21,x22,x23,x24,x25,x26,x27,x28,x29,x30,x31,s32,x33,s34,s35,s36,s37,s38,s39,s40,s41,s42,s43,s44,s45,s46,s47,s48,s49,s50,s51,s52,s53,s54,s55,s56,s57,s58,s59,s60,s61,s62,s63,s64,s65,s66,s67,s68,s69,s70,s71,s72,s73,s74,s75,s76,s77,s78,s79,s80,s81,s82,s83,s84,s85,s86,s87,s88,s89,s90,s91,s92,s93,s94,s95,s96,s97,s98,s99,s100,s101,s102,s103,s104,s105,s106,s107,s108,s109,s110,s111,s112,s113,s114,s115,s116,s117,s118,s119,s120,s121,s122,s123,s124,s125,s126,s127,s128,s129,s130,s131,s132,s133,s134,s135,s136,s137,s138,s139,s140,s141,s142,s143,s144,s145,s146,s147,s148,s149,s150,s151,s152,s153,s154,s155,s156,s157,s158,s159,s160,s161,s162,s163,s164,s165,s166,s167,s168,s169,s170,s171,s172,s173,s174,s175,s176,s177,s178,s179,s180,s181,s182,s183,s184,s185,s186,s187,s188,s189,s190,s191,s192,s193,s194,.slice (some ⟨ga, 0, none⟩) 3 3,.int .i64 3,.int .i64 (j : Int),s198,x199,x200,x201,x202,x203,x204,x205,x206,x207,x208,x209,x210,x211,x212,x213,x214,x215,x216,x217,x218,x219,x220,x221,x222,x223,x224,x225,x226,x227,x228,x229,x230,x231,x232,x233,x234,x235,x236,x237,x238,x239,x240,x241,x242,x243,x244,x245,x246,x247,x248,x249,x250,x251,x252,x253,x254,x255,x256,x257,x258,x259,x260,x261,x262,x263,x264,x265,x266,x267,x268,x269,x270,x271,x272,x273,x274,x275,x276,x277,x278,x279,x280,x281,x282,x283,x284,x285,x286,x287,x288,x289,x290,x291,x292,x293,x294,x295,x296,x297,x298,x299,x300,x301,x302,x303,x304,x305,x306,x307,s308,s309],defers := dd } w') :
    Code.wp Try.prog mor19C Q { tmps := #[s0,s1,s2,.pointer (some ⟨bx, 0, none⟩),s4,s5,s6,s7,s8,s9,s10,s11,s12,s13,s14,s15,s16,s17,s18,s19,s20,s21,s22,s23,s24,s25,s26,s27,s28,s29,s30,s31,s32,s33,s34,s35,s36,s37,s38,s39,s40,s41,s42,s43,s44,s45,s46,s47,s48,s49,s50,s51,s52,s53,s54,s55,s56,s57,s58,s59,s60,s61,s62,s63,s64,s65,s66,s67,s68,s69,s70,s71,s72,s73,s74,s75,s76,s77,s78,s79,s80,s81,s82,s83,s84,s85,s86,s87,s88,s89,s90,s91,s92,s93,s94,s95,s96,s97,s98,s99,s100,s101,s102,s103,s104,s105,s106,s107,s108,s109,s110,s111,s112,s113,s114,s115,s116,s117,s118,s119,s120,s121,s122,s123,s124,s125,s126,s127,s128,s129,s130,s131,s132,s133,s134,s135,s136,s137,s138,s139,s140,s141,s142,s143,s144,s145,s146,s147,s148,s149,s150,s151,s152,s153,s154,s155,s156,s157,s158,s159,s160,s161,s162,s163,s164,s165,s166,s167,s168,s169,s170,s171,s172,s173,s174,s175,s176,s177,s178,s179,s180,s181,s182,s183,s184,s185,s186,s187,s188,s189,s190,s191,s192,s193,s194,.slice (some ⟨ga, 0, none⟩) 3 3,.int .i64 3,.int .i64 (j : Int),s198,s199,s200,s201,s202,s203,s204,s205,s206,s207,s208,s209,s210,s211,s212,s213,s214,s215,s216,s217,s218,s219,s220,s221,s222,s223,s224,s225,s226,s227,s228,s229,s230,s231,s232,s233,s234,s235,s236,s237,s238,s239,s240,s241,s242,s243,s244,s245,s246,s247,s248,s249,s250,s251,s252,s253,s254,s255,s256,s257,s258,s259,s260,s261,s262,s263,s264,s265,s266,s267,s268,s269,s270,s271,s272,s273,s274,s275,s276,s277,s278,s279,s280,s281,s282,s283,s284,s285,s286,s287,s288,s289,s290,s291,s292,s293,s294,s295,s296,s297,s298,s299,s300,s301,s302,s303,s304,s305,s306,s307,s308,s309],defers := dd } w := by
  have HQ := Lib.hid hQ
  have h5X := (valid_parts hvX).1
  have h5Y := (valid_parts hvY).1
  have hlY := H.len
  have e0 : waysE X = (((waysL X).length : Int), 0) := by
    have hE : openE X true = 0 := by unfold openE; rw [hvX]; rfl
    unfold waysE
    simp only
    rw [if_pos hE]
  have e1 : waysE Y = (((waysL Y).length : Int), 0) := by
    have hE : openE Y true = 0 := by unfold openE; rw [hvY]; rfl
    unfold waysE
    simp only
    rw [if_pos hE]
  obtain ⟨wx, hwx⟩ : ∃ z : Int, ((waysL X).length : Int) = z := ⟨_, rfl⟩
  obtain ⟨wy, hwy⟩ : ∃ z : Int, ((waysL Y).length : Int) = z := ⟨_, rfl⟩
  have hwl : wy ≤ wx := by have := ways_fewer H; omega
  rw [hwx] at e0
  rw [hwy] at e1
  have C32 : Hid (∀ v, IsPrts v u0 X.cards → Calls Try.prog 32 #[X.v u0 c0] v fun e w' => e = .returned (.tuple #[.int .i64 wx, .int .i64 0]) ∧ Below v.heap.size v w') := fun v h => by
    have := waysC_any (cap := c0) h (by omega)
    rw [e0] at this; exact this
  have C32y : Hid (∀ v, IsPrts v u1 Y.cards → Calls Try.prog 32 #[Y.v u1 c1] v fun e w' => e = .returned (.tuple #[.int .i64 wy, .int .i64 0]) ∧ Below v.heap.size v w') := fun v h => by
    have := waysC_any (cap := c1) h (by omega)
    rw [e1] at this; exact this
  obtain ⟨lx, hlx⟩ : ∃ l, ordersL X = l := ⟨_, rfl⟩
  obtain ⟨ly, hly⟩ : ∃ l, ordersL Y = l := ⟨_, rfl⟩
  obtain ⟨ex, hex⟩ : ∃ z, ordersE X = z := ⟨_, rfl⟩
  obtain ⟨ey, hey⟩ : ∃ z, ordersE Y = z := ⟨_, rfl⟩
  have C17 : Hid (∀ v, IsPrts v u0 X.cards → Calls Try.prog 17 #[X.v u0 c0] v fun e w' => ∃ av cv, e = .returned (.tuple #[.slice av lx.length cv, .int .i64 ex]) ∧ IsLists w' av lx ∧ Below v.heap.size v w') := fun v h => by
    have := orders_c (cap := c0) h (by omega)
    rw [ordN_valid hvX, hlx, hex] at this; exact this
  have C17y : Hid (∀ v, IsPrts v u1 Y.cards → Calls Try.prog 17 #[Y.v u1 c1] v fun e w' => ∃ av cv, e = .returned (.tuple #[.slice av ly.length cv, .int .i64 ey]) ∧ IsLists w' av ly ∧ Below v.heap.size v w') := fun v h => by
    have := orders_c (cap := c1) h (by omega)
    rw [ordN_valid hvY, hly, hey] at this; exact this
  have C33 : Hid (∀ (v : World) (k : Nat), k < p.cards.length → IsPrts v u0 X.cards → Calls Try.prog 33 #[X.v u0 c0, .int .i64 (k : Int)] v fun e w' => e = .returned (.tuple #[.int .i64 (parS (parL X k (waysL X).length) : Int), .bool true, .int .i64 0]) ∧ Below v.heap.size v w') := fun v k hk h => by
    have := parents_any (cap := c0) h (by omega) (k : Int)
    rw [parentsE_yes hvX (by omega), par_orig hvX (by omega)] at this; exact this
  have C33y : Hid (∀ (v : World) (k : Nat), k < p.cards.length → IsPrts v u1 Y.cards → Calls Try.prog 33 #[Y.v u1 c1, .int .i64 (k : Int)] v fun e w' => e = .returned (.tuple #[.int .i64 (parS (parL Y k (waysL Y).length) : Int), .bool true, .int .i64 0]) ∧ Below v.heap.size v w') := fun v k hk h => by
    have := parents_any (cap := c1) h (by omega) (k : Int)
    rw [parentsE_yes hvY (by omega), par_orig hvY (by omega)] at this; exact this
  have HFL : Hid (ly.length ≤ lx.length ∧ lx.length ≤ 120) := by
    have h1 := orders_fewer H
    have h2 := orders_few hvX
    rw [hlx, hly] at h1
    rw [hlx] at h2
    exact ⟨h1, h2⟩
  have HLL : Hid (ordersL X = lx ∧ ordersL Y = ly ∧ (∀ o ∈ lx, o.length ≤ 30) ∧ ∀ o ∈ ly, o.length ≤ 30) := ⟨hlx, hly, fun o ho => by have := orders_at (p := X) (o := o) (by rw [hlx]; exact ho); omega, fun o ho => by have := orders_at (p := Y) (o := o) (by rw [hly]; exact ho); omega⟩
  have HNN := Lib.hid H
  have HP5 : Hid (p.cards.length ≤ 5) := by show p.cards.length ≤ 5; omega
  have HLN : Hid (X.cards.length = p.cards.length ∧ Y.cards.length = p.cards.length) := ⟨hn, by omega⟩
  obtain ⟨⟨q0, q1, q2, q3, q4⟩, q5, q6, q7, q8, q9⟩ := hc
  have HB := Lib.hid (And.intro (Below.refl w.heap.size w) (And.intro hbx (And.intro hX hY)))
  clear hQ hn hvX hvY H hbx hX hY h5X h5Y hlY e0 e1 hwx hwy hlx hly hex hey
  conv => arg 2; whnf
  refine wp_seq_hid ?_
  intro K19 HK19
  go_wp2_with fail
  have qa := World.alloc_heap_new w (.cells #[.slice u0 X.cards.length c0, .int .i64 X.llo, .int .i64 X.lhi, .int .i64 X.olo, .int .i64 X.ohi, .slice u1 Y.cards.length c1, .int .i64 Y.llo, .int .i64 Y.lhi, .int .i64 Y.olo, .int .i64 Y.ohi] 56)
  have hba : Below w.heap.size w (w.alloc (.cells #[.slice u0 X.cards.length c0, .int .i64 X.llo, .int .i64 X.lhi, .int .i64 X.olo, .int .i64 X.ohi, .slice u1 Y.cards.length c1, .int .i64 Y.llo, .int .i64 Y.lhi, .int .i64 Y.olo, .int .i64 Y.ohi] 56)) := (Below.refl _ _).alloc (Nat.le_refl _) _
  have HX := Lib.hid (And.intro (HB.out.1.trans (hba.mono HB.out.1.size)) (And.intro ((hba.block _ (heap_lt HB.out.2.1)).trans HB.out.2.1) (And.intro (HB.out.2.2.1.mono hba) (And.intro (HB.out.2.2.2.mono hba) qa))))
  clear hba HB qa q0 q1 q2 q3 q4 q5 q6 q7 q8 q9
  have HB := HX
  clear HX
  refine HK19.out _ _ ?_
  clear HK19 K19
  revert HB
  generalize (w.alloc (.cells #[.slice u0 X.cards.length c0, .int .i64 X.llo, .int .i64 X.lhi, .int .i64 X.olo, .int .i64 X.ohi, .slice u1 Y.cards.length c1, .int .i64 Y.llo, .int .i64 Y.lhi, .int .i64 Y.olo, .int .i64 Y.ohi] 56)) = v1
  intro HB
  refine wp_seq_hid ?_
  intro K20 HK20
  have k0 : v1.cell? ⟨w.heap.size, 0, none⟩ = some (.slice u0 X.cards.length c0) := by rw [cell_of_heap HB.out.2.2.2.2]; rfl
  have k1 : v1.cell? ⟨w.heap.size, 1, none⟩ = some (.int .i64 X.llo) := by rw [cell_of_heap HB.out.2.2.2.2]; rfl
  have k2 : v1.cell? ⟨w.heap.size, 2, none⟩ = some (.int .i64 X.lhi) := by rw [cell_of_heap HB.out.2.2.2.2]; rfl
  have k3 : v1.cell? ⟨w.heap.size, 3, none⟩ = some (.int .i64 X.olo) := by rw [cell_of_heap HB.out.2.2.2.2]; rfl
  have k4 : v1.cell? ⟨w.heap.size, 4, none⟩ = some (.int .i64 X.ohi) := by rw [cell_of_heap HB.out.2.2.2.2]; rfl
  go_wp2_with fail
  refine (C32.out _ HB.out.2.2.1).mono ?_
  rintro e d1 ⟨rfl, hb⟩
  have HX := Lib.hid (And.intro (HB.out.1.trans (hb.mono HB.out.1.size)) (And.intro ((hb.block _ (heap_lt HB.out.2.1)).trans HB.out.2.1) (And.intro (HB.out.2.2.1.mono hb) (And.intro (HB.out.2.2.2.1.mono hb) ((hb.block _ (heap_lt HB.out.2.2.2.2)).trans HB.out.2.2.2.2)))))
  clear hb HB k0 k1 k2 k3 k4 C32
  have HB := HX
  clear HX
  go_wp2_with fail
  refine HK20.out _ _ ?_
  clear HK20 K20
  refine wp_seq_hid ?_
  intro K21 HK21
  have k0 : d1.cell? ⟨w.heap.size, 5, none⟩ = some (.slice u1 Y.cards.length c1) := by rw [cell_of_heap HB.out.2.2.2.2]; rfl
  have k1 : d1.cell? ⟨w.heap.size, 6, none⟩ = some (.int .i64 Y.llo) := by rw [cell_of_heap HB.out.2.2.2.2]; rfl
  have k2 : d1.cell? ⟨w.heap.size, 7, none⟩ = some (.int .i64 Y.lhi) := by rw [cell_of_heap HB.out.2.2.2.2]; rfl
  have k3 : d1.cell? ⟨w.heap.size, 8, none⟩ = some (.int .i64 Y.olo) := by rw [cell_of_heap HB.out.2.2.2.2]; rfl
  have k4 : d1.cell? ⟨w.heap.size, 9, none⟩ = some (.int .i64 Y.ohi) := by rw [cell_of_heap HB.out.2.2.2.2]; rfl
  go_wp2_with fail
  refine (C32y.out _ HB.out.2.2.2.1).mono ?_
  rintro e d2 ⟨rfl, hb⟩
  have HX := Lib.hid (And.intro (HB.out.1.trans (hb.mono HB.out.1.size)) (And.intro ((hb.block _ (heap_lt HB.out.2.1)).trans HB.out.2.1) (And.intro (HB.out.2.2.1.mono hb) (And.intro (HB.out.2.2.2.1.mono hb) ((hb.block _ (heap_lt HB.out.2.2.2.2)).trans HB.out.2.2.2.2)))))
  clear hb HB k0 k1 k2 k3 k4 C32y
  have HB := HX
  clear HX
  go_wp2_with fail
  refine HK21.out _ _ ?_
  clear HK21 K21
  refine wp_seq_hid ?_
  intro K22 HK22
  have k0 : d2.cell? ⟨w.heap.size, 0, none⟩ = some (.slice u0 X.cards.length c0) := by rw [cell_of_heap HB.out.2.2.2.2]; rfl
  have k1 : d2.cell? ⟨w.heap.size, 1, none⟩ = some (.int .i64 X.llo) := by rw [cell_of_heap HB.out.2.2.2.2]; rfl
  have k2 : d2.cell? ⟨w.heap.size, 2, none⟩ = some (.int .i64 X.lhi) := by rw [cell_of_heap HB.out.2.2.2.2]; rfl
  have k3 : d2.cell? ⟨w.heap.size, 3, none⟩ = some (.int .i64 X.olo) := by rw [cell_of_heap HB.out.2.2.2.2]; rfl
  have k4 : d2.cell? ⟨w.heap.size, 4, none⟩ = some (.int .i64 X.ohi) := by rw [cell_of_heap HB.out.2.2.2.2]; rfl
  go_wp2_with fail
  refine (C17.out _ HB.out.2.2.1).mono ?_
  rintro e d3 ⟨ax, cx, rfl, hl, hb⟩
  have HX := Lib.hid (And.intro (HB.out.1.trans (hb.mono HB.out.1.size)) (And.intro ((hb.block _ (heap_lt HB.out.2.1)).trans HB.out.2.1) (And.intro (HB.out.2.2.1.mono hb) (And.intro (HB.out.2.2.2.1.mono hb) (And.intro ((hb.block _ (heap_lt HB.out.2.2.2.2)).trans HB.out.2.2.2.2) hl)))))
  clear hb HB k0 k1 k2 k3 k4 C17 hl
  have HB := HX
  clear HX
  go_wp2_with fail
  refine HK22.out _ _ ?_
  clear HK22 K22
  refine wp_seq_hid ?_
  intro K23 HK23
  have k0 : d3.cell? ⟨w.heap.size, 5, none⟩ = some (.slice u1 Y.cards.length c1) := by rw [cell_of_heap HB.out.2.2.2.2.1]; rfl
  have k1 : d3.cell? ⟨w.heap.size, 6, none⟩ = some (.int .i64 Y.llo) := by rw [cell_of_heap HB.out.2.2.2.2.1]; rfl
  have k2 : d3.cell? ⟨w.heap.size, 7, none⟩ = some (.int .i64 Y.lhi) := by rw [cell_of_heap HB.out.2.2.2.2.1]; rfl
  have k3 : d3.cell? ⟨w.heap.size, 8, none⟩ = some (.int .i64 Y.olo) := by rw [cell_of_heap HB.out.2.2.2.2.1]; rfl
  have k4 : d3.cell? ⟨w.heap.size, 9, none⟩ = some (.int .i64 Y.ohi) := by rw [cell_of_heap HB.out.2.2.2.2.1]; rfl
  go_wp2_with fail
  refine (C17y.out _ HB.out.2.2.2.1).mono ?_
  rintro e d4 ⟨ay, cy, rfl, hl, hb⟩
  have HX := Lib.hid (And.intro (HB.out.1.trans (hb.mono HB.out.1.size)) (And.intro ((hb.block _ (heap_lt HB.out.2.1)).trans HB.out.2.1) (And.intro (HB.out.2.2.1.mono hb) (And.intro (HB.out.2.2.2.1.mono hb) (And.intro ((hb.block _ (heap_lt HB.out.2.2.2.2.1)).trans HB.out.2.2.2.2.1) (And.intro (HB.out.2.2.2.2.2.mono hb) hl))))))
  clear hb HB k0 k1 k2 k3 k4 C17y hl
  have HB := HX
  clear HX
  go_wp2_with fail
  refine HK23.out _ _ ?_
  clear HK23 K23
  refine wp_seq_hid ?_
  intro K24 HK24
  have g1 : decide (wx < wy) = false := by simp; omega
  have g2 : decide (lx.length < ly.length) = false := by have := HFL.out.1; simp; omega
  go_wp2_with fail
  refine HK24.out _ _ ?_
  clear HK24 K24 g1 g2 hwl
  have KD : Hid (∀ v, Below d4.heap.size d4 v → v.heap[bx]? = some (.cells (p.cells a cap) 26 (0, 0)) ∧ IsPrts v u0 X.cards ∧ IsPrts v u1 Y.cards ∧ v.heap[w.heap.size]? = some (.cells #[.slice u0 X.cards.length c0, .int .i64 X.llo, .int .i64 X.lhi, .int .i64 X.olo, .int .i64 X.ohi, .slice u1 Y.cards.length c1, .int .i64 Y.llo, .int .i64 Y.lhi, .int .i64 Y.olo, .int .i64 Y.ohi] 56 (0, 0)) ∧ IsLists v ax lx ∧ IsLists v ay ly ∧ Below w.heap.size w v) := fun v h =>
    ⟨(h.block _ (heap_lt HB.out.2.1)).trans HB.out.2.1, HB.out.2.2.1.mono h, HB.out.2.2.2.1.mono h, (h.block _ (heap_lt HB.out.2.2.2.2.1)).trans HB.out.2.2.2.2.1, HB.out.2.2.2.2.2.1.mono h, HB.out.2.2.2.2.2.2.mono h, HB.out.1.trans (h.mono HB.out.1.size)⟩
  clear HB
  refine wp_seq_hid ?_
  intro K26 HK26
  obtain ⟨k0, k1, k2, k3, k4⟩ := prs_cells (KD.out d4 (Below.refl d4.heap.size d4)).1
  go_wp2_with fail
  clear k0 k1 k2 k3 k4
  go_loopw [246] (fun i wr => ∃ (k : Nat), k ≤ p.cards.length ∧ i = .int .i64 k ∧ Hid (Below d4.heap.size d4 wr)) (fun i _ => p.cards.length - (intOf i).toNat)
  case atStart => exact ⟨0, by omega, rfl, Below.refl _ _⟩
  case round =>
    obtain ⟨k, hk, rfl, HW2⟩ := hrel
    have hp5 : p.cards.length ≤ 5 := HP5.out
    by_cases hlt : k < p.cards.length
    · refine wp_seq_hid ?_
      intro KL27 HKL27
      go_wp2_with fail
      refine HKL27.out _ _ ?_
      clear HKL27 KL27
      refine wp_seq_hid ?_
      intro KLc HKLc
      go_wp2_with fail
      refine HKLc.out _ _ ?_
      clear HKLc KLc
      refine wp_seq_hid ?_
      intro KLB HKLB
      refine wp_block ?_
      refine wp_seq_hid ?_
      intro K28 HK28
      go_wp2_with fail
      refine HK28.out _ _ ?_
      clear HK28 K28
      refine wp_seq_hid ?_
      intro K29 HK29
      have kq := (KD.out wr HW2.out).2.2.2.1
      have k0 : wr.cell? ⟨w.heap.size, 0, none⟩ = some (.slice u0 X.cards.length c0) := by rw [cell_of_heap kq]; rfl
      have k1 : wr.cell? ⟨w.heap.size, 1, none⟩ = some (.int .i64 X.llo) := by rw [cell_of_heap kq]; rfl
      have k2 : wr.cell? ⟨w.heap.size, 2, none⟩ = some (.int .i64 X.lhi) := by rw [cell_of_heap kq]; rfl
      have k3 : wr.cell? ⟨w.heap.size, 3, none⟩ = some (.int .i64 X.olo) := by rw [cell_of_heap kq]; rfl
      have k4 : wr.cell? ⟨w.heap.size, 4, none⟩ = some (.int .i64 X.ohi) := by rw [cell_of_heap kq]; rfl
      go_wp2_with fail
      refine (C33.out _ k hlt (KD.out wr HW2.out).2.1).mono ?_
      rintro e d5 ⟨rfl, hb⟩
      have HP5 := Lib.hid (Below.trans HW2.out (hb.mono (Below.size HW2.out)))
      clear hb kq k0 k1 k2 k3 k4
      go_wp2_with fail
      refine HK29.out _ _ ?_
      clear HK29 K29
      refine wp_seq_hid ?_
      intro K30 HK30
      have kq := (KD.out d5 HP5.out).2.2.2.1
      have k0 : d5.cell? ⟨w.heap.size, 5, none⟩ = some (.slice u1 Y.cards.length c1) := by rw [cell_of_heap kq]; rfl
      have k1 : d5.cell? ⟨w.heap.size, 6, none⟩ = some (.int .i64 Y.llo) := by rw [cell_of_heap kq]; rfl
      have k2 : d5.cell? ⟨w.heap.size, 7, none⟩ = some (.int .i64 Y.lhi) := by rw [cell_of_heap kq]; rfl
      have k3 : d5.cell? ⟨w.heap.size, 8, none⟩ = some (.int .i64 Y.olo) := by rw [cell_of_heap kq]; rfl
      have k4 : d5.cell? ⟨w.heap.size, 9, none⟩ = some (.int .i64 Y.ohi) := by rw [cell_of_heap kq]; rfl
      go_wp2_with fail
      refine (C33y.out _ k hlt (KD.out d5 HP5.out).2.2.1).mono ?_
      rintro e d6 ⟨rfl, hb⟩
      have HP6 := Lib.hid (Below.trans HP5.out (hb.mono (Below.size HP5.out)))
      clear hb kq k0 k1 k2 k3 k4
      go_wp2_with fail
      refine HK30.out _ _ ?_
      clear HK30 K30
      obtain ⟨sx, hsx⟩ : ∃ z, parS (parL X k (waysL X).length) = z := ⟨_, rfl⟩
      obtain ⟨sy, hsy⟩ : ∃ z, parS (parL Y k (waysL Y).length) = z := ⟨_, rfl⟩
      have hand : bits .andNot .i64 (sy : Int) (sx : Int) = 0 := by
        refine andNot_none _ _ fun i hi => ?_
        rw [← hsy] at hi
        rw [← hsx]
        exact par_nar HNN.out (by have := HLN.out.2; omega) hi
      rw [hsx, hsy]
      clear hsx hsy
      go_wp2_with fail
      refine HKLB.out _ _ ?_
      clear hand
      go_wp2_with fail
      go_roundw
      case rel => exact ⟨k + 1, by omega, by go_num, HP6.out⟩
      case measure => simp [intOf]; omega
    · have hke : k = p.cards.length := by omega
      subst hke
      go_wp2_with fail
      refine HK26.out _ _ ?_
      obtain ⟨v5, hv5⟩ : ∃ v, v = wr := ⟨_, rfl⟩
      subst hv5
      clear hlt
      refine wp_seq_hid ?_
      intro K34 HK34
      go_wp2_with fail
      refine HK34.out _ _ ?_
      clear HK34 K34
      have HFL2 : ly.length ≤ 120 := Nat.le_trans HFL.out.1 HFL.out.2
      have HFX : lx.length ≤ 120 := HFL.out.2
      go_wp2_with fail
      go_loopw [31, 284] (fun at_ i wr => ∃ (k m : Nat), k ≤ ly.length ∧ m ≤ lx.length ∧ i = .int .i64 k ∧ at_ = .int .i64 m ∧ Hid (AtI Y X k m) ∧ Hid (Below d4.heap.size d4 wr)) (fun _ i _ => ly.length - (intOf i).toNat)
      case atStart => exact ⟨0, 0, by omega, by omega, rfl, rfl, AtI.start, HW2.out⟩
      case round =>
        obtain ⟨k, m, hk2, hm, rfl, rfl, HA, HW3⟩ := hrel
        by_cases hlt : k < ly.length
        · have HK : Hid (k < (ordersL Y).length) := by rw [Hid, HLL.out.2.1]; exact hlt
          obtain ⟨lb, lo, hay, az, cz, cc, hiy⟩ := (KD.out wr HW3.out).2.2.2.2.2.1 k hlt
          subst hay
          obtain ⟨yy, hyy⟩ : ∃ z, ly.getD k [] = z := ⟨_, rfl⟩
          rw [hyy] at cc hiy
          have h31 : yy.length ≤ 30 := by rw [← hyy]; exact HLL.out.2.2.2 _ (by simp [hlt])
          have HYY := Lib.hid (And.intro hyy (And.intro hiy h31))
          clear hyy hiy h31
          refine wp_seq_hid ?_
          intro KL36 HKL36
          go_wp2_with fail
          refine HKL36.out _ _ ?_
          clear HKL36 KL36
          refine wp_seq_hid ?_
          intro KLc HKLc
          go_wp2_with fail
          refine HKLc.out _ _ ?_
          clear HKLc KLc
          refine wp_seq_hid ?_
          intro KLB HKLB
          refine wp_block ?_
          refine wp_seq_hid ?_
          intro K37 HK37
          go_wp2_with fail
          refine HK37.out _ _ ?_
          clear HK37 K37
          obtain ⟨v6, hv6⟩ : ∃ v, v = wr := ⟨_, rfl⟩
          subst hv6
          have HZ : Hid (∀ v, Below v6.heap.size v6 v → IsInts v az yy) := fun v h => HYY.out.2.1.mono h
          clear cc
          refine wp_seq_hid ?_
          intro K40 HK40
          go_wp2_with fail
          go_loopw [31] (fun at_ wr => ∃ (m : Nat), m ≤ lx.length ∧ at_ = .int .i64 m ∧ Hid (AtI Y X k m) ∧ Hid (Below v6.heap.size v6 wr)) (fun at_ _ => lx.length + 1 - (intOf at_).toNat)
          case atStart => exact ⟨m, hm, rfl, HA.out, Below.refl _ _⟩
          case round =>
            obtain ⟨m2, hm2, rfl, HA2, HW4⟩ := hrel
            have hat : m2 < lx.length := by have := HA2.out.lt HNN.out HK.out; rw [HLL.out.1] at this; exact this
            have HW5 := Lib.hid (HW3.out.trans (HW4.out.mono HW3.out.size))
            obtain ⟨b2, o2, hax, a3, c3, cc, hi3⟩ := (KD.out wr HW5.out).2.2.2.2.1 m2 hat
            subst hax
            obtain ⟨xx, hxx⟩ : ∃ z, lx.getD m2 [] = z := ⟨_, rfl⟩
            rw [hxx] at cc hi3
            have h30 : xx.length ≤ 30 := by rw [← hxx]; exact HLL.out.2.2.1 _ (by simp [hat])
            have HXX := Lib.hid hxx
            clear hxx
            have C := ints27 (ca := c3) (cb := cz) hi3 (HZ.out wr HW4.out) h30 HYY.out.2.2
            have hd1 : decide (m2 < lx.length) = true := by simpa using hat
            by_cases he : xx = yy
            · rw [decide_eq_true he] at C
              have HC := Lib.hid C
              have HE := Lib.hid he
              clear C he h30 hi3
              go_wp2_with fail
              refine HC.out.mono ?_
              rintro e v7 ⟨rfl, hb⟩
              have HW6 := Lib.hid (HW4.out.trans (hb.mono HW4.out.size))
              have HW7 := Lib.hid (HW5.out.trans (hb.mono HW5.out.size))
              clear hb HC cc
              have hne : ((m2 : Int) == (lx.length : Int)) = false := by simp; omega
              go_wp2_with fail
              refine HK40.out _ _ ?_
              go_wp2_with fail
              refine HKLB.out _ _ ?_
              go_wp2_with fail
              go_roundw
              case rel => exact ⟨k + 1, m2, by omega, hm2, by go_num, rfl, HA2.out.next, HW7.out⟩
              case measure => simp [intOf]; omega
            · rw [decide_eq_false he] at C
              have HC := Lib.hid C
              have HE := Lib.hid he
              clear C he h30 hi3
              go_wp2_with fail
              refine HC.out.mono ?_
              rintro e v7 ⟨rfl, hb⟩
              have HW6 := Lib.hid (HW4.out.trans (hb.mono HW4.out.size))
              have HW7 := Lib.hid (HW5.out.trans (hb.mono HW5.out.size))
              clear hb HC cc
              go_wp2_with fail
              go_roundw
              case rel => exact ⟨m2 + 1, by omega, by go_num, HA2.out.more HNN.out HK.out (by rw [HLL.out.1]; exact hat) (by rw [HLL.out.1, HLL.out.2.1, HXX.out, HYY.out.1]; exact HE.out), HW6.out⟩
              case measure => simp [intOf]; omega
        · have hke : k = ly.length := by omega
          subst hke
          go_wp2_with fail
          exact HQ.out _ _ _ _ _ _ _ _ _ _ _ _ _ _ _ _ _ _ _ _ _ _ _ _ _ _ _ _ _ _ _ _ _ _ _ _ _ _ _ _ _ _ _ _ _ _ _ _ _ _ _ _ _ _ _ _ _ _ _ _ _ _ _ _ _ _ _ _ _ _ _ _ _ _ _ _ _ _ _ _ _ _ _ _ _ _ _ _ _ _ _ _ _ _ _ _ _ _ _ _ _ _ _ _ _ _ _ _ _ _ _ _ _ _ _ _ _ _ _ _ _ _ _ _ _ _ _ _ _ (KD.out wr HW3.out).2.2.2.2.2.2
end Go.Proofs.Ytnfhlbmapfoifaa
