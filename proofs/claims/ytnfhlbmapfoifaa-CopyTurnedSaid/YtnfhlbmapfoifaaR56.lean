/- CopyTurned: the cards by twos, in the one pile and in the other. -/
import Derived.Test.YtnfhlbmapfoifaaR54
import Derived.Test.YtnfhlbmapfoifaaOrd
namespace Go.Proofs.Ytnfhlbmapfoifaa
open Go.RowKit
set_option linter.unusedVariables false
set_option linter.unusedSimpArgs false

def leftReg2 : Code → Option Nat
  | .region id _ _ => some id
  | .seq a _ => leftReg2 a
  | _ => none
def fromReg (n : Nat) : Code → Option Code
  | .seq a b => if leftReg2 a = some n then some (.seq a b) else match fromReg n a with
    | some c => some c
    | none => fromReg n b
  | .block _ c => fromReg n c
  | .scope c => fromReg n c
  | .loop c => fromReg n c
  | .cond _ a b => match fromReg n a with
    | some c => some c
    | none => fromReg n b
  | _ => none
/-- The number of a card, and the card of a number. -/
def sgn (n c v : Nat) : Nat := (v + c) % n
def tgn (n c v : Nat) : Nat := (v + (n - c % n)) % n
theorem sgn_lt {n c v : Nat} (h : v < n) : sgn n c v < n := Nat.mod_lt _ (by omega)
theorem tgn_lt {n c v : Nat} (h : v < n) : tgn n c v < n := Nat.mod_lt _ (by omega)
theorem tgn_sgn {n c v : Nat} (h : v < n) : tgn n c (sgn n c v) = v := by
  unfold tgn sgn
  have h1 : c % n < n := Nat.mod_lt _ (by omega)
  rw [Nat.mod_add_mod]
  have h2 : v + c + (n - c % n) = v + n * (c / n + 1) := by
    have := Nat.div_add_mod c n
    rw [Nat.mul_add, Nat.mul_one]
    omega
  rw [h2, Nat.add_mul_mod_self_left]
  exact Nat.mod_eq_of_lt h
theorem sgn_tgn {n c v : Nat} (h : v < n) : sgn n c (tgn n c v) = v := by
  unfold tgn sgn
  have h1 : c % n < n := Nat.mod_lt _ (by omega)
  rw [Nat.mod_add_mod]
  have h2 : v + (n - c % n) + c = v + n * (c / n + 1) := by
    have := Nat.div_add_mod c n
    rw [Nat.mul_add, Nat.mul_one]
    omega
  rw [h2, Nat.add_mul_mod_self_left]
  exact Nat.mod_eq_of_lt h
/-- What lies in memory behind the new pile. -/
structure CtW (p x : Prs) (a ax : Option Addr) (cap xc b2 b3 bn b7 c : Nat) (w0 w : World) : Prop where
  below : Below w0.heap.size w0 w
  h2 : w.heap[b2]? = some (.cells (p.cells a cap) 26 (0, 0))
  hp : IsPrts w a p.cards
  h7 : w.heap[b7]? = some (.cells (x.cells ax xc) 26 (0, 0))
  hx : IsPrts w ax x.cards
  c3 : w.cell? ⟨b3, 0, none⟩ = some (.int .u8 (c : Int))
  cn : w.cell? ⟨bn, 0, none⟩ = some (.int .i64 (p.cards.length : Int))
theorem CtW.mono {p x : Prs} {a ax : Option Addr} {cap xc b2 b3 bn b7 c : Nat} {w0 w w' : World} (h : CtW p x a ax cap xc b2 b3 bn b7 c w0 w) (hb : Below w.heap.size w w') : CtW p x a ax cap xc b2 b3 bn b7 c w0 w' :=
  ⟨h.below.trans (hb.mono h.below.size), (hb.block _ (heap_lt h.h2)).trans h.h2, h.hp.mono hb, (hb.block _ (heap_lt h.h7)).trans h.h7, h.hx.mono hb, cell_stays hb h.c3, cell_stays hb h.cn⟩
theorem par_ltT {p : Prs} (hn : p.cards.length ≤ 5) {i : Nat} (hi : i < p.cards.length) : parS (parL p i (waysL p).length) < 32 := by
  refine parS_lt (fun x hx => ?_)
  unfold parL at hx
  rw [List.take_length, List.mem_map] at hx
  obtain ⟨y, hy, rfl⟩ := hx
  have := ((ways_iff.1 hy).2.1 i hi).2.1
  omega
theorem bit_i64t (S k : Nat) (hS : S < 32) : bits .and .i64 ((S : Int) / 2 ^ k) 1 = if S.testBit k then 1 else 0 := by
  have h1 : ((S : Int) / 2 ^ k) = ((S / 2 ^ k : Nat) : Int) := by simp
  have h2 : S / 2 ^ k < 2 ^ 62 := Nat.lt_of_le_of_lt (Nat.div_le_self _ _) (by omega)
  rw [h1]
  have h3 := (bits_nat .i64 62 (by decide) (fun n h1 h2 => by rw [IntKind.wrap_i64]; omega) (S / 2 ^ k) 1 h2 (by decide)).1
  rw [show ((1 : Nat) : Int) = 1 from rfl] at h3
  rw [h3, Nat.and_one_is_mod, Nat.testBit_eq_decide_div_mod_eq]
  by_cases h : S / 2 ^ k % 2 = 1
  · simp [h]
  · simp [h]; omega
theorem fits_same {p : Prs} (hv : p.valid = true) (k : Int) : fitsE p k k = (false, openE p (p.card k && p.card k && !decide (k = k))) := by
  have h : openE p (p.card k && p.card k && !decide (k = k)) = 2 := by
    unfold openE
    rw [hv]
    simp
  unfold fitsE
  dsimp only
  rw [if_neg (by rw [h]; decide)]
theorem fits_else {p : Prs} (hv : p.valid = true) {i m : Nat} (hi : i < p.cards.length) (hm : m < p.cards.length) (hne : i ≠ m) : fitsE p (i : Int) (m : Int) = (isWayB (bothP p i m) [-1, 0], 0) := by
  have h1 : p.card (i : Int) = true := by unfold Prs.card inR; rw [Bool.and_eq_true, decide_eq_true_eq, decide_eq_true_eq]; omega
  have h2 : p.card (m : Int) = true := by unfold Prs.card inR; rw [Bool.and_eq_true, decide_eq_true_eq, decide_eq_true_eq]; omega
  have h3 : openE p (p.card (i : Int) && p.card (m : Int) && !decide ((i : Int) = (m : Int))) = 0 := by
    rw [h1, h2, decide_eq_false (by omega)]
    unfold openE
    rw [hv]; rfl
  unfold fitsE
  simp only
  rw [h3, if_pos rfl]
  rfl
theorem fits_two {p : Prs} (hv : p.valid = true) {i m : Nat} (hi : i < p.cards.length) (hm : m < p.cards.length) : ∃ (one two : Bool) (er : Int), fitsE p (i : Int) (m : Int) = (one, er) ∧ fitsE p (m : Int) (i : Int) = (two, er) ∧ (one = true → two = true → Wide p i m) := by
  by_cases e : i = m
  · subst e
    exact ⟨false, false, _, fits_same hv _, fits_same hv _, fun h => by cases h⟩
  · exact ⟨_, _, 0, fits_else hv hi hm e, fits_else hv hm hi (Ne.symm e), fun h1 h2 => wide_law hv h1 h2⟩
noncomputable def tup36C : Code := (Try.f12.body.bind (fromReg 36)).getD .skip
set_option maxRecDepth 100000 in
set_option maxHeartbeats 4000000 in
theorem tup36 {p x : Prs} {a ax : Option Addr} {cap xc b2 b3 bn b7 c : Nat} {w0 w : World} {l : List Int} {kf af : Option Addr} {kc ac : Nat} (H : CtW p x a ax cap xc b2 b3 bn b7 c w0 w) (hv : p.valid = true) (hxv : x.valid = true) (hT : TurnP p.cards.length (sgn p.cards.length c) (tgn p.cards.length c) p x) (hc : c ≤ 255) (hl : l.length ≤ 16) (hk : IsInts w kf l) (hal : IsInts w af l)
    {s0 s1 s3 s4 s8 s9 s10 s11 s12 s13 s14 s15 s16 s17 s18 s19 s20 s21 s22 s23 s24 s25 s26 s27 s28 s30 s32 s33 s34 s35 s36 s37 s38 s39 s40 s41 s42 s43 s44 s45 s46 s47 s48 s49 s50 s51 s52 s53 s54 s55 s56 s57 s58 s59 s60 s61 s62 s63 s64 s65 s66 s67 s68 s69 s70 s71 s72 s73 s74 s75 s76 s77 s78 s79 s80 s81 s82 s83 s84 s85 s86 s87 s88 s89 s90 s91 s92 s93 s94 s95 s96 s97 s98 s99 s100 s101 s102 s103 s104 s105 s106 s107 s108 s109 s110 s111 s112 s113 s114 s115 s116 s117 s118 s119 s120 s121 s122 s123 s124 s125 s126 s127 s128 s129 s130 s131 s132 s133 s134 s135 s136 s137 s138 s139 s140 s141 s142 s143 s144 s145 s146 s147 s148 s149 s150 s151 s152 s153 s154 s155 s156 s157 s158 s159 s160 s161 s162 s163 s164 s165 s166 s167 s168 s169 s170 s171 s172 s173 s174 s175 s176 s177 s178 s179 s180 s181 s182 s183 s184 s185 s186 s187 s188 s189 s190 s191 s192 s193 s194 s195 s196 s197 s198 s199 s200 s201 s202 s203 s204 s205 s206 s207 s208 s209 s210 s211 s212 s213 s214 s215 s216 s217 s218 s219 s220 s221 s222 s223 s224 s225 s226 s227 s228 s229 s230 s231 s232 s233 s234 s235 s236 s237 s238 s239 s240 s241 s242 s243 s244 s245 s246 s247 s248 s249 s250 s251 s252 s253 s254 s255 s256 s257 s258 s259 s260 s261 s262 s263 s264 s265 s266 s267 s268 s269 s270 s271 s272 s273 s274 s275 s276 s277 s278 s279 s280 s281 s282 s283 s284 s285 s286 s287 s288 s289 s290 s291 s292 s293 s294 s295 s296 s297 s298 s299 s300 s301 s302 s303 s304 s305 s306 s307 s308 s309 s310 s311 : Value} :
    Code.wp Try.prog tup36C (bodyPost Try.prog Try.f12 fun e w' => e = .returned (.bool true) ∧ Below w0.heap.size w0 w') { tmps := #[s0,s1,.pointer (some ⟨b2, 0, none⟩),s3,s4,.pointer (some ⟨bn, 0, none⟩),.func (.func 46) #[] #[.pointer (some ⟨b3, 0, none⟩), .pointer (some ⟨bn, 0, none⟩)],.pointer (some ⟨b7, 0, none⟩),s8,s9,s10,s11,s12,s13,s14,s15,s16,s17,s18,s19,s20,s21,s22,s23,s24,s25,s26,s27,s28,.slice kf l.length kc,s30,.slice af l.length ac,s32,s33,s34,s35,s36,s37,s38,s39,s40,s41,s42,s43,s44,s45,s46,s47,s48,s49,s50,s51,s52,s53,s54,s55,s56,s57,s58,s59,s60,s61,s62,s63,s64,s65,s66,s67,s68,s69,s70,s71,s72,s73,s74,s75,s76,s77,s78,s79,s80,s81,s82,s83,s84,s85,s86,s87,s88,s89,s90,s91,s92,s93,s94,s95,s96,s97,s98,s99,s100,s101,s102,s103,s104,s105,s106,s107,s108,s109,s110,s111,s112,s113,s114,s115,s116,s117,s118,s119,s120,s121,s122,s123,s124,s125,s126,s127,s128,s129,s130,s131,s132,s133,s134,s135,s136,s137,s138,s139,s140,s141,s142,s143,s144,s145,s146,s147,s148,s149,s150,s151,s152,s153,s154,s155,s156,s157,s158,s159,s160,s161,s162,s163,s164,s165,s166,s167,s168,s169,s170,s171,s172,s173,s174,s175,s176,s177,s178,s179,s180,s181,s182,s183,s184,s185,s186,s187,s188,s189,s190,s191,s192,s193,s194,s195,s196,s197,s198,s199,s200,s201,s202,s203,s204,s205,s206,s207,s208,s209,s210,s211,s212,s213,s214,s215,s216,s217,s218,s219,s220,s221,s222,s223,s224,s225,s226,s227,s228,s229,s230,s231,s232,s233,s234,s235,s236,s237,s238,s239,s240,s241,s242,s243,s244,s245,s246,s247,s248,s249,s250,s251,s252,s253,s254,s255,s256,s257,s258,s259,s260,s261,s262,s263,s264,s265,s266,s267,s268,s269,s270,s271,s272,s273,s274,s275,s276,s277,s278,s279,s280,s281,s282,s283,s284,s285,s286,s287,s288,s289,s290,s291,s292,s293,s294,s295,s296,s297,s298,s299,s300,s301,s302,s303,s304,s305,s306,s307,s308,s309,s310,s311],defers := [] } w := by
  have h5 := (valid_parts hv).1
  have hxl := hT.nx
  have HV := Lib.hid (And.intro hv (And.intro hxv (And.intro hT (And.intro hc hl))))
  have HN5 : Hid (p.cards.length ≤ 5) := h5
  have HXL := Lib.hid hxl
  have KD : Hid (∀ v, Below w.heap.size w v → CtW p x a ax cap xc b2 b3 bn b7 c w0 v ∧ IsInts v kf l ∧ IsInts v af l) := fun v h => ⟨H.mono h, hk.mono h, hal.mono h⟩
  clear H hk hal hv hxv hT hc hl h5 hxl
  conv => arg 2; whnf
  have q0 := (KD.out w (Below.refl _ _)).1.cn
  refine wp_seq_hid ?_
  intro K36 HK36
  go_wp2_with fail
  clear q0
  go_loopw [204] (fun i wr => ∃ (k : Nat), k ≤ p.cards.length ∧ i = .int .i64 k ∧ Hid (Below w.heap.size w wr)) (fun i _ => p.cards.length - (intOf i).toNat)
  case atStart => exact ⟨0, by omega, rfl, Below.refl _ _⟩
  case round =>
    obtain ⟨k, hk, rfl, HW⟩ := hrel
    have h5 : p.cards.length ≤ 5 := HN5.out
    by_cases hlt : k < p.cards.length
    · refine wp_seq_hid ?_
      intro KL37 HKL37
      go_wp2_with fail
      refine HKL37.out _ _ ?_
      clear HKL37 KL37
      refine wp_seq_hid ?_
      intro KLc HKLc
      go_wp2_with fail
      refine HKLc.out _ _ ?_
      clear HKLc KLc
      refine wp_seq_hid ?_
      intro KLB HKLB
      refine wp_block ?_
      refine wp_seq_hid ?_
      intro K38 HK38
      go_wp2_with fail
      refine HK38.out _ _ ?_
      clear HK38 K38
      refine wp_seq_hid ?_
      intro K39 HK39
      obtain ⟨sy, hsy⟩ : ∃ s, sgn p.cards.length c k = s := ⟨_, rfl⟩
      have hsl : sy < p.cards.length := by rw [← hsy]; exact sgn_lt hlt
      have HSY := Lib.hid hsy
      obtain ⟨pa, hpa⟩ : ∃ z, parS (parL p k (waysL p).length) = z := ⟨_, rfl⟩
      obtain ⟨pb, hpb⟩ : ∃ z, parS (parL x sy (waysL x).length) = z := ⟨_, rfl⟩
      have CP : Hid (∀ v, Below w.heap.size w v → Calls Try.prog 33 #[p.v a cap, .int .i64 (k : Int)] v fun e w' => e = .returned (.tuple #[.int .i64 (pa : Int), .bool true, .int .i64 0]) ∧ Below v.heap.size v w') := fun v hb => by
        have := parents_any (cap := cap) (KD.out v hb).1.hp (by omega) (k : Int)
        rw [parentsE_yes HV.out.1 hlt, par_orig HV.out.1 hlt, hpa] at this; exact this
      have CX : Hid (∀ v, Below w.heap.size w v → Calls Try.prog 33 #[x.v ax xc, .int .i64 (sy : Int)] v fun e w' => e = .returned (.tuple #[.int .i64 (pb : Int), .bool true, .int .i64 0]) ∧ Below v.heap.size v w') := fun v hb => by
        have := parents_any (cap := xc) (KD.out v hb).1.hx (by have := HXL.out; omega) (sy : Int)
        rw [parentsE_yes HV.out.2.1 (by have := HXL.out; omega), par_orig HV.out.2.1 (by have := HXL.out; omega), hpb] at this; exact this
      have CN : Hid (∀ (v : World) (z s : Nat), z < p.cards.length → sgn p.cards.length c z = s → Below w.heap.size w v → Calls Try.prog 46 #[.int .i64 (z : Int), .pointer (some ⟨b3, 0, none⟩), .pointer (some ⟨bn, 0, none⟩)] v fun e w' => e = .returned (.int .i64 (s : Int)) ∧ v = w') := fun v z s hz hs hb => by
        have := number46 (v := z) (KD.out v hb).1.c3 (KD.out v hb).1.cn HV.out.2.2.2.1 (by omega) (by omega) (by omega)
        rw [show (z + c) % p.cards.length = s from hs] at this; exact this
      have HBIT : Hid (∀ z s : Nat, z < p.cards.length → sgn p.cards.length c z = s → bits .and .i64 ((pa : Int) / 2 ^ z) 1 = bits .and .i64 ((pb : Int) / 2 ^ s) 1) := fun z s hz hs => by
        have h1 : pa < 32 := by rw [← hpa]; exact par_ltT (by omega) hlt
        have h2 : pb < 32 := by rw [← hpb]; exact par_ltT (by have := HXL.out; omega) (by have := HXL.out; omega)
        rw [bit_i64t _ _ h1, bit_i64t _ _ h2, ← hpa, ← hpb, ← hs, ← hsy, par_turn HV.out.2.2.1 HV.out.1 HV.out.2.1 hlt hz]
      clear hpa hpb hsy
      obtain ⟨k0, k1, k2, k3, k4⟩ := prs_cells (KD.out wr HW.out).1.h2
      go_wp2_with fail
      refine (CP.out _ HW.out).mono ?_
      rintro e d1 ⟨rfl, hb⟩
      have HP1 := Lib.hid (Below.trans HW.out (hb.mono (Below.size HW.out)))
      clear hb k0 k1 k2 k3 k4
      go_wp2_with fail
      refine HK39.out _ _ ?_
      clear HK39 K39
      refine wp_seq_hid ?_
      intro K40 HK40
      obtain ⟨k0, k1, k2, k3, k4⟩ := prs_cells (KD.out d1 HP1.out).1.h7
      go_upto_region 40 with fail
      have z0 := fun y : Aft d1.heap.size d1 => cell_stays y.h k0
      have z1 := fun y : Aft d1.heap.size d1 => cell_stays y.h k1
      have z2 := fun y : Aft d1.heap.size d1 => cell_stays y.h k2
      have z3 := fun y : Aft d1.heap.size d1 => cell_stays y.h k3
      have z4 := fun y : Aft d1.heap.size d1 => cell_stays y.h k4
      have HYB : Hid (∀ y : Aft d1.heap.size d1, Below w.heap.size w y.v) := fun y => Below.trans HP1.out (y.h.mono (Below.size HP1.out))
      clear k0 k1 k2 k3 k4
      refine wp_region_aft mixed (by kernel_rfl) ?_
      repeat (go_big_quiet_step (first | (go_at_call 46; with_reducible exact calls_aft_same (CN.out _ _ _ hlt HSY.out (HYB.out _))) | (go_at_call 33; with_reducible exact calls_aft (CX.out _ (HYB.out _)))))
      refine wpQuiet_nil ?_
      rintro _ ⟨y, rfl⟩
      have HY := Lib.hid (HYB.out y)
      revert HY
      generalize y.v = e40
      intro HY40
      clear HYB z0 z1 z2 z3 z4
      refine HK40.out _ _ ?_
      clear HK40 K40
      refine wp_seq_hid ?_
      intro K41 HK41
      go_wp2_with fail
      refine HK41.out _ _ ?_
      clear HK41 K41
      have q0 := (KD.out e40 HY40.out).1.cn
      go_wp2_with fail
      clear q0
      go_loopw [232] (fun i wr => ∃ (z : Nat), z ≤ p.cards.length ∧ i = .int .i64 z ∧ Hid (Below w.heap.size w wr)) (fun i _ => p.cards.length - (intOf i).toNat)
      case atStart => exact ⟨0, by omega, rfl, HY40.out⟩
      case round =>
        obtain ⟨z, hz, rfl, HZ⟩ := hrel
        by_cases hzl : z < p.cards.length
        · obtain ⟨sz, hsz⟩ : ∃ s, sgn p.cards.length c z = s := ⟨_, rfl⟩
          have HSZ := Lib.hid hsz
          clear hsz
          obtain ⟨fu, fv, hfu⟩ : ∃ fu fv, fromE p (k : Int) (z : Int) = (fu, fv) := ⟨_, _, rfl⟩
          have hfx : fromE x (sy : Int) (sz : Int) = (fu, fv) := by
            rw [← HSY.out, ← HSZ.out, from_turn HV.out.2.2.1 HV.out.1 HV.out.2.1 hlt hzl]; exact hfu
          have CF : Hid (∀ v, Below w.heap.size w v → Calls Try.prog 15 #[p.v a cap, .int .i64 (k : Int), .int .i64 (z : Int)] v fun e w' => e = .returned (.tuple #[.int .i64 fu, .int .i64 fv]) ∧ Below v.heap.size v w') := fun v hb => by
            have := from_any (cap := cap) (KD.out v hb).1.hp (by omega) (k : Int) (z : Int)
            rw [hfu] at this; exact this
          have CFX : Hid (∀ v, Below w.heap.size w v → Calls Try.prog 15 #[x.v ax xc, .int .i64 (sy : Int), .int .i64 (sz : Int)] v fun e w' => e = .returned (.tuple #[.int .i64 fu, .int .i64 fv]) ∧ Below v.heap.size v w') := fun v hb => by
            have := from_any (cap := xc) (KD.out v hb).1.hx (by have := HXL.out; omega) (sy : Int) (sz : Int)
            rw [hfx] at this; exact this
          obtain ⟨one, two, er, hf1, hf2, hwd⟩ := fits_two HV.out.1 hlt hzl
          have C1 : Hid (∀ v, Below w.heap.size w v → Calls Try.prog 34 #[p.v a cap, .int .i64 (k : Int), .int .i64 (z : Int)] v fun e w' => e = .returned (.tuple #[.bool one, .int .i64 er]) ∧ Below v.heap.size v w') := fun v hb => by
            have := fits_any (cap := cap) (KD.out v hb).1.hp (by omega) (k : Int) (z : Int)
            rw [hf1] at this; exact this
          have C2 : Hid (∀ v, Below w.heap.size w v → Calls Try.prog 34 #[p.v a cap, .int .i64 (z : Int), .int .i64 (k : Int)] v fun e w' => e = .returned (.tuple #[.bool two, .int .i64 er]) ∧ Below v.heap.size v w') := fun v hb => by
            have := fits_any (cap := cap) (KD.out v hb).1.hp (by omega) (z : Int) (k : Int)
            rw [hf2] at this; exact this
          have HWD := Lib.hid hwd
          clear hfu hfx hf1 hf2 hwd
          refine wp_seq_hid ?_
          intro KL44 HKL44
          go_wp2_with fail
          refine HKL44.out _ _ ?_
          clear HKL44 KL44
          refine wp_seq_hid ?_
          intro KLd HKLd
          go_wp2_with fail
          refine HKLd.out _ _ ?_
          clear HKLd KLd
          refine wp_seq_hid ?_
          intro KLE HKLE
          refine wp_block ?_
          refine wp_seq_hid ?_
          intro K45 HK45
          go_wp2_with fail
          refine HK45.out _ _ ?_
          clear HK45 K45
          refine wp_seq_hid ?_
          intro K46 HK46
          obtain ⟨k0, k1, k2, k3, k4⟩ := prs_cells (KD.out wr HZ.out).1.h7
          go_upto_region 46 with fail
          have z0 := fun y : Aft wr.heap.size wr => cell_stays y.h k0
          have z1 := fun y : Aft wr.heap.size wr => cell_stays y.h k1
          have z2 := fun y : Aft wr.heap.size wr => cell_stays y.h k2
          have z3 := fun y : Aft wr.heap.size wr => cell_stays y.h k3
          have z4 := fun y : Aft wr.heap.size wr => cell_stays y.h k4
          have HYB : Hid (∀ y : Aft wr.heap.size wr, Below w.heap.size w y.v) := fun y => Below.trans HZ.out (y.h.mono (Below.size HZ.out))
          obtain ⟨bz, hbz⟩ : ∃ b, bits .and .i64 ((pb : Int) / 2 ^ sz) 1 = b := ⟨_, rfl⟩
          have hby := HBIT.out z sz hzl HSZ.out
          rw [hbz] at hby
          have hszl : sz < p.cards.length := by rw [← HSZ.out]; exact sgn_lt hzl
          have g0 : (bz != bz) = false := by simp
          clear k0 k1 k2 k3 k4
          refine wp_region_aft mixed (by kernel_rfl) ?_
          repeat (go_big_quiet_step (first | (go_at_call 46; with_reducible exact calls_aft_same (CN.out _ _ _ hzl HSZ.out (HYB.out _)))))
          refine wpQuiet_nil ?_
          rintro _ ⟨y, rfl⟩
          have HY := Lib.hid (HYB.out y)
          revert HY
          generalize y.v = e46
          intro HY46
          clear HYB z0 z1 z2 z3 z4
          go_wp2_with fail
          refine HK46.out _ _ ?_
          clear HK46 K46 hbz hby g0
          refine wp_seq_hid ?_
          intro K48 HK48
          obtain ⟨k0, k1, k2, k3, k4⟩ := prs_cells (KD.out e46 HY46.out).1.h2
          go_wp2_with fail
          refine (CF.out _ HY46.out).mono ?_
          rintro e d2 ⟨rfl, hb⟩
          have HP2 := Lib.hid (Below.trans HY46.out (hb.mono (Below.size HY46.out)))
          clear hb k0 k1 k2 k3 k4
          go_wp2_with fail
          refine HK48.out _ _ ?_
          clear HK48 K48
          refine wp_seq_hid ?_
          intro K49 HK49
          obtain ⟨k0, k1, k2, k3, k4⟩ := prs_cells (KD.out d2 HP2.out).1.h7
          go_upto_region 49 with fail
          have z0 := fun y : Aft d2.heap.size d2 => cell_stays y.h k0
          have z1 := fun y : Aft d2.heap.size d2 => cell_stays y.h k1
          have z2 := fun y : Aft d2.heap.size d2 => cell_stays y.h k2
          have z3 := fun y : Aft d2.heap.size d2 => cell_stays y.h k3
          have z4 := fun y : Aft d2.heap.size d2 => cell_stays y.h k4
          have HYB : Hid (∀ y : Aft d2.heap.size d2, Below w.heap.size w y.v) := fun y => Below.trans HP2.out (y.h.mono (Below.size HP2.out))
          clear k0 k1 k2 k3 k4
          refine wp_region_aft mixed (by kernel_rfl) ?_
          repeat (go_big_quiet_step (first | (go_at_call 46; with_reducible exact calls_aft_same (CN.out _ _ _ hlt HSY.out (HYB.out _))) | (go_at_call 46; with_reducible exact calls_aft_same (CN.out _ _ _ hzl HSZ.out (HYB.out _))) | (go_at_call 15; with_reducible exact calls_aft (CFX.out _ (HYB.out _)))))
          refine wpQuiet_nil ?_
          rintro _ ⟨y, rfl⟩
          have HY := Lib.hid (HYB.out y)
          revert HY
          generalize y.v = e49
          intro HY49
          clear HYB z0 z1 z2 z3 z4
          refine HK49.out _ _ ?_
          clear HK49 K49
          refine wp_seq_hid ?_
          intro K50 HK50
          obtain ⟨k0, k1, k2, k3, k4⟩ := prs_cells (KD.out e49 HY49.out).1.h2
          go_wp2_with fail
          refine (C1.out _ HY49.out).mono ?_
          rintro e d3 ⟨rfl, hb⟩
          have HP3 := Lib.hid (Below.trans HY49.out (hb.mono (Below.size HY49.out)))
          clear hb k0 k1 k2 k3 k4
          go_wp2_with fail
          refine HK50.out _ _ ?_
          clear HK50 K50
          refine wp_seq_hid ?_
          intro K51 HK51
          obtain ⟨k0, k1, k2, k3, k4⟩ := prs_cells (KD.out d3 HP3.out).1.h2
          go_wp2_with fail
          refine (C2.out _ HP3.out).mono ?_
          rintro e d4 ⟨rfl, hb⟩
          have HP4 := Lib.hid (Below.trans HP3.out (hb.mono (Below.size HP3.out)))
          clear hb k0 k1 k2 k3 k4
          go_wp2_with fail
          refine HK51.out _ _ ?_
          clear HK51 K51
          have g1 : (fu != fu) = false := by simp
          have g2 : (fv != fv) = false := by simp
          have g3 : (er != er) = false := by simp
          cases one
          case false =>
            go_wp2_with fail
            refine HKLE.out _ _ ?_
            go_wp2_with fail
            go_roundw
            case rel => exact ⟨z + 1, by omega, by go_num, HP4.out⟩
            case measure => simp [intOf]; omega
          cases two
          case false =>
            go_wp2_with fail
            refine HKLE.out _ _ ?_
            go_wp2_with fail
            go_roundw
            case rel => exact ⟨z + 1, by omega, by go_num, HP4.out⟩
            case measure => simp [intOf]; omega
          obtain ⟨k0, k1, k2, k3, k4⟩ := prs_cells (KD.out d4 HP4.out).1.h2
          go_wp2_with fail
          refine (wide47 (KD.out d4 HP4.out).1.hp HV.out.1 hlt hzl (by first | exact HWD.out rfl rfl | exact HWD.out trivial trivial | exact HWD.out)).mono ?_
          rintro e w9 ⟨rfl, hb⟩
          have HP9 := Lib.hid (Below.trans HP4.out (hb.mono (Below.size HP4.out)))
          clear hb k0 k1 k2 k3 k4
          go_wp2_with fail
          refine HKLE.out _ _ ?_
          go_wp2_with fail
          go_roundw
          case rel => exact ⟨z + 1, by omega, by go_num, HP9.out⟩
          case measure => simp [intOf]; omega
        · have hze : z = p.cards.length := by omega
          subst hze
          go_wp2_with fail
          refine HKLB.out _ _ ?_
          go_wp2_with fail
          go_roundw
          case rel => exact ⟨k + 1, by omega, by go_num, HZ.out⟩
          case measure => simp [intOf]; omega
    · have hke : k = p.cards.length := by omega
      subst hke
      have C27 := ints27 (ca := ac) (cb := kc) (KD.out wr HW.out).2.2 (KD.out wr HW.out).2.1 (Nat.le_trans HV.out.2.2.2.2 (by decide)) (Nat.le_trans HV.out.2.2.2.2 (by decide))
      rw [decide_eq_true rfl] at C27
      have HC := Lib.hid C27
      clear C27
      go_wp2_with fail
      refine HK36.out _ _ ?_
      go_wp2_with fail
      refine HC.out.mono ?_
      rintro e w8 ⟨rfl, hb⟩
      have HX8 := Lib.hid (HW.out.trans (hb.mono HW.out.size))
      clear hb
      go_wp2_with fail
      refine (alive_any _).mono ?_
      rintro e c1 ⟨rfl, hb⟩
      have HX := Lib.hid (HX8.out.trans (hb.mono HX8.out.size))
      clear hb
      go_wp2_with fail
      go_ret
      exact ⟨rfl, (KD.out _ HX.out).1.below⟩
end Go.Proofs.Ytnfhlbmapfoifaa
