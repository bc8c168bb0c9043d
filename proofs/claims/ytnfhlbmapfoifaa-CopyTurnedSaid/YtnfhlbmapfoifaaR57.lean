/- CopyTurned: prints are compared; numbers are copied; a way is overwritten. CopyTurned: what is told of the pile and of the new one. CopyTurned: the walk. -/
import Derived.Test.YtnfhlbmapfoifaaR56
namespace Go.Proofs.Ytnfhlbmapfoifaa
open Go.RowKit
set_option linter.unusedVariables false
set_option linter.unusedSimpArgs false

theorem ints_news {w : World} {a : Option Addr} {l : List Int} (h : IsInts w a l) : l.length ≠ 0 → ∃ ad, a = some ad ∧ ∀ j u, (l.map (Value.int .i64))[j]? = some u → w.cell? (ad.add j) = some u := fun h0 => by
  obtain ⟨b, off, e, hc⟩ := h.at (k := 0) (by omega)
  refine ⟨⟨b, off, none⟩, e, fun j u hj => ?_⟩
  have hj' : j < l.length := by have := (List.getElem?_eq_some_iff.1 hj).1; simpa using this
  have e2 : ((⟨b, off, none⟩ : Addr).add j) = ⟨b, off + j, none⟩ := by unfold Addr.add; split <;> simp_all
  rw [e2, hc j hj']
  simp [hj'] at hj
  rw [← hj]
  simp [gi, hj']
theorem copy_new {W w : World} {av : Option Addr} {pre : List Int} {cv : Nat} {xs : Value} (hk : pre.length ≤ 16) (hb : Below W.heap.size W w) (hx : w.ownsRow W.heap.size 3 1 xs 0 []) (hi : IsInts w av pre) :
    ∃ (r1 : Option Addr × Nat) (w' : World), (Builtin.append_ #[42, 42] 42 #[xs, .slice av pre.length cv]).run Try.prog w = .ok (.slice r1.1 pre.length r1.2) w' ∧ Below W.heap.size W w' ∧ w'.ownsRow W.heap.size 3 1 (.slice r1.1 pre.length r1.2) pre.length (pre.map (Value.int .i64)) ∧
      (∀ k, k < w.heap.size → xs.ownBlock ≠ some k → w'.heap[k]? = w.heap[k]? ∧ (Value.slice r1.1 pre.length r1.2).ownBlock ≠ some k) := by
  obtain ⟨i0, hi0, hz0, hz1, hz2⟩ := info_parts infoI
  obtain ⟨v', w', hr, hn, hg, hor⟩ := append_rows_at (P := Try.prog) (w := w) W.heap.size 42 42 3 i0 _ 1 8 Try.underlying42 hi0 hz0 hz1 hz2 rfl (by decide) xs 0 [] hx av pre.length cv (pre.map (Value.int .i64)) (by simp) (ints_news hi) (by intro u hu; simp at hu; obtain ⟨x, _, rfl⟩ := hu; rfl) (by simp [maxLen]; omega) (by omega) hb.size
  rw [Nat.zero_add, List.nil_append] at hn
  obtain ⟨a', c', rfl, _⟩ := own_slice hn
  refine ⟨(a', c'), w', hr, hb.grown hg hb.size (fun k hk => (hx.lt k hk).1), hn, fun k hk hne => ⟨hg.block k hk (fun e => hne e.symm), fun e => ?_⟩⟩
  rcases hor with h | h
  · rw [h] at e; exact hne e
  · rw [h] at e; cases e; omega
theorem eq24s (n : Nat) (hn : 9990 ≤ n) (a b : Int) (w : World) : (Op.equalIn n 24 (.agg #[.int .i64 a, .int .i64 b]) (.agg #[.int .i64 a, .int .i64 b])).run Try.prog w = .ok true w := by
  have hu3 : Try.prog.underlying 3 = some (.int .i64) := by kernel_rfl
  have hs : Try.prog.stoodInHeld 24 = false := by kernel_rfl
  obtain ⟨m, rfl⟩ : ∃ m, n = m + 2 := ⟨n - 2, by omega⟩
  have hp : ∀ (x y : Int) (w : World), (part 3 #[.int .i64 x, .int .i64 y] 0).run Try.prog w = .ok (.int .i64 x) w := fun x y w => by simp [part, run_underlying hu3, Result.andThen, isAgg]
  have hp1 : ∀ (x y : Int) (w : World), (part 3 #[.int .i64 x, .int .i64 y] 1).run Try.prog w = .ok (.int .i64 y) w := fun x y w => by simp [part, run_underlying hu3, Result.andThen, isAgg]
  have he : ∀ (x : Int) (w : World), (Op.equalIn (m + 1) 3 (.int .i64 x) (.int .i64 x)).run Try.prog w = .ok true w := fun x w => by
    rw [Op.equalIn]; simp [run_underlying hu3, Result.andThen]
  rw [Op.equalIn]
  simp [run_underlying Try.underlying24, Result.andThen, hs, hp, hp1, he]
theorem neq54s (c : Prt) (w : World) : (binOp .neq 54 (.agg c.arr) (.agg c.arr)).run Try.prog w = .ok (.bool false) w := by
  have hu3 : Try.prog.underlying 3 = some (.int .i64) := by kernel_rfl
  have hs : Try.prog.stoodInHeld 54 = false := by kernel_rfl
  have he : ∀ (x : Int) (w : World), (Op.equalIn 9999 3 (.int .i64 x) (.int .i64 x)).run Try.prog w = .ok true w := fun x w => by
    rw [Op.equalIn]; simp [run_underlying hu3, Result.andThen]
  have h24 := fun a b w => eq24s 9999 (by decide) a b w
  have h : (Op.equalIn 10000 54 (.agg c.arr) (.agg c.arr)).run Try.prog w = .ok true w := by
    rw [Op.equalIn]
    simp [run_underlying Try.underlying54, Result.andThen, hs, part, run_underlying hu3, run_underlying Try.underlying24, isAgg, he, h24]
  simp [binOp, go_sem, Op.equal, Op.maxDepth, h, Result.andThen]
theorem own_none3t {w : World} {B : Nat} (h : B ≤ w.heap.size) : (w.alloc (.cells #[] 3)).ownsRow B 3 1 (.slice (some ⟨w.heap.size, 0, none⟩) 0 0) 0 [] := World.ownsRow_made (e := 3) (size := 1) w #[] 0 (base := B) h (by simp [maxLen]) (by simp)
theorem copy_ints {W w : World} {av : Option Addr} {l : List Int} {cv : Nat} {xs : Value} (hk : l.length ≤ 16) (hb : Below W.heap.size W w) (hx : w.ownsRow W.heap.size 3 1 xs 0 []) (hi : IsInts w av l) :
    ∃ (f : Option Addr) (c : Nat) (w' : World), (Builtin.append_ #[42, 42] 42 #[xs, .slice av l.length cv]).run Try.prog w = .ok (.slice f l.length c) w' ∧ InRow W.heap.size f l w' ∧ Below W.heap.size W w' := by
  obtain ⟨r, w', hr, h1, h2, _⟩ := copy_new (cv := cv) hk hb hx hi
  exact ⟨r.1, r.2, w', hr, InRow.own h2, h1⟩
/-- Prints are copied, if there are any. -/
theorem copy_prts0 {W w : World} {av : Option Addr} {l : List Prt} {cv : Nat} {xs : Value} (hk : l.length ≤ 16) (hb : Below W.heap.size W w) (hx : w.ownsRow W.heap.size 54 5 xs 0 []) (hi : IsPrts w av l) :
    ∃ (f : Option Addr) (c : Nat) (w' : World), (Builtin.append_ #[22, 22] 22 #[xs, .slice av l.length cv]).run Try.prog w = .ok (.slice f l.length c) w' ∧ IsPrts w' f l ∧ Below W.heap.size W w' := by
  by_cases h0 : 0 < l.length
  · obtain ⟨g, c, w', h1, _, h2, h3, _⟩ := copy_prts (cv := cv) h0 hk hb hx hi
    exact ⟨_, c, w', h1, h2.prts, h3⟩
  · obtain rfl : l = [] := List.eq_nil_of_length_eq_zero (by omega)
    obtain ⟨i0, hi0, hz0, hz1, hz2⟩ := info_partsP infoPr
    obtain ⟨v', w', hr, hn, hg, _⟩ := append_rows_at (P := Try.prog) (w := w) W.heap.size 22 22 54 i0 _ 5 40 Try.underlying22 hi0 hz0 hz1 hz2 rfl (by decide) xs 0 [] hx av ([] : List Prt).length cv (prV []) (prV_len []) (prts_news hi) prV_one (by simp [maxLen]) (by simp) hb.size
    rw [Nat.zero_add, List.nil_append] at hn
    have hb' : Below W.heap.size W w' := hb.grown hg hb.size (fun k hk => (hx.lt k hk).1)
    obtain ⟨f, c, rfl, _⟩ := own_slice hn
    exact ⟨f, c, w', hr, fun i hi' => by simp at hi', hb'⟩
/-- The way is overwritten; its copy stays. -/
structure Wip (p q : World) (av f : Option Addr) (l : List Int) (v : World) : Prop where
  below : Below p.heap.size p v
  first : InRow q.heap.size f l v
  row : 0 < l.length → ∃ (b : Nat) (cur : Array Value), av = some ⟨b, 0, none⟩ ∧ p.heap.size ≤ b ∧ b < q.heap.size ∧ v.heap[b]? = some (.cells cur 3 (0, 0)) ∧ l.length ≤ cur.size
theorem Wip.put {p q v : World} {av f : Option Addr} {l : List Int} {k : Nat} (H : Wip p q av f l v) (hk : k < l.length) : ∃ b, av = some ⟨b, 0, none⟩ ∧ (∃ u, v.cell? ⟨b, k, none⟩ = some u) ∧ v.frozen? ⟨b, k, none⟩ = false ∧ ∀ x, Wip p q av f l (v.setCell ⟨b, k, none⟩ x) := by
  obtain ⟨b, cur, e, h1, h2, h3, h4⟩ := H.row (by omega)
  refine ⟨b, e, ⟨_, by rw [cell_of_heap h3]; exact Array.getElem?_eq_getElem (by omega)⟩, frozen_of_heap h3, fun x => ⟨H.below.setCell h1 _, fun h0 => ?_, fun _ => ⟨b, _, e, h1, h2, heap_setCell_at h3 _, by simpa using h4⟩⟩⟩
  obtain ⟨g, c2, e2, g1, g2, g3⟩ := H.first h0
  exact ⟨g, c2, e2, g1, (Below.heap_setCell _ _ _ _ (show g ≠ b by omega)).trans g2, g3⟩
end Go.Proofs.Ytnfhlbmapfoifaa

namespace Go.Proofs.Ytnfhlbmapfoifaa
open Go.RowKit
set_option linter.unusedVariables false
set_option linter.unusedSimpArgs false

theorem ordN_valid {p : Prs} (hv : p.valid = true) : ordN p = ordersL p := by
  unfold ordN ordersE
  rw [hv]
  cases h : ordersL p <;> simp
theorem waysE_valid {p : Prs} (hv : p.valid = true) : waysE p = (((waysL p).length : Int), 0) := by
  have hE : openE p true = 0 := by unfold openE; rw [hv]; rfl
  unfold waysE
  simp only
  rw [if_pos hE]
theorem ordersE_turn {n : Nat} {σ τ : Nat → Nat} {p x : Prs} (T : TurnP n σ τ p x) (hv : p.valid = true) (hx : x.valid = true) : ordersE x = ordersE p := by
  have hl := orders_turn T hv hx
  unfold ordersE
  rw [hv, hx]
  cases e : ordersL p with
  | nil =>
    rw [e] at hl
    have : ordersL x = [] := List.eq_nil_of_length_eq_zero hl
    rw [this]
  | cons a r =>
    cases e2 : ordersL x with
    | nil => rw [e, e2] at hl; simp at hl
    | cons b s => rfl
noncomputable def tup12C : Code := (Try.f12.body.bind (fromReg 12)).getD .skip
set_option maxRecDepth 100000 in
set_option maxHeartbeats 4000000 in
theorem tup12 {p x : Prs} {a ax : Option Addr} {cap xc b2 b3 bn b7 c : Nat} {w0 w : World} (H : CtW p x a ax cap xc b2 b3 bn b7 c w0 w) (hv : p.valid = true) (hxv : x.valid = true) (hT : TurnP p.cards.length (sgn p.cards.length c) (tgn p.cards.length c) p x) (hc : c ≤ 255)
    {s0 s1 s3 s4 s8 s9 s10 s11 s12 s13 s14 s15 s16 s17 s18 s19 s20 s21 s22 s23 s24 s25 s26 s27 s28 s29 s30 s31 s32 s33 s34 s35 s36 s37 s38 s39 s40 s41 s42 s43 s44 s45 s46 s47 s48 s49 s50 s51 s52 s53 s54 s55 s56 s57 s58 s59 s60 s61 s62 s63 s64 s65 s66 s67 s68 s69 s70 s71 s72 s73 s74 s75 s76 s77 s78 s79 s80 s81 s82 s83 s84 s85 s86 s87 s88 s89 s90 s91 s92 s93 s94 s95 s96 s97 s98 s99 s100 s101 s102 s103 s104 s105 s106 s107 s108 s109 s110 s111 s112 s113 s114 s115 s116 s117 s118 s119 s120 s121 s122 s123 s124 s125 s126 s127 s128 s129 s130 s131 s132 s133 s134 s135 s136 s137 s138 s139 s140 s141 s142 s143 s144 s145 s146 s147 s148 s149 s150 s151 s152 s153 s154 s155 s156 s157 s158 s159 s160 s161 s162 s163 s164 s165 s166 s167 s168 s169 s170 s171 s172 s173 s174 s175 s176 s177 s178 s179 s180 s181 s182 s183 s184 s185 s186 s187 s188 s189 s190 s191 s192 s193 s194 s195 s196 s197 s198 s199 s200 s201 s202 s203 s204 s205 s206 s207 s208 s209 s210 s211 s212 s213 s214 s215 s216 s217 s218 s219 s220 s221 s222 s223 s224 s225 s226 s227 s228 s229 s230 s231 s232 s233 s234 s235 s236 s237 s238 s239 s240 s241 s242 s243 s244 s245 s246 s247 s248 s249 s250 s251 s252 s253 s254 s255 s256 s257 s258 s259 s260 s261 s262 s263 s264 s265 s266 s267 s268 s269 s270 s271 s272 s273 s274 s275 s276 s277 s278 s279 s280 s281 s282 s283 s284 s285 s286 s287 s288 s289 s290 s291 s292 s293 s294 s295 s296 s297 s298 s299 s300 s301 s302 s303 s304 s305 s306 s307 s308 s309 s310 s311 : Value} :
    Code.wp Try.prog tup12C (bodyPost Try.prog Try.f12 fun e w' => e = .returned (.bool true) ∧ Below w0.heap.size w0 w') { tmps := #[s0,s1,.pointer (some ⟨b2, 0, none⟩),s3,s4,.pointer (some ⟨bn, 0, none⟩),.func (.func 46) #[] #[.pointer (some ⟨b3, 0, none⟩), .pointer (some ⟨bn, 0, none⟩)],.pointer (some ⟨b7, 0, none⟩),s8,s9,s10,s11,s12,s13,s14,s15,s16,s17,s18,s19,s20,s21,s22,s23,s24,s25,s26,s27,s28,s29,s30,s31,s32,s33,s34,s35,s36,s37,s38,s39,s40,s41,s42,s43,s44,s45,s46,s47,s48,s49,s50,s51,s52,s53,s54,s55,s56,s57,s58,s59,s60,s61,s62,s63,s64,s65,s66,s67,s68,s69,s70,s71,s72,s73,s74,s75,s76,s77,s78,s79,s80,s81,s82,s83,s84,s85,s86,s87,s88,s89,s90,s91,s92,s93,s94,s95,s96,s97,s98,s99,s100,s101,s102,s103,s104,s105,s106,s107,s108,s109,s110,s111,s112,s113,s114,s115,s116,s117,s118,s119,s120,s121,s122,s123,s124,s125,s126,s127,s128,s129,s130,s131,s132,s133,s134,s135,s136,s137,s138,s139,s140,s141,s142,s143,s144,s145,s146,s147,s148,s149,s150,s151,s152,s153,s154,s155,s156,s157,s158,s159,s160,s161,s162,s163,s164,s165,s166,s167,s168,s169,s170,s171,s172,s173,s174,s175,s176,s177,s178,s179,s180,s181,s182,s183,s184,s185,s186,s187,s188,s189,s190,s191,s192,s193,s194,s195,s196,s197,s198,s199,s200,s201,s202,s203,s204,s205,s206,s207,s208,s209,s210,s211,s212,s213,s214,s215,s216,s217,s218,s219,s220,s221,s222,s223,s224,s225,s226,s227,s228,s229,s230,s231,s232,s233,s234,s235,s236,s237,s238,s239,s240,s241,s242,s243,s244,s245,s246,s247,s248,s249,s250,s251,s252,s253,s254,s255,s256,s257,s258,s259,s260,s261,s262,s263,s264,s265,s266,s267,s268,s269,s270,s271,s272,s273,s274,s275,s276,s277,s278,s279,s280,s281,s282,s283,s284,s285,s286,s287,s288,s289,s290,s291,s292,s293,s294,s295,s296,s297,s298,s299,s300,s301,s302,s303,s304,s305,s306,s307,s308,s309,s310,s311],defers := [] } w := by
  have h5 := (valid_parts hv).1
  have HXL := Lib.hid hT.nx
  have hm := fewest_mem hv
  have hlm : (fewestW p).length = p.cards.length := (way_good hm).1
  have hwt := ways_turn hT hv hxv
  have hft := few_turn hT hv hxv
  have hot := orders_turn hT hv hxv
  have hoe := ordersE_turn hT hv hxv
  have hnt := needs_turn hT hv hxv
  have hw1 := waysE_valid hv
  have hw2 := waysE_valid hxv
  rw [hwt] at hw2
  have ho1 := ordN_valid hv
  have ho2 := ordN_valid hxv
  obtain ⟨wn, hwn⟩ : ∃ z : Int, ((waysL p).length : Int) = z := ⟨_, rfl⟩
  rw [hwn] at hw1 hw2
  obtain ⟨l, hl⟩ : ∃ l, fewestW p = l := ⟨_, rfl⟩
  obtain ⟨fo, hfo⟩ : ∃ z, origN (fewestW p) = z := ⟨_, rfl⟩
  rw [hfo] at hft
  obtain ⟨on, hon⟩ : ∃ z, (ordersL p).length = z := ⟨_, rfl⟩
  rw [hon] at hot
  obtain ⟨oe, hoe2⟩ : ∃ z, ordersE p = z := ⟨_, rfl⟩
  rw [hoe2] at hoe
  rcases hne : needsE p with ⟨nq, ne⟩
  rw [hne] at hnt
  rw [hl] at hlm
  have HN5 : Hid (p.cards.length ≤ 5) := h5
  have C32 : Hid (∀ v, IsPrts v a p.cards → Calls Try.prog 32 #[p.v a cap] v fun e w' => e = .returned (.tuple #[.int .i64 wn, .int .i64 0]) ∧ Below v.heap.size v w') := fun v h => by
    have := waysC_any (cap := cap) h (by omega)
    rw [hw1] at this; exact this
  have C32x : Hid (∀ v, IsPrts v ax x.cards → Calls Try.prog 32 #[x.v ax xc] v fun e w' => e = .returned (.tuple #[.int .i64 wn, .int .i64 0]) ∧ Below v.heap.size v w') := fun v h => by
    have := waysC_any (cap := xc) h (by have := HXL.out; omega)
    rw [hw2] at this; exact this
  have C28 : Hid (∀ v, IsPrts v a p.cards → Calls Try.prog 28 #[p.v a cap] v fun e w' => ∃ av cv, e = .returned (.tuple #[.slice av l.length cv, .int .i64 (fo : Int), .int .i64 0]) ∧ InRow v.heap.size av l w' ∧ Below v.heap.size v w') := fun v h => by
    have := fewest_own (cap := cap) h (by omega) hv
    rw [hfo, hl] at this; exact this
  have C28x : Hid (∀ v, IsPrts v ax x.cards → Calls Try.prog 28 #[x.v ax xc] v fun e w' => ∃ av cl cv, e = .returned (.tuple #[.slice av cl cv, .int .i64 (fo : Int), .int .i64 0]) ∧ Below v.heap.size v w') := fun v h => by
    refine (fewest_own (cap := xc) h (by have := HXL.out; omega) hxv).mono ?_
    rw [hft]
    rintro e w' ⟨av, cv, he, _, hb⟩
    exact ⟨av, _, cv, he, hb⟩
  have C17 : Hid (∀ v, IsPrts v a p.cards → Calls Try.prog 17 #[p.v a cap] v fun e w' => ∃ av cv, e = .returned (.tuple #[.slice av on cv, .int .i64 oe]) ∧ Below v.heap.size v w') := fun v h => by
    refine (orders_c (cap := cap) h (by omega)).mono ?_
    rw [ho1, hon, hoe2]
    rintro e w' ⟨av, cv, he, _, hb⟩
    exact ⟨av, cv, he, hb⟩
  have C17x : Hid (∀ v, IsPrts v ax x.cards → Calls Try.prog 17 #[x.v ax xc] v fun e w' => ∃ av cv, e = .returned (.tuple #[.slice av on cv, .int .i64 oe]) ∧ Below v.heap.size v w') := fun v h => by
    refine (orders_c (cap := xc) h (by have := HXL.out; omega)).mono ?_
    rw [ho2, hot, hoe]
    rintro e w' ⟨av, cv, he, _, hb⟩
    exact ⟨av, cv, he, hb⟩
  have C22 : Hid (∀ v, IsPrts v a p.cards → Calls Try.prog 22 #[p.v a cap] v fun e w' => e = .returned (.tuple #[.int .i64 nq, .int .i64 ne]) ∧ Below v.heap.size v w') := fun v h => by
    have := needs22 (cap := cap) h (by omega)
    rw [hne] at this; exact this
  have C22x : Hid (∀ v, IsPrts v ax x.cards → Calls Try.prog 22 #[x.v ax xc] v fun e w' => e = .returned (.tuple #[.int .i64 nq, .int .i64 ne]) ∧ Below v.heap.size v w') := fun v h => by
    have := needs22 (cap := xc) h (by have := HXL.out; omega)
    rw [hnt] at this; exact this
  have HV := Lib.hid (And.intro hv (And.intro hxv (And.intro hT (And.intro hc (show l.length ≤ 5 by omega)))))
  have HB := Lib.hid (And.intro (Below.refl w.heap.size w) H)
  clear hm hlm hwt hft hot hoe hnt hw1 hw2 ho1 ho2 hwn hl hfo hon hoe2 hne H hv hxv hT hc h5
  conv => arg 2; whnf
  refine wp_seq_hid ?_
  intro K12 HK12
  have hb0 : Below w.heap.size w (w.alloc (.cells #[] 54)) := (Below.refl _ _).alloc (Nat.le_refl _) _
  obtain ⟨cf, cc, v1, hr, hcp, hb⟩ := copy_prts0 (W := w) (cv := cap) (Nat.le_trans HN5.out (by decide)) hb0 (own_none54 (Nat.le_refl _)) (HB.out.2.hp.mono hb0)
  have HRUN := Lib.hid hr
  obtain ⟨k0, k1, k2, k3, k4⟩ := prs_cells HB.out.2.h2
  have k0' := cell_stays hb0 k0
  clear hr hb0
  go_wp2_with (at_builtin; refine wpList_append_run rfl (.tmp 83) (.tmp 85) 22 rfl _ _ _ _ rfl rfl HRUN.out ?_)
  clear k0 k1 k2 k3 k4 k0' HRUN
  have HX := Lib.hid (And.intro (HB.out.1.trans (hb.mono HB.out.1.size)) (And.intro (HB.out.2.mono hb) hcp))
  clear hb HB hcp
  have HB := HX
  clear HX
  refine HK12.out _ _ ?_
  clear HK12 K12
  refine wp_seq_hid ?_
  intro K13 HK13
  obtain ⟨k0, k1, k2, k3, k4⟩ := prs_cells HB.out.2.1.h2
  go_wp2_with fail
  refine (C32.out _ HB.out.2.1.hp).mono ?_
  rintro e d1 ⟨rfl, hb⟩
  have HX := Lib.hid (And.intro (HB.out.1.trans (hb.mono HB.out.1.size)) (And.intro (HB.out.2.1.mono hb) (HB.out.2.2.mono hb)))
  clear hb HB k0 k1 k2 k3 k4 C32
  have HB := HX
  clear HX
  go_wp2_with fail
  refine HK13.out _ _ ?_
  clear HK13 K13
  refine wp_seq_hid ?_
  intro K14 HK14
  obtain ⟨k0, k1, k2, k3, k4⟩ := prs_cells HB.out.2.1.h7
  go_wp2_with fail
  refine (C32x.out _ HB.out.2.1.hx).mono ?_
  rintro e d2 ⟨rfl, hb⟩
  have HX := Lib.hid (And.intro (HB.out.1.trans (hb.mono HB.out.1.size)) (And.intro (HB.out.2.1.mono hb) (HB.out.2.2.mono hb)))
  clear hb HB k0 k1 k2 k3 k4 C32x
  have HB := HX
  clear HX
  go_wp2_with fail
  refine HK14.out _ _ ?_
  clear HK14 K14
  have KH : Hid (∀ v, Below d2.heap.size d2 v → CtW p x a ax cap xc b2 b3 bn b7 c w0 v ∧ IsPrts v cf p.cards) := fun v hb => ⟨HB.out.2.1.mono hb, HB.out.2.2.mono hb⟩
  clear HB
  have HB := Lib.hid (Below.refl d2.heap.size d2)
  refine wp_seq_hid ?_
  intro K15 HK15
  obtain ⟨k0, k1, k2, k3, k4⟩ := prs_cells (KH.out d2 HB.out).1.h2
  go_wp2_with fail
  refine (C28.out _ (KH.out d2 HB.out).1.hp).mono ?_
  rintro e d3 ⟨av, cv, rfl, hr, hb⟩
  have HX := Lib.hid (And.intro (HB.out.trans (hb.mono HB.out.size)) hr)
  clear hb HB k0 k1 k2 k3 k4 hr
  have HB := HX
  clear HX
  go_wp2_with fail
  refine HK15.out _ _ ?_
  clear HK15 K15
  refine wp_seq_hid ?_
  intro K16 HK16
  obtain ⟨k0, k1, k2, k3, k4⟩ := prs_cells (KH.out d3 HB.out.1).1.h7
  go_wp2_with fail
  refine (C28x.out _ (KH.out d3 HB.out.1).1.hx).mono ?_
  rintro e d4 ⟨ay, ly, cy, rfl, hb⟩
  have HX := Lib.hid (And.intro (HB.out.1.trans (hb.mono HB.out.1.size)) (HB.out.2.mono hb))
  clear hb HB k0 k1 k2 k3 k4 C28x
  have HB := HX
  clear HX
  go_wp2_with fail
  refine HK16.out _ _ ?_
  clear HK16 K16
  refine wp_seq_hid ?_
  intro K17 HK17
  obtain ⟨k0, k1, k2, k3, k4⟩ := prs_cells (KH.out d4 HB.out.1).1.h2
  go_wp2_with fail
  refine (C17.out _ (KH.out d4 HB.out.1).1.hp).mono ?_
  rintro e d5 ⟨ao, co, rfl, hb⟩
  have HX := Lib.hid (And.intro (HB.out.1.trans (hb.mono HB.out.1.size)) (HB.out.2.mono hb))
  clear hb HB k0 k1 k2 k3 k4 C17
  have HB := HX
  clear HX
  go_wp2_with fail
  refine HK17.out _ _ ?_
  clear HK17 K17
  refine wp_seq_hid ?_
  intro K18 HK18
  obtain ⟨k0, k1, k2, k3, k4⟩ := prs_cells (KH.out d5 HB.out.1).1.h7
  go_wp2_with fail
  refine (C17x.out _ (KH.out d5 HB.out.1).1.hx).mono ?_
  rintro e d6 ⟨aq, cq, rfl, hb⟩
  have HX := Lib.hid (And.intro (HB.out.1.trans (hb.mono HB.out.1.size)) (HB.out.2.mono hb))
  clear hb HB k0 k1 k2 k3 k4 C17x
  have HB := HX
  clear HX
  go_wp2_with fail
  refine HK18.out _ _ ?_
  clear HK18 K18
  refine wp_seq_hid ?_
  intro K19 HK19
  obtain ⟨k0, k1, k2, k3, k4⟩ := prs_cells (KH.out d6 HB.out.1).1.h2
  go_wp2_with fail
  refine (C22.out _ (KH.out d6 HB.out.1).1.hp).mono ?_
  rintro e d7 ⟨rfl, hb⟩
  have HX := Lib.hid (And.intro (HB.out.1.trans (hb.mono HB.out.1.size)) (HB.out.2.mono hb))
  clear hb HB k0 k1 k2 k3 k4 C22
  have HB := HX
  clear HX
  go_wp2_with fail
  refine HK19.out _ _ ?_
  clear HK19 K19
  refine wp_seq_hid ?_
  intro K20 HK20
  obtain ⟨k0, k1, k2, k3, k4⟩ := prs_cells (KH.out d7 HB.out.1).1.h7
  go_wp2_with fail
  refine (C22x.out _ (KH.out d7 HB.out.1).1.hx).mono ?_
  rintro e d8 ⟨rfl, hb⟩
  have HX := Lib.hid (And.intro (HB.out.1.trans (hb.mono HB.out.1.size)) (HB.out.2.mono hb))
  clear hb HB k0 k1 k2 k3 k4 C22x
  have HB := HX
  clear HX
  go_wp2_with fail
  refine HK20.out _ _ ?_
  clear HK20 K20
  refine wp_seq_hid ?_
  intro K21 HK21
  have g1 : ∀ z : Int, (z != z) = false := fun z => by simp
  go_wp2_with fail
  refine HK21.out _ _ ?_
  clear HK21 K21 g1
  refine wp_seq_hid ?_
  intro K23 HK23
  have hb0 : Below d8.heap.size d8 (d8.alloc (.cells #[] 3)) := (Below.refl _ _).alloc (Nat.le_refl _) _
  obtain ⟨f, fcap, w2, hr, hfr, hb⟩ := copy_ints (W := d8) (cv := cv) (Nat.le_trans HV.out.2.2.2.2 (by decide)) hb0 (own_none3t (Nat.le_refl _)) (HB.out.2.ints.mono hb0)
  have HRUN := Lib.hid hr
  have HWP : Hid (Wip d2 d8 av f l w2) := ⟨HB.out.1.trans (hb.mono HB.out.1.size), hfr, fun h0 => by
    obtain ⟨b, cur, e, h1, h2, h3⟩ := HB.out.2 h0
    refine ⟨b, cur, e, h1, heap_lt h2, (hb.block _ (heap_lt h2)).trans h2, ?_⟩
    have := h3 (l.length - 1) (by omega)
    have := (Array.getElem?_eq_some_iff.1 this).1
    omega⟩
  clear hr hfr hb hb0 HB
  go_wp2_with (at_builtin; refine wpList_append_run rfl (.tmp 169) (.tmp 170) 42 rfl _ _ _ _ rfl rfl HRUN.out ?_)
  refine HK23.out _ _ ?_
  clear HK23 K23 HRUN
  refine wp_seq_hid ?_
  intro K24 HK24
  go_wp2_with fail
  go_loopw [174] (fun i wr => ∃ (k : Nat), k ≤ l.length ∧ i = .int .i64 k ∧ Hid (Wip d2 d8 av f l wr)) (fun i _ => l.length - (intOf i).toNat)
  case atStart => exact ⟨0, by omega, rfl, HWP.out⟩
  case round =>
    obtain ⟨k, hk, rfl, HI⟩ := hrel
    have hl6 : l.length ≤ 5 := HV.out.2.2.2.2
    by_cases hlt : k < l.length
    · obtain ⟨b, hav, ⟨u, hu⟩, hfz, hput⟩ := HI.out.put hlt
      have HPU := Lib.hid hput
      clear hput
      subst hav
      refine wp_seq_hid ?_
      intro KL25 HKL25
      go_wp2_with fail
      refine HKL25.out _ _ ?_
      clear HKL25 KL25
      refine wp_seq_hid ?_
      intro KLc HKLc
      go_wp2_with fail
      refine HKLc.out _ _ ?_
      clear HKLc KLc
      refine wp_seq_hid ?_
      intro KLB HKLB
      refine wp_block ?_
      refine wp_seq_hid ?_
      intro K26 HK26
      go_wp2_with fail
      refine HK26.out _ _ ?_
      clear HK26 K26
      go_wp2_with fail
      refine HKLB.out _ _ ?_
      clear hu hfz
      go_wp2_with fail
      go_roundw
      case rel => exact ⟨k + 1, by omega, by go_num, HPU.out _⟩
      case measure => simp [intOf]; omega
    · have hke : k = l.length := by omega
      subst hke
      have HB := Lib.hid (And.intro HI.out.below HI.out.first)
      go_wp2_with fail
      refine HK24.out _ _ ?_
      clear HI
      obtain ⟨v5, hv5⟩ : ∃ v, v = wr := ⟨_, rfl⟩
      subst hv5
      refine wp_seq_hid ?_
      intro K29 HK29
      obtain ⟨k0, k1, k2, k3, k4⟩ := prs_cells (KH.out v5 HB.out.1).1.h2
      go_wp2_with fail
      refine (C28.out _ (KH.out v5 HB.out.1).1.hp).mono ?_
      rintro e d9 ⟨aw, ac, rfl, hr, hb⟩
      have HX := Lib.hid (And.intro (HB.out.1.trans (hb.mono HB.out.1.size)) (And.intro (HB.out.2.mono hb) hr))
      clear hb HB k0 k1 k2 k3 k4 hr
      have HB := HX
      clear HX
      go_wp2_with fail
      refine HK29.out _ _ ?_
      clear HK29 K29
      refine wp_seq_hid ?_
      intro K30 HK30
      have h5 : p.cards.length ≤ 5 := HN5.out
      go_wp2_with fail
      go_loopw [189] (fun i wr => ∃ (k : Nat), k ≤ p.cards.length ∧ i = .int .i64 k ∧ Hid (Below d9.heap.size d9 wr)) (fun i _ => p.cards.length - (intOf i).toNat)
      case atStart => exact ⟨0, by omega, rfl, Below.refl _ _⟩
      case round =>
        obtain ⟨k, hk, rfl, HW⟩ := hrel
        have HKW := Lib.hid (KH.out wr (HB.out.1.trans (HW.out.mono HB.out.1.size)))
        by_cases hlt : k < p.cards.length
        · refine wp_seq_hid ?_
          intro KL31 HKL31
          go_wp2_with fail
          refine HKL31.out _ _ ?_
          clear HKL31 KL31
          refine wp_seq_hid ?_
          intro KLd HKLd
          go_wp2_with fail
          refine HKLd.out _ _ ?_
          clear HKLd KLd
          refine wp_seq_hid ?_
          intro KLE HKLE
          refine wp_block ?_
          refine wp_seq_hid ?_
          intro K32 HK32
          go_wp2_with fail
          refine HK32.out _ _ ?_
          clear HK32 K32
          obtain ⟨fb, fo2, fe, c0, c1, c2, c3, c4⟩ := HKW.out.2 k hlt
          obtain ⟨ab, ao2, ae, d0, d1, d2, d3, d4⟩ := HKW.out.1.hp k hlt
          subst fe
          obtain ⟨k0, k1, k2, k3, k4⟩ := prs_cells HKW.out.1.h2
          rw [ae] at k0
          have hn := fun w => neq54s (gp p.cards k) w
          revert c0 c1 c2 c3 c4 d0 d1 d2 d3 d4 hn
          generalize gp p.cards k = G
          intro c0 c1 c2 c3 c4 d0 d1 d2 d3 d4 hn
          go_upto_region 33 with fail
          have y0 := fun y : Aft wr.heap.size wr => cell_stays y.h k0
          have z0 := fun y : Aft wr.heap.size wr => cell_stays y.h c0
          have z1 := fun y : Aft wr.heap.size wr => cell_stays y.h c1
          have z2 := fun y : Aft wr.heap.size wr => cell_stays y.h c2
          have z3 := fun y : Aft wr.heap.size wr => cell_stays y.h c3
          have z4 := fun y : Aft wr.heap.size wr => cell_stays y.h c4
          have x0 := fun y : Aft wr.heap.size wr => cell_stays y.h d0
          have x1 := fun y : Aft wr.heap.size wr => cell_stays y.h d1
          have x2 := fun y : Aft wr.heap.size wr => cell_stays y.h d2
          have x3 := fun y : Aft wr.heap.size wr => cell_stays y.h d3
          have x4 := fun y : Aft wr.heap.size wr => cell_stays y.h d4
          clear k0 k1 k2 k3 k4 c0 c1 c2 c3 c4 d0 d1 d2 d3 d4 ae
          refine wp_region_aft mixed (by kernel_rfl) ?_
          repeat (go_big_quiet_step (fail))
          refine wpQuiet_nil ?_
          rintro _ ⟨y, rfl⟩
          have HY := Lib.hid (HW.out.trans (y.h.mono HW.out.size))
          clear y0 z0 z1 z2 z3 z4 x0 x1 x2 x3 x4 hn
          go_wp2_with fail
          refine HKLE.out _ _ ?_
          go_wp2_with fail
          go_roundw
          case rel => exact ⟨k + 1, by omega, by go_num, HY.out⟩
          case measure => simp [intOf]; omega
        · have hke : k = p.cards.length := by omega
          subst hke
          go_wp2_with fail
          refine HK30.out _ _ ?_
          exact tup36 HKW.out.1 HV.out.1 HV.out.2.1 HV.out.2.2.1 HV.out.2.2.2.1 (Nat.le_trans HV.out.2.2.2.2 (by decide)) ((HB.out.2.1.mono HW.out).ints) ((HB.out.2.2.mono HW.out).ints)
end Go.Proofs.Ytnfhlbmapfoifaa

namespace Go.Proofs.Ytnfhlbmapfoifaa
open Go.RowKit
set_option linter.unusedVariables false
set_option linter.unusedSimpArgs false

/-- A row of n prints in which those of the cards below k stand at their numbers. -/
structure PutP (g n c k : Nat) (l : List Prt) (v : World) : Prop where
  row : ∃ cur : Array Value, v.heap[g]? = some (.cells cur 54 (0, 0)) ∧ cur.size = n * 5 ∧ ∀ u, u < k → cur[sgn n c u * 5]? = some (.int .i64 (gp l u).slo) ∧ cur[sgn n c u * 5 + 1]? = some (.int .i64 (gp l u).shi) ∧ cur[sgn n c u * 5 + 2]? = some (.int .i64 (gp l u).wlo) ∧ cur[sgn n c u * 5 + 3]? = some (.int .i64 (gp l u).whi) ∧ cur[sgn n c u * 5 + 4]? = some (.int .i64 (gp l u).marks)
theorem PutP.mono {g n c k : Nat} {l : List Prt} {v v' : World} (h : PutP g n c k l v) (hb : Below v.heap.size v v') : PutP g n c k l v' := by
  obtain ⟨cur, h1, h2⟩ := h.row
  exact ⟨cur, (hb.block _ (heap_lt h1)).trans h1, h2⟩
theorem PutP.other {g n c k : Nat} {l : List Prt} {v : World} (h : PutP g n c k l v) {b : Nat} (hne : b ≠ g) (i : Nat) (x : Value) : PutP g n c k l (v.setCell ⟨b, i, none⟩ x) := by
  obtain ⟨cur, h1, h2⟩ := h.row
  exact ⟨cur, (Below.heap_setCell _ _ _ _ (Ne.symm hne)).trans h1, h2⟩
theorem PutP.lt {g n c k : Nat} {l : List Prt} {v : World} (h : PutP g n c k l v) : g < v.heap.size := by
  obtain ⟨cur, h1, h2⟩ := h.row
  exact heap_lt h1
theorem PutP.made {g n c : Nat} {l : List Prt} {v : World} (h : v.heap[g]? = some (.cells (madeCells #[.int .i64 0, .int .i64 0, .int .i64 0, .int .i64 0, .int .i64 0] (n * 5)) 54 (0, 0))) : PutP g n c 0 l v :=
  ⟨_, h, by simp [madeCells], fun u hu => by omega⟩
theorem PutP.put {g n c k : Nat} {l : List Prt} {v : World} (h : PutP g n c k l v) (hk : k < n) : (∃ u, v.cell? ⟨g, sgn n c k * 5, none⟩ = some u) ∧ v.frozen? ⟨g, sgn n c k * 5, none⟩ = false ∧ (∃ u, v.cell? ⟨g, sgn n c k * 5 + 1, none⟩ = some u) ∧ v.frozen? ⟨g, sgn n c k * 5 + 1, none⟩ = false ∧ (∃ u, v.cell? ⟨g, sgn n c k * 5 + 2, none⟩ = some u) ∧ v.frozen? ⟨g, sgn n c k * 5 + 2, none⟩ = false ∧ (∃ u, v.cell? ⟨g, sgn n c k * 5 + 3, none⟩ = some u) ∧ v.frozen? ⟨g, sgn n c k * 5 + 3, none⟩ = false ∧ (∃ u, v.cell? ⟨g, sgn n c k * 5 + 4, none⟩ = some u) ∧ v.frozen? ⟨g, sgn n c k * 5 + 4, none⟩ = false ∧ PutP g n c (k + 1) l (((((v.setCell ⟨g, sgn n c k * 5, none⟩ (.int .i64 (gp l k).slo)).setCell ⟨g, sgn n c k * 5 + 1, none⟩ (.int .i64 (gp l k).shi)).setCell ⟨g, sgn n c k * 5 + 2, none⟩ (.int .i64 (gp l k).wlo)).setCell ⟨g, sgn n c k * 5 + 3, none⟩ (.int .i64 (gp l k).whi)).setCell ⟨g, sgn n c k * 5 + 4, none⟩ (.int .i64 (gp l k).marks)) := by
  obtain ⟨cur, h1, h2, h3⟩ := h.row
  have hs := sgn_lt (c := c) hk
  refine ⟨⟨_, by rw [cell_of_heap h1]; exact Array.getElem?_eq_getElem (by omega)⟩, frozen_of_heap h1, ⟨_, by rw [cell_of_heap h1]; exact Array.getElem?_eq_getElem (by omega)⟩, frozen_of_heap h1, ⟨_, by rw [cell_of_heap h1]; exact Array.getElem?_eq_getElem (by omega)⟩, frozen_of_heap h1, ⟨_, by rw [cell_of_heap h1]; exact Array.getElem?_eq_getElem (by omega)⟩, frozen_of_heap h1, ⟨_, by rw [cell_of_heap h1]; exact Array.getElem?_eq_getElem (by omega)⟩, frozen_of_heap h1, _, heap_setCell_at (heap_setCell_at (heap_setCell_at (heap_setCell_at (heap_setCell_at h1 _) _) _) _) _, by simp [h2], fun u hu => ?_⟩
  by_cases e : u = k
  · subst e
    refine ⟨?_, ?_, ?_, ?_, ?_⟩
    · rw [Array.getElem?_setIfInBounds, if_neg (by omega), Array.getElem?_setIfInBounds, if_neg (by omega), Array.getElem?_setIfInBounds, if_neg (by omega), Array.getElem?_setIfInBounds, if_neg (by omega), Array.getElem?_setIfInBounds, if_pos rfl, if_pos (by first | omega | (simp; omega))]
    · rw [Array.getElem?_setIfInBounds, if_neg (by omega), Array.getElem?_setIfInBounds, if_neg (by omega), Array.getElem?_setIfInBounds, if_neg (by omega), Array.getElem?_setIfInBounds, if_pos rfl, if_pos (by first | omega | (simp; omega))]
    · rw [Array.getElem?_setIfInBounds, if_neg (by omega), Array.getElem?_setIfInBounds, if_neg (by omega), Array.getElem?_setIfInBounds, if_pos rfl, if_pos (by first | omega | (simp; omega))]
    · rw [Array.getElem?_setIfInBounds, if_neg (by omega), Array.getElem?_setIfInBounds, if_pos rfl, if_pos (by first | omega | (simp; omega))]
    · rw [Array.getElem?_setIfInBounds, if_pos rfl, if_pos (by first | omega | (simp; omega))]
  · have hne : sgn n c u ≠ sgn n c k := fun e2 => e (by rw [← tgn_sgn (c := c) (show u < n by omega), ← tgn_sgn (c := c) hk, e2])
    obtain ⟨z0, z1, z2, z3, z4⟩ := h3 u (by omega)
    refine ⟨?_, ?_, ?_, ?_, ?_⟩
    · rw [Array.getElem?_setIfInBounds, if_neg (by omega), Array.getElem?_setIfInBounds, if_neg (by omega), Array.getElem?_setIfInBounds, if_neg (by omega), Array.getElem?_setIfInBounds, if_neg (by omega), Array.getElem?_setIfInBounds, if_neg (by omega)]; exact z0
    · rw [Array.getElem?_setIfInBounds, if_neg (by omega), Array.getElem?_setIfInBounds, if_neg (by omega), Array.getElem?_setIfInBounds, if_neg (by omega), Array.getElem?_setIfInBounds, if_neg (by omega), Array.getElem?_setIfInBounds, if_neg (by omega)]; exact z1
    · rw [Array.getElem?_setIfInBounds, if_neg (by omega), Array.getElem?_setIfInBounds, if_neg (by omega), Array.getElem?_setIfInBounds, if_neg (by omega), Array.getElem?_setIfInBounds, if_neg (by omega), Array.getElem?_setIfInBounds, if_neg (by omega)]; exact z2
    · rw [Array.getElem?_setIfInBounds, if_neg (by omega), Array.getElem?_setIfInBounds, if_neg (by omega), Array.getElem?_setIfInBounds, if_neg (by omega), Array.getElem?_setIfInBounds, if_neg (by omega), Array.getElem?_setIfInBounds, if_neg (by omega)]; exact z3
    · rw [Array.getElem?_setIfInBounds, if_neg (by omega), Array.getElem?_setIfInBounds, if_neg (by omega), Array.getElem?_setIfInBounds, if_neg (by omega), Array.getElem?_setIfInBounds, if_neg (by omega), Array.getElem?_setIfInBounds, if_neg (by omega)]; exact z4
/-- The pile whose cards are numbered otherwise. -/
def Prs.turned (p : Prs) (c : Nat) : Prs := { p with cards := (List.range p.cards.length).map fun u => gp p.cards (tgn p.cards.length c u) }
theorem turned_at {p : Prs} {c u : Nat} (h : u < p.cards.length) : gp (p.turned c).cards u = gp p.cards (tgn p.cards.length c u) := by simp [Prs.turned, gp, h]
theorem turned_len (p : Prs) (c : Nat) : (p.turned c).cards.length = p.cards.length := by simp [Prs.turned]
theorem turned_T (p : Prs) (c : Nat) : TurnP p.cards.length (sgn p.cards.length c) (tgn p.cards.length c) p (p.turned c) :=
  ⟨rfl, turned_len p c, fun v h => sgn_lt h, fun v h => tgn_lt h, fun v h => tgn_sgn h, fun v h => sgn_tgn h, fun v h => by rw [turned_at (sgn_lt h), tgn_sgn h], fun what => rfl⟩
theorem turned_valid {p : Prs} (hv : p.valid = true) (c : Nat) : (p.turned c).valid = true := by
  obtain ⟨h1, h2, h3, h4⟩ := valid_parts hv
  have h5 : (p.turned c).cards.all Prt.ok = true := by
    rw [List.all_eq_true]
    intro y hy
    unfold Prs.turned at hy
    rw [List.mem_map] at hy
    obtain ⟨u, hu, rfl⟩ := hy
    exact h2 _ (tgn_lt (List.mem_range.1 hu))
  unfold Prs.valid
  rw [turned_len, h5, decide_eq_true h1]
  show (true && true && spanOk p.llo p.lhi && spanOk p.olo p.ohi) = true
  rw [h3, h4]; rfl
theorem PutP.full {g c : Nat} {p : Prs} {v : World} (h : PutP g p.cards.length c p.cards.length p.cards v) : IsPrts v (some ⟨g, 0, none⟩) (p.turned c).cards := fun i hi => by
  rw [turned_len] at hi
  obtain ⟨cur, h1, h2, h3⟩ := h.row
  obtain ⟨z0, z1, z2, z3, z4⟩ := h3 (tgn p.cards.length c i) (tgn_lt hi)
  rw [sgn_tgn hi] at z0 z1 z2 z3 z4
  rw [turned_at hi]
  refine ⟨g, 0, rfl, ?_, ?_, ?_, ?_, ?_⟩ <;> rw [cell_of_heap h1, Nat.zero_add]
  · exact z0
  · exact z1
  · exact z2
  · exact z3
  · exact z4
theorem make22p {n : Nat} (hn : n ≤ 16) (w : World) : (Instr.makeSlice 22 (.int .i64 (n : Int)) (.int .i64 (n : Int))).run Try.prog w = .ok (.slice (some ⟨w.heap.size, 0, none⟩) n n) (w.alloc (.cells (madeCells #[.int .i64 0, .int .i64 0, .int .i64 0, .int .i64 0, .int .i64 0] (n * 5)) 54)) := by
  obtain ⟨i0, hi0, hi1, hi2, hi3⟩ := info_partsP infoPr
  have h := run_make (P := Try.prog) (w := w) 22 54 i0 _ Try.underlying22 hi0 hi1 .i64 .i64 (n : Int) (n : Int) (by omega) (by omega) (by rw [hi3]; omega) (by omega)
  simpa [hi2, Value.cells] using h
noncomputable def tup7C : Code := (Try.f12.body.bind (fromReg 7)).getD .skip
set_option maxRecDepth 100000 in
set_option maxHeartbeats 4000000 in
theorem tup7 {p : Prs} {a : Option Addr} {cap b2 b3 bn c : Nat} {w v3 v5 v6 : World} (KR : Hid (∀ v, Below v3.heap.size v3 v → v.heap[b2]? = some (.cells (p.cells a cap) 26 (0, 0)) ∧ IsPrts v a p.cards ∧ v.cell? ⟨b3, 0, none⟩ = some (.int .u8 (c : Int)) ∧ Below w.heap.size w v ∧ v.cell? ⟨bn, 0, none⟩ = some (.int .i64 (p.cards.length : Int))))
    (HL0 : Hid (Below v3.heap.size v3 v6 ∧ v6.heap[v3.heap.size]? = some (.cells #[.slice (some ⟨v5.heap.size, 0, none⟩) p.cards.length p.cards.length, .int .i64 p.llo, .int .i64 p.lhi, .int .i64 p.olo, .int .i64 p.ohi] 26 (0, 0)) ∧ PutP v5.heap.size p.cards.length c 0 p.cards v6)) (HPG : Hid (v3.heap.size ≠ v5.heap.size ∧ v3.heap.size ≤ v5.heap.size)) (HC : Hid (c ≤ 255)) (HN5 : Hid (p.cards.length ≤ 5)) (HV : Hid (p.valid = true))
    {s0 s1 s3 s4 s8 s9 s10 s11 s12 s13 s14 s15 s16 s17 s18 s19 s20 s21 s22 s23 s24 s25 s26 s27 s28 s29 s30 s31 s32 s33 s34 s35 s36 s37 s38 s39 s40 s41 s42 s43 s44 s45 s46 s47 s48 s49 s50 s51 s52 s53 s54 s55 s56 s57 s58 s59 s60 s61 s62 s63 s64 s65 s66 s67 s68 s69 s70 s71 s72 s73 s74 s75 s76 s77 s78 s79 s80 s81 s82 s83 s84 s85 s86 s87 s88 s89 s90 s91 s92 s93 s94 s95 s96 s97 s98 s99 s100 s101 s102 s103 s104 s105 s106 s107 s108 s109 s110 s111 s112 s113 s114 s115 s116 s117 s118 s119 s120 s121 s122 s123 s124 s125 s126 s127 s128 s129 s130 s131 s132 s133 s134 s135 s136 s137 s138 s139 s140 s141 s142 s143 s144 s145 s146 s147 s148 s149 s150 s151 s152 s153 s154 s155 s156 s157 s158 s159 s160 s161 s162 s163 s164 s165 s166 s167 s168 s169 s170 s171 s172 s173 s174 s175 s176 s177 s178 s179 s180 s181 s182 s183 s184 s185 s186 s187 s188 s189 s190 s191 s192 s193 s194 s195 s196 s197 s198 s199 s200 s201 s202 s203 s204 s205 s206 s207 s208 s209 s210 s211 s212 s213 s214 s215 s216 s217 s218 s219 s220 s221 s222 s223 s224 s225 s226 s227 s228 s229 s230 s231 s232 s233 s234 s235 s236 s237 s238 s239 s240 s241 s242 s243 s244 s245 s246 s247 s248 s249 s250 s251 s252 s253 s254 s255 s256 s257 s258 s259 s260 s261 s262 s263 s264 s265 s266 s267 s268 s269 s270 s271 s272 s273 s274 s275 s276 s277 s278 s279 s280 s281 s282 s283 s284 s285 s286 s287 s288 s289 s290 s291 s292 s293 s294 s295 s296 s297 s298 s299 s300 s301 s302 s303 s304 s305 s306 s307 s308 s309 s310 s311 : Value} :
    Code.wp Try.prog tup7C (bodyPost Try.prog Try.f12 fun e w' => e = .returned (.bool true) ∧ Below w.heap.size w w') { tmps := #[s0,s1,.pointer (some ⟨b2, 0, none⟩),s3,s4,.pointer (some ⟨bn, 0, none⟩),.func (.func 46) #[] #[.pointer (some ⟨b3, 0, none⟩), .pointer (some ⟨bn, 0, none⟩)],.pointer (some ⟨v3.heap.size, 0, none⟩),s8,s9,s10,s11,s12,s13,s14,s15,s16,s17,s18,s19,s20,s21,s22,s23,s24,s25,s26,s27,s28,s29,s30,s31,s32,s33,s34,s35,s36,s37,s38,s39,s40,s41,s42,s43,s44,s45,s46,s47,s48,s49,s50,s51,s52,s53,s54,s55,s56,s57,s58,s59,s60,s61,s62,s63,s64,s65,s66,s67,s68,s69,s70,s71,s72,s73,s74,s75,s76,s77,s78,s79,s80,s81,s82,s83,s84,s85,s86,s87,s88,s89,s90,s91,s92,s93,s94,s95,s96,s97,s98,s99,s100,s101,s102,s103,s104,s105,s106,s107,s108,s109,s110,s111,s112,s113,s114,s115,s116,s117,s118,s119,s120,s121,s122,s123,s124,s125,s126,s127,s128,s129,s130,s131,s132,s133,s134,s135,s136,s137,s138,s139,s140,s141,s142,s143,s144,s145,s146,s147,s148,s149,s150,s151,s152,s153,s154,s155,s156,s157,s158,s159,s160,s161,s162,s163,s164,s165,s166,s167,s168,s169,s170,s171,s172,s173,s174,s175,s176,s177,s178,s179,s180,s181,s182,s183,s184,s185,s186,s187,s188,s189,s190,s191,s192,s193,s194,s195,s196,s197,s198,s199,s200,s201,s202,s203,s204,s205,s206,s207,s208,s209,s210,s211,s212,s213,s214,s215,s216,s217,s218,s219,s220,s221,s222,s223,s224,s225,s226,s227,s228,s229,s230,s231,s232,s233,s234,s235,s236,s237,s238,s239,s240,s241,s242,s243,s244,s245,s246,s247,s248,s249,s250,s251,s252,s253,s254,s255,s256,s257,s258,s259,s260,s261,s262,s263,s264,s265,s266,s267,s268,s269,s270,s271,s272,s273,s274,s275,s276,s277,s278,s279,s280,s281,s282,s283,s284,s285,s286,s287,s288,s289,s290,s291,s292,s293,s294,s295,s296,s297,s298,s299,s300,s301,s302,s303,s304,s305,s306,s307,s308,s309,s310,s311],defers := [] } v6 := by
  conv => arg 2; whnf
  refine wp_seq_hid ?_
  intro K7 HK7
  obtain ⟨k0, -, -, -, -⟩ := prs_cells (KR.out v6 HL0.out.1).1
  have h5 : p.cards.length ≤ 5 := HN5.out
  go_wp2_with fail
  clear k0
  go_loopw [70] (fun i wr => ∃ (k : Nat), k ≤ p.cards.length ∧ i = .int .i64 k ∧ Hid (Below v3.heap.size v3 wr ∧ wr.heap[v3.heap.size]? = some (.cells #[.slice (some ⟨v5.heap.size, 0, none⟩) p.cards.length p.cards.length, .int .i64 p.llo, .int .i64 p.lhi, .int .i64 p.olo, .int .i64 p.ohi] 26 (0, 0)) ∧ PutP v5.heap.size p.cards.length c k p.cards wr)) (fun i _ => p.cards.length - (intOf i).toNat)
  case atStart => exact ⟨0, by omega, rfl, HL0.out⟩
  case round =>
    obtain ⟨k, hk, rfl, HI⟩ := hrel
    by_cases hlt : k < p.cards.length
    · have HKR := Lib.hid (KR.out wr HI.out.1)
      obtain ⟨ab, ao, ae, z0, z1, z2, z3, z4⟩ := HKR.out.2.1 k hlt
      subst ae
      refine wp_seq_hid ?_
      intro KL8 HKL8
      go_wp2_with fail
      refine HKL8.out _ _ ?_
      clear HKL8 KL8
      refine wp_seq_hid ?_
      intro KLc HKLc
      go_wp2_with fail
      refine HKLc.out _ _ ?_
      clear HKLc KLc
      refine wp_seq_hid ?_
      intro KLB HKLB
      refine wp_block ?_
      refine wp_seq_hid ?_
      intro K9 HK9
      go_wp2_with fail
      have q9 := World.alloc_heap_new wr (.cells (gp p.cards k).arr 54)
      have hb9 : Below wr.heap.size wr (wr.alloc (.cells (gp p.cards k).arr 54)) := (Below.refl _ _).alloc (Nat.le_refl _) _
      have hg := HI.out.2.2.lt
      have H9 : Hid (Below v3.heap.size v3 (wr.alloc (.cells (gp p.cards k).arr 54)) ∧ (wr.alloc (.cells (gp p.cards k).arr 54)).heap[v3.heap.size]? = some (.cells #[.slice (some ⟨v5.heap.size, 0, none⟩) p.cards.length p.cards.length, .int .i64 p.llo, .int .i64 p.lhi, .int .i64 p.olo, .int .i64 p.ohi] 26 (0, 0)) ∧ PutP v5.heap.size p.cards.length c k p.cards (wr.alloc (.cells (gp p.cards k).arr 54)) ∧ (wr.alloc (.cells (gp p.cards k).arr 54)).heap[wr.heap.size]? = some (.cells (gp p.cards k).arr 54 (0, 0))) :=
        ⟨HI.out.1.trans (hb9.mono HI.out.1.size), (hb9.block _ (heap_lt HI.out.2.1)).trans HI.out.2.1, HI.out.2.2.mono hb9, q9⟩
      have HNE : Hid (v5.heap.size ≠ wr.heap.size) := by show v5.heap.size ≠ wr.heap.size; omega
      clear q9 hb9 hg z0 z1 z2 z3 z4
      revert H9 HNE
      generalize (wr.alloc (.cells (gp p.cards k).arr 54)) = v9
      generalize wr.heap.size = b9
      intro H9 HNE
      refine HK9.out _ _ ?_
      clear HK9 K9
      go_upto_region 10 with fail
      have hmn : sgn p.cards.length c k < p.cards.length := sgn_lt hlt
      refine wpIn_wide.1 (tup10 (b7 := v3.heap.size) (b9 := b9) (b3 := b3) (bn := bn) (k := k) (n := p.cards.length) (m := sgn p.cards.length c k) (g := v5.heap.size) (c := gp p.cards k)
        (R := fun f0 v => (Below v3.heap.size v3 v ∧ v.heap[v3.heap.size]? = some (.cells #[.slice (some ⟨v5.heap.size, 0, none⟩) p.cards.length p.cards.length, .int .i64 p.llo, .int .i64 p.lhi, .int .i64 p.olo, .int .i64 p.ohi] 26 (0, 0)) ∧ PutP v5.heap.size p.cards.length c (k + f0.toNat) p.cards v) ∧ v.heap[b9]? = some (.cells (gp p.cards k).arr 54 (0, 0))) hmn ?h0 ?l1 ?c4 ?l5 ?s7 ?hQ)
      case h0 =>
        have hd : Below v9.heap.size v9 v9.drew := (Below.refl _ v9).drew
        exact ⟨⟨H9.out.1.trans (hd.mono H9.out.1.size), (hd.block _ (heap_lt H9.out.2.1)).trans H9.out.2.1, H9.out.2.2.1.mono hd⟩, (hd.block _ (heap_lt H9.out.2.2.2)).trans H9.out.2.2.2⟩
      case l1 => exact Lib.hid fun f0 v h => by rw [cell_of_heap h.1.2.1]; rfl
      case c4 =>
        exact Lib.hid fun f0 v h => by
          have hq := KR.out v h.1.1
          refine (number46 (v := k) hq.2.2.1 hq.2.2.2.2 HC.out (by omega) (by omega) (by omega)).mono ?_
          rintro e w' ⟨he, hw⟩
          subst hw
          exact ⟨he, h⟩
      case l5 => exact Lib.hid fun f0 v h => ⟨by rw [cell_of_heap h.2]; rfl, by rw [cell_of_heap h.2]; rfl, by rw [cell_of_heap h.2]; rfl, by rw [cell_of_heap h.2]; rfl, by rw [cell_of_heap h.2]; rfl⟩
      case s7 =>
        exact Lib.hid fun v h => by
          obtain ⟨⟨h1, h2, h3⟩, h4⟩ := h
          have h3 : PutP v5.heap.size p.cards.length c k p.cards v := h3
          obtain ⟨c0, f0, c1, f1, c2, f2, c3, f3, c4, f4, hp⟩ := h3.put hlt
          have hn7 : v3.heap.size ≠ v5.heap.size := HPG.out.1
          have hn9 : b9 ≠ v5.heap.size := Ne.symm HNE.out
          have hle := HPG.out.2
          refine ⟨c0, f0, c1, f1, c2, f2, c3, f3, c4, f4, ⟨?_, ?_, hp⟩, ?_⟩
          · exact ((((h1.setCell (p := ⟨v5.heap.size, _, none⟩) hle _).setCell (p := ⟨v5.heap.size, _, none⟩) hle _).setCell (p := ⟨v5.heap.size, _, none⟩) hle _).setCell (p := ⟨v5.heap.size, _, none⟩) hle _).setCell (p := ⟨v5.heap.size, _, none⟩) hle _
          · exact (Below.heap_setCell _ _ _ _ hn7).trans ((Below.heap_setCell _ _ _ _ hn7).trans ((Below.heap_setCell _ _ _ _ hn7).trans ((Below.heap_setCell _ _ _ _ hn7).trans ((Below.heap_setCell _ _ _ _ hn7).trans h2))))
          · exact (Below.heap_setCell _ _ _ _ hn9).trans ((Below.heap_setCell _ _ _ _ hn9).trans ((Below.heap_setCell _ _ _ _ hn9).trans ((Below.heap_setCell _ _ _ _ hn9).trans ((Below.heap_setCell _ _ _ _ hn9).trans h4))))
      rintro v10 ⟨hL, -⟩
      have HEND := Lib.hid hL
      clear hL
      go_wp2_with fail
      refine HKLB.out _ _ ?_
      go_wp2_with fail
      go_roundw
      case rel => exact ⟨k + 1, by omega, by go_num, HEND.out⟩
      case measure => simp [intOf]; omega
    · have hke : k = p.cards.length := by omega
      have HJ := HI.out
      rw [hke] at HJ
      have hT := KR.out wr HJ.1
      have HCT : Hid (CtW p (p.turned c) a (some ⟨v5.heap.size, 0, none⟩) cap p.cards.length b2 b3 bn v3.heap.size c w wr) := by
        refine ⟨hT.2.2.2.1, hT.1, hT.2.1, ?_, HJ.2.2.full, hT.2.2.1, hT.2.2.2.2⟩
        have e : (p.turned c).cells (some ⟨v5.heap.size, 0, none⟩) p.cards.length = #[.slice (some ⟨v5.heap.size, 0, none⟩) p.cards.length p.cards.length, .int .i64 p.llo, .int .i64 p.lhi, .int .i64 p.olo, .int .i64 p.ohi] := by
          show #[Value.slice _ (p.turned c).cards.length _, _, _, _, _] = _
          rw [turned_len]; rfl
        rw [e]
        exact HJ.2.1
      clear HJ hT
      subst hke
      go_wp2_with fail
      refine HK7.out _ _ ?_
      exact tup12 HCT.out HV.out (turned_valid HV.out c) (turned_T p c) HC.out
set_option maxRecDepth 100000 in
set_option maxHeartbeats 4000000 in
theorem copyTurned_any {p : Prs} {a : Option Addr} {cap : Nat} {w : World} (ha : IsPrts w a p.cards) {turn : Int} (htn : 0 ≤ turn ∧ turn ≤ 255) :
    Calls Try.prog 12 #[p.v a cap, .int .u8 turn] w fun e w' => e = .returned (.bool true) ∧ Below w.heap.size w w' := by
  obtain ⟨c, rfl⟩ : ∃ c : Nat, turn = (c : Int) := ⟨turn.toNat, by omega⟩
  have HC : Hid (c ≤ 255) := by show c ≤ 255; omega
  clear htn
  have e1 : (w.alloc (.cells (p.cells a cap) 26)).heap.size = w.heap.size + 1 := by simp
  have hb0 : Below w.heap.size w ((w.alloc (.cells (p.cells a cap) 26)).alloc (.cells #[.int .u8 (c : Int)] 5)) := ((Below.refl _ w).alloc (Nat.le_refl _) _).alloc (by simp) _
  have q5 : ((w.alloc (.cells (p.cells a cap) 26)).alloc (.cells #[.int .u8 (c : Int)] 5)).heap[w.heap.size + 1]? = some (.cells #[.int .u8 (c : Int)] 5 (0, 0)) := by
    have := World.alloc_heap_new (w.alloc (.cells (p.cells a cap) 26)) (.cells #[.int .u8 (c : Int)] 5)
    rw [e1] at this
    exact this
  have q0 : ((w.alloc (.cells (p.cells a cap) 26)).alloc (.cells #[.int .u8 (c : Int)] 5)).heap[w.heap.size]? = some (.cells (p.cells a cap) 26 (0, 0)) := by
    have h1 := World.alloc_heap_new w (.cells (p.cells a cap) 26)
    have h2 : Below (w.alloc (.cells (p.cells a cap) 26)).heap.size (w.alloc (.cells (p.cells a cap) 26)) ((w.alloc (.cells (p.cells a cap) 26)).alloc (.cells #[.int .u8 (c : Int)] 5)) := (Below.refl _ _).alloc (Nat.le_refl _) _
    exact (h2.block _ (heap_lt h1)).trans h1
  have HW := Lib.hid (And.intro hb0 (And.intro q0 (And.intro q5 (ha.mono hb0))))
  have hmf : ∀ (fn : Fn) (first cap : Array Value) (w : World), (Instr.makeFunc fn first cap).run Try.prog w = .ok (.func fn first cap) w := fun _ _ _ _ => rfl
  clear hb0 q0 q5 ha e1
  go_enter Try.func12, Try.ntmps12
  refine wp_seq_hid ?_
  intro K0 HK0
  go_wp2_with fail
  refine HK0.out _ _ ?_
  refine wp_seq_hid ?_
  intro K1 HK1
  revert HW
  generalize (w.alloc (.cells (p.cells a cap) 26)).alloc (.cells #[.int .u8 (c : Int)] 5) = w1
  intro HW
  have KP : Hid (∀ v, Below w1.heap.size w1 v → v.heap[w.heap.size]? = some (.cells (p.cells a cap) 26 (0, 0)) ∧ IsPrts v a p.cards ∧ v.cell? ⟨w.heap.size + 1, 0, none⟩ = some (.int .u8 (c : Int)) ∧ Below w.heap.size w v) := fun v h => ⟨(h.block _ (heap_lt HW.out.2.1)).trans HW.out.2.1, HW.out.2.2.2.mono h, by rw [cell_of_heap ((h.block _ (heap_lt HW.out.2.2.1)).trans HW.out.2.2.1)]; rfl, HW.out.1.trans (h.mono HW.out.1.size)⟩
  obtain ⟨k0, k1, k2, k3, k4⟩ := prs_cells (KP.out w1 (Below.refl w1.heap.size w1)).1
  go_wp2_with fail
  refine (great5 (KP.out w1 (Below.refl w1.heap.size w1)).2.1).mono ?_
  rintro e d1 ⟨rfl, hb⟩
  have HP1 := Lib.hid (Below.trans (Below.refl w1.heap.size w1) (hb.mono (Below.size (Below.refl w1.heap.size w1))))
  clear hb k0 k1 k2 k3 k4
  by_cases hg : 16 < p.cards.length
  case pos =>
    rw [decide_eq_true hg]
    go_wp2_with fail
    refine (alive_any _).mono ?_
    rintro e c1 ⟨rfl, hb⟩
    have HX := Lib.hid (Below.trans HP1.out (hb.mono (Below.size HP1.out)))
    clear hb
    go_wp2_with fail
    go_ret
    exact ⟨rfl, (KP.out _ HX.out).2.2.2⟩
  rw [decide_eq_false hg]
  have HN : Hid (p.cards.length ≤ 16) := by show p.cards.length ≤ 16; omega
  clear hg
  obtain ⟨k0, k1, k2, k3, k4⟩ := prs_cells (KP.out d1 HP1.out).1
  go_wp2_with fail
  refine (prints_any (KP.out d1 HP1.out).2.1 HN.out).mono ?_
  rintro e d2 ⟨rfl, hb⟩
  have HP2 := Lib.hid (Below.trans HP1.out (hb.mono (Below.size HP1.out)))
  clear hb k0 k1 k2 k3 k4
  cases hv : p.valid
  case false =>
    go_wp2_with fail
    refine (alive_any _).mono ?_
    rintro e c1 ⟨rfl, hb⟩
    have HX := Lib.hid (Below.trans HP2.out (hb.mono (Below.size HP2.out)))
    clear hb
    go_wp2_with fail
    go_ret
    exact ⟨rfl, (KP.out _ HX.out).2.2.2⟩
  have HV := Lib.hid hv
  clear hv
  have HN5 : Hid (p.cards.length ≤ 5) := (valid_parts HV.out).1
  go_wp2_with fail
  refine HK1.out _ _ ?_
  clear HK1 K1
  clear HK0 K0
  obtain ⟨k0, k1, k2, k3, k4⟩ := prs_cells (KP.out d2 HP2.out).1
  refine wp_seq_hid ?_
  intro K3 HK3
  go_wp2_with fail
  have q3 := World.alloc_heap_new d2 (.cells #[.int .i64 (p.cards.length : Int)] 3)
  have hb3 : Below d2.heap.size d2 (d2.alloc (.cells #[.int .i64 (p.cards.length : Int)] 3)) := (Below.refl _ _).alloc (Nat.le_refl _) _
  have KQ : Hid (∀ v, Below d2.heap.size d2 v → v.heap[w.heap.size]? = some (.cells (p.cells a cap) 26 (0, 0)) ∧ IsPrts v a p.cards ∧ v.cell? ⟨w.heap.size + 1, 0, none⟩ = some (.int .u8 (c : Int)) ∧ Below w.heap.size w v) := fun v h => KP.out v (Below.trans HP2.out (h.mono (Below.size HP2.out)))
  refine HK3.out _ _ ?_
  clear HK3 K3 k0 k1 k2 k3 k4
  have H3 := Lib.hid (And.intro hb3 q3)
  clear hb3 q3
  revert H3
  generalize (d2.alloc (.cells #[.int .i64 (p.cards.length : Int)] 3)) = v3
  intro H3
  have KR : Hid (∀ v, Below v3.heap.size v3 v → v.heap[w.heap.size]? = some (.cells (p.cells a cap) 26 (0, 0)) ∧ IsPrts v a p.cards ∧ v.cell? ⟨w.heap.size + 1, 0, none⟩ = some (.int .u8 (c : Int)) ∧ Below w.heap.size w v ∧ v.cell? ⟨d2.heap.size, 0, none⟩ = some (.int .i64 (p.cards.length : Int))) := fun v h =>
    have hq := KQ.out v (H3.out.1.trans (h.mono H3.out.1.size))
    ⟨hq.1, hq.2.1, hq.2.2.1, hq.2.2.2, by rw [cell_of_heap ((h.block _ (heap_lt H3.out.2)).trans H3.out.2)]; rfl⟩
  clear KQ
  refine wp_seq_hid ?_
  intro K4 HK4
  go_wp2_with fail
  refine HK4.out _ _ ?_
  clear HK4 K4
  refine wp_seq_hid ?_
  intro K5 HK5
  obtain ⟨k0, k1, k2, k3, k4⟩ := prs_cells (KR.out v3 (Below.refl _ _)).1
  go_wp2_with fail
  have q7 := World.alloc_heap_new v3 (.cells (p.cells a cap) 26)
  have hb7 : Below v3.heap.size v3 (v3.alloc (.cells (p.cells a cap) 26)) := (Below.refl _ _).alloc (Nat.le_refl _) _
  refine HK5.out _ _ ?_
  clear HK5 K5 k0 k1 k2 k3 k4
  have H5 := Lib.hid (And.intro hb7 q7)
  clear hb7 q7
  revert H5
  generalize (v3.alloc (.cells (p.cells a cap) 26)) = v5
  intro H5
  refine wp_seq_hid ?_
  intro K6 HK6
  have hn3 := (KR.out v5 H5.out.1).2.2.2.2
  have HMK := make22p HN.out
  have hbm : Below v5.heap.size v5 (v5.alloc (.cells (madeCells #[.int .i64 0, .int .i64 0, .int .i64 0, .int .i64 0, .int .i64 0] (p.cards.length * 5)) 54)) := (Below.refl _ _).alloc (Nat.le_refl _) _
  have qm := World.alloc_heap_new v5 (.cells (madeCells #[.int .i64 0, .int .i64 0, .int .i64 0, .int .i64 0, .int .i64 0] (p.cards.length * 5)) 54)
  have q7 := (hbm.block _ (heap_lt H5.out.2)).trans H5.out.2
  have f7 : (v5.alloc (.cells (madeCells #[.int .i64 0, .int .i64 0, .int .i64 0, .int .i64 0, .int .i64 0] (p.cards.length * 5)) 54)).frozen? ⟨v3.heap.size, 0, none⟩ = false := frozen_of_heap q7
  have y7 : (v5.alloc (.cells (madeCells #[.int .i64 0, .int .i64 0, .int .i64 0, .int .i64 0, .int .i64 0] (p.cards.length * 5)) 54)).cell? ⟨v3.heap.size, 0, none⟩ = some (.slice a p.cards.length cap) := by rw [cell_of_heap q7]; rfl
  have hl := heap_lt H5.out.2
  have hs := H5.out.1.size
  have HPG : Hid (v3.heap.size ≠ v5.heap.size ∧ v3.heap.size ≤ v5.heap.size) := ⟨by omega, hs⟩
  have HL0 : Hid (Below v3.heap.size v3 ((v5.alloc (.cells (madeCells #[.int .i64 0, .int .i64 0, .int .i64 0, .int .i64 0, .int .i64 0] (p.cards.length * 5)) 54)).setCell ⟨v3.heap.size, 0, none⟩ (.slice (some ⟨v5.heap.size, 0, none⟩) p.cards.length p.cards.length)) ∧ ((v5.alloc (.cells (madeCells #[.int .i64 0, .int .i64 0, .int .i64 0, .int .i64 0, .int .i64 0] (p.cards.length * 5)) 54)).setCell ⟨v3.heap.size, 0, none⟩ (.slice (some ⟨v5.heap.size, 0, none⟩) p.cards.length p.cards.length)).heap[v3.heap.size]? = some (.cells #[.slice (some ⟨v5.heap.size, 0, none⟩) p.cards.length p.cards.length, .int .i64 p.llo, .int .i64 p.lhi, .int .i64 p.olo, .int .i64 p.ohi] 26 (0, 0)) ∧ PutP v5.heap.size p.cards.length c 0 p.cards ((v5.alloc (.cells (madeCells #[.int .i64 0, .int .i64 0, .int .i64 0, .int .i64 0, .int .i64 0] (p.cards.length * 5)) 54)).setCell ⟨v3.heap.size, 0, none⟩ (.slice (some ⟨v5.heap.size, 0, none⟩) p.cards.length p.cards.length))) :=
    ⟨(H5.out.1.trans (hbm.mono H5.out.1.size)).setCell (p := ⟨v3.heap.size, _, none⟩) (Nat.le_refl _) _, heap_setCell_at q7 _, (PutP.made qm).other HPG.out.1 _ _⟩
  clear hbm qm q7 hl hs
  go_wp2_with fail
  revert HL0
  generalize ((v5.alloc (.cells (madeCells #[.int .i64 0, .int .i64 0, .int .i64 0, .int .i64 0, .int .i64 0] (p.cards.length * 5)) 54)).setCell ⟨v3.heap.size, 0, none⟩ (.slice (some ⟨v5.heap.size, 0, none⟩) p.cards.length p.cards.length)) = v6
  intro HL0
  clear y7 f7 hn3 HMK
  refine HK6.out _ _ ?_
  clear HK6 K6
  exact tup7 (v5 := v5) KR HL0 HPG HC HN5 HV
end Go.Proofs.Ytnfhlbmapfoifaa

