/- The law LendTurned: the rest, behind the copies: loans and homes compared. The law LendTurned: the rest, behind the copies: cards and slots. The law LendTurned: the rest, behind the copies: twelve calls; persons. -/
import Derived.Test.YtlhobddaojdnoaaL9
import Derived.Test.YtlhobddaojdnoaaR9
import Derived.Test.YtlhobddaojdnoaaR4
import Derived.Test.YtlhobddaojdnoaaW25
import Derived.Test.YtlhobddaojdnoaaW21
import Derived.Deep.DeepCutAuto
import Derived.Deep.CutBlock
namespace Go.Proofs.Ytlhobddaojdnoaa
open Go.RowKit
set_option linter.unusedVariables false

def leftReg : Code → Option Nat
  | .region id _ _ => some id
  | .seq a _ => leftReg a
  | _ => none
def fromRegion (n : Nat) : Code → Option Code
  | .seq a b => if leftReg a = some n then some (.seq a b) else match fromRegion n a with
    | some c => some c
    | none => fromRegion n b
  | .block _ c => fromRegion n c
  | .scope c => fromRegion n c
  | .loop c => fromRegion n c
  | .cond _ a b => match fromRegion n a with
    | some c => some c
    | none => fromRegion n b
  | _ => none
noncomputable def restHC : Code := (Try.f11.body.bind (fromRegion 58)).getD .skip
theorem eq_gi45 {l m : List Int} (hl : l.length = m.length) (h : ∀ j, j < l.length → gi l j = gi m j) : l = m := by
  refine List.ext_getElem hl (fun i h1 h2 => ?_)
  have := h i h1
  simpa [gi, h1, h2] using this
set_option maxRecDepth 100000 in
set_option maxHeartbeats 1000000 in
theorem ints45_any {l m : List Int} {a b : Option Addr} {ca cb : Nat} {w : World} (ha : IsInts w a l) (hb : IsInts w b m) (hl : l.length = m.length) (h5 : l.length ≤ 30) :
    Calls Try.prog 45 #[.slice a l.length ca, .slice b m.length cb] w fun e w' => e = .returned (.bool (decide (l = m))) ∧ Below w.heap.size w w' := by
  rw [← hl]
  have HL := Lib.hid (And.intro hl (And.intro ha hb))
  have hlb : ((l.length : Int) == (l.length : Int)) = true := by simp
  clear ha hb hl
  go_enter Try.func45, Try.ntmps45
  go_wp2_with fail
  go_loopw [5] (fun i wr => ∃ k : Nat, k ≤ l.length ∧ i = .int .i64 k ∧ Hid (∀ j, j < k → gi l j = gi m j) ∧ Below w.heap.size w wr) (fun i _ => l.length - (intOf i).toNat)
  case atStart => exact ⟨0, by omega, rfl, fun j hj => by omega, Below.refl _ _⟩
  case round =>
    obtain ⟨k, hk, rfl, HK, hbr⟩ := hrel
    by_cases hlt : k < l.length
    · obtain ⟨hlm, ha, hb⟩ := HL.out
      obtain ⟨b1, o1, rfl, q1⟩ := ha.mono hbr k hlt
      obtain ⟨b2, o2, rfl, q2⟩ := hb.mono hbr k (by omega)
      have x0 := fun y : Aft wr.heap.size wr => cell_stays y.h q1
      have x1 := fun y : Aft wr.heap.size wr => cell_stays y.h q2
      clear ha hb hlm
      by_cases he : gi l k = gi m k
      · have h1 : (gi l k == gi m k) = true := by simp [he]
        have h2 : (gi l k != gi m k) = false := by simp [he]
        have HE := Lib.hid he
        clear he
        go_wp2_with fail
        refine wp_region_aft mixed (by kernel_rfl) ?_
        repeat (go_big_quiet_step (fail))
        refine wpQuiet_nil ?_
        rintro _ ⟨y, rfl⟩
        go_wp2_with fail
        go_roundw
        case rel => exact ⟨k + 1, by omega, by go_num, fun j hj => by
          by_cases e : j = k
          · subst e; exact HE.out
          · exact HK.out j (by omega), hbr.trans (y.h.mono hbr.size)⟩
        case measure => simp [intOf]; omega
      · have h1 : (gi l k == gi m k) = false := by simpa using he
        have h2 : (gi l k != gi m k) = true := by simpa using he
        have HE := Lib.hid he
        clear he
        go_wp2_with fail
        refine wp_region_aft mixed (by kernel_rfl) ?_
        repeat (go_big_quiet_step (fail))
        refine wpQuiet_nil ?_
        rintro _ ⟨y, rfl⟩
        go_wp2_with fail
        go_ret
        refine ⟨ret_bool ?_, bst hbr y.h⟩
        symm
        rw [decide_eq_false_iff_not]
        intro e
        exact HE.out (by rw [e])
    · obtain rfl : k = l.length := by omega
      go_wp2_with fail
      go_ret
      refine ⟨ret_bool ?_, hbr⟩
      symm
      rw [decide_eq_true_eq]
      exact eq_gi45 HL.out.1 HK.out


set_option maxRecDepth 100000 in
set_option maxHeartbeats 8000000 in
theorem restH {c : Cab} {w w8 wi : World} {ah : Option Addr} {ch : Nat} {al : Option Addr} {cl : Nat} {a b d B4 pa pb pd pn X : Nat} {hx lx a1 a2 : Option Addr} {hxc lc c1 c2 : Nat} (hv : c.valid = true) (ha : a ≤ 255) (hb : b ≤ 255) (hd : d ≤ 255) (hg : Given w8 c ah ch al cl)
    (hgX : Given w8 (turned c a b d) hx hxc lx lc) (hcells : w8.cell? ⟨B4, 0, none⟩ = some (.int .i64 c.slots) ∧ w8.cell? ⟨B4, 1, none⟩ = some (.slice ah c.homes.length ch) ∧ w8.cell? ⟨B4, 2, none⟩ = some (.int .i64 c.wrong) ∧ w8.cell? ⟨B4, 3, none⟩ = some (.slice al c.loans.length cl) ∧ w8.cell? ⟨pa, 0, none⟩ = some (.int .u8 a) ∧ w8.cell? ⟨pb, 0, none⟩ = some (.int .u8 b) ∧ w8.cell? ⟨pd, 0, none⟩ = some (.int .u8 d) ∧ w8.cell? ⟨pn, 0, none⟩ = some (.int .i64 c.homes.length) ∧ w8.cell? ⟨X, 0, none⟩ = some (.int .i64 c.slots) ∧ w8.cell? ⟨X, 1, none⟩ = some (.slice hx c.homes.length hxc) ∧ w8.cell? ⟨X, 2, none⟩ = some (.int .i64 c.wrong) ∧ w8.cell? ⟨X, 3, none⟩ = some (.slice lx c.loans.length lc)) (hi1 : IsInts w8 a1 c.homes) (hl2 : IsLoans w8 a2 c.loans) (hB : Below w.heap.size w w8) (hbc : Below w8.heap.size w8 wi)
    {s0 s1 s2 s3 s5 s6 s7 s8 s14 s15 s16 s17 s18 s21 s22 s23 s24 s25 s26 s27 s28 s29 s30 s31 s32 s33 s34 s35 s36 s37 s38 s39 s40 s41 s42 s43 s44 s45 s46 s47 s48 s49 s50 s51 s52 s53 s54 s55 s56 s57 s58 s59 s60 s61 s62 s63 s64 s65 s66 s67 s68 s69 s70 s71 s72 s73 s74 s75 s76 s77 s78 s79 s80 s81 s82 s83 s84 s85 s86 s87 s88 s89 s90 s91 s92 s93 s94 s95 s96 s97 s98 s99 s100 s101 s102 s103 s104 s105 s106 s107 s108 s109 s110 s111 s112 s113 s114 s115 s116 s117 s118 s119 s120 s121 s122 s123 s124 s125 s126 s127 s128 s129 s130 s131 s132 s133 s134 s135 s136 s137 s138 s139 s140 s141 s142 s143 s144 s145 s146 s147 s148 s149 s150 s151 s152 s153 s154 s155 s156 s157 s158 s159 s160 s161 s162 s163 s164 s165 s166 s167 s168 s169 s170 s171 s172 s173 s174 s175 s176 s177 s178 s179 s180 s181 s182 s183 s184 s185 s186 s187 s188 s189 s190 s191 s192 s193 s194 s195 s196 s197 s198 s199 s200 s201 s202 s203 s204 s205 s206 s207 s208 s209 s210 s211 s212 s213 s214 s215 s216 s217 s218 s219 s220 s221 s222 s223 s224 s225 s226 s227 s228 s229 s230 s231 s232 s233 s234 s235 s236 s237 s238 s239 s240 s241 s242 s243 s244 s245 s246 s247 s248 s249 s250 s251 s252 s253 s254 s255 s256 s257 s258 s259 s260 s261 s262 s263 s264 s265 s266 s267 s268 s269 s270 s271 s272 s273 s274 s275 s276 s277 s278 s279 s280 s281 s282 s283 s284 s285 s286 s287 s288 s289 s290 s291 s292 s293 s294 s295 s296 s297 s298 s299 s300 s301 s302 s303 s304 s305 s306 s307 s308 s309 s310 s311 s312 s313 s314 s315 s316 s317 s318 s319 s320 s321 s322 s323 s324 s325 s326 s327 s328 s329 s330 s331 s332 s333 s334 s335 s336 s337 s338 s339 s340 s341 s342 s343 s344 s345 s346 s347 s348 s349 s350 s351 s352 s353 s354 s355 s356 s357 s358 s359 s360 : Value} :
    Code.wp Try.prog restHC (bodyPost Try.prog Try.f11 (fun e w' => e = .returned (.bool true) ∧ Below w.heap.size w w')) { tmps := #[s0, s1, s2, s3, .pointer (some ⟨B4, 0, none⟩), s5, s6, s7, s8, .pointer (some ⟨pn, 0, none⟩), .func (.func 42) #[] #[.pointer (some ⟨pa, 0, none⟩), .pointer (some ⟨pn, 0, none⟩)], .func (.func 43) #[] #[.pointer (some ⟨pb, 0, none⟩), .pointer (some ⟨B4, 0, none⟩)], .func (.func 44) #[] #[.pointer (some ⟨pd, 0, none⟩)], .pointer (some ⟨X, 0, none⟩), s14, s15, s16, s17, s18, .slice a1 c.homes.length c1, .slice a2 c.loans.length c2, s21, s22, s23, s24, s25, s26, s27, s28, s29, s30, s31, s32, s33, s34, s35, s36, s37, s38, s39, s40, s41, s42, s43, s44, s45, s46, s47, s48, s49, s50, s51, s52, s53, s54, s55, s56, s57, s58, s59, s60, s61, s62, s63, s64, s65, s66, s67, s68, s69, s70, s71, s72, s73, s74, s75, s76, s77, s78, s79, s80, s81, s82, s83, s84, s85, s86, s87, s88, s89, s90, s91, s92, s93, s94, s95, s96, s97, s98, s99, s100, s101, s102, s103, s104, s105, s106, s107, s108, s109, s110, s111, s112, s113, s114, s115, s116, s117, s118, s119, s120, s121, s122, s123, s124, s125, s126, s127, s128, s129, s130, s131, s132, s133, s134, s135, s136, s137, s138, s139, s140, s141, s142, s143, s144, s145, s146, s147, s148, s149, s150, s151, s152, s153, s154, s155, s156, s157, s158, s159, s160, s161, s162, s163, s164, s165, s166, s167, s168, s169, s170, s171, s172, s173, s174, s175, s176, s177, s178, s179, s180, s181, s182, s183, s184, s185, s186, s187, s188, s189, s190, s191, s192, s193, s194, s195, s196, s197, s198, s199, s200, s201, s202, s203, s204, s205, s206, s207, s208, s209, s210, s211, s212, s213, s214, s215, s216, s217, s218, s219, s220, s221, s222, s223, s224, s225, s226, s227, s228, s229, s230, s231, s232, s233, s234, s235, s236, s237, s238, s239, s240, s241, s242, s243, s244, s245, s246, s247, s248, s249, s250, s251, s252, s253, s254, s255, s256, s257, s258, s259, s260, s261, s262, s263, s264, s265, s266, s267, s268, s269, s270, s271, s272, s273, s274, s275, s276, s277, s278, s279, s280, s281, s282, s283, s284, s285, s286, s287, s288, s289, s290, s291, s292, s293, s294, s295, s296, s297, s298, s299, s300, s301, s302, s303, s304, s305, s306, s307, s308, s309, s310, s311, s312, s313, s314, s315, s316, s317, s318, s319, s320, s321, s322, s323, s324, s325, s326, s327, s328, s329, s330, s331, s332, s333, s334, s335, s336, s337, s338, s339, s340, s341, s342, s343, s344, s345, s346, s347, s348, s349, s350, s351, s352, s353, s354, s355, s356, s357, s358, s359, s360], defers := [] } wi := by
  have t := turned_turn hv a b d
  have hxv : (turned c a b d).v hx hxc lx lc = (.agg #[.int .i64 c.slots, .slice hx c.homes.length hxc, .int .i64 c.wrong, .slice lx c.loans.length lc]) := by
    show (Value.agg #[.int .i64 (turned c a b d).slots, .slice hx (turned c a b d).homes.length hxc, .int .i64 (turned c a b d).wrong, .slice lx (turned c a b d).loans.length lc]) = _
    rw [t.n, t.slots, t.wrong, t.len]
  have HCELL : Hid (∀ W', Below w8.heap.size w8 W' → W'.cell? ⟨B4, 0, none⟩ = some (.int .i64 c.slots) ∧ W'.cell? ⟨B4, 1, none⟩ = some (.slice ah c.homes.length ch) ∧ W'.cell? ⟨B4, 2, none⟩ = some (.int .i64 c.wrong) ∧ W'.cell? ⟨B4, 3, none⟩ = some (.slice al c.loans.length cl) ∧ W'.cell? ⟨pa, 0, none⟩ = some (.int .u8 a) ∧ W'.cell? ⟨pb, 0, none⟩ = some (.int .u8 b) ∧ W'.cell? ⟨pd, 0, none⟩ = some (.int .u8 d) ∧ W'.cell? ⟨pn, 0, none⟩ = some (.int .i64 c.homes.length) ∧ W'.cell? ⟨X, 0, none⟩ = some (.int .i64 c.slots) ∧ W'.cell? ⟨X, 1, none⟩ = some (.slice hx c.homes.length hxc) ∧ W'.cell? ⟨X, 2, none⟩ = some (.int .i64 c.wrong) ∧ W'.cell? ⟨X, 3, none⟩ = some (.slice lx c.loans.length lc)) := fun W' h => by
    obtain ⟨f0, f1, f2, f3, f4, f5, f6, f7, x0, x1, x2, x3⟩ := hcells
    exact ⟨cell_stays h f0, cell_stays h f1, cell_stays h f2, cell_stays h f3, cell_stays h f4, cell_stays h f5, cell_stays h f6, cell_stays h f7, cell_stays h x0, cell_stays h x1, cell_stays h x2, cell_stays h x3⟩
  have HV := Lib.hid hv
  have HB8 := Lib.hid hB
  have HI := Lib.hid (And.intro hi1 (And.intro hl2 (And.intro hg hgX)))
  have HXV := Lib.hid hxv
  have hnh := valid_homes hv
  have hnl := valid_loans hv
  obtain ⟨hs1, hs2⟩ := valid_slots hv
  clear t hxv hv hB hi1 hl2 hg hgX hcells
  conv => arg 2; whnf
  go_wp2_with fail
  go_loopw [340] (fun i wr => ∃ k : Nat, k ≤ c.loans.length ∧ i = .int .i64 k ∧ Below w8.heap.size w8 wr) (fun i _ => c.loans.length - (intOf i).toNat)
  case atStart => exact ⟨0, by omega, rfl, hbc⟩
  case round =>
    obtain ⟨k, hk, rfl, hbr⟩ := hrel
    by_cases hlt : k < c.loans.length
    · obtain ⟨hi1, hl2, hg, _⟩ := HI.out
      obtain ⟨g2, o2, rfl, q0, q1, q2, q3⟩ := hl2.mono hbr k hlt
      obtain ⟨g3, o3, rfl, r0, r1, r2, r3⟩ := hg.li.mono hbr k hlt
      obtain ⟨f0, f1, f2, f3, f4, f5, f6, f7, x0, x1, x2, x3⟩ := HCELL.out wr hbr
      have yq0 := fun y : Aft wr.heap.size wr => cell_stays y.h q0
      have yq1 := fun y : Aft wr.heap.size wr => cell_stays y.h q1
      have yq2 := fun y : Aft wr.heap.size wr => cell_stays y.h q2
      have yq3 := fun y : Aft wr.heap.size wr => cell_stays y.h q3
      have yr0 := fun y : Aft wr.heap.size wr => cell_stays y.h r0
      have yr1 := fun y : Aft wr.heap.size wr => cell_stays y.h r1
      have yr2 := fun y : Aft wr.heap.size wr => cell_stays y.h r2
      have yr3 := fun y : Aft wr.heap.size wr => cell_stays y.h r3
      have yf3 := fun y : Aft wr.heap.size wr => cell_stays y.h f3
      clear f0 f1 f2 f3 f4 f5 f6 f7 x0 x1 x2 x3 q0 q1 q2 q3 r0 r1 r2 r3 hi1 hl2 hg
      go_wp2_with fail
      refine wp_region_aft mixed (by kernel_rfl) ?_
      repeat (go_big_quiet_step (fail))
      refine wpQuiet_nil ?_
      rintro _ ⟨y, rfl⟩
      clear yq0 yq1 yq2 yq3 yr0 yr1 yr2 yr3 yf3
      go_wp2_with fail
      go_roundw
      case rel => exact ⟨k + 1, by omega, by go_num, hbr.trans (y.h.mono hbr.size)⟩
      case measure => simp [intOf]; omega
    · obtain rfl : k = c.loans.length := by omega
      obtain ⟨f0, f1, f2, f3, f4, f5, f6, f7, x0, x1, x2, x3⟩ := HCELL.out wr hbr
      have HBr := Lib.hid hbr
      have HIN := fun ca cb => ints45_any (ca := ca) (cb := cb) (HI.out.1.mono hbr) (HI.out.2.2.1.hi.mono hbr) rfl (by omega)
      rw [decide_eq_true rfl] at HIN
      have HIH := Lib.hid HIN
      clear HIN hbr f0 f2 f3 f4 f5 f6 f7 x0 x1 x2 x3
      go_wp2_with fail
      refine (HIH.out _ _).mono ?_
      rintro e w40 ⟨rfl, hb40⟩
      go_wp2_with fail
      refine (alive_any _).mono ?_
      rintro e w41 ⟨rfl, hb41⟩
      go_wp2_with fail
      go_ret
      exact ⟨rfl, bst HB8.out (HBr.out.trans ((bst hb40 hb41).mono HBr.out.size))⟩
end Go.Proofs.Ytlhobddaojdnoaa

namespace Go.Proofs.Ytlhobddaojdnoaa
open Go.RowKit
set_option linter.unusedVariables false

noncomputable def restGC : Code := (Try.f11.body.bind (fromRegion 44)).getD .skip
theorem bit_val (n k : Nat) (hn : n < 2 ^ 62) : bits .and .i64 ((n : Int) / 2 ^ k) 1 = if n.testBit k = true then 1 else 0 := by
  have h1 : ((n : Int) / 2 ^ k) = ((n / 2 ^ k : Nat) : Int) := by simp
  have h2 : n / 2 ^ k < 2 ^ 62 := Nat.lt_of_le_of_lt (Nat.div_le_self _ _) hn
  rw [h1]
  have := and_nat (n / 2 ^ k) 1 h2 (by decide)
  rw [show ((1 : Nat) : Int) = 1 from rfl] at this
  rw [this, Nat.and_one_is_mod, Nat.testBit_eq_decide_div_mod_eq]
  by_cases h : n / 2 ^ k % 2 = 1
  · simp [h]
  · have : n / 2 ^ k % 2 = 0 := by omega
    simp [this]
theorem bit_pair (n m k j : Nat) (hn : n < 2 ^ 62) (hm : m < 2 ^ 62) (h : n.testBit k = m.testBit j) : ∃ X : Int, bits .and .i64 ((n : Int) / 2 ^ k) 1 = X ∧ bits .and .i64 ((m : Int) / 2 ^ j) 1 = X :=
  ⟨_, bit_val n k hn, by rw [bit_val m j hm, h]⟩
set_option maxRecDepth 100000 in
set_option maxHeartbeats 8000000 in
theorem restG {c : Cab} {w w8 wi : World} {ah : Option Addr} {ch : Nat} {al : Option Addr} {cl : Nat} {a b d B4 pa pb pd pn X : Nat} {hx lx a1 a2 : Option Addr} {hxc lc c1 c2 : Nat} (hv : c.valid = true) (ha : a ≤ 255) (hb : b ≤ 255) (hd : d ≤ 255) (hg : Given w8 c ah ch al cl)
    (hgX : Given w8 (turned c a b d) hx hxc lx lc) (hcells : w8.cell? ⟨B4, 0, none⟩ = some (.int .i64 c.slots) ∧ w8.cell? ⟨B4, 1, none⟩ = some (.slice ah c.homes.length ch) ∧ w8.cell? ⟨B4, 2, none⟩ = some (.int .i64 c.wrong) ∧ w8.cell? ⟨B4, 3, none⟩ = some (.slice al c.loans.length cl) ∧ w8.cell? ⟨pa, 0, none⟩ = some (.int .u8 a) ∧ w8.cell? ⟨pb, 0, none⟩ = some (.int .u8 b) ∧ w8.cell? ⟨pd, 0, none⟩ = some (.int .u8 d) ∧ w8.cell? ⟨pn, 0, none⟩ = some (.int .i64 c.homes.length) ∧ w8.cell? ⟨X, 0, none⟩ = some (.int .i64 c.slots) ∧ w8.cell? ⟨X, 1, none⟩ = some (.slice hx c.homes.length hxc) ∧ w8.cell? ⟨X, 2, none⟩ = some (.int .i64 c.wrong) ∧ w8.cell? ⟨X, 3, none⟩ = some (.slice lx c.loans.length lc)) (hi1 : IsInts w8 a1 c.homes) (hl2 : IsLoans w8 a2 c.loans) (hB : Below w.heap.size w w8) (hbc : Below w8.heap.size w8 wi)
    {s0 s1 s2 s3 s5 s6 s7 s8 s14 s15 s16 s17 s18 s21 s22 s23 s24 s25 s26 s27 s28 s29 s30 s31 s32 s33 s34 s35 s36 s37 s38 s39 s40 s41 s42 s43 s44 s45 s46 s47 s48 s49 s50 s51 s52 s53 s54 s55 s56 s57 s58 s59 s60 s61 s62 s63 s64 s65 s66 s67 s68 s69 s70 s71 s72 s73 s74 s75 s76 s77 s78 s79 s80 s81 s82 s83 s84 s85 s86 s87 s88 s89 s90 s91 s92 s93 s94 s95 s96 s97 s98 s99 s100 s101 s102 s103 s104 s105 s106 s107 s108 s109 s110 s111 s112 s113 s114 s115 s116 s117 s118 s119 s120 s121 s122 s123 s124 s125 s126 s127 s128 s129 s130 s131 s132 s133 s134 s135 s136 s137 s138 s139 s140 s141 s142 s143 s144 s145 s146 s147 s148 s149 s150 s151 s152 s153 s154 s155 s156 s157 s158 s159 s160 s161 s162 s163 s164 s165 s166 s167 s168 s169 s170 s171 s172 s173 s174 s175 s176 s177 s178 s179 s180 s181 s182 s183 s184 s185 s186 s187 s188 s189 s190 s191 s192 s193 s194 s195 s196 s197 s198 s199 s200 s201 s202 s203 s204 s205 s206 s207 s208 s209 s210 s211 s212 s213 s214 s215 s216 s217 s218 s219 s220 s221 s222 s223 s224 s225 s226 s227 s228 s229 s230 s231 s232 s233 s234 s235 s236 s237 s238 s239 s240 s241 s242 s243 s244 s245 s246 s247 s248 s249 s250 s251 s252 s253 s254 s255 s256 s257 s258 s259 s260 s261 s262 s263 s264 s265 s266 s267 s268 s269 s270 s271 s272 s273 s274 s275 s276 s277 s278 s279 s280 s281 s282 s283 s284 s285 s286 s287 s288 s289 s290 s291 s292 s293 s294 s295 s296 s297 s298 s299 s300 s301 s302 s303 s304 s305 s306 s307 s308 s309 s310 s311 s312 s313 s314 s315 s316 s317 s318 s319 s320 s321 s322 s323 s324 s325 s326 s327 s328 s329 s330 s331 s332 s333 s334 s335 s336 s337 s338 s339 s340 s341 s342 s343 s344 s345 s346 s347 s348 s349 s350 s351 s352 s353 s354 s355 s356 s357 s358 s359 s360 : Value} :
    Code.wp Try.prog restGC (bodyPost Try.prog Try.f11 (fun e w' => e = .returned (.bool true) ∧ Below w.heap.size w w')) { tmps := #[s0, s1, s2, s3, .pointer (some ⟨B4, 0, none⟩), s5, s6, s7, s8, .pointer (some ⟨pn, 0, none⟩), .func (.func 42) #[] #[.pointer (some ⟨pa, 0, none⟩), .pointer (some ⟨pn, 0, none⟩)], .func (.func 43) #[] #[.pointer (some ⟨pb, 0, none⟩), .pointer (some ⟨B4, 0, none⟩)], .func (.func 44) #[] #[.pointer (some ⟨pd, 0, none⟩)], .pointer (some ⟨X, 0, none⟩), s14, s15, s16, s17, s18, .slice a1 c.homes.length c1, .slice a2 c.loans.length c2, s21, s22, s23, s24, s25, s26, s27, s28, s29, s30, s31, s32, s33, s34, s35, s36, s37, s38, s39, s40, s41, s42, s43, s44, s45, s46, s47, s48, s49, s50, s51, s52, s53, s54, s55, s56, s57, s58, s59, s60, s61, s62, s63, s64, s65, s66, s67, s68, s69, s70, s71, s72, s73, s74, s75, s76, s77, s78, s79, s80, s81, s82, s83, s84, s85, s86, s87, s88, s89, s90, s91, s92, s93, s94, s95, s96, s97, s98, s99, s100, s101, s102, s103, s104, s105, s106, s107, s108, s109, s110, s111, s112, s113, s114, s115, s116, s117, s118, s119, s120, s121, s122, s123, s124, s125, s126, s127, s128, s129, s130, s131, s132, s133, s134, s135, s136, s137, s138, s139, s140, s141, s142, s143, s144, s145, s146, s147, s148, s149, s150, s151, s152, s153, s154, s155, s156, s157, s158, s159, s160, s161, s162, s163, s164, s165, s166, s167, s168, s169, s170, s171, s172, s173, s174, s175, s176, s177, s178, s179, s180, s181, s182, s183, s184, s185, s186, s187, s188, s189, s190, s191, s192, s193, s194, s195, s196, s197, s198, s199, s200, s201, s202, s203, s204, s205, s206, s207, s208, s209, s210, s211, s212, s213, s214, s215, s216, s217, s218, s219, s220, s221, s222, s223, s224, s225, s226, s227, s228, s229, s230, s231, s232, s233, s234, s235, s236, s237, s238, s239, s240, s241, s242, s243, s244, s245, s246, s247, s248, s249, s250, s251, s252, s253, s254, s255, s256, s257, s258, s259, s260, s261, s262, s263, s264, s265, s266, s267, s268, s269, s270, s271, s272, s273, s274, s275, s276, s277, s278, s279, s280, s281, s282, s283, s284, s285, s286, s287, s288, s289, s290, s291, s292, s293, s294, s295, s296, s297, s298, s299, s300, s301, s302, s303, s304, s305, s306, s307, s308, s309, s310, s311, s312, s313, s314, s315, s316, s317, s318, s319, s320, s321, s322, s323, s324, s325, s326, s327, s328, s329, s330, s331, s332, s333, s334, s335, s336, s337, s338, s339, s340, s341, s342, s343, s344, s345, s346, s347, s348, s349, s350, s351, s352, s353, s354, s355, s356, s357, s358, s359, s360], defers := [] } wi := by
  have t := turned_turn hv a b d
  have hxv : (turned c a b d).v hx hxc lx lc = (.agg #[.int .i64 c.slots, .slice hx c.homes.length hxc, .int .i64 c.wrong, .slice lx c.loans.length lc]) := by
    show (Value.agg #[.int .i64 (turned c a b d).slots, .slice hx (turned c a b d).homes.length hxc, .int .i64 (turned c a b d).wrong, .slice lx (turned c a b d).loans.length lc]) = _
    rw [t.n, t.slots, t.wrong, t.len]
  have HCELL : Hid (∀ W', Below w8.heap.size w8 W' → W'.cell? ⟨B4, 0, none⟩ = some (.int .i64 c.slots) ∧ W'.cell? ⟨B4, 1, none⟩ = some (.slice ah c.homes.length ch) ∧ W'.cell? ⟨B4, 2, none⟩ = some (.int .i64 c.wrong) ∧ W'.cell? ⟨B4, 3, none⟩ = some (.slice al c.loans.length cl) ∧ W'.cell? ⟨pa, 0, none⟩ = some (.int .u8 a) ∧ W'.cell? ⟨pb, 0, none⟩ = some (.int .u8 b) ∧ W'.cell? ⟨pd, 0, none⟩ = some (.int .u8 d) ∧ W'.cell? ⟨pn, 0, none⟩ = some (.int .i64 c.homes.length) ∧ W'.cell? ⟨X, 0, none⟩ = some (.int .i64 c.slots) ∧ W'.cell? ⟨X, 1, none⟩ = some (.slice hx c.homes.length hxc) ∧ W'.cell? ⟨X, 2, none⟩ = some (.int .i64 c.wrong) ∧ W'.cell? ⟨X, 3, none⟩ = some (.slice lx c.loans.length lc)) := fun W' h => by
    obtain ⟨f0, f1, f2, f3, f4, f5, f6, f7, x0, x1, x2, x3⟩ := hcells
    exact ⟨cell_stays h f0, cell_stays h f1, cell_stays h f2, cell_stays h f3, cell_stays h f4, cell_stays h f5, cell_stays h f6, cell_stays h f7, cell_stays h x0, cell_stays h x1, cell_stays h x2, cell_stays h x3⟩
  have HV := Lib.hid hv
  have HB8 := Lib.hid hB
  have HI := Lib.hid (And.intro hi1 (And.intro hl2 (And.intro hg hgX)))
  have HXV := Lib.hid hxv
  have hnh := valid_homes hv
  have hnl := valid_loans hv
  obtain ⟨hs1, hs2⟩ := valid_slots hv
  have HTH : Hid (c.valid = true ∧ IsInts w8 a1 c.homes ∧ IsLoans w8 a2 c.loans ∧ Given w8 c ah ch al cl ∧ Given w8 (turned c a b d) hx hxc lx lc ∧ Below w.heap.size w w8) := ⟨hv, hi1, hl2, hg, hgX, hB⟩
  have HCE := Lib.hid hcells
  clear t hxv hv hB hi1 hl2 hg hgX hcells
  conv => arg 2; whnf
  obtain ⟨f0, f1, f2, f3, f4, f5, f6, f7, x0, x1, x2, x3⟩ := HCELL.out wi hbc
  go_upto_block 6 with fail
  clear f0 f1 f2 f3 f4 f5 f6 f7 x0 x1 x2 x3
  go_cut [52] (fun s52 wx => Below w8.heap.size w8 wx)
  case first =>
    go_wp2_with fail
    go_loopw [293] (fun i wr => ∃ k : Nat, k ≤ c.homes.length ∧ i = .int .i64 k ∧ Below w8.heap.size w8 wr) (fun i _ => c.homes.length - (intOf i).toNat)
    case atStart => exact ⟨0, by omega, rfl, hbc⟩
    case round =>
      obtain ⟨wo, rfl⟩ : ∃ wo : World, wo = wr := ⟨_, rfl⟩
      obtain ⟨k, hk, rfl, hbo⟩ := hrel
      by_cases hlt : k < c.homes.length
      · have hdk : decide (k < c.homes.length) = true := by simpa using hlt
        obtain ⟨S, S', o, e_, hw1, hw2, hS, hS', hss⟩ := where_pair HV.out a b d hlt
        obtain ⟨mm, hmm⟩ : ∃ mm, cardT c.homes.length a (k : Int) = mm := ⟨_, rfl⟩
        rw [hmm] at hw2
        have HW1 : Hid (∀ W', Below w8.heap.size w8 W' → Calls Try.prog 17 #[c.v ah ch al cl, .int .i64 k] W' fun e w' => e = .returned (.tuple #[.int .i64 S, .bool o, .int .i64 e_]) ∧ Below W'.heap.size W' w') := fun W' h => by
          have := where_any (HI.out.2.2.1.mono h) (k : Int)
          rw [hw1] at this
          exact this
        have HW2 : Hid (∀ W', Below w8.heap.size w8 W' → Calls Try.prog 17 #[(.agg #[.int .i64 c.slots, .slice hx c.homes.length hxc, .int .i64 c.wrong, .slice lx c.loans.length lc]), .int .i64 mm] W' fun e w' => e = .returned (.tuple #[.int .i64 S', .bool o, .int .i64 e_]) ∧ Below W'.heap.size W' w') := fun W' h => by
          have := where_any (HI.out.2.2.2.mono h) mm
          rw [hw2, HXV.out] at this
          exact this
        have HC42 : Hid (∀ W', Below w8.heap.size w8 W' → Calls Try.prog 42 #[.int .i64 k, .pointer (some ⟨pa, 0, none⟩), .pointer (some ⟨pn, 0, none⟩)] W' fun e w' => e = .returned (.int .i64 mm) ∧ W' = w') := fun W' h => by
          have hc := HCELL.out W' h
          have := card42 (k : Int) a c.homes.length ha (by omega) (.inr ⟨by omega, by omega⟩) hc.2.2.2.2.1 hc.2.2.2.2.2.2.2.1
          rw [hmm] at this
          exact this
        have HSS := Lib.hid (And.intro hss (And.intro hS hS'))
        clear hw1 hw2 hmm hss hS hS'
        obtain ⟨f0, f1, f2, f3, f4, f5, f6, f7, x0, x1, x2, x3⟩ := HCELL.out wo hbo
        go_wp2_with fail
        (with_reducible refine (HW1.out _ hbo).mono ?_)
        rintro e w30 ⟨rfl, hb30⟩
        have hb30' : Below w8.heap.size w8 w30 := hbo.trans (hb30.mono hbo.size)
        clear f0 f1 f2 f3 f4 f5 f6 f7 x0 x1 x2 x3
        obtain ⟨f0, f1, f2, f3, f4, f5, f6, f7, x0, x1, x2, x3⟩ := HCELL.out w30 hb30'
        have y0 := fun y : Aft w30.heap.size w30 => cell_stays y.h x0
        have y1 := fun y : Aft w30.heap.size w30 => cell_stays y.h x1
        have y2 := fun y : Aft w30.heap.size w30 => cell_stays y.h x2
        have y3 := fun y : Aft w30.heap.size w30 => cell_stays y.h x3
        have HY : Hid (∀ y : Aft w30.heap.size w30, Below w8.heap.size w8 y.v) := fun y => hb30'.trans (y.h.mono hb30'.size)
        clear f0 f1 f2 f3 f4 f5 f6 f7 x0 x1 x2 x3
        go_wp2_with fail
        refine wp_region_aft mixed (by kernel_rfl) ?_
        repeat (go_big_quiet_step (first | (go_at_call 42; exact calls_aft_same (HC42.out _ (HY.out _))) | (go_at_call 17; exact calls_aft (HW2.out _ (HY.out _)))))
        refine wpQuiet_nil ?_
        rintro _ ⟨y, rfl⟩
        have hby := HY.out y
        clear y0 y1 y2 y3 hb30 hb30'
        obtain ⟨w31, hw31⟩ : ∃ w31 : World, w31 = y.v := ⟨_, rfl⟩
        rw [← hw31] at hby ⊢
        clear hw31 HY
        obtain ⟨f0, f1, f2, f3, f4, f5, f6, f7, x0, x1, x2, x3⟩ := HCELL.out w31 hby
        go_wp2_with fail
        clear f0 f1 f2 f3 f4 f5 f6 f7 x0 x1 x2 x3
        go_loopw [322] (fun i w2 => ∃ s : Nat, (s : Int) ≤ c.slots ∧ i = .int .i64 s ∧ Below w8.heap.size w8 w2) (fun i _ => c.slots.toNat - (intOf i).toNat)
        case atStart => exact ⟨0, by omega, rfl, hby⟩
        case round =>
          obtain ⟨s, hs, rfl, hbr⟩ := hrel
          by_cases hls : (s : Int) < c.slots
          · obtain ⟨hss, hS, hS'⟩ := HSS.out
            have h1 := hss s hls
            obtain ⟨q, hq⟩ : ∃ q : Nat, slotT c.slots b s = q := ⟨(slotT c.slots b s).toNat, by have := Int.emod_nonneg ((s : Int) + b) (show c.slots ≠ 0 by omega); unfold slotT; omega⟩
            have hq6 : (q : Int) < c.slots := by rw [← hq]; unfold slotT; exact Int.emod_lt_of_pos _ (by omega)
            rw [hq, Int.toNat_natCast] at h1
            obtain ⟨X1, e1, e2⟩ := bit_pair S S' s q hS hS' h1
            have hcc := HCELL.out wr hbr
            have C43 : Hid (∀ y : Aft wr.heap.size wr, Calls Try.prog 43 #[.int .i64 s, .pointer (some ⟨pb, 0, none⟩), .pointer (some ⟨B4, 0, none⟩)] y.v fun e w' => e = .returned (.int .i64 q) ∧ y.v = w') := fun y => hq ▸ slot43 (s : Int) b c.slots hb ⟨hs1, hs2⟩ ⟨by omega, hls⟩ (cell_stays y.h hcc.2.2.2.2.2.1) (cell_stays y.h hcc.1)
            have hq60 : q ≤ 60 := by omega
            have hs60 : s ≤ 60 := by omega
            clear h1 hss hS hS' hq hcc
            go_wp2_with fail
            refine wp_region_aft mixed (by kernel_rfl) ?_
            repeat (go_big_quiet_step ((go_at_call 43; exact calls_aft_same (C43.out _))))
            refine wpQuiet_nil ?_
            rintro _ ⟨y, rfl⟩
            go_wp2_with fail
            go_roundw
            case rel => exact ⟨s + 1, by omega, by go_num, hbr.trans (y.h.mono hbr.size)⟩
            case measure => simp [intOf]; omega
          · go_wp2_with fail
            go_roundw
            case rel => exact ⟨k + 1, by omega, by go_num, hbr⟩
            case measure => simp [intOf]; omega
      · obtain rfl : k = c.homes.length := by omega
        go_wp2_with fail
        go_meet
        exact hbo
  case rest =>
    obtain ⟨wG, rfl⟩ : ∃ wG : World, wG = wc := ⟨_, rfl⟩
    refine (‹∀ (a_ : Act) (w_ : World), Code.wp Try.prog _ _ a_ w_ → _› _ _ ?_)
    obtain ⟨hv, hi1, hl2, hg, hgX, hB⟩ := HTH.out
    exact restH hv ha hb hd hg hgX HCE.out hi1 hl2 hB hcut
end Go.Proofs.Ytlhobddaojdnoaa

namespace Go.Proofs.Ytlhobddaojdnoaa
open Go.RowKit
set_option linter.unusedVariables false

def afterRegion (n : Nat) : Code → Option Code
  | .seq a b => match a with
    | .region id _ _ => if id = n then some b else afterRegion n b
    | _ => match afterRegion n a with
      | some c => some c
      | none => afterRegion n b
  | .block _ c => afterRegion n c
  | .scope c => afterRegion n c
  | .loop c => afterRegion n c
  | .cond _ a b => match afterRegion n a with
    | some c => some c
    | none => afterRegion n b
  | _ => none
noncomputable def restC : Code := (Try.f11.body.bind (afterRegion 23)).getD .skip
set_option maxRecDepth 100000 in
set_option maxHeartbeats 8000000 in
theorem restE {c : Cab} {w w8 : World} {ah : Option Addr} {ch : Nat} {al : Option Addr} {cl : Nat} {a b d B4 pa pb pd pn X : Nat} {hx lx a1 a2 : Option Addr} {hxc lc c1 c2 : Nat} (hv : c.valid = true) (ha : a ≤ 255) (hb : b ≤ 255) (hd : d ≤ 255) (hg : Given w8 c ah ch al cl)
    (hgX : Given w8 (turned c a b d) hx hxc lx lc) (hcells : w8.cell? ⟨B4, 0, none⟩ = some (.int .i64 c.slots) ∧ w8.cell? ⟨B4, 1, none⟩ = some (.slice ah c.homes.length ch) ∧ w8.cell? ⟨B4, 2, none⟩ = some (.int .i64 c.wrong) ∧ w8.cell? ⟨B4, 3, none⟩ = some (.slice al c.loans.length cl) ∧ w8.cell? ⟨pa, 0, none⟩ = some (.int .u8 a) ∧ w8.cell? ⟨pb, 0, none⟩ = some (.int .u8 b) ∧ w8.cell? ⟨pd, 0, none⟩ = some (.int .u8 d) ∧ w8.cell? ⟨pn, 0, none⟩ = some (.int .i64 c.homes.length) ∧ w8.cell? ⟨X, 0, none⟩ = some (.int .i64 c.slots) ∧ w8.cell? ⟨X, 1, none⟩ = some (.slice hx c.homes.length hxc) ∧ w8.cell? ⟨X, 2, none⟩ = some (.int .i64 c.wrong) ∧ w8.cell? ⟨X, 3, none⟩ = some (.slice lx c.loans.length lc)) (hi1 : IsInts w8 a1 c.homes) (hl2 : IsLoans w8 a2 c.loans) (hB : Below w.heap.size w w8)
    {s0 s1 s2 s3 s5 s6 s7 s8 s14 s15 s16 s17 s18 s21 s22 s23 s24 s25 s26 s27 s28 s29 s30 s31 s32 s33 s34 s35 s36 s37 s38 s39 s40 s41 s42 s43 s44 s45 s46 s47 s48 s49 s50 s51 s52 s53 s54 s55 s56 s57 s58 s59 s60 s61 s62 s63 s64 s65 s66 s67 s68 s69 s70 s71 s72 s73 s74 s75 s76 s77 s78 s79 s80 s81 s82 s83 s84 s85 s86 s87 s88 s89 s90 s91 s92 s93 s94 s95 s96 s97 s98 s99 s100 s101 s102 s103 s104 s105 s106 s107 s108 s109 s110 s111 s112 s113 s114 s115 s116 s117 s118 s119 s120 s121 s122 s123 s124 s125 s126 s127 s128 s129 s130 s131 s132 s133 s134 s135 s136 s137 s138 s139 s140 s141 s142 s143 s144 s145 s146 s147 s148 s149 s150 s151 s152 s153 s154 s155 s156 s157 s158 s159 s160 s161 s162 s163 s164 s165 s166 s167 s168 s169 s170 s171 s172 s173 s174 s175 s176 s177 s178 s179 s180 s181 s182 s183 s184 s185 s186 s187 s188 s189 s190 s191 s192 s193 s194 s195 s196 s197 s198 s199 s200 s201 s202 s203 s204 s205 s206 s207 s208 s209 s210 s211 s212 s213 s214 s215 s216 s217 s218 s219 s220 s221 s222 s223 s224 s225 s226 s227 s228 s229 s230 s231 s232 s233 s234 s235 s236 s237 s238 s239 s240 s241 s242 s243 s244 s245 s246 s247 s248 s249 s250 s251 s252 s253 s254 s255 s256 s257 s258 s259 s260 s261 s262 s263 s264 s265 s266 s267 s268 s269 s270 s271 s272 s273 s274 s275 s276 s277 s278 s279 s280 s281 s282 s283 s284 s285 s286 s287 s288 s289 s290 s291 s292 s293 s294 s295 s296 s297 s298 s299 s300 s301 s302 s303 s304 s305 s306 s307 s308 s309 s310 s311 s312 s313 s314 s315 s316 s317 s318 s319 s320 s321 s322 s323 s324 s325 s326 s327 s328 s329 s330 s331 s332 s333 s334 s335 s336 s337 s338 s339 s340 s341 s342 s343 s344 s345 s346 s347 s348 s349 s350 s351 s352 s353 s354 s355 s356 s357 s358 s359 s360 : Value} :
    Code.wp Try.prog restC (bodyPost Try.prog Try.f11 (fun e w' => e = .returned (.bool true) ∧ Below w.heap.size w w')) { tmps := #[s0, s1, s2, s3, .pointer (some ⟨B4, 0, none⟩), s5, s6, s7, s8, .pointer (some ⟨pn, 0, none⟩), .func (.func 42) #[] #[.pointer (some ⟨pa, 0, none⟩), .pointer (some ⟨pn, 0, none⟩)], .func (.func 43) #[] #[.pointer (some ⟨pb, 0, none⟩), .pointer (some ⟨B4, 0, none⟩)], .func (.func 44) #[] #[.pointer (some ⟨pd, 0, none⟩)], .pointer (some ⟨X, 0, none⟩), s14, s15, s16, s17, s18, .slice a1 c.homes.length c1, .slice a2 c.loans.length c2, s21, s22, s23, s24, s25, s26, s27, s28, s29, s30, s31, s32, s33, s34, s35, s36, s37, s38, s39, s40, s41, s42, s43, s44, s45, s46, s47, s48, s49, s50, s51, s52, s53, s54, s55, s56, s57, s58, s59, s60, s61, s62, s63, s64, s65, s66, s67, s68, s69, s70, s71, s72, s73, s74, s75, s76, s77, s78, s79, s80, s81, s82, s83, s84, s85, s86, s87, s88, s89, s90, s91, s92, s93, s94, s95, s96, s97, s98, s99, s100, s101, s102, s103, s104, s105, s106, s107, s108, s109, s110, s111, s112, s113, s114, s115, s116, s117, s118, s119, s120, s121, s122, s123, s124, s125, s126, s127, s128, s129, s130, s131, s132, s133, s134, s135, s136, s137, s138, s139, s140, s141, s142, s143, s144, s145, s146, s147, s148, s149, s150, s151, s152, s153, s154, s155, s156, s157, s158, s159, s160, s161, s162, s163, s164, s165, s166, s167, s168, s169, s170, s171, s172, s173, s174, s175, s176, s177, s178, s179, s180, s181, s182, s183, s184, s185, s186, s187, s188, s189, s190, s191, s192, s193, s194, s195, s196, s197, s198, s199, s200, s201, s202, s203, s204, s205, s206, s207, s208, s209, s210, s211, s212, s213, s214, s215, s216, s217, s218, s219, s220, s221, s222, s223, s224, s225, s226, s227, s228, s229, s230, s231, s232, s233, s234, s235, s236, s237, s238, s239, s240, s241, s242, s243, s244, s245, s246, s247, s248, s249, s250, s251, s252, s253, s254, s255, s256, s257, s258, s259, s260, s261, s262, s263, s264, s265, s266, s267, s268, s269, s270, s271, s272, s273, s274, s275, s276, s277, s278, s279, s280, s281, s282, s283, s284, s285, s286, s287, s288, s289, s290, s291, s292, s293, s294, s295, s296, s297, s298, s299, s300, s301, s302, s303, s304, s305, s306, s307, s308, s309, s310, s311, s312, s313, s314, s315, s316, s317, s318, s319, s320, s321, s322, s323, s324, s325, s326, s327, s328, s329, s330, s331, s332, s333, s334, s335, s336, s337, s338, s339, s340, s341, s342, s343, s344, s345, s346, s347, s348, s349, s350, s351, s352, s353, s354, s355, s356, s357, s358, s359, s360], defers := [] } w8 := by
  have t := turned_turn hv a b d
  have hxv : (turned c a b d).v hx hxc lx lc = (.agg #[.int .i64 c.slots, .slice hx c.homes.length hxc, .int .i64 c.wrong, .slice lx c.loans.length lc]) := by
    show (Value.agg #[.int .i64 (turned c a b d).slots, .slice hx (turned c a b d).homes.length hxc, .int .i64 (turned c a b d).wrong, .slice lx (turned c a b d).loans.length lc]) = _
    rw [t.n, t.slots, t.wrong, t.len]
  obtain ⟨A, B, A', B', pe_, hp1, hp2, hA, hB_, hA', hB', hpp⟩ := people_pair hv a b d
  obtain ⟨k1, k2, hck⟩ : ∃ k1 k2, check c = (k1, k2) := ⟨_, _, rfl⟩
  obtain ⟨v1, v2, hwr⟩ : ∃ k1 k2, wrongsE c = (k1, k2) := ⟨_, _, rfl⟩
  obtain ⟨b1, b2, b3, hbl⟩ : ∃ k1 k2 k3, blameE c = (k1, k2, k3) := ⟨_, _, _, rfl⟩
  obtain ⟨m1, m2, m3, hmi⟩ : ∃ k1 k2 k3, misplacedE c = ((k1, k2), k3) := ⟨_, _, _, rfl⟩
  obtain ⟨n1, n2, n3, hnx⟩ : ∃ k1 k2 k3, nextE c = (k1, k2, k3) := ⟨_, _, _, rfl⟩
  obtain ⟨o1, hnx'⟩ : ∃ k1, nextE (turned c a b d) = (k1, n2, n3) := ⟨(nextE (turned c a b d)).1, by have h := t.next; rw [hnx] at h; exact Prod.ext rfl h.symm⟩
  have C15 : Hid (∀ W', Below w8.heap.size w8 W' → Calls Try.prog 15 #[c.v ah ch al cl] W' fun e w' => e = .returned (.tuple #[.int .i64 k1, .int .i64 k2]) ∧ Below W'.heap.size W' w') := fun W' h => by
    have := check_any (hg.mono h)
    rw [hck] at this
    exact this
  have X15 : Hid (∀ W', Below w8.heap.size w8 W' → Calls Try.prog 15 #[(.agg #[.int .i64 c.slots, .slice hx c.homes.length hxc, .int .i64 c.wrong, .slice lx c.loans.length lc])] W' fun e w' => e = .returned (.tuple #[.int .i64 k1, .int .i64 k2]) ∧ Below W'.heap.size W' w') := fun W' h => by
    have := check_any (hgX.mono h)
    rw [← t.check, hck, hxv] at this
    exact this
  have C21 : Hid (∀ W', Below w8.heap.size w8 W' → Calls Try.prog 21 #[c.v ah ch al cl] W' fun e w' => e = .returned (.tuple #[.int .i64 v1, .int .i64 v2]) ∧ Below W'.heap.size W' w') := fun W' h => by
    have := wrongs_any (hg.mono h)
    rw [hwr] at this
    exact this
  have X21 : Hid (∀ W', Below w8.heap.size w8 W' → Calls Try.prog 21 #[(.agg #[.int .i64 c.slots, .slice hx c.homes.length hxc, .int .i64 c.wrong, .slice lx c.loans.length lc])] W' fun e w' => e = .returned (.tuple #[.int .i64 v1, .int .i64 v2]) ∧ Below W'.heap.size W' w') := fun W' h => by
    have := wrongs_any (hgX.mono h)
    rw [← t.wrongs, hwr, hxv] at this
    exact this
  have C23 : Hid (∀ W', Below w8.heap.size w8 W' → Calls Try.prog 23 #[c.v ah ch al cl] W' fun e w' => e = .returned (.tuple #[.int .i64 b1, .int .i64 b2, .int .i64 b3]) ∧ Below W'.heap.size W' w') := fun W' h => by
    have := blame_any (hg.mono h)
    rw [hbl] at this
    exact this
  have X23 : Hid (∀ W', Below w8.heap.size w8 W' → Calls Try.prog 23 #[(.agg #[.int .i64 c.slots, .slice hx c.homes.length hxc, .int .i64 c.wrong, .slice lx c.loans.length lc])] W' fun e w' => e = .returned (.tuple #[.int .i64 b1, .int .i64 b2, .int .i64 b3]) ∧ Below W'.heap.size W' w') := fun W' h => by
    have := blame_any (hgX.mono h)
    rw [blame_pair hv, hbl, hxv] at this
    exact this
  have C25 : Hid (∀ W', Below w8.heap.size w8 W' → Calls Try.prog 25 #[c.v ah ch al cl] W' fun e w' => e = .returned (.tuple #[.int .i64 A, .int .i64 B, .int .i64 pe_]) ∧ Below W'.heap.size W' w') := fun W' h => by
    have := people_any (hg.mono h)
    rw [hp1] at this
    exact this
  have X25 : Hid (∀ W', Below w8.heap.size w8 W' → Calls Try.prog 25 #[(.agg #[.int .i64 c.slots, .slice hx c.homes.length hxc, .int .i64 c.wrong, .slice lx c.loans.length lc])] W' fun e w' => e = .returned (.tuple #[.int .i64 A', .int .i64 B', .int .i64 pe_]) ∧ Below W'.heap.size W' w') := fun W' h => by
    have := people_any (hgX.mono h)
    rw [hp2, hxv] at this
    exact this
  have C27 : Hid (∀ W', Below w8.heap.size w8 W' → Calls Try.prog 27 #[c.v ah ch al cl] W' fun e w' => e = .returned (.tuple #[.agg #[.int .i64 m1, .int .i64 m2], .int .i64 m3]) ∧ Below W'.heap.size W' w') := fun W' h => by
    have := misplaced_any (hg.mono h)
    rw [hmi] at this
    exact this
  have X27 : Hid (∀ W', Below w8.heap.size w8 W' → Calls Try.prog 27 #[(.agg #[.int .i64 c.slots, .slice hx c.homes.length hxc, .int .i64 c.wrong, .slice lx c.loans.length lc])] W' fun e w' => e = .returned (.tuple #[.agg #[.int .i64 m1, .int .i64 m2], .int .i64 m3]) ∧ Below W'.heap.size W' w') := fun W' h => by
    have := misplaced_any (hgX.mono h)
    rw [← t.misplaced, hmi, hxv] at this
    exact this
  have C29 : Hid (∀ W', Below w8.heap.size w8 W' → Calls Try.prog 29 #[c.v ah ch al cl] W' fun e w' => e = .returned (.tuple #[.int .i64 n1, .int .i64 n2, .int .i64 n3]) ∧ Below W'.heap.size W' w') := fun W' h => by
    have := next_any (hg.mono h)
    rw [hnx] at this
    exact this
  have X29 : Hid (∀ W', Below w8.heap.size w8 W' → Calls Try.prog 29 #[(.agg #[.int .i64 c.slots, .slice hx c.homes.length hxc, .int .i64 c.wrong, .slice lx c.loans.length lc])] W' fun e w' => e = .returned (.tuple #[.int .i64 o1, .int .i64 n2, .int .i64 n3]) ∧ Below W'.heap.size W' w') := fun W' h => by
    have := next_any (hgX.mono h)
    rw [hnx', hxv] at this
    exact this
  have HCELL : Hid (∀ W', Below w8.heap.size w8 W' → W'.cell? ⟨B4, 0, none⟩ = some (.int .i64 c.slots) ∧ W'.cell? ⟨B4, 1, none⟩ = some (.slice ah c.homes.length ch) ∧ W'.cell? ⟨B4, 2, none⟩ = some (.int .i64 c.wrong) ∧ W'.cell? ⟨B4, 3, none⟩ = some (.slice al c.loans.length cl) ∧ W'.cell? ⟨pa, 0, none⟩ = some (.int .u8 a) ∧ W'.cell? ⟨pb, 0, none⟩ = some (.int .u8 b) ∧ W'.cell? ⟨pd, 0, none⟩ = some (.int .u8 d) ∧ W'.cell? ⟨pn, 0, none⟩ = some (.int .i64 c.homes.length) ∧ W'.cell? ⟨X, 0, none⟩ = some (.int .i64 c.slots) ∧ W'.cell? ⟨X, 1, none⟩ = some (.slice hx c.homes.length hxc) ∧ W'.cell? ⟨X, 2, none⟩ = some (.int .i64 c.wrong) ∧ W'.cell? ⟨X, 3, none⟩ = some (.slice lx c.loans.length lc)) := fun W' h => by
    obtain ⟨f0, f1, f2, f3, f4, f5, f6, f7, x0, x1, x2, x3⟩ := hcells
    exact ⟨cell_stays h f0, cell_stays h f1, cell_stays h f2, cell_stays h f3, cell_stays h f4, cell_stays h f5, cell_stays h f6, cell_stays h f7, cell_stays h x0, cell_stays h x1, cell_stays h x2, cell_stays h x3⟩
  have HPP := Lib.hid (And.intro hpp (And.intro hA (And.intro hB_ (And.intro hA' hB'))))
  have HV := Lib.hid hv
  have HB8 := Lib.hid hB
  have HI := Lib.hid (And.intro hi1 (And.intro hl2 (And.intro hg hgX)))
  have HXV := Lib.hid hxv
  have hcells0 := hcells
  obtain ⟨f0, f1, f2, f3, f4, f5, f6, f7, x0, x1, x2, x3⟩ := hcells
  have hnh := valid_homes hv
  have hnl := valid_loans hv
  obtain ⟨hs1, hs2⟩ := valid_slots hv
  have HTH : Hid (c.valid = true ∧ IsInts w8 a1 c.homes ∧ IsLoans w8 a2 c.loans ∧ Given w8 c ah ch al cl ∧ Given w8 (turned c a b d) hx hxc lx lc ∧ Below w.heap.size w w8) := ⟨hv, hi1, hl2, hg, hgX, hB⟩
  have HCE := Lib.hid hcells0
  clear hcells0 t hxv hp1 hp2 hck hwr hbl hmi hnx hnx' hpp hA hB_ hA' hB' hv hB hi1 hl2 hg hgX
  conv => arg 2; whnf
  go_wp2_with fail
  refine (C15.out _ (Below.refl _ _)).mono ?_
  rintro e w9 ⟨rfl, hb9⟩
  have f0 := cell_stays hb9 f0
  have f1 := cell_stays hb9 f1
  have f2 := cell_stays hb9 f2
  have f3 := cell_stays hb9 f3
  have f4 := cell_stays hb9 f4
  have f5 := cell_stays hb9 f5
  have f6 := cell_stays hb9 f6
  have f7 := cell_stays hb9 f7
  have x0 := cell_stays hb9 x0
  have x1 := cell_stays hb9 x1
  have x2 := cell_stays hb9 x2
  have x3 := cell_stays hb9 x3
  have HBw := Lib.hid (hb9)
  clear hb9
  go_wp2_with fail
  refine (X15.out _ HBw.out).mono ?_
  rintro e w10 ⟨rfl, hb10⟩
  have f0 := cell_stays hb10 f0
  have f1 := cell_stays hb10 f1
  have f2 := cell_stays hb10 f2
  have f3 := cell_stays hb10 f3
  have f4 := cell_stays hb10 f4
  have f5 := cell_stays hb10 f5
  have f6 := cell_stays hb10 f6
  have f7 := cell_stays hb10 f7
  have x0 := cell_stays hb10 x0
  have x1 := cell_stays hb10 x1
  have x2 := cell_stays hb10 x2
  have x3 := cell_stays hb10 x3
  have HBw := Lib.hid (HBw.out.trans (hb10.mono HBw.out.size))
  clear hb10
  go_wp2_with fail
  refine (C21.out _ HBw.out).mono ?_
  rintro e w11 ⟨rfl, hb11⟩
  have f0 := cell_stays hb11 f0
  have f1 := cell_stays hb11 f1
  have f2 := cell_stays hb11 f2
  have f3 := cell_stays hb11 f3
  have f4 := cell_stays hb11 f4
  have f5 := cell_stays hb11 f5
  have f6 := cell_stays hb11 f6
  have f7 := cell_stays hb11 f7
  have x0 := cell_stays hb11 x0
  have x1 := cell_stays hb11 x1
  have x2 := cell_stays hb11 x2
  have x3 := cell_stays hb11 x3
  have HBw := Lib.hid (HBw.out.trans (hb11.mono HBw.out.size))
  clear hb11
  go_wp2_with fail
  refine (X21.out _ HBw.out).mono ?_
  rintro e w12 ⟨rfl, hb12⟩
  have f0 := cell_stays hb12 f0
  have f1 := cell_stays hb12 f1
  have f2 := cell_stays hb12 f2
  have f3 := cell_stays hb12 f3
  have f4 := cell_stays hb12 f4
  have f5 := cell_stays hb12 f5
  have f6 := cell_stays hb12 f6
  have f7 := cell_stays hb12 f7
  have x0 := cell_stays hb12 x0
  have x1 := cell_stays hb12 x1
  have x2 := cell_stays hb12 x2
  have x3 := cell_stays hb12 x3
  have HBw := Lib.hid (HBw.out.trans (hb12.mono HBw.out.size))
  clear hb12
  go_wp2_with fail
  refine (C23.out _ HBw.out).mono ?_
  rintro e w13 ⟨rfl, hb13⟩
  have f0 := cell_stays hb13 f0
  have f1 := cell_stays hb13 f1
  have f2 := cell_stays hb13 f2
  have f3 := cell_stays hb13 f3
  have f4 := cell_stays hb13 f4
  have f5 := cell_stays hb13 f5
  have f6 := cell_stays hb13 f6
  have f7 := cell_stays hb13 f7
  have x0 := cell_stays hb13 x0
  have x1 := cell_stays hb13 x1
  have x2 := cell_stays hb13 x2
  have x3 := cell_stays hb13 x3
  have HBw := Lib.hid (HBw.out.trans (hb13.mono HBw.out.size))
  clear hb13
  go_wp2_with fail
  refine (X23.out _ HBw.out).mono ?_
  rintro e w14 ⟨rfl, hb14⟩
  have f0 := cell_stays hb14 f0
  have f1 := cell_stays hb14 f1
  have f2 := cell_stays hb14 f2
  have f3 := cell_stays hb14 f3
  have f4 := cell_stays hb14 f4
  have f5 := cell_stays hb14 f5
  have f6 := cell_stays hb14 f6
  have f7 := cell_stays hb14 f7
  have x0 := cell_stays hb14 x0
  have x1 := cell_stays hb14 x1
  have x2 := cell_stays hb14 x2
  have x3 := cell_stays hb14 x3
  have HBw := Lib.hid (HBw.out.trans (hb14.mono HBw.out.size))
  clear hb14
  go_wp2_with fail
  refine (C25.out _ HBw.out).mono ?_
  rintro e w15 ⟨rfl, hb15⟩
  have f0 := cell_stays hb15 f0
  have f1 := cell_stays hb15 f1
  have f2 := cell_stays hb15 f2
  have f3 := cell_stays hb15 f3
  have f4 := cell_stays hb15 f4
  have f5 := cell_stays hb15 f5
  have f6 := cell_stays hb15 f6
  have f7 := cell_stays hb15 f7
  have x0 := cell_stays hb15 x0
  have x1 := cell_stays hb15 x1
  have x2 := cell_stays hb15 x2
  have x3 := cell_stays hb15 x3
  have HBw := Lib.hid (HBw.out.trans (hb15.mono HBw.out.size))
  clear hb15
  go_wp2_with fail
  refine (X25.out _ HBw.out).mono ?_
  rintro e w16 ⟨rfl, hb16⟩
  have f0 := cell_stays hb16 f0
  have f1 := cell_stays hb16 f1
  have f2 := cell_stays hb16 f2
  have f3 := cell_stays hb16 f3
  have f4 := cell_stays hb16 f4
  have f5 := cell_stays hb16 f5
  have f6 := cell_stays hb16 f6
  have f7 := cell_stays hb16 f7
  have x0 := cell_stays hb16 x0
  have x1 := cell_stays hb16 x1
  have x2 := cell_stays hb16 x2
  have x3 := cell_stays hb16 x3
  have HBw := Lib.hid (HBw.out.trans (hb16.mono HBw.out.size))
  clear hb16
  go_wp2_with fail
  refine (C27.out _ HBw.out).mono ?_
  rintro e w17 ⟨rfl, hb17⟩
  have f0 := cell_stays hb17 f0
  have f1 := cell_stays hb17 f1
  have f2 := cell_stays hb17 f2
  have f3 := cell_stays hb17 f3
  have f4 := cell_stays hb17 f4
  have f5 := cell_stays hb17 f5
  have f6 := cell_stays hb17 f6
  have f7 := cell_stays hb17 f7
  have x0 := cell_stays hb17 x0
  have x1 := cell_stays hb17 x1
  have x2 := cell_stays hb17 x2
  have x3 := cell_stays hb17 x3
  have HBw := Lib.hid (HBw.out.trans (hb17.mono HBw.out.size))
  clear hb17
  have hal : Below w17.heap.size w17 (w17.alloc (.cells #[.int .i64 m1, .int .i64 m2] 37)) := (Below.refl _ _).alloc (Nat.le_refl _) _
  have hnw := World.alloc_heap_new w17 (.cells #[.int .i64 m1, .int .i64 m2] 37)
  have hlty := lt_of_cell f0
  have hltxy := lt_of_cell x0
  obtain ⟨Wy, hWy⟩ : ∃ W : World, W = w17.alloc (.cells #[.int .i64 m1, .int .i64 m2] 37) := ⟨_, rfl⟩
  rw [← hWy] at hal hnw
  obtain ⟨Py, hPy⟩ : ∃ P, P = w17.heap.size := ⟨_, rfl⟩
  have f0 := cell_stays hal f0
  have f1 := cell_stays hal f1
  have f2 := cell_stays hal f2
  have f3 := cell_stays hal f3
  have f4 := cell_stays hal f4
  have f5 := cell_stays hal f5
  have f6 := cell_stays hal f6
  have f7 := cell_stays hal f7
  have x0 := cell_stays hal x0
  have x1 := cell_stays hal x1
  have x2 := cell_stays hal x2
  have x3 := cell_stays hal x3
  have y0 : Wy.cell? ⟨w17.heap.size, 0, none⟩ = some (.int .i64 m1) := by rw [cell_of_heap hnw]; rfl
  have y1 : Wy.cell? ⟨w17.heap.size, 1, none⟩ = some (.int .i64 m2) := by rw [cell_of_heap hnw]; rfl
  have HBw := Lib.hid (HBw.out.trans (hal.mono HBw.out.size))
  subst hWy
  clear hal hnw hPy Py
  go_wp2_with fail
  refine (X27.out _ HBw.out).mono ?_
  rintro e w18 ⟨rfl, hb18⟩
  have f0 := cell_stays hb18 f0
  have f1 := cell_stays hb18 f1
  have f2 := cell_stays hb18 f2
  have f3 := cell_stays hb18 f3
  have f4 := cell_stays hb18 f4
  have f5 := cell_stays hb18 f5
  have f6 := cell_stays hb18 f6
  have f7 := cell_stays hb18 f7
  have x0 := cell_stays hb18 x0
  have x1 := cell_stays hb18 x1
  have x2 := cell_stays hb18 x2
  have x3 := cell_stays hb18 x3
  have y0 := cell_stays hb18 y0
  have y1 := cell_stays hb18 y1
  have HBw := Lib.hid (HBw.out.trans (hb18.mono HBw.out.size))
  clear hb18
  have hal : Below w18.heap.size w18 (w18.alloc (.cells #[.int .i64 m1, .int .i64 m2] 37)) := (Below.refl _ _).alloc (Nat.le_refl _) _
  have hnw := World.alloc_heap_new w18 (.cells #[.int .i64 m1, .int .i64 m2] 37)
  have hltz := lt_of_cell f0
  have hltxz := lt_of_cell x0
  obtain ⟨Wz, hWz⟩ : ∃ W : World, W = w18.alloc (.cells #[.int .i64 m1, .int .i64 m2] 37) := ⟨_, rfl⟩
  rw [← hWz] at hal hnw
  obtain ⟨Pz, hPz⟩ : ∃ P, P = w18.heap.size := ⟨_, rfl⟩
  have f0 := cell_stays hal f0
  have f1 := cell_stays hal f1
  have f2 := cell_stays hal f2
  have f3 := cell_stays hal f3
  have f4 := cell_stays hal f4
  have f5 := cell_stays hal f5
  have f6 := cell_stays hal f6
  have f7 := cell_stays hal f7
  have x0 := cell_stays hal x0
  have x1 := cell_stays hal x1
  have x2 := cell_stays hal x2
  have x3 := cell_stays hal x3
  have y0 := cell_stays hal y0
  have y1 := cell_stays hal y1
  have z0 : Wz.cell? ⟨w18.heap.size, 0, none⟩ = some (.int .i64 m1) := by rw [cell_of_heap hnw]; rfl
  have z1 : Wz.cell? ⟨w18.heap.size, 1, none⟩ = some (.int .i64 m2) := by rw [cell_of_heap hnw]; rfl
  have HBw := Lib.hid (HBw.out.trans (hal.mono HBw.out.size))
  subst hWz
  clear hal hnw hPz Pz
  go_wp2_with fail
  refine (C29.out _ HBw.out).mono ?_
  rintro e w19 ⟨rfl, hb19⟩
  have f0 := cell_stays hb19 f0
  have f1 := cell_stays hb19 f1
  have f2 := cell_stays hb19 f2
  have f3 := cell_stays hb19 f3
  have f4 := cell_stays hb19 f4
  have f5 := cell_stays hb19 f5
  have f6 := cell_stays hb19 f6
  have f7 := cell_stays hb19 f7
  have x0 := cell_stays hb19 x0
  have x1 := cell_stays hb19 x1
  have x2 := cell_stays hb19 x2
  have x3 := cell_stays hb19 x3
  have y0 := cell_stays hb19 y0
  have y1 := cell_stays hb19 y1
  have z0 := cell_stays hb19 z0
  have z1 := cell_stays hb19 z1
  have HBw := Lib.hid (HBw.out.trans (hb19.mono HBw.out.size))
  clear hb19
  go_wp2_with fail
  refine (X29.out _ HBw.out).mono ?_
  rintro e w20 ⟨rfl, hb20⟩
  have f0 := cell_stays hb20 f0
  have f1 := cell_stays hb20 f1
  have f2 := cell_stays hb20 f2
  have f3 := cell_stays hb20 f3
  have f4 := cell_stays hb20 f4
  have f5 := cell_stays hb20 f5
  have f6 := cell_stays hb20 f6
  have f7 := cell_stays hb20 f7
  have x0 := cell_stays hb20 x0
  have x1 := cell_stays hb20 x1
  have x2 := cell_stays hb20 x2
  have x3 := cell_stays hb20 x3
  have y0 := cell_stays hb20 y0
  have y1 := cell_stays hb20 y1
  have z0 := cell_stays hb20 z0
  have z1 := cell_stays hb20 z1
  have HBw := Lib.hid (HBw.out.trans (hb20.mono HBw.out.size))
  clear hb20
  go_upto_block 4 with fail
  clear f0 f1 f2 f3 f4 f5 f6 f7 x0 x1 x2 x3 y0 y1 z0 z1 C15 X15 C21 X21 C23 X23 C25 X25 C27 X27 C29 X29
  obtain ⟨wE, rfl⟩ : ∃ wE : World, wE = w20 := ⟨_, rfl⟩
  go_cut [51] (fun s51 wx => Below w8.heap.size w8 wx)
  case first =>
    go_wp2_with fail
    go_loopw [264] (fun i wr => ∃ p : Nat, p ≤ 8 ∧ i = .int .i64 p ∧ Below wE.heap.size wE wr) (fun i _ => 8 - (intOf i).toNat)
    case atStart => exact ⟨0, by omega, rfl, Below.refl _ _⟩
    case round =>
      obtain ⟨p, hp, rfl, hbr⟩ := hrel
      have hb8r : Below w8.heap.size w8 wr := HBw.out.trans (hbr.mono HBw.out.size)
      by_cases hlt : p < 8
      · obtain ⟨hpp, hA, hB_, hA', hB'⟩ := HPP.out
        have hd8 : decide (p < 8) = true := by simpa using hlt
        obtain ⟨h1, h2⟩ := hpp p hlt
        have hpr := persT_in d (p : Int) (by omega) (by omega)
        obtain ⟨q, hq⟩ : ∃ q : Nat, persT d p = q := ⟨(persT d p).toNat, by omega⟩
        rw [hq, Int.toNat_natCast] at h1 h2
        have hq7 : q ≤ 7 := by omega
        obtain ⟨X1, e1, e2⟩ := bit_pair A A' p q hA hA' h1
        obtain ⟨X2, e3, e4⟩ := bit_pair B B' p q hB_ hB' h2
        have hcp := (HCELL.out wr hb8r).2.2.2.2.2.2.1
        have C44 : Hid (∀ y : Aft wr.heap.size wr, Calls Try.prog 44 #[.int .i64 p, .pointer (some ⟨pd, 0, none⟩)] y.v fun e w' => e = .returned (.int .i64 q) ∧ y.v = w') := fun y => hq ▸ pers44 (p : Int) d hd ⟨by omega, by omega⟩ (cell_stays y.h hcp)
        clear h1 h2 hpr hq hpp hA hB_ hA' hB' hcp
        go_wp2_with fail
        refine wp_region_aft mixed (by kernel_rfl) ?_
        repeat (go_big_quiet_step ((go_at_call 44; exact calls_aft_same (C44.out _))))
        refine wpQuiet_nil ?_
        rintro _ ⟨y, rfl⟩
        go_wp2_with fail
        go_roundw
        case rel => exact ⟨p + 1, by omega, by go_num, hbr.trans (y.h.mono hbr.size)⟩
        case measure => simp [intOf]; omega
      · obtain rfl : p = 8 := by omega
        go_wp2_with fail
        go_meet
        exact hb8r
  case rest =>
    refine (‹∀ (a_ : Act) (w_ : World), Code.wp Try.prog _ _ a_ w_ → _› _ _ ?_)
    obtain ⟨hv, hi1, hl2, hg, hgX, hB⟩ := HTH.out
    exact restG hv ha hb hd hg hgX HCE.out hi1 hl2 hB hcut
end Go.Proofs.Ytlhobddaojdnoaa

