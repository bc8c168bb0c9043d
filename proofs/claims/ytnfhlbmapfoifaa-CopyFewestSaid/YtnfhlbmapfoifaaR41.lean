/- CopyFewest: its last part. CopyFewest: the other way. -/
import Derived.Test.YtnfhlbmapfoifaaR40
import Derived.Test.YtnfhlbmapfoifaaOrd
import Derived.Test.YtnfhlbmapfoifaaU8
namespace Go.Proofs.Ytnfhlbmapfoifaa
open Go.RowKit
set_option linter.unusedVariables false
set_option linter.unusedSimpArgs false

def leftRegF : Code → Option Nat
  | .region id _ _ => some id
  | .seq a _ => leftRegF a
  | _ => none
def fromRegF (n : Nat) : Code → Option Code
  | .seq a b => if leftRegF a = some n then some (.seq a b) else match fromRegF n a with
    | some c => some c
    | none => fromRegF n b
  | .block _ c => fromRegF n c
  | .scope c => fromRegF n c
  | .loop c => fromRegF n c
  | .cond _ a b => match fromRegF n a with
    | some c => some c
    | none => fromRegF n b
  | _ => none
/-- Another card for each card, or none. -/
def FineW (n : Nat) (x : List Int) : Prop := x.length = n ∧ ∀ j, j < n → -1 ≤ gi x j ∧ gi x j < n ∧ gi x j ≠ (j : Int)
theorem FineW.good {n : Nat} {x : List Int} (h : FineW n x) : GoodW n x := ⟨h.1, fun y hy => by
  obtain ⟨k, hk, e⟩ := List.getElem_of_mem hy
  have := h.2 k (by rw [← h.1]; exact hk)
  have e2 : gi x k = y := by simp [gi, hk, e]
  rw [e2] at this
  exact ⟨this.1, this.2.1⟩⟩
theorem fine_way {p : Prs} {x : List Int} (h : x ∈ waysL p) : FineW p.cards.length x := ⟨(ways_iff.1 h).1, (ways_iff.1 h).2.1⟩
set_option maxHeartbeats 2000000 in
theorem fine44 {n : Nat} {x : List Int} (hn : n ≤ 5) (h : FineW n x) {a : Option Addr} {c : Nat} {w : World} (ha : IsInts w a x) :
    Calls Try.prog 44 #[.slice a x.length c] w fun e w' => e = .returned (.bool true) ∧ w = w' := by
  have HP := Lib.hid (And.intro h ha)
  have hl := h.1
  rw [hl]
  clear h ha hl
  go_enter Try.func44, Try.ntmps44
  go_wp2_with fail
  go_loop [7] (fun i => ∃ k : Nat, k ≤ n ∧ i = .int .i64 k) (fun i => n - (intOf i).toNat)
  case atStart => exact ⟨0, by omega, rfl⟩
  case round =>
    obtain ⟨k, hk, rfl⟩ := hrel
    by_cases hlt : k < n
    · obtain ⟨b, off, rfl, hcell⟩ := HP.out.2 k (by rw [HP.out.1.1]; exact hlt)
      obtain ⟨h1, h2, h3⟩ := HP.out.1.2 k hlt
      revert hcell h1 h2 h3
      generalize gi x k = v
      intro hcell h1 h2 h3
      have hb : (v == (k : Int)) = false := by simpa using h3
      clear h3
      go_wp2_with fail
      go_round
      case rel => exact ⟨k + 1, by omega, by go_num⟩
      case measure => simp [intOf]; omega
    · obtain rfl : k = n := by omega
      go_wp2_with fail
      go_ret
      exact ⟨rfl, rfl⟩
structure ChF (p : Prs) (a : Option Addr) (cap bx : Nat) (aw ab : Option Addr) (lb : Nat) (w0 w : World) : Prop where
  below : Below w0.heap.size w0 w
  box : w.heap[bx]? = some (.cells (p.cells a cap) 26 (0, 0))
  prs : IsPrts w a p.cards
  few : IsInts w aw (fewestW p)
  bytes : IsU8 w ab lb
theorem ChF.mono {p : Prs} {a : Option Addr} {cap bx : Nat} {aw ab : Option Addr} {lb : Nat} {w0 w w' : World} (h : ChF p a cap bx aw ab lb w0 w) (hb : Below w.heap.size w w') : ChF p a cap bx aw ab lb w0 w' :=
  ⟨h.below.trans (hb.mono h.below.size), (hb.block _ (heap_lt h.box)).trans h.box, h.prs.mono hb, h.few.mono hb, h.bytes.mono hb⟩
noncomputable def f33C : Code := (Try.f11.body.bind (fromRegF 33)).getD .skip
set_option maxRecDepth 100000 in
set_option maxHeartbeats 8000000 in
theorem few33 {p : Prs} {a : Option Addr} {cap bx : Nat} {aw : Option Addr} {cw : Nat} {ab : Option Addr} {lb cb : Nat} {w0 w : World} {ot : List Int} {ao : Option Addr} {co : Nat} (H : ChF p a cap bx aw ab lb w0 w) (hv : p.valid = true) (hi : IsInts w ao ot) (hf : FineW p.cards.length ot)
    {s0 s1 s3 s4 s7 s8 s9 s10 s11 s12 s13 s14 s15 s16 s17 s19 s20 s21 s22 s23 s24 s25 s26 s27 s28 s29 s30 s31 s32 s33 s34 s35 s36 s37 s38 s39 s40 s41 s42 s43 s44 s45 s46 s47 s48 s49 s50 s51 s52 s53 s54 s55 s56 s57 s58 s59 s60 s61 s62 s63 s64 s65 s66 s67 s68 s69 s70 s71 s72 s73 s74 s75 s76 s77 s78 s79 s80 s81 s82 s83 s84 s85 s86 s87 s88 s89 s90 s91 s92 s93 s94 s95 s96 s97 s98 s99 s100 s101 s102 s103 s104 s105 s106 s107 s108 s109 s110 s111 s112 s113 s114 s115 s116 s117 s118 s119 s120 s121 s122 s123 s124 s125 s126 s127 s128 s129 s130 s131 s132 s133 s134 s135 s136 s137 s138 s139 s140 s141 s142 s143 s144 s145 s146 s147 s148 s149 s150 s151 s152 s153 s154 s155 s156 s157 s158 s159 s160 s161 s162 s163 s164 s165 s166 s167 s168 s169 s170 s171 s172 s173 s174 s175 s176 s177 s178 s179 s180 s181 s182 s183 s184 s185 s186 s187 s188 s189 s190 s191 s192 s193 s194 s195 s196 s197 s198 s199 s200 s201 s202 s203 s204 s205 s206 s207 s208 s209 s210 s211 s212 s213 s214 s215 s216 s217 s218 s219 s220 s221 s222 s223 s224 s225 s226 s227 s228 s229 s230 s231 s232 s233 s234 s235 s236 s237 s238 s239 s240 s241 s242 s243 s244 s245 s246 s247 s248 s249 s250 s251 s252 s253 s254 s255 s256 s257 s258 s259 s260 s261 s262 s263 s264 s265 s266 s267 s268 s269 : Value} :
    Code.wp Try.prog f33C (bodyPost Try.prog Try.f11 fun e w' => e = .returned (.bool true) ∧ Below w0.heap.size w0 w') { tmps := #[s0, s1, .pointer (some ⟨bx, 0, none⟩), s3, s4, .slice aw p.cards.length cw, .int .i64 (origN (fewestW p)), s7, s8, s9, s10, s11, s12, s13, s14, s15, s16, s17, .slice ao p.cards.length co, s19, s20, s21, s22, s23, s24, s25, s26, s27, s28, s29, s30, s31, s32, s33, s34, s35, s36, s37, s38, s39, s40, s41, s42, s43, s44, s45, s46, s47, s48, s49, s50, s51, s52, s53, s54, s55, s56, s57, s58, s59, s60, s61, s62, s63, s64, s65, s66, s67, s68, s69, s70, s71, s72, s73, s74, s75, s76, s77, s78, s79, s80, s81, s82, s83, s84, s85, s86, s87, s88, s89, s90, s91, s92, s93, s94, s95, s96, s97, s98, s99, s100, s101, s102, s103, s104, s105, s106, s107, s108, s109, s110, s111, s112, s113, s114, s115, s116, s117, s118, s119, s120, s121, s122, s123, s124, s125, s126, s127, s128, s129, s130, s131, s132, s133, s134, s135, s136, s137, s138, s139, s140, s141, s142, s143, s144, s145, s146, s147, s148, s149, s150, s151, s152, s153, s154, s155, s156, s157, s158, s159, s160, s161, s162, s163, s164, s165, s166, s167, s168, s169, s170, s171, s172, s173, s174, s175, s176, s177, s178, s179, s180, s181, s182, s183, s184, s185, s186, s187, s188, s189, s190, s191, s192, s193, s194, s195, s196, s197, s198, s199, s200, s201, s202, s203, s204, s205, s206, s207, s208, s209, s210, s211, s212, s213, s214, s215, s216, s217, s218, s219, s220, s221, s222, s223, s224, s225, s226, s227, s228, s229, s230, s231, s232, s233, s234, s235, s236, s237, s238, s239, s240, s241, s242, s243, s244, s245, s246, s247, s248, s249, s250, s251, s252, s253, s254, s255, s256, s257, s258, s259, s260, s261, s262, s263, s264, s265, s266, s267, s268, s269], defers := [] } w := by
  have hn5 := (valid_parts hv).1
  have hmem := fewest_mem hv
  have hfw := fine_way hmem
  have HH := Lib.hid (And.intro H hi)
  have HV := Lib.hid (And.intro hv (And.intro hf hfw))
  have hfo : origN (fewestW p) ≤ 5 := by have := orig_le (fewestW p); have h2 := hfw.1; omega
  have hoo : origN ot ≤ 5 := by have := orig_le ot; have h2 := hf.1; omega
  have HL : Hid (isWayB p ot = true → origN (fewestW p) ≤ origN ot ∧ (origN ot = origN (fewestW p) → ∀ i, i < p.cards.length → (∀ j, j < i → gi ot j = gi (fewestW p) j) → gi ot i ≠ gi (fewestW p) i → gi (fewestW p) i < gi ot i)) := fun hw => by
    have hm : ot ∈ waysL p := ways_iff.2 ⟨hf.1, hf.2, hw⟩
    refine ⟨fewest_le hm, fun he i hi hag hne => ?_⟩
    rcases fewest_lex hm he with e | ⟨k, k1, k2, k3, k4⟩
    · rw [e] at hne; exact (hne rfl).elim
    · rcases Nat.lt_trichotomy i k with h | h | h
      · exact (hne (k3 i h).symm).elim
      · subst h; exact k4
      · have := hag k h; omega
  obtain ⟨k0, k1, k2, k3, k4⟩ := prs_cells H.box
  have hwr := way_ref (cap := cap) (cw := co) hv hf.good H.prs hi
  rw [hf.1] at hwr
  have HWR := Lib.hid hwr
  clear H hi hv hf hfw hmem hwr
  conv => arg 2; whnf
  go_wp2_with fail
  refine HWR.out.mono ?_
  rintro e w2 ⟨rfl, hb2⟩
  have H2 := Lib.hid (HH.out.1.mono hb2)
  have HO := Lib.hid (HH.out.2.mono hb2)
  clear hb2 k0 k1 k2 k3 k4
  cases hw : isWayB p ot
  · clear hw
    go_wp2_with fail
    refine (alive_any _).mono ?_
    rintro e c9 ⟨rfl, hb⟩
    have HB9 := Lib.hid ((H2.out.mono hb).below)
    clear hb
    go_wp2_with fail
    go_ret
    exact ⟨rfl, HB9.out⟩
  · obtain ⟨hle, hlx⟩ := HL.out hw
    have HLX := Lib.hid hlx
    clear hw hlx
    go_wp2_with fail
    have hor := originals_ref (cap := co) HO.out (by rw [HV.out.2.1.1]; omega)
    rw [HV.out.2.1.1] at hor
    refine hor.mono ?_
    rintro e w3 ⟨rfl, rfl⟩
    clear hor
    revert hfo hoo HLX hle
    generalize origN (fewestW p) = fo
    generalize origN ot = oo
    intro hfo hoo hle HLX
    have hb0 : decide ((oo : Int) < (fo : Int)) = false := by simp; omega
    go_wp2_with fail
    go_loopw [239] (fun i wr => ∃ k : Nat, k ≤ p.cards.length ∧ i = .int .i64 k ∧ Hid (oo = fo → ∀ j, j < k → gi ot j = gi (fewestW p) j) ∧ Hid (Below w2.heap.size w2 wr)) (fun i _ => p.cards.length - (intOf i).toNat)
    case atStart => exact ⟨0, by omega, rfl, fun _ j hj => by omega, Below.refl _ _⟩
    case round =>
      obtain ⟨k, hk, rfl, HA, HW⟩ := hrel
      have H4 := Lib.hid (H2.out.mono HW.out)
      have HO4 := Lib.hid (HO.out.mono HW.out)
      by_cases hlt : k < p.cards.length
      · by_cases he : oo = fo
        · have hbe : ((oo : Int) == (fo : Int)) = true := by simp; omega
          have HE := Lib.hid he
          clear he
          obtain ⟨b1, o1, rfl, e1⟩ := HO4.out k (by rw [HV.out.2.1.1]; exact hlt)
          obtain ⟨b2, o2, rfl, e2⟩ := H4.out.few k (by rw [HV.out.2.2.1]; exact hlt)
          have HLK := Lib.hid (HLX.out HE.out k hlt (HA.out HE.out))
          have HAK : Hid (gi ot k = gi (fewestW p) k → ∀ j, j < k + 1 → gi ot j = gi (fewestW p) j) := fun h j hj => by
            by_cases e : j = k
            · subst e; exact h
            · exact HA.out HE.out j (by omega)
          revert e1 e2 HLK HAK
          generalize gi ot k = g1
          generalize gi (fewestW p) k = g2
          intro e1 e2 HLK HAK
          go_wp2_with fail
          have z1 := fun y : Aft wr.heap.size wr => cell_stays y.h e1
          have z2 := fun y : Aft wr.heap.size wr => cell_stays y.h e2
          have E1 := Lib.hid (And.intro e1 e2)
          clear e1 e2
          by_cases hg : g1 = g2
          · have hbg : (g1 != g2) = false := by simpa using hg
            have HG := Lib.hid hg
            clear hg
            refine wp_region_aft mixed (by kernel_rfl) ?_
            repeat (go_big_quiet_step (fail))
            refine wpQuiet_nil ?_
            rintro _ ⟨y, rfl⟩
            clear z1 z2
            have HY := Lib.hid (HW.out.trans (y.h.mono HW.out.size))
            go_wp2_with fail
            go_roundw
            case rel => exact ⟨k + 1, by omega, by go_num, fun _ => HAK.out HG.out, HY.out⟩
            case measure => simp [intOf]; omega
          · have hbg : (g1 != g2) = true := by simpa using hg
            have hlt2 := HLK.out hg
            clear hg
            refine wp_region_aft mixed (by kernel_rfl) ?_
            repeat (go_big_quiet_step (fail))
            refine wpQuiet_nil ?_
            rintro _ ⟨y, rfl⟩
            clear z1 z2
            have f1 := cell_stays y.h E1.out.1
            have f2 := cell_stays y.h E1.out.2
            have HY := Lib.hid ((H4.out.mono y.h).below)
            revert HY f1 f2
            generalize y.v = V
            intro f1 f2 HY
            go_wp2_with fail
            have z1 := fun y : Aft V.heap.size V => cell_stays y.h f1
            have z2 := fun y : Aft V.heap.size V => cell_stays y.h f2
            have C1 := Lib.hid (fun y : Aft V.heap.size V => alive_any y.v)
            clear f1 f2
            refine wp_region_aft mixed (by kernel_rfl) ?_
            repeat (go_big_quiet_step ((go_at_call 14; exact calls_aft (C1.out _))))
            refine wpQuiet_nil ?_
            rintro _ ⟨y2, rfl⟩
            clear z1 z2 C1
            go_wp2_with fail
            go_ret
            exact ⟨rfl, HY.out.trans (y2.h.mono HY.out.size)⟩
        · have hbe : ((oo : Int) == (fo : Int)) = false := by simp; omega
          have HE := Lib.hid he
          clear he
          go_wp2_with fail
          refine wp_region_aft mixed (by kernel_rfl) ?_
          repeat (go_big_quiet_step (fail))
          refine wpQuiet_nil ?_
          rintro _ ⟨y, rfl⟩
          have HY := Lib.hid (HW.out.trans (y.h.mono HW.out.size))
          go_wp2_with fail
          go_roundw
          case rel => exact ⟨k + 1, by omega, by go_num, fun h => (HE.out h).elim, HY.out⟩
          case measure => simp [intOf]; omega
      · obtain rfl : k = p.cards.length := by omega
        go_wp2_with fail
        refine (alive_any _).mono ?_
        rintro e c9 ⟨rfl, hb⟩
        have HB9 := Lib.hid ((H4.out.mono hb).below)
        clear hb
        go_wp2_with fail
        go_ret
        exact ⟨rfl, HB9.out⟩
end Go.Proofs.Ytnfhlbmapfoifaa

namespace Go.Proofs.Ytnfhlbmapfoifaa
open Go.RowKit
set_option linter.unusedVariables false
set_option linter.unusedSimpArgs false

noncomputable def f23C : Code := (Try.f11.body.bind (fromRegF 23)).getD .skip
/-- A list under way: its first numbers are fine. -/
def HalfW (n k : Nat) (x : List Int) : Prop := x.length = n ∧ ∀ j, j < k → -1 ≤ gi x j ∧ gi x j < n ∧ gi x j ≠ (j : Int)
theorem HalfW.set {n k : Nat} {x : List Int} (h : HalfW n k x) (hk : k < n) {v : Int} (h1 : -1 ≤ v) (h2 : v < n) (h3 : v ≠ (k : Int)) : HalfW n (k + 1) (x.set k v) := ⟨by simp [h.1], fun j hj => by
  rw [gi_set (by rw [h.1]; omega)]
  by_cases e : k = j
  · subst e; rw [if_pos rfl]; exact ⟨h1, h2, h3⟩
  · rw [if_neg e]; exact h.2 j (by omega)⟩
theorem HalfW.put {n k : Nat} {x : List Int} (h : HalfW n k x) (v : Int) : HalfW n k (x.set k v) := ⟨by simp [h.1], fun j hj => by
  have e : gi (x.set k v) j = gi x j := by
    unfold gi
    simp only [List.getD_eq_getElem?_getD, List.getElem?_set]
    rw [if_neg (by omega)]
  rw [e]; exact h.2 j hj⟩
/-- What lies in memory while the other way is made. -/
structure OtW (n ob : Nat) (x : List Int) (w0 w : World) : Prop where
  below : Below w0.heap.size w0 w
  at_ : ob = w0.heap.size
  row : w.heap[ob]? = some (.cells (intArr x) 3 (0, 0))
theorem OtW.cell {n ob : Nat} {x : List Int} {w0 w : World} (h : OtW n ob x w0 w) {k : Nat} (hk : k < x.length) : w.cell? ⟨ob, k, none⟩ = some (.int .i64 (gi x k)) := by
  rw [cell_of_heap h.row]
  simp [intArr, gi, hk]
theorem OtW.set {n ob : Nat} {x : List Int} {w0 w : World} (h : OtW n ob x w0 w) (k : Nat) (v : Int) : OtW n ob (x.set k v) w0 (w.setCell ⟨ob, k, none⟩ (.int .i64 v)) :=
  ⟨h.below.setCell (by show w0.heap.size ≤ ob; have := h.at_; omega) _, h.at_, by rw [← intArr_set]; exact heap_setCell_at h.row _⟩
set_option maxRecDepth 100000 in
set_option maxHeartbeats 8000000 in
theorem few23 {p : Prs} {a : Option Addr} {cap bx : Nat} {aw : Option Addr} {cw : Nat} {ab : Option Addr} {lb cb : Nat} {w0 w : World} (H : ChF p a cap bx aw ab lb w0 w) (hlb : lb ≤ 9223372036854775807) (hv : p.valid = true)
    {s0 s3 s4 s7 s8 s9 s10 s11 s12 s13 s14 s15 s16 s17 s18 s19 s20 s21 s22 s23 s24 s25 s26 s27 s28 s29 s30 s31 s32 s33 s34 s35 s36 s37 s38 s39 s40 s41 s42 s43 s44 s45 s46 s47 s48 s49 s50 s51 s52 s53 s54 s55 s56 s57 s58 s59 s60 s61 s62 s63 s64 s65 s66 s67 s68 s69 s70 s71 s72 s73 s74 s75 s76 s77 s78 s79 s80 s81 s82 s83 s84 s85 s86 s87 s88 s89 s90 s91 s92 s93 s94 s95 s96 s97 s98 s99 s100 s101 s102 s103 s104 s105 s106 s107 s108 s109 s110 s111 s112 s113 s114 s115 s116 s117 s118 s119 s120 s121 s122 s123 s124 s125 s126 s127 s128 s129 s130 s131 s132 s133 s134 s135 s136 s137 s138 s139 s140 s141 s142 s143 s144 s145 s146 s147 s148 s149 s150 s151 s152 s153 s154 s155 s156 s157 s158 s159 s160 s161 s162 s163 s164 s165 s166 s167 s168 s169 s170 s171 s172 s173 s174 s175 s176 s177 s178 s179 s180 s181 s182 s183 s184 s185 s186 s187 s188 s189 s190 s191 s192 s193 s194 s195 s196 s197 s198 s199 s200 s201 s202 s203 s204 s205 s206 s207 s208 s209 s210 s211 s212 s213 s214 s215 s216 s217 s218 s219 s220 s221 s222 s223 s224 s225 s226 s227 s228 s229 s230 s231 s232 s233 s234 s235 s236 s237 s238 s239 s240 s241 s242 s243 s244 s245 s246 s247 s248 s249 s250 s251 s252 s253 s254 s255 s256 s257 s258 s259 s260 s261 s262 s263 s264 s265 s266 s267 s268 s269 : Value} :
    Code.wp Try.prog f23C (bodyPost Try.prog Try.f11 fun e w' => e = .returned (.bool true) ∧ Below w0.heap.size w0 w') { tmps := #[s0, .slice ab lb cb, .pointer (some ⟨bx, 0, none⟩), s3, s4, .slice aw p.cards.length cw, .int .i64 (origN (fewestW p)), s7, s8, s9, s10, s11, s12, s13, s14, s15, s16, s17, s18, s19, s20, s21, s22, s23, s24, s25, s26, s27, s28, s29, s30, s31, s32, s33, s34, s35, s36, s37, s38, s39, s40, s41, s42, s43, s44, s45, s46, s47, s48, s49, s50, s51, s52, s53, s54, s55, s56, s57, s58, s59, s60, s61, s62, s63, s64, s65, s66, s67, s68, s69, s70, s71, s72, s73, s74, s75, s76, s77, s78, s79, s80, s81, s82, s83, s84, s85, s86, s87, s88, s89, s90, s91, s92, s93, s94, s95, s96, s97, s98, s99, s100, s101, s102, s103, s104, s105, s106, s107, s108, s109, s110, s111, s112, s113, s114, s115, s116, s117, s118, s119, s120, s121, s122, s123, s124, s125, s126, s127, s128, s129, s130, s131, s132, s133, s134, s135, s136, s137, s138, s139, s140, s141, s142, s143, s144, s145, s146, s147, s148, s149, s150, s151, s152, s153, s154, s155, s156, s157, s158, s159, s160, s161, s162, s163, s164, s165, s166, s167, s168, s169, s170, s171, s172, s173, s174, s175, s176, s177, s178, s179, s180, s181, s182, s183, s184, s185, s186, s187, s188, s189, s190, s191, s192, s193, s194, s195, s196, s197, s198, s199, s200, s201, s202, s203, s204, s205, s206, s207, s208, s209, s210, s211, s212, s213, s214, s215, s216, s217, s218, s219, s220, s221, s222, s223, s224, s225, s226, s227, s228, s229, s230, s231, s232, s233, s234, s235, s236, s237, s238, s239, s240, s241, s242, s243, s244, s245, s246, s247, s248, s249, s250, s251, s252, s253, s254, s255, s256, s257, s258, s259, s260, s261, s262, s263, s264, s265, s266, s267, s268, s269], defers := [] } w := by
  have hn5 := (valid_parts hv).1
  have hfw := fine_way (fewest_mem hv)
  obtain ⟨i0, hi0, hi1, hi2, hi3⟩ := info_parts infoI
  have hmk : ∀ w, (Instr.makeSlice 42 (.int .i64 (p.cards.length : Int)) (.int .i64 (p.cards.length : Int))).run Try.prog w = .ok (.slice (some ⟨w.heap.size, 0, none⟩) p.cards.length p.cards.length) (w.alloc (.cells (intArr (List.replicate p.cards.length 0)) 3)) := by
    intro w
    have h := run_make (P := Try.prog) (w := w) 42 3 i0 _ Try.underlying42 hi0 hi1 .i64 .i64 (p.cards.length : Int) (p.cards.length : Int) (by omega) (by omega) (by rw [hi3]; omega) (by omega)
    rw [← made_ints]
    simpa [hi2, Value.cells] using h
  have HH := Lib.hid H
  have HV := Lib.hid (And.intro hv hfw)
  have hot : OtW p.cards.length w.heap.size (List.replicate p.cards.length 0) w (w.alloc (.cells (intArr (List.replicate p.cards.length 0)) 3)) := ⟨(Below.refl _ w).alloc (Nat.le_refl _) _, rfl, World.alloc_heap_new w _⟩
  have HOT := Lib.hid hot
  clear H hv hfw hot hi0 hi1 hi2 hi3
  conv => arg 2; whnf
  refine wp_seq_hid ?_
  intro K1 HK1
  go_wp2_with fail
  refine HK1.out _ _ ?_
  refine wp_seq_hid ?_
  intro K2 HK2
  go_wp2_with fail
  revert HOT
  generalize w.alloc (.cells (intArr (List.replicate p.cards.length 0)) 3) = W1
  intro HOT
  go_loopw [188] (fun i wr => ∃ (k : Nat) (ot : List Int), k ≤ p.cards.length ∧ i = .int .i64 k ∧ Hid (HalfW p.cards.length k ot) ∧ Hid (OtW p.cards.length w.heap.size ot w wr)) (fun i _ => p.cards.length - (intOf i).toNat)
  case atStart => exact ⟨0, _, by omega, rfl, ⟨by simp, fun j hj => by omega⟩, HOT.out⟩
  case round =>
    obtain ⟨k, ot, hk, rfl, HHF, HO⟩ := hrel
    by_cases hlt : k < p.cards.length
    · have ca := HO.out.cell (k := k) (by rw [HHF.out.1]; exact hlt)
      have fa : wr.frozen? ⟨w.heap.size, k, none⟩ = false := frozen_of_heap HO.out.row
      have HO2 := Lib.hid (HO.out.set k (-1))
      have hb0 : ((-1 : Int) == (k : Int)) = false := by simp
      by_cases hz : lb = 0
      · subst hz
        have HF : Hid (HalfW p.cards.length (k + 1) (ot.set k (-1))) := HHF.out.set hlt (by omega) (by omega) (by omega)
        go_wp2_with fail
        go_roundw
        case rel => exact ⟨k + 1, (ot.set k (-1)), by omega, by go_num, HF.out, HO2.out⟩
        case measure => simp [intOf]; omega
      · have hlb0 : 0 < lb := by omega
        obtain ⟨q, hq⟩ : ∃ q : Nat, k % lb = q := ⟨_, rfl⟩
        have hql : q < lb := by rw [← hq]; exact Nat.mod_lt _ hlb0
        have hmod : ((k : Int) % (lb : Int)) = (q : Int) := by rw [← hq]; exact (Int.natCast_emod _ _).symm
        obtain ⟨bb, off, rfl, xb, x0, x1, hcell⟩ := (HH.out.bytes.mono HO2.out.below) q hql
        obtain ⟨z, hkz⟩ := Int.eq_ofNat_of_zero_le (Int.emod_nonneg xb (show ((p.cards.length : Int) + 1) ≠ 0 by omega))
        have hzl : z < p.cards.length + 1 := by have := Int.emod_lt_of_pos xb (show (0 : Int) < (p.cards.length : Int) + 1 by omega); omega
        have HO3 := Lib.hid (HO2.out.set k ((z : Int) - 1))
        obtain ⟨bf, of_, haw, hcf⟩ := (HH.out.few.mono HO3.out.below) k (by rw [HV.out.2.1]; exact hlt)
        have HQ := Lib.hid hq
        have ca3 := HO3.out.cell (k := k) (by simp [HHF.out.1, hlt])
        rw [gi_set (by simp [HHF.out.1, hlt]), if_pos rfl] at ca3
        clear hq
        subst haw
        have HP2 : Hid (HalfW p.cards.length k (ot.set k (-1))) := HHF.out.put (-1)
        have HP3 : Hid (HalfW p.cards.length k ((ot.set k (-1)).set k ((z : Int) - 1))) := HP2.out.put ((z : Int) - 1)
        have HO4 := Lib.hid (HO3.out.set k (gi (fewestW p) k))
        have HG : Hid (HalfW p.cards.length (k + 1) (((ot.set k (-1)).set k ((z : Int) - 1)).set k (gi (fewestW p) k))) := HP3.out.set hlt (HV.out.2.2 k hlt).1 (HV.out.2.2 k hlt).2.1 (HV.out.2.2 k hlt).2.2
        have HG3 : Hid ((z : Int) - 1 ≠ (k : Int) → HalfW p.cards.length (k + 1) ((ot.set k (-1)).set k ((z : Int) - 1))) := fun h => HP2.out.set hlt (by omega) (by omega) h
        go_wp2_with fail
        all_goals go_roundw
        all_goals first
          | exact ⟨k + 1, _, by omega, by go_num, HG.out, HO4.out⟩
          | exact ⟨k + 1, _, by omega, by go_num, HG3.out (by first | omega | (rename_i hh; simpa using hh)), HO3.out⟩
          | (simp [intOf]; omega)
    · obtain rfl : k = p.cards.length := by omega
      have HCH := Lib.hid (HH.out.mono HO.out.below)
      have HII : Hid (IsInts wr (some ⟨w.heap.size, 0, none⟩) ot) := fun i hi => ⟨w.heap.size, 0, rfl, by rw [Nat.zero_add]; exact HO.out.cell hi⟩
      go_wp2_with fail
      refine HK2.out _ _ ?_
      exact few33 (cb := cb) HCH.out HV.out.1 HII.out HHF.out
end Go.Proofs.Ytnfhlbmapfoifaa

