/- CopyChain: the last part: the fewest originals; who comes from whom. CopyChain: the orders that are told, one after the other. -/
import Derived.Test.YtnfhlbmapfoifaaR33
import Derived.Test.YtnfhlbmapfoifaaR6
import Derived.Test.YtnfhlbmapfoifaaR21
namespace Go.Proofs.Ytnfhlbmapfoifaa
open Go.RowKit
set_option linter.unusedVariables false
set_option linter.unusedSimpArgs false

def leftReg : Code → Option Nat
  | .region id _ _ => some id
  | .seq a _ => leftReg a
  | _ => none
def fromRegion (n : Nat) : Code → Option Code
  | .seq a b => if leftReg a = some n then some (.seq a b) else match fromRegion n a with
    | some c => some c
    | none => fromRegion n b
  | .block _ c => fromRegion n c
  | .scope c => fromRegion n c
  | .loop c => fromRegion n c
  | .cond _ a b => match fromRegion n a with
    | some c => some c
    | none => fromRegion n b
  | _ => none
/-- What lies in memory behind the picks. -/
structure ChW (p : Prs) (a : Option Addr) (cap bx nb : Nat) (av : Option Addr) (own : List Int) (ao : Option Addr) (w0 w : World) : Prop where
  below : Below w0.heap.size w0 w
  box : w.heap[bx]? = some (.cells (p.cells a cap) 26 (0, 0))
  prs : IsPrts w a p.cards
  num : w.heap[nb]? = some (.cells #[.int .i64 p.cards.length] 3 (0, 0))
  lists : IsLists w av (ordersL p)
  own : IsInts w ao own
theorem ChW.mono {p : Prs} {a : Option Addr} {cap bx nb : Nat} {av : Option Addr} {own : List Int} {ao : Option Addr} {w0 w w' : World} (h : ChW p a cap bx nb av own ao w0 w) (hb : Below w.heap.size w w') : ChW p a cap bx nb av own ao w0 w' :=
  ⟨h.below.trans (hb.mono h.below.size), (hb.block _ (heap_lt h.box)).trans h.box, h.prs.mono hb, (hb.block _ (heap_lt h.num)).trans h.num, h.lists.mono hb, h.own.mono hb⟩
theorem ChW.cells {p : Prs} {a : Option Addr} {cap bx nb : Nat} {av : Option Addr} {own : List Int} {ao : Option Addr} {w0 w : World} (h : ChW p a cap bx nb av own ao w0 w) :
    w.cell? ⟨bx, 0, none⟩ = some (.slice a p.cards.length cap) ∧ w.cell? ⟨bx, 1, none⟩ = some (.int .i64 p.llo) ∧ w.cell? ⟨bx, 2, none⟩ = some (.int .i64 p.lhi) ∧ w.cell? ⟨bx, 3, none⟩ = some (.int .i64 p.olo) ∧ w.cell? ⟨bx, 4, none⟩ = some (.int .i64 p.ohi) ∧ w.cell? ⟨nb, 0, none⟩ = some (.int .i64 p.cards.length) := by
  obtain ⟨k0, k1, k2, k3, k4⟩ := prs_cells h.box
  exact ⟨k0, k1, k2, k3, k4, by rw [cell_of_heap h.num]; rfl⟩
noncomputable def c39C : Code := (Try.f5.body.bind (fromRegion 39)).getD .skip
set_option maxRecDepth 100000 in
set_option maxHeartbeats 8000000 in
theorem chain39 {p : Prs} {a : Option Addr} {cap bx nb : Nat} {av : Option Addr} {cv : Nat} {own : List Int} {ao : Option Addr} {co : Nat} {w0 w : World} {told : Bool} (H : ChW p a cap bx nb av own ao w0 w) (hv : p.valid = true) (hne : ordersL p ≠ []) (hp : IsPerm p.cards.length own) (htold : told = isWayB p (chainL own))
    {s0 s1 s3 s4 s6 s8 s10 s11 s12 s13 s15 s16 s17 s18 s19 s20 s21 s22 s23 s24 s25 s26 s27 s28 s29 s30 s31 s32 s33 s34 s35 s36 s37 s38 s39 s40 s41 s42 s43 s44 s45 s46 s47 s48 s49 s50 s51 s52 s53 s54 s55 s56 s57 s58 s59 s60 s61 s62 s63 s64 s65 s66 s67 s68 s69 s70 s71 s72 s73 s74 s75 s76 s77 s78 s79 s80 s81 s82 s83 s84 s85 s86 s87 s88 s89 s90 s91 s92 s93 s94 s95 s96 s97 s98 s99 s100 s101 s102 s103 s104 s105 s106 s107 s108 s109 s110 s111 s112 s113 s114 s115 s116 s117 s118 s119 s120 s121 s122 s123 s124 s125 s126 s127 s128 s129 s130 s131 s132 s133 s134 s135 s136 s137 s138 s139 s140 s141 s142 s143 s144 s145 s146 s147 s148 s149 s150 s151 s152 s153 s154 s155 s156 s157 s158 s159 s160 s161 s162 s163 s164 s165 s166 s167 s168 s169 s170 s171 s172 s173 s174 s175 s176 s177 s178 s179 s180 s181 s182 s183 s184 s185 s186 s187 s188 s189 s190 s191 s192 s193 s194 s195 s196 s197 s198 s199 s200 s201 s202 s203 s204 s205 s206 s207 s208 s209 s210 s211 s212 s213 s214 s215 s216 s217 s218 s219 s220 s221 s222 s223 s224 s225 s226 s227 s228 s229 s230 s231 s232 s233 s234 s235 s236 s237 s238 s239 s240 s241 s242 s243 s244 s245 s246 s247 : Value} :
    Code.wp Try.prog c39C (bodyPost Try.prog Try.f5 fun e w' => e = .returned (.bool true) ∧ Below w0.heap.size w0 w') { tmps := #[s0, s1, .pointer (some ⟨bx, 0, none⟩), s3, s4, .slice av (ordersL p).length cv, s6, .pointer (some ⟨nb, 0, none⟩), s8, .slice ao own.length co, s10, s11, s12, s13, .bool told, s15, s16, s17, s18, s19, s20, s21, s22, s23, s24, s25, s26, s27, s28, s29, s30, s31, s32, s33, s34, s35, s36, s37, s38, s39, s40, s41, s42, s43, s44, s45, s46, s47, s48, s49, s50, s51, s52, s53, s54, s55, s56, s57, s58, s59, s60, s61, s62, s63, s64, s65, s66, s67, s68, s69, s70, s71, s72, s73, s74, s75, s76, s77, s78, s79, s80, s81, s82, s83, s84, s85, s86, s87, s88, s89, s90, s91, s92, s93, s94, s95, s96, s97, s98, s99, s100, s101, s102, s103, s104, s105, s106, s107, s108, s109, s110, s111, s112, s113, s114, s115, s116, s117, s118, s119, s120, s121, s122, s123, s124, s125, s126, s127, s128, s129, s130, s131, s132, s133, s134, s135, s136, s137, s138, s139, s140, s141, s142, s143, s144, s145, s146, s147, s148, s149, s150, s151, s152, s153, s154, s155, s156, s157, s158, s159, s160, s161, s162, s163, s164, s165, s166, s167, s168, s169, s170, s171, s172, s173, s174, s175, s176, s177, s178, s179, s180, s181, s182, s183, s184, s185, s186, s187, s188, s189, s190, s191, s192, s193, s194, s195, s196, s197, s198, s199, s200, s201, s202, s203, s204, s205, s206, s207, s208, s209, s210, s211, s212, s213, s214, s215, s216, s217, s218, s219, s220, s221, s222, s223, s224, s225, s226, s227, s228, s229, s230, s231, s232, s233, s234, s235, s236, s237, s238, s239, s240, s241, s242, s243, s244, s245, s246, s247], defers := [] } w := by
  have hn5 := (valid_parts hv).1
  have HH := Lib.hid H
  have HV := Lib.hid (And.intro hv (And.intro hne hp))
  have HT := Lib.hid htold
  have hf1 := few_one hne
  have hfew := orders_few hv
  have HOL : Hid (∀ o ∈ ordersL p, o.length ≤ 16) := fun o h => by rw [orders_at h]; omega
  have HFB : Hid (∀ {i k : Nat}, i < p.cards.length → k < p.cards.length → i ≠ k → ∃ c : Int, fromE p i k = (c, 0) ∧ (c = 0 → befL (ordersL p) k i = []) ∧ (c = 2 → befL (ordersL p) k i = ordersL p) ∧ 0 ≤ c ∧ c ≤ 2) := fun h1 h2 h3 => from_bef hv hne h1 h2 h3
  obtain ⟨k0, k1, k2, k3, k4, k5⟩ := H.cells
  clear H hv hne hp htold
  conv => arg 2; whnf
  go_wp2_with fail
  refine (fewest_yes HH.out.prs (by omega) HV.out.1).mono ?_
  rintro e w2 ⟨a1, c1, rfl, _, hb2⟩
  have H2 := Lib.hid (HH.out.mono hb2)
  clear hb2 k0 k1 k2 k3 k4 k5
  generalize (fewestW p).length = fl
  revert hf1
  generalize origN (fewestW p) = few
  intro hf1
  obtain ⟨k0, k1, k2, k3, k4, k5⟩ := H2.out.cells
  go_wp2_with fail
  refine (chain_ref HV.out.1 HV.out.2.2.1 (fun x hx => by have := HV.out.2.2.2.2 x hx; have h2 := HV.out.2.2.1; omega) H2.out.prs H2.out.own).mono ?_
  rintro e w3 ⟨rfl, hb3⟩
  have H3 := Lib.hid (H2.out.mono hb3)
  rw [← HT.out]
  clear hb3 k0 k1 k2 k3 k4 k5
  have hbt : (told != told) = false := by simp
  obtain ⟨k0, k1, k2, k3, k4, k5⟩ := H3.out.cells
  go_wp2_with fail
  clear k0 k1 k2 k3 k4 k5 hbt
  go_loopw [201] (fun i wr => ∃ j : Nat, j ≤ p.cards.length ∧ i = .int .i64 j ∧ Hid (Below w3.heap.size w3 wr)) (fun i _ => p.cards.length - (intOf i).toNat)
  case atStart => exact ⟨0, by omega, rfl, Below.refl _ _⟩
  case round =>
    obtain ⟨j, hj, rfl, HW⟩ := hrel
    have H4 := Lib.hid (H3.out.mono HW.out)
    obtain ⟨k0, k1, k2, k3, k4, k5⟩ := H4.out.cells
    by_cases hlt : j < p.cards.length
    · go_wp2_with fail
      clear k0 k1 k2 k3 k4 k5
      go_loopw [205] (fun i wr => ∃ k : Nat, k ≤ p.cards.length ∧ i = .int .i64 k ∧ Hid (Below w3.heap.size w3 wr)) (fun i _ => p.cards.length - (intOf i).toNat)
      case atStart => exact ⟨0, by omega, rfl, HW.out⟩
      case round =>
        obtain ⟨k, hk, rfl, HW⟩ := hrel
        have H5 := Lib.hid (H3.out.mono HW.out)
        obtain ⟨k0, k1, k2, k3, k4, k5⟩ := H5.out.cells
        by_cases hltk : k < p.cards.length
        · by_cases hjk : j = k
          · have hb : ((j : Int) == (k : Int)) = true := by simp; omega
            have HJ := Lib.hid hjk
            clear hjk
            go_wp2_with fail
            go_roundw
            case rel => exact ⟨k + 1, by omega, by go_num, HW.out⟩
            case measure => simp [intOf]; omega
          · have hb : ((j : Int) == (k : Int)) = false := by simp; omega
            obtain ⟨c, hc, hc0, hc2, hcl, hcu⟩ := HFB.out hlt hltk hjk
            have HCC := Lib.hid (And.intro hc (And.intro hc0 hc2))
            have HJ := Lib.hid hjk
            clear hjk hc hc0 hc2
            go_wp2_with fail
            refine (from_any H5.out.prs (by omega) j k).mono ?_
            rintro e w6 ⟨rfl, hb6⟩
            rw [HCC.out.1]
            have H6 := Lib.hid (H5.out.mono hb6)
            have HW6 := Lib.hid (HW.out.trans (hb6.mono HW.out.size))
            clear hb6 k0 k1 k2 k3 k4 k5
            obtain ⟨k0, k1, k2, k3, k4, k5⟩ := H6.out.cells
            go_wp2_with fail
            refine (split_ref H6.out.lists (by omega) HOL.out k j).mono ?_
            rintro e w7 ⟨a3, c3, a4, c4, rfl, O1, _⟩
            have HW7 := Lib.hid (HW6.out.trans (O1.1.mono HW6.out.size))
            have hbl : (befL (ordersL p) (k : Int) (j : Int)).length ≤ (ordersL p).length := List.length_filter_le _ _
            clear O1 k0 k1 k2 k3 k4 k5
            rcases (show c = 0 ∨ c = 1 ∨ c = 2 by omega) with e | e | e
            · have hz := HCC.out.2.1 e
              rw [e, hz]
              clear hz hbl HCC
              go_wp2_with fail
              go_roundw
              case rel => exact ⟨k + 1, by omega, by go_num, HW7.out⟩
              case measure => simp [intOf]; omega
            · rw [e]
              revert hbl
              generalize (befL (ordersL p) (k : Int) (j : Int)).length = lb
              generalize (aftL (ordersL p) (k : Int) (j : Int)).length = la
              intro hbl
              go_wp2_with fail
              go_roundw
              case rel => exact ⟨k + 1, by omega, by go_num, HW7.out⟩
              case measure => simp [intOf]; omega
            · have hz := HCC.out.2.2 e
              rw [e, hz]
              clear hz hbl HCC
              generalize (aftL (ordersL p) (k : Int) (j : Int)).length = la
              go_wp2_with fail
              go_roundw
              case rel => exact ⟨k + 1, by omega, by go_num, HW7.out⟩
              case measure => simp [intOf]; omega
        · obtain rfl : k = p.cards.length := by omega
          go_wp2_with fail
          go_roundw
          case rel => exact ⟨j + 1, by omega, by go_num, HW.out⟩
          case measure => simp [intOf]; omega
    · obtain rfl : j = p.cards.length := by omega
      go_wp2_with fail
      refine (alive_any _).mono ?_
      rintro e c9 ⟨rfl, hb⟩
      have HB9 := Lib.hid ((H4.out.mono hb).below)
      clear hb
      go_wp2_with fail
      go_ret
      exact ⟨rfl, HB9.out⟩
end Go.Proofs.Ytnfhlbmapfoifaa

namespace Go.Proofs.Ytnfhlbmapfoifaa
open Go.RowKit
set_option linter.unusedVariables false
set_option linter.unusedSimpArgs false

theorem lex_prev {p : Prs} {k : Nat} (h : k + 1 < (ordersL p).length) : lexLt ((ordersL p).getD k []) ((ordersL p).getD (k + 1) []) := by
  have h1 := List.pairwise_iff_getElem.1 (orders_lex (p := p)) k (k + 1) (by omega) h (by omega)
  simpa [show k < (ordersL p).length by omega, h] using h1
noncomputable def c25C : Code := (Try.f5.body.bind (fromRegion 25)).getD .skip
set_option maxRecDepth 100000 in
set_option maxHeartbeats 8000000 in
theorem chain25 {p : Prs} {a : Option Addr} {cap bx nb : Nat} {av : Option Addr} {cv : Nat} {own : List Int} {ao : Option Addr} {co : Nat} {w0 w : World} (H : ChW p a cap bx nb av own ao w0 w) (hv : p.valid = true) (hne : ordersL p ≠ []) (hp : IsPerm p.cards.length own)
    {s0 s1 s3 s4 s6 s10 s11 s12 s13 s14 s15 s16 s17 s18 s19 s20 s21 s22 s23 s24 s25 s26 s27 s28 s29 s30 s31 s32 s33 s34 s35 s36 s37 s38 s39 s40 s41 s42 s43 s44 s45 s46 s47 s48 s49 s50 s51 s52 s53 s54 s55 s56 s57 s58 s59 s60 s61 s62 s63 s64 s65 s66 s67 s68 s69 s70 s71 s72 s73 s74 s75 s76 s77 s78 s79 s80 s81 s82 s83 s84 s85 s86 s87 s88 s89 s90 s91 s92 s93 s94 s95 s96 s97 s98 s99 s100 s101 s102 s103 s104 s105 s106 s107 s108 s109 s110 s111 s112 s113 s114 s115 s116 s117 s118 s119 s120 s121 s122 s123 s124 s125 s126 s127 s128 s129 s130 s131 s132 s133 s134 s135 s136 s137 s138 s139 s140 s141 s142 s143 s144 s145 s146 s147 s148 s149 s150 s151 s152 s153 s154 s155 s156 s157 s158 s159 s160 s161 s162 s163 s164 s165 s166 s167 s168 s169 s170 s171 s172 s173 s174 s175 s176 s177 s178 s179 s180 s181 s182 s183 s184 s185 s186 s187 s188 s189 s190 s191 s192 s193 s194 s195 s196 s197 s198 s199 s200 s201 s202 s203 s204 s205 s206 s207 s208 s209 s210 s211 s212 s213 s214 s215 s216 s217 s218 s219 s220 s221 s222 s223 s224 s225 s226 s227 s228 s229 s230 s231 s232 s233 s234 s235 s236 s237 s238 s239 s240 s241 s242 s243 s244 s245 s246 s247 : Value} :
    Code.wp Try.prog c25C (bodyPost Try.prog Try.f5 fun e w' => e = .returned (.bool true) ∧ Below w0.heap.size w0 w') { tmps := #[s0, s1, .pointer (some ⟨bx, 0, none⟩), s3, s4, .slice av (ordersL p).length cv, s6, .pointer (some ⟨nb, 0, none⟩), .func (.func 25) #[] #[.pointer (some ⟨nb, 0, none⟩)], .slice ao own.length co, s10, s11, s12, s13, s14, s15, s16, s17, s18, s19, s20, s21, s22, s23, s24, s25, s26, s27, s28, s29, s30, s31, s32, s33, s34, s35, s36, s37, s38, s39, s40, s41, s42, s43, s44, s45, s46, s47, s48, s49, s50, s51, s52, s53, s54, s55, s56, s57, s58, s59, s60, s61, s62, s63, s64, s65, s66, s67, s68, s69, s70, s71, s72, s73, s74, s75, s76, s77, s78, s79, s80, s81, s82, s83, s84, s85, s86, s87, s88, s89, s90, s91, s92, s93, s94, s95, s96, s97, s98, s99, s100, s101, s102, s103, s104, s105, s106, s107, s108, s109, s110, s111, s112, s113, s114, s115, s116, s117, s118, s119, s120, s121, s122, s123, s124, s125, s126, s127, s128, s129, s130, s131, s132, s133, s134, s135, s136, s137, s138, s139, s140, s141, s142, s143, s144, s145, s146, s147, s148, s149, s150, s151, s152, s153, s154, s155, s156, s157, s158, s159, s160, s161, s162, s163, s164, s165, s166, s167, s168, s169, s170, s171, s172, s173, s174, s175, s176, s177, s178, s179, s180, s181, s182, s183, s184, s185, s186, s187, s188, s189, s190, s191, s192, s193, s194, s195, s196, s197, s198, s199, s200, s201, s202, s203, s204, s205, s206, s207, s208, s209, s210, s211, s212, s213, s214, s215, s216, s217, s218, s219, s220, s221, s222, s223, s224, s225, s226, s227, s228, s229, s230, s231, s232, s233, s234, s235, s236, s237, s238, s239, s240, s241, s242, s243, s244, s245, s246, s247], defers := [] } w := by
  have hn5 := (valid_parts hv).1
  have HH := Lib.hid H
  have HV := Lib.hid (And.intro hv (And.intro hne hp))
  have hfew := orders_few hv
  have HOL : Hid (∀ k, k < (ordersL p).length → IsPerm p.cards.length ((ordersL p).getD k []) ∧ isWayB p (chainL ((ordersL p).getD k [])) = true) := fun k hk => orders_iff.1 (by simp [hk])
  have hlen : own.length ≤ 5 := by rw [hp.1]; exact hn5
  clear H hv hne hp
  conv => arg 2; whnf
  refine wp_seq_hid ?_
  intro K1 HK1
  go_wp2_with fail
  refine HK1.out _ _ ?_
  refine wp_seq_hid ?_
  intro K2 HK2
  go_wp2_with fail
  go_loopw [14, 119] (fun t i wr => ∃ (k : Nat) (told : Bool), k ≤ (ordersL p).length ∧ i = .int .i64 k ∧ t = .bool told ∧ Hid (told = decide (own ∈ (ordersL p).take k)) ∧ Hid (Below w.heap.size w wr)) (fun _ i _ => (ordersL p).length - (intOf i).toNat)
  case atStart => exact ⟨0, false, by omega, rfl, rfl, by simp [Hid], Below.refl _ _⟩
  case round =>
    obtain ⟨k, told, hk, rfl, rfl, HT, HW⟩ := hrel
    have H2 := Lib.hid (HH.out.mono HW.out)
    by_cases hlt : k < (ordersL p).length
    · obtain ⟨bb, off, hal, hat⟩ : ∃ bb off, av = some ⟨bb, off, none⟩ ∧ ∀ q, q < (ordersL p).length → ∃ ax cx, wr.cell? ⟨bb, off + q, none⟩ = some (.slice ax p.cards.length cx) ∧ IsInts wr ax ((ordersL p).getD q []) := by
        obtain ⟨bb, off, e, _⟩ := H2.out.lists k hlt
        refine ⟨bb, off, e, fun q hq => ?_⟩
        obtain ⟨b', off', e', ax, cx, h1, h2⟩ := H2.out.lists q hq
        rw [e] at e'
        cases e'
        rw [(HOL.out q hq).1.1] at h1
        exact ⟨ax, cx, h1, h2⟩
      subst hal
      have HAT := Lib.hid hat
      obtain ⟨ax, cx, hcell, hints⟩ := hat k hlt
      clear hat
      have HX := Lib.hid (HOL.out k hlt)
      have HI := Lib.hid hints
      have HTN : Hid (∀ t2 : Bool, t2 = (told || decide ((ordersL p).getD k [] = own)) → t2 = decide (own ∈ (ordersL p).take (k + 1))) := fun t2 h => by
        rw [h, HT.out, List.take_succ_eq_append_getElem hlt]
        have e : (ordersL p).getD k [] = (ordersL p)[k] := by simp [hlt]
        have h5 : (own ∈ (ordersL p).take k ++ [(ordersL p)[k]]) ↔ (own ∈ (ordersL p).take k ∨ (ordersL p)[k] = own) := by rw [List.mem_append, List.mem_singleton, eq_comm]
        rw [e, decide_eq_decide.2 h5, Bool.decide_or]
      have HLX : Hid (∀ k0, k = k0 + 1 → lexLt ((ordersL p).getD k0 []) ((ordersL p).getD k [])) := fun k0 e => by subst e; exact lex_prev hlt
      clear hints
      obtain ⟨k0, k1, k2, k3, k4, k5⟩ := H2.out.cells
      go_wp2_with fail
      refine (order25 hn5 HX.out.1 HI.out H2.out.num).mono ?_
      rintro e w3 ⟨rfl, rfl⟩
      go_wp2_with fail
      have hch := chain_ref (cap := cap) (co := cx) HV.out.1 HX.out.1.1 (fun x hx => by have := HX.out.1.2.2 x hx; have h2 := HX.out.1.1; omega) H2.out.prs HI.out
      rw [HX.out.1.1] at hch
      refine hch.mono ?_
      rintro e w4 ⟨rfl, hb4⟩
      rw [HX.out.2]
      have HB4 := Lib.hid hb4
      clear hb4 k0 k1 k2 k3 k4 k5 hcell hch
      cases told with
      | true =>
        cases k with
        | zero =>
          go_wp2_with fail
          go_roundw
          case rel => exact ⟨0 + 1, true, by omega, by go_num, rfl, HTN.out _ (by first | (simp; done) | (simp [hlt]; done) | (rw [Bool.false_or]; simp [List.getD, hlt])), HW.out.trans (HB4.out.mono HW.out.size)⟩
          case measure => simp [intOf]; omega
        | succ k =>
          obtain ⟨kk, hkk1, hkk2, hag, hlt2⟩ := HLX.out k rfl
          obtain ⟨ay, cy, hcy, hiy⟩ := HAT.out k (by omega)
          have hcy2 := cell_stays HB4.out hcy
          have hpx := (HX.out.1).1
          have hpy := (HOL.out k (by omega)).1.1
          have HAG := Lib.hid (And.intro hag hlt2)
          have HY := Lib.hid (hiy.mono HB4.out)
          have HXI := Lib.hid (HI.out.mono HB4.out)
          have HCY := Lib.hid hcy2
          have HN := Lib.hid (((HB4.out).block _ (heap_lt H2.out.num)).trans H2.out.num)
          have hkn : kk < p.cards.length := by omega
          clear hcy hcy2 hiy hag hlt2
          have HPL := Lib.hid (And.intro hpy hpx)
          rw [hpx] at hkk2
          rw [hpy] at hkk1
          clear hpx hpy
          revert HAG HY HXI HTN HPL
          generalize (ordersL p).getD k [] = pv
          generalize (ordersL p).getD (k + 1) [] = x
          intro HTN HAG HY HXI HPL
          go_wp2_with fail
          go_loopw [17] (fun i wr => ∃ m : Nat, m ≤ kk ∧ i = .int .i64 m ∧ Hid (Below w4.heap.size w4 wr)) (fun i _ => kk + 1 - (intOf i).toNat)
          case atStart => exact ⟨0, by omega, rfl, Below.refl _ _⟩
          case round =>
            obtain ⟨m, hm, rfl, HW2⟩ := hrel
            have hmn : (m : Int) < (p.cards.length : Int) := by omega
            have d0 := cell_stays HW2.out HCY.out
            obtain ⟨b1, o1, rfl, e1⟩ := (HY.out.mono HW2.out) m (by have := HPL.out.1; omega)
            obtain ⟨b2, o2, rfl, e2⟩ := (HXI.out.mono HW2.out) m (by have := HPL.out.2; omega)
            have d3 : wr.cell? ⟨nb, 0, none⟩ = some (.int .i64 p.cards.length) := by rw [cell_of_heap ((HW2.out.block _ (heap_lt HN.out)).trans HN.out)]; rfl
            have d1 := e1
            have d2 := e2
            clear e1 e2
            by_cases hmk : m < kk
            · have heq := HAG.out.1 m hmk
              have hbe : (gi pv m == gi x m) = true := by simpa using heq
              revert d1 d2 hbe
              generalize gi pv m = g1
              generalize gi x m = g2
              intro d1 d2 hbe
              go_wp2_with fail
              have z0 := fun y : Aft wr.heap.size wr => cell_stays y.h d0
              have z1 := fun y : Aft wr.heap.size wr => cell_stays y.h d1
              have z2 := fun y : Aft wr.heap.size wr => cell_stays y.h d2
              have z3 := fun y : Aft wr.heap.size wr => cell_stays y.h d3
              clear d0 d1 d2 d3
              refine wp_region_aft mixed (by kernel_rfl) ?_
              repeat (go_big_quiet_step (fail))
              refine wpQuiet_nil ?_
              rintro _ ⟨y, rfl⟩
              clear z0 z1 z2 z3
              have HY1 := Lib.hid (HW2.out.trans (y.h.mono HW2.out.size))
              go_wp2_with fail
              go_roundw
              case rel => exact ⟨m + 1, by omega, by go_num, HY1.out⟩
              case measure => simp [intOf]; omega
            · obtain rfl : m = kk := by omega
              have hlt3 := HAG.out.2
              have hbe : (gi pv m == gi x m) = false := by simp; omega
              have hbe2 : decide (gi x m < gi pv m) = false := by simp; omega
              revert d1 d2 hbe hbe2 hlt3
              generalize gi pv m = g1
              generalize gi x m = g2
              intro d1 d2 hlt3 hbe hbe2
              have d1k := Lib.hid d1
              have d2k := Lib.hid d2
              go_wp2_with fail
              have z0 := fun y : Aft wr.heap.size wr => cell_stays y.h d0
              have z1 := fun y : Aft wr.heap.size wr => cell_stays y.h d1
              have z2 := fun y : Aft wr.heap.size wr => cell_stays y.h d2
              have z3 := fun y : Aft wr.heap.size wr => cell_stays y.h d3
              clear d0 d1 d2 d3
              refine wp_region_aft mixed (by kernel_rfl) ?_
              repeat (go_big_quiet_step (fail))
              refine wpQuiet_nil ?_
              rintro _ ⟨y, rfl⟩
              clear z0 z1 z2 z3
              have HY1 := Lib.hid (HW2.out.trans (y.h.mono HW2.out.size))
              have f0 := cell_stays HY1.out HCY.out
              have f3 : y.v.cell? ⟨nb, 0, none⟩ = some (.int .i64 p.cards.length) := by rw [cell_of_heap ((HY1.out.block _ (heap_lt HN.out)).trans HN.out)]; rfl
              have f1 := cell_stays y.h d1k.out
              have f2 := cell_stays y.h d2k.out
              revert HY1 f0 f1 f2 f3
              generalize y.v = V
              intro HY1 d0 d1 d2 d3
              have hbm : ((m : Int) == (p.cards.length : Int)) = false := by simp; omega
              clear d1k d2k
              go_wp2_with fail
              have z0 := fun y : Aft V.heap.size V => cell_stays y.h d0
              have z1 := fun y : Aft V.heap.size V => cell_stays y.h d1
              have z2 := fun y : Aft V.heap.size V => cell_stays y.h d2
              have z3 := fun y : Aft V.heap.size V => cell_stays y.h d3
              clear d0 d1 d2 d3
              refine wp_region_aft mixed (by kernel_rfl) ?_
              repeat (go_big_quiet_step (fail))
              refine wpQuiet_nil ?_
              rintro _ ⟨y, rfl⟩
              clear z0 z1 z2 z3
              have HY2 := Lib.hid ((HW.out.trans (HB4.out.mono HW.out.size)).trans ((HY1.out.trans (y.h.mono HY1.out.size)).mono (HW.out.trans (HB4.out.mono HW.out.size)).size))
              go_wp2_with fail
              go_roundw
              case rel => exact ⟨k + 1 + 1, true, by omega, by go_num, rfl, HTN.out _ (by simp), HY2.out⟩
              case measure => simp [intOf]; omega
      | false =>
        have hin := ints27 (ca := cx) (cb := co) (HI.out.mono HB4.out) (H2.out.own.mono HB4.out) (by rw [HX.out.1.1]; omega) (by omega)
        rw [HX.out.1.1] at hin
        have HIN := Lib.hid hin
        clear hin
        go_wp2_with fail
        refine HIN.out.mono ?_
        rintro e w5 ⟨rfl, hb5⟩
        have HB5 := Lib.hid (HB4.out.trans (hb5.mono HB4.out.size))
        clear hb5
        cases k with
        | zero =>
          go_wp2_with fail
          go_roundw
          case rel => exact ⟨0 + 1, _, by omega, by go_num, rfl, HTN.out _ (by first | (simp; done) | (simp [hlt]; done) | (rw [Bool.false_or]; simp [List.getD, hlt])), HW.out.trans (HB5.out.mono HW.out.size)⟩
          case measure => simp [intOf]; omega
        | succ k =>
          obtain ⟨kk, hkk1, hkk2, hag, hlt2⟩ := HLX.out k rfl
          obtain ⟨ay, cy, hcy, hiy⟩ := HAT.out k (by omega)
          have hcy2 := cell_stays HB5.out hcy
          have hpx := (HX.out.1).1
          have hpy := (HOL.out k (by omega)).1.1
          have HAG := Lib.hid (And.intro hag hlt2)
          have HY := Lib.hid (hiy.mono HB5.out)
          have HXI := Lib.hid (HI.out.mono HB5.out)
          have HCY := Lib.hid hcy2
          have HN := Lib.hid (((HB5.out).block _ (heap_lt H2.out.num)).trans H2.out.num)
          have hkn : kk < p.cards.length := by omega
          clear hcy hcy2 hiy hag hlt2
          have HPL := Lib.hid (And.intro hpy hpx)
          rw [hpx] at hkk2
          rw [hpy] at hkk1
          clear hpx hpy
          revert HAG HY HXI HTN HPL
          generalize (ordersL p).getD k [] = pv
          generalize (ordersL p).getD (k + 1) [] = x
          intro HTN HAG HY HXI HPL
          go_wp2_with fail
          go_loopw [17] (fun i wr => ∃ m : Nat, m ≤ kk ∧ i = .int .i64 m ∧ Hid (Below w5.heap.size w5 wr)) (fun i _ => kk + 1 - (intOf i).toNat)
          case atStart => exact ⟨0, by omega, rfl, Below.refl _ _⟩
          case round =>
            obtain ⟨m, hm, rfl, HW2⟩ := hrel
            have hmn : (m : Int) < (p.cards.length : Int) := by omega
            have d0 := cell_stays HW2.out HCY.out
            obtain ⟨b1, o1, rfl, e1⟩ := (HY.out.mono HW2.out) m (by have := HPL.out.1; omega)
            obtain ⟨b2, o2, rfl, e2⟩ := (HXI.out.mono HW2.out) m (by have := HPL.out.2; omega)
            have d3 : wr.cell? ⟨nb, 0, none⟩ = some (.int .i64 p.cards.length) := by rw [cell_of_heap ((HW2.out.block _ (heap_lt HN.out)).trans HN.out)]; rfl
            have d1 := e1
            have d2 := e2
            clear e1 e2
            by_cases hmk : m < kk
            · have heq := HAG.out.1 m hmk
              have hbe : (gi pv m == gi x m) = true := by simpa using heq
              revert d1 d2 hbe
              generalize gi pv m = g1
              generalize gi x m = g2
              intro d1 d2 hbe
              go_wp2_with fail
              have z0 := fun y : Aft wr.heap.size wr => cell_stays y.h d0
              have z1 := fun y : Aft wr.heap.size wr => cell_stays y.h d1
              have z2 := fun y : Aft wr.heap.size wr => cell_stays y.h d2
              have z3 := fun y : Aft wr.heap.size wr => cell_stays y.h d3
              clear d0 d1 d2 d3
              refine wp_region_aft mixed (by kernel_rfl) ?_
              repeat (go_big_quiet_step (fail))
              refine wpQuiet_nil ?_
              rintro _ ⟨y, rfl⟩
              clear z0 z1 z2 z3
              have HY1 := Lib.hid (HW2.out.trans (y.h.mono HW2.out.size))
              go_wp2_with fail
              go_roundw
              case rel => exact ⟨m + 1, by omega, by go_num, HY1.out⟩
              case measure => simp [intOf]; omega
            · obtain rfl : m = kk := by omega
              have hlt3 := HAG.out.2
              have hbe : (gi pv m == gi x m) = false := by simp; omega
              have hbe2 : decide (gi x m < gi pv m) = false := by simp; omega
              revert d1 d2 hbe hbe2 hlt3
              generalize gi pv m = g1
              generalize gi x m = g2
              intro d1 d2 hlt3 hbe hbe2
              have d1k := Lib.hid d1
              have d2k := Lib.hid d2
              go_wp2_with fail
              have z0 := fun y : Aft wr.heap.size wr => cell_stays y.h d0
              have z1 := fun y : Aft wr.heap.size wr => cell_stays y.h d1
              have z2 := fun y : Aft wr.heap.size wr => cell_stays y.h d2
              have z3 := fun y : Aft wr.heap.size wr => cell_stays y.h d3
              clear d0 d1 d2 d3
              refine wp_region_aft mixed (by kernel_rfl) ?_
              repeat (go_big_quiet_step (fail))
              refine wpQuiet_nil ?_
              rintro _ ⟨y, rfl⟩
              clear z0 z1 z2 z3
              have HY1 := Lib.hid (HW2.out.trans (y.h.mono HW2.out.size))
              have f0 := cell_stays HY1.out HCY.out
              have f3 : y.v.cell? ⟨nb, 0, none⟩ = some (.int .i64 p.cards.length) := by rw [cell_of_heap ((HY1.out.block _ (heap_lt HN.out)).trans HN.out)]; rfl
              have f1 := cell_stays y.h d1k.out
              have f2 := cell_stays y.h d2k.out
              revert HY1 f0 f1 f2 f3
              generalize y.v = V
              intro HY1 d0 d1 d2 d3
              have hbm : ((m : Int) == (p.cards.length : Int)) = false := by simp; omega
              clear d1k d2k
              go_wp2_with fail
              have z0 := fun y : Aft V.heap.size V => cell_stays y.h d0
              have z1 := fun y : Aft V.heap.size V => cell_stays y.h d1
              have z2 := fun y : Aft V.heap.size V => cell_stays y.h d2
              have z3 := fun y : Aft V.heap.size V => cell_stays y.h d3
              clear d0 d1 d2 d3
              refine wp_region_aft mixed (by kernel_rfl) ?_
              repeat (go_big_quiet_step (fail))
              refine wpQuiet_nil ?_
              rintro _ ⟨y, rfl⟩
              clear z0 z1 z2 z3
              have HY2 := Lib.hid ((HW.out.trans (HB5.out.mono HW.out.size)).trans ((HY1.out.trans (y.h.mono HY1.out.size)).mono (HW.out.trans (HB5.out.mono HW.out.size)).size))
              go_wp2_with fail
              go_roundw
              case rel => exact ⟨k + 1 + 1, _, by omega, by go_num, rfl, HTN.out _ (by simp), HY2.out⟩
              case measure => simp [intOf]; omega
    · obtain rfl : k = (ordersL p).length := by omega
      have HT2 : Hid (told = isWayB p (chainL own)) := by
        rw [Hid, HT.out, List.take_length]
        have h2 := HV.out.2.2
        have h3 := orders_iff (p := p) (o := own)
        cases hw : isWayB p (chainL own)
        · rw [hw] at h3; simp [h3]
        · rw [hw] at h3; simp [h3, h2]
      go_wp2_with fail
      refine HK2.out _ _ ?_
      exact chain39 H2.out HV.out.1 HV.out.2.1 HV.out.2.2 HT2.out
end Go.Proofs.Ytnfhlbmapfoifaa

