/- CopyFewest: parents and fits. CopyFewest: the head; all prints. -/
import Derived.Test.YtnfhlbmapfoifaaR41
namespace Go.Proofs.Ytnfhlbmapfoifaa
open Go.RowKit
set_option linter.unusedVariables false
set_option linter.unusedSimpArgs false

noncomputable def f9C : Code := (Try.f11.body.bind (fromRegF 9)).getD .skip
theorem par_lt {p : Prs} (hn : p.cards.length ≤ 5) {i : Nat} (hi : i < p.cards.length) : parS (parL p i (waysL p).length) < 32 := by
  refine parS_lt (fun x hx => ?_)
  unfold parL at hx
  rw [List.take_length, List.mem_map] at hx
  obtain ⟨y, hy, rfl⟩ := hx
  have := ((ways_iff.1 hy).2.1 i hi).2.1
  omega
theorem bit_i64 (S k : Nat) (hS : S < 32) : bits .and .i64 ((S : Int) / 2 ^ k) 1 = if S.testBit k then 1 else 0 := by
  have h1 : ((S : Int) / 2 ^ k) = ((S / 2 ^ k : Nat) : Int) := by simp
  have h2 : S / 2 ^ k < 2 ^ 62 := Nat.lt_of_le_of_lt (Nat.div_le_self _ _) (by omega)
  rw [h1]
  have h3 := (bits_nat .i64 62 (by decide) (fun n h1 h2 => by rw [IntKind.wrap_i64]; omega) (S / 2 ^ k) 1 h2 (by decide)).1
  rw [show ((1 : Nat) : Int) = 1 from rfl] at h3
  rw [h3, Nat.and_one_is_mod, Nat.testBit_eq_decide_div_mod_eq]
  by_cases h : S / 2 ^ k % 2 = 1
  · simp [h]
  · simp [h]; omega
theorem fits_other {p : Prs} (hv : p.valid = true) {i m : Nat} (hi : i < p.cards.length) (hm : m < p.cards.length) (h : i ≠ m) : fitsE p i m = (isWayB (bothP p i m) [-1, 0], 0) := by
  have h1 : p.card (i : Int) = true := by unfold Prs.card inR; simp; omega
  have h2 : p.card (m : Int) = true := by unfold Prs.card inR; simp; omega
  have h3 : openE p (p.card (i : Int) && p.card (m : Int) && !decide ((i : Int) = (m : Int))) = 0 := by
    rw [h1, h2]
    have : ((i : Int) = (m : Int)) = False := by simp; omega
    simp [openE, hv, this]
  unfold fitsE
  simp only
  rw [if_pos h3]
  rfl
theorem fits_same {p : Prs} (hv : p.valid = true) (i : Int) : fitsE p i i = (false, 2) := by
  have h3 : openE p (p.card i && p.card i && !decide True) = 2 := by simp [openE, hv]
  unfold fitsE
  simp only
  rw [if_neg (by rw [h3]; decide), h3]
set_option maxRecDepth 100000 in
set_option maxHeartbeats 8000000 in
theorem few9 {p : Prs} {a : Option Addr} {cap bx : Nat} {aw : Option Addr} {cw : Nat} {ab : Option Addr} {lb cb : Nat} {w0 w : World} (H : ChF p a cap bx aw ab lb w0 w) (hlb : lb ≤ 9223372036854775807) (hv : p.valid = true)
    {s0 s3 s4 s7 s8 s9 s10 s11 s12 s13 s14 s15 s16 s17 s18 s19 s20 s21 s22 s23 s24 s25 s26 s27 s28 s29 s30 s31 s32 s33 s34 s35 s36 s37 s38 s39 s40 s41 s42 s43 s44 s45 s46 s47 s48 s49 s50 s51 s52 s53 s54 s55 s56 s57 s58 s59 s60 s61 s62 s63 s64 s65 s66 s67 s68 s69 s70 s71 s72 s73 s74 s75 s76 s77 s78 s79 s80 s81 s82 s83 s84 s85 s86 s87 s88 s89 s90 s91 s92 s93 s94 s95 s96 s97 s98 s99 s100 s101 s102 s103 s104 s105 s106 s107 s108 s109 s110 s111 s112 s113 s114 s115 s116 s117 s118 s119 s120 s121 s122 s123 s124 s125 s126 s127 s128 s129 s130 s131 s132 s133 s134 s135 s136 s137 s138 s139 s140 s141 s142 s143 s144 s145 s146 s147 s148 s149 s150 s151 s152 s153 s154 s155 s156 s157 s158 s159 s160 s161 s162 s163 s164 s165 s166 s167 s168 s169 s170 s171 s172 s173 s174 s175 s176 s177 s178 s179 s180 s181 s182 s183 s184 s185 s186 s187 s188 s189 s190 s191 s192 s193 s194 s195 s196 s197 s198 s199 s200 s201 s202 s203 s204 s205 s206 s207 s208 s209 s210 s211 s212 s213 s214 s215 s216 s217 s218 s219 s220 s221 s222 s223 s224 s225 s226 s227 s228 s229 s230 s231 s232 s233 s234 s235 s236 s237 s238 s239 s240 s241 s242 s243 s244 s245 s246 s247 s248 s249 s250 s251 s252 s253 s254 s255 s256 s257 s258 s259 s260 s261 s262 s263 s264 s265 s266 s267 s268 s269 : Value} :
    Code.wp Try.prog f9C (bodyPost Try.prog Try.f11 fun e w' => e = .returned (.bool true) ∧ Below w0.heap.size w0 w') { tmps := #[s0, .slice ab lb cb, .pointer (some ⟨bx, 0, none⟩), s3, s4, .slice aw p.cards.length cw, .int .i64 (origN (fewestW p)), s7, s8, s9, s10, s11, s12, s13, s14, s15, s16, s17, s18, s19, s20, s21, s22, s23, s24, s25, s26, s27, s28, s29, s30, s31, s32, s33, s34, s35, s36, s37, s38, s39, s40, s41, s42, s43, s44, s45, s46, s47, s48, s49, s50, s51, s52, s53, s54, s55, s56, s57, s58, s59, s60, s61, s62, s63, s64, s65, s66, s67, s68, s69, s70, s71, s72, s73, s74, s75, s76, s77, s78, s79, s80, s81, s82, s83, s84, s85, s86, s87, s88, s89, s90, s91, s92, s93, s94, s95, s96, s97, s98, s99, s100, s101, s102, s103, s104, s105, s106, s107, s108, s109, s110, s111, s112, s113, s114, s115, s116, s117, s118, s119, s120, s121, s122, s123, s124, s125, s126, s127, s128, s129, s130, s131, s132, s133, s134, s135, s136, s137, s138, s139, s140, s141, s142, s143, s144, s145, s146, s147, s148, s149, s150, s151, s152, s153, s154, s155, s156, s157, s158, s159, s160, s161, s162, s163, s164, s165, s166, s167, s168, s169, s170, s171, s172, s173, s174, s175, s176, s177, s178, s179, s180, s181, s182, s183, s184, s185, s186, s187, s188, s189, s190, s191, s192, s193, s194, s195, s196, s197, s198, s199, s200, s201, s202, s203, s204, s205, s206, s207, s208, s209, s210, s211, s212, s213, s214, s215, s216, s217, s218, s219, s220, s221, s222, s223, s224, s225, s226, s227, s228, s229, s230, s231, s232, s233, s234, s235, s236, s237, s238, s239, s240, s241, s242, s243, s244, s245, s246, s247, s248, s249, s250, s251, s252, s253, s254, s255, s256, s257, s258, s259, s260, s261, s262, s263, s264, s265, s266, s267, s268, s269], defers := [] } w := by
  have hn5 := (valid_parts hv).1
  have hfw := fine_way (fewest_mem hv)
  have HH := Lib.hid H
  have HV := Lib.hid (And.intro hv hfw)
  clear H hv hfw
  conv => arg 2; whnf
  refine wp_seq_hid ?_
  intro K2 HK2
  go_wp2_with fail
  go_loopw [104] (fun i wr => ∃ k : Nat, k ≤ p.cards.length ∧ i = .int .i64 k ∧ Hid (Below w.heap.size w wr)) (fun i _ => p.cards.length - (intOf i).toNat)
  case atStart => exact ⟨0, by omega, rfl, Below.refl _ _⟩
  case round =>
    obtain ⟨k, hk, rfl, HW⟩ := hrel
    have H4 := Lib.hid (HH.out.mono HW.out)
    by_cases hlt : k < p.cards.length
    · obtain ⟨bf, of_, haw, hcf⟩ := H4.out.few k (by rw [HV.out.2.1]; exact hlt)
      subst haw
      have hfk := HV.out.2.2 k hlt
      have hpar := parents_any (cap := cap) H4.out.prs (by omega) (k : Int)
      rw [parentsE_yes HV.out.1 hlt, par_orig HV.out.1 hlt] at hpar
      have HPAR := Lib.hid hpar
      have hs32 := par_lt hn5 hlt
      clear hpar
      have HPB : Hid (∀ m : Nat, (parS (parL p k (waysL p).length)).testBit m = true → m ≠ k ∧ m < p.cards.length ∧ isWayB (bothP p k m) [-1, 0] = true) := fun m h => by
        obtain ⟨x, hx, e⟩ := (par_all hlt).1 h
        have := (ways_iff.1 hx).2.1 k hlt
        rw [e] at this
        exact ⟨fun h => this.2.2 (by rw [h]), by omega, fits_way hx hlt (by omega) e⟩
      have HPF : Hid (∀ m : Nat, gi (fewestW p) k = (m : Int) → (parS (parL p k (waysL p).length)).testBit m = true) := fun m h => (par_all hlt).2 ⟨_, fewest_mem HV.out.1, h⟩
      revert hcf hfk HPAR hs32 HPB HPF
      generalize parS (parL p k (waysL p).length) = S
      generalize gi (fewestW p) k = f
      intro hcf hfk HPAR hs32 HPB HPF
      have e1 : (S : Int) / 2 ^ p.cards.length = 0 := by
        have h2 : S / 2 ^ p.cards.length = 0 := by
          refine Nat.div_eq_of_lt (Nat.lt_pow_two_of_testBit S (fun i hi => ?_))
          cases hb : S.testBit i
          · rfl
          · have := (HPB.out i hb).2.1; omega
        have h1 : ((S : Int) / 2 ^ p.cards.length) = ((S / 2 ^ p.cards.length : Nat) : Int) := by simp
        rw [h1, h2]; rfl
      have e2 : bits .and .i64 ((S : Int) / 2 ^ k) 1 = 0 := by
        rw [bit_i64 S k hs32]
        cases hb : S.testBit k
        · rfl
        · exact ((HPB.out k hb).1 rfl).elim
      obtain ⟨k0, k1, k2, k3, k4⟩ := prs_cells H4.out.box
      go_wp2_with fail
      refine HPAR.out.mono ?_
      rintro e w2 ⟨rfl, hb2⟩
      clear HPAR
      have H5 := Lib.hid (HW.out.trans (hb2.mono HW.out.size))
      clear hb2 k0 k1 k2 k3 k4
      have HREST : Hid (∀ K : Act → World → Prop, True) := fun _ => trivial
      rcases (show f = -1 ∨ ∃ m : Nat, f = (m : Int) from by
        by_cases h : f = -1
        · exact .inl h
        · exact .inr ⟨f.toNat, by omega⟩) with hf | ⟨m0, hf⟩
      · subst hf
        go_wp2_with fail
        go_loopw [153] (fun i wr => ∃ m : Nat, m ≤ p.cards.length ∧ i = .int .i64 m ∧ Hid (Below w.heap.size w wr)) (fun i _ => p.cards.length - (intOf i).toNat)
        case atStart => exact ⟨0, by omega, rfl, H5.out⟩
        case round =>
          obtain ⟨m, hm, rfl, HW⟩ := hrel
          have H6 := Lib.hid (HH.out.mono HW.out)
          by_cases hlm : m < p.cards.length
          · obtain ⟨k0, k1, k2, k3, k4⟩ := prs_cells H6.out.box
            have hfit := fits_any (cap := cap) H6.out.prs (by omega) (k : Int) (m : Int)
            by_cases hmk : k = m
            · subst hmk
              rw [fits_same HV.out.1] at hfit
              have HFIT := Lib.hid hfit
              clear hfit
              have hb : ((k : Int) != (k : Int)) = false := by simp
              go_wp2_with fail
              refine HFIT.out.mono ?_
              rintro e w6 ⟨rfl, hb6⟩
              have HB6 := Lib.hid (HW.out.trans (hb6.mono HW.out.size))
              clear hb6 k0 k1 k2 k3 k4
              go_wp2_with fail
              go_roundw
              case rel => exact ⟨k + 1, by omega, by go_num, HB6.out⟩
              case measure => simp [intOf]; omega
            · rw [fits_other HV.out.1 hlt hlm hmk] at hfit
              have HFIT := Lib.hid hfit
              clear hfit
              have hb : ((m : Int) != (k : Int)) = true := by simp; omega
              cases hw : isWayB (bothP p k m) [-1, 0]
              · have e5 : bits .and .i64 ((S : Int) / 2 ^ m) 1 = 0 := by
                  rw [bit_i64 S m hs32]
                  cases hb : S.testBit m
                  · rfl
                  · have := (HPB.out m hb).2.2
                    rw [hw] at this
                    cases this
                rw [hw] at HFIT
                clear hw
                go_wp2_with fail
                refine HFIT.out.mono ?_
                rintro e w6 ⟨rfl, hb6⟩
                have HB6 := Lib.hid (HW.out.trans (hb6.mono HW.out.size))
                clear hb6 k0 k1 k2 k3 k4
                go_wp2_with fail
                go_roundw
                case rel => exact ⟨m + 1, by omega, by go_num, HB6.out⟩
                case measure => simp [intOf]; omega
              · rw [hw] at HFIT
                clear hw
                go_wp2_with fail
                refine HFIT.out.mono ?_
                rintro e w6 ⟨rfl, hb6⟩
                have HB6 := Lib.hid (HW.out.trans (hb6.mono HW.out.size))
                clear hb6 k0 k1 k2 k3 k4
                go_wp2_with fail
                go_roundw
                case rel => exact ⟨m + 1, by omega, by go_num, HB6.out⟩
                case measure => simp [intOf]; omega
          · obtain rfl : m = p.cards.length := by omega
            go_wp2_with fail
            go_roundw
            case rel => exact ⟨k + 1, by omega, by go_num, HW.out⟩
            case measure => simp [intOf]; omega
      · subst hf
        have hfb : (((m0 : Nat) : Int) != -1) = true := by simp
        have e3 : bits .and .i64 ((S : Int) / 2 ^ m0) 1 = 1 := by
          rw [bit_i64 S m0 hs32, if_pos (HPF.out m0 rfl)]
        go_wp2_with fail
        go_loopw [153] (fun i wr => ∃ m : Nat, m ≤ p.cards.length ∧ i = .int .i64 m ∧ Hid (Below w.heap.size w wr)) (fun i _ => p.cards.length - (intOf i).toNat)
        case atStart => exact ⟨0, by omega, rfl, H5.out⟩
        case round =>
          obtain ⟨m, hm, rfl, HW⟩ := hrel
          have H6 := Lib.hid (HH.out.mono HW.out)
          by_cases hlm : m < p.cards.length
          · obtain ⟨k0, k1, k2, k3, k4⟩ := prs_cells H6.out.box
            have hfit := fits_any (cap := cap) H6.out.prs (by omega) (k : Int) (m : Int)
            by_cases hmk : k = m
            · subst hmk
              rw [fits_same HV.out.1] at hfit
              have HFIT := Lib.hid hfit
              clear hfit
              have hb : ((k : Int) != (k : Int)) = false := by simp
              go_wp2_with fail
              refine HFIT.out.mono ?_
              rintro e w6 ⟨rfl, hb6⟩
              have HB6 := Lib.hid (HW.out.trans (hb6.mono HW.out.size))
              clear hb6 k0 k1 k2 k3 k4
              go_wp2_with fail
              go_roundw
              case rel => exact ⟨k + 1, by omega, by go_num, HB6.out⟩
              case measure => simp [intOf]; omega
            · rw [fits_other HV.out.1 hlt hlm hmk] at hfit
              have HFIT := Lib.hid hfit
              clear hfit
              have hb : ((m : Int) != (k : Int)) = true := by simp; omega
              cases hw : isWayB (bothP p k m) [-1, 0]
              · have e5 : bits .and .i64 ((S : Int) / 2 ^ m) 1 = 0 := by
                  rw [bit_i64 S m hs32]
                  cases hb : S.testBit m
                  · rfl
                  · have := (HPB.out m hb).2.2
                    rw [hw] at this
                    cases this
                rw [hw] at HFIT
                clear hw
                go_wp2_with fail
                refine HFIT.out.mono ?_
                rintro e w6 ⟨rfl, hb6⟩
                have HB6 := Lib.hid (HW.out.trans (hb6.mono HW.out.size))
                clear hb6 k0 k1 k2 k3 k4
                go_wp2_with fail
                go_roundw
                case rel => exact ⟨m + 1, by omega, by go_num, HB6.out⟩
                case measure => simp [intOf]; omega
              · rw [hw] at HFIT
                clear hw
                go_wp2_with fail
                refine HFIT.out.mono ?_
                rintro e w6 ⟨rfl, hb6⟩
                have HB6 := Lib.hid (HW.out.trans (hb6.mono HW.out.size))
                clear hb6 k0 k1 k2 k3 k4
                go_wp2_with fail
                go_roundw
                case rel => exact ⟨m + 1, by omega, by go_num, HB6.out⟩
                case measure => simp [intOf]; omega
          · obtain rfl : m = p.cards.length := by omega
            go_wp2_with fail
            go_roundw
            case rel => exact ⟨k + 1, by omega, by go_num, HW.out⟩
            case measure => simp [intOf]; omega
    · obtain rfl : k = p.cards.length := by omega
      go_wp2_with fail
      refine HK2.out _ _ ?_
      exact few23 H4.out hlb HV.out.1
end Go.Proofs.Ytnfhlbmapfoifaa

namespace Go.Proofs.Ytnfhlbmapfoifaa
open Go.RowKit
set_option linter.unusedVariables false
set_option linter.unusedSimpArgs false

theorem waysL_le' {p : Prs} (hn : p.cards.length ≤ 5) : (waysL p).length ≤ 7776 := by
  refine Nat.le_trans (onW_len hn p.cards.length []) ?_
  exact Nat.le_trans (Nat.pow_le_pow_right (by decide) hn) (by decide)
set_option maxRecDepth 100000 in
set_option maxHeartbeats 8000000 in
theorem few_great {p : Prs} {a : Option Addr} {cap : Nat} {w : World} (ha : IsPrts w a p.cards) (hg : 16 < p.cards.length) {ab : Option Addr} {lb cb : Nat} (hu : IsU8 w ab lb) (hlb : lb ≤ 9223372036854775807) : Calls Try.prog 11 #[p.v a cap, .slice ab lb cb] w fun e w' => e = .returned (.bool true) ∧ Below w.heap.size w w' := by
  have hb0 : Below w.heap.size w (w.alloc (.cells (p.cells a cap) 26)) := (Below.refl _ w).alloc (Nat.le_refl _) _
  have q0 := World.alloc_heap_new w (.cells (p.cells a cap) 26)
  have HW := Lib.hid (And.intro hb0 (And.intro q0 (ha.mono hb0)))
  clear hb0 q0 ha
  go_enter Try.func11, Try.ntmps11
  go_wp2_with fail
  revert HW
  generalize w.alloc (.cells (p.cells a cap) 26) = w1
  intro HW
  have KP : Hid (∀ v, Below w1.heap.size w1 v → v.heap[w.heap.size]? = some (.cells (p.cells a cap) 26 (0, 0)) ∧ IsPrts v a p.cards ∧ Below w.heap.size w v) := fun v h => ⟨(h.block _ (heap_lt HW.out.2.1)).trans HW.out.2.1, HW.out.2.2.mono h, HW.out.1.trans (h.mono HW.out.1.size)⟩
  obtain ⟨k0, k1, k2, k3, k4⟩ := prs_cells (KP.out w1 (Below.refl _ _)).1
  refine (great5 (KP.out w1 (Below.refl _ _)).2.1).mono ?_
  rintro e b0 ⟨rfl, hb⟩
  have HB := Lib.hid hb
  clear hb k0 k1 k2 k3 k4
  rw [show decide (16 < p.cards.length) = true from by simpa using hg]
  go_wp2_with fail
  refine (alive_any b0).mono ?_
  rintro e c9 ⟨rfl, hb⟩
  have HB9 := Lib.hid (HB.out.trans (hb.mono HB.out.size))
  clear hb
  go_wp2_with fail
  go_ret
  exact ⟨rfl, (KP.out _ HB9.out).2.2⟩
set_option maxRecDepth 100000 in
set_option maxHeartbeats 8000000 in
theorem few_no {p : Prs} {a : Option Addr} {cap : Nat} {w : World} (ha : IsPrts w a p.cards) (hn : p.cards.length ≤ 16) (hv : p.valid = false) {ab : Option Addr} {lb cb : Nat} (hu : IsU8 w ab lb) (hlb : lb ≤ 9223372036854775807) : Calls Try.prog 11 #[p.v a cap, .slice ab lb cb] w fun e w' => e = .returned (.bool true) ∧ Below w.heap.size w w' := by
  have HN := Lib.hid hn
  have HV := Lib.hid hv
  have HWE : Hid (waysE p = (0, 1)) := by
    have h3 : openE p true = 1 := by simp [openE, hv]
    rw [Hid]
    unfold waysE
    simp only
    rw [if_neg (by rw [h3]; decide), h3]
  clear hn hv
  have hb0 : Below w.heap.size w (w.alloc (.cells (p.cells a cap) 26)) := (Below.refl _ w).alloc (Nat.le_refl _) _
  have q0 := World.alloc_heap_new w (.cells (p.cells a cap) 26)
  have HW := Lib.hid (And.intro hb0 (And.intro q0 (ha.mono hb0)))
  clear hb0 q0 ha
  go_enter Try.func11, Try.ntmps11
  go_wp2_with fail
  revert HW
  generalize w.alloc (.cells (p.cells a cap) 26) = w1
  intro HW
  have KP : Hid (∀ v, Below w1.heap.size w1 v → v.heap[w.heap.size]? = some (.cells (p.cells a cap) 26 (0, 0)) ∧ IsPrts v a p.cards ∧ Below w.heap.size w v) := fun v h => ⟨(h.block _ (heap_lt HW.out.2.1)).trans HW.out.2.1, HW.out.2.2.mono h, HW.out.1.trans (h.mono HW.out.1.size)⟩
  obtain ⟨k0, k1, k2, k3, k4⟩ := prs_cells (KP.out w1 (Below.refl _ _)).1
  refine (great5 (KP.out w1 (Below.refl _ _)).2.1).mono ?_
  rintro e b0 ⟨rfl, hb⟩
  have HB := Lib.hid hb
  clear hb k0 k1 k2 k3 k4
  rw [show decide (16 < p.cards.length) = false from by simpa using HN.out]
  obtain ⟨k0, k1, k2, k3, k4⟩ := prs_cells (KP.out b0 HB.out).1
  go_wp2_with fail
  refine (fewest_no (KP.out b0 HB.out).2.1 HN.out HV.out).mono ?_
  rintro e b1 ⟨rfl, hb⟩
  have HB2 := Lib.hid (HB.out.trans (hb.mono HB.out.size))
  clear hb k0 k1 k2 k3 k4 HB
  have HB := HB2
  clear HB2
  obtain ⟨k0, k1, k2, k3, k4⟩ := prs_cells (KP.out b1 HB.out).1
  go_wp2_with fail
  refine (waysC_any (KP.out b1 HB.out).2.1 HN.out).mono ?_
  rintro e b2 ⟨rfl, hb⟩
  have HB2 := Lib.hid (HB.out.trans (hb.mono HB.out.size))
  rw [HWE.out]
  clear hb k0 k1 k2 k3 k4 HB
  have HB := HB2
  clear HB2
  have HPR := prints_any (cap := cap) (KP.out b2 HB.out).2.1 HN.out
  rw [HV.out] at HPR
  obtain ⟨k0, k1, k2, k3, k4⟩ := prs_cells (KP.out b2 HB.out).1
  have HPR2 := Lib.hid HPR
  clear HPR
  go_wp2_with fail
  refine HPR2.out.mono ?_
  rintro e b3 ⟨rfl, hb⟩
  have HB2 := Lib.hid (HB.out.trans (hb.mono HB.out.size))
  clear hb
  go_wp2_with fail
  refine (alive_any b3).mono ?_
  rintro e c9 ⟨rfl, hb⟩
  have HB9 := Lib.hid (HB2.out.trans (hb.mono HB2.out.size))
  clear hb
  go_wp2_with fail
  go_ret
  exact ⟨rfl, (KP.out _ HB9.out).2.2⟩
set_option maxRecDepth 100000 in
set_option maxHeartbeats 8000000 in
theorem few_yes {p : Prs} {a : Option Addr} {cap : Nat} {w : World} (ha : IsPrts w a p.cards) (hn : p.cards.length ≤ 16) (hv : p.valid = true) {ab : Option Addr} {lb cb : Nat} (hu : IsU8 w ab lb) (hlb : lb ≤ 9223372036854775807) : Calls Try.prog 11 #[p.v a cap, .slice ab lb cb] w fun e w' => e = .returned (.bool true) ∧ Below w.heap.size w w' := by
  have HN := Lib.hid hn
  have hfw := fine_way (fewest_mem hv)
  have HV := Lib.hid (And.intro hv (And.intro hfw (And.intro hu (And.intro hlb (ways_iff.1 (fewest_mem hv)).2.2))))
  have hwe : waysE p = (((waysL p).length : Int), 0) := by
    have h3 : openE p true = 0 := by simp [openE, hv]
    unfold waysE
    simp only
    rw [if_pos h3]
  have HWE := Lib.hid hwe
  have hwl : 1 ≤ (waysL p).length := List.length_pos_iff.2 (ways_ne hv)
  have hwu := waysL_le' (valid_parts hv).1
  have hn5 := (valid_parts hv).1
  have hor := orig_le (fewestW p)
  rw [hfw.1] at hor
  clear hn hv hfw hu hlb hwe
  have hb0 : Below w.heap.size w (w.alloc (.cells (p.cells a cap) 26)) := (Below.refl _ w).alloc (Nat.le_refl _) _
  have q0 := World.alloc_heap_new w (.cells (p.cells a cap) 26)
  have HW := Lib.hid (And.intro hb0 (And.intro q0 (ha.mono hb0)))
  clear hb0 q0 ha
  go_enter Try.func11, Try.ntmps11
  refine wp_seq_hid ?_
  intro K0 HK0
  go_wp2_with fail
  refine HK0.out _ _ ?_
  refine wp_seq_hid ?_
  intro K1 HK1
  go_wp2_with fail
  revert HW
  generalize w.alloc (.cells (p.cells a cap) 26) = w1
  intro HW
  have KP : Hid (∀ v, Below w1.heap.size w1 v → v.heap[w.heap.size]? = some (.cells (p.cells a cap) 26 (0, 0)) ∧ IsPrts v a p.cards ∧ Below w.heap.size w v) := fun v h => ⟨(h.block _ (heap_lt HW.out.2.1)).trans HW.out.2.1, HW.out.2.2.mono h, HW.out.1.trans (h.mono HW.out.1.size)⟩
  obtain ⟨k0, k1, k2, k3, k4⟩ := prs_cells (KP.out w1 (Below.refl _ _)).1
  refine (great5 (KP.out w1 (Below.refl _ _)).2.1).mono ?_
  rintro e b0 ⟨rfl, hb⟩
  have HB := Lib.hid hb
  clear hb k0 k1 k2 k3 k4
  rw [show decide (16 < p.cards.length) = false from by simpa using HN.out]
  go_wp2_with fail
  refine HK1.out _ _ ?_
  refine wp_seq_hid ?_
  intro K2 HK2
  obtain ⟨k0, k1, k2, k3, k4⟩ := prs_cells (KP.out b0 HB.out).1
  go_wp2_with fail
  refine (fewest_yes (KP.out b0 HB.out).2.1 HN.out HV.out.1).mono ?_
  rintro e b1 ⟨aw, cw, rfl, hi, hb⟩
  have HB2 := Lib.hid (HB.out.trans (hb.mono HB.out.size))
  rw [HV.out.2.1.1]
  have HI := Lib.hid hi
  clear hi
  clear hb k0 k1 k2 k3 k4 HB
  have HB := HB2
  clear HB2
  go_wp2_with fail
  refine HK2.out _ _ ?_
  refine wp_seq_hid ?_
  intro K3 HK3
  obtain ⟨k0, k1, k2, k3, k4⟩ := prs_cells (KP.out b1 HB.out).1
  go_wp2_with fail
  refine (waysC_any (KP.out b1 HB.out).2.1 HN.out).mono ?_
  rintro e b2 ⟨rfl, hb⟩
  have HB2 := Lib.hid (HB.out.trans (hb.mono HB.out.size))
  rw [HWE.out]
  have HI2 := Lib.hid (HI.out.mono hb)
  clear hb k0 k1 k2 k3 k4 HB
  have HB := HB2
  clear HB2
  go_wp2_with fail
  refine HK3.out _ _ ?_
  refine wp_seq_hid ?_
  intro K4 HK4
  revert hwl hwu
  generalize (waysL p).length = nw
  intro hwl hwu
  go_wp2_with fail
  refine HK4.out _ _ ?_
  refine wp_seq_hid ?_
  intro K5 HK5
  have hpr := prints_any (cap := cap) (KP.out b2 HB.out).2.1 HN.out
  rw [HV.out.1] at hpr
  have HPR := Lib.hid hpr
  obtain ⟨k0, k1, k2, k3, k4⟩ := prs_cells (KP.out b2 HB.out).1
  clear hpr
  go_wp2_with fail
  refine HPR.out.mono ?_
  rintro e b3 ⟨rfl, hb⟩
  have HB3 := Lib.hid (HB.out.trans (hb.mono HB.out.size))
  have HI3 := Lib.hid (HI2.out.mono hb)
  clear hb k0 k1 k2 k3 k4
  obtain ⟨k0, k1, k2, k3, k4⟩ := prs_cells (KP.out b3 HB3.out).1
  have hbl : ((p.cards.length : Int) != (p.cards.length : Int)) = false := by simp
  have hfi := fine44 (c := cw) hn5 HV.out.2.1 HI3.out
  rw [HV.out.2.1.1] at hfi
  have HFI := Lib.hid hfi
  have hwr := way_ref (cap := cap) (cw := cw) HV.out.1 HV.out.2.1.good (KP.out b3 HB3.out).2.1 HI3.out
  rw [HV.out.2.1.1, HV.out.2.2.2.2] at hwr
  have HWR := Lib.hid hwr
  clear hfi hwr
  go_wp2_with fail
  refine HFI.out.mono ?_
  rintro e b4 ⟨rfl, rfl⟩
  go_wp2_with fail
  refine HWR.out.mono ?_
  rintro e b5 ⟨rfl, hb⟩
  have HB5 := Lib.hid (HB3.out.trans (hb.mono HB3.out.size))
  have HI5 := Lib.hid (HI3.out.mono hb)
  clear hb k0 k1 k2 k3 k4
  have hrf := originals_ref (cap := cw) HI5.out (by rw [HV.out.2.1.1]; omega)
  rw [HV.out.2.1.1] at hrf
  have HRF := Lib.hid hrf
  clear hrf
  go_wp2_with fail
  refine HRF.out.mono ?_
  rintro e b6 ⟨rfl, rfl⟩
  have hbo : ((origN (fewestW p) : Int) != (origN (fewestW p) : Int)) = false := by simp
  have HC : Hid (ChF p a cap w.heap.size aw ab lb w b5) := ⟨(KP.out b5 HB5.out).2.2, (KP.out b5 HB5.out).1, (KP.out b5 HB5.out).2.1, HI5.out, HV.out.2.2.1.mono (KP.out b5 HB5.out).2.2⟩
  go_wp2_with fail
  refine HK5.out _ _ ?_
  exact few9 HC.out HV.out.2.2.2.1 HV.out.1
theorem copyFewest_any {p : Prs} {a : Option Addr} {cap : Nat} {w : World} (ha : IsPrts w a p.cards) {ab : Option Addr} {lb cb : Nat} (hu : IsU8 w ab lb) (hlb : lb ≤ 9223372036854775807) : Calls Try.prog 11 #[p.v a cap, .slice ab lb cb] w fun e w' => e = .returned (.bool true) ∧ Below w.heap.size w w' := by
  by_cases hg : 16 < p.cards.length
  · exact few_great ha hg hu hlb
  · cases hv : p.valid
    · exact few_no ha (by omega) hv hu hlb
    · exact few_yes ha (by omega) hv hu hlb
end Go.Proofs.Ytnfhlbmapfoifaa

