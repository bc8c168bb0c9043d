/- Orders that are left, by bits and as lists: plain laws. The reference's needs. The reference's Needs, Compare. -/
import Derived.Test.YtnfhlbmapfoifaaR24
import Derived.Test.YtnfhlbmapfoifaaR21
import Derived.Test.YtnfhlbmapfoifaaW48
namespace Go.Proofs.Ytnfhlbmapfoifaa
open Go.RowKit
set_option linter.unusedVariables false

/-- The orders that bits tell. -/
def selS (os : List (List Int)) (S : Nat) : List (List Int) := ((List.range os.length).filter fun k => S.testBit k).map fun k => os.getD k []
def Sub (os : List (List Int)) (S : Nat) : Prop := ∀ i, S.testBit i = true → i < os.length
theorem bef_bit (os : List (List Int)) (S a b i : Nat) : (befS os S a b).testBit i = (decide (i < os.length) && (S.testBit i && befB a b (os.getD i []))) := by
  rw [befS_eq, cmpS_bit]; rfl
theorem aft_bit (os : List (List Int)) (S a b i : Nat) : (aftS os S a b).testBit i = (decide (i < os.length) && (S.testBit i && !befB a b (os.getD i []))) := by
  rw [aftS_eq, cmpS_bit]; rfl
theorem all_bit (n i : Nat) : (allS n).testBit i = decide (i < n) := by rw [allS_eq, cmpS_bit]; simp
theorem bef_in (os : List (List Int)) (S a b : Nat) : Sub os (befS os S a b) := fun i h => by rw [bef_bit] at h; simp at h; exact h.1
theorem aft_in (os : List (List Int)) (S a b : Nat) : Sub os (aftS os S a b) := fun i h => by rw [aft_bit] at h; simp at h; exact h.1
theorem all_in (os : List (List Int)) : Sub os (allS os.length) := fun i h => by rw [all_bit] at h; simpa using h
theorem sel_all (os : List (List Int)) : selS os (allS os.length) = os := by
  unfold selS
  rw [List.filter_eq_self.2 (fun k hk => by rw [all_bit]; simpa using hk)]
  refine List.ext_getElem (by simp) (fun i h1 h2 => ?_)
  simp
  rw [List.getElem?_eq_getElem h2]
  rfl
theorem sel_bef (os : List (List Int)) (S a b : Nat) : befL (selS os S) a b = selS os (befS os S a b) := by
  unfold befL selS
  rw [List.filter_map, List.filter_filter]
  congr 1
  refine List.filter_congr (fun k hk => ?_)
  rw [bef_bit]
  have hk' : k < os.length := by simpa using hk
  simp [hk', Bool.and_comm]
theorem sel_aft (os : List (List Int)) (S a b : Nat) : aftL (selS os S) a b = selS os (aftS os S a b) := by
  unfold aftL selS
  rw [List.filter_map, List.filter_filter]
  congr 1
  refine List.filter_congr (fun k hk => ?_)
  rw [aft_bit]
  have hk' : k < os.length := by simpa using hk
  simp [hk', Bool.and_comm]
theorem cnt_range {S n : Nat} (h : ∀ i, S.testBit i = true → i < n) : ∀ m, n ≤ m → (List.range m).countP (fun k => S.testBit k) = (List.range n).countP (fun k => S.testBit k) := by
  intro m
  induction m with
  | zero => intro h0; obtain rfl : n = 0 := by omega
            rfl
  | succ m ih =>
    intro hm
    by_cases e : n = m + 1
    · rw [e]
    · rw [List.range_succ, List.countP_append, ih (by omega)]
      have : S.testBit m = false := by
        cases hb : S.testBit m
        · rfl
        · have := h m hb; omega
      simp [this]
theorem sel_len {os : List (List Int)} {S : Nat} (hos : os.length ≤ 128) (h : Sub os S) : (selS os S).length = manyS S := by
  unfold selS manyS
  rw [List.length_map, ← List.countP_eq_length_filter, cnt_range h 128 hos]
theorem many_none {S : Nat} (h : ∀ i, S.testBit i = false) : manyS S = 0 := by
  unfold manyS
  rw [List.countP_eq_zero]
  intro i _
  rw [h i]
  simp
theorem bef_all {os : List (List Int)} {S : Nat} (hos : os.length ≤ 128) (h : Sub os S) (a b : Nat) : befS os S a b = S ↔ manyS (aftS os S a b) = 0 := by
  constructor
  · intro e
    refine many_none (fun i => ?_)
    have h1 := bef_bit os S a b i
    rw [e] at h1
    rw [aft_bit]
    cases hs : S.testBit i
    · simp
    · rw [hs] at h1
      have h2 := h1.symm
      simp at h2
      simp [h2.2]
  · intro e
    have h0 := many_zero e (aft_lt hos S a b)
    refine Nat.eq_of_testBit_eq (fun i => ?_)
    have h1 := aft_bit os S a b i
    rw [h0, Nat.zero_testBit] at h1
    rw [bef_bit]
    cases hs : S.testBit i
    · simp
    · have hi := h i hs
      rw [hs] at h1
      have h2 := h1.symm
      simp [hi] at h2
      simp only [List.getD_eq_getElem?_getD]
      simp [hi, h2]
theorem aft_all {os : List (List Int)} {S : Nat} (hos : os.length ≤ 128) (h : Sub os S) (a b : Nat) : aftS os S a b = S ↔ manyS (befS os S a b) = 0 := by
  constructor
  · intro e
    refine many_none (fun i => ?_)
    have h1 := aft_bit os S a b i
    rw [e] at h1
    rw [bef_bit]
    cases hs : S.testBit i
    · simp
    · rw [hs] at h1
      have h2 := h1.symm
      simp at h2
      simp [h2.2]
  · intro e
    have h0 := many_zero e (bef_lt hos S a b)
    refine Nat.eq_of_testBit_eq (fun i => ?_)
    have h1 := bef_bit os S a b i
    rw [h0, Nat.zero_testBit] at h1
    rw [aft_bit]
    cases hs : S.testBit i
    · simp
    · have hi := h i hs
      rw [hs] at h1
      have h2 := h1.symm
      simp [hi] at h2
      simp only [List.getD_eq_getElem?_getD]
      simp [hi, h2]
theorem sel_mem {os : List (List Int)} {S : Nat} {x : List Int} (h : x ∈ selS os S) : x ∈ os := by
  unfold selS at h
  rw [List.mem_map] at h
  obtain ⟨k, hk, rfl⟩ := h
  rw [List.mem_filter] at hk
  have : k < os.length := by simpa using hk.1
  simp [this]
end Go.Proofs.Ytnfhlbmapfoifaa

namespace Go.Proofs.Ytnfhlbmapfoifaa
open Go.RowKit
set_option linter.unusedVariables false
set_option linter.unusedSimpArgs false

theorem needs_ref_few {os : List (List Int)} {n S : Nat} {al : Option Addr} {cap : Nat} {w : World} (h : manyS S ≤ 1) :
    Calls Try.prog 73 #[.int .i64 n, .slice al (manyS S) cap] w fun e w' => e = .returned (.int .i64 (needV os n S : Nat)) ∧ Below w.heap.size w w' := by
  have HE := Lib.hid (needV_few (os := os) (n := n) h)
  go_enter Try.func73, Try.ntmps73
  go_wp2_with fail
  go_ret
  exact ⟨by rw [HE.out]; rfl, Below.refl _ _⟩
set_option maxRecDepth 100000 in
set_option maxHeartbeats 8000000 in
theorem needs_ref_many {os : List (List Int)} {n S : Nat} (hn : n ≤ 5) (hos : os.length ≤ 128) (hl : ∀ o ∈ os, o.length ≤ 16) (hm : ¬ manyS S ≤ 1) (hS : S < 2 ^ 128) (hsub : Sub os S)
    (IH : ∀ (X : Nat) (al : Option Addr) (cap : Nat) (w : World), manyS X < manyS S → X < 2 ^ 128 → Sub os X → IsLists w al (selS os X) → Calls Try.prog 73 #[.int .i64 n, .slice al (manyS X) cap] w fun e w' => e = .returned (.int .i64 (needV os n X : Nat)) ∧ Below w.heap.size w w')
    {al : Option Addr} {cap : Nat} {w : World} (ha : IsLists w al (selS os S)) :
    Calls Try.prog 73 #[.int .i64 n, .slice al (manyS S) cap] w fun e w' => e = .returned (.int .i64 (needV os n S : Nat)) ∧ Below w.heap.size w w' := by
  have HH := Lib.hid (And.intro hos (And.intro hl (And.intro hS (And.intro hsub (And.intro IH ha)))))
  have h128 := many_le S
  have hm2 : 1 < manyS S := by omega
  have HV : Hid (needV os n S = bestN os n S (pairsL n).length) := by rw [Hid, needV_step hos hS hm]; unfold bestN; rw [List.take_length]
  have HB0 : Hid (bestN os n S 0 = n * n) := by rw [Hid]; unfold bestN; rfl
  have HBL : Hid (∀ i, bestN os n S i ≤ 25) := fun i => Nat.le_trans (bestN_le os n S i) (by have := Nat.mul_le_mul hn hn; omega)
  have HX : Hid (∀ a b : Nat, befS os S a b < 2 ^ 128 ∧ aftS os S a b < 2 ^ 128) := fun a b => ⟨bef_lt hos S a b, aft_lt hos S a b⟩
  clear hos hl hS hsub IH ha hm
  have hnn : ((n : Int) * n) = ((n * n : Nat) : Int) := by push_cast; rfl
  have hn25 : n * n ≤ 25 := Nat.mul_le_mul hn hn
  revert hnn hn25 HB0
  generalize n * n = nn
  intro HB0 hnn hn25
  have HNN := Lib.hid hnn
  go_enter Try.func73, Try.ntmps73
  go_wp2_with fail
  go_loopw [5, 6] (fun x i wr => ∃ j q : Nat, j ≤ n ∧ i = .int .i64 j ∧ x = .int .i64 q ∧ q ≤ 25 ∧ Hid (q = bestN os n S (cntP n j)) ∧ Hid (Below w.heap.size w wr)) (fun x i _ => n - (intOf i).toNat)
  case atStart => exact ⟨0, nn, by omega, rfl, rfl, by omega, by rw [Hid, ← HB0.out]; rfl, Below.refl _ _⟩
  case round =>
    obtain ⟨j, q, hj, rfl, rfl, hq, HQ, HW⟩ := hrel
    by_cases hlt : j < n
    · go_wp2_with fail
      go_loopw [5, 7] (fun x i wr => ∃ k q : Nat, j < k ∧ k ≤ n ∧ i = .int .i64 k ∧ x = .int .i64 q ∧ q ≤ 25 ∧ Hid (q = bestN os n S (cntP n j + (k - (j + 1)))) ∧ Hid (Below w.heap.size w wr)) (fun x i _ => n - (intOf i).toNat)
      case atStart => exact ⟨j + 1, q, by omega, by omega, by go_num, rfl, hq, by rw [Hid, HQ.out]; congr 1; omega, HW.out⟩
      case round =>
        obtain ⟨k, q, hjk, hk, rfl, rfl, hq, HQ, HW⟩ := hrel
        by_cases hltk : k < n
        · have hsp := split_ref (cap := cap) (HH.out.2.2.2.2.2.mono HW.out) (by rw [sel_len HH.out.1 HH.out.2.2.2.1]; omega) (fun x hx => HH.out.2.1 x (sel_mem hx)) j k
          rw [sel_bef, sel_aft, sel_len HH.out.1 HH.out.2.2.2.1, sel_len HH.out.1 (bef_in os S j k), sel_len HH.out.1 (aft_in os S j k)] at hsp
          have HSP := Lib.hid hsp
          have HP : Hid (bestN os n S (cntP n j + (k + 1 - (j + 1))) = stepN os n S (bestN os n S (cntP n j + (k - (j + 1)))) (j, k)) := by
            rw [Hid, ← bestN_succ (pairs_at hjk hltk)]
            congr 1
            omega
          have HSN : Hid (∀ z, stepN os n S z (j, k) = if befS os S j k ≠ S ∧ aftS os S j k ≠ S then mnN z (1 + mxN (needV os n (befS os S j k)) (needV os n (aftS os S j k))) else z) := fun _ => rfl
          have HXB : Hid (befS os S j k = S ↔ manyS (aftS os S j k) = 0) := bef_all HH.out.1 HH.out.2.2.2.1 j k
          have HXA : Hid (aftS os S j k = S ↔ manyS (befS os S j k) = 0) := aft_all HH.out.1 HH.out.2.2.2.1 j k
          have HXI := Lib.hid (And.intro (bef_in os S j k) (aft_in os S j k))
          have HX2 := Lib.hid (HX.out j k)
          have HX3 := Lib.hid (And.intro (bef_sub os S j k) (aft_sub os S j k))
          have hmx := many_le (befS os S j k)
          have hmy := many_le (aftS os S j k)
          clear hsp
          revert HSP HSN HXB HXA HXI HX2 HX3 hmx hmy
          generalize befS os S j k = X
          generalize aftS os S j k = Y
          intro HSP HSN HXB HXA HXI HX2 HX3 hmx hmy
          go_wp2_with fail
          refine HSP.out.mono ?_
          rintro e w2 ⟨a1, c1, a2, c2, rfl, O1, O2⟩
          have HB2 := Lib.hid (HW.out.trans (O1.1.mono HW.out.size))
          have HL1 := Lib.hid (O1.lists)
          have HL2 := Lib.hid (O2.lists)
          clear O1 O2 HSP
          by_cases hx : manyS X = 0
          · have HZ : Hid (bestN os n S (cntP n j + (k + 1 - (j + 1))) = q) := by rw [Hid, HP.out, HSN.out, if_neg (fun h => h.2 (HXA.out.2 hx)), HQ.out]
            rw [hx]
            clear hx
            go_wp2_with fail
            go_roundw
            case rel => exact ⟨k + 1, q, by omega, by omega, by go_num, rfl, hq, HZ.out.symm, HB2.out⟩
            case measure => simp [intOf]; omega
          · by_cases hy : manyS Y = 0
            · have HZ : Hid (bestN os n S (cntP n j + (k + 1 - (j + 1))) = q) := by rw [Hid, HP.out, HSN.out, if_neg (fun h => h.1 (HXB.out.2 hy)), HQ.out]
              rw [hy]
              have hx2 : 0 < manyS X := by omega
              clear hx hy
              go_wp2_with fail
              go_roundw
              case rel => exact ⟨k + 1, q, by omega, by omega, by go_num, rfl, hq, HZ.out.symm, HB2.out⟩
              case measure => simp [intOf]; omega
            · have HZ : Hid (bestN os n S (cntP n j + (k + 1 - (j + 1))) = mnN q (1 + mxN (needV os n X) (needV os n Y))) := by
                rw [Hid, HP.out, HSN.out, if_pos ⟨fun h => hy (HXB.out.1 h), fun h => hx (HXA.out.1 h)⟩, ← HQ.out]
              have hx2 : 0 < manyS X := by omega
              have hy2 : 0 < manyS Y := by omega
              have H1 := Lib.hid (many_lt HH.out.2.2.1 HX3.out.1 (fun h => hy (HXB.out.1 h)))
              have H2 := Lib.hid (many_lt HH.out.2.2.1 HX3.out.2 (fun h => hx (HXA.out.1 h)))
              clear hx hy
              have C1 := Lib.hid (HH.out.2.2.2.2.1 X a1 c1 w2 H1.out HX2.out.1 HXI.out.1 HL1.out)
              have hux := needV_le (n := n) HH.out.1 HX2.out.1
              have huy := needV_le (n := n) HH.out.1 HX2.out.2
              have hnn2 : n * n ≤ 25 := by have := Nat.mul_le_mul hn hn; omega
              have C2 : Hid (∀ w3, Below w2.heap.size w2 w3 → _) := fun w3 h => HH.out.2.2.2.2.1 Y a2 c2 w3 H2.out HX2.out.2 HXI.out.2 (HL2.out.mono h)
              have hux2 : needV os n X ≤ 25 := Nat.le_trans hux hnn2
              have huy2 : needV os n Y ≤ 25 := Nat.le_trans huy hnn2
              clear hux huy hnn2
              revert HZ C1 C2 hux2 huy2
              generalize needV os n X = ux
              generalize needV os n Y = uy
              intro HZ C1 C2 hux2 huy2
              go_wp2_with fail
              refine C1.out.mono ?_
              rintro e w3 ⟨rfl, hb3⟩
              have HB3 := Lib.hid hb3
              clear hb3
              go_wp2_with fail
              refine (C2.out w3 HB3.out).mono ?_
              rintro e w4 ⟨rfl, hb4⟩
              have HB4 := Lib.hid (HB2.out.trans ((HB3.out.trans (hb4.mono HB3.out.size)).mono HB2.out.size))
              clear hb4
              go_wp2_with fail
              go_roundw
              case rel => exact ⟨k + 1, mnN q (1 + mxN ux uy), by omega, by omega, by go_num, by rw [← mn_eq, ← mx_eq], by unfold mnN; omega, HZ.out.symm, HB4.out⟩
              case measure => simp [intOf]; omega
        · obtain rfl : k = n := by omega
          have HQ2 : Hid (q = bestN os k S (cntP k (j + 1))) := by rw [Hid, HQ.out, cntP_succ]
          go_wp2_with fail
          go_roundw
          case rel => exact ⟨j + 1, q, by omega, by go_num, rfl, hq, HQ2.out, HW.out⟩
          case measure => simp [intOf]; omega
    · obtain rfl : j = n := by omega
      go_wp2_with fail
      go_ret
      exact ⟨by rw [HV.out, ← cntP_all, ← HQ.out]; rfl, HW.out⟩
theorem needs_ref {os : List (List Int)} {n : Nat} (hn : n ≤ 5) (hos : os.length ≤ 128) (hl : ∀ o ∈ os, o.length ≤ 16) : ∀ (m S : Nat) (al : Option Addr) (cap : Nat) (w : World), manyS S ≤ m → S < 2 ^ 128 → Sub os S → IsLists w al (selS os S) →
    Calls Try.prog 73 #[.int .i64 n, .slice al (manyS S) cap] w fun e w' => e = .returned (.int .i64 (needV os n S : Nat)) ∧ Below w.heap.size w w' := by
  intro m
  induction m with
  | zero => exact fun S al cap w h _ _ _ => needs_ref_few (by omega)
  | succ m ih =>
    intro S al cap w h hS hsub ha
    by_cases hm : manyS S ≤ 1
    · exact needs_ref_few hm
    · exact needs_ref_many hn hos hl hm hS hsub (fun X al cap w hX hX2 hX3 hX4 => ih X al cap w (by omega) hX2 hX3 hX4) ha
end Go.Proofs.Ytnfhlbmapfoifaa

namespace Go.Proofs.Ytnfhlbmapfoifaa
open Go.RowKit
set_option linter.unusedVariables false
set_option linter.unusedSimpArgs false

set_option maxRecDepth 100000 in
set_option maxHeartbeats 4000000 in
theorem needs23 {p : Prs} {a : Option Addr} {cap : Nat} {w : World} (ha : IsPrts w a p.cards) (hn : p.cards.length ≤ 16) :
    Calls Try.prog 23 #[p.v a cap] w fun e w' => e = .returned (.tuple #[.int .i64 (needsE p).1, .int .i64 (needsE p).2]) ∧ Below w.heap.size w w' := by
  have hb0 : Below w.heap.size w (w.alloc (.cells (p.cells a cap) 26)) := (Below.refl _ w).alloc (Nat.le_refl _) _
  have q0 := World.alloc_heap_new w (.cells (p.cells a cap) 26)
  have HW := Lib.hid (And.intro hb0 (And.intro q0 (ha.mono hb0)))
  clear hb0 q0 ha
  go_enter Try.func23, Try.ntmps23
  go_wp2_with fail
  revert HW
  generalize w.alloc (.cells (p.cells a cap) 26) = w1
  intro HW
  refine (orders18 HW.out.2.2 hn).mono ?_
  rintro e w2 ⟨v, rfl, ho, hb2⟩
  obtain ⟨k0, k1, k2, k3, k4⟩ := prs_cells ((hb2.block _ (heap_lt HW.out.2.1)).trans HW.out.2.1)
  have HB2 := Lib.hid (HW.out.1.trans (hb2.mono HW.out.1.size))
  clear hb2
  by_cases hE : ordersE p = 0
  · have hv := ordersE_valid hE
    have hn5 := (valid_parts hv).1
    have hfew := orders_few hv
    have HNE : Hid (needsE p = (((needV (ordersL p) p.cards.length (allS (ordersL p).length) : Nat) : Int), 0)) := by rw [Hid]; unfold needsE; rw [if_pos hE]
    obtain ⟨a2, c2, rfl, hli⟩ := (ho.1 hE).lists
    have hcall := needs_ref (os := ordersL p) (cap := c2) (al := a2) (w := w2) (n := p.cards.length) hn5 (by omega) (fun o ho => by rw [orders_at ho]; exact hn) _ (allS (ordersL p).length) (Nat.le_refl _) (allS_lt (by omega)) (all_in _) (by rw [sel_all]; exact hli)
    rw [many_all (by omega)] at hcall
    have HC := Lib.hid hcall
    have HE := Lib.hid hE
    rw [hE]
    clear hcall hli ho hE hfew hv
    revert HC HNE
    generalize (ordersL p).length = len
    intro HNE HC
    go_wp2_with fail
    refine HC.out.mono ?_
    rintro e w3 ⟨rfl, hb3⟩
    have HB3 := Lib.hid (HB2.out.trans (hb3.mono HB2.out.size))
    clear hb3
    go_wp2_with fail
    refine bodyPost_ret (results_tmp2 rfl _ _ _) rfl ?_
    exact ⟨by rw [HNE.out]; rfl, HB3.out⟩
  · obtain rfl := ho.2 hE
    have HNE : Hid (needsE p = (0, ordersE p)) := by rw [Hid]; unfold needsE; rw [if_neg hE]
    have hnb := bne_iff_ne.2 hE
    clear hE ho
    go_wp2_with fail
    refine bodyPost_ret (results_tmp2 rfl _ _ _) rfl ?_
    exact ⟨by rw [HNE.out]; rfl, HB2.out⟩
theorem results_tmp4 {fn : Func} {t u v x : Tmp} (h : fn.results = #[.tmp t, .tmp u, .tmp v, .tmp x]) (tmps : Array Value) (P : Program) (w : World) :
    (results fn tmps).run P w = .ok (.tuple #[tmps.getD t undef, tmps.getD u undef, tmps.getD v undef, tmps.getD x undef]) w := by
  simp [results, h]
theorem cmpN_zero (os : List (List Int)) (n : Nat) : cmpN os n 0 = (0, 0, os.length + 1) := rfl
set_option maxRecDepth 100000 in
set_option maxHeartbeats 8000000 in
theorem compare20 {p : Prs} {a : Option Addr} {cap : Nat} {w : World} (ha : IsPrts w a p.cards) (hn : p.cards.length ≤ 16) :
    Calls Try.prog 20 #[p.v a cap] w fun e w' => e = .returned (.tuple #[.int .i64 (compE p).1, .int .i64 (compE p).2.1, .int .i64 (compE p).2.2.1, .int .i64 (compE p).2.2.2]) ∧ Below w.heap.size w w' := by
  have hb0 : Below w.heap.size w (w.alloc (.cells (p.cells a cap) 26)) := (Below.refl _ w).alloc (Nat.le_refl _) _
  have q0 := World.alloc_heap_new w (.cells (p.cells a cap) 26)
  have HW := Lib.hid (And.intro hb0 (And.intro q0 (ha.mono hb0)))
  clear hb0 q0 ha
  go_enter Try.func20, Try.ntmps20
  go_wp2_with fail
  revert HW
  generalize w.alloc (.cells (p.cells a cap) 26) = w1
  intro HW
  refine (orders18 HW.out.2.2 hn).mono ?_
  rintro e w2 ⟨v, rfl, ho, hb2⟩
  have HQ := Lib.hid ((hb2.block _ (heap_lt HW.out.2.1)).trans HW.out.2.1)
  have HB2 := Lib.hid (HW.out.1.trans (hb2.mono HW.out.1.size))
  clear hb2
  by_cases hE : ordersE p = 0
  · have hv := ordersE_valid hE
    have hn5 := (valid_parts hv).1
    have hfew := orders_few hv
    obtain ⟨a2, c2, rfl, hli⟩ := (ho.1 hE).lists
    have hpos : (ordersL p).length ≠ 0 := fun h => by
      unfold ordersE at hE
      rw [hv] at hE
      have : ordersL p = [] := List.eq_nil_of_length_eq_zero h
      rw [this] at hE
      simp at hE
    by_cases h1 : (ordersL p).length = 1
    · have HNE : Hid (compE p = (0, 0, 0, 4)) := by rw [Hid]; unfold compE; rw [if_pos hE, if_pos (by omega)]
      rw [hE, h1]
      clear hE ho hli h1 hpos hfew
      go_wp2_with fail
      refine bodyPost_ret (results_tmp4 rfl _ _ _) rfl ?_
      exact ⟨by rw [HNE.out]; rfl, HB2.out⟩
    · have HNE : Hid (compE p = (((cmpN (ordersL p) p.cards.length (pairsL p.cards.length).length).1 : Int), ((cmpN (ordersL p) p.cards.length (pairsL p.cards.length).length).2.1 : Int), ((cmpN (ordersL p) p.cards.length (pairsL p.cards.length).length).2.2 : Int), 0)) := by rw [Hid]; unfold compE; rw [if_pos hE, if_neg (by omega)]
      have HO : Hid (∀ o ∈ ordersL p, o.length ≤ 16) := fun o ho => by rw [orders_at ho]; exact hn
      have HL := Lib.hid hli
      have hl2 : 1 < (ordersL p).length := by omega
      rw [hE]
      clear hE ho hli h1 hpos hv
      revert HNE HO HL hl2 hfew
      generalize ordersL p = os
      intro hfew HNE HO HL hl2
      obtain ⟨len, hlen⟩ : ∃ len, os.length = len := ⟨_, rfl⟩
      have HLN := Lib.hid hlen
      rw [hlen] at hl2 hfew ⊢
      clear hlen
      have hb1 : ((len : Int) == 1) = false := by simp; omega
      have HQS : Hid (∀ v, Below w2.heap.size w2 v → v.heap[w.heap.size]? = some (.cells (p.cells a cap) 26 (0, 0))) := fun v h => (h.block _ (heap_lt HQ.out)).trans HQ.out
      go_wp2_with fail
      go_loopw [8, 9, 10, 11] (fun x y z i wr => ∃ j q1 q2 q3 : Nat, j ≤ p.cards.length ∧ i = .int .i64 j ∧ x = .int .i64 q1 ∧ y = .int .i64 q2 ∧ z = .int .i64 q3 ∧ Hid ((q1, q2, q3) = cmpN os p.cards.length (cntP p.cards.length j)) ∧ Hid (Below w2.heap.size w2 wr)) (fun _ _ _ i _ => p.cards.length - (intOf i).toNat)
      case atStart => exact ⟨0, 0, 0, len + 1, by omega, rfl, rfl, rfl, by go_num, by rw [Hid, ← HLN.out]; rfl, Below.refl _ _⟩
      case round =>
        obtain ⟨j, q1, q2, q3, hj, rfl, rfl, rfl, rfl, HQN, HWB⟩ := hrel
        obtain ⟨k0, k1, k2, k3, k4⟩ := prs_cells (HQS.out wr HWB.out)
        by_cases hlt : j < p.cards.length
        · go_wp2_with fail
          clear k0 k1 k2 k3 k4
          go_loopw [8, 9, 10, 12] (fun x y z i wr => ∃ k q1 q2 q3 : Nat, j < k ∧ k ≤ p.cards.length ∧ i = .int .i64 k ∧ x = .int .i64 q1 ∧ y = .int .i64 q2 ∧ z = .int .i64 q3 ∧ Hid ((q1, q2, q3) = cmpN os p.cards.length (cntP p.cards.length j + (k - (j + 1)))) ∧ Hid (Below w2.heap.size w2 wr)) (fun _ _ _ i _ => p.cards.length - (intOf i).toNat)
          case atStart => exact ⟨j + 1, q1, q2, q3, by omega, by omega, by go_num, rfl, rfl, rfl, by rw [Hid, HQN.out]; congr 1; omega, HWB.out⟩
          case round =>
            obtain ⟨k, q1, q2, q3, hjk, hk, rfl, rfl, rfl, rfl, HQN, HWB⟩ := hrel
            obtain ⟨k0, k1, k2, k3, k4⟩ := prs_cells (HQS.out wr HWB.out)
            by_cases hltk : k < p.cards.length
            · have hsp := split_ref (cap := c2) (HL.out.mono HWB.out) (by rw [HLN.out]; omega) HO.out j k
              rw [HLN.out, show befL os j k = selS os (befS os (allS len) j k) by rw [← sel_bef, ← HLN.out, sel_all], show aftL os j k = selS os (aftS os (allS len) j k) by rw [← sel_aft, ← HLN.out, sel_all], sel_len (by rw [HLN.out]; omega) (bef_in os _ j k), sel_len (by rw [HLN.out]; omega) (aft_in os _ j k)] at hsp
              have HSP := Lib.hid hsp
              have HP : Hid (cmpN os p.cards.length (cntP p.cards.length j + (k + 1 - (j + 1))) = cmpStep os (q1, q2, q3) (j, k)) := by
                rw [Hid, HQN.out, ← cmpN_succ (pairs_at hjk hltk)]
                congr 1
                omega
              have HST : Hid (cmpStep os (q1, q2, q3) (j, k) = if mxN (manyS (befS os (allS len) j k)) (manyS (aftS os (allS len) j k)) < q3 then (j, k, mxN (manyS (befS os (allS len) j k)) (manyS (aftS os (allS len) j k))) else (q1, q2, q3)) := by rw [Hid, ← HLN.out]; rfl
              have hmx := many_le (befS os (allS len) j k)
              have hmy := many_le (aftS os (allS len) j k)
              clear hsp
              revert HSP HST hmx hmy
              generalize manyS (befS os (allS len) j k) = X
              generalize manyS (aftS os (allS len) j k) = Y
              generalize selS os (befS os (allS len) j k) = LX
              generalize selS os (aftS os (allS len) j k) = LY
              intro HSP HST hmx hmy
              go_wp2_with fail
              refine HSP.out.mono ?_
              rintro e w5 ⟨a1, c1, a2', c2', rfl, O1, O2⟩
              have HB5 := Lib.hid (HWB.out.trans (O1.1.mono HWB.out.size))
              clear O1 O2 HSP k0 k1 k2 k3 k4
              by_cases hxy : X < Y
              · have hM : mxN X Y = Y := by unfold mxN; omega
                rw [hM] at HST
                clear hM
                by_cases hlm : Y < q3
                · have HZ : Hid ((j, k, Y) = cmpN os p.cards.length (cntP p.cards.length j + (k + 1 - (j + 1)))) := by rw [Hid, HP.out, HST.out, if_pos hlm]
                  go_wp2_with fail
                  go_roundw
                  case rel => exact ⟨k + 1, j, k, Y, by omega, by omega, by go_num, rfl, rfl, rfl, HZ.out, HB5.out⟩
                  case measure => simp [intOf]; omega
                · have HZ : Hid ((q1, q2, q3) = cmpN os p.cards.length (cntP p.cards.length j + (k + 1 - (j + 1)))) := by rw [Hid, HP.out, HST.out, if_neg hlm]
                  go_wp2_with fail
                  go_roundw
                  case rel => exact ⟨k + 1, q1, q2, q3, by omega, by omega, by go_num, rfl, rfl, rfl, HZ.out, HB5.out⟩
                  case measure => simp [intOf]; omega
              · have hM : mxN X Y = X := by unfold mxN; omega
                rw [hM] at HST
                clear hM
                by_cases hlm : X < q3
                · have HZ : Hid ((j, k, X) = cmpN os p.cards.length (cntP p.cards.length j + (k + 1 - (j + 1)))) := by rw [Hid, HP.out, HST.out, if_pos hlm]
                  go_wp2_with fail
                  go_roundw
                  case rel => exact ⟨k + 1, j, k, X, by omega, by omega, by go_num, rfl, rfl, rfl, HZ.out, HB5.out⟩
                  case measure => simp [intOf]; omega
                · have HZ : Hid ((q1, q2, q3) = cmpN os p.cards.length (cntP p.cards.length j + (k + 1 - (j + 1)))) := by rw [Hid, HP.out, HST.out, if_neg hlm]
                  go_wp2_with fail
                  go_roundw
                  case rel => exact ⟨k + 1, q1, q2, q3, by omega, by omega, by go_num, rfl, rfl, rfl, HZ.out, HB5.out⟩
                  case measure => simp [intOf]; omega
            · obtain rfl : k = p.cards.length := by omega
              have HQ2 : Hid ((q1, q2, q3) = cmpN os p.cards.length (cntP p.cards.length (j + 1))) := by rw [Hid, HQN.out, cntP_succ]
              go_wp2_with fail
              go_roundw
              case rel => exact ⟨j + 1, q1, q2, q3, by omega, by go_num, rfl, rfl, rfl, HQ2.out, HWB.out⟩
              case measure => simp [intOf]; omega
        · obtain rfl : j = p.cards.length := by omega
          have HF := Lib.hid (HB2.out.trans (HWB.out.mono HB2.out.size))
          go_wp2_with fail
          refine bodyPost_ret (results_tmp4 rfl _ _ _) rfl ?_
          exact ⟨by rw [HNE.out, ← cntP_all, ← HQN.out]; rfl, HF.out⟩
  · obtain rfl := ho.2 hE
    have HNE : Hid (compE p = (0, 0, 0, ordersE p)) := by rw [Hid]; unfold compE; rw [if_neg hE]
    have hnb := bne_iff_ne.2 hE
    clear hE ho
    go_wp2_with fail
    refine bodyPost_ret (results_tmp4 rfl _ _ _) rfl ?_
    exact ⟨by rw [HNE.out]; rfl, HB2.out⟩
end Go.Proofs.Ytnfhlbmapfoifaa

