/- Is there far more than there can be? More plans than a statement tries? Are there more plans than a statement tries? Lists that are compared, the greatest number, the first one that is not 0, a copy. How many sheets are enough. How many good sheets of some slots make up what others lack. A plan that is made; how many cards of a view there are. -/
import Derived.Test.YtjkhclijmcmdjaaC8
import Derived.Lib.MinMax
namespace Go.Proofs.Ytjkhclijmcmdjaa
open Go.RowKit
set_option linter.unusedVariables false
set_option linter.unusedSimpArgs false
def farB (p : Prs) (l : List Fme) : Bool := decide ((20 : Int) < p.wanted.length) || decide ((60 : Int) < p.deals.length) || decide ((20 : Int) < l.length) || p.deals.any (fun d => decide ((20 : Int) < d.forme.slots.length)) || l.any (fun f => decide ((20 : Int) < f.slots.length))
theorem far_small {p : Prs} {l : List Fme} (h : farB p l = false) : p.Small ∧ l.length ≤ 20 ∧ ∀ f ∈ l, f.slots.length ≤ 20 := by
  unfold farB at h
  simp only [Bool.or_eq_false_iff, decide_eq_false_iff_not, List.any_eq_false, decide_eq_true_eq, Int.not_lt] at h
  obtain ⟨⟨⟨⟨h1, h2⟩, h3⟩, h4⟩, h5⟩ := h
  exact ⟨⟨by omega, by omega, fun d hd => by have := h4 d hd; omega⟩, by omega, fun f hf => by have := h5 f hf; omega⟩
set_option maxRecDepth 100000 in
set_option maxHeartbeats 4000000 in
theorem far13 {p : Prs} {A : PrsA} {l : List Fme} {a : Option Addr} {c : Nat} {w : World} (hP : IsPrs w p A) (ha : IsFmes w a l) :
    Calls Try.prog 13 #[p.v A, .slice a l.length c] w fun e w' => e = .returned (.bool (farB p l)) ∧ Below w.heap.size w w' := by
  have hb0 : Below w.heap.size w (w.alloc (.cells (p.arr A) 27)) := (Below.refl _ w).alloc (Nat.le_refl _) _
  have q0 := World.alloc_heap_new w (.cells (p.arr A) 27)
  have HX := Lib.hid (And.intro q0 (And.intro hb0 (And.intro (hP.mono hb0) (ha.mono hb0))))
  have HR : Hid (farB p l = (decide ((20 : Int) < p.wanted.length) || decide ((60 : Int) < p.deals.length) || decide ((20 : Int) < l.length) || p.deals.any (fun d => decide ((20 : Int) < d.forme.slots.length)) || l.any (fun f => decide ((20 : Int) < f.slots.length)))) := rfl
  clear hb0 q0 hP ha
  go_enter Try.func13, Try.ntmps13
  refine wp_seq_hid ?_
  intro K0 HK0
  go_wp2_with fail
  refine HK0.out _ _ ?_
  clear HK0 K0
  revert HX
  generalize w.alloc (.cells (p.arr A) 27) = w1
  generalize w.heap.size = bp
  intro HX
  have HPC := Lib.hid (prs_cells HX.out.1)
  have z6 := HPC.out.c6
  have z9 := HPC.out.c9
  by_cases h1 : (20 : Int) < p.wanted.length
  · have H1 : Hid (farB p l = true) := by rw [Hid, HR.out]; simp [h1]
    have hd : decide ((20 : Int) < p.wanted.length) = true := by simpa using h1
    clear h1
    go_wp2_with fail
    go_ret
    exact ⟨ret_bool H1.out.symm, HX.out.2.1⟩
  · have hd : decide ((20 : Int) < p.wanted.length) = false := by simpa using h1
    by_cases h2 : (60 : Int) < p.deals.length
    · have H1 : Hid (farB p l = true) := by rw [Hid, HR.out]; simp [h2]
      have hd2 : decide ((60 : Int) < p.deals.length) = true := by simpa using h2
      clear h1 h2
      go_wp2_with fail
      go_ret
      exact ⟨ret_bool H1.out.symm, HX.out.2.1⟩
    · have hd2 : decide ((60 : Int) < p.deals.length) = false := by simpa using h2
      by_cases h3 : (20 : Int) < l.length
      · have H1 : Hid (farB p l = true) := by rw [Hid, HR.out]; simp [h3]
        have hd3 : decide ((20 : Int) < l.length) = true := by simpa using h3
        clear h1 h2 h3
        go_wp2_with fail
        go_ret
        exact ⟨ret_bool H1.out.symm, HX.out.2.1⟩
      · have hd3 : decide ((20 : Int) < l.length) = false := by simpa using h3
        have HD := Lib.hid (And.intro hd (And.intro hd2 hd3))
        have hn1 : p.deals.length ≤ 60 := by omega
        have hn2 : l.length ≤ 20 := by omega
        clear h1 h2 h3
        refine wp_seq_hid ?_
        intro K1 HK1
        go_wp2_with fail
        refine HK1.out _ _ ?_
        clear HK1 K1
        refine wp_seq_hid ?_
        intro K2 HK2
        clear hd hd2 hd3 z6
        go_wp2_with fail
        go_loop [5] (fun i => ∃ k : Nat, k ≤ p.deals.length ∧ i = .int .i64 k ∧ Hid (∀ j, j < k → ¬ (20 : Int) < (gd p.deals j).forme.slots.length)) (fun i => p.deals.length - (intOf i).toNat)
        case atStart => exact ⟨0, by omega, rfl, fun j hj => by omega⟩
        case round =>
          obtain ⟨k, hk, rfl, HK⟩ := hrel
          by_cases hlt : k < p.deals.length
          · obtain ⟨b, off, hab, ai, ci, c0, c1, c2, c3, c4, c5, c6⟩ := HX.out.2.2.1.deals k hlt
            rw [hab] at z9
            have HAB := Lib.hid hab
            clear hab c0 c2 c3 c4 c5 c6
            have HIN : Hid ((20 : Int) < (gd p.deals k).forme.slots.length → farB p l = true) := fun h => by
              rw [HR.out]
              have : p.deals.any (fun d => decide ((20 : Int) < d.forme.slots.length)) = true := List.any_eq_true.2 ⟨gd p.deals k, by simp [gd, hlt], by simpa using h⟩
              simp [this]
            by_cases h : (20 : Int) < (gd p.deals k).forme.slots.length
            · have H1 := Lib.hid (HIN.out h)
              have hd : decide ((20 : Int) < (gd p.deals k).forme.slots.length) = true := by simpa using h
              clear h
              go_wp2_with fail
              go_ret
              exact ⟨ret_bool H1.out.symm, HX.out.2.1⟩
            · have H1 := Lib.hid h
              have hd : decide ((20 : Int) < (gd p.deals k).forme.slots.length) = false := by simpa using h
              clear h
              go_wp2_with fail
              go_round
              case rel => exact ⟨k + 1, by omega, by go_num, fun j hj => by
                by_cases e : j = k
                · subst e; exact H1.out
                · exact HK.out j (by omega)⟩
              case measure => simp [intOf]; omega
          · have HK' : Hid (p.deals.any (fun d => decide ((20 : Int) < d.forme.slots.length)) = false) := by
              rw [Hid, List.any_eq_false]
              intro d hd
              obtain ⟨i, hi, e⟩ := List.getElem_of_mem hd
              have := HK.out i (by omega)
              have e2 : gd p.deals i = d := by simp [gd, hi, e]
              rw [e2] at this
              simpa using this
            go_wp2_with fail
            refine HK2.out _ _ ?_
            go_wp2_with fail
            go_loop [6] (fun i => ∃ k : Nat, k ≤ l.length ∧ i = .int .i64 k ∧ Hid (∀ j, j < k → ¬ (20 : Int) < (gf l j).slots.length)) (fun i => l.length - (intOf i).toNat)
            case atStart => exact ⟨0, by omega, rfl, fun j hj => by omega⟩
            case round =>
              obtain ⟨k, hk, rfl, HJ⟩ := hrel
              by_cases hlt : k < l.length
              · obtain ⟨b, off, hab, ai, ci, c0, c1, c2⟩ := HX.out.2.2.2 k hlt
                have HAB := Lib.hid hab
                rw [hab]
                clear hab c1 c2
                by_cases h : (20 : Int) < (gf l k).slots.length
                · have H1 : Hid (farB p l = true) := by
                    have : l.any (fun f => decide ((20 : Int) < f.slots.length)) = true := List.any_eq_true.2 ⟨gf l k, by simp [gf, hlt], by simpa using h⟩
                    rw [Hid, HR.out, this]; simp
                  have hd : decide ((20 : Int) < (gf l k).slots.length) = true := by simpa using h
                  clear h
                  go_wp2_with fail
                  go_ret
                  exact ⟨ret_bool H1.out.symm, HX.out.2.1⟩
                · have H1 := Lib.hid h
                  have hd : decide ((20 : Int) < (gf l k).slots.length) = false := by simpa using h
                  clear h
                  go_wp2_with fail
                  go_round
                  case rel => exact ⟨k + 1, by omega, by go_num, fun j hj => by
                    by_cases e : j = k
                    · subst e; exact H1.out
                    · exact HJ.out j (by omega)⟩
                  case measure => simp [intOf]; omega
              · have H1 : Hid (farB p l = false) := by
                  have h9 : l.any (fun f => decide ((20 : Int) < f.slots.length)) = false := by
                    rw [List.any_eq_false]
                    intro f hf
                    obtain ⟨i, hi, e⟩ := List.getElem_of_mem hf
                    have := HJ.out i (by omega)
                    have e2 : gf l i = f := by simp [gf, hi, e]
                    rw [e2] at this
                    simpa using this
                  rw [Hid, HR.out, h9, HK'.out, HD.out.1, HD.out.2.1, HD.out.2.2]; rfl
                go_wp2_with fail
                go_ret
                exact ⟨ret_bool H1.out.symm, HX.out.2.1⟩
end Go.Proofs.Ytjkhclijmcmdjaa
namespace Go.Proofs.Ytjkhclijmcmdjaa
open Go.RowKit
set_option linter.unusedVariables false
set_option linter.unusedSimpArgs false
def heavyB (p : Prs) (r n : Int) : Bool := p.valid && (decide (r < p.room) || decide (n < p.wanted.foldl max 0) || decide ((3 : Int) < p.wanted.length))
theorem foldl_take {l : List Int} {k : Nat} (h : k < l.length) : (l.take (k + 1)).foldl max 0 = max ((l.take k).foldl max 0) (gi l k) := by
  rw [List.take_succ_eq_append_getElem h, List.foldl_append]
  simp [gi, h]
set_option maxRecDepth 100000 in
set_option maxHeartbeats 4000000 in
theorem heavy22 {p : Prs} {A : PrsA} {r n : Int} {w : World} (hP : IsPrs w p A) (hS : p.Small) :
    Calls Try.prog 22 #[p.v A, .int .i64 r, .int .i64 n] w fun e w' => e = .returned (.bool (heavyB p r n)) ∧ Below w.heap.size w w' := by
  have hb0 : Below w.heap.size w (w.alloc (.cells (p.arr A) 27)) := (Below.refl _ w).alloc (Nat.le_refl _) _
  have q0 := World.alloc_heap_new w (.cells (p.arr A) 27)
  have HX := Lib.hid (And.intro q0 (And.intro hb0 (hP.mono hb0)))
  have HR : Hid (heavyB p r n = (p.valid && (decide (r < p.room) || decide (n < p.wanted.foldl max 0) || decide ((3 : Int) < p.wanted.length)))) := rfl
  have hw20 := hS.wanted
  have HS := Lib.hid hS
  clear hb0 q0 hP hS
  go_enter Try.func22, Try.ntmps22
  refine wp_seq_hid ?_
  intro K0 HK0
  go_wp2_with fail
  refine HK0.out _ _ ?_
  clear HK0 K0
  revert HX
  generalize w.alloc (.cells (p.arr A) 27) = w1
  generalize w.heap.size = bp
  intro HX
  obtain ⟨m0, m1, m2, m3, m4, m5, m6, m7, m8, m9⟩ := prs_cells HX.out.1
  obtain ⟨v, hv⟩ : ∃ v, p.valid = v := ⟨_, rfl⟩
  have HC := Lib.hid (rpress33 HX.out.2.2 HS.out)
  rw [hv] at HC HR
  cases v with
  | false =>
    have HV := Lib.hid hv
    clear hv
    go_wp2_with fail
    refine HC.out.mono ?_
    rintro e w2 ⟨rfl, hb⟩
    have H2 := Lib.hid (HX.out.2.1.trans (hb.mono (Nat.le_of_lt (heap_lt HX.out.1))))
    clear hb
    go_wp2_with fail
    go_ret
    exact ⟨ret_bool (by rw [HR.out]; rfl), H2.out⟩
  | true =>
    have HV := Lib.hid hv
    clear hv
    refine wp_seq_hid ?_
    intro K1 HK1
    go_wp2_with fail
    refine HC.out.mono ?_
    rintro e w2 ⟨rfl, hb⟩
    have H2 := Lib.hid (And.intro ((hb.block _ (heap_lt HX.out.1)).trans HX.out.1) (And.intro (HX.out.2.2.mono hb) (HX.out.2.1.trans (hb.mono (Nat.le_of_lt (heap_lt HX.out.1))))))
    clear hb m0 m1 m2 m3 m4 m5 m6 m7 m8 m9
    go_wp2_with fail
    refine HK1.out _ _ ?_
    clear HK1 K1
    obtain ⟨m0, m1, m2, m3, m4, m5, m6, m7, m8, m9⟩ := prs_cells H2.out.1
    clear m1 m2 m3 m4 m5 m7 m8 m9
    refine wp_seq_hid ?_
    intro K2 HK2
    go_wp2_with fail
    refine HK2.out _ _ ?_
    clear HK2 K2
    refine wp_seq_hid ?_
    intro K3 HK3
    go_wp2_with fail
    go_loop [7, 8] (fun u i => ∃ k : Nat, k ≤ p.wanted.length ∧ i = .int .i64 k ∧ u = .int .i64 ((p.wanted.take k).foldl max 0)) (fun _ i => p.wanted.length - (intOf i).toNat)
    case atStart => exact ⟨0, by omega, rfl, rfl⟩
    case round =>
      obtain ⟨k, hk, rfl, rfl⟩ := hrel
      by_cases hlt : k < p.wanted.length
      · obtain ⟨b, off, hab, c0⟩ := H2.out.2.1.wanted k hlt
        rw [hab] at m6
        have HAB := Lib.hid hab
        have HTK := Lib.hid (foldl_take hlt)
        clear hab
        revert c0 HTK
        generalize gi p.wanted k = y
        generalize (p.wanted.take k).foldl max 0 = x
        intro c0 HTK
        go_wp2_with fail
        exact ⟨⟨k + 1, by omega, by go_num, by rw [HTK.out]⟩, meas_lt hlt⟩
      · have hke : p.wanted.take k = p.wanted := List.take_of_length_le (by omega)
        rw [hke]
        have HKE := Lib.hid hke
        clear hke
        generalize p.wanted.foldl max 0 = x at HR ⊢
        obtain ⟨e1, he1⟩ : ∃ e, decide (r < p.room) = e := ⟨_, rfl⟩
        obtain ⟨e2, he2⟩ : ∃ e, decide (n < x) = e := ⟨_, rfl⟩
        obtain ⟨e3, he3⟩ : ∃ e, decide ((3 : Int) < p.wanted.length) = e := ⟨_, rfl⟩
        rw [he1, he2, he3] at HR
        have HH := Lib.hid (And.intro he1 (And.intro he2 he3))
        clear he1 he2 he3
        go_wp2_with fail
        refine HK3.out _ _ ?_
        obtain ⟨he1, he2, he3⟩ := HH.out
        cases e1 <;> cases e2 <;> cases e3
        all_goals
          go_wp2_with fail
          go_ret
          exact ⟨ret_bool (by rw [HR.out]; rfl), H2.out.2.2⟩
end Go.Proofs.Ytjkhclijmcmdjaa
namespace Go.Proofs.Ytjkhclijmcmdjaa
open Go.RowKit
set_option linter.unusedVariables false
set_option linter.unusedSimpArgs false
set_option maxHeartbeats 1000000 in
theorem nan102 (a : Int) (w : World) : Calls Try.prog 102 #[.int .i64 a] w fun e w' => e = .returned (.bool false) ∧ w = w' := by
  have h : (a != a) = false := by simp
  go_enter Try.func102, Try.ntmps102
  go_wp2
  go_ret
  exact ⟨rfl, rfl⟩
set_option maxHeartbeats 1000000 in
theorem cmp85 (a b : Int) (w : World) : Calls Try.prog 85 #[.int .i64 a, .int .i64 b] w fun e w' => e = .returned (.int .i64 (cmpI a b)) ∧ w = w' := by
  by_cases h1 : a < b
  · have hc : Hid (cmpI a b = -1) := by unfold Hid cmpI; rw [if_pos h1]
    have hd : decide (a < b) = true := by simpa using h1
    clear h1
    go_enter Try.func85, Try.ntmps85
    go_wp2_with fail
    refine (nan102 a w).mono ?_
    rintro e w' ⟨rfl, rfl⟩
    go_wp2_with fail
    refine (nan102 b w).mono ?_
    rintro e w' ⟨rfl, rfl⟩
    go_wp2_with fail
    go_ret
    exact ⟨ret_int hc.out.symm, rfl⟩
  · have hd : decide (a < b) = false := by simpa using h1
    by_cases h2 : b < a
    · have hc : Hid (cmpI a b = 1) := by unfold Hid cmpI; rw [if_neg h1, if_pos h2]
      have hd2 : decide (b < a) = true := by simpa using h2
      clear h1 h2
      go_enter Try.func85, Try.ntmps85
      go_wp2_with fail
      refine (nan102 a w).mono ?_
      rintro e w' ⟨rfl, rfl⟩
      go_wp2_with fail
      refine (nan102 b w).mono ?_
      rintro e w' ⟨rfl, rfl⟩
      go_wp2_with fail
      go_ret
      exact ⟨ret_int hc.out.symm, rfl⟩
    · have hc : Hid (cmpI a b = 0) := by unfold Hid cmpI; rw [if_neg h1, if_neg h2]
      have hd2 : decide (b < a) = false := by simpa using h2
      clear h1 h2
      go_enter Try.func85, Try.ntmps85
      go_wp2_with fail
      refine (nan102 a w).mono ?_
      rintro e w' ⟨rfl, rfl⟩
      go_wp2_with fail
      refine (nan102 b w).mono ?_
      rintro e w' ⟨rfl, rfl⟩
      go_wp2_with fail
      go_ret
      exact ⟨ret_int hc.out.symm, rfl⟩
theorem cmpL_cons (x y : Int) (r s : List Int) : cmpL (x :: r) (y :: s) = if cmpI x y = 0 then cmpL r s else cmpI x y := by
  show (if cmpI x y ≠ 0 then cmpI x y else cmpL r s) = _
  by_cases h : cmpI x y = 0
  · rw [if_neg (by simpa using h), if_pos h]
  · rw [if_pos h, if_neg h]
theorem cmpL_drop {l m : List Int} {k : Nat} (h1 : k < l.length) (h2 : k < m.length) : cmpL (l.drop k) (m.drop k) = if cmpI (gi l k) (gi m k) = 0 then cmpL (l.drop (k + 1)) (m.drop (k + 1)) else cmpI (gi l k) (gi m k) := by
  rw [List.drop_eq_getElem_cons h1, List.drop_eq_getElem_cons h2]
  have e1 : l[k] = gi l k := by simp [gi, h1]
  have e2 : m[k] = gi m k := by simp [gi, h2]
  rw [e1, e2]
  exact cmpL_cons _ _ _ _
theorem cmpL_long {l m : List Int} {k : Nat} (h1 : k < l.length) (h2 : m.length ≤ k) : cmpL (l.drop k) (m.drop k) = 1 := by
  rw [List.drop_eq_getElem_cons h1, List.drop_of_length_le h2]
  rfl
theorem cmpL_end {l m : List Int} {k : Nat} (h1 : l.length ≤ k) : cmpL (l.drop k) (m.drop k) = if k < m.length then -1 else 0 := by
  rw [List.drop_of_length_le h1]
  split
  · rename_i h; rw [List.drop_eq_getElem_cons h]; rfl
  · rename_i h; rw [List.drop_of_length_le (by omega)]; rfl
set_option maxHeartbeats 2000000 in
theorem cmp86 {l m : List Int} (hl : l.length ≤ 1000) (hm : m.length ≤ 1000) {a b : Option Addr} {ca cb : Nat} {w : World} (ha : IsInts w a l) (hb : IsInts w b m) :
    Calls Try.prog 86 #[.slice a l.length ca, .slice b m.length cb] w fun e w' => e = .returned (.int .i64 (cmpL l m)) ∧ w = w' := by
  have HD : Hid (∀ k, k < l.length → k < m.length → cmpL (l.drop k) (m.drop k) = if cmpI (gi l k) (gi m k) = 0 then cmpL (l.drop (k + 1)) (m.drop (k + 1)) else cmpI (gi l k) (gi m k)) := fun k h1 h2 => cmpL_drop h1 h2
  have HB := Lib.hid hb
  clear hb
  go_enter Try.func86, Try.ntmps86
  go_wp2_with fail
  go_loop [11] (fun i => ∃ k : Nat, k ≤ l.length ∧ i = .int .i64 k ∧ Hid (k ≤ m.length ∧ cmpL l m = cmpL (l.drop k) (m.drop k))) (fun i => l.length - (intOf i).toNat)
  case atStart => exact ⟨0, by omega, rfl, by omega, rfl⟩
  case round =>
    obtain ⟨k, hk, rfl, HK⟩ := hrel
    have hkm := HK.out.1
    by_cases hlt : k < l.length
    · obtain ⟨b1, o1, rfl, q1⟩ := ha k hlt
      by_cases hltm : k < m.length
      · obtain ⟨b2, o2, rfl, q2⟩ := HB.out k hltm
        have HI := Lib.hid (HD.out k hlt hltm)
        have hge : decide ((m.length : Int) ≤ (k : Int)) = false := by simp; omega
        obtain ⟨c, hc⟩ : ∃ c, c = cmpI (gi l k) (gi m k) := ⟨_, rfl⟩
        rw [← hc] at HI
        have HC : Hid (∀ w, Calls Try.prog 85 #[.int .i64 (gi l k), .int .i64 (gi m k)] w fun e w' => e = .returned (.int .i64 c) ∧ w = w') := fun w => by rw [hc]; exact cmp85 _ _ w
        clear hc
        by_cases h0 : c = 0
        · have hcb : (c != 0) = false := by simpa using h0
          rw [if_pos h0] at HI
          clear h0
          go_wp2_with fail
          refine (HC.out w).mono ?_
          rintro e w' ⟨rfl, rfl⟩
          go_wp2_with fail
          go_round
          case rel => exact ⟨k + 1, by omega, by go_num, by omega, by rw [HK.out.2, HI.out]⟩
          case measure => simp [intOf]; omega
        · have hcb : (c != 0) = true := by simpa using h0
          rw [if_neg h0] at HI
          clear h0
          go_wp2_with fail
          refine (HC.out w).mono ?_
          rintro e w' ⟨rfl, rfl⟩
          go_wp2_with fail
          go_ret
          exact ⟨ret_int (by rw [HK.out.2, HI.out]), rfl⟩
      · have hge : decide ((m.length : Int) ≤ (k : Int)) = true := by simp; omega
        have HI := Lib.hid (cmpL_long (m := m) hlt (by omega))
        go_wp2_with fail
        go_ret
        exact ⟨ret_int (by rw [HK.out.2, HI.out]), rfl⟩
    · obtain rfl : k = l.length := by omega
      have HI := Lib.hid (cmpL_end (l := l) (m := m) (Nat.le_refl _))
      by_cases h : l.length < m.length
      · rw [if_pos h] at HI
        go_wp2_with fail
        go_ret
        exact ⟨ret_int (by rw [HK.out.2, HI.out]), rfl⟩
      · rw [if_neg h] at HI
        go_wp2_with fail
        go_ret
        exact ⟨ret_int (by rw [HK.out.2, HI.out]), rfl⟩
theorem orL_drop {l : List Int} {k : Nat} (h : k < l.length) : orL (l.drop k) = if gi l k ≠ 0 then gi l k else orL (l.drop (k + 1)) := by
  rw [List.drop_eq_getElem_cons h]
  have e1 : l[k] = gi l k := by simp [gi, h]
  rw [e1]; rfl
set_option maxHeartbeats 1000000 in
theorem or84 {l : List Int} (hl : l.length ≤ 1000) {a : Option Addr} {c : Nat} {w : World} (ha : IsInts w a l) :
    Calls Try.prog 84 #[.slice a l.length c] w fun e w' => e = .returned (.int .i64 (orL l)) ∧ w = w' := by
  have HD : Hid (∀ k, k < l.length → orL (l.drop k) = if gi l k ≠ 0 then gi l k else orL (l.drop (k + 1))) := fun k h => orL_drop h
  go_enter Try.func84, Try.ntmps84
  go_wp2_with fail
  go_loop [8] (fun i => ∃ k : Nat, k ≤ l.length ∧ i = .int .i64 k ∧ Hid (orL l = orL (l.drop k))) (fun i => l.length - (intOf i).toNat)
  case atStart => exact ⟨0, by omega, rfl, rfl⟩
  case round =>
    obtain ⟨k, hk, rfl, HK⟩ := hrel
    by_cases hlt : k < l.length
    · obtain ⟨b, off, rfl, hc⟩ := ha k hlt
      have HI := Lib.hid (HD.out k hlt)
      by_cases h0 : gi l k = 0
      · have hb : (gi l k != 0) = false := by simpa using h0
        rw [Hid, if_neg (by simpa using h0)] at HI
        have HI := Lib.hid HI
        clear h0
        go_wp2_with fail
        go_round
        case rel => exact ⟨k + 1, by omega, by go_num, by rw [Hid, HK.out, HI.out]⟩
        case measure => simp [intOf]; omega
      · have hb : (gi l k != 0) = true := by simpa using h0
        rw [Hid, if_pos h0] at HI
        have HI := Lib.hid HI
        clear h0
        go_wp2_with fail
        go_ret
        exact ⟨ret_int (by rw [HK.out, HI.out]), rfl⟩
    · obtain rfl : k = l.length := by omega
      have HE : Hid (orL l = 0) := by rw [Hid, HK.out, List.drop_length]; rfl
      go_wp2_with fail
      go_ret
      exact ⟨ret_int HE.out.symm, rfl⟩
theorem maxL_take {l : List Int} {k : Nat} (h0 : 0 < k) (h : k < l.length) : maxL (l.take (k + 1)) = max (maxL (l.take k)) (gi l k) := by
  cases l with
  | nil => simp at h
  | cons x r =>
    obtain ⟨j, rfl⟩ : ∃ j, k = j + 1 := ⟨k - 1, by omega⟩
    simp only [List.take_succ_cons, maxL]
    have h2 : j < r.length := by simpa using h
    rw [List.take_succ_eq_append_getElem h2, List.foldl_append]
    simp [gi, h2]
set_option maxHeartbeats 1000000 in
theorem max82 {l : List Int} (hl : l.length ≤ 1000) (h0 : 0 < l.length) {a : Option Addr} {c : Nat} {w : World} (ha : IsInts w a l) :
    Calls Try.prog 82 #[.slice a l.length c] w fun e w' => e = .returned (.int .i64 (maxL l)) ∧ w = w' := by
  have HM : Hid (∀ k, 0 < k → k < l.length → maxL (l.take (k + 1)) = max (maxL (l.take k)) (gi l k)) := fun k h1 h2 => maxL_take h1 h2
  have H1 : Hid (maxL (l.take 1) = gi l 0) := by
    cases l with
    | nil => simp at h0
    | cons x r => simp [Hid, maxL, gi]
  obtain ⟨b, off, hab, hc⟩ := ha 0 h0
  have hd : decide ((l.length : Int) < 1) = false := by simp; omega
  have HA := Lib.hid ha
  subst hab
  clear ha
  rw [Nat.add_zero] at hc
  have h00 : (0 : Int) < l.length := by omega
  go_enter Try.func82, Try.ntmps82
  go_wp2_with fail
  go_loop [3, 4] (fun u i => ∃ k : Nat, 0 < k ∧ k ≤ l.length ∧ i = .int .i64 k ∧ u = .int .i64 (maxL (l.take k))) (fun _ i => l.length - (intOf i).toNat)
  case atStart => exact ⟨1, by omega, by omega, rfl, by rw [H1.out]⟩
  case round =>
    obtain ⟨k, hk0, hk, rfl, rfl⟩ := hrel
    by_cases hlt : k < l.length
    · obtain ⟨b', off', hab, hc'⟩ := HA.out k hlt
      cases hab
      have HI := Lib.hid (HM.out k hk0 hlt)
      clear hc
      revert HI hc'
      generalize gi l k = y
      generalize maxL (l.take k) = x
      intro hc' HI
      go_wp2_with fail
      exact ⟨⟨k + 1, by omega, by omega, by go_num, by rw [HI.out]⟩, meas_lt hlt⟩
    · have hke : l.take k = l := List.take_of_length_le (by omega)
      rw [hke]
      clear hke
      go_wp2_with fail
      go_ret
      exact ⟨rfl, rfl⟩
set_option maxHeartbeats 1000000 in
theorem clone55 {w : World} {base : Nat} {v : Value} {l : List Int} (h : w.ownsRow base 3 1 v l.length (l.map (Value.int .i64))) (hl : l.length ≤ 16) :
    Calls Try.prog 55 #[v] w fun e w' => ∃ v', e = .returned v' ∧ w'.ownsRow w.heap.size 3 1 v' l.length (l.map (Value.int .i64)) ∧ Below w.heap.size w w' := by
  obtain ⟨i0, hi0, hz0, hz1, hz2⟩ := info_parts infoI
  rcases h.2 with ⟨rfl, h0⟩ | ⟨g, cap, cur, rfl, hbg, hh, _⟩
  · have hx : l = [] := List.eq_nil_of_length_eq_zero h0
    subst hx
    have he := Lib.run_eql_slice_nil (P := Try.prog)
    go_enter Try.func55, Try.ntmps55
    go_wp2
    go_ret
    exact ⟨_, rfl, World.ownsRow_nil w _ _ _, Below.refl _ _⟩
  · have hm := World.ownsRow_made (e := 3) (size := 1) w #[] 0 (base := w.heap.size) (Nat.le_refl _) (by simp [maxLen]) (by simp)
    obtain ⟨v', w', hr, hn, hg⟩ := append_rows (P := Try.prog) w.heap.size 24 24 3 i0 _ 1 8 Try.underlying24 hi0 hz0 hz1 hz2 rfl (by decide) _ 0 [] hm (some ⟨g, 0, none⟩) l.length cap (l.map (Value.int .i64)) (by simp) (fun h0 => ⟨_, rfl, fun j u hj => by
      have hc := (h.cells (g := g) rfl) j u hj
      have e : ((⟨g, 0, none⟩ : Addr).add j) = ⟨g, j, none⟩ := by unfold Addr.add; split <;> simp_all
      rw [e] at hc ⊢
      exact cell_stays ((Below.refl _ w).alloc (Nat.le_refl _) _) hc⟩) (by intro u hu; simp at hu; obtain ⟨x, _, rfl⟩ := hu; rfl) (by simp [maxLen]; omega) (by omega) (by simp)
    rw [Nat.zero_add, List.nil_append] at hn
    have HR := Lib.hid hr
    have HN := Lib.hid (And.intro hn hg)
    have he := Lib.run_eql_slice_nil (P := Try.prog)
    clear hr hn hg hm h hh hi0 hz0 hz1 hz2 hbg
    go_enter Try.func55, Try.ntmps55
    go_wp2_with (at_builtin; refine wpList_append_run rfl (.tmp 5) (.tmp 6) 24 rfl _ _ _ _ rfl rfl HR.out ?_)
    go_ret
    exact ⟨v', rfl, HN.out.1, ((Below.refl _ w).alloc (Nat.le_refl _) _).grown HN.out.2 (by simp) (fun k hk => by cases hk; exact Nat.le_refl _)⟩
end Go.Proofs.Ytjkhclijmcmdjaa
namespace Go.Proofs.Ytjkhclijmcmdjaa
open Go.RowKit
set_option linter.unusedVariables false
set_option linter.unusedSimpArgs false
set_option maxHeartbeats 2000000 in
theorem search100 {n : Nat} (hn : n ≤ 100000) {F : Nat → Bool} {g : FuncId} {lb : Array Value} {w : World} (hg : ∀ (k : Nat) (w' : World), k < n → Below w.heap.size w w' → Calls Try.prog g (#[.int .i64 (k : Int)] ++ lb) w' fun e w2 => e = .returned (.bool (F k)) ∧ Below w'.heap.size w' w2)
    (eg : ∀ args w, (callFunc g args).run Try.prog w = .ok (.enter g args) w) {r : Nat} (hr : r ≤ n) (h1 : ∀ k, k < r → F k = false) (h2 : ∀ k, r ≤ k → k < n → F k = true) :
    Calls Try.prog 100 #[.int .i64 (n : Int), .func (.func g) #[] lb] w fun e w' => e = .returned (.int .i64 (r : Int)) ∧ Below w.heap.size w w' := by
  have HG := Lib.hid (And.intro hg (And.intro h1 h2))
  clear hg h1 h2
  go_enter Try.func100, Try.ntmps100
  refine wp_seq_hid ?_
  intro K0 HK0
  go_wp2_with fail
  refine HK0.out _ _ ?_
  clear HK0 K0
  refine wp_seq_hid ?_
  intro K1 HK1
  go_wp2_with fail
  refine HK1.out _ _ ?_
  clear HK1 K1
  refine wp_seq_hid ?_
  intro K2 HK2
  go_wp2_with fail
  go_loopw [5, 6] (fun u v wr => ∃ (i j : Nat), i ≤ r ∧ r ≤ j ∧ j ≤ n ∧ u = .int .i64 i ∧ v = .int .i64 j ∧ Hid (Below w.heap.size w wr)) (fun u v _ => (intOf v).toNat - (intOf u).toNat)
  case atStart => exact ⟨0, n, by omega, hr, by omega, rfl, rfl, Below.refl _ _⟩
  case round =>
    obtain ⟨i, j, hi, hj, hjn, rfl, rfl, HB⟩ := hrel
    by_cases hij : i < j
    · have hd : decide ((i : Int) < j) = true := by simp; omega
      obtain ⟨h, hh⟩ : ∃ h : Nat, ((i : Int) + j) / 2 = h := ⟨(i + j) / 2, by omega⟩
      have hih : i ≤ h := by omega
      have hhj : h < j := by omega
      go_upto_region 4 with fail
      have HH := Lib.hid hh
      have HC := HG.out.1 h wr (by omega) HB.out
      have HE := Lib.hid eg
      obtain ⟨q, hq⟩ : ∃ q, F h = q := ⟨_, rfl⟩
      rw [hq] at HC
      have HCH := Lib.hid HC
      have HQ := Lib.hid hq
      clear hh HC hq
      cases q with
      | false =>
        have hlt : Hid (h < r) := by
          rcases Nat.lt_or_ge h r with x | x
          · exact x
          · have h3 := HG.out.2.2 h x (by omega); rw [HQ.out] at h3; cases h3
        go_wp2_with fail
        refine HCH.out.mono ?_
        rintro e w3 ⟨rfl, hb⟩
        have HB3 := Lib.hid (HB.out.trans (hb.mono HB.out.size))
        clear hb
        go_wp2_with fail
        refine ⟨⟨h + 1, j, hlt.out, hj, hjn, by go_num, rfl, HB3.out⟩, ?_⟩
        simp [intOf]; omega
      | true =>
        have hge : Hid (r ≤ h) := by
          rcases Nat.lt_or_ge h r with x | x
          · have h3 := HG.out.2.1 h x; rw [HQ.out] at h3; cases h3
          · exact x
        go_wp2_with fail
        refine HCH.out.mono ?_
        rintro e w3 ⟨rfl, hb⟩
        have HB3 := Lib.hid (HB.out.trans (hb.mono HB.out.size))
        clear hb
        go_wp2_with fail
        refine ⟨⟨i, h, hi, hge.out, by omega, rfl, rfl, HB3.out⟩, ?_⟩
        simp [intOf]; omega
    · have hd : decide ((i : Int) < j) = false := by simp; omega
      have hir : i = r := by omega
      subst hir
      go_wp2_with fail
      refine HK2.out _ _ ?_
      go_wp2_with fail
      go_ret
      exact ⟨rfl, HB.out⟩
theorem good_mono {p : Prs} (S : Spoil p) (i : Nat) : (p.good (i : Int)).lo ≤ (p.good ((i + 1 : Nat) : Int)).lo := by
  have h1 := S.lo
  have h2 := S.le
  have h3 := S.hi
  unfold Prs.good
  simp only
  have e : ((i + 1 : Nat) : Int) * p.shi = (i : Int) * p.shi + p.shi := by rw [Int.natCast_add, Int.add_mul]; simp
  rw [e]
  omega
theorem good_le {p : Prs} (S : Spoil p) {i j : Nat} (h : i ≤ j) : (p.good (i : Int)).lo ≤ (p.good (j : Int)).lo := by
  induction j with
  | zero => have : i = 0 := by omega
            subst this; exact Int.le_refl _
  | succ j ih =>
    by_cases e : i = j + 1
    · subst e; exact Int.le_refl _
    · exact Int.le_trans (ih (by omega)) (good_mono S j)
/-- The least number of sheets of which so many surely are good. -/
def Prs.enoughN (p : Prs) (n : Int) : Nat := ((List.range (4 * n.toNat + 4)).find? fun (i : Nat) => decide (n ≤ (p.good (i : Int)).lo)).getD (4 * n.toNat + 4)
theorem enough_eq (p : Prs) (n : Int) : p.enough n = (p.enoughN n : Int) := rfl
theorem enough_spec (p : Prs) (n : Int) : p.enoughN n ≤ 4 * n.toNat + 4 ∧ (∀ k, k < p.enoughN n → ¬ n ≤ (p.good (k : Int)).lo) ∧ (p.enoughN n < 4 * n.toNat + 4 → n ≤ (p.good (p.enoughN n : Int)).lo) := by
  unfold Prs.enoughN
  cases h : (List.range (4 * n.toNat + 4)).find? fun (i : Nat) => decide (n ≤ (p.good (i : Int)).lo) with
  | none =>
    rw [List.find?_eq_none] at h
    refine ⟨Nat.le_refl _, fun k hk => by simpa using h k (by simpa using hk), fun h2 => by simp at h2⟩
  | some r =>
    rw [List.find?_range_eq_some] at h
    have hr : r < 4 * n.toNat + 4 := by simpa using h.2.1
    refine ⟨by simp; omega, fun k hk => by simpa using h.2.2 k hk, fun _ => by simpa using h.1⟩
theorem cf101 (args : Array Value) (w : World) : (callFunc 101 args).run Try.prog w = .ok (.enter 101 args) w := by simp [callFunc, Try.func101, Try.f101, go_sem]
theorem field96 (x y : Int) (w : World) : (Instr.field 96 (.agg #[.int .i64 x, .int .i64 y]) 0).run Try.prog w = .ok (.int .i64 x) w := by
  simp [Instr.field, Try.underlying96, go_sem]
  rfl
set_option maxHeartbeats 1000000 in
theorem good101 {p : Prs} {A : PrsA} {bp b2 b3 k : Nat} {n : Int} {w : World} (hP : IsPress w p A bp) (S : Spoil p) (hk : k ≤ 2097152) (h2 : w.cell? ⟨b2, 0, none⟩ = some (.pointer (some ⟨bp, 0, none⟩))) (h3 : w.cell? ⟨b3, 0, none⟩ = some (.int .i64 n)) :
    Calls Try.prog 101 #[.int .i64 (k : Int), .pointer (some ⟨b2, 0, none⟩), .pointer (some ⟨b3, 0, none⟩)] w fun e w' => e = .returned (.bool (decide (n ≤ (p.good (k : Int)).lo))) ∧ Below w.heap.size w w' := by
  have y2 := fun y : Aft w.heap.size w => cell_stays y.h h2
  have y3 := fun y : Aft w.heap.size w => cell_stays y.h h3
  have HC := Lib.hid (fun y : Aft w.heap.size w => good70 (hP.mono y.h) S (n := (k : Int)) (by omega) (by omega))
  have hgd : p.good (k : Int) = ⟨(p.good (k : Int)).lo, (p.good (k : Int)).hi⟩ := rfl
  rw [hgd] at HC
  clear h2 h3 hP hgd
  revert HC
  generalize (p.good (k : Int)).lo = x
  generalize (p.good (k : Int)).hi = z
  intro HC
  have HC2 : Hid (∀ y : Aft w.heap.size w, Calls Try.prog 70 #[.pointer (some ⟨bp, 0, none⟩), .int .i64 (k : Int)] y.v fun e w' => e = .returned (.agg #[.int .i64 x, .int .i64 z]) ∧ Below y.v.heap.size y.v w') := HC.out
  clear HC
  have hfd := field96 x z
  go_enter Try.func101, Try.ntmps101
  refine wp_seq_hid ?_
  intro K0 HK0
  go_wp2_with fail
  refine HK0.out _ _ ?_
  clear HK0 K0
  refine wp_seq_hid ?_
  intro K1 HK1
  refine wp_region_aft mixed (by kernel_rfl) ?_
  repeat (go_big_quiet_step ((go_at_call 70; exact calls_aft (HC2.out _))))
  refine wpQuiet_nil ?_
  rintro _ ⟨y, rfl⟩
  refine HK1.out _ _ ?_
  go_wp2_with fail
  go_ret
  exact ⟨rfl, y.h⟩
set_option maxHeartbeats 1000000 in
theorem enough81 {p : Prs} {A : PrsA} {bp : Nat} {n : Int} {w : World} (hP : IsPress w p A bp) (S : Spoil p) (h0 : 0 ≤ n) (h1 : n ≤ 20000) :
    Calls Try.prog 81 #[.pointer (some ⟨bp, 0, none⟩), .int .i64 n] w fun e w' => e = .returned (.int .i64 (p.enough n)) ∧ Below w.heap.size w w' := by
  obtain ⟨m, rfl⟩ : ∃ m : Nat, n = (m : Int) := ⟨n.toNat, by omega⟩
  have hmf : ∀ (fn : Fn) (first cap : Array Value) (w : World), (Instr.makeFunc fn first cap).run Try.prog w = .ok (.func fn first cap) w := fun _ _ _ _ => rfl
  have ha := alloc2 w #[.pointer (some ⟨bp, 0, none⟩)] #[.int .i64 (m : Int)] 71 3
  have HX := Lib.hid (And.intro ha (hP.mono ha.2.2))
  clear ha
  have hs := enough_spec p (m : Int)
  rw [Int.toNat_natCast] at hs
  have HE : Hid (Calls Try.prog 100 #[.int .i64 ((4 * m + 4 : Nat) : Int), .func (.func 101) #[] #[.pointer (some ⟨w.heap.size, 0, none⟩), .pointer (some ⟨w.heap.size + 1, 0, none⟩)]] ((w.alloc (.cells #[.pointer (some ⟨bp, 0, none⟩)] 71)).alloc (.cells #[.int .i64 (m : Int)] 3)) fun e w' => e = .returned (.int .i64 (p.enoughN (m : Int) : Int)) ∧ Below ((w.alloc (.cells #[.pointer (some ⟨bp, 0, none⟩)] 71)).alloc (.cells #[.int .i64 (m : Int)] 3)).heap.size ((w.alloc (.cells #[.pointer (some ⟨bp, 0, none⟩)] 71)).alloc (.cells #[.int .i64 (m : Int)] 3)) w') := by
    refine search100 (F := fun k => decide ((m : Int) ≤ (p.good (k : Int)).lo)) (by omega) (fun k w' hk hb => ?_) cf101 hs.1 (fun k hk => by simpa using hs.2.1 k hk) (fun k hk hk2 => ?_)
    · exact good101 (HX.out.2.mono hb) S (by omega) (by rw [cell_of_heap ((hb.block _ (heap_lt HX.out.1.1)).trans HX.out.1.1)]; rfl) (by rw [cell_of_heap ((hb.block _ (heap_lt HX.out.1.2.1)).trans HX.out.1.2.1)]; rfl)
    · have h2 := hs.2.2 (by omega)
      have h3 := good_le S hk
      simp only [decide_eq_true_eq]
      omega
  have hEQ := Lib.hid (enough_eq p (m : Int))
  clear hs hP
  go_enter Try.func81, Try.ntmps81
  refine wp_seq_hid ?_
  intro K0 HK0
  go_wp2_with fail
  refine HK0.out _ _ ?_
  clear HK0 K0
  revert HX HE
  generalize (w.alloc (.cells #[.pointer (some ⟨bp, 0, none⟩)] 71)).alloc (.cells #[.int .i64 (m : Int)] 3) = w1
  generalize w.heap.size + 1 = b3
  generalize hb2 : w.heap.size = b2
  intro HX HE
  have HB2 := Lib.hid hb2
  clear hb2
  have x3 : w1.cell? ⟨b3, 0, none⟩ = some (.int .i64 (m : Int)) := by rw [cell_of_heap HX.out.1.2.1]; rfl
  have e4 : ((4 * m + 4 : Nat) : Int) = 4 * (m : Int) + 4 := by omega
  rw [e4] at HE
  clear e4
  refine wp_seq_hid ?_
  intro K1 HK1
  go_wp2_with fail
  refine HE.out.mono ?_
  rintro e w3 ⟨rfl, hb⟩
  have HB3 := Lib.hid (HX.out.1.2.2.trans (hb.mono (Nat.le_of_lt (heap_lt HX.out.1.1))))
  clear hb x3
  go_wp2_with fail
  refine HK1.out _ _ ?_
  go_wp2_with fail
  go_ret
  exact ⟨by rw [hEQ.out]; rfl, HB3.out⟩
end Go.Proofs.Ytjkhclijmcmdjaa
namespace Go.Proofs.Ytjkhclijmcmdjaa
open Go.RowKit
set_option linter.unusedVariables false
set_option linter.unusedSimpArgs false
theorem restF_drop {slots : List Int} {f : Nat → Int} {m k : Nat} {n : Int} (h : k < m) : restF slots (((List.range m).map f).drop k) k n = if f k ≤ 0 then restF slots (((List.range m).map f).drop (k + 1)) (k + 1) n else if gi slots k = 0 then none else restF slots (((List.range m).map f).drop (k + 1)) (k + 1) (max n ((f k + gi slots k - 1) / gi slots k)) := by
  rw [List.drop_eq_getElem_cons (by simpa using h)]
  simp only [List.getElem_map, List.getElem_range]
  rfl
def Prs.lacks (p : Prs) (has : Nat → Int) : List Int := (List.range p.wanted.length).map fun v => gi p.wanted v - has v
theorem restF_lacks {p : Prs} {slots : List Int} {has : Nat → Int} {k : Nat} {n : Int} (h : k < p.wanted.length) : restF slots ((p.lacks has).drop k) k n = if gi p.wanted k - has k ≤ 0 then restF slots ((p.lacks has).drop (k + 1)) (k + 1) n else if gi slots k = 0 then none else restF slots ((p.lacks has).drop (k + 1)) (k + 1) (max n ((gi p.wanted k - has k + gi slots k - 1) / gi slots k)) := restF_drop h
/-- What rest answers. -/
def restV : Option Int → Value
  | some n => .tuple #[.int .i64 n, .bool true]
  | none => .tuple #[.int .i64 0, .bool false]
/-- A function that tells how many cards there are of a view. -/
structure HasF (w : World) (g : FuncId) (lb : Array Value) (m : Nat) (has : Nat → Int) : Prop where
  call : ∀ (k : Nat) (w' : World), k < m → Below w.heap.size w w' → Calls Try.prog g (#[.int .i64 (k : Int)] ++ lb) w' fun e w2 => e = .returned (.int .i64 (has k)) ∧ Below w'.heap.size w' w2
  enter : ∀ args w, (callFunc g args).run Try.prog w = .ok (.enter g args) w
  bd : ∀ k, k < m → 0 ≤ has k ∧ has k ≤ 100000000
/-- Slots that a forme can have, each within bounds. -/
structure SlotsR (p : Prs) (s : List Int) : Prop where
  len : s.length = p.wanted.length
  bd : ∀ k, k < s.length → 0 ≤ gi s k ∧ gi s k ≤ 6
theorem wants_bd {p : Prs} (hV : p.valid = true) {k : Nat} (hk : k < p.wanted.length) : 0 ≤ gi p.wanted k ∧ gi p.wanted k ≤ 60 := by
  unfold Prs.valid at hV
  simp only [Bool.and_eq_true] at hV
  have h := hV.1.1.2
  have h2 := all_rng h (gi p.wanted k) (by simp [gi, hk])
  exact h2
set_option maxRecDepth 100000 in
set_option maxHeartbeats 4000000 in
theorem rest80 {p : Prs} {A : PrsA} {bp : Nat} {s : List Int} {a : Option Addr} {c : Nat} {g : FuncId} {lb : Array Value} {has : Nat → Int} {w : World} (hP : IsPress w p A bp) (hV : p.valid = true) (ha : IsInts w a s) (hS : SlotsR p s) (hg : HasF w g lb p.wanted.length has) :
    Calls Try.prog 80 #[.pointer (some ⟨bp, 0, none⟩), .slice a s.length c, .func (.func g) #[] lb] w fun e w' => e = .returned (restV (p.rest s has)) ∧ (∀ n, p.rest s has = some n → 0 ≤ n ∧ n ≤ 66) ∧ Below w.heap.size w w' := by
  have HG := Lib.hid (And.intro hP (And.intro hV (And.intro ha (And.intro hS hg))))
  have HR : Hid (p.rest s has = restF s ((p.lacks has).drop 0) 0 0) := rfl
  have m6 := hP.c.c6
  have hw4 := wanted_of hV
  have hen := hg.enter
  have hsl := hS.len
  rw [hsl]
  clear hP hV ha hS hg hsl
  go_enter Try.func80, Try.ntmps80
  refine wp_seq_hid ?_
  intro K0 HK0
  go_wp2_with fail
  refine HK0.out _ _ ?_
  clear HK0 K0
  refine wp_seq_hid ?_
  intro K1 HK1
  go_wp2_with fail
  refine HK1.out _ _ ?_
  clear HK1 K1
  refine wp_seq_hid ?_
  intro K2 HK2
  go_wp2_with fail
  clear m6
  go_loopw [8, 18] (fun u i wr => ∃ (k : Nat) (n : Int), k ≤ p.wanted.length ∧ i = .int .i64 k ∧ u = .int .i64 n ∧ Hid ((0 ≤ n ∧ n ≤ 66) ∧ p.rest s has = restF s ((p.lacks has).drop k) k n) ∧ Hid (Below w.heap.size w wr)) (fun _ i _ => p.wanted.length - (intOf i).toNat)
  case atStart => exact ⟨0, 0, by omega, rfl, rfl, ⟨by omega, HR.out⟩, Below.refl _ _⟩
  case round =>
    obtain ⟨k, n, hk, rfl, rfl, HN, HB⟩ := hrel
    by_cases hlt : k < p.wanted.length
    · have HD := Lib.hid (restF_lacks (slots := s) (has := has) (n := n) hlt)
      have hwb := wants_bd HG.out.2.1 hlt
      have hsb := HG.out.2.2.2.1.bd k (by have := HG.out.2.2.2.1.len; omega)
      have hhb := HG.out.2.2.2.2.bd k hlt
      obtain ⟨b1, o1, hab, c1⟩ := (HG.out.1.prs.wanted.mono HB.out) k hlt
      rw [hab]
      obtain ⟨b2, o2, hab2, c2⟩ := (HG.out.2.2.1.mono HB.out) k (by have := HG.out.2.2.2.1.len; omega)
      have HAB := Lib.hid (And.intro hab hab2)
      have HC := Lib.hid (HG.out.2.2.2.2.call k wr hlt HB.out)
      have HC2 := Lib.hid c2
      clear hab hab2 c2
      have hmx : ∀ u v : Int, max u v = if u < v then v else u := fun u v => by split <;> omega
      revert HD hwb hsb hhb HC c1 HC2
      generalize gi p.wanted k = x
      generalize gi s k = y
      generalize has k = z
      intro HD hwb hsb hhb c1 HC HC2
      have HMX := Lib.hid hmx
      clear hmx
      have v1 : IntKind.i64.wrap (x - z) = x - z := IntWalk.i64_in _ (by omega)
      by_cases hle : x - z ≤ 0
      · have hd1 : decide (x - z ≤ 0) = true := by simpa using hle
        have HDD : Hid (p.rest s has = restF s ((p.lacks has).drop (k + 1)) (k + 1) n) := by rw [Hid, HN.out.2, HD.out, if_pos hle]
        clear hle HD
        go_upto_region 5 with fail
        go_wp2_with fail
        refine HC.out.mono ?_
        rintro e w3 ⟨rfl, hb⟩
        have HB3 := Lib.hid (HB.out.trans (hb.mono HB.out.size))
        clear hb
        go_wp2_with fail
        go_roundw
        case rel => exact ⟨k + 1, n, by omega, by go_num, rfl, ⟨HN.out.1, HDD.out⟩, HB3.out⟩
        case measure => simp [intOf]; omega
      · have hd1 : decide (x - z ≤ 0) = false := by simpa using hle
        rw [Hid, if_neg hle] at HD
        have HD := Lib.hid HD
        by_cases hy : y = 0
        · have hd2 : (y == 0) = true := by simpa using hy
          have HDD : Hid (p.rest s has = none) := by rw [Hid, HN.out.2, HD.out, if_pos hy]
          clear hle hy HD
          go_upto_region 5 with fail
          go_wp2_with fail
          refine HC.out.mono ?_
          rintro e w3 ⟨rfl, hb⟩
          have HB3 := Lib.hid (HB.out.trans (hb.mono HB.out.size))
          have c2 := cell_stays hb HC2.out
          have hl2 := HAB.out.2
          subst hl2
          clear hb
          go_wp2_with fail
          go_ret2
          exact ⟨by rw [HDD.out]; rfl, (fun n h => by rw [HDD.out] at h; cases h), HB3.out⟩
        · have hd2 : (y == 0) = false := by simpa using hy
          obtain ⟨q, hq⟩ : ∃ q, (x - z + y - 1) / y = q := ⟨_, rfl⟩
          have hq0 : 0 ≤ q ∧ q ≤ 66 := by
            rw [← hq]
            have h1 : 0 < y := by omega
            refine ⟨Int.ediv_nonneg (by omega) (by omega), ?_⟩
            have h2 := Int.ediv_le_self (a := x - z + y - 1) y (by omega)
            omega
          have e1 : IntKind.i64.wrap (x - z + y) = x - z + y := IntWalk.i64_in _ (by omega)
          have e2 : IntKind.i64.wrap (x - z + y - 1) = x - z + y - 1 := IntWalk.i64_in _ (by omega)
          have e3 : (x - z + y - 1).tdiv y = q := by rw [← hq]; exact Int.tdiv_eq_ediv_of_nonneg (by omega)
          have e4 : IntKind.i64.wrap q = q := IntWalk.i64_in _ (by omega)
          have HDD : Hid (p.rest s has = restF s ((p.lacks has).drop (k + 1)) (k + 1) (max n q)) := by rw [Hid, HN.out.2, HD.out, if_neg hy, hq]
          have HBD : Hid (0 ≤ max n q ∧ max n q ≤ 66) := by have := HN.out.1; show _ ∧ _; omega
          clear hle HD hq
          go_upto_region 5 with fail
          go_wp2_with fail
          refine HC.out.mono ?_
          rintro e w3 ⟨rfl, hb⟩
          have HB3 := Lib.hid (HB.out.trans (hb.mono HB.out.size))
          have c2 := cell_stays hb HC2.out
          have hl2 := HAB.out.2
          subst hl2
          clear hb
          go_upto_region 9 with fail
          have C2 := fun y : Aft w3.heap.size w3 => cell_stays y.h c2
          clear c2
          refine wp_region_aft mixed (by kernel_rfl) ?_
          repeat (go_big_quiet_step (fail))
          refine wpQuiet_nil ?_
          rintro _ ⟨y_, rfl⟩
          have HB4 := Lib.hid (HB3.out.trans (y_.h.mono HB3.out.size))
          clear C2
          go_wp2_with fail
          exact ⟨⟨k + 1, _, by omega, by go_num, rfl, ⟨HBD.out, HDD.out⟩, HB4.out⟩, meas_lt hlt⟩
    · have hke : (p.lacks has).drop k = [] := List.drop_eq_nil_of_le (by simp [Prs.lacks]; omega)
      have HDD : Hid (p.rest s has = some n) := by rw [Hid, HN.out.2, hke]; rfl
      clear hke
      go_wp2_with fail
      refine HK2.out _ _ ?_
      go_wp2_with fail
      go_ret2
      exact ⟨by rw [HDD.out]; rfl, (fun m h => by rw [HDD.out] at h; cases h; exact HN.out.1), HB.out⟩
end Go.Proofs.Ytjkhclijmcmdjaa
namespace Go.Proofs.Ytjkhclijmcmdjaa
open Go.RowKit
set_option linter.unusedVariables false
set_option linter.unusedSimpArgs false
set_option maxHeartbeats 1000000 in
theorem made76 {p : Prs} {A : PrsA} {bp b1 : Nat} {l : List Fme} {a : Option Addr} {c : Nat} {w : World} (hP : IsPress w p A bp) (h1 : w.cell? ⟨b1, 0, none⟩ = some (.pointer (some ⟨bp, 0, none⟩))) (ha : IsFmes w a l) (C : CostR p l) :
    Calls Try.prog 76 #[.slice a l.length c, .pointer (some ⟨b1, 0, none⟩)] w fun e w' => e = .returned (.agg #[.slice a l.length c, .int .i64 (p.cost l)]) ∧ Below w.heap.size w w' := by
  have hb0 : Below w.heap.size w (w.alloc (.cells #[.slice none 0 0, .int .i64 0] 81)) := (Below.refl _ w).alloc (Nat.le_refl _) _
  have q0 := World.alloc_heap_new w (.cells #[.slice none 0 0, .int .i64 0] 81)
  have HX := Lib.hid (And.intro q0 (And.intro hb0 (And.intro (hP.mono hb0) (ha.mono hb0))))
  have x1 := cell_stays hb0 h1
  clear hb0 q0 hP ha h1
  go_enter Try.func76, Try.ntmps76
  refine wp_seq_hid ?_
  intro K0 HK0
  go_wp2_with fail
  refine HK0.out _ _ ?_
  clear HK0 K0
  revert HX x1
  generalize w.alloc (.cells #[.slice none 0 0, .int .i64 0] 81) = w1
  generalize hb : w.heap.size = b3
  intro HX x1
  have HB := Lib.hid hb
  clear hb
  have HC := Lib.hid (cost51 (c := c) HX.out.2.2.1 HX.out.2.2.2 C)
  refine wp_seq_hid ?_
  intro K1 HK1
  go_wp2_with fail
  refine HC.out.mono ?_
  rintro e w3 ⟨rfl, hb⟩
  have hq := (hb.block _ (heap_lt HX.out.1)).trans HX.out.1
  have HQ := Lib.hid (And.intro hq (HX.out.2.1.trans (hb.mono (Nat.le_of_lt (heap_lt HX.out.1)))))
  have z0 : w3.cell? ⟨b3, 0, none⟩ = some (.slice none 0 0) := by rw [cell_of_heap hq]; rfl
  have z1 : w3.cell? ⟨b3, 1, none⟩ = some (.int .i64 0) := by rw [cell_of_heap hq]; rfl
  have f0 : w3.frozen? ⟨b3, 0, none⟩ = false := frozen_of_heap hq
  have f1 : w3.frozen? ⟨b3, 1, none⟩ = false := frozen_of_heap hq
  clear hb hq x1
  go_wp2_with fail
  refine HK1.out _ _ ?_
  go_wp2_with fail
  have h4 := heap_setCell_at (k := 1) (heap_setCell_at (k := 0) HQ.out.1 (.slice a l.length c)) (.int .i64 (p.cost l))
  refine bodyPost_ret (v := .agg #[.slice a l.length c, .int .i64 (p.cost l)]) (by
    have c0 : ((w3.setCell ⟨b3, 0, none⟩ (.slice a l.length c)).setCell ⟨b3, 1, none⟩ (.int .i64 (p.cost l))).cell? ⟨b3, 0, none⟩ = some (.slice a l.length c) := by rw [cell_of_heap h4]; rfl
    have c1 : ((w3.setCell ⟨b3, 0, none⟩ (.slice a l.length c)).setCell ⟨b3, 1, none⟩ (.int .i64 (p.cost l))).cell? ⟨b3, 1, none⟩ = some (.int .i64 (p.cost l)) := by rw [cell_of_heap h4]; rfl
    simp [results, Try.results76, c0, c1, go_sem]) rfl ⟨rfl, ?_⟩
  exact (HQ.out.2.setCell (p := ⟨b3, _, none⟩) (Nat.le_refl _) _).setCell (p := ⟨b3, _, none⟩) (Nat.le_refl _) _
theorem cf77 (args : Array Value) (w : World) : (callFunc 77 args).run Try.prog w = .ok (.enter 77 args) w := by simp [callFunc, Try.func77, Try.f77, go_sem]
theorem cf83 (args : Array Value) (w : World) : (callFunc 83 args).run Try.prog w = .ok (.enter 83 args) w := by simp [callFunc, Try.func83, Try.f83, go_sem]
theorem none77 (x : Int) (w : World) : Calls Try.prog 77 #[.int .i64 x] w fun e w' => e = .returned (.int .i64 0) ∧ Below w.heap.size w w' := by
  go_enter Try.func77, Try.ntmps77
  go_wp2
  go_ret
  exact ⟨rfl, Below.refl _ _⟩
theorem hasNone (w : World) (m : Nat) : HasF w 77 #[] m (fun _ => 0) := ⟨fun k w' _ _ => none77 _ _, cf77, fun _ _ => by omega⟩
set_option maxHeartbeats 1000000 in
theorem has83 {p : Prs} {A : PrsA} {bp b1 bf v : Nat} {f : Fme} {a : Option Addr} {c : Nat} {w : World} (hP : IsPress w p A bp) (S : Spoil p) (h1 : w.cell? ⟨b1, 0, none⟩ = some (.pointer (some ⟨bp, 0, none⟩)))
    (h2 : w.heap[bf]? = some (.cells (f.arr a c) 29 (0, 0))) (hf : IsInts w a f.slots) (F : FmeR f v) :
    Calls Try.prog 83 #[.int .i64 (v : Int), .pointer (some ⟨b1, 0, none⟩), .pointer (some ⟨bf, 0, none⟩)] w fun e w' => e = .returned (.int .i64 (p.gives f v).lo) ∧ Below w.heap.size w w' := by
  have HC := Lib.hid (gives45 (p := p) (A := A) (c := c) hP S hf F)
  have x0 : w.cell? ⟨bf, 0, none⟩ = some (.slice a f.slots.length c) := by rw [cell_of_heap h2]; rfl
  have x1 : w.cell? ⟨bf, 1, none⟩ = some (.int .i64 f.times) := by rw [cell_of_heap h2]; rfl
  have hfd := fun w => field23 (p.gives f v).lo (p.gives f v).hi w
  clear h2 hP hf
  go_enter Try.func83, Try.ntmps83
  go_wp2_with fail
  refine HC.out.mono ?_
  rintro e w3 ⟨rfl, hb⟩
  have HB := Lib.hid hb
  clear hb
  go_wp2_with fail
  go_ret
  exact ⟨rfl, HB.out⟩
theorem hasFme {p : Prs} {A : PrsA} {bp b1 bf : Nat} {f : Fme} {a : Option Addr} {c : Nat} {w : World} (hP : IsPress w p A bp) (S : Spoil p) (h1 : w.cell? ⟨b1, 0, none⟩ = some (.pointer (some ⟨bp, 0, none⟩)))
    (h2 : w.heap[bf]? = some (.cells (f.arr a c) 29 (0, 0))) (hf : IsInts w a f.slots) (F : ∀ v, v < p.wanted.length → FmeR f v) : HasF w 83 #[.pointer (some ⟨b1, 0, none⟩), .pointer (some ⟨bf, 0, none⟩)] p.wanted.length (fun v => (p.gives f v).lo) :=
  ⟨fun k w' hk hb => has83 (hP.mono hb) S (cell_stays hb h1) ((hb.block _ (heap_lt h2)).trans h2) (hf.mono hb) (F k hk), cf83, fun k hk => by have h := gives_bd S (F k hk); show 0 ≤ gi f.slots k * (p.good f.times).lo ∧ gi f.slots k * (p.good f.times).lo ≤ 100000000; omega⟩
end Go.Proofs.Ytjkhclijmcmdjaa
