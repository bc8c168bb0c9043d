/- The reference: lists compared; one truth of each state. The reference: one truth of each state. The reference: Next. -/
import Derived.Test.YtlhobddaojdnoaaTC
import Derived.Test.YtlhobddaojdnoaaL12
namespace Go.Proofs.Ytlhobddaojdnoaa
open Go.RowKit
set_option linter.unusedVariables false

theorem eq_gi {l m : List Int} (hl : l.length = m.length) (h : ∀ j, j < l.length → gi l j = gi m j) : l = m := by
  refine List.ext_getElem hl (fun i h1 h2 => ?_)
  have := h i h1
  simpa [gi, h1, h2] using this
set_option maxRecDepth 100000 in
set_option maxHeartbeats 1000000 in
theorem ints_any {l m : List Int} {a b : Option Addr} {ca cb : Nat} {w : World} (ha : IsInts w a l) (hb : IsInts w b m) (hl : l.length = m.length) (h5 : l.length ≤ 30) :
    Calls Try.prog 45 #[.slice a l.length ca, .slice b m.length cb] w fun e w' => e = .returned (.bool (decide (l = m))) ∧ Below w.heap.size w w' := by
  rw [← hl]
  have HL := Lib.hid (And.intro hl (And.intro ha hb))
  have hlb : ((l.length : Int) == (l.length : Int)) = true := by simp
  clear ha hb hl
  go_enter Try.func45, Try.ntmps45
  go_wp2_with fail
  go_loopw [5] (fun i wr => ∃ k : Nat, k ≤ l.length ∧ i = .int .i64 k ∧ Hid (∀ j, j < k → gi l j = gi m j) ∧ Below w.heap.size w wr) (fun i _ => l.length - (intOf i).toNat)
  case atStart => exact ⟨0, by omega, rfl, fun j hj => by omega, Below.refl _ _⟩
  case round =>
    obtain ⟨k, hk, rfl, HK, hbr⟩ := hrel
    by_cases hlt : k < l.length
    · obtain ⟨hlm, ha, hb⟩ := HL.out
      obtain ⟨b1, o1, rfl, q1⟩ := ha.mono hbr k hlt
      obtain ⟨b2, o2, rfl, q2⟩ := hb.mono hbr k (by omega)
      have x0 := fun y : Aft wr.heap.size wr => cell_stays y.h q1
      have x1 := fun y : Aft wr.heap.size wr => cell_stays y.h q2
      clear ha hb hlm
      by_cases he : gi l k = gi m k
      · have h1 : (gi l k == gi m k) = true := by simp [he]
        have h2 : (gi l k != gi m k) = false := by simp [he]
        have HE := Lib.hid he
        clear he
        go_wp2_with fail
        refine wp_region_aft mixed (by kernel_rfl) ?_
        repeat (go_big_quiet_step (fail))
        refine wpQuiet_nil ?_
        rintro _ ⟨y, rfl⟩
        go_wp2_with fail
        go_roundw
        case rel => exact ⟨k + 1, by omega, by go_num, fun j hj => by
          by_cases e : j = k
          · subst e; exact HE.out
          · exact HK.out j (by omega), hbr.trans (y.h.mono hbr.size)⟩
        case measure => simp [intOf]; omega
      · have h1 : (gi l k == gi m k) = false := by simpa using he
        have h2 : (gi l k != gi m k) = true := by simpa using he
        have HE := Lib.hid he
        clear he
        go_wp2_with fail
        refine wp_region_aft mixed (by kernel_rfl) ?_
        repeat (go_big_quiet_step (fail))
        refine wpQuiet_nil ?_
        rintro _ ⟨y, rfl⟩
        go_wp2_with fail
        go_ret
        refine ⟨ret_bool ?_, bst hbr y.h⟩
        symm
        rw [decide_eq_false_iff_not]
        intro e
        exact HE.out (by rw [e])
    · obtain rfl : k = l.length := by omega
      go_wp2_with fail
      go_ret
      refine ⟨ret_bool ?_, hbr⟩
      symm
      rw [decide_eq_true_eq]
      exact eq_gi HL.out.1 HK.out

/-- A slice of the call's own whose truths are older. -/
def Outs2 (w : World) (B1 B2 : Nat) (v : Value) (L : List Tr) : Prop :=
  ∃ vs : List (Value × Value), vs.length = L.length ∧ w.ownsRow B1 56 2 v L.length (vs.flatMap fun p => [p.1, p.2]) ∧ ∀ (i : Nat) (x : Tr) (p : Value × Value), L[i]? = some x → vs[i]? = some p → OwnT w B2 x p
theorem Outs2.nil (w : World) (B1 B2 : Nat) : Outs2 w B1 B2 (.slice none 0 0) [] := ⟨([] : List (Value × Value)), rfl, World.ownsRow_nil w B1 56 2, fun i x p hx hp => by simp at hp⟩
theorem Outs2.below {w w' : World} {B1 B2 : Nat} {v : Value} {L : List Tr} (h : Outs2 w B1 B2 v L) (hb : Below w.heap.size w w') : Outs2 w' B1 B2 v L := by
  obtain ⟨vs, h1, h2, h3⟩ := h
  exact ⟨vs, h1, own_below h2 hb, fun i x p hx hp => (h3 i x p hx hp).below hb⟩
theorem Outs2.slice {w : World} {B1 B2 : Nat} {v : Value} {L : List Tr} (h : Outs2 w B1 B2 v L) : ∃ a cap, v = .slice a L.length cap ∧ L.length ≤ cap ∧ cap ≤ maxLen := by
  obtain ⟨vs, h1, h2, h3⟩ := h
  exact own_slice h2
theorem Outs2.at {w : World} {B1 B2 : Nat} {v : Value} {L : List Tr} (h : Outs2 w B1 B2 v L) {k : Nat} {x : Tr} (hk : L[k]? = some x) :
    ∃ g cap p, v = .slice (some ⟨g, 0, none⟩) L.length cap ∧ w.cell? ⟨g, k * 2, none⟩ = some p.1 ∧ w.cell? ⟨g, k * 2 + 1, none⟩ = some p.2 ∧ OwnT w B2 x p := by
  obtain ⟨vs, h1, h2, h3⟩ := h
  have hlt := (List.getElem?_eq_some_iff.1 hk).1
  obtain ⟨g, cap, he, _, _, _, _, hc⟩ := own_cell h2 (by omega)
  have hp : vs[k]? = some vs[k] := List.getElem?_eq_getElem (by omega)
  obtain ⟨q1, q2⟩ := flat_pair hp
  exact ⟨g, cap, vs[k], he, hc _ _ q1, hc _ _ q2, h3 k x _ hk hp⟩
theorem Outs2.push {w : World} {B1 B2 : Nat} {v : Value} {L : List Tr} (h : Outs2 w B1 B2 v L) {x : Tr} {p : Value × Value} (hp : OwnT w B2 x p) (hL : L.length ≤ 4000) (hB : B1 ≤ w.heap.size) (ty : TypeId) :
    ∃ v' w', (Builtin.append_ #[51, 51] ty #[v, .slice (some ⟨w.heap.size, 0, none⟩) 1 1]).run Try.prog (w.alloc (.cells #[p.1, p.2] 56)) = .ok v' w' ∧ Outs2 w' B1 B2 v' (L ++ [x]) ∧ (w.alloc (.cells #[p.1, p.2] 56)).grownBy w' v.ownBlock := by
  obtain ⟨vs, h1, h2, h3⟩ := h
  obtain ⟨i0, hi0, hz0, hz1, hz2⟩ := info_parts infoT
  have hA := h2.alloc (.cells #[p.1, p.2] 56)
  obtain ⟨a1, c1, e1, _⟩ := own_slice hp.1
  obtain ⟨a2, c2, e2, _⟩ := own_slice hp.2
  obtain ⟨v', w', hr, hn, hg, hv⟩ := append_rows_at (P := Try.prog) B1 51 ty 56 i0 _ 2 48 Try.underlying51 hi0 hz0 hz1 hz2 rfl (by decide) _ _ _ hA (some ⟨w.heap.size, 0, none⟩) 1 1 [p.1, p.2]
    rfl (fun _ => ⟨_, rfl, fun j u hj => by
      have hh := World.alloc_heap_new w (.cells #[p.1, p.2] 56)
      have e : ((⟨w.heap.size, 0, none⟩ : Addr).add j) = ⟨w.heap.size, j, none⟩ := by unfold Addr.add; split <;> simp_all
      rw [e, cell_of_heap hh]
      simpa using hj⟩) (fun u hu => by
      simp only [List.mem_cons, List.not_mem_nil, or_false] at hu
      rcases hu with rfl | rfl
      · rw [e1]; rfl
      · rw [e2]; rfl) (by simp [maxLen]; omega) (by omega) (by simp; omega)
  refine ⟨v', w', hr, ⟨vs ++ [p], by simp [h1], by simpa using hn, fun i y q hy hq => ?_⟩, hg⟩
  have keep : ∀ {y q}, OwnT w B2 y q → OwnT w' B2 y q := fun h => (h.below ((Below.refl _ w).alloc (Nat.le_refl _) _)).kept hA hg
  by_cases hi : i < L.length
  · rw [List.getElem?_append_left hi] at hy
    rw [List.getElem?_append_left (by omega)] at hq
    exact keep (h3 i y q hy hq)
  · have hlt := (List.getElem?_eq_some_iff.1 hy).1
    simp at hlt
    obtain rfl : i = L.length := by omega
    simp at hy
    rw [← h1] at hq
    simp at hq
    subst hy hq
    exact keep hp
end Go.Proofs.Ytlhobddaojdnoaa

namespace Go.Proofs.Ytlhobddaojdnoaa
open Go.RowKit
set_option linter.unusedVariables false

theorem seenIn_take {F : List Tr} {m : Nat} {x y : Tr} (h : F[m]? = some y) : seenIn (F.take (m + 1)) x = (seenIn (F.take m) x || decide (y.1 = x.1)) := by
  have hlt := List.getElem?_eq_some_iff.1 h
  unfold seenIn
  rw [List.take_succ_eq_append_getElem hlt.1, List.any_append, hlt.2]
  simp
def StatesPost (T : List Tr) (B : Nat) (w : World) (e : Ending) (w' : World) : Prop := ∃ v', e = .returned v' ∧ Outs2 w' w.heap.size B v' (firsts T) ∧ Below w.heap.size w w'
set_option maxRecDepth 100000 in
set_option maxHeartbeats 2000000 in
theorem states_any {T : List Tr} {B g cap n : Nat} {w : World} (hO : Outs w B (.slice (some ⟨g, 0, none⟩) T.length cap) T) (hn : ∀ x ∈ T, x.1.length = n) (hn5 : n ≤ 5) (hT : T.length ≤ 2000) (hcap : T.length ≤ cap) :
    Calls Try.prog 38 #[.slice (some ⟨g, 0, none⟩) T.length cap] w (StatesPost T B w) := by
  have HO := Lib.hid hO
  have HN := Lib.hid hn
  clear hO hn
  go_enter Try.func38, Try.ntmps38
  go_wp2_with fail
  go_loopw [3, 4] (fun o i wr => ∃ (k : Nat) (u : Value), u = o ∧ k ≤ T.length ∧ i = .int .i64 k ∧ Hid (Outs2 wr w.heap.size B u (firstsTo T k)) ∧ Below w.heap.size w wr) (fun _ i _ => T.length - (intOf i).toNat)
  case atStart => exact ⟨0, _, rfl, by omega, rfl, Outs2.nil _ _ _, Below.refl _ _⟩
  case round =>
    obtain ⟨wo, rfl⟩ : ∃ wo : World, wo = wr := ⟨_, rfl⟩
    obtain ⟨k, u, rfl, hk, rfl, HU, hbo⟩ := hrel
    by_cases hlt : k < T.length
    · obtain ⟨x, hx⟩ : ∃ x, T[k]? = some x := ⟨_, List.getElem?_eq_getElem hlt⟩
      have HX := Lib.hid hx
      have HXN := Lib.hid (HN.out x (List.mem_of_getElem? hx))
      obtain ⟨F, hF⟩ : ∃ F, firstsTo T k = F := ⟨_, rfl⟩
      have hFl : F.length ≤ k := by rw [← hF]; exact firstsTo_le T k
      have HF := Lib.hid hF
      rw [hF] at HU
      obtain ⟨au, cu, rfl, hcu, hcm⟩ := HU.out.slice
      have HFN : Hid (∀ y ∈ F, y ∈ T) := by rw [← hF]; exact (firstsTo_spec T k hk).2.1
      clear hx hF
      go_wp2_with fail
      go_loopw [5, 6] (fun s j w2 => ∃ (m : Nat) (b : Bool), m ≤ F.length ∧ j = .int .i64 m ∧ s = .bool b ∧ Hid (b = seenIn (F.take m) x) ∧ Below wo.heap.size wo w2) (fun _ j _ => F.length - (intOf j).toNat)
      case atStart => exact ⟨0, false, by omega, rfl, rfl, rfl, Below.refl _ _⟩
      case round =>
        obtain ⟨m, b, hm, rfl, rfl, HB, hb2⟩ := hrel
        by_cases hml : m < F.length
        · obtain ⟨y, hy⟩ : ∃ y, F[m]? = some y := ⟨_, List.getElem?_eq_getElem hml⟩
          have HS := Lib.hid (seenIn_take (x := x) hy)
          cases b with
          | true =>
            clear hy
            go_wp2_with fail
            refine wp_region_aft mixed (by kernel_rfl) ?_
            repeat (go_big_quiet_step (fail))
            refine wpQuiet_nil ?_
            rintro _ ⟨z, rfl⟩
            go_wp2_with fail
            go_roundw
            case rel => exact ⟨m + 1, true, by omega, by go_num, rfl, by rw [Hid, HS.out, ← HB.out]; rfl, hb2.trans (z.h.mono hb2.size)⟩
            case measure => simp [intOf]; omega
          | false =>
            obtain ⟨g2, cap2, p2, he, q1, q2, hp2⟩ := (HU.out.below hb2).at hy
            simp only [Value.slice.injEq, true_and] at he
            obtain ⟨rfl, rfl⟩ := he
            have hbw : Below w.heap.size w wr := hbo.trans (hb2.mono hbo.size)
            obtain ⟨p1, r1, r2, hp1⟩ := (HO.out.below hbw).at rfl HX.out
            obtain ⟨a1, k1, e1, i1⟩ := own_ints hp1.1 rfl
            obtain ⟨a2, k2, e2, i2⟩ := own_ints hp2.1 rfl
            rw [e1] at r1
            rw [e2] at q1
            have hyn : y.1.length = n := HN.out y (HFN.out y (List.mem_of_getElem? hy))
            have hxn : x.1.length = n := HXN.out
            have HC : Hid (∀ (z : Aft wr.heap.size wr) (bb : Bool), decide (y.1 = x.1) = bb → Calls Try.prog 45 #[.slice a2 y.1.length k2, .slice a1 x.1.length k1] z.v fun e w' => e = .returned (.bool bb) ∧ Below z.v.heap.size z.v w') :=
              fun z bb h => h ▸ ints_any (i2.mono z.h) (i1.mono z.h) (by rw [hyn, hxn]) (by omega)
            have x0 := fun z : Aft wr.heap.size wr => cell_stays z.h q1
            have x1 := fun z : Aft wr.heap.size wr => cell_stays z.h r1
            clear hy q2 r2 hp2 hp1 e1 e2 i1 i2 hyn hxn
            cases hd : decide (y.1 = x.1)
            all_goals
              have HCb := Lib.hid (fun z => HC.out z _ hd)
              have HD := Lib.hid hd
              clear hd HC
              go_wp2_with fail
              refine wp_region_aft mixed (by kernel_rfl) ?_
              repeat (go_big_quiet_step ((go_at_call 45; exact calls_aft (HCb.out _))))
              refine wpQuiet_nil ?_
              rintro _ ⟨z, rfl⟩
              go_wp2_with fail
              go_roundw
            case rel => exact ⟨m + 1, false, by omega, by go_num, rfl, by rw [Hid, HS.out, ← HB.out, HD.out]; rfl, hb2.trans (z.h.mono hb2.size)⟩
            case measure => simp [intOf]; omega
            case rel => exact ⟨m + 1, true, by omega, by go_num, rfl, by rw [Hid, HS.out, ← HB.out, HD.out]; rfl, hb2.trans (z.h.mono hb2.size)⟩
            case measure => simp [intOf]; omega
        · obtain rfl : m = F.length := by omega
          have HFS := Lib.hid (firstsTo_succ HX.out)
          have hbw : Below w.heap.size w wr := hbo.trans (hb2.mono hbo.size)
          have HSe : Hid (b = seenIn F x) := by have := HB.out; rw [List.take_length] at this; exact this
          cases b with
          | true =>
            go_wp2_with fail
            go_roundw
            case rel =>
              refine ⟨k + 1, _, rfl, by omega, by go_num, ?_, hbw⟩
              rw [Hid, HFS.out, HF.out]
              unfold addFirst
              rw [← HSe.out, if_pos rfl]
              exact HU.out.below hb2
            case measure => simp [intOf]; omega
          | false =>
            obtain ⟨p1, r1, r2, hp1⟩ := (HO.out.below hbw).at rfl HX.out
            obtain ⟨v', w', hr, hOn, hg⟩ := (HU.out.below hb2).push hp1 (by omega) (by have := hbw.size; omega) 51
            have HR := Lib.hid hr
            have HH := Lib.hid (And.intro hOn hg)
            clear hr hOn hg hp1
            go_wp2_with (at_builtin; refine wpList_append_run rfl (.tmp 35) (.tmp 40) 51 rfl _ _ _ _ rfl rfl HR.out ?_)
            go_roundw
            case rel =>
              obtain ⟨hOn, hg⟩ := HH.out
              refine ⟨k + 1, _, rfl, by omega, by go_num, ?_, ?_⟩
              · rw [Hid, HFS.out, HF.out]
                unfold addFirst
                rw [← HSe.out, if_neg (by simp)]
                exact hOn
              · refine (hbw.alloc hbw.size _).grown hg (by simp; have := hbw.size; omega) (fun q hq => ?_)
                obtain ⟨vs, h1, h2, h3⟩ := HU.out
                exact (h2.lt q hq).1
            case measure => simp [intOf]; omega
    · obtain rfl : k = T.length := by omega
      go_wp2_with fail
      go_ret
      exact ⟨_, rfl, HU.out, hbo⟩
end Go.Proofs.Ytlhobddaojdnoaa

namespace Go.Proofs.Ytlhobddaojdnoaa
open Go.RowKit
set_option linter.unusedVariables false

theorem best_round {F : List Tr} {m S s b left : Nat} (h : s < S) : best F m (S - s) s b left = if rworst F (s : Int) m < left then best F m (S - (s + 1)) (s + 1) s (rworst F (s : Int) m) else best F m (S - (s + 1)) (s + 1) b left := by
  obtain ⟨d, hd⟩ : ∃ d, S - s = d + 1 := ⟨S - s - 1, by omega⟩
  rw [hd, show S - (s + 1) = d by omega]
  rfl
set_option maxRecDepth 100000 in
set_option maxHeartbeats 2000000 in
theorem rnext_any {c : Cab} {ah : Option Addr} {ch : Nat} {al : Option Addr} {cl : Nat} {w : World} (hg : Given w c ah ch al cl) (hb : c.valid = true → backN c.loans ≤ 4) :
    Calls Try.prog 30 #[c.v ah ch al cl] w fun e w' => e = .returned (.tuple #[.int .i64 (nextE c).1, .int .i64 (nextE c).2.1, .int .i64 (nextE c).2.2]) ∧ Below w.heap.size w w' := by
  have hb1 : Below w.heap.size w (w.alloc (.cells (c.cells ah ch al cl) 25)) := (Below.refl _ w).alloc (Nat.le_refl _) _
  have HB1 := Lib.hid hb1
  have HG1 := Lib.hid (hg.mono hb1)
  have HBK := Lib.hid hb
  have hA := Lib.hid (World.alloc_heap_new w (.cells (c.cells ah ch al cl) 25))
  have hn16 := hg.hh
  have hl30 := hg.hl
  clear hb1 hg hb
  by_cases h0 : openE c true = 0
  · have hq : (openE c true == 0) = true := by simp [h0]
    have hq' : (openE c true != 0) = false := by simp [h0]
    have H0 := Lib.hid h0
    obtain ⟨hv, _, hT⟩ := openE_zero h0
    have HV := Lib.hid hv
    have HT0 : Hid (truths c ≠ []) := hT
    have hnh := valid_homes hv
    have hnl := valid_loans hv
    have HVS := Lib.hid (valid_slots hv)
    have HTP : Hid (0 < (truths c).length) := List.length_pos_iff.2 hT
    have hTle := truths_count (c := c) (valid_slots hv).2 (HBK.out hv)
    have hFle : (firsts (truths c)).length ≤ 1296 := Nat.le_trans (firstsTo_le _ _) hTle
    have HN1 : Hid ((firsts (truths c)).length = 1 → nextE c = (0, 0, 4)) := next_one h0
    have HNM : Hid ((firsts (truths c)).length ≠ 1 → nextE c = _) := next_more hv h0 hT
    have hF0 : 0 < (firsts (truths c)).length := List.length_pos_iff.2 (firsts_ne hT)
    obtain ⟨sn, hsn⟩ : ∃ sn : Nat, c.slots = sn := ⟨c.slots.toNat, by have := (valid_slots hv).1; omega⟩
    have HSN := Lib.hid hsn
    have hs16 := valid_slots hv
    have hTl := truths_count (c := c) HVS.out.2 (HBK.out hv)
    clear h0 hv hT hsn
    go_enter Try.func30, Try.ntmps30
    go_wp2_with fail
    refine (ropen_any HG1.out HBK.out true).mono ?_
    rintro e w4 ⟨v, rfl, hO, hb4⟩
    have hO := hO H0.out
    obtain ⟨c0, c1, c2, c3⟩ := cellsN ((hb4.block _ (by simp)).trans hA.out)
    obtain ⟨g, cap, rfl, hcap, hmax⟩ := hO.some HT0.out
    have HO := Lib.hid hO
    have HB4 := Lib.hid hb4
    clear hO hb4
    go_wp2_with fail
    refine (states_any HO.out (fun x hx => (truth_st HV.out (r := anyRule) (ls := c.loans) (W := c.wrong) (t := x.1) (bs := x.2) hx).len) hnh (by omega) hcap).mono ?_
    rintro e w5 ⟨v2, rfl, hO2, hb5⟩
    have c0 := cell_stays hb5 c0
    have c1 := cell_stays hb5 c1
    have c2 := cell_stays hb5 c2
    have c3 := cell_stays hb5 c3
    obtain ⟨F, hF⟩ : ∃ F, firsts (truths c) = F := ⟨_, rfl⟩
    have HFM : Hid (∀ x ∈ F, x ∈ truths c) := by rw [← hF]; exact fun x hx => firsts_mem hx
    rw [hF] at hO2 HN1 HNM hFle hF0
    obtain ⟨g2, cap2, v2e, hcap2, hmax2⟩ : ∃ g2 cap2, v2 = .slice (some ⟨g2, 0, none⟩) F.length cap2 ∧ F.length ≤ cap2 ∧ cap2 ≤ maxLen := by
      obtain ⟨vs, h1, h2, h3⟩ := hO2
      obtain ⟨g', cap', he, _, _, h4, h5, _⟩ := own_cell h2 hF0
      exact ⟨g', cap', he, h4, h5⟩
    subst v2e
    have HO2 := Lib.hid hO2
    have HM := Lib.hid (And.intro c0 (And.intro c1 (And.intro c2 c3)))
    have HB5 := Lib.hid hb5
    clear hO2 hF c0 c1 c2 c3 hb5
    by_cases h1 : F.length = 1
    · have hlb : ((F.length : Int) == 1) = true := by simp [h1]
      have H1 := Lib.hid h1
      clear h1
      go_wp2_with fail
      go_ret3
      refine ⟨?_, bst HB1.out (bst HB4.out HB5.out)⟩
      rw [HN1.out H1.out]
      rfl
    · have hlb : ((F.length : Int) == 1) = false := by simp; omega
      have HE := Lib.hid (HNM.out h1)
      clear h1 HN1 HNM
      go_wp2_with fail
      go_loopw [7, 8, 9] (fun b l i wr => ∃ (s bb left : Nat), (s : Int) ≤ c.slots ∧ i = .int .i64 s ∧ b = .int .i64 bb ∧ l = .int .i64 left ∧ left ≤ 3000 ∧ Hid (best F (c.homes.length + 1) c.slots.toNat 0 0 (F.length + 1) = best F (c.homes.length + 1) (c.slots.toNat - s) s bb left) ∧ Below w5.heap.size w5 wr) (fun _ _ i _ => c.slots.toNat - (intOf i).toNat)
      case atStart => exact ⟨0, 0, F.length + 1, by omega, rfl, rfl, by go_num, by omega, rfl, Below.refl _ _⟩
      case round =>
        obtain ⟨wo, rfl⟩ : ∃ wo : World, wo = wr := ⟨_, rfl⟩
        obtain ⟨s, bb, left, hs, rfl, rfl, rfl, hleft, HBS, hbo⟩ := hrel
        obtain ⟨c0, c1, c2, c3⟩ := HM.out
        have c0 := cell_stays hbo c0
        by_cases hlt : (s : Int) < c.slots
        · have hd1 : decide ((s : Int) < c.slots) = true := by simpa using hlt
          have HLT := Lib.hid hlt
          clear c1 c2 c3
          go_wp2_with fail
          go_loopw [10, 11] (fun z cd w2 => ∃ (j zz : Nat), j ≤ c.homes.length + 1 ∧ cd = .int .i64 ((j : Int) - 1) ∧ z = .int .i64 zz ∧ zz ≤ 1296 ∧ Hid (zz = rworst F s j) ∧ Below wo.heap.size wo w2) (fun _ cd _ => c.homes.length + 1 - (intOf cd + 1).toNat)
          case atStart => exact ⟨0, 0, by omega, rfl, rfl, by omega, rfl, Below.refl _ _⟩
          case round =>
            obtain ⟨wm, rfl⟩ : ∃ wm : World, wm = wr := ⟨_, rfl⟩
            obtain ⟨j, zz, hj, rfl, rfl, hzz, HZ, hbm⟩ := hrel
            obtain ⟨_, c1, _, _⟩ := HM.out
            have c1 := cell_stays hbm (cell_stays hbo c1)
            have HR := Lib.hid (rworst_succ F s j)
            by_cases hjl : (j : Int) - 1 < (c.homes.length : Int)
            · have hd2 : decide ((j : Int) - 1 < (c.homes.length : Int)) = true := by simpa using hjl
              clear c0
              go_wp2_with fail
              go_loopw [12, 13] (fun n i w3 => ∃ (k nn : Nat), k ≤ F.length ∧ i = .int .i64 k ∧ n = .int .i64 nn ∧ nn ≤ k ∧ Hid (nn = cntL F s ((j : Int) - 1) k) ∧ Below wm.heap.size wm w3) (fun _ i _ => F.length - (intOf i).toNat)
              case atStart => exact ⟨0, 0, by omega, rfl, rfl, by omega, rfl, Below.refl _ _⟩
              case round =>
                obtain ⟨k, nn, hk, rfl, rfl, hnn, HNN, hb3⟩ := hrel
                by_cases hkl : k < F.length
                · obtain ⟨x, hx⟩ : ∃ x, F[k]? = some x := ⟨_, List.getElem?_eq_getElem hkl⟩
                  have hbw : Below w5.heap.size w5 wr := hbo.trans ((hbm.trans (hb3.mono hbm.size)).mono hbo.size)
                  obtain ⟨g3, cap3, p, he, q1, q2, hp⟩ := (HO2.out.below hbw).at hx
                  simp only [Value.slice.injEq, Option.some.injEq, Addr.mk.injEq, and_true, true_and] at he
                  obtain ⟨rfl, rfl⟩ := he
                  have hIT := hp.is
                  have hx5 : x.1.length ≤ 5 := by
                    rw [(truth_st HV.out (r := anyRule) (ls := c.loans) (W := c.wrong) (t := x.1) (bs := x.2) (HFM.out x (List.mem_of_getElem? hx))).len]; exact hnh
                  have hC := cntU_succ (p := fun x => decide (lies x.1 (s : Int) = (j : Int) - 1)) hx
                  have HC : Hid (cntL F s ((j : Int) - 1) (k + 1) = cntL F s ((j : Int) - 1) k + if decide (lies x.1 (s : Int) = (j : Int) - 1) = true then 1 else 0) := hC
                  clear hx hp hC
                  by_cases hli : lies x.1 (s : Int) = (j : Int) - 1
                  · have hlb2 : (lies x.1 (s : Int) == (j : Int) - 1) = true := by simp [hli]
                    have HLI := Lib.hid hli
                    clear hli
                    go_wp2_with fail
                    refine (rlies_any hIT hx5 (s : Int)).mono ?_
                    rintro e w6 ⟨rfl, hb6⟩
                    go_wp2_with fail
                    go_roundw
                    case rel => exact ⟨k + 1, nn + 1, by omega, by go_num, by go_num, by omega, by rw [Hid, HC.out, HNN.out, decide_eq_true HLI.out]; simp, hb3.trans (hb6.mono hb3.size)⟩
                    case measure => simp [intOf]; omega
                  · have hlb2 : (lies x.1 (s : Int) == (j : Int) - 1) = false := by simpa using hli
                    have HLI := Lib.hid hli
                    clear hli
                    go_wp2_with fail
                    refine (rlies_any hIT hx5 (s : Int)).mono ?_
                    rintro e w6 ⟨rfl, hb6⟩
                    go_wp2_with fail
                    go_roundw
                    case rel => exact ⟨k + 1, nn, by omega, by go_num, by go_num, by omega, by rw [Hid, HC.out, HNN.out, decide_eq_false HLI.out]; simp, hb3.trans (hb6.mono hb3.size)⟩
                    case measure => simp [intOf]; omega
                · obtain rfl : k = F.length := by omega
                  by_cases hzn : zz < nn
                  · go_wp2_with fail
                    go_roundw
                    case rel =>
                      refine ⟨j + 1, nn, by omega, ?_, ?_, by omega, by rw [Hid, HR.out, ← HZ.out, ← HNN.out]; omega, hbm.trans (hb3.mono hbm.size)⟩
                      · first | go_num | (congr 1; omega)
                      · first | rfl | (simp [hzn])
                    case measure => simp [intOf]; omega
                  · go_wp2_with fail
                    go_roundw
                    case rel =>
                      refine ⟨j + 1, zz, by omega, ?_, ?_, by omega, by rw [Hid, HR.out, ← HZ.out, ← HNN.out]; omega, hbm.trans (hb3.mono hbm.size)⟩
                      · first | go_num | (congr 1; omega)
                      · first | rfl | (simp [hzn])
                    case measure => simp [intOf]; omega
            · obtain rfl : j = c.homes.length + 1 := by omega
              have HBR := Lib.hid (@best_round F (c.homes.length + 1) c.slots.toNat s bb left (by have := HLT.out; omega))
              have hbw : Below w5.heap.size w5 wm := hbo.trans (hbm.mono hbo.size)
              have c0 := cell_stays hbm c0
              by_cases hzl : zz < left
              · go_wp2_with fail
                go_roundw
                case rel => exact ⟨s + 1, s, zz, by have := HLT.out; omega, by go_num, rfl, rfl, by omega, by rw [Hid, HBS.out, HBR.out, ← HZ.out, if_pos hzl], hbw⟩
                case measure => have := HLT.out; simp [intOf]; omega
              · go_wp2_with fail
                go_roundw
                case rel => exact ⟨s + 1, bb, left, by have := HLT.out; omega, by go_num, rfl, rfl, by omega, by rw [Hid, HBS.out, HBR.out, ← HZ.out, if_neg hzl], hbw⟩
                case measure => have := HLT.out; simp [intOf]; omega
        · clear c1 c2 c3
          go_wp2_with fail
          go_ret3
          refine ⟨?_, bst HB1.out (bst HB4.out (bst HB5.out hbo))⟩
          have e0 : c.slots.toNat - s = 0 := by omega
          have := HBS.out
          rw [e0] at this
          rw [HE.out, this]
          rfl
  · have hq : (openE c true == 0) = false := by simpa using h0
    have hq' : (openE c true != 0) = true := by simpa using h0
    have hE : Hid (nextE c = (0, 0, openE c true)) := by
      unfold Hid nextE
      simp only [h0, if_false]
    clear h0
    go_enter Try.func30, Try.ntmps30
    go_wp2_with fail
    refine (ropen_any HG1.out HBK.out true).mono ?_
    rintro e w4 ⟨v, rfl, hO, hb4⟩
    obtain ⟨c0, c1, c2, c3⟩ := cellsN ((hb4.block _ (by simp)).trans hA.out)
    have HO := Lib.hid hO
    clear hO
    go_wp2_with fail
    go_ret3
    exact ⟨by rw [hE.out]; rfl, bst HB1.out hb4⟩
end Go.Proofs.Ytlhobddaojdnoaa

