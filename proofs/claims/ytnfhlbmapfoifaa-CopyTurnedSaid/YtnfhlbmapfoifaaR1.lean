/- The reference's small functions. The reference's check; the laws' great. The reference's small loops over ways. -/
import Derived.Test.YtnfhlbmapfoifaaW1
import Derived.Test.YtnfhlbmapfoifaaW5
namespace Go.Proofs.Ytnfhlbmapfoifaa
open Go.RowKit
set_option linter.unusedVariables false

theorem rin_any (n lo hi : Int) (w : World) : Calls Try.prog 75 #[.int .i64 n, .int .i64 lo, .int .i64 hi] w fun e w' => e = .returned (.bool (inR n lo hi)) ∧ w = w' := by
  go_enter Try.func75, Try.ntmps75
  unfold inR
  by_cases h1 : lo ≤ n <;> by_cases h2 : n ≤ hi
  all_goals
    go_wp2
    go_ret
    refine ⟨ret_bool ?_, rfl⟩
    first | (simp_all; done) | (simp_all; omega)
set_option maxHeartbeats 400000 in
theorem rspan_any (lo hi : Int) (w : World) : Calls Try.prog 74 #[.agg #[.int .i64 lo, .int .i64 hi]] w fun e w' => e = .returned (.bool (spanOk lo hi)) ∧ Below w.heap.size w w' := by
  have hb : Below w.heap.size w (w.alloc (.cells #[.int .i64 lo, .int .i64 hi] 24)) := (Below.refl _ w).alloc (Nat.le_refl _) _
  have HB := Lib.hid hb
  clear hb
  unfold spanOk
  go_enter Try.func74, Try.ntmps74
  by_cases h1 : 0 ≤ lo <;> by_cases h2 : lo ≤ hi
  all_goals
    go_wp2
    go_ret
    refine ⟨ret_bool ?_, HB.out⟩
    first | (simp_all; done) | (simp_all; omega)
theorem pow_step (k : Nat) : (2 : Int) * 2 ^ k = 2 ^ (k + 1) := by rw [Int.pow_succ]; omega
theorem pow_bnd {k : Nat} (h : k ≤ 10) : (1 : Int) ≤ 2 ^ k ∧ (2 : Int) ^ k ≤ 1024 := by
  have : ∀ j : Fin 11, (1 : Int) ≤ 2 ^ j.val ∧ (2 : Int) ^ j.val ≤ 1024 := by decide
  exact this ⟨k, by omega⟩
theorem power_any (n : Nat) (hn : n ≤ 10) (w : World) : Calls Try.prog 76 #[.int .i64 n] w fun e w' => e = .returned (.int .i64 (2 ^ n)) ∧ w = w' := by
  go_enter Try.func76, Try.ntmps76
  go_wp2
  go_loop [3, 4] (fun p i => ∃ (k : Nat) (x : Int), k ≤ n ∧ i = .int .i64 k ∧ p = .int .i64 x ∧ 1 ≤ x ∧ x ≤ 1024 ∧ Hid (x = 2 ^ k)) (fun p i => n - (intOf i).toNat)
  case atStart => exact ⟨0, 1, by omega, rfl, rfl, by decide, by decide, by rw [Hid]; rfl⟩
  case round =>
    obtain ⟨k, x, hk, rfl, rfl, h1, h2, HX⟩ := hrel
    by_cases hlt : k < n
    · go_wp2
      go_round
      case rel =>
        have hb := pow_bnd (k := k + 1) (by omega)
        have hx := HX.out
        have hp := pow_step k
        rw [← hx] at hp
        exact ⟨k + 1, 2 * x, by omega, by go_num, by go_num, by omega, by omega, by rw [Hid]; exact hp⟩
      case measure => simp [intOf]; omega
    · go_wp2
      go_ret
      obtain rfl : k = n := by omega
      exact ⟨ret_int HX.out, rfl⟩
theorem bit_quo (n d : Nat) (hn : n < 2048) : ((wrap64 ((n : Int) / 2 ^ d)).tmod 2 == 1) = n.testBit d := by
  have h1 : ((2 : Int) ^ d) = ((2 ^ d : Nat) : Int) := by simp
  have h2 : ((n : Int) / ((2 ^ d : Nat) : Int)) = ((n / 2 ^ d : Nat) : Int) := by simp
  have h3 : n / 2 ^ d ≤ n := Nat.div_le_self _ _
  rw [h1, h2, Nat.testBit_eq_decide_div_mod_eq]
  revert h3
  generalize n / 2 ^ d = q
  intro h3
  rw [IntWalk.wrap64_in _ (by omega), show (((q : Nat) : Int).tmod 2) = ((q % 2 : Nat) : Int) from rfl]
  rw [Bool.eq_iff_iff, beq_iff_eq, decide_eq_true_eq]
  omega
theorem rhas_any (n d : Nat) (hn : n < 2048) (hd : d ≤ 10) (w : World) : Calls Try.prog 83 #[.int .i64 n, .int .i64 d] w fun e w' => e = .returned (.bool (n.testBit d)) ∧ w = w' := by
  have HB := Lib.hid (bit_quo n d hn)
  have hp := pow_bnd hd
  go_enter Try.func83, Try.ntmps83
  go_wp2_with fail
  refine (power_any d hd w).mono ?_
  rintro e w' ⟨rfl, rfl⟩
  revert HB hp
  generalize (2 : Int) ^ d = x
  intro HB hp
  go_wp2_with fail
  go_ret
  exact ⟨ret_bool HB.out, rfl⟩
theorem rcard_any {p : Prs} {a : Option Addr} {cap : Nat} {w : World} (hn : p.cards.length ≤ 16) (n : Int) :
    Calls Try.prog 58 #[p.v a cap, .int .i64 n] w fun e w' => e = .returned (.bool (p.card n)) ∧ Below w.heap.size w w' := by
  go_enter Try.func58, Try.ntmps58
  go_wp2_with (go_at_call 75; refine (rin_any _ _ _ _).mono ?_; rintro e w' ⟨rfl, rfl⟩)
  go_ret
  exact ⟨rfl, (Below.refl _ w).alloc (Nat.le_refl _) _⟩
theorem ten_power (w : World) : Calls Try.prog 76 #[.int .i64 10] w fun e w' => e = .returned (.int .i64 1024) ∧ w = w' := power_any 10 (by decide) w
theorem ok_step {l : List Prt} {k : Nat} (hk : k < l.length) : (l.drop k).all Prt.ok = ((gp l k).ok && (l.drop (k + 1)).all Prt.ok) := by
  rw [List.drop_eq_getElem_cons hk]
  have : gp l k = l[k] := by simp [gp, hk]
  rw [this]
  rfl
set_option maxRecDepth 100000 in
set_option maxHeartbeats 4000000 in
theorem prints_any {p : Prs} {a : Option Addr} {cap : Nat} {w : World} (ha : IsPrts w a p.cards) (hn : p.cards.length ≤ 16) :
    Calls Try.prog 24 #[p.v a cap] w fun e w' => e = .returned (.bool p.valid) ∧ Below w.heap.size w w' := by
  have HV : Hid (p.valid = (decide (p.cards.length ≤ 5) && p.cards.all Prt.ok && spanOk p.llo p.lhi && spanOk p.olo p.ohi)) := rfl
  have hb0 : Below w.heap.size w (w.alloc (.cells (p.cells a cap) 26)) := (Below.refl _ w).alloc (Nat.le_refl _) _
  have q0 := World.alloc_heap_new w (.cells (p.cells a cap) 26)
  have s0 : (w.alloc (.cells (p.cells a cap) 26)).heap.size = w.heap.size + 1 := World.size_alloc ..
  go_enter Try.func24, Try.ntmps24
  go_wp2_with fail
  revert hb0 q0 s0
  generalize w.alloc (.cells (p.cells a cap) 26) = w0
  intro hb0 q0 s0
  have HQ := Lib.hid (And.intro hb0 (And.intro q0 s0))
  have HA := Lib.hid (ha.mono hb0)
  clear hb0 q0 s0 ha
  go_loopw [3, 4] (fun i _ wr => ∃ k : Nat, k ≤ p.cards.length ∧ i = .int .i64 k ∧ Hid (p.cards.all Prt.ok = (p.cards.drop k).all Prt.ok) ∧ Below w0.heap.size w0 wr) (fun i _ _ => p.cards.length - (intOf i).toNat)
  case atStart => exact ⟨0, by omega, rfl, rfl, Below.refl _ _⟩
  case round =>
    obtain ⟨k, hkn, rfl, HL, hbr⟩ := hrel
    by_cases hlt : k < p.cards.length
    · obtain ⟨b, off, rfl, l0, l1, l2, l3, l4⟩ := (HA.out.mono hbr) k hlt
      have q1 := (hbr.block _ (heap_lt HQ.out.2.1)).trans HQ.out.2.1
      have k0 : wr.cell? ⟨w.heap.size, 0, none⟩ = some (.slice (some ⟨b, off, none⟩) p.cards.length cap) := by rw [cell_of_heap q1]; rfl
      clear q1
      have HS := Lib.hid (ok_step hlt)
      obtain ⟨c, hc⟩ : ∃ c, gp p.cards k = c := ⟨_, rfl⟩
      rw [hc] at l0 l1 l2 l3 l4 HS
      clear hc
      go_wp2_with fail
      have hb1 : Below wr.heap.size wr (wr.alloc (.cells c.arr 54)) := (Below.refl _ wr).alloc (Nat.le_refl _) _
      have q2 := World.alloc_heap_new wr (.cells c.arr 54)
      have s2 : (wr.alloc (.cells c.arr 54)).heap.size = wr.heap.size + 1 := World.size_alloc ..
      revert hb1 q2 s2
      generalize wr.alloc (.cells c.arr 54) = w1
      intro hb1 q2 s2
      have HB := Lib.hid (hbr.trans (hb1.mono hbr.size))
      obtain ⟨m0, m1, m2, m3, m4⟩ := prt_cells q2
      have y0 := fun y : Aft w1.heap.size w1 => cell_stays y.h m0
      have y1 := fun y : Aft w1.heap.size w1 => cell_stays y.h m1
      have y2 := fun y : Aft w1.heap.size w1 => cell_stays y.h m2
      have y3 := fun y : Aft w1.heap.size w1 => cell_stays y.h m3
      have y4 := fun y : Aft w1.heap.size w1 => cell_stays y.h m4
      clear hb1 q2 s2 m0 m1 m2 m3 m4 l0 l1 l2 l3 l4 k0
      have C1 := Lib.hid (fun (lo hi : Int) (z : Aft w1.heap.size w1) => rspan_any lo hi z.v)
      have C3 := Lib.hid (fun z : Aft w1.heap.size w1 => ten_power z.v)
      have C4 := Lib.hid (fun z : Aft w1.heap.size w1 => rin_any c.marks 0 1023 z.v)
      have hok : c.ok = (spanOk c.slo c.shi && spanOk c.wlo c.whi && inR c.marks 0 1023) := rfl
      cases h1 : spanOk c.slo c.shi <;> cases h2 : spanOk c.wlo c.whi <;> cases h3 : inR c.marks 0 1023
      all_goals
        rw [h1, h2, h3] at hok
        have HO := Lib.hid hok
        clear hok
        refine wp_region_aft mixed (by kernel_rfl) ?_
        repeat (go_big_quiet_step (first | (go_at_call 74; exact calls_aft (C1.out _ _ _)) | (go_at_call 76; exact calls_aft_same (C3.out _)) | (go_at_call 75; exact calls_aft_same (C4.out _))))
        refine wpQuiet_nil ?_
        rintro _ ⟨z, rfl⟩
        go_wp2_with fail
        first
          | (go_ret
             refine ⟨ret_bool ?_, HQ.out.1.trans ((HB.out.trans (z.h.mono HB.out.size)).mono HQ.out.1.size)⟩
             rw [HV.out, HL.out, HS.out, HO.out]
             simp
             done)
          | (go_roundw
             case rel => exact ⟨k + 1, by omega, by go_num, by rw [Hid, HL.out, HS.out, HO.out]; simp, HB.out.trans (z.h.mono HB.out.size)⟩
             case measure => simp [intOf]; omega)
    · have q1 := (hbr.block _ (heap_lt HQ.out.2.1)).trans HQ.out.2.1
      have k0 : wr.cell? ⟨w.heap.size, 0, none⟩ = some (.slice a p.cards.length cap) := by rw [cell_of_heap q1]; rfl
      have k1 : wr.cell? ⟨w.heap.size, 1, none⟩ = some (.int .i64 p.llo) := by rw [cell_of_heap q1]; rfl
      have k2 : wr.cell? ⟨w.heap.size, 2, none⟩ = some (.int .i64 p.lhi) := by rw [cell_of_heap q1]; rfl
      have k3 : wr.cell? ⟨w.heap.size, 3, none⟩ = some (.int .i64 p.olo) := by rw [cell_of_heap q1]; rfl
      have k4 : wr.cell? ⟨w.heap.size, 4, none⟩ = some (.int .i64 p.ohi) := by rw [cell_of_heap q1]; rfl
      clear q1
      have HB := Lib.hid hbr
      have HE : Hid (p.cards.all Prt.ok = true) := by
        rw [Hid, HL.out, List.drop_of_length_le (by omega)]
        rfl
      by_cases h5 : p.cards.length ≤ 5
      · have HO := Lib.hid h5
        cases h1 : spanOk p.llo p.lhi <;> cases h2 : spanOk p.olo p.ohi
        all_goals
          go_wp2_with fail
          refine (rspan_any _ _ _).mono ?_
          rintro e w1 ⟨rfl, hb1⟩
          rw [h1]
          have x3 := cell_stays hb1 k3
          have x4 := cell_stays hb1 k4
          have HB1 := Lib.hid (HB.out.trans (hb1.mono HB.out.size))
          go_wp2_with fail
          first
          | (refine (rspan_any _ _ _).mono ?_
             rintro e w2 ⟨rfl, hb2⟩
             rw [h2]
             have HB2 := Lib.hid (HB1.out.trans (hb2.mono HB1.out.size))
             go_wp2_with fail
             go_ret
             refine ⟨ret_bool ?_, HQ.out.1.trans (HB2.out.mono HQ.out.1.size)⟩
             rw [HV.out, HE.out, h1, h2, decide_eq_true HO.out]
             rfl)
          | (go_ret
             refine ⟨ret_bool ?_, HQ.out.1.trans (HB1.out.mono HQ.out.1.size)⟩
             rw [HV.out, HE.out, h1, h2, decide_eq_true HO.out]
             rfl)
          | (refine ⟨fun _ _ => trivial, ?_⟩
             go_wp2_with fail
             go_ret
             refine ⟨ret_bool ?_, HQ.out.1.trans (HB1.out.mono HQ.out.1.size)⟩
             rw [HV.out, HE.out, h1, h2, decide_eq_true HO.out]
             rfl)
      · have HO := Lib.hid h5
        go_wp2_with fail
        go_ret
        refine ⟨ret_bool ?_, HQ.out.1.trans (HB.out.mono HQ.out.1.size)⟩
        rw [HV.out, decide_eq_false HO.out]
        rfl
end Go.Proofs.Ytnfhlbmapfoifaa

namespace Go.Proofs.Ytnfhlbmapfoifaa
open Go.RowKit
set_option linter.unusedVariables false

theorem rcheck_any {p : Prs} {a : Option Addr} {cap : Nat} {w : World} (ha : IsPrts w a p.cards) (hn : p.cards.length ≤ 16) (ok : Bool) :
    Calls Try.prog 57 #[p.v a cap, .bool ok] w fun e w' => e = .returned (.int .i64 (openE p ok)) ∧ Below w.heap.size w w' := by
  have hb0 : Below w.heap.size w (w.alloc (.cells (p.cells a cap) 26)) := (Below.refl _ w).alloc (Nat.le_refl _) _
  have HB := Lib.hid hb0
  have HA := Lib.hid (ha.mono hb0)
  clear ha hb0
  cases hv : p.valid <;> cases ok
  all_goals
    go_enter Try.func57, Try.ntmps57
    go_wp2_with fail
    refine (prints_any HA.out hn).mono ?_
    rintro e w1 ⟨rfl, hb⟩
    rw [hv]
    go_wp2_with fail
    go_ret
    exact ⟨ret_int (by simp [openE, hv]), HB.out.trans (hb.mono HB.out.size)⟩
theorem great_any {p : Prs} {a : Option Addr} {cap : Nat} {w : World} (ha : IsPrts w a p.cards) (m : Nat) (hm : m ≤ 5) :
    Calls Try.prog 13 #[p.v a cap, .int .i64 m] w fun e w' => e = .returned (.bool (decide (16 < p.cards.length) || (decide (m < p.cards.length) && p.valid))) ∧ Below w.heap.size w w' := by
  have hb0 : Below w.heap.size w (w.alloc (.cells (p.cells a cap) 26)) := (Below.refl _ w).alloc (Nat.le_refl _) _
  have HB := Lib.hid hb0
  have HA := Lib.hid (ha.mono hb0)
  clear ha hb0
  by_cases h1 : 16 < p.cards.length
  · go_enter Try.func13, Try.ntmps13
    go_wp2_with fail
    go_ret
    exact ⟨ret_bool (by simp), HB.out⟩
  · by_cases h2 : m < p.cards.length
    · go_enter Try.func13, Try.ntmps13
      go_wp2_with fail
      refine (prints_any HA.out (by omega)).mono ?_
      rintro e w1 ⟨rfl, hb⟩
      go_wp2_with fail
      go_ret
      exact ⟨ret_bool (by cases p.valid <;> simp [h2] <;> omega), HB.out.trans (hb.mono HB.out.size)⟩
    · go_enter Try.func13, Try.ntmps13
      go_wp2_with fail
      go_ret
      exact ⟨ret_bool (by simp [h2]; omega), HB.out⟩
end Go.Proofs.Ytnfhlbmapfoifaa

namespace Go.Proofs.Ytnfhlbmapfoifaa
open Go.RowKit
set_option linter.unusedVariables false

theorem orig_step {l : List Int} {k : Nat} (hk : k < l.length) : origN (l.take (k + 1)) = origN (l.take k) + (if gi l k = -1 then 1 else 0) := by
  have h : gi l k = l[k] := by simp [gi, hk]
  rw [List.take_succ_eq_append_getElem hk, h]
  unfold origN
  rw [List.countP_append]
  by_cases h1 : l[k] = -1 <;> simp [h1]
theorem orig_le (l : List Int) : origN l ≤ l.length := List.countP_le_length
theorem originals_ref {l : List Int} {a : Option Addr} {cap : Nat} {w : World} (ha : IsInts w a l) (hn : l.length ≤ 16) :
    Calls Try.prog 43 #[.slice a l.length cap] w fun e w' => e = .returned (.int .i64 (origN l)) ∧ w = w' := by
  go_enter Try.func43, Try.ntmps43
  go_wp2
  go_loop [3, 4] (fun x i => ∃ k c : Nat, k ≤ l.length ∧ i = .int .i64 k ∧ x = .int .i64 c ∧ c ≤ k ∧ Hid (c = origN (l.take k))) (fun x i => l.length - (intOf i).toNat)
  case atStart => exact ⟨0, 0, by omega, rfl, rfl, by omega, by simp [Hid, origN]⟩
  case round =>
    obtain ⟨k, c, hk, rfl, rfl, hc, HC⟩ := hrel
    by_cases hlt : k < l.length
    · obtain ⟨b, off, rfl, l0⟩ := ha k hlt
      have HS := Lib.hid (orig_step hlt)
      by_cases h1 : gi l k = -1
      · rw [h1] at l0
        have HS2 : Hid (c + 1 = origN (l.take (k + 1))) := by rw [Hid, HS.out, if_pos h1, ← HC.out]
        clear HS h1
        go_wp2
        go_round
        case rel => exact ⟨k + 1, c + 1, by omega, by go_num, by go_num, by omega, HS2⟩
        case measure => simp [intOf]; omega
      · have HS2 : Hid (c = origN (l.take (k + 1))) := by rw [Hid, HS.out, if_neg h1, ← HC.out]; rfl
        clear HS
        go_wp2
        go_round
        case rel => exact ⟨k + 1, c, by omega, by go_num, rfl, by omega, HS2⟩
        case measure => simp [intOf]; omega
    · go_wp2
      go_ret
      refine ⟨ret_int ?_, rfl⟩
      rw [HC.out, List.take_of_length_le (by omega)]
set_option maxHeartbeats 1000000 in
theorem comes_ref {n : Nat} {wl : List Int} (hw : GoodW n wl) (hn : n ≤ 5) (hr : roundB wl = false) {card frm : Nat} (hc : card < n) (hf : frm < n) {a : Option Addr} {cap : Nat} {w : World} (ha : IsInts w a wl) :
    Calls Try.prog 61 #[.slice a wl.length cap, .int .i64 card, .int .i64 frm] w fun e w' => e = .returned (.bool (comesB wl card frm)) ∧ w = w' := by
  have HL := Lib.hid hw.1
  have HR := Lib.hid (roundB_false.1 hr card (by rw [hw.1]; exact hc))
  have hl5 : wl.length ≤ 5 := by rw [hw.1]; exact hn
  have hcl : card < wl.length := by rw [hw.1]; exact hc
  obtain ⟨b, off, rfl, hc0⟩ := ha card hcl
  clear hr
  go_enter Try.func61, Try.ntmps61
  go_wp2
  clear hc0
  go_loopg [7] (wl.length + 1) (fun f q wr => ∃ (u : Int) (m : Nat), q = .int .i64 u ∧ Hid (u = upW wl m (card : Int)) ∧ f + m = wl.length + 2 ∧ Hid (comesB wl card frm = comesF wl frm f u) ∧ -1 ≤ u ∧ u < n ∧ w = wr)
  case atStart => exact ⟨gi wl card, 1, rfl, by simp [Hid, upW], rfl, rfl, (hw.gi hc).1, (hw.gi hc).2, rfl⟩
  case round =>
    obtain ⟨u, m, rfl, HU, hfm, HC, hu0, hu1, rfl⟩ := hrel
    by_cases h1 : u = -1
    · subst h1
      have HE := Lib.hid (comesF_none wl frm gk)
      go_wp2
      go_ret
      exact ⟨ret_bool (by rw [HC.out, HE.out]), rfl⟩
    · obtain ⟨f, rfl⟩ : ∃ f, gk = f + 1 := ⟨gk - 1, by
        have : gk ≠ 0 := fun e => h1 (by
          have := upW_stays HR.out 2
          rw [HU.out, show m = wl.length + 2 by omega]; exact this)
        omega⟩
      obtain ⟨un, rfl⟩ := Int.eq_ofNat_of_zero_le (show 0 ≤ u by omega)
      have hun : un < wl.length := by have := HL.out; omega
      have hb : ((un : Int) != -1) = true := by simp
      have HN := Lib.hid h1
      by_cases h2 : un = frm
      · subst h2
        have HH := Lib.hid (comesF_hit wl (frm := (un : Int)) f (by omega))
        clear h1 hfm
        go_wp2
        go_ret
        exact ⟨ret_bool (by rw [HC.out, HH.out]), rfl⟩
      · have hb2 : ((un : Int) == (frm : Int)) = false := by simp; omega
        have HH := Lib.hid (comesF_on wl (frm := (frm : Int)) f h1 (by omega))
        obtain ⟨b', off', he, hc1⟩ := ha un hun
        obtain ⟨rfl, rfl⟩ : b = b' ∧ off = off' := by simpa using he
        have hgi := hw.gi (k := un) (by omega)
        have HS : Hid (upW wl (m + 1) (card : Int) = gi wl un) := by rw [Hid, upW_snoc, ← HU.out, if_neg HN.out]; rfl
        have HF := Lib.hid hfm
        clear h1 he hfm
        go_wp2
        go_roundg f
        case rel => exact ⟨gi wl un, m + 1, rfl, HS.out.symm, by have := HF.out; omega, by rw [Hid, HC.out, HH.out]; rfl, hgi.1, hgi.2, rfl⟩
        case measure => omega
theorem marks_valid {p : Prs} (hv : p.valid = true) {k : Nat} (hk : k < p.cards.length) : 0 ≤ (gp p.cards k).marks ∧ (gp p.cards k).marks ≤ 1023 := by
  unfold Prs.valid at hv
  simp only [Bool.and_eq_true] at hv
  have h := List.all_eq_true.1 hv.1.1.2 (gp p.cards k) (by
    have : gp p.cards k = p.cards[k] := by simp [gp, hk]
    rw [this]; exact List.getElem_mem hk)
  unfold Prt.ok inR at h
  simp only [Bool.and_eq_true, decide_eq_true_eq] at h
  exact h.2
theorem all_false {k n : Nat} {f : Nat → Bool} (hk : k < n) (h : f k = false) : (List.range n).all f = false := List.all_eq_false.2 ⟨k, List.mem_range.2 hk, by simp [h]⟩
theorem all_true {n : Nat} {f : Nat → Bool} (h : ∀ j, j < n → f j = true) : (List.range n).all f = true := List.all_eq_true.2 fun j hj => h j (List.mem_range.1 hj)
set_option maxRecDepth 100000 in
set_option maxHeartbeats 1000000 in
theorem marked_ref {p : Prs} {a : Option Addr} {cap : Nat} {w : World} (ha : IsPrts w a p.cards) (hv : p.valid = true) {card frm : Nat} (hn : p.cards.length ≤ 5) (hc : card < p.cards.length) (hf : frm < p.cards.length) :
    Calls Try.prog 88 #[p.v a cap, .int .i64 card, .int .i64 frm] w fun e w' => e = .returned (.bool (markedB p card frm)) ∧ Below w.heap.size w w' := by
  have hb0 : Below w.heap.size w (w.alloc (.cells (p.cells a cap) 26)) := (Below.refl _ w).alloc (Nat.le_refl _) _
  have q0 := World.alloc_heap_new w (.cells (p.cells a cap) 26)
  have HA := ha.mono hb0
  obtain ⟨b1, o1, rfl, _, _, _, _, m1⟩ := HA frm hf
  obtain ⟨b2, o2, h2, _, _, _, _, m2⟩ := HA card hc
  obtain ⟨rfl, rfl⟩ : b1 = b2 ∧ o1 = o2 := by simpa using h2
  have k0 : (w.alloc (.cells (p.cells (some ⟨b1, o1, none⟩) cap) 26)).cell? ⟨w.heap.size, 0, none⟩ = some (.slice (some ⟨b1, o1, none⟩) p.cards.length cap) := by rw [cell_of_heap q0]; rfl
  obtain ⟨f0, f1⟩ := marks_valid hv hf
  obtain ⟨c0, c1⟩ := marks_valid hv hc
  have HM : Hid (markedB p card frm = (List.range 10).all fun d => !(gp p.cards frm).marks.toNat.testBit d || (gp p.cards card).marks.toNat.testBit d) := rfl
  obtain ⟨x, hx⟩ := Int.eq_ofNat_of_zero_le f0
  obtain ⟨y, hy⟩ := Int.eq_ofNat_of_zero_le c0
  rw [hx] at HM m1 f1
  rw [hy] at HM m2 c1
  have hx' : x < 2048 := by omega
  have hy' : y < 2048 := by omega
  clear ha HA h2 q0 f0 f1 c0 c1 hx hy hv
  have HB := Lib.hid hb0
  have HH := Lib.hid rhas_any
  clear hb0
  go_enter Try.func88, Try.ntmps88
  go_wp2_with fail
  revert k0 m1 m2 HB
  generalize w.alloc (.cells (p.cells (some ⟨b1, o1, none⟩) cap) 26) = w0
  intro k0 m1 m2 HB
  go_loop [7] (fun i => ∃ d : Nat, d ≤ 10 ∧ i = .int .i64 d ∧ Hid (∀ j, j < d → (!x.testBit j || y.testBit j) = true)) (fun i => 10 - (intOf i).toNat)
  case atStart => exact ⟨0, by omega, rfl, fun j hj => by omega⟩
  case round =>
    obtain ⟨d, hd, rfl, HK⟩ := hrel
    by_cases hlt : d < 10
    · have HS : Hid ((!x.testBit d || y.testBit d) = true → ∀ j, j < d + 1 → (!x.testBit j || y.testBit j) = true) := fun h j hj => by
        by_cases e : j = d
        · subst e; exact h
        · exact HK.out j (by omega)
      cases h1 : x.testBit d
      · go_wp2_with fail
        refine (HH.out x d hx' (by omega) _).mono ?_
        rintro e w' ⟨rfl, rfl⟩
        rw [h1]
        go_wp2_with fail
        go_round
        case rel => exact ⟨d + 1, by omega, by go_num, HS.out (by simp [h1])⟩
        case measure => simp [intOf]; omega
      · cases h2 : y.testBit d
        · go_wp2_with fail
          refine (HH.out x d hx' (by omega) _).mono ?_
          rintro e w' ⟨rfl, rfl⟩
          rw [h1]
          go_wp2_with fail
          refine (HH.out y d hy' (by omega) _).mono ?_
          rintro e w' ⟨rfl, rfl⟩
          rw [h2]
          go_wp2_with fail
          go_ret
          refine ⟨ret_bool ?_, HB.out⟩
          rw [HM.out]
          exact (all_false hlt (by simp [h1, h2])).symm
        · go_wp2_with fail
          refine (HH.out x d hx' (by omega) _).mono ?_
          rintro e w' ⟨rfl, rfl⟩
          rw [h1]
          go_wp2_with fail
          refine (HH.out y d hy' (by omega) _).mono ?_
          rintro e w' ⟨rfl, rfl⟩
          rw [h2]
          go_wp2_with fail
          go_round
          case rel => exact ⟨d + 1, by omega, by go_num, HS.out (by simp [h2])⟩
          case measure => simp [intOf]; omega
    · go_wp2
      go_ret
      refine ⟨ret_bool ?_, HB.out⟩
      obtain rfl : d = 10 := by omega
      rw [HM.out]
      exact (all_true HK.out).symm
end Go.Proofs.Ytnfhlbmapfoifaa

